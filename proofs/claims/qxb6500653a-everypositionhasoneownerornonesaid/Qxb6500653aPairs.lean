/-
  ReachCoversTheText: the drawings of a line two by two.
-/
import Derived.Test.Qxb6500653aApart
namespace Go.Proofs.Qxb6500653a
open Go.RowKit

/-- e comes before d: another cell's, and it covers a head of d's stretch, or none of it -/
def Dr.R (e d : Dr) : Prop := e.heads d ∧ ¬ (e.r = d.r ∧ e.c = d.c)
theorem homeI_two (A : Ax) (f t : Nat) : homeI A f t < 2 := by
  unfold homeI
  split <;> omega
theorem mem_mergeD' {S : Sh} {V : Vw} {y : Nat} {a : Ar} {d : Dr} (h : d ∈ mergeD S V y 0 80 a) : d = mergD S V a (homeI (colAx S V 0 0 0) a.l a.r) := by
  unfold mergeD at h
  split at h
  · simp only [List.mem_singleton] at h
    subst h
    rfl
  · cases h
theorem mem_colD {S : Sh} {V : Vw} {i row : Nat} {d : Dr} {k : Nat} (h : d ∈ rowDs S V i row 0 80 k) : ∃ j, j < k ∧ passB S row ((colAx S V 0 0 0).bFi i + j) = false ∧ mergeAt S.mg row ((colAx S V 0 0 0).bFi i + j) = none ∧ d = colD S V i row ((colAx S V 0 0 0).bFi i + j) := by
  obtain ⟨j, h1, h2, h3, h4⟩ := mem_rowDs h
  exact ⟨j, h1, h2, h3, h4⟩
theorem band_cols {S : Sh} {V : Vw} {i j : Nat} (hi : i < 2) (h : j < (colAx S V 0 0 0).bEn i - (colAx S V 0 0 0).bFi i) : (i = 0 ∧ (colAx S V 0 0 0).bFi i + j < V.fc) ∨ (i = 1 ∧ V.fc ≤ (colAx S V 0 0 0).bFi i + j) := by
  rcases (show i = 0 ∨ i = 1 by omega) with rfl | rfl
  · have e1 : (colAx S V 0 0 0).bEn 0 = V.fc := rfl
    have e2 : (colAx S V 0 0 0).bFi 0 = 0 := rfl
    rw [e1, e2] at h
    rw [e2]
    omega
  · have e2 : (colAx S V 0 0 0).bFi 1 = V.fc := rfl
    rw [e2]
    omega
theorem step_pairs {S : Sh} {V : Vw} {i row c : Nat} {x0 x1 : Int} : (stepDs S V i row x0 x1 c).Pairwise Dr.R := by
  unfold stepDs
  split
  · exact List.Pairwise.nil
  · exact List.pairwise_singleton _ _
theorem mem_step {S : Sh} {V : Vw} {i row c : Nat} {d : Dr} (h : d ∈ stepDs S V i row 0 80 c) : d = colD S V i row c := by
  unfold stepDs at h
  split at h
  · cases h
  · simp only [List.mem_singleton] at h
    exact h
theorem row_pairs {S : Sh} {V : Vw} {i row : Nat} (hi : i < 2) : ∀ k, k ≤ (colAx S V 0 0 0).bEn i - (colAx S V 0 0 0).bFi i → (rowDs S V i row 0 80 k).Pairwise Dr.R
  | 0, _ => List.Pairwise.nil
  | k + 1, hk => by
    show (rowDs S V i row 0 80 k ++ stepDs S V i row 0 80 _).Pairwise Dr.R
    refine List.pairwise_append.2 ⟨row_pairs hi k (by omega), step_pairs, fun e he d hd => ?_⟩
    obtain ⟨j, j1, j2, _, rfl⟩ := mem_colD he
    have := mem_step hd
    subst this
    have b1 := band_cols (S := S) (V := V) (j := j) hi (by omega)
    have b2 := band_cols (S := S) (V := V) (j := k) hi (by omega)
    refine ⟨heads_row (by omega) (by omega) j2, fun h => ?_⟩
    have : (colAx S V 0 0 0).bFi i + j = (colAx S V 0 0 0).bFi i + k := h.2
    omega
theorem merge_pairs {S : Sh} {V : Vw} (hS : S.Ok) (hV : V.Ok) {y r : Nat} (hr : lnR S V y = (r : Int)) : ∀ k, (mergeDs S V y 0 80 k).Pairwise Dr.R ∧ ∀ d ∈ mergeDs S V y 0 80 k, ∃ n a, n < k ∧ S.mg[n]? = some a ∧ d ∈ mergeD S V y 0 80 a
  | 0 => ⟨List.Pairwise.nil, fun d h => by cases h⟩
  | k + 1 => by
    obtain ⟨ih1, ih2⟩ := merge_pairs hS hV hr k
    show (mergeDs S V y 0 80 k ++ _).Pairwise Dr.R ∧ ∀ d ∈ mergeDs S V y 0 80 k ++ _, _
    cases hm : S.mg[k]? with
    | none =>
      simp only [List.append_nil]
      refine ⟨ih1, fun d hd => ?_⟩
      obtain ⟨n, a, h1, h2, h3⟩ := ih2 d hd
      exact ⟨n, a, by omega, h2, h3⟩
    | some b =>
      simp only
      have hbm : b ∈ S.mg := List.mem_of_getElem? hm
      refine ⟨List.pairwise_append.2 ⟨ih1, ?_, fun e he d hd => ?_⟩, fun d hd => ?_⟩
      · unfold mergeD
        split
        · exact List.pairwise_singleton _ _
        · exact List.Pairwise.nil
      · obtain ⟨n, a, h1, h2, h3⟩ := ih2 e he
        have ham : a ∈ S.mg := List.mem_of_getElem? h2
        obtain ⟨o1, o2, _, _⟩ := mem_mergeD h3
        obtain ⟨p1, p2, _, _⟩ := mem_mergeD hd
        have ra := merge_row (hS.each a ham) hV hr o1 o2
        have rb := merge_row (hS.each b hbm) hV hr p1 p2
        have hab : ¬ a.meets b := by
          obtain ⟨g1, g2⟩ := List.getElem?_eq_some_iff.1 h2
          obtain ⟨g3, g4⟩ := List.getElem?_eq_some_iff.1 hm
          subst g2 g4
          exact List.pairwise_iff_getElem.1 hS.apart n k g1 g3 h1
        have e1 := mem_mergeD' h3
        have e2 := mem_mergeD' hd
        subst e1 e2
        refine ⟨heads_two hV (hS.each a ham) (hS.each b hbm) ra rb hab (homeI_two _ _ _) (homeI_two _ _ _), fun h => hab ?_⟩
        have k1 : a.t = b.t := h.1
        have k2 : a.l = b.l := h.2
        have a1 := (hS.each a ham).tb
        have a2 := (hS.each a ham).lr
        have b1 := (hS.each b hbm).tb
        have b2 := (hS.each b hbm).lr
        unfold Ar.meets
        omega
      · rcases List.mem_append.1 hd with h | h
        · obtain ⟨n, a, h1, h2, h3⟩ := ih2 d h
          exact ⟨n, a, by omega, h2, h3⟩
        · exact ⟨k, b, by omega, hm, h⟩
/-- the drawings of a line, two by two -/
theorem line_pairs {S : Sh} {V : Vw} (hS : S.Ok) (hV : V.Ok) (y : Nat) : (lineDs S V y).Pairwise Dr.R := by
  unfold lineDs
  split
  · exact List.Pairwise.nil
  · rename_i hln
    obtain ⟨r, hr⟩ : ∃ r : Nat, lnR S V y = (r : Int) := ⟨(lnR S V y).toNat, by omega⟩
    have er : (lnR S V y).toNat = r := by omega
    rw [er]
    refine List.pairwise_append.2 ⟨?_, (merge_pairs hS hV hr _).1, fun e he d hd => ?_⟩
    · split
      · refine List.pairwise_append.2 ⟨row_pairs (by omega) _ (Nat.le_refl _), row_pairs (by omega) _ (Nat.le_refl _), fun e he d hd => ?_⟩
        obtain ⟨j, j1, _, _, rfl⟩ := mem_colD he
        obtain ⟨k, k1, _, _, rfl⟩ := mem_colD hd
        have b1 := band_cols (S := S) (V := V) (i := 0) (j := j) (by omega) j1
        have b2 := band_cols (S := S) (V := V) (i := 1) (j := k) (by omega) k1
        have c1 := colD_hi (S := S) (V := V) (i := 0) (row := r) (c := (colAx S V 0 0 0).bFi 0 + j)
        have c2 := colD_lo (S := S) (V := V) (i := 1) (row := r) (c := (colAx S V 0 0 0).bFi 1 + k)
        have be := b_edge (S := S) (V := V)
        refine ⟨heads_left (by omega), fun h => ?_⟩
        have : (colAx S V 0 0 0).bFi 0 + j = (colAx S V 0 0 0).bFi 1 + k := h.2
        omega
      · exact List.Pairwise.nil
    · have fin : ∀ i, i < 2 → e ∈ rowDs S V i r 0 80 ((colAx S V 0 0 0).bEn i - (colAx S V 0 0 0).bFi i) → e.R d := fun i hi he => by
        obtain ⟨j, j1, _, j3, rfl⟩ := mem_colD he
        obtain ⟨a, ham, had⟩ := mem_mergeDs hd
        obtain ⟨o1, o2, _, _⟩ := mem_mergeD had
        have ra := merge_row (hS.each a ham) hV hr o1 o2
        have e2 := mem_mergeD' had
        subst e2
        refine ⟨heads_merge hS hV ham ra hi (homeI_two _ _ _) (band_cols hi j1) j3, fun h => ?_⟩
        have k1 : r = a.t := h.1
        have k2 : (colAx S V 0 0 0).bFi i + j = a.l := h.2
        rw [k2, k1, mergeAt_self hS ham] at j3
        cases j3
      split at he
      · rcases List.mem_append.1 he with he | he
        · exact fin 0 (by omega) he
        · exact fin 1 (by omega) he
      · cases he
theorem pair_heads {ds : List Dr} (h : ds.Pairwise Dr.R) {d : Dr} : ∀ pre suf, ds = pre ++ d :: suf → ∀ e ∈ pre, e.heads d := fun pre suf e f hf => by
  subst e
  exact ((List.pairwise_append.1 h).2.2 f hf d (List.mem_cons_self ..)).1
theorem pair_one {ds : List Dr} (h : ds.Pairwise Dr.R) {d e : Dr} (hd : d ∈ ds) (he : e ∈ ds) (h1 : d.r = e.r) (h2 : d.c = e.c) : d = e := by
  obtain ⟨i, hi, rfl⟩ := List.getElem_of_mem hd
  obtain ⟨j, hj, rfl⟩ := List.getElem_of_mem he
  rcases Nat.lt_trichotomy i j with k | k | k
  · exact absurd ⟨h1, h2⟩ (List.pairwise_iff_getElem.1 h i j hi hj k).2
  · subst k; rfl
  · exact absurd ⟨h1.symm, h2.symm⟩ (List.pairwise_iff_getElem.1 h j i hj hi k).2

/-- whose text stands at a position -/
theorem of_find {S : Sh} {V : Vw} {y x r c : Nat} : (frameOf S V y x).of r c = true ↔ ∃ d, (lineDs S V y).find? (fun d => d.has x) = some d ∧ d.r = r ∧ d.c = c := by
  have hf := runD_find (lineDs S V y) (L := lineOw S V y) (x := x) (lineOw_clean S V y x)
  rw [frameOf_run, Spot.of_iff]
  cases h : (lineDs S V y).find? (fun d => d.has x) with
  | none =>
    rw [h] at hf
    simp only at hf
    rw [hf, lineOw_clean]
    constructor
    · intro h'; cases h'.1
    · rintro ⟨d, h', _⟩; cases h'
  | some d =>
    rw [h] at hf
    simp only at hf
    constructor
    · rintro ⟨_, h2, h3⟩
      exact ⟨d, rfl, hf.2.1.symm.trans h2, hf.2.2.symm.trans h3⟩
    · rintro ⟨e, h1, h2, h3⟩
      cases h1
      exact ⟨hf.1, hf.2.1.trans h2, hf.2.2.trans h3⟩
/-- unbroken -/
theorem of_convex {S : Sh} {V : Vw} (hS : S.Ok) (hV : V.Ok) {y r c x1 x2 x3 : Nat} (h12 : x1 ≤ x2) (h23 : x2 ≤ x3) (h1 : (frameOf S V y x1).of r c = true) (h3 : (frameOf S V y x3).of r c = true) : (frameOf S V y x2).of r c = true := by
  obtain ⟨d, f1, r1, c1⟩ := of_find.1 h1
  obtain ⟨d', f3, r3, c3⟩ := of_find.1 h3
  have hp := line_pairs hS hV y
  have e := pair_one hp (List.mem_of_find?_eq_some f1) (List.mem_of_find?_eq_some f3) (by omega) (by omega)
  subst e
  exact of_find.2 ⟨d, first_convex (pair_heads hp) h12 h23 f1 f3, r1, c1⟩
/-- only on the cell's text line -/
theorem of_line {S : Sh} {V : Vw} (hS : S.Ok) (hV : V.Ok) {y r c x : Nat} (h : (frameOf S V y x).of r c = true) : r < 64 ∧ c < 26 ∧ ownR S.mg r c = r ∧ ownC S.mg r c = c ∧ tlOk (rowAx S V 0 0 0) r (areaOf S r c).b = true ∧ tlY (rowAx S V 0 0 0) r (areaOf S r c).b = (y : Int) := by
  obtain ⟨d, f1, rfl, rfl⟩ := of_find.1 h
  exact mem_lineDs hS hV (List.mem_of_find?_eq_some f1)
end Go.Proofs.Qxb6500653a
