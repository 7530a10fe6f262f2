/-
  ReachCoversTheText: a cell's text stands on one line alone.
-/
import Derived.Test.Qxb6500653aGeo
import Derived.Test.Qxb6500653aRevLaw
namespace Go.Proofs.Qxb6500653a
open Go.RowKit

theorem Ar.has_self {a : Ar} (h : a.Ok) : a.has a.t a.l = true := by
  have h1 := h.tb
  have h2 := h.lr
  unfold Ar.has
  simp
  omega
theorem has_meets {a b : Ar} {r c : Nat} (h1 : a.has r c = true) (h2 : b.has r c = true) : a.meets b := by
  unfold Ar.has at h1 h2
  simp at h1 h2
  unfold Ar.meets
  omega
/-- a merge is the merge of its first cell -/
theorem mergeAt_self {S : Sh} (hS : S.Ok) {a : Ar} (ha : a ∈ S.mg) : mergeAt S.mg a.t a.l = some a := by
  have hself := Ar.has_self (hS.each a ha)
  cases hm : mergeAt S.mg a.t a.l with
  | none =>
    unfold mergeAt at hm
    have := List.find?_eq_none.1 hm a ha
    rw [hself] at this
    exact absurd rfl this
  | some b =>
    have hb : b.has a.t a.l = true := List.find?_some (p := fun x : Ar => x.has a.t a.l) hm
    have hbm : b ∈ S.mg := List.mem_of_find?_eq_some hm
    have hmeet := has_meets hself hb
    have hmeet' := has_meets hb hself
    obtain ⟨i, hi, rfl⟩ := List.getElem_of_mem ha
    obtain ⟨j, hj, rfl⟩ := List.getElem_of_mem hbm
    rcases Nat.lt_trichotomy i j with h | h | h
    · exact absurd hmeet (List.pairwise_iff_getElem.1 hS.apart i j hi hj h)
    · subst h; rfl
    · exact absurd hmeet' (List.pairwise_iff_getElem.1 hS.apart j i hj hi h)
theorem mem_rowDs {S : Sh} {V : Vw} {i row : Nat} {x0 x1 : Int} {d : Dr} : ∀ {k : Nat}, d ∈ rowDs S V i row x0 x1 k → ∃ j, j < k ∧ passB S row ((colAx S V 0 0 0).bFi i + j) = false ∧ mergeAt S.mg row ((colAx S V 0 0 0).bFi i + j) = none ∧
      d = ⟨row, (colAx S V 0 0 0).bFi i + j, cellT S V row ((colAx S V 0 0 0).bFi i + j), cellS S V row ((colAx S V 0 0 0).bFi i + j), max (max (cellL S V i row ((colAx S V 0 0 0).bFi i + j)) ((colAx S V 0 0 0).bLo i)) x0, min (min (cellR S V i row ((colAx S V 0 0 0).bFi i + j)) ((colAx S V 0 0 0).bHi i)) x1⟩
  | 0, h => by cases h
  | k + 1, h => by
    rcases List.mem_append.1 h with h | h
    · obtain ⟨j, h1, h2⟩ := mem_rowDs h
      exact ⟨j, by omega, h2⟩
    · unfold stepDs at h
      split at h
      · cases h
      · rename_i hn
        simp only [List.mem_singleton] at h
        refine ⟨k, Nat.lt_succ_self _, ?_, ?_, h⟩
        · cases hp : passB S row ((colAx S V 0 0 0).bFi i + k) with
          | false => rfl
          | true => exact absurd (Or.inl hp) hn
        · cases hm : mergeAt S.mg row ((colAx S V 0 0 0).bFi i + k) with
          | none => rfl
          | some a => exact absurd (Or.inr (by rw [hm]; rfl)) hn
theorem mem_mergeDs {S : Sh} {V : Vw} {y x0 x1 : Nat} {d : Dr} : ∀ {k : Nat}, d ∈ mergeDs S V y x0 x1 k → ∃ a ∈ S.mg, d ∈ mergeD S V y x0 x1 a
  | 0, h => by cases h
  | k + 1, h => by
    rcases List.mem_append.1 h with h | h
    · exact mem_mergeDs h
    · cases hm : S.mg[k]? with
      | none => rw [hm] at h; cases h
      | some a => rw [hm] at h; exact ⟨a, List.mem_of_getElem? hm, h⟩
theorem mem_mergeD {S : Sh} {V : Vw} {y x0 x1 : Nat} {a : Ar} {d : Dr} (h : d ∈ mergeD S V y x0 x1 a) : tlOk (rowAx S V 0 0 0) a.t a.b = true ∧ tlY (rowAx S V 0 0 0) a.t a.b = (y : Int) ∧ d.r = a.t ∧ d.c = a.l := by
  unfold mergeD at h
  split at h
  · rename_i hc
    simp only [List.mem_singleton] at h
    subst h
    exact ⟨hc.1, hc.2, rfl, rfl⟩
  · cases h
/-- a drawing of line y: its cell owns itself, and its text stands on line y -/
theorem mem_lineDs {S : Sh} {V : Vw} (hS : S.Ok) (hV : V.Ok) {y : Nat} {d : Dr} (h : d ∈ lineDs S V y) :
    d.r < 64 ∧ d.c < 26 ∧ ownR S.mg d.r d.c = d.r ∧ ownC S.mg d.r d.c = d.c ∧ tlOk (rowAx S V 0 0 0) d.r (areaOf S d.r d.c).b = true ∧ tlY (rowAx S V 0 0 0) d.r (areaOf S d.r d.c).b = (y : Int) := by
  unfold lineDs at h
  split at h
  · cases h
  · rename_i hln
    rcases List.mem_append.1 h with h | h
    · split at h
      · rename_i hst
        obtain ⟨hr64, ht1, ht2⟩ := tl_row (S := S) (V := V) (y := y) (r := (lnR S V y).toNat) (by omega) hst
        have fin : ∀ i, i < 2 → d ∈ rowDs S V i (lnR S V y).toNat 0 80 ((colAx S V 0 0 0).bEn i - (colAx S V 0 0 0).bFi i) → d.r < 64 ∧ d.c < 26 ∧ ownR S.mg d.r d.c = d.r ∧ ownC S.mg d.r d.c = d.c ∧ tlOk (rowAx S V 0 0 0) d.r (areaOf S d.r d.c).b = true ∧ tlY (rowAx S V 0 0 0) d.r (areaOf S d.r d.c).b = (y : Int) := fun i hi hd => by
          obtain ⟨j, hj, _, hm, rfl⟩ := mem_rowDs hd
          have hc26 : (colAx S V 0 0 0).bFi i + j < 26 := by
            have hfc : V.fc < 26 := by have h1 := hV.c; have h2 := hV.sc; omega
            have e : (colAx S V 0 0 0).bEn i ≤ 26 := by
              unfold Ax.bEn
              split
              · show V.fc ≤ 26; omega
              · show 26 ≤ 26; omega
            omega
          obtain ⟨o1, o2⟩ := ownR_none hm
          have ha : (areaOf S (lnR S V y).toNat ((colAx S V 0 0 0).bFi i + j)).b = (lnR S V y).toNat := by unfold areaOf; rw [hm]; rfl
          refine ⟨hr64, hc26, o1, o2, ?_, ?_⟩
          · show tlOk _ _ (areaOf S (lnR S V y).toNat ((colAx S V 0 0 0).bFi i + j)).b = true
            rw [ha]; exact ht1
          · show tlY _ _ (areaOf S (lnR S V y).toNat ((colAx S V 0 0 0).bFi i + j)).b = _
            rw [ha]; exact ht2
        rcases List.mem_append.1 h with h | h
        · exact fin 0 (by omega) h
        · exact fin 1 (by omega) h
      · cases h
    · obtain ⟨a, ha, hd⟩ := mem_mergeDs h
      obtain ⟨h1, h2, h3, h4⟩ := mem_mergeD hd
      have hm := mergeAt_self hS ha
      have hok := hS.each a ha
      have har : areaOf S a.t a.l = a := by unfold areaOf; rw [hm]; rfl
      rw [h3, h4, har]
      have k1 := hok.tb
      have k2 := hok.b
      have k3 := hok.lr
      have k4 := hok.r
      refine ⟨by omega, by omega, ?_, ?_, h1, h2⟩
      · unfold ownR; rw [hm]
      · unfold ownC; rw [hm]
end Go.Proofs.Qxb6500653a
