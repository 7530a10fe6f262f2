/-
  ReachCoversTheText: of two drawings of one line the earlier one covers a head of the later one's stretch, or none of it.
-/
import Derived.Test.Qxb6500653aRowGeo
namespace Go.Proofs.Qxb6500653a
open Go.RowKit

/-- the first column of a stretch that has a width -/
theorem first_wide {S : Sh} {V : Vw} (l : Nat) : ∀ m, l ≤ m → (m < V.fc ∨ V.fc ≤ l) → (colAx S V 0 0 0).st l < (colAx S V 0 0 0).st m + ((colAx S V 0 0 0).sz m : Int) →
    ∃ q, l ≤ q ∧ q ≤ m ∧ 0 < colSz S q ∧ (colAx S V 0 0 0).st q = (colAx S V 0 0 0).st l := by
  intro m
  induction m with
  | zero =>
    intro h1 _ h3
    have e : l = 0 := by omega
    subst e
    exact ⟨0, Nat.le_refl _, Nat.le_refl _, by have : (colAx S V 0 0 0).sz 0 = colSz S 0 := rfl; omega, rfl⟩
  | succ m ih =>
    intro h1 h2 h3
    have ez : (colAx S V 0 0 0).sz (m + 1) = colSz S (m + 1) := rfl
    rcases Nat.lt_or_ge m l with h | h
    · have e : l = m + 1 := by omega
      subst e
      exact ⟨m + 1, Nat.le_refl _, Nat.le_refl _, by omega, rfl⟩
    · have en := st_next (S := S) (V := V) (j := m) (by omega)
      rcases Int.lt_or_le ((colAx S V 0 0 0).st l) ((colAx S V 0 0 0).st (m + 1)) with h4 | h4
      · obtain ⟨q, k1, k2, k3, k4⟩ := ih h (by omega) (by omega)
        exact ⟨q, k1, by omega, k3, k4⟩
      · have := st_mono (S := S) (V := V) (i := l) (j := m + 1) (by omega) (by omega)
        exact ⟨m + 1, by omega, Nat.le_refl _, by omega, by omega⟩
/-- the last column of a stretch that has a width -/
theorem last_wide {S : Sh} {V : Vw} (l : Nat) : ∀ m, l ≤ m → (m < V.fc ∨ V.fc ≤ l) → (colAx S V 0 0 0).st l < (colAx S V 0 0 0).st m + ((colAx S V 0 0 0).sz m : Int) →
    ∃ q, l ≤ q ∧ q ≤ m ∧ 0 < colSz S q ∧ (colAx S V 0 0 0).st q + ((colAx S V 0 0 0).sz q : Int) = (colAx S V 0 0 0).st m + ((colAx S V 0 0 0).sz m : Int) := by
  intro m
  induction m with
  | zero =>
    intro h1 _ h3
    have e : l = 0 := by omega
    subst e
    exact ⟨0, Nat.le_refl _, Nat.le_refl _, by have : (colAx S V 0 0 0).sz 0 = colSz S 0 := rfl; omega, rfl⟩
  | succ m ih =>
    intro h1 h2 h3
    have ez : (colAx S V 0 0 0).sz (m + 1) = colSz S (m + 1) := rfl
    rcases Nat.eq_zero_or_pos (colSz S (m + 1)) with h4 | h4
    · rcases Nat.lt_or_ge m l with h | h
      · have e : l = m + 1 := by omega
        subst e
        omega
      · have en := st_next (S := S) (V := V) (j := m) (by omega)
        obtain ⟨q, k1, k2, k3, k4⟩ := ih h (by omega) (by omega)
        exact ⟨q, k1, by omega, k3, by omega⟩
    · exact ⟨m + 1, h1, Nat.le_refl _, h4, rfl⟩
/-- the columns of a merge in a band -/
theorem span_in {S : Sh} {V : Vw} (_hV : V.Ok) {a : Ar} (ha : a.Ok) (i : Nat) (hi : i < 2) :
    ((colAx S V 0 0 0).spanB i a.l a.r).2 ≤ ((colAx S V 0 0 0).spanB i a.l a.r).1 ∨
    ∃ l m, (colAx S V 0 0 0).spanB i a.l a.r = ((colAx S V 0 0 0).st l, (colAx S V 0 0 0).st m + ((colAx S V 0 0 0).sz m : Int)) ∧ a.l ≤ l ∧ l ≤ m ∧ m ≤ a.r ∧
      ((i = 0 ∧ m < V.fc) ∨ (i = 1 ∧ V.fc ≤ l)) ∧ (colAx S V 0 0 0).st l < (colAx S V 0 0 0).st m + ((colAx S V 0 0 0).sz m : Int) := by
  have hlr := ha.lr
  by_cases hs : ((colAx S V 0 0 0).spanB i a.l a.r).2 ≤ ((colAx S V 0 0 0).spanB i a.l a.r).1
  · exact Or.inl hs
  · refine Or.inr ?_
    rcases (show i = 0 ∨ i = 1 by omega) with rfl | rfl
    · by_cases hf : a.l < V.fc
      · have e : (colAx S V 0 0 0).spanB 0 a.l a.r = ((colAx S V 0 0 0).st a.l, (colAx S V 0 0 0).st (min a.r (V.fc - 1)) + ((colAx S V 0 0 0).sz (min a.r (V.fc - 1)) : Int)) := by
          show (colAx S V 0 0 0).span0 a.l a.r = _
          unfold Ax.span0
          exact if_pos hf
        rw [e] at hs
        exact ⟨a.l, min a.r (V.fc - 1), e, Nat.le_refl _, by omega, by omega, Or.inl ⟨rfl, by omega⟩, by simpa using hs⟩
      · have e : (colAx S V 0 0 0).spanB 0 a.l a.r = (0, 0) := by
          show (colAx S V 0 0 0).span0 a.l a.r = _
          unfold Ax.span0
          exact if_neg hf
        rw [e] at hs
        exact absurd (Int.le_refl 0) hs
    · by_cases hf : V.fc ≤ a.r
      · have e : (colAx S V 0 0 0).spanB 1 a.l a.r = ((colAx S V 0 0 0).st (max a.l V.fc), (colAx S V 0 0 0).st a.r + ((colAx S V 0 0 0).sz a.r : Int)) := by
          show (colAx S V 0 0 0).span1 a.l a.r = _
          unfold Ax.span1
          exact if_pos hf
        rw [e] at hs
        exact ⟨max a.l V.fc, a.r, e, by omega, by omega, Nat.le_refl _, Or.inr ⟨rfl, by omega⟩, by simpa using hs⟩
      · have e : (colAx S V 0 0 0).spanB 1 a.l a.r = (0, 0) := by
          show (colAx S V 0 0 0).span1 a.l a.r = _
          unfold Ax.span1
          exact if_neg hf
        rw [e] at hs
        exact absurd (Int.le_refl 0) hs

/-- a merge's drawing -/
noncomputable def mergD (S : Sh) (V : Vw) (a : Ar) (i : Nat) : Dr :=
  ⟨a.t, a.l, placeT (shown S.es a.t a.l) ((colAx S V 0 0 0).spanB i a.l a.r).1 ((colAx S V 0 0 0).spanB i a.l a.r).2,
      placeS (shown S.es a.t a.l) ((colAx S V 0 0 0).spanB i a.l a.r).1 ((colAx S V 0 0 0).spanB i a.l a.r).2,
      max (max ((colAx S V 0 0 0).spanB i a.l a.r).1 ((colAx S V 0 0 0).bLo i)) 0,
      min (min ((colAx S V 0 0 0).spanB i a.l a.r).2 ((colAx S V 0 0 0).bHi i)) 80⟩
theorem mergD_hi {S : Sh} {V : Vw} {a : Ar} {i : Nat} : (mergD S V a i).hi ≤ ((colAx S V 0 0 0).spanB i a.l a.r).2 ∧ (mergD S V a i).hi ≤ ((colAx S V 0 0 0).bHi i : Int) := by
  have e : (mergD S V a i).hi = min (min ((colAx S V 0 0 0).spanB i a.l a.r).2 ((colAx S V 0 0 0).bHi i)) 80 := rfl
  rw [e]
  omega
theorem mergD_lo {S : Sh} {V : Vw} {a : Ar} {i : Nat} : ((colAx S V 0 0 0).spanB i a.l a.r).1 ≤ (mergD S V a i).lo ∧ ((colAx S V 0 0 0).bLo i : Int) ≤ (mergD S V a i).lo := by
  have e : (mergD S V a i).lo = max (max ((colAx S V 0 0 0).spanB i a.l a.r).1 ((colAx S V 0 0 0).bLo i)) 0 := rfl
  rw [e]
  omega
theorem colD_hi {S : Sh} {V : Vw} {i row c : Nat} : (colD S V i row c).hi ≤ cellR S V i row c ∧ (colD S V i row c).hi ≤ ((colAx S V 0 0 0).bHi i : Int) := by
  have e : (colD S V i row c).hi = min (min (cellR S V i row c) ((colAx S V 0 0 0).bHi i)) 80 := rfl
  rw [e]
  omega
theorem colD_lo {S : Sh} {V : Vw} {i row c : Nat} : cellL S V i row c ≤ (colD S V i row c).lo ∧ ((colAx S V 0 0 0).bLo i : Int) ≤ (colD S V i row c).lo := by
  have e : (colD S V i row c).lo = max (max (cellL S V i row c) ((colAx S V 0 0 0).bLo i)) 0 := rfl
  rw [e]
  omega
theorem b_edge {S : Sh} {V : Vw} : (colAx S V 0 0 0).bHi 0 = (colAx S V 0 0 0).bLo 1 := rfl
/-- e ends before d begins -/
theorem heads_left {e d : Dr} (h : e.hi ≤ d.lo) : e.heads d := Dr.heads_of (Or.inr (by omega))
theorem heads_right {e d : Dr} (h : d.hi ≤ e.lo) : e.heads d := Dr.heads_after (by omega)
theorem heads_nil {e d : Dr} (h : d.hi ≤ d.lo) : e.heads d := by
  intro x x' _ _ h2 _
  have b := of_decide_eq_true h2
  omega
theorem heads_nil' {e d : Dr} (h : e.hi ≤ e.lo) : e.heads d := by
  intro x x' _ h2 _ _
  have b := of_decide_eq_true h2
  omega
/-- a row's text and a merge's -/
theorem heads_merge {S : Sh} {V : Vw} (hS : S.Ok) (hV : V.Ok) {a : Ar} (ha : a ∈ S.mg) {row : Nat} (hrow : a.t ≤ row ∧ row ≤ a.b) {i j c : Nat} (hi : i < 2) (hj : j < 2) (hb : (i = 0 ∧ c < V.fc) ∨ (i = 1 ∧ V.fc ≤ c)) (hm : mergeAt S.mg row c = none) : (colD S V i row c).heads (mergD S V a j) := by
  have hao := hS.each a ha
  have hstop : ∀ q, a.l ≤ q → q ≤ a.r → 0 < colSz S q → passB S row q = false := fun q h1 h2 h3 => by
    have hs : (mergeAt S.mg row q).isNone = false := by
      cases h : mergeAt S.mg row q with
      | some b => rfl
      | none =>
        unfold mergeAt at h
        have := List.find?_eq_none.1 h a ha
        refine absurd ?_ this
        unfold Ar.has
        simp
        omega
    unfold passB
    rw [hs, decide_eq_false (by omega)]
    rfl
  have hout : c < a.l ∨ a.r < c := by
    unfold mergeAt at hm
    have := List.find?_eq_none.1 hm a ha
    unfold Ar.has at this
    simp at this
    omega
  have m1 := mergD_hi (S := S) (V := V) (a := a) (i := j)
  have m2 := mergD_lo (S := S) (V := V) (a := a) (i := j)
  have c1 := colD_hi (S := S) (V := V) (i := i) (row := row) (c := c)
  have c2 := colD_lo (S := S) (V := V) (i := i) (row := row) (c := c)
  have be := b_edge (S := S) (V := V)
  by_cases hij : i = j
  · subst hij
    rcases span_in (S := S) hV hao i hi with h | ⟨l, m, hs, k1, k2, k3, k4, k5⟩
    · exact heads_nil (by omega)
    · rw [hs] at m1 m2
      simp only at m1 m2
      rcases hout with h | h
      · -- the row's text stops before the merge
        obtain ⟨q, q1, q2, q3, q4⟩ := first_wide (S := S) (V := V) l m k2 (by omega) k5
        have hq := hstop q (by omega) (by omega) q3
        refine heads_left ?_
        have : cellR S V i row c ≤ (colAx S V 0 0 0).st l := by
          unfold cellR
          rw [← q4]
          exact extR_le hq _ (c + 1) _ (by omega) (fun j' h1 h2 => st_edge h2 (by omega)) (st_edge (by omega) (by omega))
        omega
      · obtain ⟨q, q1, q2, q3, q4⟩ := last_wide (S := S) (V := V) l m k2 (by omega) k5
        have hq := hstop q (by omega) (by omega) q3
        refine heads_right ?_
        have : (colAx S V 0 0 0).st m + ((colAx S V 0 0 0).sz m : Int) ≤ cellL S V i row c := by
          unfold cellL
          rw [← q4]
          exact extL_ge hq c _ (by omega) (fun j' h1 h2 => st_edge h1 (by omega)) (st_edge (by omega) (by omega))
        omega
  · rcases (show (i = 0 ∧ j = 1) ∨ (i = 1 ∧ j = 0) by omega) with ⟨rfl, rfl⟩ | ⟨rfl, rfl⟩
    · exact heads_left (by omega)
    · exact heads_right (by omega)
/-- two merges' texts -/
theorem heads_two {S : Sh} {V : Vw} (hV : V.Ok) {a b : Ar} (ha : a.Ok) (hb : b.Ok) {row : Nat} (ra : a.t ≤ row ∧ row ≤ a.b) (rb : b.t ≤ row ∧ row ≤ b.b) (hab : ¬ a.meets b) {i j : Nat} (hi : i < 2) (hj : j < 2) : (mergD S V a i).heads (mergD S V b j) := by
  have hout : a.r < b.l ∨ b.r < a.l := by
    unfold Ar.meets at hab
    omega
  have m1 := mergD_hi (S := S) (V := V) (a := a) (i := i)
  have m2 := mergD_lo (S := S) (V := V) (a := a) (i := i)
  have c1 := mergD_hi (S := S) (V := V) (a := b) (i := j)
  have c2 := mergD_lo (S := S) (V := V) (a := b) (i := j)
  have be := b_edge (S := S) (V := V)
  by_cases hij : i = j
  · subst hij
    rcases span_in (S := S) hV ha i hi with h | ⟨l, m, hs, k1, k2, k3, k4, k5⟩
    · exact heads_nil' (by omega)
    · rcases span_in (S := S) hV hb i hi with h | ⟨l', m', hs', k1', k2', k3', k4', k5'⟩
      · exact heads_nil (by omega)
      · rw [hs] at m1 m2
        rw [hs'] at c1 c2
        simp only at m1 m2 c1 c2
        rcases hout with h | h
        · have := st_edge (S := S) (V := V) (i := m) (j := l') (by omega) (by omega)
          exact heads_left (by omega)
        · have := st_edge (S := S) (V := V) (i := m') (j := l) (by omega) (by omega)
          exact heads_right (by omega)
  · rcases (show (i = 0 ∧ j = 1) ∨ (i = 1 ∧ j = 0) by omega) with ⟨rfl, rfl⟩ | ⟨rfl, rfl⟩
    · exact heads_left (by omega)
    · exact heads_right (by omega)
end Go.Proofs.Qxb6500653a
