/-
  ReachCoversTheText: a merge whose text stands on line y holds the row of line y.
-/
import Derived.Test.Qxb6500653aHeads
namespace Go.Proofs.Qxb6500653a
open Go.RowKit

theorem rst_mono {S : Sh} {V : Vw} {i j : Nat} (hij : i ≤ j) (h : j < V.fr ∨ V.fr ≤ i) : (rowAx S V 0 0 0).st i ≤ (rowAx S V 0 0 0).st j := by
  show stOf 24 V.fr V.sr (rowSz S) i ≤ stOf 24 V.fr V.sr (rowSz S) j
  have e := sums_mono (rowSz S) hij
  unfold stOf
  rcases h with h | h
  · rw [if_pos (by omega), if_pos h]
    omega
  · rw [if_neg (by omega), if_neg (by omega)]
    omega
theorem rst_next {S : Sh} {V : Vw} {j : Nat} (h : j + 1 < V.fr ∨ V.fr ≤ j) : (rowAx S V 0 0 0).st (j + 1) = (rowAx S V 0 0 0).st j + ((rowAx S V 0 0 0).sz j : Int) := by
  show stOf 24 V.fr V.sr (rowSz S) (j + 1) = stOf 24 V.fr V.sr (rowSz S) j + (rowSz S j : Int)
  have e : sums (rowSz S) (j + 1) = sums (rowSz S) j + rowSz S j := rfl
  unfold stOf
  rcases h with h | h
  · rw [if_pos (by omega), if_pos (by omega), e]
    omega
  · rw [if_neg (by omega), if_neg (by omega), e]
    omega
theorem rst_edge {S : Sh} {V : Vw} {i j : Nat} (hij : i < j) (h : j < V.fr ∨ V.fr ≤ i) : (rowAx S V 0 0 0).st i + ((rowAx S V 0 0 0).sz i : Int) ≤ (rowAx S V 0 0 0).st j := by
  rw [← rst_next (S := S) (V := V) (j := i) (by omega)]
  exact rst_mono hij (by omega)
/-- where a row shows -/
theorem row_shows {S : Sh} {V : Vw} {y r : Nat} (hr : lnR S V y = (r : Int)) : r < 64 ∧ (rowAx S V 0 0 0).st r ≤ (y : Int) ∧ (y : Int) < (rowAx S V 0 0 0).st r + ((rowAx S V 0 0 0).sz r : Int) ∧ ((r < V.fr ∧ (y : Int) < ((rowAx S V 0 0 0).edge : Int)) ∨ (V.fr ≤ r ∧ ((rowAx S V 0 0 0).edge : Int) ≤ (y : Int))) := by
  obtain ⟨k, h1, h2, h3, h4⟩ := lnK_some 64 24 V.fr V.sr (rowSz S) y 64 (by show 0 ≤ lnR S V y; rw [hr]; omega)
  have hk : k = r := by
    have e : lnR S V y = (k : Int) := h2
    rw [hr] at e
    omega
  subst hk
  refine ⟨h1, ?_⟩
  by_cases hf : k < V.fr
  · have e0 : (rowAx S V 0 0 0).span0 k k = ((rowAx S V 0 0 0).st k, (rowAx S V 0 0 0).st k + ((rowAx S V 0 0 0).sz k : Int)) := by
      unfold Ax.span0
      rw [if_pos (show k < (rowAx S V 0 0 0).fz from hf), Nat.min_eq_left (show k ≤ (rowAx S V 0 0 0).fz - 1 by show k ≤ V.fr - 1; omega)]
    have hlo : cLo 64 24 V.fr V.sr (rowSz S) k = ((rowAx S V 0 0 0).clip0 k k).1 := if_pos hf
    have hhi : cHi 64 24 V.fr V.sr (rowSz S) k = ((rowAx S V 0 0 0).clip0 k k).2 := if_pos hf
    rw [hlo] at h3
    rw [hhi] at h4
    unfold Ax.clip0 at h3 h4
    rw [e0] at h3 h4
    simp only at h3 h4
    exact ⟨by omega, by omega, Or.inl ⟨hf, by omega⟩⟩
  · have e1 : (rowAx S V 0 0 0).span1 k k = ((rowAx S V 0 0 0).st k, (rowAx S V 0 0 0).st k + ((rowAx S V 0 0 0).sz k : Int)) := by
      unfold Ax.span1
      rw [if_pos (show (rowAx S V 0 0 0).fz ≤ k by show V.fr ≤ k; omega), Nat.max_eq_left (show (rowAx S V 0 0 0).fz ≤ k by show V.fr ≤ k; omega)]
    have hlo : cLo 64 24 V.fr V.sr (rowSz S) k = ((rowAx S V 0 0 0).clip1 k k).1 := if_neg hf
    have hhi : cHi 64 24 V.fr V.sr (rowSz S) k = ((rowAx S V 0 0 0).clip1 k k).2 := if_neg hf
    rw [hlo] at h3
    rw [hhi] at h4
    unfold Ax.clip1 at h3 h4
    rw [e1] at h3 h4
    simp only at h3 h4
    exact ⟨by omega, by omega, Or.inr ⟨by omega, by omega⟩⟩
/-- a merge whose text stands on line y holds the row that shows there -/
theorem merge_row {S : Sh} {V : Vw} {y r : Nat} {a : Ar} (ha : a.Ok) (hV : V.Ok) (hr : lnR S V y = (r : Int)) (h1 : tlOk (rowAx S V 0 0 0) a.t a.b = true) (h2 : tlY (rowAx S V 0 0 0) a.t a.b = (y : Int)) : a.t ≤ r ∧ r ≤ a.b := by
  obtain ⟨r64, s1, s2, s3⟩ := row_shows hr
  have htb := ha.tb
  have hb64 := ha.b
  have hfr : V.fr < 64 := by have k1 := hV.r; have k2 := hV.sr; omega
  unfold tlOk at h1
  unfold tlY at h2
  have hd := of_decide_eq_true h1
  rw [h2] at hd
  by_cases hin : (rowAx S V 0 0 0).in0 a.t a.b
  · have hh : homeI (rowAx S V 0 0 0) a.t a.b = 0 := by unfold homeI; exact if_pos hin
    rw [hh] at hd h2
    have hf : a.t < V.fr := by
      rcases Nat.lt_or_ge a.t V.fr with h | h
      · exact h
      · have e : (rowAx S V 0 0 0).span0 a.t a.b = (0, 0) := by
          unfold Ax.span0
          exact if_neg (by show ¬ a.t < V.fr; omega)
        unfold Ax.in0 at hin
        rw [e] at hin
        exact absurd hin (by decide)
    have e0 : (rowAx S V 0 0 0).spanB 0 a.t a.b = ((rowAx S V 0 0 0).st a.t, (rowAx S V 0 0 0).st (min a.b (V.fr - 1)) + ((rowAx S V 0 0 0).sz (min a.b (V.fr - 1)) : Int)) := by
      show (rowAx S V 0 0 0).span0 a.t a.b = _
      unfold Ax.span0
      exact if_pos hf
    rw [e0] at hd h2
    have hd3 : (y : Int) < ((rowAx S V 0 0 0).edge : Int) := hd.2.2
    have hd1 : (y : Int) < (rowAx S V 0 0 0).st (min a.b (V.fr - 1)) + ((rowAx S V 0 0 0).sz (min a.b (V.fr - 1)) : Int) := hd.1
    have h2' : (rowAx S V 0 0 0).st a.t = (y : Int) := h2
    have hrf : r < V.fr := by omega
    constructor
    · rcases Nat.lt_or_ge r a.t with h | h
      · have := rst_edge (S := S) (V := V) h (Or.inl hf)
        omega
      · exact h
    · rcases Nat.lt_or_ge a.b r with h | h
      · have e : min a.b (V.fr - 1) = a.b := by omega
        rw [e] at hd1
        have := rst_edge (S := S) (V := V) h (Or.inl hrf)
        omega
      · exact h
  · have hh : homeI (rowAx S V 0 0 0) a.t a.b = 1 := by unfold homeI; exact if_neg hin
    rw [hh] at hd h2
    by_cases hf : V.fr ≤ a.b
    · have e1 : (rowAx S V 0 0 0).spanB 1 a.t a.b = ((rowAx S V 0 0 0).st (max a.t V.fr), (rowAx S V 0 0 0).st a.b + ((rowAx S V 0 0 0).sz a.b : Int)) := by
        show (rowAx S V 0 0 0).span1 a.t a.b = _
        unfold Ax.span1
        exact if_pos hf
      rw [e1] at hd h2
      have hd2 : ((rowAx S V 0 0 0).edge : Int) ≤ (y : Int) := hd.2.1
      have hd1 : (y : Int) < (rowAx S V 0 0 0).st a.b + ((rowAx S V 0 0 0).sz a.b : Int) := hd.1
      have h2' : (rowAx S V 0 0 0).st (max a.t V.fr) = (y : Int) := h2
      have hrf : V.fr ≤ r := by omega
      constructor
      · rcases Nat.lt_or_ge r a.t with h | h
        · have e : max a.t V.fr = a.t := by omega
          rw [e] at h2'
          have := rst_edge (S := S) (V := V) h (Or.inr hrf)
          omega
        · exact h
      · rcases Nat.lt_or_ge a.b r with h | h
        · have := rst_edge (S := S) (V := V) h (Or.inr hf)
          omega
        · exact h
    · have e1 : (rowAx S V 0 0 0).spanB 1 a.t a.b = (0, 0) := by
        show (rowAx S V 0 0 0).span1 a.t a.b = _
        unfold Ax.span1
        exact if_neg hf
      have hd1 := hd.1
      rw [e1] at hd1
      have h2' : (0 : Int) = (y : Int) := by rw [e1] at h2; exact h2
      have : (y : Int) < 0 := hd1
      omega
end Go.Proofs.Qxb6500653a
