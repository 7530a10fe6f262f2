/-
  ReachCoversTheText: a row's text stands on its first line.
-/
import Derived.Test.Qxb6500653aScan
namespace Go.Proofs.Qxb6500653a
open Go.RowKit

theorem lnK_some (n m fz sc : Nat) (sz : Nat → Nat) (p : Nat) : ∀ K, 0 ≤ lnK n m fz sc sz K p → ∃ k : Nat, k < K ∧ lnK n m fz sc sz K p = (k : Int) ∧ cLo n m fz sc sz k ≤ (p : Int) ∧ (p : Int) < cHi n m fz sc sz k
  | 0, h => by
    have : lnK n m fz sc sz 0 p = -1 := rfl
    rw [this] at h
    omega
  | K + 1, h => by
    by_cases hc : cLo n m fz sc sz K ≤ (p : Int) ∧ (p : Int) < cHi n m fz sc sz K
    · have e : lnK n m fz sc sz (K + 1) p = (K : Int) := if_pos hc
      exact ⟨K, Nat.lt_succ_self _, e, hc.1, hc.2⟩
    · have e : lnK n m fz sc sz (K + 1) p = lnK n m fz sc sz K p := if_neg hc
      rw [e] at h ⊢
      obtain ⟨k, h1, h2, h3⟩ := lnK_some n m fz sc sz p K h
      exact ⟨k, by omega, h2, h3⟩
/-- the row whose text begins on line y: its text line is y -/
theorem tl_row {S : Sh} {V : Vw} {y r : Nat} (hr : lnR S V y = (r : Int)) (hst : (rowAx S V 0 0 0).st r = (y : Int)) : r < 64 ∧ tlOk (rowAx S V 0 0 0) r r = true ∧ tlY (rowAx S V 0 0 0) r r = (y : Int) := by
  obtain ⟨k, h1, h2, h3, h4⟩ := lnK_some 64 24 V.fr V.sr (rowSz S) y 64 (by show 0 ≤ lnR S V y; rw [hr]; omega)
  have hk : k = r := by
    have e : lnR S V y = (k : Int) := h2
    rw [hr] at e
    omega
  subst hk
  refine ⟨h1, ?_⟩
  by_cases hf : k < V.fr
  · have e0 : (rowAx S V 0 0 0).span0 k k = ((rowAx S V 0 0 0).st k, (rowAx S V 0 0 0).st k + ((rowAx S V 0 0 0).sz k : Int)) := by
      unfold Ax.span0
      rw [if_pos (show k < (rowAx S V 0 0 0).fz from hf), Nat.min_eq_left (show k ≤ (rowAx S V 0 0 0).fz - 1 by show k ≤ V.fr - 1; omega)]
    have hlo : cLo 64 24 V.fr V.sr (rowSz S) k = ((rowAx S V 0 0 0).clip0 k k).1 := if_pos hf
    have hhi : cHi 64 24 V.fr V.sr (rowSz S) k = ((rowAx S V 0 0 0).clip0 k k).2 := if_pos hf
    rw [hlo] at h3
    rw [hhi] at h4
    unfold Ax.clip0 at h3 h4
    rw [e0] at h3 h4
    simp only at h3 h4
    have hin : (rowAx S V 0 0 0).in0 k k := by
      unfold Ax.in0
      rw [e0]
      show (rowAx S V 0 0 0).st k < _
      omega
    have hh : homeI (rowAx S V 0 0 0) k k = 0 := by
      unfold homeI
      exact if_pos hin
    unfold tlOk tlY
    rw [hh]
    have eb : (rowAx S V 0 0 0).spanB 0 k k = ((rowAx S V 0 0 0).st k, (rowAx S V 0 0 0).st k + ((rowAx S V 0 0 0).sz k : Int)) := e0
    rw [eb]
    refine ⟨decide_eq_true ⟨by omega, ?_, ?_⟩, hst⟩
    · show ((0 : Nat) : Int) ≤ _
      omega
    · show _ < ((rowAx S V 0 0 0).edge : Int)
      omega
  · have e1 : (rowAx S V 0 0 0).span1 k k = ((rowAx S V 0 0 0).st k, (rowAx S V 0 0 0).st k + ((rowAx S V 0 0 0).sz k : Int)) := by
      unfold Ax.span1
      rw [if_pos (show (rowAx S V 0 0 0).fz ≤ k by show V.fr ≤ k; omega), Nat.max_eq_left (show (rowAx S V 0 0 0).fz ≤ k by show V.fr ≤ k; omega)]
    have e0 : (rowAx S V 0 0 0).span0 k k = (0, 0) := by
      unfold Ax.span0
      exact if_neg (show ¬ k < (rowAx S V 0 0 0).fz from hf)
    have hlo : cLo 64 24 V.fr V.sr (rowSz S) k = ((rowAx S V 0 0 0).clip1 k k).1 := if_neg hf
    have hhi : cHi 64 24 V.fr V.sr (rowSz S) k = ((rowAx S V 0 0 0).clip1 k k).2 := if_neg hf
    rw [hlo] at h3
    rw [hhi] at h4
    unfold Ax.clip1 at h3 h4
    rw [e1] at h3 h4
    simp only at h3 h4
    have hin : ¬ (rowAx S V 0 0 0).in0 k k := by
      unfold Ax.in0
      rw [e0]
      show ¬ (0 : Int) < 0
      omega
    have hh : homeI (rowAx S V 0 0 0) k k = 1 := by
      unfold homeI
      exact if_neg hin
    unfold tlOk tlY
    rw [hh]
    have eb : (rowAx S V 0 0 0).spanB 1 k k = ((rowAx S V 0 0 0).st k, (rowAx S V 0 0 0).st k + ((rowAx S V 0 0 0).sz k : Int)) := e1
    rw [eb]
    refine ⟨decide_eq_true ⟨by omega, ?_, ?_⟩, hst⟩
    · show ((rowAx S V 0 0 0).edge : Int) ≤ _
      omega
    · show _ < ((rowAx S V 0 0 0).hi : Int)
      omega
end Go.Proofs.Qxb6500653a
