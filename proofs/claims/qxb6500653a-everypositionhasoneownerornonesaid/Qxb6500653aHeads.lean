/-
  ReachCoversTheText: of two texts of one row the left one covers a head of the right one's stretch.
-/
import Derived.Test.Qxb6500653aExt
namespace Go.Proofs.Qxb6500653a
open Go.RowKit

theorem half_le (x : Int) : x.tdiv 2 ≤ max x 0 := by
  rcases Int.lt_or_le x 0 with h | h
  · have e : x.tdiv 2 = -((-x).tdiv 2) := by rw [Int.neg_tdiv, Int.neg_neg]
    rw [e, Int.tdiv_eq_ediv_of_nonneg (by omega)]
    omega
  · rw [Int.tdiv_eq_ediv_of_nonneg h]
    omega
theorem placeS_le (s : Shn) {left right : Int} (h : left ≤ right) : placeS s left right ≤ right := by
  have := half_le ((right - left) - (s.text.size : Int))
  unfold placeS
  split
  · exact h
  · split
    · omega
    · split
      · omega
      · exact h
/-- one column's drawing -/
noncomputable def colD (S : Sh) (V : Vw) (i row c : Nat) : Dr := ⟨row, c, cellT S V row c, cellS S V row c, max (max (cellL S V i row c) ((colAx S V 0 0 0).bLo i)) 0, min (min (cellR S V i row c) ((colAx S V 0 0 0).bHi i)) 80⟩
theorem heads_row {S : Sh} {V : Vw} {i row c1 c : Nat} (hc : c1 < c) (hb : (i = 0 ∧ c < V.fc) ∨ (i = 1 ∧ V.fc ≤ c1)) (hp : passB S row c1 = false) : (colD S V i row c1).heads (colD S V i row c) := by
  refine Dr.heads_of (Or.inl ?_)
  have e1 : (colAx S V 0 0 0).st c1 + ((colAx S V 0 0 0).sz c1 : Int) ≤ cellL S V i row c := by
    unfold cellL
    exact extL_ge hp c _ hc (fun j h1 h2 => st_edge h1 (by omega)) (st_edge hc (by omega))
  have e2 : cellL S V i row c1 ≤ (colAx S V 0 0 0).st c1 := by
    unfold cellL
    refine extL_le c1 _ (fun j h1 h2 => ?_) (Int.le_refl _)
    rcases hb with ⟨_, hb⟩ | ⟨rfl, hb⟩
    · exact st_mono (by omega) (Or.inl (by omega))
    · have h1' : V.fc ≤ j := h1
      exact st_mono (by omega) (Or.inr h1')
  have e3 : cellS S V row c1 ≤ (colAx S V 0 0 0).st c1 + ((colAx S V 0 0 0).sz c1 : Int) := by
    unfold cellS
    exact placeS_le _ (by omega)
  show max (cellS S V row c1) (max (max (cellL S V i row c1) _) 0) ≤ max (cellS S V row c) (max (max (cellL S V i row c) _) 0)
  omega
end Go.Proofs.Qxb6500653a
