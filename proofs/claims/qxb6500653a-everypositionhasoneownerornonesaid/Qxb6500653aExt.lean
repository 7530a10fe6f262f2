/-
  ReachCoversTheText: how far a text goes: it stops at the next cell that does not let it pass.
-/
import Derived.Test.Qxb6500653aConvex
namespace Go.Proofs.Qxb6500653a
open Go.RowKit

theorem extL_ge {S : Sh} {V : Vw} {row first q : Nat} {s0 b : Int} (hq : passB S row q = false) : ∀ (n : Nat) (left : Int), q < n → (∀ j, q < j → j < n → b ≤ (colAx S V 0 0 0).st j) → b ≤ left → b ≤ extL S V row first s0 n left
  | 0, _, h, _, _ => by omega
  | n + 1, left, h, hm, hl => by
    unfold extL
    split
    · rename_i hc
      have hne : q ≠ n := fun e => by
        subst e
        rw [hq] at hc
        cases hc.2.2
      exact extL_ge hq n _ (by omega) (fun j h1 h2 => hm j h1 (by omega)) (hm n (by omega) (by omega))
    · exact hl
theorem extL_le {S : Sh} {V : Vw} {row first : Nat} {s0 b : Int} : ∀ (n : Nat) (left : Int), (∀ j, first ≤ j → j < n → (colAx S V 0 0 0).st j ≤ b) → left ≤ b → extL S V row first s0 n left ≤ b
  | 0, _, _, hl => hl
  | n + 1, left, hm, hl => by
    unfold extL
    split
    · rename_i hc
      exact extL_le n _ (fun j h1 h2 => hm j h1 (by omega)) (hm n hc.2.1 (by omega))
    · exact hl
theorem extR_le {S : Sh} {V : Vw} {row q : Nat} {tot b : Int} (hq : passB S row q = false) : ∀ (k n : Nat) (right : Int), n ≤ q → (∀ j, n ≤ j → j < q → (colAx S V 0 0 0).st j + ((colAx S V 0 0 0).sz j : Int) ≤ b) → right ≤ b → extR S V row tot k n right ≤ b
  | 0, _, _, _, _, hl => hl
  | k + 1, n, right, h, hm, hl => by
    unfold extR
    split
    · rename_i hc
      have hne : q ≠ n := fun e => by
        subst e
        rw [hq] at hc
        cases hc.2
      exact extR_le hq k (n + 1) _ (by omega) (fun j h1 h2 => hm j (by omega) h2) (hm n (Nat.le_refl _) (by omega))
    · exact hl

/-- within one band the columns follow each other -/
theorem st_next {S : Sh} {V : Vw} {j : Nat} (h : j + 1 < V.fc ∨ V.fc ≤ j) : (colAx S V 0 0 0).st (j + 1) = (colAx S V 0 0 0).st j + ((colAx S V 0 0 0).sz j : Int) := by
  show stOf 80 V.fc V.sc (colSz S) (j + 1) = stOf 80 V.fc V.sc (colSz S) j + (colSz S j : Int)
  have e : sums (colSz S) (j + 1) = sums (colSz S) j + colSz S j := rfl
  unfold stOf
  rcases h with h | h
  · rw [if_pos (by omega), if_pos (by omega), e]
    omega
  · rw [if_neg (by omega), if_neg (by omega), e]
    omega
theorem st_mono {S : Sh} {V : Vw} {i j : Nat} (hij : i ≤ j) (h : j < V.fc ∨ V.fc ≤ i) : (colAx S V 0 0 0).st i ≤ (colAx S V 0 0 0).st j := by
  show stOf 80 V.fc V.sc (colSz S) i ≤ stOf 80 V.fc V.sc (colSz S) j
  have e := sums_mono (colSz S) hij
  unfold stOf
  rcases h with h | h
  · rw [if_pos (by omega), if_pos h]
    omega
  · rw [if_neg (by omega), if_neg (by omega)]
    omega
theorem st_edge {S : Sh} {V : Vw} {i j : Nat} (hij : i < j) (h : j < V.fc ∨ V.fc ≤ i) : (colAx S V 0 0 0).st i + ((colAx S V 0 0 0).sz i : Int) ≤ (colAx S V 0 0 0).st j := by
  rw [← st_next (S := S) (V := V) (j := i) (by omega)]
  exact st_mono hij (by omega)
end Go.Proofs.Qxb6500653a
