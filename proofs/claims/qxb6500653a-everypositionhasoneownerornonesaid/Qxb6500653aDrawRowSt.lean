/-
  drawRow (56): what it leaves, as a plain function.
-/
import Derived.Test.Qxb6500653aPass
namespace Go.Proofs.Qxb6500653a
open Go.RowKit

/-- the text's stretch to the left, from column n on downwards -/
noncomputable def extL (S : Sh) (V : Vw) (row first : Nat) (st : Int) : Nat → Int → Int
  | 0, left => left
  | n + 1, left => if st < left ∧ first ≤ n ∧ passB S row n = true then extL S V row first st n ((colAx S V 0 0 0).st n) else left
/-- to the right, k columns from n on -/
noncomputable def extR (S : Sh) (V : Vw) (row : Nat) (tot : Int) : Nat → Nat → Int → Int
  | 0, _, right => right
  | k + 1, n, right => if right < tot ∧ passB S row n = true then extR S V row tot k (n + 1) ((colAx S V 0 0 0).st n + ((colAx S V 0 0 0).sz n : Int)) else right

/-- one cell's text -/
noncomputable def cellT (S : Sh) (V : Vw) (row c : Nat) : ByteArray := placeT (shown S.es row c) ((colAx S V 0 0 0).st c) ((colAx S V 0 0 0).st c + ((colAx S V 0 0 0).sz c : Int))
noncomputable def cellS (S : Sh) (V : Vw) (row c : Nat) : Int := placeS (shown S.es row c) ((colAx S V 0 0 0).st c) ((colAx S V 0 0 0).st c + ((colAx S V 0 0 0).sz c : Int))
noncomputable def cellL (S : Sh) (V : Vw) (i row c : Nat) : Int := extL S V row ((colAx S V 0 0 0).bFi i) (cellS S V row c) c ((colAx S V 0 0 0).st c)
noncomputable def cellR (S : Sh) (V : Vw) (i row c : Nat) : Int := extR S V row (cellS S V row c + ((cellT S V row c).size : Int)) ((colAx S V 0 0 0).bEn i - (c + 1)) (c + 1) ((colAx S V 0 0 0).st c + ((colAx S V 0 0 0).sz c : Int))
/-- one column's turn -/
noncomputable def rowStep (S : Sh) (V : Vw) (i row : Nat) (x0 x1 : Int) (L : Nat → Spot) (c : Nat) : Nat → Spot :=
  if passB S row c = true ∨ (mergeAt S.mg row c).isSome = true then L
  else drawOn L row c (cellT S V row c) (cellS S V row c) (max (max (cellL S V i row c) ((colAx S V 0 0 0).bLo i)) x0) (min (min (cellR S V i row c) ((colAx S V 0 0 0).bHi i)) x1)
noncomputable def rowK (S : Sh) (V : Vw) (i row : Nat) (x0 x1 : Int) (L : Nat → Spot) : Nat → Nat → Spot
  | 0 => L
  | k + 1 => rowStep S V i row x0 x1 (rowK S V i row x0 x1 L k) ((colAx S V 0 0 0).bFi i + k)
/-- all of the band's columns -/
noncomputable def rowAll (S : Sh) (V : Vw) (i row : Nat) (x0 x1 : Int) (L : Nat → Spot) : Nat → Spot := rowK S V i row x0 x1 L ((colAx S V 0 0 0).bEn i - (colAx S V 0 0 0).bFi i)

theorem placeS_small (s : Shn) (left right : Int) (h1 : -20000 ≤ left) (h2 : left ≤ right) (h3 : right ≤ 20000) (ht : s.text.size ≤ 65536) : -200000 ≤ placeS s left right ∧ placeS s left right ≤ 200000 := by
  have := half_small ((right - left) - (s.text.size : Int)) (by omega) (by omega)
  unfold placeS
  split
  · omega
  · split
    · omega
    · split <;> omega
theorem placeT_small (s : Shn) (left right : Int) (h1 : -20000 ≤ left) (h3 : right ≤ 20000) (ht : s.text.size ≤ 65536) : (placeT s left right).size ≤ 65536 := by
  unfold placeT
  split
  · rw [hashes_size]; omega
  · exact ht
theorem extL_small {S : Sh} {V : Vw} (hS : S.Ok) (hV : V.Ok) (row first : Nat) (st : Int) (n : Nat) (left : Int) (h : -10000 ≤ left ∧ left ≤ 10000) : -10000 ≤ extL S V row first st n left ∧ extL S V row first st n left ≤ 10000 := by
  induction n generalizing left with
  | zero => exact h
  | succ n ih =>
    simp only [extL]
    split
    · exact ih _ (((colOk hS hV).ok 0 0 0 _).st n)
    · exact h
end Go.Proofs.Qxb6500653a
