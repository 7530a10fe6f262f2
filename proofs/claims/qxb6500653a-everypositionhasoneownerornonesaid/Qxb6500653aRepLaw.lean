/-
  RepaintRepairsTheRectangleAndNoMore: the plain law: a line is painted position by position.
-/
import Derived.Test.Qxb6500653aFrame
namespace Go.Proofs.Qxb6500653a
open Go.RowKit

theorem drawOn_local {L L' : Nat → Spot} {x : Nat} (h : L x = L' x) (r c : Nat) (t : ByteArray) (s a b x0 x1 x0' x1' : Int) (h0 : x0 ≤ x) (h1 : (x : Int) < x1) (h0' : x0' ≤ x) (h1' : (x : Int) < x1') :
    drawOn L r c t s (max a x0) (min b x1) x = drawOn L' r c t s (max a x0') (min b x1') x := by
  unfold drawOn
  rw [h]
  by_cases hc : max s (max a x0) ≤ (x : Int) ∧ (x : Int) < min (s + t.size) (min b x1) ∧ (L' x).drawn = false
  · rw [if_pos hc, if_pos ⟨by omega, by omega, hc.2.2⟩]
  · rw [if_neg hc, if_neg (fun h' => hc ⟨by omega, by omega, h'.2.2⟩)]
theorem drawOn_out {L : Nat → Spot} {x : Nat} (r c : Nat) (t : ByteArray) (s a b x0 x1 : Int) (h : (x : Int) < x0 ∨ x1 ≤ (x : Int)) : drawOn L r c t s (max a x0) (min b x1) x = L x := by
  unfold drawOn
  exact if_neg (by omega)

section
variable (S : Sh) (V : Vw) (y r : Nat)
theorem rowStep_local (i : Nat) {L L' : Nat → Spot} {x : Nat} (h : L x = L' x) (c : Nat) (x0 x1 x0' x1' : Int) (h0 : x0 ≤ x) (h1 : (x : Int) < x1) (h0' : x0' ≤ x) (h1' : (x : Int) < x1') : rowStep S V i r x0 x1 L c x = rowStep S V i r x0' x1' L' c x := by
  unfold rowStep
  split
  · exact h
  · exact drawOn_local h _ _ _ _ _ _ _ _ _ _ h0 h1 h0' h1'
theorem rowStep_out (i : Nat) {L : Nat → Spot} {x : Nat} (c : Nat) (x0 x1 : Int) (h : (x : Int) < x0 ∨ x1 ≤ (x : Int)) : rowStep S V i r x0 x1 L c x = L x := by
  unfold rowStep
  split
  · rfl
  · exact drawOn_out _ _ _ _ _ _ _ _ h
theorem rowK_local (i : Nat) {L L' : Nat → Spot} {x : Nat} (h : L x = L' x) (x0 x1 x0' x1' : Int) (h0 : x0 ≤ x) (h1 : (x : Int) < x1) (h0' : x0' ≤ x) (h1' : (x : Int) < x1') : ∀ k, rowK S V i r x0 x1 L k x = rowK S V i r x0' x1' L' k x
  | 0 => h
  | k + 1 => rowStep_local S V r i (rowK_local i h x0 x1 x0' x1' h0 h1 h0' h1' k) _ _ _ _ _ h0 h1 h0' h1'
theorem rowK_out (i : Nat) {L : Nat → Spot} {x : Nat} (x0 x1 : Int) (h : (x : Int) < x0 ∨ x1 ≤ (x : Int)) : ∀ k, rowK S V i r x0 x1 L k x = L x
  | 0 => rfl
  | k + 1 => (rowStep_out S V r i _ _ _ h).trans (rowK_out i x0 x1 h k)
theorem mergeLine_local {L L' : Nat → Spot} {x : Nat} (h : L x = L' x) (x0 x1 x0' x1' : Nat) (h0 : x0 ≤ x) (h1 : x < x1) (h0' : x0' ≤ x) (h1' : x < x1') : ∀ k, mergeLine S V y x0 x1 L k x = mergeLine S V y x0' x1' L' k x
  | 0 => h
  | k + 1 => by
    have ih := mergeLine_local h x0 x1 x0' x1' h0 h1 h0' h1' k
    unfold mergeLine
    cases S.mg[k]? with
    | none => exact ih
    | some a =>
      show mergeStep S V y x0 x1 (mergeLine S V y x0 x1 L k) a x = mergeStep S V y x0' x1' (mergeLine S V y x0' x1' L' k) a x
      unfold mergeStep
      split
      · exact drawOn_local ih _ _ _ _ _ _ _ _ _ _ (by omega) (by omega) (by omega) (by omega)
      · exact ih
theorem mergeLine_out {L : Nat → Spot} {x : Nat} (x0 x1 : Nat) (h : x < x0 ∨ x1 ≤ x) : ∀ k, mergeLine S V y x0 x1 L k x = L x
  | 0 => rfl
  | k + 1 => by
    have ih := mergeLine_out (L := L) x0 x1 h k
    unfold mergeLine
    cases S.mg[k]? with
    | none => exact ih
    | some a =>
      show mergeStep S V y x0 x1 (mergeLine S V y x0 x1 L k) a x = L x
      unfold mergeStep
      split
      · exact (drawOn_out _ _ _ _ _ _ _ _ (by omega)).trans ih
      · exact ih
/-- what is painted at a position hangs on nothing else -/
theorem paint_local (L L' : Nat → Spot) {x x0 x1 x0' x1' : Nat} (h0 : x0 ≤ x) (h1 : x < x1) (h0' : x0' ≤ x) (h1' : x < x1') : paintOf S V y x0 x1 L x = paintOf S V y x0' x1' L' x := by
  have hs : struck L x0 x1 x = struck L' x0' x1' x := by
    unfold struck
    rw [if_pos ⟨h0, h1⟩, if_pos ⟨h0', h1'⟩]
  unfold paintOf
  split
  · exact hs
  · refine mergeLine_local S V y ?_ x0 x1 x0' x1' h0 h1 h0' h1' _
    have ho : ownLine S V (lnR S V y).toNat x0 x1 (struck L x0 x1) x = ownLine S V (lnR S V y).toNat x0' x1' (struck L' x0' x1') x := by
      unfold ownLine
      rw [hs]
      by_cases hc : 0 ≤ lnC S V x
      · rw [if_pos ⟨h0, h1, hc⟩, if_pos ⟨h0', h1', hc⟩]
      · rw [if_neg (fun h => hc h.2.2), if_neg (fun h => hc h.2.2)]
    unfold textLine2
    split
    · exact rowK_local S V _ 1 (rowK_local S V _ 0 ho _ _ _ _ (by omega) (by omega) (by omega) (by omega) _) _ _ _ _ (by omega) (by omega) (by omega) (by omega) _
    · exact ho
/-- and elsewhere nothing is -/
theorem paint_out (L : Nat → Spot) {x x0 x1 : Nat} (h : x < x0 ∨ x1 ≤ x) : paintOf S V y x0 x1 L x = L x := by
  have hs : struck L x0 x1 x = L x := by
    unfold struck
    exact if_neg (by omega)
  unfold paintOf
  split
  · exact hs
  · refine (mergeLine_out S V y x0 x1 h _).trans ?_
    have ho : ownLine S V (lnR S V y).toNat x0 x1 (struck L x0 x1) x = L x := by
      unfold ownLine
      rw [if_neg (by omega), hs]
    unfold textLine2
    split
    · exact (rowK_out S V _ 1 _ _ (by omega) _).trans ((rowK_out S V _ 0 _ _ (by omega) _).trans ho)
    · exact ho
end
/-- THE LAW -/
theorem rep_law (S : Sh) (V : Vw) (y0 x0 y1 x1 : Int) (F : Nat → Nat → Spot) {y x : Nat} (hx : x < 80) :
    repOf S V y0 x0 y1 x1 F y x = if y0 ≤ (y : Int) ∧ (y : Int) < y1 ∧ x0 ≤ (x : Int) ∧ (x : Int) < x1 then frameOf S V y x else F y x := by
  unfold repOf frameOf
  by_cases hy : y0 ≤ (y : Int) ∧ (y : Int) < y1 ∧ max x0 0 < min x1 80
  · rw [if_pos hy]
    by_cases hc : x0 ≤ (x : Int) ∧ (x : Int) < x1
    · rw [if_pos ⟨hy.1, hy.2.1, hc.1, hc.2⟩]
      exact paint_local S V y _ _ (by omega) (by omega) (by omega) hx
    · rw [if_neg (fun h => hc ⟨h.2.2.1, h.2.2.2⟩)]
      exact paint_out S V y _ (by omega)
  · rw [if_neg hy, if_neg (fun h => hy ⟨h.1, h.2.1, by omega⟩)]
end Go.Proofs.Qxb6500653a
