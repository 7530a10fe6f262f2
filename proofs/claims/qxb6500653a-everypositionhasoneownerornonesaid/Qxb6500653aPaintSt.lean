/-
  paintLine (44): what it leaves, as a plain function.
-/
import Derived.Test.Qxb6500653aDrawRowSt
import Derived.Test.Qxb6500653aClear
namespace Go.Proofs.Qxb6500653a
open Go.RowKit

/-- drawRow, as paintLine needs it -/
def DrawRowOk : Prop := ∀ (w : World) (g off : Nat) (L : Nat → Spot), LineAt w g off L → (∃ b, w.cell? ⟨g, 0, none⟩ = some (.bool b)) → ∀ (lb sb cb : Nat) (S : Sh) (V : Vw), SheetAt w sb S → w.cell? ⟨lb, 0, none⟩ = some (srcV sb) → (∃ zb tb l, AxAt w cb (colAx S V zb tb l)) → S.Ok → V.Ok →
    ∀ (i bo : Nat), i < 2 → bo = 2 + i * 4 → ∀ (row x0 x1 : Nat), row < 64 → x1 ≤ 80 →
    Calls Try.prog 56 #[.pointer (some ⟨lb, 0, none⟩), .slice (some ⟨g, off, none⟩) 80 80, .pointer (some ⟨cb, 0, none⟩), .pointer (some ⟨cb, bo, none⟩), .int .i64 (row : Int), .int .i64 (x0 : Int), .int .i64 (x1 : Int)] w
      fun e w' => e = .returned (.tuple #[]) ∧ LineAt w' g off (rowAll S V i row x0 x1 L) ∧ LinePut g off w w'

/-- the owners -/
def ownLine (S : Sh) (V : Vw) (r x0 x1 : Nat) (L : Nat → Spot) (x : Nat) : Spot :=
  if x0 ≤ x ∧ x < x1 ∧ 0 ≤ lnC S V x then { L x with own := true, oR := ownR S.mg r (lnC S V x).toNat, oC := ownC S.mg r (lnC S V x).toNat } else L x
/-- the band that bears a merge's text in an axis -/
noncomputable def homeI (A : Ax) (f t : Nat) : Nat := by
  classical
  exact if A.in0 f t then 0 else 1
def Ax.spanB (A : Ax) (i f t : Nat) : Int × Int := if i = 0 then A.span0 f t else A.span1 f t
/-- the line on which a merge's text stands; is it shown? -/
noncomputable def tlY (A : Ax) (f t : Nat) : Int := (A.spanB (homeI A f t) f t).1
noncomputable def tlOk (A : Ax) (f t : Nat) : Bool := tlB (A.spanB (homeI A f t) f t).1 (A.spanB (homeI A f t) f t).2 (A.bLo (homeI A f t)) (A.bHi (homeI A f t))
/-- one merge's turn -/
noncomputable def mergeStep (S : Sh) (V : Vw) (y x0 x1 : Nat) (L : Nat → Spot) (a : Ar) : Nat → Spot :=
  if tlOk (rowAx S V 0 0 0) a.t a.b = true ∧ tlY (rowAx S V 0 0 0) a.t a.b = (y : Int) then
    drawOn L a.t a.l (placeT (shown S.es a.t a.l) ((colAx S V 0 0 0).spanB (homeI (colAx S V 0 0 0) a.l a.r) a.l a.r).1 ((colAx S V 0 0 0).spanB (homeI (colAx S V 0 0 0) a.l a.r) a.l a.r).2)
      (placeS (shown S.es a.t a.l) ((colAx S V 0 0 0).spanB (homeI (colAx S V 0 0 0) a.l a.r) a.l a.r).1 ((colAx S V 0 0 0).spanB (homeI (colAx S V 0 0 0) a.l a.r) a.l a.r).2)
      (max (max ((colAx S V 0 0 0).spanB (homeI (colAx S V 0 0 0) a.l a.r) a.l a.r).1 ((colAx S V 0 0 0).bLo (homeI (colAx S V 0 0 0) a.l a.r))) x0)
      (min (min ((colAx S V 0 0 0).spanB (homeI (colAx S V 0 0 0) a.l a.r) a.l a.r).2 ((colAx S V 0 0 0).bHi (homeI (colAx S V 0 0 0) a.l a.r))) x1)
  else L
noncomputable def mergeLine (S : Sh) (V : Vw) (y x0 x1 : Nat) (L : Nat → Spot) : Nat → Nat → Spot
  | 0 => L
  | k + 1 => match S.mg[k]? with
    | some a => mergeStep S V y x0 x1 (mergeLine S V y x0 x1 L k) a
    | none => mergeLine S V y x0 x1 L k
/-- the cells' texts of the row, where it begins on this line -/
noncomputable def textLine2 (S : Sh) (V : Vw) (r y x0 x1 : Nat) (L : Nat → Spot) : Nat → Spot :=
  if (rowAx S V 0 0 0).st r = (y : Int) then rowAll S V 1 r x0 x1 (rowAll S V 0 r x0 x1 L) else L
/-- all of it -/
noncomputable def paintOf (S : Sh) (V : Vw) (y x0 x1 : Nat) (L : Nat → Spot) : Nat → Spot :=
  if lnR S V y < 0 then struck L x0 x1
  else mergeLine S V y x0 x1 (textLine2 S V (lnR S V y).toNat y x0 x1 (ownLine S V (lnR S V y).toNat x0 x1 (struck L x0 x1))) S.mg.length

/-- a position's owner written -/
def put3o (w : World) (g o : Nat) (v0 v1 v2 : Value) : World := ((w.setCell ⟨g, o, none⟩ v0).setCell ⟨g, o + 1, none⟩ v1).setCell ⟨g, o + 2, none⟩ v2
theorem put3o_out {w : World} {g o : Nat} {x0 x1 x2 : Value} {j : Nat} (h : j < o ∨ o + 2 < j) : (put3o w g o x0 x1 x2).cell? ⟨g, j, none⟩ = w.cell? ⟨g, j, none⟩ := by
  unfold put3o
  rw [cset_ne _ _ _ _ _ (by omega), cset_ne _ _ _ _ _ (by omega), cset_ne _ _ _ _ _ (by omega)]
theorem LineAt.owner {w : World} {g off : Nat} {L : Nat → Spot} (h : LineAt w g off L) {x : Nat} (hx : x < 80) (r c : Nat) :
    LineAt (put3o w g (off + x * 7) (.bool true) (.int .i64 (r : Int)) (.int .i64 (c : Int))) g off (fun q => if q = x then { L x with own := true, oR := r, oC := c } else L q) ∧
    LinePut g off w (put3o w g (off + x * 7) (.bool true) (.int .i64 (r : Int)) (.int .i64 (c : Int))) := by
  have hs := h.at_ x hx
  refine ⟨⟨fun q hq => ?_, fun o => ?_⟩, ?_, fun o ho => put3o_out (by omega)⟩
  · by_cases e : q = x
    · subst e
      rw [if_pos rfl]
      refine ⟨?_, ?_, ?_, (put3o_out (by omega)).trans hs.c3, (put3o_out (by omega)).trans hs.c4, (put3o_out (by omega)).trans hs.c5, (put3o_out (by omega)).trans hs.c6⟩
      · exact keepc (by omega) (keepc (by omega) (cset_eq _ _ _ _ hs.c0))
      · exact keepc (by omega) (cset_eq _ _ _ _ (keepc (by omega) hs.c1))
      · exact cset_eq _ _ _ _ (keepc (by omega) (keepc (by omega) hs.c2))
    · rw [if_neg e]
      exact (h.at_ q hq).same fun j hj => put3o_out (by omega)
  · unfold put3o
    rw [World.frozen?_setCell, World.frozen?_setCell, World.frozen?_setCell]
    exact h.free o
  · exact Kp.setCell (Kp.setCell (Kp.setCell (Kp.refl (one g) w) (p := ⟨g, _, none⟩) (fun _ => rfl) _) (p := ⟨g, _, none⟩) (fun _ => rfl) _) (p := ⟨g, _, none⟩) (fun _ => rfl) _
end Go.Proofs.Qxb6500653a
