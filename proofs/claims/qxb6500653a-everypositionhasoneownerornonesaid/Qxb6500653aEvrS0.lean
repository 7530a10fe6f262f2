/-
  EveryPosition (3): the state of the walk over a line.
-/
import Derived.Test.Qxb6500653aEvrQ
namespace Go.Proofs.Qxb6500653a
open Go.RowKit

theorem FrameAt.lcs3 {w : World} {fb : Nat} {F : Nat → Nat → Spot} (h : FrameAt w fb F) {y : Nat} (hy : y < 24) : ∃ cs : List Value, cs.length = 560 ∧ w.rangeAt fb (y * 560) cs ∧ ∀ x : Nat, x < 80 → ∀ Z : World, (Instr.index 53 (.agg cs.toArray) (.int .i64 (x : Int))).run Try.prog Z =
    .ok (.agg #[.bool (F y x).own, .int .i64 ((F y x).oR : Int), .int .i64 ((F y x).oC : Int), .bool (F y x).drawn, .int .i64 ((F y x).fR : Int), .int .i64 ((F y x).fC : Int), .int .u8 ((F y x).ch : Int)]) Z :=
  ⟨lcells (F y), lcells_len _, line_range h hy, fun _ hx Z => run_index53 (F y) hx Z⟩
theorem neq52z (W : World) : (binOp .neq 52 (.agg #[.bool false, .int .i64 0, .int .i64 0, .bool false, .int .i64 0, .int .i64 0, .int .u8 0]) (.agg #[.bool false, .int .i64 0, .int .i64 0, .bool false, .int .i64 0, .int .i64 0, .int .u8 0])).run Try.prog W = .ok (.bool false) W := by
  simp [go_sem]
/-- the loop's state -/
def EvSx (qb fb vb cb ib y : Nat) (cs : List Value) (w51 : World) (s34 s35 s36 : Value) (a' : Act) (wq : World) : Prop :=
  ∃ (T : Array Value) (x : Nat), a' = ⟨T, []⟩ ∧ T.size = 432 ∧ Knows T [(3, .pointer (some ⟨qb, 0, none⟩)), (6, .pointer (some ⟨fb, 0, none⟩)), (7, .pointer (some ⟨vb, 0, none⟩)), (8, .pointer (some ⟨cb, 0, none⟩)), (9, .pointer (some ⟨ib, 0, none⟩)), (34, s34), (35, s35), (36, s36), (285, .int .i64 (y : Int)), (24, .int .i64 (y : Int)), (292, .agg cs.toArray), (293, .int .i64 (x : Int))] ∧ x ≤ 80 ∧ Kp no w51 wq
/-- its end -/
def EdSx (qb fb vb cb ib y : Nat) (w51 : World) (s34 s35 s36 : Value) (T' : Array Value) (w' : World) : Prop := T'.size = 432 ∧ Knows T' [(3, .pointer (some ⟨qb, 0, none⟩)), (6, .pointer (some ⟨fb, 0, none⟩)), (7, .pointer (some ⟨vb, 0, none⟩)), (8, .pointer (some ⟨cb, 0, none⟩)), (9, .pointer (some ⟨ib, 0, none⟩)), (34, s34), (35, s35), (36, s36), (285, .int .i64 (y : Int))] ∧ Kp no w51 w'
end Go.Proofs.Qxb6500653a
