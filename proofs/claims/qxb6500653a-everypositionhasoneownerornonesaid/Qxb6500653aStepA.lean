/-
  Sheet.Step (30): widths, heights, hidden lines; no step of the sheet.
-/
import Derived.Test.Qxb6500653aSheetSet
namespace Go.Proofs.Qxb6500653a
open Go.RowKit

/-- one step of a script -/
structure Od where
  kind : Int
  a : Int
  b : Int
  c : Int
  d : Int
  text : ByteArray
def Od.v (o : Od) : Value := .agg #[.int .i64 o.kind, .int .i64 o.a, .int .i64 o.b, .int .i64 o.c, .int .i64 o.d, .string o.text]

/-- behind Step's first lines: the step and its address in blocks of their own, the count turned on -/
structure Pre (w w3 : World) (sb : Nat) (S : Sh) (n0 : Nat) (o : Od) : Prop where
  kp : Kp (one sb) w w3
  sh : SheetAt w3 sb S.tick
  o0 : w3.cell? ⟨n0, 0, none⟩ = some (.int .i64 o.kind)
  o1 : w3.cell? ⟨n0, 1, none⟩ = some (.int .i64 o.a)
  o2 : w3.cell? ⟨n0, 2, none⟩ = some (.int .i64 o.b)
  o3 : w3.cell? ⟨n0, 3, none⟩ = some (.int .i64 o.c)
  o4 : w3.cell? ⟨n0, 4, none⟩ = some (.int .i64 o.d)
  o5 : w3.cell? ⟨n0, 5, none⟩ = some (.string o.text)
  a0 : w3.cell? ⟨n0 + 1, 0, none⟩ = some (.int .i64 o.a)
  a1 : w3.cell? ⟨n0 + 1, 1, none⟩ = some (.int .i64 o.b)
  new : n0 = w.heap.size
theorem Pre.of {w : World} {sb : Nat} {S : Sh} (h : SheetAt w sb S) (o : Od) (w2 : World) (hw2 : w2 = (w.alloc (.cells #[.int .i64 o.kind, .int .i64 o.a, .int .i64 o.b, .int .i64 o.c, .int .i64 o.d, .string o.text] 28)).alloc (.cells #[.int .i64 o.a, .int .i64 o.b] 31)) :
    Pre w (w2.setCell ⟨sb, 182, none⟩ (.int .u64 ((S.steps : Int) + 1))) sb S w.heap.size o := by
  have k : Kp no w w2 := by rw [hw2]; exact ((Kp.refl _ _).alloc _).alloc _
  have hl := h.lt
  have n1 : sb ≠ w.heap.size := by omega
  have n2 : sb ≠ w.heap.size + 1 := by omega
  refine ⟨Kp.setCell (Kp.of_no (X := one sb) k) (p := ⟨sb, 182, none⟩) (fun _ => rfl) _, (h.on k).tick, ?_, ?_, ?_, ?_, ?_, ?_, ?_, ?_, rfl⟩
  all_goals first
    | (rw [World.cell?_setCell_far _ _ _ _ n1, hw2]; simp)
    | (rw [World.cell?_setCell_far _ _ _ _ n2, hw2]; simp)
theorem Kp.sh {sb : Nat} {S : Sh} {w w' : World} (k : Kp (one sb) w w') : Kp (shX sb S) w w' := k.mono fun _ _ h => Or.inl h

set_option maxRecDepth 100000 in
set_option maxHeartbeats 2000000 in
theorem step_other (w : World) (sb : Nat) (S : Sh) (h : SheetAt w sb S) (hS : S.Ok) (hst : S.steps < 1000000) (o : Od) (hk : ¬ (0 ≤ o.kind ∧ o.kind ≤ 6)) :
    Calls Try.prog 30 #[.pointer (some ⟨sb, 0, none⟩), .agg #[.int .i64 o.kind, .int .i64 o.a, .int .i64 o.b, .int .i64 o.c, .int .i64 o.d, .string o.text]] w (StepPost sb S o.kind w) := by
  obtain ⟨w2, hw2⟩ : ∃ w2, w2 = (w.alloc (.cells #[.int .i64 o.kind, .int .i64 o.a, .int .i64 o.b, .int .i64 o.c, .int .i64 o.d, .string o.text] 28)).alloc (.cells #[.int .i64 o.a, .int .i64 o.b] 31) := ⟨_, rfl⟩
  have hP := Pre.of h o w2 hw2
  have hl := h.lt
  have hl2 : sb < w.heap.size + 1 := by omega
  have c0 := h.st
  have f0 := h.free 182
  have q0 : (o.kind == 0) = false := by simp; omega
  have q1 : (o.kind == 1) = false := by simp; omega
  have q2 : (o.kind == 2) = false := by simp; omega
  have q3 : (o.kind == 3) = false := by simp; omega
  have q4 : (o.kind == 4) = false := by simp; omega
  have q5 : (o.kind == 5) = false := by simp; omega
  have q6 : (o.kind == 6) = false := by simp; omega
  have HD : Hid ((decide (0 ≤ o.kind) && decide (o.kind ≤ 6)) = false) := by show _ = _; simp; omega
  have HOK := (show Hid (S.tick.Ok) from Sh.tick_ok hS hst)
  have HKN : Hid (¬ (0 ≤ o.kind ∧ o.kind ≤ 6)) := hk
  clear hk
  go_enter Try.func30, Try.ntmps30
  go_upto_region 2 with fail
  rw [← hw2]
  have hS2 : SheetAt w2 sb S := h.on (by rw [hw2]; exact ((Kp.refl no w).alloc _).alloc _)
  have d0 := hS2.st
  have d1 := hS2.free 182
  clear hw2 hl hl2 c0 f0
  go_upto_region 3 with fail
  generalize w2.setCell ⟨sb, 182, none⟩ (.int .u64 ((S.steps : Int) + 1)) = w3 at hP ⊢
  generalize w.heap.size = n0 at hP ⊢
  have r0 := hP.o0
  clear d0 d1 hS2
  go_wp2_with fail
  go_ret2
  exact ⟨0, S.tick, by rw [HD.out]; rfl, hP.kp.sh, hP.sh, HOK.out, rfl, rfl, fun _ => rfl, Born.one h hP.kp _ rfl rfl⟩
end Go.Proofs.Qxb6500653a
