/-
  newAxis (48): its states; the axis that it makes.
-/
import Derived.Test.Qxb6500653aLay
namespace Go.Proofs.Qxb6500653a
open Go.RowKit

theorem info3 : (Try.prog.info? 3).map (fun i => (i.zero, i.size, i.bytes)) = some (some (.int .i64 0), 1, 8) := by kernel_rfl
theorem make_ints (n : Nat) (hn : n ≤ 65536) (w : World) : (Instr.makeSlice 111 (.int .i64 (n : Int)) (.int .i64 (n : Int))).run Try.prog w = .ok (.slice (some ⟨w.heap.size, 0, none⟩) n n) (w.alloc (.cells (madeCells #[.int .i64 0] n) 3)) := by
  obtain ⟨i0, hi, hz0, hz1, hz2⟩ := info_parts info3
  have := run_make (P := Try.prog) w 111 3 i0 _ Try.underlying111 hi hz0 .i64 .i64 (n : Int) (n : Int) (by omega) (Int.le_refl _) (by rw [hz2]; omega) (by omega)
  rw [this]
  simp [hz1, Value.cells]

/-- what newAxis has made so far -/
structure AxSt (w0 wr : World) (ab zb tb lb n m : Nat) (z t l : Nat → Int) (B : Nat → Int) : Prop where
  kp : Kp no w0 wr
  c0 : wr.cell? ⟨ab, 0, none⟩ = some (.slice (some ⟨zb, 0, none⟩) n n)
  c1 : wr.cell? ⟨ab, 1, none⟩ = some (.slice (some ⟨tb, 0, none⟩) n n)
  cb : ∀ j, j < 8 → wr.cell? ⟨ab, 2 + j, none⟩ = some (.int .i64 (B j))
  c10 : wr.cell? ⟨ab, 10, none⟩ = some (.slice (some ⟨lb, 0, none⟩) m m)
  free : ∀ o, wr.frozen? ⟨ab, o, none⟩ = false
  rz : IRow wr zb n z
  rt : IRow wr tb n t
  rl : IRow wr lb m l
  nz : w0.heap.size ≤ zb
  nt : w0.heap.size ≤ tb
  nl : w0.heap.size ≤ lb
  na : w0.heap.size ≤ ab
  zt : zb ≠ tb
  zl : zb ≠ lb
  tl : tb ≠ lb
  za : zb ≠ ab
  ta : tb ≠ ab
  la : lb ≠ ab

theorem IRow.made (w : World) (n : Nat) : IRow (w.alloc (.cells (madeCells #[.int .i64 0] n) 3)) w.heap.size n (fun _ => 0) :=
  ⟨fun i hi => by simp [madeCells, hi, Nat.mod_one], fun i => by simp, by simp⟩

theorem three (w : World) (a b c : Nat) (W : World) (hW : W = ((w.alloc (.cells (madeCells #[.int .i64 0] a) 3)).alloc (.cells (madeCells #[.int .i64 0] b) 3)).alloc (.cells (madeCells #[.int .i64 0] c) 3)) :
    IRow W w.heap.size a (fun _ => 0) ∧ IRow W (w.heap.size + 1) b (fun _ => 0) ∧ IRow W (w.heap.size + 1 + 1) c (fun _ => 0) ∧ Kp no w W ∧ w.heap.size + 1 + 1 + 1 = W.heap.size := by
  subst hW
  have ka : ∀ (v : World) o, Kp no v (v.alloc o) := fun v o => (Kp.refl _ _).alloc o
  have e1 : (w.alloc (.cells (madeCells #[.int .i64 0] a) 3)).heap.size = w.heap.size + 1 := by simp
  have e2 : ((w.alloc (.cells (madeCells #[.int .i64 0] a) 3)).alloc (.cells (madeCells #[.int .i64 0] b) 3)).heap.size = w.heap.size + 1 + 1 := by simp
  have r0 := IRow.made w a
  have r1 := IRow.made (w.alloc (.cells (madeCells #[.int .i64 0] a) 3)) b
  have r2 := IRow.made ((w.alloc (.cells (madeCells #[.int .i64 0] a) 3)).alloc (.cells (madeCells #[.int .i64 0] b) 3)) c
  rw [e1] at r1
  rw [e2] at r2
  exact ⟨(r0.kp (ka _ _) id).kp (ka _ _) id, r1.kp (ka _ _) id, r2, (((Kp.refl _ _).alloc _).alloc _).alloc _, by simp⟩

theorem AxSt.made {w0 w3 : World} {zb tb lb n m : Nat} (k : Kp no w0 w3) (rz : IRow w3 zb n (fun _ => 0)) (rt : IRow w3 tb n (fun _ => 0)) (rl : IRow w3 lb m (fun _ => 0)) (nz : w0.heap.size ≤ zb) (nt : w0.heap.size ≤ tb) (nl : w0.heap.size ≤ lb)
    (zt : zb ≠ tb) (zl : zb ≠ lb) (tl : tb ≠ lb) (ty : TypeId) (ab : Nat) (hab : ab = w3.heap.size) :
    AxSt w0 (w3.alloc (.cells #[.slice (some ⟨zb, 0, none⟩) n n, .slice (some ⟨tb, 0, none⟩) n n, .int .i64 0, .int .i64 0, .int .i64 0, .int .i64 0, .int .i64 0, .int .i64 0, .int .i64 0, .int .i64 0, .slice (some ⟨lb, 0, none⟩) m m] ty)) ab zb tb lb n m (fun _ => 0) (fun _ => 0) (fun _ => 0) (fun _ => 0) := by
  subst hab
  have ka : ∀ o, Kp no w3 (w3.alloc o) := fun o => (Kp.refl _ _).alloc o
  refine ⟨k.alloc _, by simp, by simp, fun j hj => ?_, by simp, fun o => by simp, rz.kp (ka _) id, rt.kp (ka _) id, rl.kp (ka _) id, nz, nt, nl, k.size, zt, zl, tl, Nat.ne_of_lt rz.lt, Nat.ne_of_lt rt.lt, Nat.ne_of_lt rl.lt⟩
  have : j = 0 ∨ j = 1 ∨ j = 2 ∨ j = 3 ∨ j = 4 ∨ j = 5 ∨ j = 6 ∨ j = 7 := by omega
  rcases this with rfl | rfl | rfl | rfl | rfl | rfl | rfl | rfl <;> simp

section
variable {w0 wr : World} {ab zb tb lb n m : Nat} {z t l : Nat → Int} {B : Nat → Int} (h : AxSt w0 wr ab zb tb lb n m z t l B)
include h
theorem AxSt.lt : ab < wr.heap.size := cell_lt h.c0
theorem AxSt.on {w' : World} (k : Kp no wr w') : AxSt w0 w' ab zb tb lb n m z t l B :=
  ⟨h.kp.trans k, k.cell h.c0 id, k.cell h.c1 id, fun j hj => k.cell (h.cb j hj) id, k.cell h.c10 id, fun o => (k.frozen (p := ⟨ab, o, none⟩) h.lt id).trans (h.free o), h.rz.kp k id, h.rt.kp k id, h.rl.kp k id, h.nz, h.nt, h.nl, h.na, h.zt, h.zl, h.tl, h.za, h.ta, h.la⟩
theorem AxSt.setZ {i : Nat} (hi : i < n) (v : Int) : AxSt w0 (wr.setCell ⟨zb, i, none⟩ (.int .i64 v)) ab zb tb lb n m (fun k => if k = i then v else z k) t l B := by
  have k : Kp (one zb) wr (wr.setCell ⟨zb, i, none⟩ (.int .i64 v)) := Kp.set _ _ rfl
  exact ⟨h.kp.setCell (fun h' => absurd h' (Nat.not_lt.2 h.nz)) _, k.cell h.c0 h.za.symm, k.cell h.c1 h.za.symm, fun j hj => k.cell (h.cb j hj) h.za.symm, k.cell h.c10 h.za.symm, fun o => (k.frozen (p := ⟨ab, o, none⟩) h.lt h.za.symm).trans (h.free o), h.rz.set hi v, h.rt.kp k h.zt.symm, h.rl.kp k h.zl.symm, h.nz, h.nt, h.nl, h.na, h.zt, h.zl, h.tl, h.za, h.ta, h.la⟩
theorem AxSt.setT {i : Nat} (hi : i < n) (v : Int) : AxSt w0 (wr.setCell ⟨tb, i, none⟩ (.int .i64 v)) ab zb tb lb n m z (fun k => if k = i then v else t k) l B := by
  have k : Kp (one tb) wr (wr.setCell ⟨tb, i, none⟩ (.int .i64 v)) := Kp.set _ _ rfl
  exact ⟨h.kp.setCell (fun h' => absurd h' (Nat.not_lt.2 h.nt)) _, k.cell h.c0 h.ta.symm, k.cell h.c1 h.ta.symm, fun j hj => k.cell (h.cb j hj) h.ta.symm, k.cell h.c10 h.ta.symm, fun o => (k.frozen (p := ⟨ab, o, none⟩) h.lt h.ta.symm).trans (h.free o), h.rz.kp k h.zt, h.rt.set hi v, h.rl.kp k h.tl.symm, h.nz, h.nt, h.nl, h.na, h.zt, h.zl, h.tl, h.za, h.ta, h.la⟩
theorem AxSt.setL {i : Nat} (hi : i < m) (v : Int) : AxSt w0 (wr.setCell ⟨lb, i, none⟩ (.int .i64 v)) ab zb tb lb n m z t (fun k => if k = i then v else l k) B := by
  have k : Kp (one lb) wr (wr.setCell ⟨lb, i, none⟩ (.int .i64 v)) := Kp.set _ _ rfl
  exact ⟨h.kp.setCell (fun h' => absurd h' (Nat.not_lt.2 h.nl)) _, k.cell h.c0 h.la.symm, k.cell h.c1 h.la.symm, fun j hj => k.cell (h.cb j hj) h.la.symm, k.cell h.c10 h.la.symm, fun o => (k.frozen (p := ⟨ab, o, none⟩) h.lt h.la.symm).trans (h.free o), h.rz.kp k h.zl, h.rt.kp k h.tl, h.rl.set hi v, h.nz, h.nt, h.nl, h.na, h.zt, h.zl, h.tl, h.za, h.ta, h.la⟩
theorem AxSt.setB {j : Nat} (hj : j < 8) (v : Int) : AxSt w0 (wr.setCell ⟨ab, 2 + j, none⟩ (.int .i64 v)) ab zb tb lb n m z t l (fun k => if k = j then v else B k) := by
  have k : Kp (one ab) wr (wr.setCell ⟨ab, 2 + j, none⟩ (.int .i64 v)) := Kp.set _ _ rfl
  have c : ∀ o u, o ≠ 2 + j → wr.cell? ⟨ab, o, none⟩ = some u → (wr.setCell ⟨ab, 2 + j, none⟩ (.int .i64 v)).cell? ⟨ab, o, none⟩ = some u := fun o u ho hu => (cset_ne _ _ _ _ _ (Ne.symm ho)).trans hu
  refine ⟨h.kp.setCell (fun h' => absurd h' (Nat.not_lt.2 h.na)) _, c _ _ (by omega) h.c0, c _ _ (by omega) h.c1, fun i hi => ?_, c _ _ (by omega) h.c10, fun o => by rw [World.frozen?_setCell]; exact h.free o, h.rz.kp k h.za, h.rt.kp k h.ta, h.rl.kp k h.la, h.nz, h.nt, h.nl, h.na, h.zt, h.zl, h.tl, h.za, h.ta, h.la⟩
  by_cases e : i = j
  · subst e; rw [if_pos rfl]; exact cset_eq _ _ _ _ (h.cb i hi)
  · rw [if_neg e]; exact c _ _ (by omega) (h.cb i hi)
theorem AxSt.cong {z' t' l' : Nat → Int} {B' : Nat → Int} (ez : ∀ i, i < n → z i = z' i) (et : ∀ i, i < n → t i = t' i) (el : ∀ i, i < m → l i = l' i) (eB : ∀ j, j < 8 → B j = B' j) : AxSt w0 wr ab zb tb lb n m z' t' l' B' :=
  ⟨h.kp, h.c0, h.c1, fun j hj => by rw [← eB j hj]; exact h.cb j hj, h.c10, h.free, h.rz.cong ez, h.rt.cong et, h.rl.cong el, h.nz, h.nt, h.nl, h.na, h.zt, h.zl, h.tl, h.za, h.ta, h.la⟩
end
end Go.Proofs.Qxb6500653a
