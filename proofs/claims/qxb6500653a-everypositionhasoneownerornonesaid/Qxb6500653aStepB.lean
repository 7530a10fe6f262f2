/-
  Sheet.Step (30): widths, heights, hidden lines.
-/
import Derived.Test.Qxb6500653aStepA
namespace Go.Proofs.Qxb6500653a
open Go.RowKit

set_option maxRecDepth 100000 in
set_option maxHeartbeats 2000000 in
theorem step_width (w : World) (sb : Nat) (S : Sh) (h : SheetAt w sb S) (hS : S.Ok) (hst : S.steps < 1000000) (a b c d : Int) (tx : ByteArray) :
    Calls Try.prog 30 #[.pointer (some ⟨sb, 0, none⟩), .agg #[.int .i64 1, .int .i64 a, .int .i64 b, .int .i64 c, .int .i64 d, .string tx]] w (StepPost sb S 1 w) := by
  obtain ⟨w2, hw2⟩ : ∃ w2, w2 = (w.alloc (.cells #[.int .i64 1, .int .i64 a, .int .i64 b, .int .i64 c, .int .i64 d, .string tx] 28)).alloc (.cells #[.int .i64 a, .int .i64 b] 31) := ⟨_, rfl⟩
  have hP : Pre w (w2.setCell ⟨sb, 182, none⟩ (.int .u64 ((S.steps : Int) + 1))) sb S w.heap.size ⟨1, a, b, c, d, tx⟩ := Pre.of h ⟨1, a, b, c, d, tx⟩ w2 hw2
  have HOK : Hid (S.tick.Ok) := Sh.tick_ok hS hst
  have hS2 : SheetAt w2 sb S := h.on (by rw [hw2]; exact ((Kp.refl no w).alloc _).alloc _)
  have d0 := hS2.st
  have d1 := hS2.free 182
  have hsl := h.lt
  by_cases g1 : a < 0
  · have q1 : decide (a < 0) = true := by simp [g1]
    go_enter Try.func30, Try.ntmps30
    go_upto_region 2 with fail
    rw [← hw2]
    clear hw2
    go_upto_region 3 with fail
    generalize w2.setCell ⟨sb, 182, none⟩ (.int .u64 ((S.steps : Int) + 1)) = w3 at hP ⊢
    generalize w.heap.size = n0 at hP hsl ⊢
    have r0 := hP.o0
    have r1 := hP.o1
    have r2 := hP.o2
    clear d0 d1 hS2
    go_wp2_with fail
    go_ret2
    exact ⟨1, S.tick, rfl, hP.kp.sh, hP.sh, HOK.out, rfl, rfl, fun h => absurd h (by decide), Born.one h hP.kp _ rfl rfl⟩
  have q1 : decide (a < 0) = false := by simp; omega
  by_cases g2 : 26 ≤ a
  · have q2 : decide (26 ≤ a) = true := by simp [g2]
    go_enter Try.func30, Try.ntmps30
    go_upto_region 2 with fail
    rw [← hw2]
    clear hw2
    go_upto_region 3 with fail
    generalize w2.setCell ⟨sb, 182, none⟩ (.int .u64 ((S.steps : Int) + 1)) = w3 at hP ⊢
    generalize w.heap.size = n0 at hP hsl ⊢
    have r0 := hP.o0
    have r1 := hP.o1
    have r2 := hP.o2
    clear d0 d1 hS2
    go_wp2_with fail
    go_ret2
    exact ⟨1, S.tick, rfl, hP.kp.sh, hP.sh, HOK.out, rfl, rfl, fun h => absurd h (by decide), Born.one h hP.kp _ rfl rfl⟩
  have q2 : decide (26 ≤ a) = false := by simp; omega
  by_cases g3 : b < 1
  · have q3 : decide (b < 1) = true := by simp [g3]
    go_enter Try.func30, Try.ntmps30
    go_upto_region 2 with fail
    rw [← hw2]
    clear hw2
    go_upto_region 3 with fail
    generalize w2.setCell ⟨sb, 182, none⟩ (.int .u64 ((S.steps : Int) + 1)) = w3 at hP ⊢
    generalize w.heap.size = n0 at hP hsl ⊢
    have r0 := hP.o0
    have r1 := hP.o1
    have r2 := hP.o2
    clear d0 d1 hS2
    go_wp2_with fail
    go_ret2
    exact ⟨2, S.tick, rfl, hP.kp.sh, hP.sh, HOK.out, rfl, rfl, fun h => absurd h (by decide), Born.one h hP.kp _ rfl rfl⟩
  have q3 : decide (b < 1) = false := by simp; omega
  by_cases g4 : 80 < b
  · have q4 : decide (80 < b) = true := by simp [g4]
    go_enter Try.func30, Try.ntmps30
    go_upto_region 2 with fail
    rw [← hw2]
    clear hw2
    go_upto_region 3 with fail
    generalize w2.setCell ⟨sb, 182, none⟩ (.int .u64 ((S.steps : Int) + 1)) = w3 at hP ⊢
    generalize w.heap.size = n0 at hP hsl ⊢
    have r0 := hP.o0
    have r1 := hP.o1
    have r2 := hP.o2
    clear d0 d1 hS2
    go_wp2_with fail
    go_ret2
    exact ⟨2, S.tick, rfl, hP.kp.sh, hP.sh, HOK.out, rfl, rfl, fun h => absurd h (by decide), Born.one h hP.kp _ rfl rfl⟩
  have q4 : decide (80 < b) = false := by simp; omega
  obtain ⟨an, rfl⟩ : ∃ an : Nat, a = (an : Int) := ⟨a.toNat, by omega⟩
  obtain ⟨bn, rfl⟩ : ∃ bn : Nat, b = (bn : Int) := ⟨b.toNat, by omega⟩
  have ha : an < 26 := by omega
  have hb : 1 ≤ bn ∧ bn ≤ 80 := by omega
  have HO2 : Hid (Sh.Ok { S.tick with wd := fun k => if k = an then bn else S.tick.wd k }) := by
    have h0 := HOK.out
    exact ⟨fun k => by show 1 ≤ (if k = an then bn else S.wd k) ∧ (if k = an then bn else S.wd k) ≤ 80; split <;> first | exact hb | exact h0.wd k, h0.ht, h0.few, h0.each, h0.apart, h0.es, h0.steps⟩
  go_enter Try.func30, Try.ntmps30
  go_upto_region 2 with fail
  rw [← hw2]
  clear hw2
  go_upto_region 3 with fail
  generalize w2.setCell ⟨sb, 182, none⟩ (.int .u64 ((S.steps : Int) + 1)) = w3 at hP ⊢
  generalize w.heap.size = n0 at hP hsl ⊢
  have r0 := hP.o0
  have r1 := hP.o1
  have r2 := hP.o2
  clear d0 d1 hS2
  have y0 := hP.sh.wd an ha
  have y1 := hP.sh.free (an)
  have hne : sb ≠ n0 := by omega
  have hSet := hP.sh.setWd (a := an) (b := bn) ha
  have HKp : Hid (Kp (one sb) w (w3.setCell ⟨sb, an, none⟩ (.int .i64 (bn : Int)))) := Kp.setCell hP.kp (p := ⟨sb, an, none⟩) (fun _ => rfl) _
  have i1 : (an : Int) < 26 := by omega
  go_wp2_with fail
  go_region
  all_goals go_wp2_with fail
  all_goals go_ret2
  all_goals exact ⟨0, _, rfl, HKp.out.drew.sh, hSet.on (Kp.refl _ _).drew, HO2.out, rfl, rfl, fun h => absurd h (by decide), Born.one h HKp.out.drew _ rfl rfl⟩

set_option maxRecDepth 100000 in
set_option maxHeartbeats 2000000 in
theorem step_height (w : World) (sb : Nat) (S : Sh) (h : SheetAt w sb S) (hS : S.Ok) (hst : S.steps < 1000000) (a b c d : Int) (tx : ByteArray) :
    Calls Try.prog 30 #[.pointer (some ⟨sb, 0, none⟩), .agg #[.int .i64 2, .int .i64 a, .int .i64 b, .int .i64 c, .int .i64 d, .string tx]] w (StepPost sb S 2 w) := by
  obtain ⟨w2, hw2⟩ : ∃ w2, w2 = (w.alloc (.cells #[.int .i64 2, .int .i64 a, .int .i64 b, .int .i64 c, .int .i64 d, .string tx] 28)).alloc (.cells #[.int .i64 a, .int .i64 b] 31) := ⟨_, rfl⟩
  have hP : Pre w (w2.setCell ⟨sb, 182, none⟩ (.int .u64 ((S.steps : Int) + 1))) sb S w.heap.size ⟨2, a, b, c, d, tx⟩ := Pre.of h ⟨2, a, b, c, d, tx⟩ w2 hw2
  have HOK : Hid (S.tick.Ok) := Sh.tick_ok hS hst
  have hS2 : SheetAt w2 sb S := h.on (by rw [hw2]; exact ((Kp.refl no w).alloc _).alloc _)
  have d0 := hS2.st
  have d1 := hS2.free 182
  have hsl := h.lt
  by_cases g1 : a < 0
  · have q1 : decide (a < 0) = true := by simp [g1]
    go_enter Try.func30, Try.ntmps30
    go_upto_region 2 with fail
    rw [← hw2]
    clear hw2
    go_upto_region 3 with fail
    generalize w2.setCell ⟨sb, 182, none⟩ (.int .u64 ((S.steps : Int) + 1)) = w3 at hP ⊢
    generalize w.heap.size = n0 at hP hsl ⊢
    have r0 := hP.o0
    have r1 := hP.o1
    have r2 := hP.o2
    clear d0 d1 hS2
    go_wp2_with fail
    go_ret2
    exact ⟨1, S.tick, rfl, hP.kp.sh, hP.sh, HOK.out, rfl, rfl, fun h => absurd h (by decide), Born.one h hP.kp _ rfl rfl⟩
  have q1 : decide (a < 0) = false := by simp; omega
  by_cases g2 : 64 ≤ a
  · have q2 : decide (64 ≤ a) = true := by simp [g2]
    go_enter Try.func30, Try.ntmps30
    go_upto_region 2 with fail
    rw [← hw2]
    clear hw2
    go_upto_region 3 with fail
    generalize w2.setCell ⟨sb, 182, none⟩ (.int .u64 ((S.steps : Int) + 1)) = w3 at hP ⊢
    generalize w.heap.size = n0 at hP hsl ⊢
    have r0 := hP.o0
    have r1 := hP.o1
    have r2 := hP.o2
    clear d0 d1 hS2
    go_wp2_with fail
    go_ret2
    exact ⟨1, S.tick, rfl, hP.kp.sh, hP.sh, HOK.out, rfl, rfl, fun h => absurd h (by decide), Born.one h hP.kp _ rfl rfl⟩
  have q2 : decide (64 ≤ a) = false := by simp; omega
  by_cases g3 : b < 1
  · have q3 : decide (b < 1) = true := by simp [g3]
    go_enter Try.func30, Try.ntmps30
    go_upto_region 2 with fail
    rw [← hw2]
    clear hw2
    go_upto_region 3 with fail
    generalize w2.setCell ⟨sb, 182, none⟩ (.int .u64 ((S.steps : Int) + 1)) = w3 at hP ⊢
    generalize w.heap.size = n0 at hP hsl ⊢
    have r0 := hP.o0
    have r1 := hP.o1
    have r2 := hP.o2
    clear d0 d1 hS2
    go_wp2_with fail
    go_ret2
    exact ⟨2, S.tick, rfl, hP.kp.sh, hP.sh, HOK.out, rfl, rfl, fun h => absurd h (by decide), Born.one h hP.kp _ rfl rfl⟩
  have q3 : decide (b < 1) = false := by simp; omega
  by_cases g4 : 24 < b
  · have q4 : decide (24 < b) = true := by simp [g4]
    go_enter Try.func30, Try.ntmps30
    go_upto_region 2 with fail
    rw [← hw2]
    clear hw2
    go_upto_region 3 with fail
    generalize w2.setCell ⟨sb, 182, none⟩ (.int .u64 ((S.steps : Int) + 1)) = w3 at hP ⊢
    generalize w.heap.size = n0 at hP hsl ⊢
    have r0 := hP.o0
    have r1 := hP.o1
    have r2 := hP.o2
    clear d0 d1 hS2
    go_wp2_with fail
    go_ret2
    exact ⟨2, S.tick, rfl, hP.kp.sh, hP.sh, HOK.out, rfl, rfl, fun h => absurd h (by decide), Born.one h hP.kp _ rfl rfl⟩
  have q4 : decide (24 < b) = false := by simp; omega
  obtain ⟨an, rfl⟩ : ∃ an : Nat, a = (an : Int) := ⟨a.toNat, by omega⟩
  obtain ⟨bn, rfl⟩ : ∃ bn : Nat, b = (bn : Int) := ⟨b.toNat, by omega⟩
  have ha : an < 64 := by omega
  have hb : 1 ≤ bn ∧ bn ≤ 24 := by omega
  have HO2 : Hid (Sh.Ok { S.tick with ht := fun k => if k = an then bn else S.tick.ht k }) := by
    have h0 := HOK.out
    exact ⟨h0.wd, fun k => by show 1 ≤ (if k = an then bn else S.ht k) ∧ (if k = an then bn else S.ht k) ≤ 24; split <;> first | exact hb | exact h0.ht k, h0.few, h0.each, h0.apart, h0.es, h0.steps⟩
  go_enter Try.func30, Try.ntmps30
  go_upto_region 2 with fail
  rw [← hw2]
  clear hw2
  go_upto_region 3 with fail
  generalize w2.setCell ⟨sb, 182, none⟩ (.int .u64 ((S.steps : Int) + 1)) = w3 at hP ⊢
  generalize w.heap.size = n0 at hP hsl ⊢
  have r0 := hP.o0
  have r1 := hP.o1
  have r2 := hP.o2
  clear d0 d1 hS2
  have y0 := hP.sh.ht an ha
  have y1 := hP.sh.free (26 + an)
  have hne : sb ≠ n0 := by omega
  have hSet := hP.sh.setHt (a := an) (b := bn) ha
  have HKp : Hid (Kp (one sb) w (w3.setCell ⟨sb, 26 + an, none⟩ (.int .i64 (bn : Int)))) := Kp.setCell hP.kp (p := ⟨sb, 26 + an, none⟩) (fun _ => rfl) _
  have i1 : (an : Int) < 64 := by omega
  go_wp2_with fail
  go_region
  all_goals go_wp2_with fail
  all_goals go_ret2
  all_goals exact ⟨0, _, rfl, HKp.out.drew.sh, hSet.on (Kp.refl _ _).drew, HO2.out, rfl, rfl, fun h => absurd h (by decide), Born.one h HKp.out.drew _ rfl rfl⟩

set_option maxRecDepth 100000 in
set_option maxHeartbeats 2000000 in
theorem step_hideRow (w : World) (sb : Nat) (S : Sh) (h : SheetAt w sb S) (hS : S.Ok) (hst : S.steps < 1000000) (a b c d : Int) (tx : ByteArray) :
    Calls Try.prog 30 #[.pointer (some ⟨sb, 0, none⟩), .agg #[.int .i64 3, .int .i64 a, .int .i64 b, .int .i64 c, .int .i64 d, .string tx]] w (StepPost sb S 3 w) := by
  obtain ⟨w2, hw2⟩ : ∃ w2, w2 = (w.alloc (.cells #[.int .i64 3, .int .i64 a, .int .i64 b, .int .i64 c, .int .i64 d, .string tx] 28)).alloc (.cells #[.int .i64 a, .int .i64 b] 31) := ⟨_, rfl⟩
  have hP : Pre w (w2.setCell ⟨sb, 182, none⟩ (.int .u64 ((S.steps : Int) + 1))) sb S w.heap.size ⟨3, a, b, c, d, tx⟩ := Pre.of h ⟨3, a, b, c, d, tx⟩ w2 hw2
  have HOK : Hid (S.tick.Ok) := Sh.tick_ok hS hst
  have hS2 : SheetAt w2 sb S := h.on (by rw [hw2]; exact ((Kp.refl no w).alloc _).alloc _)
  have d0 := hS2.st
  have d1 := hS2.free 182
  have hsl := h.lt
  by_cases g1 : a < 0
  · have q1 : decide (a < 0) = true := by simp [g1]
    go_enter Try.func30, Try.ntmps30
    go_upto_region 2 with fail
    rw [← hw2]
    clear hw2
    go_upto_region 3 with fail
    generalize w2.setCell ⟨sb, 182, none⟩ (.int .u64 ((S.steps : Int) + 1)) = w3 at hP ⊢
    generalize w.heap.size = n0 at hP hsl ⊢
    have r0 := hP.o0
    have r1 := hP.o1
    have r2 := hP.o2
    clear d0 d1 hS2
    go_wp2_with fail
    go_ret2
    exact ⟨1, S.tick, rfl, hP.kp.sh, hP.sh, HOK.out, rfl, rfl, fun h => absurd h (by decide), Born.one h hP.kp _ rfl rfl⟩
  have q1 : decide (a < 0) = false := by simp; omega
  by_cases g2 : 64 ≤ a
  · have q2 : decide (64 ≤ a) = true := by simp [g2]
    go_enter Try.func30, Try.ntmps30
    go_upto_region 2 with fail
    rw [← hw2]
    clear hw2
    go_upto_region 3 with fail
    generalize w2.setCell ⟨sb, 182, none⟩ (.int .u64 ((S.steps : Int) + 1)) = w3 at hP ⊢
    generalize w.heap.size = n0 at hP hsl ⊢
    have r0 := hP.o0
    have r1 := hP.o1
    have r2 := hP.o2
    clear d0 d1 hS2
    go_wp2_with fail
    go_ret2
    exact ⟨1, S.tick, rfl, hP.kp.sh, hP.sh, HOK.out, rfl, rfl, fun h => absurd h (by decide), Born.one h hP.kp _ rfl rfl⟩
  have q2 : decide (64 ≤ a) = false := by simp; omega
  obtain ⟨an, rfl⟩ : ∃ an : Nat, a = (an : Int) := ⟨a.toNat, by omega⟩
  have ha : an < 64 := by omega
  have HO2 : Hid (Sh.Ok { S.tick with hr := fun k => if k = an then (b != 0) else S.tick.hr k }) := by
    have h0 := HOK.out
    exact ⟨h0.wd, h0.ht, h0.few, h0.each, h0.apart, h0.es, h0.steps⟩
  go_enter Try.func30, Try.ntmps30
  go_upto_region 2 with fail
  rw [← hw2]
  clear hw2
  go_upto_region 3 with fail
  generalize w2.setCell ⟨sb, 182, none⟩ (.int .u64 ((S.steps : Int) + 1)) = w3 at hP ⊢
  generalize w.heap.size = n0 at hP hsl ⊢
  have r0 := hP.o0
  have r1 := hP.o1
  have r2 := hP.o2
  clear d0 d1 hS2
  have y0 := hP.sh.hr an ha
  have y1 := hP.sh.free (90 + an)
  have hne : sb ≠ n0 := by omega
  have hSet := hP.sh.setHr (a := an) (b := (b != 0)) ha
  have HKp : Hid (Kp (one sb) w (w3.setCell ⟨sb, 90 + an, none⟩ (.bool (b != 0)))) := Kp.setCell hP.kp (p := ⟨sb, 90 + an, none⟩) (fun _ => rfl) _
  have i1 : (an : Int) < 64 := by omega
  go_wp2_with fail
  go_region
  all_goals go_wp2_with fail
  all_goals go_ret2
  all_goals exact ⟨0, _, rfl, HKp.out.drew.sh, hSet.on (Kp.refl _ _).drew, HO2.out, rfl, rfl, fun h => absurd h (by decide), Born.one h HKp.out.drew _ rfl rfl⟩

set_option maxRecDepth 100000 in
set_option maxHeartbeats 2000000 in
theorem step_hideCol (w : World) (sb : Nat) (S : Sh) (h : SheetAt w sb S) (hS : S.Ok) (hst : S.steps < 1000000) (a b c d : Int) (tx : ByteArray) :
    Calls Try.prog 30 #[.pointer (some ⟨sb, 0, none⟩), .agg #[.int .i64 4, .int .i64 a, .int .i64 b, .int .i64 c, .int .i64 d, .string tx]] w (StepPost sb S 4 w) := by
  obtain ⟨w2, hw2⟩ : ∃ w2, w2 = (w.alloc (.cells #[.int .i64 4, .int .i64 a, .int .i64 b, .int .i64 c, .int .i64 d, .string tx] 28)).alloc (.cells #[.int .i64 a, .int .i64 b] 31) := ⟨_, rfl⟩
  have hP : Pre w (w2.setCell ⟨sb, 182, none⟩ (.int .u64 ((S.steps : Int) + 1))) sb S w.heap.size ⟨4, a, b, c, d, tx⟩ := Pre.of h ⟨4, a, b, c, d, tx⟩ w2 hw2
  have HOK : Hid (S.tick.Ok) := Sh.tick_ok hS hst
  have hS2 : SheetAt w2 sb S := h.on (by rw [hw2]; exact ((Kp.refl no w).alloc _).alloc _)
  have d0 := hS2.st
  have d1 := hS2.free 182
  have hsl := h.lt
  by_cases g1 : a < 0
  · have q1 : decide (a < 0) = true := by simp [g1]
    go_enter Try.func30, Try.ntmps30
    go_upto_region 2 with fail
    rw [← hw2]
    clear hw2
    go_upto_region 3 with fail
    generalize w2.setCell ⟨sb, 182, none⟩ (.int .u64 ((S.steps : Int) + 1)) = w3 at hP ⊢
    generalize w.heap.size = n0 at hP hsl ⊢
    have r0 := hP.o0
    have r1 := hP.o1
    have r2 := hP.o2
    clear d0 d1 hS2
    go_wp2_with fail
    go_ret2
    exact ⟨1, S.tick, rfl, hP.kp.sh, hP.sh, HOK.out, rfl, rfl, fun h => absurd h (by decide), Born.one h hP.kp _ rfl rfl⟩
  have q1 : decide (a < 0) = false := by simp; omega
  by_cases g2 : 26 ≤ a
  · have q2 : decide (26 ≤ a) = true := by simp [g2]
    go_enter Try.func30, Try.ntmps30
    go_upto_region 2 with fail
    rw [← hw2]
    clear hw2
    go_upto_region 3 with fail
    generalize w2.setCell ⟨sb, 182, none⟩ (.int .u64 ((S.steps : Int) + 1)) = w3 at hP ⊢
    generalize w.heap.size = n0 at hP hsl ⊢
    have r0 := hP.o0
    have r1 := hP.o1
    have r2 := hP.o2
    clear d0 d1 hS2
    go_wp2_with fail
    go_ret2
    exact ⟨1, S.tick, rfl, hP.kp.sh, hP.sh, HOK.out, rfl, rfl, fun h => absurd h (by decide), Born.one h hP.kp _ rfl rfl⟩
  have q2 : decide (26 ≤ a) = false := by simp; omega
  obtain ⟨an, rfl⟩ : ∃ an : Nat, a = (an : Int) := ⟨a.toNat, by omega⟩
  have ha : an < 26 := by omega
  have HO2 : Hid (Sh.Ok { S.tick with hc := fun k => if k = an then (b != 0) else S.tick.hc k }) := by
    have h0 := HOK.out
    exact ⟨h0.wd, h0.ht, h0.few, h0.each, h0.apart, h0.es, h0.steps⟩
  go_enter Try.func30, Try.ntmps30
  go_upto_region 2 with fail
  rw [← hw2]
  clear hw2
  go_upto_region 3 with fail
  generalize w2.setCell ⟨sb, 182, none⟩ (.int .u64 ((S.steps : Int) + 1)) = w3 at hP ⊢
  generalize w.heap.size = n0 at hP hsl ⊢
  have r0 := hP.o0
  have r1 := hP.o1
  have r2 := hP.o2
  clear d0 d1 hS2
  have y0 := hP.sh.hc an ha
  have y1 := hP.sh.free (154 + an)
  have hne : sb ≠ n0 := by omega
  have hSet := hP.sh.setHc (a := an) (b := (b != 0)) ha
  have HKp : Hid (Kp (one sb) w (w3.setCell ⟨sb, 154 + an, none⟩ (.bool (b != 0)))) := Kp.setCell hP.kp (p := ⟨sb, 154 + an, none⟩) (fun _ => rfl) _
  have i1 : (an : Int) < 26 := by omega
  go_wp2_with fail
  go_region
  all_goals go_wp2_with fail
  all_goals go_ret2
  all_goals exact ⟨0, _, rfl, HKp.out.drew.sh, hSet.on (Kp.refl _ _).drew, HO2.out, rfl, rfl, fun h => absurd h (by decide), Born.one h HKp.out.drew _ rfl rfl⟩

end Go.Proofs.Qxb6500653a
