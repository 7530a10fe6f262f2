/-
  home (57), textLine (45).
-/
import Derived.Test.Qxb6500653aClip
namespace Go.Proofs.Qxb6500653a
open Go.RowKit

/-- does the first band show some of it? -/
def Ax.in0 (A : Ax) (f t : Nat) : Prop := (A.span0 f t).1 < (A.span0 f t).2

set_option maxHeartbeats 1000000 in
theorem home_zero (w : World) (ab : Nat) (A : Ax) (hA : AxAt w ab A) (hok : A.Ok) (f t : Nat) (hft : f ≤ t) (ht : t < A.n) (h0 : A.in0 f t) :
    Calls Try.prog 57 #[.pointer (some ⟨ab, 0, none⟩), .int .i64 (f : Int), .int .i64 (t : Int)] w fun e w' => e = .returned (.tuple #[.pointer (some ⟨ab, 2, none⟩), .int .i64 (A.span0 f t).1, .int .i64 (A.span0 f t).2]) ∧ ∃ q, w' = w.drewN q := by
  have hs := span_zero w ab A hA hok f t hft ht
  unfold Ax.in0 at h0
  generalize (A.span0 f t).1 = p1 at *
  generalize (A.span0 f t).2 = p2 at *
  have hd : decide (p1 < p2) = true := by simp [h0]
  clear hA hok
  go_enter Try.func57, Try.ntmps57
  go_wp2_with fail
  refine wp_loop_rounds 1 ?_
  rw [rounds_succ]
  go_wp2_with fail
  refine hs.mono ?_
  rintro e w1 ⟨rfl, q, rfl⟩
  go_wp2_with fail
  go_ret3
  exact ⟨rfl, _, rfl⟩

set_option maxHeartbeats 1000000 in
theorem home_one (w : World) (ab : Nat) (A : Ax) (hA : AxAt w ab A) (hok : A.Ok) (f t : Nat) (hft : f ≤ t) (ht : t < A.n) (h0 : ¬ A.in0 f t) :
    Calls Try.prog 57 #[.pointer (some ⟨ab, 0, none⟩), .int .i64 (f : Int), .int .i64 (t : Int)] w fun e w' => e = .returned (.tuple #[.pointer (some ⟨ab, 6, none⟩), .int .i64 (A.span1 f t).1, .int .i64 (A.span1 f t).2]) ∧ ∃ q, w' = w.drewN q := by
  have hs := span_zero w ab A hA hok f t hft ht
  have hs1 : Hid (∀ q, Calls Try.prog 49 #[.pointer (some ⟨ab, 0, none⟩), .int .i64 (f : Int), .int .i64 (t : Int), .pointer (some ⟨ab, 6, none⟩)] (w.drewN q) fun e w' => e = .returned (.tuple #[.int .i64 (A.span1 f t).1, .int .i64 (A.span1 f t).2]) ∧ ∃ m, w' = (w.drewN q).drewN m) := fun q => span_one _ ab A (hA.drewN q) hok f t hft ht
  unfold Ax.in0 at h0
  generalize (A.span0 f t).1 = p1 at *
  generalize (A.span0 f t).2 = p2 at *
  generalize (A.span1 f t).1 = r1 at *
  generalize (A.span1 f t).2 = r2 at *
  have hd : decide (p1 < p2) = false := by simp; omega
  clear hA hok
  go_enter Try.func57, Try.ntmps57
  go_wp2_with fail
  refine wp_loop_rounds 3 ?_
  rw [rounds_succ]
  go_wp2_with fail
  refine hs.mono ?_
  rintro e w1 ⟨rfl, q, rfl⟩
  go_wp2_with fail
  rw [rounds_succ]
  go_wp2_with fail
  refine (hs1.out q).mono ?_
  rintro e w1 ⟨rfl, m, rfl⟩
  by_cases hr : r1 < r2
  · have hd2 : decide (r1 < r2) = true := by simp [hr]
    go_wp2_with fail
    go_ret3
    exact ⟨rfl, _, rfl⟩
  · have hd2 : decide (r1 < r2) = false := by simp; omega
    go_wp2_with fail
    rw [rounds_succ]
    go_wp2_with fail
    go_ret3
    exact ⟨rfl, _, rfl⟩
end Go.Proofs.Qxb6500653a
