/-
  EveryPositionHasOneOwnerOrNone (3), at the empty script.
-/
import Derived.Test.Qxb6500653aNewP
import Derived.Test.Qxb6500653aScript
namespace Go.Proofs.Qxb6500653a
open Go.RowKit

set_option maxRecDepth 100000 in
set_option maxHeartbeats 2000000 in
theorem evr_nil (W : World) (a : Option Addr) (cap : Nat) : Calls Try.prog 3 #[.slice a 0 cap] W fun e w' => e = .returned (.bool true) ∧ Kp no W w' := by
  go_enter Try.func3, Try.ntmps3
  go_wp2_with fail
  refine (small_nil W a cap).mono ?_
  rintro e w1 ⟨rfl, hw1⟩
  subst hw1
  go_wp2_with fail
  refine (newPlayer_n w1).mono ?_
  rintro e w2 ⟨qb, sb, lb, pb, rfl, k2, _⟩
  go_wp2_with fail
  refine wp_loop_rounds 1 ?_
  rw [rounds_succ]
  go_wp2_with fail
  go_ret
  exact ⟨rfl, k2⟩
end Go.Proofs.Qxb6500653a
