/-
  RevealShowsTheCell (7), at every script.
-/
import Derived.Test.Qxb6500653aRevN
import Derived.Test.Qxb6500653aRevNil
import Derived.Test.Qxb6500653aStepAll
import Derived.Test.Qxb6500653aPlayAll
import Derived.Test.Qxb6500653aDrOk
namespace Go.Proofs.Qxb6500653a
open Go.RowKit

theorem reveal_walk (W : World) (a : Option Addr) (n cap : Nat) (D : Nat → Od) (hD : ScriptAt W a n cap D) :
    Calls Try.prog 7 #[.slice a n cap] W fun e w' => e = .returned (.bool true) ∧ Below W.heap.size W w' := by
  rcases Nat.eq_zero_or_pos n with h0 | h0
  · subst h0
    exact (rev_nil W a cap).mono fun e w' ⟨h1, h2⟩ => ⟨h1, h2.below⟩
  · have hs := small_any W a n cap D hD
    obtain ⟨b, off, rfl, hD'⟩ := hD.at_ h0
    exact (rev_some (play_any step_all drawRow_ok) W b off n cap D (Nat.le_trans hD.le hD.max) hs hD').mono fun e w' ⟨h1, h2⟩ => ⟨h1, h2.below⟩
end Go.Proofs.Qxb6500653a
