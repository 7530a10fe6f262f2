/-
  EveryPosition (3): a loop that ends by its own exit alone.
-/
import Derived.Test.Qxb6500653aEvrJ
namespace Go.Proofs.Qxb6500653a
open Go.RowKit

/-- left by exit n alone, in a state of E -/
def QK (n : Nat) (E : Array Value → World → Prop) : Exit → Act → World → Prop
  | .exit id, a, w => id = n ∧ ∃ T, a = ⟨T, []⟩ ∧ E T w
  | _, _, _ => False
theorem wp_exit {P : Program} {c : Code} {a : Act} {w : World} {n : Nat} {E : Array Value → World → Prop} {Q : Exit → Act → World → Prop} (hexit : ∀ (T' : Array Value) (w' : World), E T' w' → Q (.exit n) ⟨T', []⟩ w') (h : c.wp P (QK n E) a w) : c.wp P Q a w := by
  refine wp_mono h fun e a' w' hq => ?_
  cases e with
  | exit id =>
    obtain ⟨rfl, T, rfl, hE⟩ := hq
    exact hexit T w' hE
  | normal => exact hq.elim
  | goto l => exact hq.elim
  | ret => exact hq.elim
  | panic ch => exact hq.elim
  | outgrown => exact hq.elim
end Go.Proofs.Qxb6500653a
