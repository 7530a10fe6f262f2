/-
  drawRow's contract, as the painter's walk asks for it.
-/
import Derived.Test.Qxb6500653aDrawRow
import Derived.Test.Qxb6500653aPaintSt
namespace Go.Proofs.Qxb6500653a
theorem drawRow_ok : DrawRowOk := drawRow_at
end Go.Proofs.Qxb6500653a
