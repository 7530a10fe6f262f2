/-
  The player's step (10), at every step.
-/
import Derived.Test.Qxb6500653aPlaySh
import Derived.Test.Qxb6500653aPlay7
import Derived.Test.Qxb6500653aPlay8
import Derived.Test.Qxb6500653aPlay9
import Derived.Test.Qxb6500653aPlay10
import Derived.Test.Qxb6500653aPlay11
import Derived.Test.Qxb6500653aPlay12
import Derived.Test.Qxb6500653aPlay13
import Derived.Test.Qxb6500653aPlay14
import Derived.Test.Qxb6500653aPlayBad
import Derived.Test.Qxb6500653aPlayOk
namespace Go.Proofs.Qxb6500653a
open Go.RowKit

theorem play_any (hss : SheetStepOk) (hdr : DrawRowOk) : PlayOk := by
  intro w qb sb lb S V h hst o htx
  obtain ⟨k, a, b, c, d, tx⟩ := o
  by_cases h0 : 0 ≤ k ∧ k ≤ 6
  · exact play_sheet k hss h0 w qb sb lb S V h hst a b c d tx htx
  by_cases h7 : k = 7
  · subst h7; exact play_7 hss w qb sb lb S V h hst a b c d tx htx
  by_cases h8 : k = 8
  · subst h8; exact play_8 hss w qb sb lb S V h hst a b c d tx htx
  by_cases h9 : k = 9
  · subst h9; exact play_9 hss w qb sb lb S V h hst a b c d tx htx
  by_cases h10 : k = 10
  · subst h10; exact play_10 hss w qb sb lb S V h hst a b c d tx htx
  by_cases h11 : k = 11
  · subst h11; exact play_11 hss w qb sb lb S V h hst a b c d tx htx
  by_cases h12 : k = 12
  · subst h12; exact play_12 hss w qb sb lb S V h hst a b c d tx htx
  by_cases h13 : k = 13
  · subst h13; exact play_13 hss hdr w qb sb lb S V h hst a b c d tx htx
  by_cases h14 : k = 14
  · subst h14; exact play_14 hss w qb sb lb S V h hst a b c d tx htx
  exact play_bad k hss (by omega) w qb sb lb S V h hst a b c d tx htx
end Go.Proofs.Qxb6500653a
