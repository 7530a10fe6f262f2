/-
  Sheet.Step (30), at every step.
-/
import Derived.Test.Qxb6500653aStepB
import Derived.Test.Qxb6500653aStepE
namespace Go.Proofs.Qxb6500653a
open Go.RowKit

theorem step_all : SheetStepOk := by
  intro w sb S h hS hst hbn o htx
  obtain ⟨k, a, b, c, d, tx⟩ := o
  by_cases h0 : k = 0
  · subst h0; exact step_show w sb S h hS hst a b c d tx htx
  by_cases h1 : k = 1
  · subst h1; exact step_width w sb S h hS hst a b c d tx
  by_cases h2 : k = 2
  · subst h2; exact step_height w sb S h hS hst a b c d tx
  by_cases h3 : k = 3
  · subst h3; exact step_hideRow w sb S h hS hst a b c d tx
  by_cases h4 : k = 4
  · subst h4; exact step_hideCol w sb S h hS hst a b c d tx
  by_cases h5 : k = 5
  · subst h5; exact step_merge w sb S h hS hst a b c d tx hbn
  by_cases h6 : k = 6
  · subst h6; exact step_unmerge w sb S h hS hst a b c d tx
  exact step_other w sb S h hS hst ⟨k, a, b, c, d, tx⟩ (by show ¬ (0 ≤ k ∧ k ≤ 6); omega)
end Go.Proofs.Qxb6500653a
