/-
  strings.Repeat (43): the shelf's contract, laid at this program (after lay-shelf.mjs).
-/
import Derived.Shelf.Lay
import Derived.Shelf.LaySoft
import Derived.Shelf.Strings.Repeat
import Derived.Test.Qxb6500653aPlace
namespace Go.Proofs
open Go.Shelf
shelf_lay Lays.n105 Nm 105 at Try as Try.lays105
theorem Try.Builder_Extra_105 : Builder.Extra Try.prog Try.lays105_ren where
  sizeBuilder := by kernel_rfl
  liesBuilder := by kernel_rfl
  t5 := Try.underlying5
  a5 := Try.isAgg5
  z5 := Try.sizeOf5
  v5 := Try.zeroValue5
  infoByte := by kernel_rfl
  cellsByte := by kernel_rfl
  sizeByte := by kernel_rfl
  neB5 := by decide
open Go.RowKit Go.Lib in
theorem Try.strings_Repeat (s : ByteArray) (c : Nat) (w : World) (hc : c ≤ 9223372036854775807) (hlen : s.size * c ≤ 140737488355328) :
    Calls Try.prog 43 #[.string s, .int .i64 c] w fun e w' => e = .returned (.string ⟨(Lib.repeatL s.data.toList c).toArray⟩) ∧ Below w.heap.size w w' := Any.strings_Repeat Try.lays105 Try.Builder_Extra_105 s c w hc hlen
end Go.Proofs
namespace Go.Proofs.Qxb6500653a
open Go.RowKit

theorem repOk : RepOk := fun c w hc => (Try.strings_Repeat ⟨#[35]⟩ c w (by omega) (by show 1 * c ≤ _; omega)).mono fun _ _ ⟨he, hb⟩ => ⟨he, Kp.of_below hb⟩
end Go.Proofs.Qxb6500653a
