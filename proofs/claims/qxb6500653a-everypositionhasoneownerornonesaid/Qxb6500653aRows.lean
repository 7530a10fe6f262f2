/-
  No cell of these rows narrows 'for every input' (looked for: loops, veiled, ifaces, maps, wideKeys, modest, calm, conditions, laid).
  DERIVED. THE GIVEN ROWS OF THIS SEAT. 5 by the template 'for every input the law returns true; each argument reads behind the call as it read before'; 0 by the template 'total and deterministic' (their statements: Qxb6500653aTotals.lean).
  GIVEN WITH THE SEED: the statements are not yours to turn. If you find one false, say at which input.
  Laid BY PROGRAM, IN A SANDBOX (cutbox-rows.mjs): the forced cells as the released guide's own fill.sh prints them over the translation 7d3b4990b97824bc… (all of the seat's roots in one cut). By AI agents, Wed Nov 11 2026. No macro, syntax, notation, axiom, sorry.
-/
import Derived.Test.Qxb6500653aChecked
import GoSem.Claim
import GoSem.ClaimJoined
import GoSem.ClaimMapViews
import Derived.JoinedTies
import Derived.KernelRfl
namespace Go.Proofs.Qxb6500653a
/- THE CELL 'sum', in the pinned program and in every row, IS THE sha256 OF THE DUMP (.gsa) THAT Qxb6500653aProg.lean LOADS. Nothing in Lean hashes anything: it is a label: what it is worth is what the hold of that sum in a sandbox is worth. -/
noncomputable def Try.pinned : Pinned := { name := "qxb6500653a", sum := "7d3b4990b97824bcdf61a32d5f4a41eb8dc0af54dd95e5357f320f9d870b43e7", checked := Try.checked }
namespace Rows
def none {H : Type} : Left H := { results := [], args := [] }

/-- 'layoutlaw.EveryPositionHasOneOwnerOrNone': WHATEVER THE INPUT: true; the input reads as it did. -/
def everyPositionHasOneOwnerOrNoneSpec : ChangeSpec := { name := "everyPositionHasOneOwnerOrNone", fn := fun _ => fun
  | [d] => { results := [.lit (.bool true)], args := [d] }
  | _ => none }
def everyPositionHasOneOwnerOrNoneRow : OpenClaim := { program := "qxb6500653a", sum := "7d3b4990b97824bcdf61a32d5f4a41eb8dc0af54dd95e5357f320f9d870b43e7", func := "e2e/layoutlaw.EveryPositionHasOneOwnerOrNone", spec := "everyPositionHasOneOwnerOrNone", inPlace := ["internal/abi.NoEscape", "internal/bytealg.MakeNoZero"], unfollowed := true, recurses := true, plainKeys := false, apart := false }
def EveryPositionHasOneOwnerOrNoneSaid : Prop := everyPositionHasOneOwnerOrNoneRow.holds Try.pinned (OpenSpec.ofChange everyPositionHasOneOwnerOrNoneSpec)

/-- ITS FALSE NEIGHBOUR: 'it returns false'. Refute it at one input. -/
def everyPositionHasOneOwnerOrNoneWrong : ChangeSpec := { name := "everyPositionHasOneOwnerOrNone", fn := fun _ => fun
  | [d] => { results := [.lit (.bool false)], args := [d] }
  | _ => none }
def EveryPositionHasOneOwnerOrNoneWrongFalsely : Prop := everyPositionHasOneOwnerOrNoneRow.holds Try.pinned (OpenSpec.ofChange everyPositionHasOneOwnerOrNoneWrong)

/-- 'layoutlaw.TextOverflowsExactly': WHATEVER THE INPUT: true; the input reads as it did. -/
def textOverflowsExactlySpec : ChangeSpec := { name := "textOverflowsExactly", fn := fun _ => fun
  | [d] => { results := [.lit (.bool true)], args := [d] }
  | _ => none }
def textOverflowsExactlyRow : OpenClaim := { program := "qxb6500653a", sum := "7d3b4990b97824bcdf61a32d5f4a41eb8dc0af54dd95e5357f320f9d870b43e7", func := "e2e/layoutlaw.TextOverflowsExactly", spec := "textOverflowsExactly", inPlace := ["internal/abi.NoEscape", "internal/bytealg.MakeNoZero", "internal/bytealg.IndexByteString", "internal/bytealg.IndexString"], unfollowed := true, recurses := true, named := ["internal/bytealg.MaxLen"], plainKeys := false, apart := false }
def TextOverflowsExactlySaid : Prop := textOverflowsExactlyRow.holds Try.pinned (OpenSpec.ofChange textOverflowsExactlySpec)

/-- ITS FALSE NEIGHBOUR: 'it returns false'. Refute it at one input. -/
def textOverflowsExactlyWrong : ChangeSpec := { name := "textOverflowsExactly", fn := fun _ => fun
  | [d] => { results := [.lit (.bool false)], args := [d] }
  | _ => none }
def TextOverflowsExactlyWrongFalsely : Prop := textOverflowsExactlyRow.holds Try.pinned (OpenSpec.ofChange textOverflowsExactlyWrong)

/-- 'layoutlaw.RepaintRepairsTheRectangleAndNoMore': WHATEVER THE INPUT: true; the input reads as it did. -/
def repaintRepairsTheRectangleAndNoMoreSpec : ChangeSpec := { name := "repaintRepairsTheRectangleAndNoMore", fn := fun _ => fun
  | [d] => { results := [.lit (.bool true)], args := [d] }
  | _ => none }
def repaintRepairsTheRectangleAndNoMoreRow : OpenClaim := { program := "qxb6500653a", sum := "7d3b4990b97824bcdf61a32d5f4a41eb8dc0af54dd95e5357f320f9d870b43e7", func := "e2e/layoutlaw.RepaintRepairsTheRectangleAndNoMore", spec := "repaintRepairsTheRectangleAndNoMore", inPlace := ["internal/abi.NoEscape", "internal/bytealg.MakeNoZero"], unfollowed := true, recurses := true, plainKeys := false, apart := false }
def RepaintRepairsTheRectangleAndNoMoreSaid : Prop := repaintRepairsTheRectangleAndNoMoreRow.holds Try.pinned (OpenSpec.ofChange repaintRepairsTheRectangleAndNoMoreSpec)

/-- ITS FALSE NEIGHBOUR: 'it returns false'. Refute it at one input. -/
def repaintRepairsTheRectangleAndNoMoreWrong : ChangeSpec := { name := "repaintRepairsTheRectangleAndNoMore", fn := fun _ => fun
  | [d] => { results := [.lit (.bool false)], args := [d] }
  | _ => none }
def RepaintRepairsTheRectangleAndNoMoreWrongFalsely : Prop := repaintRepairsTheRectangleAndNoMoreRow.holds Try.pinned (OpenSpec.ofChange repaintRepairsTheRectangleAndNoMoreWrong)

/-- 'layoutlaw.ReachCoversTheText': WHATEVER THE INPUT: true; the input reads as it did. -/
def reachCoversTheTextSpec : ChangeSpec := { name := "reachCoversTheText", fn := fun _ => fun
  | [d] => { results := [.lit (.bool true)], args := [d] }
  | _ => none }
def reachCoversTheTextRow : OpenClaim := { program := "qxb6500653a", sum := "7d3b4990b97824bcdf61a32d5f4a41eb8dc0af54dd95e5357f320f9d870b43e7", func := "e2e/layoutlaw.ReachCoversTheText", spec := "reachCoversTheText", inPlace := ["internal/abi.NoEscape", "internal/bytealg.MakeNoZero"], unfollowed := true, recurses := true, plainKeys := false, apart := false }
def ReachCoversTheTextSaid : Prop := reachCoversTheTextRow.holds Try.pinned (OpenSpec.ofChange reachCoversTheTextSpec)

/-- ITS FALSE NEIGHBOUR: 'it returns false'. Refute it at one input. -/
def reachCoversTheTextWrong : ChangeSpec := { name := "reachCoversTheText", fn := fun _ => fun
  | [d] => { results := [.lit (.bool false)], args := [d] }
  | _ => none }
def ReachCoversTheTextWrongFalsely : Prop := reachCoversTheTextRow.holds Try.pinned (OpenSpec.ofChange reachCoversTheTextWrong)

/-- 'layoutlaw.RevealShowsTheCell': WHATEVER THE INPUT: true; the input reads as it did. -/
def revealShowsTheCellSpec : ChangeSpec := { name := "revealShowsTheCell", fn := fun _ => fun
  | [d] => { results := [.lit (.bool true)], args := [d] }
  | _ => none }
def revealShowsTheCellRow : OpenClaim := { program := "qxb6500653a", sum := "7d3b4990b97824bcdf61a32d5f4a41eb8dc0af54dd95e5357f320f9d870b43e7", func := "e2e/layoutlaw.RevealShowsTheCell", spec := "revealShowsTheCell", inPlace := ["internal/abi.NoEscape", "internal/bytealg.MakeNoZero"], unfollowed := true, recurses := true, plainKeys := false, apart := false }
def RevealShowsTheCellSaid : Prop := revealShowsTheCellRow.holds Try.pinned (OpenSpec.ofChange revealShowsTheCellSpec)

/-- ITS FALSE NEIGHBOUR: 'it returns false'. Refute it at one input. -/
def revealShowsTheCellWrong : ChangeSpec := { name := "revealShowsTheCell", fn := fun _ => fun
  | [d] => { results := [.lit (.bool false)], args := [d] }
  | _ => none }
def RevealShowsTheCellWrongFalsely : Prop := revealShowsTheCellRow.holds Try.pinned (OpenSpec.ofChange revealShowsTheCellWrong)

end Rows
end Go.Proofs.Qxb6500653a
