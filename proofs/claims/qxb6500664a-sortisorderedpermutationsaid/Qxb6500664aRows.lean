/-
  No cell of these rows narrows 'for every input' (looked for: loops, veiled, ifaces, maps, wideKeys, modest, calm, conditions, laid).
  DERIVED. THE GIVEN ROWS OF THIS SEAT. 4 by the template 'for every input the law returns true; each argument reads behind the call as it read before'; 0 by the template 'total and deterministic' (their statements: Qxb6500664aTotals.lean).
  GIVEN WITH THE SEED: the statements are not yours to turn. If you find one false, say at which input.
  Laid BY PROGRAM, IN A SANDBOX (cutbox-rows.mjs): the forced cells as the released guide's own fill.sh prints them over the translation 808400f045a6fa3e… (all of the seat's roots in one cut). By AI agents, Wed Nov 11 2026. No macro, syntax, notation, axiom, sorry.
-/
import Derived.Test.Qxb6500664aChecked
import GoSem.Claim
import GoSem.ClaimJoined
import GoSem.ClaimMapViews
import Derived.JoinedTies
import Derived.KernelRfl
namespace Go.Proofs.Qxb6500664a
/- THE CELL 'sum', in the pinned program and in every row, IS THE sha256 OF THE DUMP (.gsa) THAT Qxb6500664aProg.lean LOADS. Nothing in Lean hashes anything: it is a label: what it is worth is what the hold of that sum in a sandbox is worth. -/
noncomputable def Try.pinned : Pinned := { name := "qxb6500664a", sum := "808400f045a6fa3e498700c0dceb0f4d0f0bc4386ca7aa97baffe9645ab80627", checked := Try.checked }
namespace Rows
def none {H : Type} : Left H := { results := [], args := [] }

/-- 'codeclaw.SortIsOrderedPermutation': WHATEVER THE INPUT: true; the input reads as it did. -/
def sortIsOrderedPermutationSpec : ChangeSpec := { name := "sortIsOrderedPermutation", fn := fun _ => fun
  | [d] => { results := [.lit (.bool true)], args := [d] }
  | _ => none }
def sortIsOrderedPermutationRow : OpenClaim := { program := "qxb6500664a", sum := "808400f045a6fa3e498700c0dceb0f4d0f0bc4386ca7aa97baffe9645ab80627", func := "e2e/codeclaw.SortIsOrderedPermutation", spec := "sortIsOrderedPermutation", unfollowed := true, recurses := true, apart := false }
def SortIsOrderedPermutationSaid : Prop := sortIsOrderedPermutationRow.holds Try.pinned (OpenSpec.ofChange sortIsOrderedPermutationSpec)

/-- ITS FALSE NEIGHBOUR: 'it returns false'. Refute it at one input. -/
def sortIsOrderedPermutationWrong : ChangeSpec := { name := "sortIsOrderedPermutation", fn := fun _ => fun
  | [d] => { results := [.lit (.bool false)], args := [d] }
  | _ => none }
def SortIsOrderedPermutationWrongFalsely : Prop := sortIsOrderedPermutationRow.holds Try.pinned (OpenSpec.ofChange sortIsOrderedPermutationWrong)

/-- 'codeclaw.DecimalParsesBack': WHATEVER THE INPUT: true; the input reads as it did. -/
def decimalParsesBackSpec : ChangeSpec := { name := "decimalParsesBack", fn := fun _ => fun
  | [d] => { results := [.lit (.bool true)], args := [d] }
  | _ => none }
def decimalParsesBackRow : OpenClaim := { program := "qxb6500664a", sum := "808400f045a6fa3e498700c0dceb0f4d0f0bc4386ca7aa97baffe9645ab80627", func := "e2e/codeclaw.DecimalParsesBack", spec := "decimalParsesBack", apart := false }
def DecimalParsesBackSaid : Prop := decimalParsesBackRow.holds Try.pinned (OpenSpec.ofChange decimalParsesBackSpec)

/-- ITS FALSE NEIGHBOUR: 'it returns false'. Refute it at one input. -/
def decimalParsesBackWrong : ChangeSpec := { name := "decimalParsesBack", fn := fun _ => fun
  | [d] => { results := [.lit (.bool false)], args := [d] }
  | _ => none }
def DecimalParsesBackWrongFalsely : Prop := decimalParsesBackRow.holds Try.pinned (OpenSpec.ofChange decimalParsesBackWrong)

/-- 'codeclaw.DecimalParserRefuses': WHATEVER THE INPUT: true; the input reads as it did. -/
def decimalParserRefusesSpec : ChangeSpec := { name := "decimalParserRefuses", fn := fun _ => fun
  | [d] => { results := [.lit (.bool true)], args := [d] }
  | _ => none }
def decimalParserRefusesRow : OpenClaim := { program := "qxb6500664a", sum := "808400f045a6fa3e498700c0dceb0f4d0f0bc4386ca7aa97baffe9645ab80627", func := "e2e/codeclaw.DecimalParserRefuses", spec := "decimalParserRefuses", apart := false }
def DecimalParserRefusesSaid : Prop := decimalParserRefusesRow.holds Try.pinned (OpenSpec.ofChange decimalParserRefusesSpec)

/-- ITS FALSE NEIGHBOUR: 'it returns false'. Refute it at one input. -/
def decimalParserRefusesWrong : ChangeSpec := { name := "decimalParserRefuses", fn := fun _ => fun
  | [d] => { results := [.lit (.bool false)], args := [d] }
  | _ => none }
def DecimalParserRefusesWrongFalsely : Prop := decimalParserRefusesRow.holds Try.pinned (OpenSpec.ofChange decimalParserRefusesWrong)

/-- 'codeclaw.DecimalEdges': WHATEVER THE INPUT: true; the input reads as it did. -/
def decimalEdgesSpec : ChangeSpec := { name := "decimalEdges", fn := fun _ => fun
  | [] => { results := [.lit (.bool true)], args := [] }
  | _ => none }
def decimalEdgesRow : OpenClaim := { program := "qxb6500664a", sum := "808400f045a6fa3e498700c0dceb0f4d0f0bc4386ca7aa97baffe9645ab80627", func := "e2e/codeclaw.DecimalEdges", spec := "decimalEdges", apart := false }
def DecimalEdgesSaid : Prop := decimalEdgesRow.holds Try.pinned (OpenSpec.ofChange decimalEdgesSpec)

/-- ITS FALSE NEIGHBOUR: 'it returns false'. Refute it at one input. -/
def decimalEdgesWrong : ChangeSpec := { name := "decimalEdges", fn := fun _ => fun
  | [] => { results := [.lit (.bool false)], args := [] }
  | _ => none }
def DecimalEdgesWrongFalsely : Prop := decimalEdgesRow.holds Try.pinned (OpenSpec.ofChange decimalEdgesWrong)

end Rows
end Go.Proofs.Qxb6500664a
