/-
  No cell of these rows narrows 'for every input' (looked for: loops, veiled, ifaces, maps, wideKeys, modest, calm, conditions, laid).
  DERIVED. THE GIVEN ROWS OF THIS SEAT. 7 by the template 'for every input the law returns true; each argument reads behind the call as it read before'; 0 by the template 'total and deterministic' (their statements: YtigphmocjgojhaaTotals.lean).
  GIVEN WITH THE SEED: the statements are not yours to turn. If you find one false, say at which input.
  Laid BY PROGRAM, IN A SANDBOX (cutbox-rows.mjs): the forced cells as the released guide's own fill.sh prints them over the translation 5e008a2115f999fe… (all of the seat's roots in one cut). By AI agents, Wed Nov 11 2026. No macro, syntax, notation, axiom, sorry.
-/
import Derived.Test.YtigphmocjgojhaaChecked
import GoSem.Claim
import GoSem.ClaimJoined
import GoSem.ClaimMapViews
import Derived.JoinedTies
import Derived.KernelRfl
namespace Go.Proofs.Ytigphmocjgojhaa
/- THE CELL 'sum', in the pinned program and in every row, IS THE sha256 OF THE DUMP (.gsa) THAT YtigphmocjgojhaaProg.lean LOADS. Nothing in Lean hashes anything: it is a label: what it is worth is what the hold of that sum in a sandbox is worth. -/
noncomputable def Try.pinned : Pinned := { name := "ytigphmocjgojhaa", sum := "5e008a2115f999fe83955b35f520dad3beb73dd1de7c7de239d9a7cbfd087f86", checked := Try.checked }
namespace Rows
def none {H : Type} : Left H := { results := [], args := [] }

/-- 'parcenerlaw38.MediateSteps': WHATEVER THE INPUT: true; the input reads as it did. -/
def mediateStepsSpec : ChangeSpec := { name := "mediateSteps", fn := fun _ => fun
  | [d1, d2, d3] => { results := [.lit (.bool true)], args := [d1, d2, d3] }
  | _ => none }
def mediateStepsRow : OpenClaim := { program := "ytigphmocjgojhaa", sum := "5e008a2115f999fe83955b35f520dad3beb73dd1de7c7de239d9a7cbfd087f86", func := "parcener/parcenerlaw38.MediateSteps", spec := "mediateSteps", apart := false }
def MediateStepsSaid : Prop := mediateStepsRow.holds Try.pinned (OpenSpec.ofChange mediateStepsSpec)

/-- ITS FALSE NEIGHBOUR: 'it returns false'. Refute it at one input. -/
def mediateStepsWrong : ChangeSpec := { name := "mediateSteps", fn := fun _ => fun
  | [d1, d2, d3] => { results := [.lit (.bool false)], args := [d1, d2, d3] }
  | _ => none }
def MediateStepsWrongFalsely : Prop := mediateStepsRow.holds Try.pinned (OpenSpec.ofChange mediateStepsWrong)

/-- 'parcenerlaw38.MediateRuns': WHATEVER THE INPUT: true; the input reads as it did. -/
def mediateRunsSpec : ChangeSpec := { name := "mediateRuns", fn := fun _ => fun
  | [d] => { results := [.lit (.bool true)], args := [d] }
  | _ => none }
def mediateRunsRow : OpenClaim := { program := "ytigphmocjgojhaa", sum := "5e008a2115f999fe83955b35f520dad3beb73dd1de7c7de239d9a7cbfd087f86", func := "parcener/parcenerlaw38.MediateRuns", spec := "mediateRuns", unfollowed := true, recurses := true, apart := false }
def MediateRunsSaid : Prop := mediateRunsRow.holds Try.pinned (OpenSpec.ofChange mediateRunsSpec)

/-- ITS FALSE NEIGHBOUR: 'it returns false'. Refute it at one input. -/
def mediateRunsWrong : ChangeSpec := { name := "mediateRuns", fn := fun _ => fun
  | [d] => { results := [.lit (.bool false)], args := [d] }
  | _ => none }
def MediateRunsWrongFalsely : Prop := mediateRunsRow.holds Try.pinned (OpenSpec.ofChange mediateRunsWrong)

/-- 'parcenerlaw38.MediateTurns': WHATEVER THE INPUT: true; the input reads as it did. -/
def mediateTurnsSpec : ChangeSpec := { name := "mediateTurns", fn := fun _ => fun
  | [d] => { results := [.lit (.bool true)], args := [d] }
  | _ => none }
def mediateTurnsRow : OpenClaim := { program := "ytigphmocjgojhaa", sum := "5e008a2115f999fe83955b35f520dad3beb73dd1de7c7de239d9a7cbfd087f86", func := "parcener/parcenerlaw38.MediateTurns", spec := "mediateTurns", unfollowed := true, recurses := true, apart := false }
def MediateTurnsSaid : Prop := mediateTurnsRow.holds Try.pinned (OpenSpec.ofChange mediateTurnsSpec)

/-- ITS FALSE NEIGHBOUR: 'it returns false'. Refute it at one input. -/
def mediateTurnsWrong : ChangeSpec := { name := "mediateTurns", fn := fun _ => fun
  | [d] => { results := [.lit (.bool false)], args := [d] }
  | _ => none }
def MediateTurnsWrongFalsely : Prop := mediateTurnsRow.holds Try.pinned (OpenSpec.ofChange mediateTurnsWrong)

/-- 'parcenerlaw38.MediatePrefix': WHATEVER THE INPUT: true; the input reads as it did. -/
def mediatePrefixSpec : ChangeSpec := { name := "mediatePrefix", fn := fun _ => fun
  | [d1, d2] => { results := [.lit (.bool true)], args := [d1, d2] }
  | _ => none }
def mediatePrefixRow : OpenClaim := { program := "ytigphmocjgojhaa", sum := "5e008a2115f999fe83955b35f520dad3beb73dd1de7c7de239d9a7cbfd087f86", func := "parcener/parcenerlaw38.MediatePrefix", spec := "mediatePrefix", unfollowed := true, recurses := true, apart := false }
def MediatePrefixSaid : Prop := mediatePrefixRow.holds Try.pinned (OpenSpec.ofChange mediatePrefixSpec)

/-- ITS FALSE NEIGHBOUR: 'it returns false'. Refute it at one input. -/
def mediatePrefixWrong : ChangeSpec := { name := "mediatePrefix", fn := fun _ => fun
  | [d1, d2] => { results := [.lit (.bool false)], args := [d1, d2] }
  | _ => none }
def MediatePrefixWrongFalsely : Prop := mediatePrefixRow.holds Try.pinned (OpenSpec.ofChange mediatePrefixWrong)

/-- 'parcenerlaw38.MediateMoved': WHATEVER THE INPUT: true; the input reads as it did. -/
def mediateMovedSpec : ChangeSpec := { name := "mediateMoved", fn := fun _ => fun
  | [d1, d2] => { results := [.lit (.bool true)], args := [d1, d2] }
  | _ => none }
def mediateMovedRow : OpenClaim := { program := "ytigphmocjgojhaa", sum := "5e008a2115f999fe83955b35f520dad3beb73dd1de7c7de239d9a7cbfd087f86", func := "parcener/parcenerlaw38.MediateMoved", spec := "mediateMoved", unfollowed := true, recurses := true, apart := false }
def MediateMovedSaid : Prop := mediateMovedRow.holds Try.pinned (OpenSpec.ofChange mediateMovedSpec)

/-- ITS FALSE NEIGHBOUR: 'it returns false'. Refute it at one input. -/
def mediateMovedWrong : ChangeSpec := { name := "mediateMoved", fn := fun _ => fun
  | [d1, d2] => { results := [.lit (.bool false)], args := [d1, d2] }
  | _ => none }
def MediateMovedWrongFalsely : Prop := mediateMovedRow.holds Try.pinned (OpenSpec.ofChange mediateMovedWrong)

/-- 'parcenerlaw38.MediateNames': WHATEVER THE INPUT: true; the input reads as it did. -/
def mediateNamesSpec : ChangeSpec := { name := "mediateNames", fn := fun _ => fun
  | [] => { results := [.lit (.bool true)], args := [] }
  | _ => none }
def mediateNamesRow : OpenClaim := { program := "ytigphmocjgojhaa", sum := "5e008a2115f999fe83955b35f520dad3beb73dd1de7c7de239d9a7cbfd087f86", func := "parcener/parcenerlaw38.MediateNames", spec := "mediateNames", unfollowed := true, recurses := true, apart := false }
def MediateNamesSaid : Prop := mediateNamesRow.holds Try.pinned (OpenSpec.ofChange mediateNamesSpec)

/-- ITS FALSE NEIGHBOUR: 'it returns false'. Refute it at one input. -/
def mediateNamesWrong : ChangeSpec := { name := "mediateNames", fn := fun _ => fun
  | [] => { results := [.lit (.bool false)], args := [] }
  | _ => none }
def MediateNamesWrongFalsely : Prop := mediateNamesRow.holds Try.pinned (OpenSpec.ofChange mediateNamesWrong)

/-- 'parcenerlaw38.MediateWithin': WHATEVER THE INPUT: true; the input reads as it did. -/
def mediateWithinSpec : ChangeSpec := { name := "mediateWithin", fn := fun _ => fun
  | [d] => { results := [.lit (.bool true)], args := [d] }
  | _ => none }
def mediateWithinRow : OpenClaim := { program := "ytigphmocjgojhaa", sum := "5e008a2115f999fe83955b35f520dad3beb73dd1de7c7de239d9a7cbfd087f86", func := "parcener/parcenerlaw38.MediateWithin", spec := "mediateWithin", unfollowed := true, recurses := true, apart := false }
def MediateWithinSaid : Prop := mediateWithinRow.holds Try.pinned (OpenSpec.ofChange mediateWithinSpec)

/-- ITS FALSE NEIGHBOUR: 'it returns false'. Refute it at one input. -/
def mediateWithinWrong : ChangeSpec := { name := "mediateWithin", fn := fun _ => fun
  | [d] => { results := [.lit (.bool false)], args := [d] }
  | _ => none }
def MediateWithinWrongFalsely : Prop := mediateWithinRow.holds Try.pinned (OpenSpec.ofChange mediateWithinWrong)

/- THE SECOND FORM. 'bulk': how many values and letters a reading holds, each counted each time it is reached (what is shared counts as often as it is met; a slice's spare places count too). A statement '..UptoSaid' is the law's where the arguments, and the package variables that the reading takes, are together of bulk at most 1048576: NARROWER than '..Said'. Prove '..Said' where nothing that the law and all that it calls make is longer than what came in: it says more and counts as full. Else prove '..UptoSaid'. A law counts once. -/
mutual
def uptoBulk {H : Type} : DataW H → Nat
  | .lit (.string bytes) => bytes.length + 1
  | .lit _ => 1
  | .nil => 1
  | .ptr d => uptoBulk d + 1
  | .slice elems spare => uptoBulkAll elems + uptoBulkAll spare + 1
  | .agg parts => uptoBulkAll parts + 1
  | .iface _ d => uptoBulk d + 1
  | .map entries => uptoBulkEntries entries + 1
  | .held _ => 1
def uptoBulkAll {H : Type} : List (DataW H) → Nat
  | [] => 0
  | d :: r => uptoBulk d + uptoBulkAll r
def uptoBulkEntries {H : Type} : List (Lit × DataW H) → Nat
  | [] => 0
  | x :: r => uptoBulkEntry x + uptoBulkEntries r
def uptoBulkEntry {H : Type} : Lit × DataW H → Nat
  | (.string bytes, d) => bytes.length + uptoBulk d + 1
  | (_, d) => uptoBulk d + 1
 end
def uptoSmall : (H : Type) → List (DataW H) → Bool := fun _ ds => decide (uptoBulkAll ds ≤ 1048576)
def OpenSpec.upto (s : _root_.Go.ChangeSpec) : _root_.Go.OpenSpec := { _root_.Go.OpenSpec.ofChange s with cond := some uptoSmall }

/-- 'parcenerlaw38.MediateSteps', WHERE WHAT IT READS IS OF BULK AT MOST 1048576: true; the input reads as it did. -/
def mediateStepsUptoRow : OpenClaim := { program := "ytigphmocjgojhaa", sum := "5e008a2115f999fe83955b35f520dad3beb73dd1de7c7de239d9a7cbfd087f86", func := "parcener/parcenerlaw38.MediateSteps", spec := "mediateSteps", apart := false, narrowed := true }
def MediateStepsUptoSaid : Prop := mediateStepsUptoRow.holds Try.pinned (OpenSpec.upto mediateStepsSpec)

/-- 'parcenerlaw38.MediateRuns', WHERE WHAT IT READS IS OF BULK AT MOST 1048576: true; the input reads as it did. -/
def mediateRunsUptoRow : OpenClaim := { program := "ytigphmocjgojhaa", sum := "5e008a2115f999fe83955b35f520dad3beb73dd1de7c7de239d9a7cbfd087f86", func := "parcener/parcenerlaw38.MediateRuns", spec := "mediateRuns", unfollowed := true, recurses := true, apart := false, narrowed := true }
def MediateRunsUptoSaid : Prop := mediateRunsUptoRow.holds Try.pinned (OpenSpec.upto mediateRunsSpec)

/-- 'parcenerlaw38.MediateTurns', WHERE WHAT IT READS IS OF BULK AT MOST 1048576: true; the input reads as it did. -/
def mediateTurnsUptoRow : OpenClaim := { program := "ytigphmocjgojhaa", sum := "5e008a2115f999fe83955b35f520dad3beb73dd1de7c7de239d9a7cbfd087f86", func := "parcener/parcenerlaw38.MediateTurns", spec := "mediateTurns", unfollowed := true, recurses := true, apart := false, narrowed := true }
def MediateTurnsUptoSaid : Prop := mediateTurnsUptoRow.holds Try.pinned (OpenSpec.upto mediateTurnsSpec)

/-- 'parcenerlaw38.MediatePrefix', WHERE WHAT IT READS IS OF BULK AT MOST 1048576: true; the input reads as it did. -/
def mediatePrefixUptoRow : OpenClaim := { program := "ytigphmocjgojhaa", sum := "5e008a2115f999fe83955b35f520dad3beb73dd1de7c7de239d9a7cbfd087f86", func := "parcener/parcenerlaw38.MediatePrefix", spec := "mediatePrefix", unfollowed := true, recurses := true, apart := false, narrowed := true }
def MediatePrefixUptoSaid : Prop := mediatePrefixUptoRow.holds Try.pinned (OpenSpec.upto mediatePrefixSpec)

/-- 'parcenerlaw38.MediateMoved', WHERE WHAT IT READS IS OF BULK AT MOST 1048576: true; the input reads as it did. -/
def mediateMovedUptoRow : OpenClaim := { program := "ytigphmocjgojhaa", sum := "5e008a2115f999fe83955b35f520dad3beb73dd1de7c7de239d9a7cbfd087f86", func := "parcener/parcenerlaw38.MediateMoved", spec := "mediateMoved", unfollowed := true, recurses := true, apart := false, narrowed := true }
def MediateMovedUptoSaid : Prop := mediateMovedUptoRow.holds Try.pinned (OpenSpec.upto mediateMovedSpec)

/-- 'parcenerlaw38.MediateNames', WHERE WHAT IT READS IS OF BULK AT MOST 1048576: true; the input reads as it did. -/
def mediateNamesUptoRow : OpenClaim := { program := "ytigphmocjgojhaa", sum := "5e008a2115f999fe83955b35f520dad3beb73dd1de7c7de239d9a7cbfd087f86", func := "parcener/parcenerlaw38.MediateNames", spec := "mediateNames", unfollowed := true, recurses := true, apart := false, narrowed := true }
def MediateNamesUptoSaid : Prop := mediateNamesUptoRow.holds Try.pinned (OpenSpec.upto mediateNamesSpec)

/-- 'parcenerlaw38.MediateWithin', WHERE WHAT IT READS IS OF BULK AT MOST 1048576: true; the input reads as it did. -/
def mediateWithinUptoRow : OpenClaim := { program := "ytigphmocjgojhaa", sum := "5e008a2115f999fe83955b35f520dad3beb73dd1de7c7de239d9a7cbfd087f86", func := "parcener/parcenerlaw38.MediateWithin", spec := "mediateWithin", unfollowed := true, recurses := true, apart := false, narrowed := true }
def MediateWithinUptoSaid : Prop := mediateWithinUptoRow.holds Try.pinned (OpenSpec.upto mediateWithinSpec)

end Rows
end Go.Proofs.Ytigphmocjgojhaa
