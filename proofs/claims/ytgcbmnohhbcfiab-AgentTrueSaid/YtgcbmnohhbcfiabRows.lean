/-
  No cell of these rows narrows 'for every input' (looked for: loops, veiled, ifaces, maps, wideKeys, modest, calm, conditions, laid).
  DERIVED. THE GIVEN ROWS OF THIS SEAT. 4 by the template 'for every input the law returns true; each argument reads behind the call as it read before'; 0 by the template 'total and deterministic' (their statements: YtgcbmnohhbcfiabTotals.lean).
  GIVEN WITH THE SEED: the statements are not yours to turn. If you find one false, say at which input.
  Laid BY PROGRAM, IN A SANDBOX (cutbox-rows.mjs): the forced cells as the released guide's own fill.sh prints them over the translation 4975abfb652a8324… (all of the seat's roots in one cut). By AI agents, Wed Nov 11 2026. No macro, syntax, notation, axiom, sorry.
-/
import Derived.Test.YtgcbmnohhbcfiabChecked
import GoSem.Claim
import GoSem.ClaimJoined
import GoSem.ClaimMapViews
import Derived.JoinedTies
import Derived.KernelRfl
namespace Go.Proofs.Ytgcbmnohhbcfiab
/- THE CELL 'sum', in the pinned program and in every row, IS THE sha256 OF THE DUMP (.gsa) THAT YtgcbmnohhbcfiabProg.lean LOADS. Nothing in Lean hashes anything: it is a label: what it is worth is what the hold of that sum in a sandbox is worth. -/
noncomputable def Try.pinned : Pinned := { name := "ytgcbmnohhbcfiab", sum := "4975abfb652a832416d3fa8214f6111e15bcc69ee939f6141a89344f27e90792", checked := Try.checked }
namespace Rows
def none {H : Type} : Left H := { results := [], args := [] }

/-- 'parcenerlaw36.AgentAlone': WHATEVER THE INPUT: true; the input reads as it did. -/
def agentAloneSpec : ChangeSpec := { name := "agentAlone", fn := fun _ => fun
  | [d1, d2, d3, d4] => { results := [.lit (.bool true)], args := [d1, d2, d3, d4] }
  | _ => none }
def agentAloneRow : OpenClaim := { program := "ytgcbmnohhbcfiab", sum := "4975abfb652a832416d3fa8214f6111e15bcc69ee939f6141a89344f27e90792", func := "parcener/parcenerlaw36.AgentAlone", spec := "agentAlone", inPlace := ["math/bits.Add64", "math/bits.Sub64"], unfollowed := true, recurses := true, named := ["math/bits.divideError", "math/bits.overflowError"], apart := false }
def AgentAloneSaid : Prop := agentAloneRow.holds Try.pinned (OpenSpec.ofChange agentAloneSpec)

/-- ITS FALSE NEIGHBOUR: 'it returns false'. Refute it at one input. -/
def agentAloneWrong : ChangeSpec := { name := "agentAlone", fn := fun _ => fun
  | [d1, d2, d3, d4] => { results := [.lit (.bool false)], args := [d1, d2, d3, d4] }
  | _ => none }
def AgentAloneWrongFalsely : Prop := agentAloneRow.holds Try.pinned (OpenSpec.ofChange agentAloneWrong)

/-- 'parcenerlaw36.AgentUnused': WHATEVER THE INPUT: true; the input reads as it did. -/
def agentUnusedSpec : ChangeSpec := { name := "agentUnused", fn := fun _ => fun
  | [d1, d2, d3] => { results := [.lit (.bool true)], args := [d1, d2, d3] }
  | _ => none }
def agentUnusedRow : OpenClaim := { program := "ytgcbmnohhbcfiab", sum := "4975abfb652a832416d3fa8214f6111e15bcc69ee939f6141a89344f27e90792", func := "parcener/parcenerlaw36.AgentUnused", spec := "agentUnused", inPlace := ["math/bits.Add64", "math/bits.Sub64"], unfollowed := true, recurses := true, named := ["math/bits.divideError", "math/bits.overflowError"], apart := false }
def AgentUnusedSaid : Prop := agentUnusedRow.holds Try.pinned (OpenSpec.ofChange agentUnusedSpec)

/-- ITS FALSE NEIGHBOUR: 'it returns false'. Refute it at one input. -/
def agentUnusedWrong : ChangeSpec := { name := "agentUnused", fn := fun _ => fun
  | [d1, d2, d3] => { results := [.lit (.bool false)], args := [d1, d2, d3] }
  | _ => none }
def AgentUnusedWrongFalsely : Prop := agentUnusedRow.holds Try.pinned (OpenSpec.ofChange agentUnusedWrong)

/-- 'parcenerlaw36.AgentTrue': WHATEVER THE INPUT: true; the input reads as it did. -/
def agentTrueSpec : ChangeSpec := { name := "agentTrue", fn := fun _ => fun
  | [d1, d2] => { results := [.lit (.bool true)], args := [d1, d2] }
  | _ => none }
def agentTrueRow : OpenClaim := { program := "ytgcbmnohhbcfiab", sum := "4975abfb652a832416d3fa8214f6111e15bcc69ee939f6141a89344f27e90792", func := "parcener/parcenerlaw36.AgentTrue", spec := "agentTrue", inPlace := ["math/bits.Add64", "math/bits.Sub64"], unfollowed := true, recurses := true, named := ["math/bits.divideError", "math/bits.overflowError"], apart := false }
def AgentTrueSaid : Prop := agentTrueRow.holds Try.pinned (OpenSpec.ofChange agentTrueSpec)

/-- ITS FALSE NEIGHBOUR: 'it returns false'. Refute it at one input. -/
def agentTrueWrong : ChangeSpec := { name := "agentTrue", fn := fun _ => fun
  | [d1, d2] => { results := [.lit (.bool false)], args := [d1, d2] }
  | _ => none }
def AgentTrueWrongFalsely : Prop := agentTrueRow.holds Try.pinned (OpenSpec.ofChange agentTrueWrong)

/-- 'parcenerlaw36.AgentParts': WHATEVER THE INPUT: true; the input reads as it did. -/
def agentPartsSpec : ChangeSpec := { name := "agentParts", fn := fun _ => fun
  | [d1, d2, d3] => { results := [.lit (.bool true)], args := [d1, d2, d3] }
  | _ => none }
def agentPartsRow : OpenClaim := { program := "ytgcbmnohhbcfiab", sum := "4975abfb652a832416d3fa8214f6111e15bcc69ee939f6141a89344f27e90792", func := "parcener/parcenerlaw36.AgentParts", spec := "agentParts", inPlace := ["math/bits.Add64", "math/bits.Sub64"], unfollowed := true, recurses := true, named := ["math/bits.divideError", "math/bits.overflowError"], apart := false }
def AgentPartsSaid : Prop := agentPartsRow.holds Try.pinned (OpenSpec.ofChange agentPartsSpec)

/-- ITS FALSE NEIGHBOUR: 'it returns false'. Refute it at one input. -/
def agentPartsWrong : ChangeSpec := { name := "agentParts", fn := fun _ => fun
  | [d1, d2, d3] => { results := [.lit (.bool false)], args := [d1, d2, d3] }
  | _ => none }
def AgentPartsWrongFalsely : Prop := agentPartsRow.holds Try.pinned (OpenSpec.ofChange agentPartsWrong)

/- THE SECOND FORM. 'bulk': how many values and letters a reading holds, each counted each time it is reached (what is shared counts as often as it is met; a slice's spare places count too). A statement '..UptoSaid' is the law's where the arguments, and the package variables that the reading takes, are together of bulk at most 1048576: NARROWER than '..Said'. Prove '..Said' where nothing that the law and all that it calls make is longer than what came in: it says more and counts as full. Else prove '..UptoSaid'. A law counts once. -/
mutual
def uptoBulk {H : Type} : DataW H → Nat
  | .lit (.string bytes) => bytes.length + 1
  | .lit _ => 1
  | .nil => 1
  | .ptr d => uptoBulk d + 1
  | .slice elems spare => uptoBulkAll elems + uptoBulkAll spare + 1
  | .agg parts => uptoBulkAll parts + 1
  | .iface _ d => uptoBulk d + 1
  | .map entries => uptoBulkEntries entries + 1
  | .held _ => 1
def uptoBulkAll {H : Type} : List (DataW H) → Nat
  | [] => 0
  | d :: r => uptoBulk d + uptoBulkAll r
def uptoBulkEntries {H : Type} : List (Lit × DataW H) → Nat
  | [] => 0
  | x :: r => uptoBulkEntry x + uptoBulkEntries r
def uptoBulkEntry {H : Type} : Lit × DataW H → Nat
  | (.string bytes, d) => bytes.length + uptoBulk d + 1
  | (_, d) => uptoBulk d + 1
 end
def uptoSmall : (H : Type) → List (DataW H) → Bool := fun _ ds => decide (uptoBulkAll ds ≤ 1048576)
def OpenSpec.upto (s : _root_.Go.ChangeSpec) : _root_.Go.OpenSpec := { _root_.Go.OpenSpec.ofChange s with cond := some uptoSmall }

/-- 'parcenerlaw36.AgentAlone', WHERE WHAT IT READS IS OF BULK AT MOST 1048576: true; the input reads as it did. -/
def agentAloneUptoRow : OpenClaim := { program := "ytgcbmnohhbcfiab", sum := "4975abfb652a832416d3fa8214f6111e15bcc69ee939f6141a89344f27e90792", func := "parcener/parcenerlaw36.AgentAlone", spec := "agentAlone", inPlace := ["math/bits.Add64", "math/bits.Sub64"], unfollowed := true, recurses := true, named := ["math/bits.divideError", "math/bits.overflowError"], apart := false, narrowed := true }
def AgentAloneUptoSaid : Prop := agentAloneUptoRow.holds Try.pinned (OpenSpec.upto agentAloneSpec)

/-- 'parcenerlaw36.AgentUnused', WHERE WHAT IT READS IS OF BULK AT MOST 1048576: true; the input reads as it did. -/
def agentUnusedUptoRow : OpenClaim := { program := "ytgcbmnohhbcfiab", sum := "4975abfb652a832416d3fa8214f6111e15bcc69ee939f6141a89344f27e90792", func := "parcener/parcenerlaw36.AgentUnused", spec := "agentUnused", inPlace := ["math/bits.Add64", "math/bits.Sub64"], unfollowed := true, recurses := true, named := ["math/bits.divideError", "math/bits.overflowError"], apart := false, narrowed := true }
def AgentUnusedUptoSaid : Prop := agentUnusedUptoRow.holds Try.pinned (OpenSpec.upto agentUnusedSpec)

/-- 'parcenerlaw36.AgentTrue', WHERE WHAT IT READS IS OF BULK AT MOST 1048576: true; the input reads as it did. -/
def agentTrueUptoRow : OpenClaim := { program := "ytgcbmnohhbcfiab", sum := "4975abfb652a832416d3fa8214f6111e15bcc69ee939f6141a89344f27e90792", func := "parcener/parcenerlaw36.AgentTrue", spec := "agentTrue", inPlace := ["math/bits.Add64", "math/bits.Sub64"], unfollowed := true, recurses := true, named := ["math/bits.divideError", "math/bits.overflowError"], apart := false, narrowed := true }
def AgentTrueUptoSaid : Prop := agentTrueUptoRow.holds Try.pinned (OpenSpec.upto agentTrueSpec)

/-- 'parcenerlaw36.AgentParts', WHERE WHAT IT READS IS OF BULK AT MOST 1048576: true; the input reads as it did. -/
def agentPartsUptoRow : OpenClaim := { program := "ytgcbmnohhbcfiab", sum := "4975abfb652a832416d3fa8214f6111e15bcc69ee939f6141a89344f27e90792", func := "parcener/parcenerlaw36.AgentParts", spec := "agentParts", inPlace := ["math/bits.Add64", "math/bits.Sub64"], unfollowed := true, recurses := true, named := ["math/bits.divideError", "math/bits.overflowError"], apart := false, narrowed := true }
def AgentPartsUptoSaid : Prop := agentPartsUptoRow.holds Try.pinned (OpenSpec.upto agentPartsSpec)

end Rows
end Go.Proofs.Ytgcbmnohhbcfiab
