/-
  No cell of these rows narrows 'for every input' (looked for: loops, veiled, ifaces, maps, wideKeys, modest, calm, conditions, laid).
  DERIVED. THE GIVEN ROWS OF THIS SEAT. 12 by the template 'for every input the law returns true; each argument reads behind the call as it read before'; 0 by the template 'total and deterministic' (their statements: YtgcbmnohhbcfiaaTotals.lean).
  GIVEN WITH THE SEED: the statements are not yours to turn. If you find one false, say at which input.
  Laid BY PROGRAM, IN A SANDBOX (cutbox-rows.mjs): the forced cells as the released guide's own fill.sh prints them over the translation 41e5a1a2a50f2b79… (all of the seat's roots in one cut). By AI agents, Wed Nov 11 2026. No macro, syntax, notation, axiom, sorry.
-/
import Derived.Test.YtgcbmnohhbcfiaaChecked
import GoSem.Claim
import GoSem.ClaimJoined
import GoSem.ClaimMapViews
import Derived.JoinedTies
import Derived.KernelRfl
namespace Go.Proofs.Ytgcbmnohhbcfiaa
/- THE CELL 'sum', in the pinned program and in every row, IS THE sha256 OF THE DUMP (.gsa) THAT YtgcbmnohhbcfiaaProg.lean LOADS. Nothing in Lean hashes anything: it is a label: what it is worth is what the hold of that sum in a sandbox is worth. -/
noncomputable def Try.pinned : Pinned := { name := "ytgcbmnohhbcfiaa", sum := "41e5a1a2a50f2b797a3188102efc17208a78e40d426d346afc4cfd7391a722cb", checked := Try.checked }
namespace Rows
def none {H : Type} : Left H := { results := [], args := [] }

/-- 'parcenerlaw02.CakeParts': WHATEVER THE INPUT: true; the input reads as it did. -/
def cakePartsSpec : ChangeSpec := { name := "cakeParts", fn := fun _ => fun
  | [d1, d2, d3] => { results := [.lit (.bool true)], args := [d1, d2, d3] }
  | _ => none }
def cakePartsRow : OpenClaim := { program := "ytgcbmnohhbcfiaa", sum := "41e5a1a2a50f2b797a3188102efc17208a78e40d426d346afc4cfd7391a722cb", func := "parcener/parcenerlaw02.CakeParts", spec := "cakeParts", apart := false }
def CakePartsSaid : Prop := cakePartsRow.holds Try.pinned (OpenSpec.ofChange cakePartsSpec)

/-- ITS FALSE NEIGHBOUR: 'it returns false'. Refute it at one input. -/
def cakePartsWrong : ChangeSpec := { name := "cakeParts", fn := fun _ => fun
  | [d1, d2, d3] => { results := [.lit (.bool false)], args := [d1, d2, d3] }
  | _ => none }
def CakePartsWrongFalsely : Prop := cakePartsRow.holds Try.pinned (OpenSpec.ofChange cakePartsWrong)

/-- 'parcenerlaw02.CakeChecks': WHATEVER THE INPUT: true; the input reads as it did. -/
def cakeChecksSpec : ChangeSpec := { name := "cakeChecks", fn := fun _ => fun
  | [d1, d2, d3] => { results := [.lit (.bool true)], args := [d1, d2, d3] }
  | _ => none }
def cakeChecksRow : OpenClaim := { program := "ytgcbmnohhbcfiaa", sum := "41e5a1a2a50f2b797a3188102efc17208a78e40d426d346afc4cfd7391a722cb", func := "parcener/parcenerlaw02.CakeChecks", spec := "cakeChecks", apart := false }
def CakeChecksSaid : Prop := cakeChecksRow.holds Try.pinned (OpenSpec.ofChange cakeChecksSpec)

/-- ITS FALSE NEIGHBOUR: 'it returns false'. Refute it at one input. -/
def cakeChecksWrong : ChangeSpec := { name := "cakeChecks", fn := fun _ => fun
  | [d1, d2, d3] => { results := [.lit (.bool false)], args := [d1, d2, d3] }
  | _ => none }
def CakeChecksWrongFalsely : Prop := cakeChecksRow.holds Try.pinned (OpenSpec.ofChange cakeChecksWrong)

/-- 'parcenerlaw02.CakeInverse': WHATEVER THE INPUT: true; the input reads as it did. -/
def cakeInverseSpec : ChangeSpec := { name := "cakeInverse", fn := fun _ => fun
  | [d1, d2, d3, d4, d5] => { results := [.lit (.bool true)], args := [d1, d2, d3, d4, d5] }
  | _ => none }
def cakeInverseRow : OpenClaim := { program := "ytgcbmnohhbcfiaa", sum := "41e5a1a2a50f2b797a3188102efc17208a78e40d426d346afc4cfd7391a722cb", func := "parcener/parcenerlaw02.CakeInverse", spec := "cakeInverse", inPlace := ["math/bits.Add64", "math/bits.Sub64"], unfollowed := true, recurses := true, named := ["math/bits.divideError", "math/bits.overflowError"], apart := false }
def CakeInverseSaid : Prop := cakeInverseRow.holds Try.pinned (OpenSpec.ofChange cakeInverseSpec)

/-- ITS FALSE NEIGHBOUR: 'it returns false'. Refute it at one input. -/
def cakeInverseWrong : ChangeSpec := { name := "cakeInverse", fn := fun _ => fun
  | [d1, d2, d3, d4, d5] => { results := [.lit (.bool false)], args := [d1, d2, d3, d4, d5] }
  | _ => none }
def CakeInverseWrongFalsely : Prop := cakeInverseRow.holds Try.pinned (OpenSpec.ofChange cakeInverseWrong)

/-- 'parcenerlaw02.CakeAdds': WHATEVER THE INPUT: true; the input reads as it did. -/
def cakeAddsSpec : ChangeSpec := { name := "cakeAdds", fn := fun _ => fun
  | [d1, d2, d3, d4] => { results := [.lit (.bool true)], args := [d1, d2, d3, d4] }
  | _ => none }
def cakeAddsRow : OpenClaim := { program := "ytgcbmnohhbcfiaa", sum := "41e5a1a2a50f2b797a3188102efc17208a78e40d426d346afc4cfd7391a722cb", func := "parcener/parcenerlaw02.CakeAdds", spec := "cakeAdds", inPlace := ["math/bits.Add64", "math/bits.Sub64"], unfollowed := true, recurses := true, named := ["math/bits.divideError", "math/bits.overflowError"], apart := false }
def CakeAddsSaid : Prop := cakeAddsRow.holds Try.pinned (OpenSpec.ofChange cakeAddsSpec)

/-- ITS FALSE NEIGHBOUR: 'it returns false'. Refute it at one input. -/
def cakeAddsWrong : ChangeSpec := { name := "cakeAdds", fn := fun _ => fun
  | [d1, d2, d3, d4] => { results := [.lit (.bool false)], args := [d1, d2, d3, d4] }
  | _ => none }
def CakeAddsWrongFalsely : Prop := cakeAddsRow.holds Try.pinned (OpenSpec.ofChange cakeAddsWrong)

/-- 'parcenerlaw36.AgentRuns': WHATEVER THE INPUT: true; the input reads as it did. -/
def agentRunsSpec : ChangeSpec := { name := "agentRuns", fn := fun _ => fun
  | [d1, d2, d3] => { results := [.lit (.bool true)], args := [d1, d2, d3] }
  | _ => none }
def agentRunsRow : OpenClaim := { program := "ytgcbmnohhbcfiaa", sum := "41e5a1a2a50f2b797a3188102efc17208a78e40d426d346afc4cfd7391a722cb", func := "parcener/parcenerlaw36.AgentRuns", spec := "agentRuns", inPlace := ["math/bits.Add64", "math/bits.Sub64"], unfollowed := true, recurses := true, named := ["math/bits.divideError", "math/bits.overflowError"], apart := false }
def AgentRunsSaid : Prop := agentRunsRow.holds Try.pinned (OpenSpec.ofChange agentRunsSpec)

/-- ITS FALSE NEIGHBOUR: 'it returns false'. Refute it at one input. -/
def agentRunsWrong : ChangeSpec := { name := "agentRuns", fn := fun _ => fun
  | [d1, d2, d3] => { results := [.lit (.bool false)], args := [d1, d2, d3] }
  | _ => none }
def AgentRunsWrongFalsely : Prop := agentRunsRow.holds Try.pinned (OpenSpec.ofChange agentRunsWrong)

/-- 'parcenerlaw02.CakeSame': WHATEVER THE INPUT: true; the input reads as it did. -/
def cakeSameSpec : ChangeSpec := { name := "cakeSame", fn := fun _ => fun
  | [d1, d2, d3, d4, d5, d6] => { results := [.lit (.bool true)], args := [d1, d2, d3, d4, d5, d6] }
  | _ => none }
def cakeSameRow : OpenClaim := { program := "ytgcbmnohhbcfiaa", sum := "41e5a1a2a50f2b797a3188102efc17208a78e40d426d346afc4cfd7391a722cb", func := "parcener/parcenerlaw02.CakeSame", spec := "cakeSame", inPlace := ["math/bits.Add64", "math/bits.Sub64"], unfollowed := true, recurses := true, named := ["math/bits.divideError", "math/bits.overflowError"], apart := false }
def CakeSameSaid : Prop := cakeSameRow.holds Try.pinned (OpenSpec.ofChange cakeSameSpec)

/-- ITS FALSE NEIGHBOUR: 'it returns false'. Refute it at one input. -/
def cakeSameWrong : ChangeSpec := { name := "cakeSame", fn := fun _ => fun
  | [d1, d2, d3, d4, d5, d6] => { results := [.lit (.bool false)], args := [d1, d2, d3, d4, d5, d6] }
  | _ => none }
def CakeSameWrongFalsely : Prop := cakeSameRow.holds Try.pinned (OpenSpec.ofChange cakeSameWrong)

/-- 'parcenerlaw02.CakeNames': WHATEVER THE INPUT: true; the input reads as it did. -/
def cakeNamesSpec : ChangeSpec := { name := "cakeNames", fn := fun _ => fun
  | [] => { results := [.lit (.bool true)], args := [] }
  | _ => none }
def cakeNamesRow : OpenClaim := { program := "ytgcbmnohhbcfiaa", sum := "41e5a1a2a50f2b797a3188102efc17208a78e40d426d346afc4cfd7391a722cb", func := "parcener/parcenerlaw02.CakeNames", spec := "cakeNames", inPlace := ["math/bits.Add64", "math/bits.Sub64"], unfollowed := true, recurses := true, named := ["math/bits.divideError", "math/bits.overflowError"], apart := false }
def CakeNamesSaid : Prop := cakeNamesRow.holds Try.pinned (OpenSpec.ofChange cakeNamesSpec)

/-- ITS FALSE NEIGHBOUR: 'it returns false'. Refute it at one input. -/
def cakeNamesWrong : ChangeSpec := { name := "cakeNames", fn := fun _ => fun
  | [] => { results := [.lit (.bool false)], args := [] }
  | _ => none }
def CakeNamesWrongFalsely : Prop := cakeNamesRow.holds Try.pinned (OpenSpec.ofChange cakeNamesWrong)

/-- 'parcenerlaw04.AskNames': WHATEVER THE INPUT: true; the input reads as it did. -/
def askNamesSpec : ChangeSpec := { name := "askNames", fn := fun _ => fun
  | [] => { results := [.lit (.bool true)], args := [] }
  | _ => none }
def askNamesRow : OpenClaim := { program := "ytgcbmnohhbcfiaa", sum := "41e5a1a2a50f2b797a3188102efc17208a78e40d426d346afc4cfd7391a722cb", func := "parcener/parcenerlaw04.AskNames", spec := "askNames", inPlace := ["math/bits.Add64", "math/bits.Sub64"], unfollowed := true, recurses := true, named := ["math/bits.divideError", "math/bits.overflowError"], apart := false }
def AskNamesSaid : Prop := askNamesRow.holds Try.pinned (OpenSpec.ofChange askNamesSpec)

/-- ITS FALSE NEIGHBOUR: 'it returns false'. Refute it at one input. -/
def askNamesWrong : ChangeSpec := { name := "askNames", fn := fun _ => fun
  | [] => { results := [.lit (.bool false)], args := [] }
  | _ => none }
def AskNamesWrongFalsely : Prop := askNamesRow.holds Try.pinned (OpenSpec.ofChange askNamesWrong)

/-- 'parcenerlaw04.AskReplays': WHATEVER THE INPUT: true; the input reads as it did. -/
def askReplaysSpec : ChangeSpec := { name := "askReplays", fn := fun _ => fun
  | [d1, d2] => { results := [.lit (.bool true)], args := [d1, d2] }
  | _ => none }
def askReplaysRow : OpenClaim := { program := "ytgcbmnohhbcfiaa", sum := "41e5a1a2a50f2b797a3188102efc17208a78e40d426d346afc4cfd7391a722cb", func := "parcener/parcenerlaw04.AskReplays", spec := "askReplays", inPlace := ["math/bits.Add64", "math/bits.Sub64"], unfollowed := true, recurses := true, named := ["math/bits.divideError", "math/bits.overflowError"], apart := false }
def AskReplaysSaid : Prop := askReplaysRow.holds Try.pinned (OpenSpec.ofChange askReplaysSpec)

/-- ITS FALSE NEIGHBOUR: 'it returns false'. Refute it at one input. -/
def askReplaysWrong : ChangeSpec := { name := "askReplays", fn := fun _ => fun
  | [d1, d2] => { results := [.lit (.bool false)], args := [d1, d2] }
  | _ => none }
def AskReplaysWrongFalsely : Prop := askReplaysRow.holds Try.pinned (OpenSpec.ofChange askReplaysWrong)

/-- 'parcenerlaw04.AskPrivate': WHATEVER THE INPUT: true; the input reads as it did. -/
def askPrivateSpec : ChangeSpec := { name := "askPrivate", fn := fun _ => fun
  | [d1, d2, d3, d4, d5] => { results := [.lit (.bool true)], args := [d1, d2, d3, d4, d5] }
  | _ => none }
def askPrivateRow : OpenClaim := { program := "ytgcbmnohhbcfiaa", sum := "41e5a1a2a50f2b797a3188102efc17208a78e40d426d346afc4cfd7391a722cb", func := "parcener/parcenerlaw04.AskPrivate", spec := "askPrivate", inPlace := ["math/bits.Add64", "math/bits.Sub64"], unfollowed := true, recurses := true, named := ["math/bits.divideError", "math/bits.overflowError"], apart := false }
def AskPrivateSaid : Prop := askPrivateRow.holds Try.pinned (OpenSpec.ofChange askPrivateSpec)

/-- ITS FALSE NEIGHBOUR: 'it returns false'. Refute it at one input. -/
def askPrivateWrong : ChangeSpec := { name := "askPrivate", fn := fun _ => fun
  | [d1, d2, d3, d4, d5] => { results := [.lit (.bool false)], args := [d1, d2, d3, d4, d5] }
  | _ => none }
def AskPrivateWrongFalsely : Prop := askPrivateRow.holds Try.pinned (OpenSpec.ofChange askPrivateWrong)

/-- 'parcenerlaw36.AgentAsks': WHATEVER THE INPUT: true; the input reads as it did. -/
def agentAsksSpec : ChangeSpec := { name := "agentAsks", fn := fun _ => fun
  | [d1, d2, d3, d4, d5] => { results := [.lit (.bool true)], args := [d1, d2, d3, d4, d5] }
  | _ => none }
def agentAsksRow : OpenClaim := { program := "ytgcbmnohhbcfiaa", sum := "41e5a1a2a50f2b797a3188102efc17208a78e40d426d346afc4cfd7391a722cb", func := "parcener/parcenerlaw36.AgentAsks", spec := "agentAsks", inPlace := ["math/bits.Add64", "math/bits.Sub64"], unfollowed := true, recurses := true, named := ["math/bits.divideError", "math/bits.overflowError"], apart := false }
def AgentAsksSaid : Prop := agentAsksRow.holds Try.pinned (OpenSpec.ofChange agentAsksSpec)

/-- ITS FALSE NEIGHBOUR: 'it returns false'. Refute it at one input. -/
def agentAsksWrong : ChangeSpec := { name := "agentAsks", fn := fun _ => fun
  | [d1, d2, d3, d4, d5] => { results := [.lit (.bool false)], args := [d1, d2, d3, d4, d5] }
  | _ => none }
def AgentAsksWrongFalsely : Prop := agentAsksRow.holds Try.pinned (OpenSpec.ofChange agentAsksWrong)

/-- 'parcenerlaw36.AgentNames': WHATEVER THE INPUT: true; the input reads as it did. -/
def agentNamesSpec : ChangeSpec := { name := "agentNames", fn := fun _ => fun
  | [] => { results := [.lit (.bool true)], args := [] }
  | _ => none }
def agentNamesRow : OpenClaim := { program := "ytgcbmnohhbcfiaa", sum := "41e5a1a2a50f2b797a3188102efc17208a78e40d426d346afc4cfd7391a722cb", func := "parcener/parcenerlaw36.AgentNames", spec := "agentNames", inPlace := ["math/bits.Add64", "math/bits.Sub64"], unfollowed := true, recurses := true, named := ["math/bits.divideError", "math/bits.overflowError"], apart := false }
def AgentNamesSaid : Prop := agentNamesRow.holds Try.pinned (OpenSpec.ofChange agentNamesSpec)

/-- ITS FALSE NEIGHBOUR: 'it returns false'. Refute it at one input. -/
def agentNamesWrong : ChangeSpec := { name := "agentNames", fn := fun _ => fun
  | [] => { results := [.lit (.bool false)], args := [] }
  | _ => none }
def AgentNamesWrongFalsely : Prop := agentNamesRow.holds Try.pinned (OpenSpec.ofChange agentNamesWrong)

/- THE SECOND FORM. 'bulk': how many values and letters a reading holds, each counted each time it is reached (what is shared counts as often as it is met; a slice's spare places count too). A statement '..UptoSaid' is the law's where the arguments, and the package variables that the reading takes, are together of bulk at most 1048576: NARROWER than '..Said'. Prove '..Said' where nothing that the law and all that it calls make is longer than what came in: it says more and counts as full. Else prove '..UptoSaid'. A law counts once. -/
mutual
def uptoBulk {H : Type} : DataW H → Nat
  | .lit (.string bytes) => bytes.length + 1
  | .lit _ => 1
  | .nil => 1
  | .ptr d => uptoBulk d + 1
  | .slice elems spare => uptoBulkAll elems + uptoBulkAll spare + 1
  | .agg parts => uptoBulkAll parts + 1
  | .iface _ d => uptoBulk d + 1
  | .map entries => uptoBulkEntries entries + 1
  | .held _ => 1
def uptoBulkAll {H : Type} : List (DataW H) → Nat
  | [] => 0
  | d :: r => uptoBulk d + uptoBulkAll r
def uptoBulkEntries {H : Type} : List (Lit × DataW H) → Nat
  | [] => 0
  | x :: r => uptoBulkEntry x + uptoBulkEntries r
def uptoBulkEntry {H : Type} : Lit × DataW H → Nat
  | (.string bytes, d) => bytes.length + uptoBulk d + 1
  | (_, d) => uptoBulk d + 1
 end
def uptoSmall : (H : Type) → List (DataW H) → Bool := fun _ ds => decide (uptoBulkAll ds ≤ 1048576)
def OpenSpec.upto (s : _root_.Go.ChangeSpec) : _root_.Go.OpenSpec := { _root_.Go.OpenSpec.ofChange s with cond := some uptoSmall }

/-- 'parcenerlaw02.CakeParts', WHERE WHAT IT READS IS OF BULK AT MOST 1048576: true; the input reads as it did. -/
def cakePartsUptoRow : OpenClaim := { program := "ytgcbmnohhbcfiaa", sum := "41e5a1a2a50f2b797a3188102efc17208a78e40d426d346afc4cfd7391a722cb", func := "parcener/parcenerlaw02.CakeParts", spec := "cakeParts", apart := false, narrowed := true }
def CakePartsUptoSaid : Prop := cakePartsUptoRow.holds Try.pinned (OpenSpec.upto cakePartsSpec)

/-- 'parcenerlaw02.CakeChecks', WHERE WHAT IT READS IS OF BULK AT MOST 1048576: true; the input reads as it did. -/
def cakeChecksUptoRow : OpenClaim := { program := "ytgcbmnohhbcfiaa", sum := "41e5a1a2a50f2b797a3188102efc17208a78e40d426d346afc4cfd7391a722cb", func := "parcener/parcenerlaw02.CakeChecks", spec := "cakeChecks", apart := false, narrowed := true }
def CakeChecksUptoSaid : Prop := cakeChecksUptoRow.holds Try.pinned (OpenSpec.upto cakeChecksSpec)

/-- 'parcenerlaw02.CakeInverse', WHERE WHAT IT READS IS OF BULK AT MOST 1048576: true; the input reads as it did. -/
def cakeInverseUptoRow : OpenClaim := { program := "ytgcbmnohhbcfiaa", sum := "41e5a1a2a50f2b797a3188102efc17208a78e40d426d346afc4cfd7391a722cb", func := "parcener/parcenerlaw02.CakeInverse", spec := "cakeInverse", inPlace := ["math/bits.Add64", "math/bits.Sub64"], unfollowed := true, recurses := true, named := ["math/bits.divideError", "math/bits.overflowError"], apart := false, narrowed := true }
def CakeInverseUptoSaid : Prop := cakeInverseUptoRow.holds Try.pinned (OpenSpec.upto cakeInverseSpec)

/-- 'parcenerlaw02.CakeAdds', WHERE WHAT IT READS IS OF BULK AT MOST 1048576: true; the input reads as it did. -/
def cakeAddsUptoRow : OpenClaim := { program := "ytgcbmnohhbcfiaa", sum := "41e5a1a2a50f2b797a3188102efc17208a78e40d426d346afc4cfd7391a722cb", func := "parcener/parcenerlaw02.CakeAdds", spec := "cakeAdds", inPlace := ["math/bits.Add64", "math/bits.Sub64"], unfollowed := true, recurses := true, named := ["math/bits.divideError", "math/bits.overflowError"], apart := false, narrowed := true }
def CakeAddsUptoSaid : Prop := cakeAddsUptoRow.holds Try.pinned (OpenSpec.upto cakeAddsSpec)

/-- 'parcenerlaw36.AgentRuns', WHERE WHAT IT READS IS OF BULK AT MOST 1048576: true; the input reads as it did. -/
def agentRunsUptoRow : OpenClaim := { program := "ytgcbmnohhbcfiaa", sum := "41e5a1a2a50f2b797a3188102efc17208a78e40d426d346afc4cfd7391a722cb", func := "parcener/parcenerlaw36.AgentRuns", spec := "agentRuns", inPlace := ["math/bits.Add64", "math/bits.Sub64"], unfollowed := true, recurses := true, named := ["math/bits.divideError", "math/bits.overflowError"], apart := false, narrowed := true }
def AgentRunsUptoSaid : Prop := agentRunsUptoRow.holds Try.pinned (OpenSpec.upto agentRunsSpec)

/-- 'parcenerlaw02.CakeSame', WHERE WHAT IT READS IS OF BULK AT MOST 1048576: true; the input reads as it did. -/
def cakeSameUptoRow : OpenClaim := { program := "ytgcbmnohhbcfiaa", sum := "41e5a1a2a50f2b797a3188102efc17208a78e40d426d346afc4cfd7391a722cb", func := "parcener/parcenerlaw02.CakeSame", spec := "cakeSame", inPlace := ["math/bits.Add64", "math/bits.Sub64"], unfollowed := true, recurses := true, named := ["math/bits.divideError", "math/bits.overflowError"], apart := false, narrowed := true }
def CakeSameUptoSaid : Prop := cakeSameUptoRow.holds Try.pinned (OpenSpec.upto cakeSameSpec)

/-- 'parcenerlaw02.CakeNames', WHERE WHAT IT READS IS OF BULK AT MOST 1048576: true; the input reads as it did. -/
def cakeNamesUptoRow : OpenClaim := { program := "ytgcbmnohhbcfiaa", sum := "41e5a1a2a50f2b797a3188102efc17208a78e40d426d346afc4cfd7391a722cb", func := "parcener/parcenerlaw02.CakeNames", spec := "cakeNames", inPlace := ["math/bits.Add64", "math/bits.Sub64"], unfollowed := true, recurses := true, named := ["math/bits.divideError", "math/bits.overflowError"], apart := false, narrowed := true }
def CakeNamesUptoSaid : Prop := cakeNamesUptoRow.holds Try.pinned (OpenSpec.upto cakeNamesSpec)

/-- 'parcenerlaw04.AskNames', WHERE WHAT IT READS IS OF BULK AT MOST 1048576: true; the input reads as it did. -/
def askNamesUptoRow : OpenClaim := { program := "ytgcbmnohhbcfiaa", sum := "41e5a1a2a50f2b797a3188102efc17208a78e40d426d346afc4cfd7391a722cb", func := "parcener/parcenerlaw04.AskNames", spec := "askNames", inPlace := ["math/bits.Add64", "math/bits.Sub64"], unfollowed := true, recurses := true, named := ["math/bits.divideError", "math/bits.overflowError"], apart := false, narrowed := true }
def AskNamesUptoSaid : Prop := askNamesUptoRow.holds Try.pinned (OpenSpec.upto askNamesSpec)

/-- 'parcenerlaw04.AskReplays', WHERE WHAT IT READS IS OF BULK AT MOST 1048576: true; the input reads as it did. -/
def askReplaysUptoRow : OpenClaim := { program := "ytgcbmnohhbcfiaa", sum := "41e5a1a2a50f2b797a3188102efc17208a78e40d426d346afc4cfd7391a722cb", func := "parcener/parcenerlaw04.AskReplays", spec := "askReplays", inPlace := ["math/bits.Add64", "math/bits.Sub64"], unfollowed := true, recurses := true, named := ["math/bits.divideError", "math/bits.overflowError"], apart := false, narrowed := true }
def AskReplaysUptoSaid : Prop := askReplaysUptoRow.holds Try.pinned (OpenSpec.upto askReplaysSpec)

/-- 'parcenerlaw04.AskPrivate', WHERE WHAT IT READS IS OF BULK AT MOST 1048576: true; the input reads as it did. -/
def askPrivateUptoRow : OpenClaim := { program := "ytgcbmnohhbcfiaa", sum := "41e5a1a2a50f2b797a3188102efc17208a78e40d426d346afc4cfd7391a722cb", func := "parcener/parcenerlaw04.AskPrivate", spec := "askPrivate", inPlace := ["math/bits.Add64", "math/bits.Sub64"], unfollowed := true, recurses := true, named := ["math/bits.divideError", "math/bits.overflowError"], apart := false, narrowed := true }
def AskPrivateUptoSaid : Prop := askPrivateUptoRow.holds Try.pinned (OpenSpec.upto askPrivateSpec)

/-- 'parcenerlaw36.AgentAsks', WHERE WHAT IT READS IS OF BULK AT MOST 1048576: true; the input reads as it did. -/
def agentAsksUptoRow : OpenClaim := { program := "ytgcbmnohhbcfiaa", sum := "41e5a1a2a50f2b797a3188102efc17208a78e40d426d346afc4cfd7391a722cb", func := "parcener/parcenerlaw36.AgentAsks", spec := "agentAsks", inPlace := ["math/bits.Add64", "math/bits.Sub64"], unfollowed := true, recurses := true, named := ["math/bits.divideError", "math/bits.overflowError"], apart := false, narrowed := true }
def AgentAsksUptoSaid : Prop := agentAsksUptoRow.holds Try.pinned (OpenSpec.upto agentAsksSpec)

/-- 'parcenerlaw36.AgentNames', WHERE WHAT IT READS IS OF BULK AT MOST 1048576: true; the input reads as it did. -/
def agentNamesUptoRow : OpenClaim := { program := "ytgcbmnohhbcfiaa", sum := "41e5a1a2a50f2b797a3188102efc17208a78e40d426d346afc4cfd7391a722cb", func := "parcener/parcenerlaw36.AgentNames", spec := "agentNames", inPlace := ["math/bits.Add64", "math/bits.Sub64"], unfollowed := true, recurses := true, named := ["math/bits.divideError", "math/bits.overflowError"], apart := false, narrowed := true }
def AgentNamesUptoSaid : Prop := agentNamesUptoRow.holds Try.pinned (OpenSpec.upto agentNamesSpec)

end Rows
end Go.Proofs.Ytgcbmnohhbcfiaa
