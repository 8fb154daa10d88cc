/-
  No cell of these rows narrows 'for every input' (looked for: loops, veiled, ifaces, maps, wideKeys, modest, calm, conditions, laid).
  DERIVED. THE GIVEN ROWS OF THIS SEAT. 7 by the template 'for every input the law returns true; each argument reads behind the call as it read before'; 0 by the template 'total and deterministic' (their statements: YtpijllobpohpgaaTotals.lean).
  GIVEN WITH THE SEED: the statements are not yours to turn. If you find one false, say at which input.
  Laid BY PROGRAM, IN A SANDBOX (cutbox-rows.mjs): the forced cells as the released guide's own fill.sh prints them over the translation 8404735cf1533e59… (all of the seat's roots in one cut). By AI agents, Wed Nov 11 2026. No macro, syntax, notation, axiom, sorry.
-/
import Derived.Test.YtpijllobpohpgaaChecked
import GoSem.Claim
import GoSem.ClaimJoined
import GoSem.ClaimMapViews
import Derived.JoinedTies
import Derived.KernelRfl
namespace Go.Proofs.Ytpijllobpohpgaa
/- THE CELL 'sum', in the pinned program and in every row, IS THE sha256 OF THE DUMP (.gsa) THAT YtpijllobpohpgaaProg.lean LOADS. Nothing in Lean hashes anything: it is a label: what it is worth is what the hold of that sum in a sandbox is worth. -/
noncomputable def Try.pinned : Pinned := { name := "ytpijllobpohpgaa", sum := "8404735cf1533e59e71d1a39458ecbf35b5251b52ec11ac6b714639ab65b030c", checked := Try.checked }
namespace Rows
def none {H : Type} : Left H := { results := [], args := [] }

/-- 'parcenerlaw27.MarketClears': WHATEVER THE INPUT: true; the input reads as it did. -/
def marketClearsSpec : ChangeSpec := { name := "marketClears", fn := fun _ => fun
  | [d] => { results := [.lit (.bool true)], args := [d] }
  | _ => none }
def marketClearsRow : OpenClaim := { program := "ytpijllobpohpgaa", sum := "8404735cf1533e59e71d1a39458ecbf35b5251b52ec11ac6b714639ab65b030c", func := "parcener/parcenerlaw27.MarketClears", spec := "marketClears", inPlace := ["math/bits.Add64", "math/bits.Sub64"], unfollowed := true, recurses := true, named := ["math/bits.divideError", "math/bits.overflowError"], apart := false }
def MarketClearsSaid : Prop := marketClearsRow.holds Try.pinned (OpenSpec.ofChange marketClearsSpec)

/-- ITS FALSE NEIGHBOUR: 'it returns false'. Refute it at one input. -/
def marketClearsWrong : ChangeSpec := { name := "marketClears", fn := fun _ => fun
  | [d] => { results := [.lit (.bool false)], args := [d] }
  | _ => none }
def MarketClearsWrongFalsely : Prop := marketClearsRow.holds Try.pinned (OpenSpec.ofChange marketClearsWrong)

/-- 'parcenerlaw27.MarketOnly': WHATEVER THE INPUT: true; the input reads as it did. -/
def marketOnlySpec : ChangeSpec := { name := "marketOnly", fn := fun _ => fun
  | [d1, d2, d3] => { results := [.lit (.bool true)], args := [d1, d2, d3] }
  | _ => none }
def marketOnlyRow : OpenClaim := { program := "ytpijllobpohpgaa", sum := "8404735cf1533e59e71d1a39458ecbf35b5251b52ec11ac6b714639ab65b030c", func := "parcener/parcenerlaw27.MarketOnly", spec := "marketOnly", inPlace := ["math/bits.Add64", "math/bits.Sub64"], unfollowed := true, recurses := true, named := ["math/bits.divideError", "math/bits.overflowError"], apart := false }
def MarketOnlySaid : Prop := marketOnlyRow.holds Try.pinned (OpenSpec.ofChange marketOnlySpec)

/-- ITS FALSE NEIGHBOUR: 'it returns false'. Refute it at one input. -/
def marketOnlyWrong : ChangeSpec := { name := "marketOnly", fn := fun _ => fun
  | [d1, d2, d3] => { results := [.lit (.bool false)], args := [d1, d2, d3] }
  | _ => none }
def MarketOnlyWrongFalsely : Prop := marketOnlyRow.holds Try.pinned (OpenSpec.ofChange marketOnlyWrong)

/-- 'parcenerlaw27.MarketAccepts': WHATEVER THE INPUT: true; the input reads as it did. -/
def marketAcceptsSpec : ChangeSpec := { name := "marketAccepts", fn := fun _ => fun
  | [d1, d2, d3, d4] => { results := [.lit (.bool true)], args := [d1, d2, d3, d4] }
  | _ => none }
def marketAcceptsRow : OpenClaim := { program := "ytpijllobpohpgaa", sum := "8404735cf1533e59e71d1a39458ecbf35b5251b52ec11ac6b714639ab65b030c", func := "parcener/parcenerlaw27.MarketAccepts", spec := "marketAccepts", inPlace := ["math/bits.Add64", "math/bits.Sub64"], unfollowed := true, recurses := true, named := ["math/bits.divideError", "math/bits.overflowError"], apart := false }
def MarketAcceptsSaid : Prop := marketAcceptsRow.holds Try.pinned (OpenSpec.ofChange marketAcceptsSpec)

/-- ITS FALSE NEIGHBOUR: 'it returns false'. Refute it at one input. -/
def marketAcceptsWrong : ChangeSpec := { name := "marketAccepts", fn := fun _ => fun
  | [d1, d2, d3, d4] => { results := [.lit (.bool false)], args := [d1, d2, d3, d4] }
  | _ => none }
def MarketAcceptsWrongFalsely : Prop := marketAcceptsRow.holds Try.pinned (OpenSpec.ofChange marketAcceptsWrong)

/-- 'parcenerlaw27.MarketFinds': WHATEVER THE INPUT: true; the input reads as it did. -/
def marketFindsSpec : ChangeSpec := { name := "marketFinds", fn := fun _ => fun
  | [d1, d2] => { results := [.lit (.bool true)], args := [d1, d2] }
  | _ => none }
def marketFindsRow : OpenClaim := { program := "ytpijllobpohpgaa", sum := "8404735cf1533e59e71d1a39458ecbf35b5251b52ec11ac6b714639ab65b030c", func := "parcener/parcenerlaw27.MarketFinds", spec := "marketFinds", inPlace := ["math/bits.Add64", "math/bits.Sub64"], unfollowed := true, recurses := true, named := ["math/bits.divideError", "math/bits.overflowError"], apart := false }
def MarketFindsSaid : Prop := marketFindsRow.holds Try.pinned (OpenSpec.ofChange marketFindsSpec)

/-- ITS FALSE NEIGHBOUR: 'it returns false'. Refute it at one input. -/
def marketFindsWrong : ChangeSpec := { name := "marketFinds", fn := fun _ => fun
  | [d1, d2] => { results := [.lit (.bool false)], args := [d1, d2] }
  | _ => none }
def MarketFindsWrongFalsely : Prop := marketFindsRow.holds Try.pinned (OpenSpec.ofChange marketFindsWrong)

/-- 'parcenerlaw27.MarketGreatest': WHATEVER THE INPUT: true; the input reads as it did. -/
def marketGreatestSpec : ChangeSpec := { name := "marketGreatest", fn := fun _ => fun
  | [d1, d2] => { results := [.lit (.bool true)], args := [d1, d2] }
  | _ => none }
def marketGreatestRow : OpenClaim := { program := "ytpijllobpohpgaa", sum := "8404735cf1533e59e71d1a39458ecbf35b5251b52ec11ac6b714639ab65b030c", func := "parcener/parcenerlaw27.MarketGreatest", spec := "marketGreatest", inPlace := ["math/bits.Add64", "math/bits.Sub64"], unfollowed := true, recurses := true, named := ["math/bits.divideError", "math/bits.overflowError"], apart := false }
def MarketGreatestSaid : Prop := marketGreatestRow.holds Try.pinned (OpenSpec.ofChange marketGreatestSpec)

/-- ITS FALSE NEIGHBOUR: 'it returns false'. Refute it at one input. -/
def marketGreatestWrong : ChangeSpec := { name := "marketGreatest", fn := fun _ => fun
  | [d1, d2] => { results := [.lit (.bool false)], args := [d1, d2] }
  | _ => none }
def MarketGreatestWrongFalsely : Prop := marketGreatestRow.holds Try.pinned (OpenSpec.ofChange marketGreatestWrong)

/-- 'parcenerlaw27.MarketScales': WHATEVER THE INPUT: true; the input reads as it did. -/
def marketScalesSpec : ChangeSpec := { name := "marketScales", fn := fun _ => fun
  | [d1, d2, d3] => { results := [.lit (.bool true)], args := [d1, d2, d3] }
  | _ => none }
def marketScalesRow : OpenClaim := { program := "ytpijllobpohpgaa", sum := "8404735cf1533e59e71d1a39458ecbf35b5251b52ec11ac6b714639ab65b030c", func := "parcener/parcenerlaw27.MarketScales", spec := "marketScales", inPlace := ["math/bits.Add64", "math/bits.Sub64"], unfollowed := true, recurses := true, named := ["math/bits.divideError", "math/bits.overflowError"], apart := false }
def MarketScalesSaid : Prop := marketScalesRow.holds Try.pinned (OpenSpec.ofChange marketScalesSpec)

/-- ITS FALSE NEIGHBOUR: 'it returns false'. Refute it at one input. -/
def marketScalesWrong : ChangeSpec := { name := "marketScales", fn := fun _ => fun
  | [d1, d2, d3] => { results := [.lit (.bool false)], args := [d1, d2, d3] }
  | _ => none }
def MarketScalesWrongFalsely : Prop := marketScalesRow.holds Try.pinned (OpenSpec.ofChange marketScalesWrong)

/-- 'parcenerlaw27.MarketNames': WHATEVER THE INPUT: true; the input reads as it did. -/
def marketNamesSpec : ChangeSpec := { name := "marketNames", fn := fun _ => fun
  | [] => { results := [.lit (.bool true)], args := [] }
  | _ => none }
def marketNamesRow : OpenClaim := { program := "ytpijllobpohpgaa", sum := "8404735cf1533e59e71d1a39458ecbf35b5251b52ec11ac6b714639ab65b030c", func := "parcener/parcenerlaw27.MarketNames", spec := "marketNames", inPlace := ["math/bits.Add64", "math/bits.Sub64"], unfollowed := true, recurses := true, named := ["math/bits.divideError", "math/bits.overflowError"], apart := false }
def MarketNamesSaid : Prop := marketNamesRow.holds Try.pinned (OpenSpec.ofChange marketNamesSpec)

/-- ITS FALSE NEIGHBOUR: 'it returns false'. Refute it at one input. -/
def marketNamesWrong : ChangeSpec := { name := "marketNames", fn := fun _ => fun
  | [] => { results := [.lit (.bool false)], args := [] }
  | _ => none }
def MarketNamesWrongFalsely : Prop := marketNamesRow.holds Try.pinned (OpenSpec.ofChange marketNamesWrong)

/- THE SECOND FORM. 'bulk': how many values and letters a reading holds, each counted each time it is reached (what is shared counts as often as it is met; a slice's spare places count too). A statement '..UptoSaid' is the law's where the arguments, and the package variables that the reading takes, are together of bulk at most 1048576: NARROWER than '..Said'. Prove '..Said' where nothing that the law and all that it calls make is longer than what came in: it says more and counts as full. Else prove '..UptoSaid'. A law counts once. -/
mutual
def uptoBulk {H : Type} : DataW H → Nat
  | .lit (.string bytes) => bytes.length + 1
  | .lit _ => 1
  | .nil => 1
  | .ptr d => uptoBulk d + 1
  | .slice elems spare => uptoBulkAll elems + uptoBulkAll spare + 1
  | .agg parts => uptoBulkAll parts + 1
  | .iface _ d => uptoBulk d + 1
  | .map entries => uptoBulkEntries entries + 1
  | .held _ => 1
def uptoBulkAll {H : Type} : List (DataW H) → Nat
  | [] => 0
  | d :: r => uptoBulk d + uptoBulkAll r
def uptoBulkEntries {H : Type} : List (Lit × DataW H) → Nat
  | [] => 0
  | x :: r => uptoBulkEntry x + uptoBulkEntries r
def uptoBulkEntry {H : Type} : Lit × DataW H → Nat
  | (.string bytes, d) => bytes.length + uptoBulk d + 1
  | (_, d) => uptoBulk d + 1
 end
def uptoSmall : (H : Type) → List (DataW H) → Bool := fun _ ds => decide (uptoBulkAll ds ≤ 1048576)
def OpenSpec.upto (s : _root_.Go.ChangeSpec) : _root_.Go.OpenSpec := { _root_.Go.OpenSpec.ofChange s with cond := some uptoSmall }

/-- 'parcenerlaw27.MarketClears', WHERE WHAT IT READS IS OF BULK AT MOST 1048576: true; the input reads as it did. -/
def marketClearsUptoRow : OpenClaim := { program := "ytpijllobpohpgaa", sum := "8404735cf1533e59e71d1a39458ecbf35b5251b52ec11ac6b714639ab65b030c", func := "parcener/parcenerlaw27.MarketClears", spec := "marketClears", inPlace := ["math/bits.Add64", "math/bits.Sub64"], unfollowed := true, recurses := true, named := ["math/bits.divideError", "math/bits.overflowError"], apart := false, narrowed := true }
def MarketClearsUptoSaid : Prop := marketClearsUptoRow.holds Try.pinned (OpenSpec.upto marketClearsSpec)

/-- 'parcenerlaw27.MarketOnly', WHERE WHAT IT READS IS OF BULK AT MOST 1048576: true; the input reads as it did. -/
def marketOnlyUptoRow : OpenClaim := { program := "ytpijllobpohpgaa", sum := "8404735cf1533e59e71d1a39458ecbf35b5251b52ec11ac6b714639ab65b030c", func := "parcener/parcenerlaw27.MarketOnly", spec := "marketOnly", inPlace := ["math/bits.Add64", "math/bits.Sub64"], unfollowed := true, recurses := true, named := ["math/bits.divideError", "math/bits.overflowError"], apart := false, narrowed := true }
def MarketOnlyUptoSaid : Prop := marketOnlyUptoRow.holds Try.pinned (OpenSpec.upto marketOnlySpec)

/-- 'parcenerlaw27.MarketAccepts', WHERE WHAT IT READS IS OF BULK AT MOST 1048576: true; the input reads as it did. -/
def marketAcceptsUptoRow : OpenClaim := { program := "ytpijllobpohpgaa", sum := "8404735cf1533e59e71d1a39458ecbf35b5251b52ec11ac6b714639ab65b030c", func := "parcener/parcenerlaw27.MarketAccepts", spec := "marketAccepts", inPlace := ["math/bits.Add64", "math/bits.Sub64"], unfollowed := true, recurses := true, named := ["math/bits.divideError", "math/bits.overflowError"], apart := false, narrowed := true }
def MarketAcceptsUptoSaid : Prop := marketAcceptsUptoRow.holds Try.pinned (OpenSpec.upto marketAcceptsSpec)

/-- 'parcenerlaw27.MarketFinds', WHERE WHAT IT READS IS OF BULK AT MOST 1048576: true; the input reads as it did. -/
def marketFindsUptoRow : OpenClaim := { program := "ytpijllobpohpgaa", sum := "8404735cf1533e59e71d1a39458ecbf35b5251b52ec11ac6b714639ab65b030c", func := "parcener/parcenerlaw27.MarketFinds", spec := "marketFinds", inPlace := ["math/bits.Add64", "math/bits.Sub64"], unfollowed := true, recurses := true, named := ["math/bits.divideError", "math/bits.overflowError"], apart := false, narrowed := true }
def MarketFindsUptoSaid : Prop := marketFindsUptoRow.holds Try.pinned (OpenSpec.upto marketFindsSpec)

/-- 'parcenerlaw27.MarketGreatest', WHERE WHAT IT READS IS OF BULK AT MOST 1048576: true; the input reads as it did. -/
def marketGreatestUptoRow : OpenClaim := { program := "ytpijllobpohpgaa", sum := "8404735cf1533e59e71d1a39458ecbf35b5251b52ec11ac6b714639ab65b030c", func := "parcener/parcenerlaw27.MarketGreatest", spec := "marketGreatest", inPlace := ["math/bits.Add64", "math/bits.Sub64"], unfollowed := true, recurses := true, named := ["math/bits.divideError", "math/bits.overflowError"], apart := false, narrowed := true }
def MarketGreatestUptoSaid : Prop := marketGreatestUptoRow.holds Try.pinned (OpenSpec.upto marketGreatestSpec)

/-- 'parcenerlaw27.MarketScales', WHERE WHAT IT READS IS OF BULK AT MOST 1048576: true; the input reads as it did. -/
def marketScalesUptoRow : OpenClaim := { program := "ytpijllobpohpgaa", sum := "8404735cf1533e59e71d1a39458ecbf35b5251b52ec11ac6b714639ab65b030c", func := "parcener/parcenerlaw27.MarketScales", spec := "marketScales", inPlace := ["math/bits.Add64", "math/bits.Sub64"], unfollowed := true, recurses := true, named := ["math/bits.divideError", "math/bits.overflowError"], apart := false, narrowed := true }
def MarketScalesUptoSaid : Prop := marketScalesUptoRow.holds Try.pinned (OpenSpec.upto marketScalesSpec)

/-- 'parcenerlaw27.MarketNames', WHERE WHAT IT READS IS OF BULK AT MOST 1048576: true; the input reads as it did. -/
def marketNamesUptoRow : OpenClaim := { program := "ytpijllobpohpgaa", sum := "8404735cf1533e59e71d1a39458ecbf35b5251b52ec11ac6b714639ab65b030c", func := "parcener/parcenerlaw27.MarketNames", spec := "marketNames", inPlace := ["math/bits.Add64", "math/bits.Sub64"], unfollowed := true, recurses := true, named := ["math/bits.divideError", "math/bits.overflowError"], apart := false, narrowed := true }
def MarketNamesUptoSaid : Prop := marketNamesUptoRow.holds Try.pinned (OpenSpec.upto marketNamesSpec)

end Rows
end Go.Proofs.Ytpijllobpohpgaa
