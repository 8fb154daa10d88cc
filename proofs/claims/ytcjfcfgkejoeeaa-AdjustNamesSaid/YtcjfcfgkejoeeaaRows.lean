/-
  No cell of these rows narrows 'for every input' (looked for: loops, veiled, ifaces, maps, wideKeys, modest, calm, conditions, laid).
  DERIVED. THE GIVEN ROWS OF THIS SEAT. 6 by the template 'for every input the law returns true; each argument reads behind the call as it read before'; 0 by the template 'total and deterministic' (their statements: YtcjfcfgkejoeeaaTotals.lean).
  GIVEN WITH THE SEED: the statements are not yours to turn. If you find one false, say at which input.
  Laid BY PROGRAM, IN A SANDBOX (cutbox-rows.mjs): the forced cells as the released guide's own fill.sh prints them over the translation cd78eff0628caace… (all of the seat's roots in one cut). By AI agents, Wed Nov 11 2026. No macro, syntax, notation, axiom, sorry.
-/
import Derived.Test.YtcjfcfgkejoeeaaChecked
import GoSem.Claim
import GoSem.ClaimJoined
import GoSem.ClaimMapViews
import Derived.JoinedTies
import Derived.KernelRfl
namespace Go.Proofs.Ytcjfcfgkejoeeaa
/- THE CELL 'sum', in the pinned program and in every row, IS THE sha256 OF THE DUMP (.gsa) THAT YtcjfcfgkejoeeaaProg.lean LOADS. Nothing in Lean hashes anything: it is a label: what it is worth is what the hold of that sum in a sandbox is worth. -/
noncomputable def Try.pinned : Pinned := { name := "ytcjfcfgkejoeeaa", sum := "cd78eff0628caacefecc138fb2fe34ce59992cfa0250d2e5d5f475d8727d5f2f", checked := Try.checked }
namespace Rows
def none {H : Type} : Left H := { results := [], args := [] }

/-- 'parcenerlaw23.AdjustValues': WHATEVER THE INPUT: true; the input reads as it did. -/
def adjustValuesSpec : ChangeSpec := { name := "adjustValues", fn := fun _ => fun
  | [d1, d2] => { results := [.lit (.bool true)], args := [d1, d2] }
  | _ => none }
def adjustValuesRow : OpenClaim := { program := "ytcjfcfgkejoeeaa", sum := "cd78eff0628caacefecc138fb2fe34ce59992cfa0250d2e5d5f475d8727d5f2f", func := "parcener/parcenerlaw23.AdjustValues", spec := "adjustValues", unfollowed := true, recurses := true, apart := false }
def AdjustValuesSaid : Prop := adjustValuesRow.holds Try.pinned (OpenSpec.ofChange adjustValuesSpec)

/-- ITS FALSE NEIGHBOUR: 'it returns false'. Refute it at one input. -/
def adjustValuesWrong : ChangeSpec := { name := "adjustValues", fn := fun _ => fun
  | [d1, d2] => { results := [.lit (.bool false)], args := [d1, d2] }
  | _ => none }
def AdjustValuesWrongFalsely : Prop := adjustValuesRow.holds Try.pinned (OpenSpec.ofChange adjustValuesWrong)

/-- 'parcenerlaw23.AdjustFinds': WHATEVER THE INPUT: true; the input reads as it did. -/
def adjustFindsSpec : ChangeSpec := { name := "adjustFinds", fn := fun _ => fun
  | [d] => { results := [.lit (.bool true)], args := [d] }
  | _ => none }
def adjustFindsRow : OpenClaim := { program := "ytcjfcfgkejoeeaa", sum := "cd78eff0628caacefecc138fb2fe34ce59992cfa0250d2e5d5f475d8727d5f2f", func := "parcener/parcenerlaw23.AdjustFinds", spec := "adjustFinds", unfollowed := true, recurses := true, apart := false }
def AdjustFindsSaid : Prop := adjustFindsRow.holds Try.pinned (OpenSpec.ofChange adjustFindsSpec)

/-- ITS FALSE NEIGHBOUR: 'it returns false'. Refute it at one input. -/
def adjustFindsWrong : ChangeSpec := { name := "adjustFinds", fn := fun _ => fun
  | [d] => { results := [.lit (.bool false)], args := [d] }
  | _ => none }
def AdjustFindsWrongFalsely : Prop := adjustFindsRow.holds Try.pinned (OpenSpec.ofChange adjustFindsWrong)

/-- 'parcenerlaw23.AdjustNames': WHATEVER THE INPUT: true; the input reads as it did. -/
def adjustNamesSpec : ChangeSpec := { name := "adjustNames", fn := fun _ => fun
  | [] => { results := [.lit (.bool true)], args := [] }
  | _ => none }
def adjustNamesRow : OpenClaim := { program := "ytcjfcfgkejoeeaa", sum := "cd78eff0628caacefecc138fb2fe34ce59992cfa0250d2e5d5f475d8727d5f2f", func := "parcener/parcenerlaw23.AdjustNames", spec := "adjustNames", unfollowed := true, recurses := true, apart := false }
def AdjustNamesSaid : Prop := adjustNamesRow.holds Try.pinned (OpenSpec.ofChange adjustNamesSpec)

/-- ITS FALSE NEIGHBOUR: 'it returns false'. Refute it at one input. -/
def adjustNamesWrong : ChangeSpec := { name := "adjustNames", fn := fun _ => fun
  | [] => { results := [.lit (.bool false)], args := [] }
  | _ => none }
def AdjustNamesWrongFalsely : Prop := adjustNamesRow.holds Try.pinned (OpenSpec.ofChange adjustNamesWrong)

/-- 'parcenerlaw23.AdjustFair': WHATEVER THE INPUT: true; the input reads as it did. -/
def adjustFairSpec : ChangeSpec := { name := "adjustFair", fn := fun _ => fun
  | [d1, d2] => { results := [.lit (.bool true)], args := [d1, d2] }
  | _ => none }
def adjustFairRow : OpenClaim := { program := "ytcjfcfgkejoeeaa", sum := "cd78eff0628caacefecc138fb2fe34ce59992cfa0250d2e5d5f475d8727d5f2f", func := "parcener/parcenerlaw23.AdjustFair", spec := "adjustFair", unfollowed := true, recurses := true, apart := false }
def AdjustFairSaid : Prop := adjustFairRow.holds Try.pinned (OpenSpec.ofChange adjustFairSpec)

/-- ITS FALSE NEIGHBOUR: 'it returns false'. Refute it at one input. -/
def adjustFairWrong : ChangeSpec := { name := "adjustFair", fn := fun _ => fun
  | [d1, d2] => { results := [.lit (.bool false)], args := [d1, d2] }
  | _ => none }
def AdjustFairWrongFalsely : Prop := adjustFairRow.holds Try.pinned (OpenSpec.ofChange adjustFairWrong)

/-- 'parcenerlaw23.AdjustPlaces': WHATEVER THE INPUT: true; the input reads as it did. -/
def adjustPlacesSpec : ChangeSpec := { name := "adjustPlaces", fn := fun _ => fun
  | [d1, d2] => { results := [.lit (.bool true)], args := [d1, d2] }
  | _ => none }
def adjustPlacesRow : OpenClaim := { program := "ytcjfcfgkejoeeaa", sum := "cd78eff0628caacefecc138fb2fe34ce59992cfa0250d2e5d5f475d8727d5f2f", func := "parcener/parcenerlaw23.AdjustPlaces", spec := "adjustPlaces", unfollowed := true, recurses := true, apart := false }
def AdjustPlacesSaid : Prop := adjustPlacesRow.holds Try.pinned (OpenSpec.ofChange adjustPlacesSpec)

/-- ITS FALSE NEIGHBOUR: 'it returns false'. Refute it at one input. -/
def adjustPlacesWrong : ChangeSpec := { name := "adjustPlaces", fn := fun _ => fun
  | [d1, d2] => { results := [.lit (.bool false)], args := [d1, d2] }
  | _ => none }
def AdjustPlacesWrongFalsely : Prop := adjustPlacesRow.holds Try.pinned (OpenSpec.ofChange adjustPlacesWrong)

/-- 'parcenerlaw23.AdjustOrder': WHATEVER THE INPUT: true; the input reads as it did. -/
def adjustOrderSpec : ChangeSpec := { name := "adjustOrder", fn := fun _ => fun
  | [d1, d2, d3] => { results := [.lit (.bool true)], args := [d1, d2, d3] }
  | _ => none }
def adjustOrderRow : OpenClaim := { program := "ytcjfcfgkejoeeaa", sum := "cd78eff0628caacefecc138fb2fe34ce59992cfa0250d2e5d5f475d8727d5f2f", func := "parcener/parcenerlaw23.AdjustOrder", spec := "adjustOrder", unfollowed := true, recurses := true, apart := false }
def AdjustOrderSaid : Prop := adjustOrderRow.holds Try.pinned (OpenSpec.ofChange adjustOrderSpec)

/-- ITS FALSE NEIGHBOUR: 'it returns false'. Refute it at one input. -/
def adjustOrderWrong : ChangeSpec := { name := "adjustOrder", fn := fun _ => fun
  | [d1, d2, d3] => { results := [.lit (.bool false)], args := [d1, d2, d3] }
  | _ => none }
def AdjustOrderWrongFalsely : Prop := adjustOrderRow.holds Try.pinned (OpenSpec.ofChange adjustOrderWrong)

/- THE SECOND FORM. 'bulk': how many values and letters a reading holds, each counted each time it is reached (what is shared counts as often as it is met; a slice's spare places count too). A statement '..UptoSaid' is the law's where the arguments, and the package variables that the reading takes, are together of bulk at most 1048576: NARROWER than '..Said'. Prove '..Said' where nothing that the law and all that it calls make is longer than what came in: it says more and counts as full. Else prove '..UptoSaid'. A law counts once. -/
mutual
def uptoBulk {H : Type} : DataW H → Nat
  | .lit (.string bytes) => bytes.length + 1
  | .lit _ => 1
  | .nil => 1
  | .ptr d => uptoBulk d + 1
  | .slice elems spare => uptoBulkAll elems + uptoBulkAll spare + 1
  | .agg parts => uptoBulkAll parts + 1
  | .iface _ d => uptoBulk d + 1
  | .map entries => uptoBulkEntries entries + 1
  | .held _ => 1
def uptoBulkAll {H : Type} : List (DataW H) → Nat
  | [] => 0
  | d :: r => uptoBulk d + uptoBulkAll r
def uptoBulkEntries {H : Type} : List (Lit × DataW H) → Nat
  | [] => 0
  | x :: r => uptoBulkEntry x + uptoBulkEntries r
def uptoBulkEntry {H : Type} : Lit × DataW H → Nat
  | (.string bytes, d) => bytes.length + uptoBulk d + 1
  | (_, d) => uptoBulk d + 1
 end
def uptoSmall : (H : Type) → List (DataW H) → Bool := fun _ ds => decide (uptoBulkAll ds ≤ 1048576)
def OpenSpec.upto (s : _root_.Go.ChangeSpec) : _root_.Go.OpenSpec := { _root_.Go.OpenSpec.ofChange s with cond := some uptoSmall }

/-- 'parcenerlaw23.AdjustValues', WHERE WHAT IT READS IS OF BULK AT MOST 1048576: true; the input reads as it did. -/
def adjustValuesUptoRow : OpenClaim := { program := "ytcjfcfgkejoeeaa", sum := "cd78eff0628caacefecc138fb2fe34ce59992cfa0250d2e5d5f475d8727d5f2f", func := "parcener/parcenerlaw23.AdjustValues", spec := "adjustValues", unfollowed := true, recurses := true, apart := false, narrowed := true }
def AdjustValuesUptoSaid : Prop := adjustValuesUptoRow.holds Try.pinned (OpenSpec.upto adjustValuesSpec)

/-- 'parcenerlaw23.AdjustFinds', WHERE WHAT IT READS IS OF BULK AT MOST 1048576: true; the input reads as it did. -/
def adjustFindsUptoRow : OpenClaim := { program := "ytcjfcfgkejoeeaa", sum := "cd78eff0628caacefecc138fb2fe34ce59992cfa0250d2e5d5f475d8727d5f2f", func := "parcener/parcenerlaw23.AdjustFinds", spec := "adjustFinds", unfollowed := true, recurses := true, apart := false, narrowed := true }
def AdjustFindsUptoSaid : Prop := adjustFindsUptoRow.holds Try.pinned (OpenSpec.upto adjustFindsSpec)

/-- 'parcenerlaw23.AdjustNames', WHERE WHAT IT READS IS OF BULK AT MOST 1048576: true; the input reads as it did. -/
def adjustNamesUptoRow : OpenClaim := { program := "ytcjfcfgkejoeeaa", sum := "cd78eff0628caacefecc138fb2fe34ce59992cfa0250d2e5d5f475d8727d5f2f", func := "parcener/parcenerlaw23.AdjustNames", spec := "adjustNames", unfollowed := true, recurses := true, apart := false, narrowed := true }
def AdjustNamesUptoSaid : Prop := adjustNamesUptoRow.holds Try.pinned (OpenSpec.upto adjustNamesSpec)

/-- 'parcenerlaw23.AdjustFair', WHERE WHAT IT READS IS OF BULK AT MOST 1048576: true; the input reads as it did. -/
def adjustFairUptoRow : OpenClaim := { program := "ytcjfcfgkejoeeaa", sum := "cd78eff0628caacefecc138fb2fe34ce59992cfa0250d2e5d5f475d8727d5f2f", func := "parcener/parcenerlaw23.AdjustFair", spec := "adjustFair", unfollowed := true, recurses := true, apart := false, narrowed := true }
def AdjustFairUptoSaid : Prop := adjustFairUptoRow.holds Try.pinned (OpenSpec.upto adjustFairSpec)

/-- 'parcenerlaw23.AdjustPlaces', WHERE WHAT IT READS IS OF BULK AT MOST 1048576: true; the input reads as it did. -/
def adjustPlacesUptoRow : OpenClaim := { program := "ytcjfcfgkejoeeaa", sum := "cd78eff0628caacefecc138fb2fe34ce59992cfa0250d2e5d5f475d8727d5f2f", func := "parcener/parcenerlaw23.AdjustPlaces", spec := "adjustPlaces", unfollowed := true, recurses := true, apart := false, narrowed := true }
def AdjustPlacesUptoSaid : Prop := adjustPlacesUptoRow.holds Try.pinned (OpenSpec.upto adjustPlacesSpec)

/-- 'parcenerlaw23.AdjustOrder', WHERE WHAT IT READS IS OF BULK AT MOST 1048576: true; the input reads as it did. -/
def adjustOrderUptoRow : OpenClaim := { program := "ytcjfcfgkejoeeaa", sum := "cd78eff0628caacefecc138fb2fe34ce59992cfa0250d2e5d5f475d8727d5f2f", func := "parcener/parcenerlaw23.AdjustOrder", spec := "adjustOrder", unfollowed := true, recurses := true, apart := false, narrowed := true }
def AdjustOrderUptoSaid : Prop := adjustOrderUptoRow.holds Try.pinned (OpenSpec.upto adjustOrderSpec)

end Rows
end Go.Proofs.Ytcjfcfgkejoeeaa
