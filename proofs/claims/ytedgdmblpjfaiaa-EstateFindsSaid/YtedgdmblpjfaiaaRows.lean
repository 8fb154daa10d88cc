/-
  No cell of these rows narrows 'for every input' (looked for: loops, veiled, ifaces, maps, wideKeys, modest, calm, conditions, laid).
  DERIVED. THE GIVEN ROWS OF THIS SEAT. 7 by the template 'for every input the law returns true; each argument reads behind the call as it read before'; 0 by the template 'total and deterministic' (their statements: YtedgdmblpjfaiaaTotals.lean).
  GIVEN WITH THE SEED: the statements are not yours to turn. If you find one false, say at which input.
  Laid BY PROGRAM, IN A SANDBOX (cutbox-rows.mjs): the forced cells as the released guide's own fill.sh prints them over the translation 45f85d9940b5aa26… (all of the seat's roots in one cut). By AI agents, Wed Nov 11 2026. No macro, syntax, notation, axiom, sorry.
-/
import Derived.Test.YtedgdmblpjfaiaaChecked
import GoSem.Claim
import GoSem.ClaimJoined
import GoSem.ClaimMapViews
import Derived.JoinedTies
import Derived.KernelRfl
namespace Go.Proofs.Ytedgdmblpjfaiaa
/- THE CELL 'sum', in the pinned program and in every row, IS THE sha256 OF THE DUMP (.gsa) THAT YtedgdmblpjfaiaaProg.lean LOADS. Nothing in Lean hashes anything: it is a label: what it is worth is what the hold of that sum in a sandbox is worth. -/
noncomputable def Try.pinned : Pinned := { name := "ytedgdmblpjfaiaa", sum := "45f85d9940b5aa261451c27b40c1b9956ec5f222d57be501332578b1196645a4", checked := Try.checked }
namespace Rows
def none {H : Type} : Left H := { results := [], args := [] }

/-- 'parcenerlaw28.EstateAccepts': WHATEVER THE INPUT: true; the input reads as it did. -/
def estateAcceptsSpec : ChangeSpec := { name := "estateAccepts", fn := fun _ => fun
  | [d1, d2, d3] => { results := [.lit (.bool true)], args := [d1, d2, d3] }
  | _ => none }
def estateAcceptsRow : OpenClaim := { program := "ytedgdmblpjfaiaa", sum := "45f85d9940b5aa261451c27b40c1b9956ec5f222d57be501332578b1196645a4", func := "parcener/parcenerlaw28.EstateAccepts", spec := "estateAccepts", unfollowed := true, recurses := true, apart := false }
def EstateAcceptsSaid : Prop := estateAcceptsRow.holds Try.pinned (OpenSpec.ofChange estateAcceptsSpec)

/-- ITS FALSE NEIGHBOUR: 'it returns false'. Refute it at one input. -/
def estateAcceptsWrong : ChangeSpec := { name := "estateAccepts", fn := fun _ => fun
  | [d1, d2, d3] => { results := [.lit (.bool false)], args := [d1, d2, d3] }
  | _ => none }
def EstateAcceptsWrongFalsely : Prop := estateAcceptsRow.holds Try.pinned (OpenSpec.ofChange estateAcceptsWrong)

/-- 'parcenerlaw28.EstateFinds': WHATEVER THE INPUT: true; the input reads as it did. -/
def estateFindsSpec : ChangeSpec := { name := "estateFinds", fn := fun _ => fun
  | [d] => { results := [.lit (.bool true)], args := [d] }
  | _ => none }
def estateFindsRow : OpenClaim := { program := "ytedgdmblpjfaiaa", sum := "45f85d9940b5aa261451c27b40c1b9956ec5f222d57be501332578b1196645a4", func := "parcener/parcenerlaw28.EstateFinds", spec := "estateFinds", unfollowed := true, recurses := true, apart := false }
def EstateFindsSaid : Prop := estateFindsRow.holds Try.pinned (OpenSpec.ofChange estateFindsSpec)

/-- ITS FALSE NEIGHBOUR: 'it returns false'. Refute it at one input. -/
def estateFindsWrong : ChangeSpec := { name := "estateFinds", fn := fun _ => fun
  | [d] => { results := [.lit (.bool false)], args := [d] }
  | _ => none }
def EstateFindsWrongFalsely : Prop := estateFindsRow.holds Try.pinned (OpenSpec.ofChange estateFindsWrong)

/-- 'parcenerlaw28.EstatePool': WHATEVER THE INPUT: true; the input reads as it did. -/
def estatePoolSpec : ChangeSpec := { name := "estatePool", fn := fun _ => fun
  | [d1, d2, d3, d4] => { results := [.lit (.bool true)], args := [d1, d2, d3, d4] }
  | _ => none }
def estatePoolRow : OpenClaim := { program := "ytedgdmblpjfaiaa", sum := "45f85d9940b5aa261451c27b40c1b9956ec5f222d57be501332578b1196645a4", func := "parcener/parcenerlaw28.EstatePool", spec := "estatePool", unfollowed := true, recurses := true, apart := false }
def EstatePoolSaid : Prop := estatePoolRow.holds Try.pinned (OpenSpec.ofChange estatePoolSpec)

/-- ITS FALSE NEIGHBOUR: 'it returns false'. Refute it at one input. -/
def estatePoolWrong : ChangeSpec := { name := "estatePool", fn := fun _ => fun
  | [d1, d2, d3, d4] => { results := [.lit (.bool false)], args := [d1, d2, d3, d4] }
  | _ => none }
def EstatePoolWrongFalsely : Prop := estatePoolRow.holds Try.pinned (OpenSpec.ofChange estatePoolWrong)

/-- 'parcenerlaw28.EstateItems': WHATEVER THE INPUT: true; the input reads as it did. -/
def estateItemsSpec : ChangeSpec := { name := "estateItems", fn := fun _ => fun
  | [d1, d2] => { results := [.lit (.bool true)], args := [d1, d2] }
  | _ => none }
def estateItemsRow : OpenClaim := { program := "ytedgdmblpjfaiaa", sum := "45f85d9940b5aa261451c27b40c1b9956ec5f222d57be501332578b1196645a4", func := "parcener/parcenerlaw28.EstateItems", spec := "estateItems", unfollowed := true, recurses := true, apart := false }
def EstateItemsSaid : Prop := estateItemsRow.holds Try.pinned (OpenSpec.ofChange estateItemsSpec)

/-- ITS FALSE NEIGHBOUR: 'it returns false'. Refute it at one input. -/
def estateItemsWrong : ChangeSpec := { name := "estateItems", fn := fun _ => fun
  | [d1, d2] => { results := [.lit (.bool false)], args := [d1, d2] }
  | _ => none }
def EstateItemsWrongFalsely : Prop := estateItemsRow.holds Try.pinned (OpenSpec.ofChange estateItemsWrong)

/-- 'parcenerlaw28.EstateShares': WHATEVER THE INPUT: true; the input reads as it did. -/
def estateSharesSpec : ChangeSpec := { name := "estateShares", fn := fun _ => fun
  | [d1, d2] => { results := [.lit (.bool true)], args := [d1, d2] }
  | _ => none }
def estateSharesRow : OpenClaim := { program := "ytedgdmblpjfaiaa", sum := "45f85d9940b5aa261451c27b40c1b9956ec5f222d57be501332578b1196645a4", func := "parcener/parcenerlaw28.EstateShares", spec := "estateShares", unfollowed := true, recurses := true, apart := false }
def EstateSharesSaid : Prop := estateSharesRow.holds Try.pinned (OpenSpec.ofChange estateSharesSpec)

/-- ITS FALSE NEIGHBOUR: 'it returns false'. Refute it at one input. -/
def estateSharesWrong : ChangeSpec := { name := "estateShares", fn := fun _ => fun
  | [d1, d2] => { results := [.lit (.bool false)], args := [d1, d2] }
  | _ => none }
def EstateSharesWrongFalsely : Prop := estateSharesRow.holds Try.pinned (OpenSpec.ofChange estateSharesWrong)

/-- 'parcenerlaw28.EstateNames': WHATEVER THE INPUT: true; the input reads as it did. -/
def estateNamesSpec : ChangeSpec := { name := "estateNames", fn := fun _ => fun
  | [] => { results := [.lit (.bool true)], args := [] }
  | _ => none }
def estateNamesRow : OpenClaim := { program := "ytedgdmblpjfaiaa", sum := "45f85d9940b5aa261451c27b40c1b9956ec5f222d57be501332578b1196645a4", func := "parcener/parcenerlaw28.EstateNames", spec := "estateNames", unfollowed := true, recurses := true, apart := false }
def EstateNamesSaid : Prop := estateNamesRow.holds Try.pinned (OpenSpec.ofChange estateNamesSpec)

/-- ITS FALSE NEIGHBOUR: 'it returns false'. Refute it at one input. -/
def estateNamesWrong : ChangeSpec := { name := "estateNames", fn := fun _ => fun
  | [] => { results := [.lit (.bool false)], args := [] }
  | _ => none }
def EstateNamesWrongFalsely : Prop := estateNamesRow.holds Try.pinned (OpenSpec.ofChange estateNamesWrong)

/-- 'parcenerlaw28.EstateFair': WHATEVER THE INPUT: true; the input reads as it did. -/
def estateFairSpec : ChangeSpec := { name := "estateFair", fn := fun _ => fun
  | [d] => { results := [.lit (.bool true)], args := [d] }
  | _ => none }
def estateFairRow : OpenClaim := { program := "ytedgdmblpjfaiaa", sum := "45f85d9940b5aa261451c27b40c1b9956ec5f222d57be501332578b1196645a4", func := "parcener/parcenerlaw28.EstateFair", spec := "estateFair", unfollowed := true, recurses := true, apart := false }
def EstateFairSaid : Prop := estateFairRow.holds Try.pinned (OpenSpec.ofChange estateFairSpec)

/-- ITS FALSE NEIGHBOUR: 'it returns false'. Refute it at one input. -/
def estateFairWrong : ChangeSpec := { name := "estateFair", fn := fun _ => fun
  | [d] => { results := [.lit (.bool false)], args := [d] }
  | _ => none }
def EstateFairWrongFalsely : Prop := estateFairRow.holds Try.pinned (OpenSpec.ofChange estateFairWrong)

/- THE SECOND FORM. 'bulk': how many values and letters a reading holds, each counted each time it is reached (what is shared counts as often as it is met; a slice's spare places count too). A statement '..UptoSaid' is the law's where the arguments, and the package variables that the reading takes, are together of bulk at most 1048576: NARROWER than '..Said'. Prove '..Said' where nothing that the law and all that it calls make is longer than what came in: it says more and counts as full. Else prove '..UptoSaid'. A law counts once. -/
mutual
def uptoBulk {H : Type} : DataW H → Nat
  | .lit (.string bytes) => bytes.length + 1
  | .lit _ => 1
  | .nil => 1
  | .ptr d => uptoBulk d + 1
  | .slice elems spare => uptoBulkAll elems + uptoBulkAll spare + 1
  | .agg parts => uptoBulkAll parts + 1
  | .iface _ d => uptoBulk d + 1
  | .map entries => uptoBulkEntries entries + 1
  | .held _ => 1
def uptoBulkAll {H : Type} : List (DataW H) → Nat
  | [] => 0
  | d :: r => uptoBulk d + uptoBulkAll r
def uptoBulkEntries {H : Type} : List (Lit × DataW H) → Nat
  | [] => 0
  | x :: r => uptoBulkEntry x + uptoBulkEntries r
def uptoBulkEntry {H : Type} : Lit × DataW H → Nat
  | (.string bytes, d) => bytes.length + uptoBulk d + 1
  | (_, d) => uptoBulk d + 1
 end
def uptoSmall : (H : Type) → List (DataW H) → Bool := fun _ ds => decide (uptoBulkAll ds ≤ 1048576)
def OpenSpec.upto (s : _root_.Go.ChangeSpec) : _root_.Go.OpenSpec := { _root_.Go.OpenSpec.ofChange s with cond := some uptoSmall }

/-- 'parcenerlaw28.EstateAccepts', WHERE WHAT IT READS IS OF BULK AT MOST 1048576: true; the input reads as it did. -/
def estateAcceptsUptoRow : OpenClaim := { program := "ytedgdmblpjfaiaa", sum := "45f85d9940b5aa261451c27b40c1b9956ec5f222d57be501332578b1196645a4", func := "parcener/parcenerlaw28.EstateAccepts", spec := "estateAccepts", unfollowed := true, recurses := true, apart := false, narrowed := true }
def EstateAcceptsUptoSaid : Prop := estateAcceptsUptoRow.holds Try.pinned (OpenSpec.upto estateAcceptsSpec)

/-- 'parcenerlaw28.EstateFinds', WHERE WHAT IT READS IS OF BULK AT MOST 1048576: true; the input reads as it did. -/
def estateFindsUptoRow : OpenClaim := { program := "ytedgdmblpjfaiaa", sum := "45f85d9940b5aa261451c27b40c1b9956ec5f222d57be501332578b1196645a4", func := "parcener/parcenerlaw28.EstateFinds", spec := "estateFinds", unfollowed := true, recurses := true, apart := false, narrowed := true }
def EstateFindsUptoSaid : Prop := estateFindsUptoRow.holds Try.pinned (OpenSpec.upto estateFindsSpec)

/-- 'parcenerlaw28.EstatePool', WHERE WHAT IT READS IS OF BULK AT MOST 1048576: true; the input reads as it did. -/
def estatePoolUptoRow : OpenClaim := { program := "ytedgdmblpjfaiaa", sum := "45f85d9940b5aa261451c27b40c1b9956ec5f222d57be501332578b1196645a4", func := "parcener/parcenerlaw28.EstatePool", spec := "estatePool", unfollowed := true, recurses := true, apart := false, narrowed := true }
def EstatePoolUptoSaid : Prop := estatePoolUptoRow.holds Try.pinned (OpenSpec.upto estatePoolSpec)

/-- 'parcenerlaw28.EstateItems', WHERE WHAT IT READS IS OF BULK AT MOST 1048576: true; the input reads as it did. -/
def estateItemsUptoRow : OpenClaim := { program := "ytedgdmblpjfaiaa", sum := "45f85d9940b5aa261451c27b40c1b9956ec5f222d57be501332578b1196645a4", func := "parcener/parcenerlaw28.EstateItems", spec := "estateItems", unfollowed := true, recurses := true, apart := false, narrowed := true }
def EstateItemsUptoSaid : Prop := estateItemsUptoRow.holds Try.pinned (OpenSpec.upto estateItemsSpec)

/-- 'parcenerlaw28.EstateShares', WHERE WHAT IT READS IS OF BULK AT MOST 1048576: true; the input reads as it did. -/
def estateSharesUptoRow : OpenClaim := { program := "ytedgdmblpjfaiaa", sum := "45f85d9940b5aa261451c27b40c1b9956ec5f222d57be501332578b1196645a4", func := "parcener/parcenerlaw28.EstateShares", spec := "estateShares", unfollowed := true, recurses := true, apart := false, narrowed := true }
def EstateSharesUptoSaid : Prop := estateSharesUptoRow.holds Try.pinned (OpenSpec.upto estateSharesSpec)

/-- 'parcenerlaw28.EstateNames', WHERE WHAT IT READS IS OF BULK AT MOST 1048576: true; the input reads as it did. -/
def estateNamesUptoRow : OpenClaim := { program := "ytedgdmblpjfaiaa", sum := "45f85d9940b5aa261451c27b40c1b9956ec5f222d57be501332578b1196645a4", func := "parcener/parcenerlaw28.EstateNames", spec := "estateNames", unfollowed := true, recurses := true, apart := false, narrowed := true }
def EstateNamesUptoSaid : Prop := estateNamesUptoRow.holds Try.pinned (OpenSpec.upto estateNamesSpec)

/-- 'parcenerlaw28.EstateFair', WHERE WHAT IT READS IS OF BULK AT MOST 1048576: true; the input reads as it did. -/
def estateFairUptoRow : OpenClaim := { program := "ytedgdmblpjfaiaa", sum := "45f85d9940b5aa261451c27b40c1b9956ec5f222d57be501332578b1196645a4", func := "parcener/parcenerlaw28.EstateFair", spec := "estateFair", unfollowed := true, recurses := true, apart := false, narrowed := true }
def EstateFairUptoSaid : Prop := estateFairUptoRow.holds Try.pinned (OpenSpec.upto estateFairSpec)

end Rows
end Go.Proofs.Ytedgdmblpjfaiaa
