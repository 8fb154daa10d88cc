/- Regions that draw their order and write blocks that were there before. -/
import Derived.Test.YtgcbmnohhbcfiaaFlow
namespace Go.Proofs.Ytgcbmnohhbcfiaa
open Go.RowKit
set_option linter.unusedVariables false
set_option linter.unusedSimpArgs false
theorem RK.at0 {wb w0 : World} {X : List Nat} (hb : Below wb.heap.size wb w0) : RK wb w0 X w0 := ⟨hb, Nat.le_refl _, fun _ _ _ => rfl⟩
/-- The beginning, with a base further back: the blocks X may be written. -/
theorem wp_region_flow_at {P : Program} {l : List Oper} {id : Nat} {Q : Exit → Act → World → Prop} {a : Act} {w : World} (wb : World) (X : List Nat) (n : Nat) (hm : P.follows .mixedOrders = true) (hn : l.length = n) (hb : Below wb.heap.size wb w)
    (h : ∀ w0, Below w.heap.size w w0 → Below wb.heap.size wb w0 → wpAnyE P .any l.toArray (NoPanic Q) (RK wb w0 X) n (Array.replicate n false) a w0) : (Code.region id l.toArray true).wp P Q a w := by
  subst hn
  exact wp_region_noPanic (wp_region_E (R := RK wb w.drew X) hm (RK.at0 hb.drew) (by simpa using h w.drew (Below.refl _ _).drew hb.drew))
end Go.Proofs.Ytgcbmnohhbcfiaa
