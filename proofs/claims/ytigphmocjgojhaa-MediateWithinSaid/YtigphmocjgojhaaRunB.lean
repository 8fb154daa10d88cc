/- The loop that makes the offers of a bargain. -/
import Derived.Test.YtigphmocjgojhaaRunA
import Derived.Test.YtigphmocjgojhaaBargain
import Derived.Deep.LoopGhost
namespace Go.Proofs.Ytigphmocjgojhaa
open Go.RowKit
set_option linter.unusedVariables false
set_option linter.unusedSimpArgs false

set_option maxHeartbeats 400000 in
theorem half_any (b : Bg) (x y : Int) (w : World) (hx : 0 ≤ x) (hx1 : x ≤ 1000000000) (hy : 0 ≤ y) (hy1 : y ≤ 1000000000) :
    Calls Try.prog 30 #[b.v, .int .i64 x, .int .i64 y] w fun e w' => e = .returned (.tuple #[.int .i64 ((x + y) / 2), .bool (zoneB b ((x + y) / 2))]) ∧ Below w.heap.size w w' := by
  by_cases h1 : b.s.l ≤ (x + y) / 2
  · go_enter Try.func30, Try.ntmps30
    go_wp2_with fail
    go_quiet (fail)
    go_wp2
    go_ret2
    exact ⟨ret_two rfl (vbool (by simp [zoneB, h1])), below_drewN ((Below.refl _ _).alloc (Nat.le_refl _) _) _⟩
  · have h2 : decide (b.s.l ≤ (x + y) / 2) = false := by simpa using h1
    have h3 : (x + y) / 2 < b.s.l := by omega
    clear h1
    go_enter Try.func30, Try.ntmps30
    go_wp2_with fail
    go_quiet (fail)
    go_wp2
    go_ret2
    exact ⟨ret_two rfl (vbool (by simp [zoneB, h2])), below_drewN ((Below.refl _ _).alloc (Nat.le_refl _) _) _⟩

set_option maxHeartbeats 400000 in
theorem none_any (b : Bg) (x y : Int) (w : World) :
    Calls Try.prog 28 #[b.v, .int .i64 x, .int .i64 y] w fun e w' => e = .returned (.tuple #[.int .i64 0, .bool false]) ∧ Below w.heap.size w w' := by
  go_enter Try.func28, Try.ntmps28
  go_wp2
  go_ret2
  exact ⟨rfl, (Below.refl _ _).alloc (Nat.le_refl _) _⟩

end Go.Proofs.Ytigphmocjgojhaa
