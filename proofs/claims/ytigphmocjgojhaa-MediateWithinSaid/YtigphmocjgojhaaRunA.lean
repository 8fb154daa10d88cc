/- The methods of a party: whether it accepts, and the next offer that it makes. -/
import Derived.Test.YtigphmocjgojhaaKit
import Derived.Test.YtigphmocjgojhaaSmall
import Derived.BigRegion
import Derived.Deep.RegionWith
namespace Go.Proofs.Ytigphmocjgojhaa
open Go.RowKit
set_option linter.unusedVariables false
set_option linter.unusedSimpArgs false

def accB (by' : Int) (x nx : Int) : Bool := if by' = 1 then decide (x ≤ nx) else decide (nx ≤ x)

set_option maxHeartbeats 400000 in
theorem accepts_any (g : Nat) (by' x nx : Int) (w : World) (h0 : w.cell? ⟨g, 0, none⟩ = some (.int .u8 by')) (h5 : w.cell? ⟨g, 5, none⟩ = some (.int .i64 nx)) :
    Calls Try.prog 32 #[.pointer (some ⟨g, 0, none⟩), .int .i64 x] w fun e w' => e = .returned (.bool (accB by' x nx)) ∧ w = w' := by
  go_enter Try.func32, Try.ntmps32
  go_wp2
  all_goals (go_ret; exact ⟨ret_bool (by simp only [accB]; go_light; grind), rfl⟩)

set_option maxHeartbeats 1000000 in
theorem offer_any (g : Nat) (by' nx : Int) (s : St) (w : World) (hg : g < w.heap.size) (h0 : w.cell? ⟨g, 0, none⟩ = some (.int .u8 by')) (h1 : w.cell? ⟨g, 1, none⟩ = some (.int .i64 s.f))
    (h2 : w.cell? ⟨g, 2, none⟩ = some (.int .i64 s.l)) (h3 : w.cell? ⟨g, 3, none⟩ = some (.int .i64 s.n)) (h4 : w.cell? ⟨g, 4, none⟩ = some (.int .i64 s.d)) (h5 : w.cell? ⟨g, 5, none⟩ = some (.int .i64 nx)) (hf : w.frozen? ⟨g, 5, none⟩ = false) :
    Calls Try.prog 33 #[.pointer (some ⟨g, 0, none⟩)] w fun e w' => e = .returned (.agg #[.int .u8 by', .int .i64 nx]) ∧ Below w.heap.size (w.setCell ⟨g, 5, none⟩ (.int .i64 (nextV s nx))) w' := by
  go_enter Try.func33, Try.ntmps33
  go_wp2_with fail
  go_region
  go_wp2_with fail
  go_region_with (go_at_call 12; refine (next_any s nx _).mono ?_; rintro e w1 ⟨rfl, hb1⟩; have D1 : Below w.heap.size w w1 := bcall (by repeat (first | exact Below.refl _ _ | refine Below.drew ?_ | refine Below.alloc ?_ (by simp) _)) (by simp; omega) hb1; have c5 := cell_later D1 h5; have f5 := (D1.frozen (p := ⟨g, 5, none⟩) hg).trans hf; obtain ⟨hc1, hf1⟩ := bcell hb1)
  all_goals
    have hne : ¬ (w.heap.size + 1 = g) := by omega
    have hne2 : ¬ (w.heap.size = g) := by omega
    have hne3 : ¬ (g = w.heap.size + 1) := by omega
    have hne4 : ¬ (g = w.heap.size) := by omega
    go_wp2
    refine bodyPost_ret (v := .agg #[.int .u8 by', .int .i64 nx]) ?_ rfl ⟨rfl, ?_⟩
    · have c6 : w1.cell? ⟨w.heap.size, 0, none⟩ = some (.int .u8 0) := by rw [hc1 _ _ (by simp; omega)]; simp
      have c7 : w1.cell? ⟨w.heap.size, 1, none⟩ = some (.int .i64 0) := by rw [hc1 _ _ (by simp; omega)]; simp
      simp [results, Try.results33, go_sem, c6, c7, hne4]
    · exact ((below_store (a := ⟨g, 5, none⟩) D1 _ hg).setCell (by simp) _).setCell (by simp) _

end Go.Proofs.Ytigphmocjgojhaa
