/- MediateSteps returns true for every bargain, stance and price. -/
import Derived.Test.YtigphmocjgojhaaKit
import Derived.Test.YtigphmocjgojhaaSmall
import Derived.Test.YtigphmocjgojhaaOpen
namespace Go.Proofs.Ytigphmocjgojhaa
open Go.RowKit Go.ChangeShapes Go.WideShapes Go.ChangeAt

set_option maxHeartbeats 1000000 in
theorem steps_walk (b : Bg) (s : St) (p : Int) (w : World) :
    Calls Try.prog 3 #[b.v, s.v, .int .i64 p] w fun e w' => e = .returned (.bool true) ∧ Below w.heap.size w w' := by
  go_enter Try.func3, Try.ntmps3
  go_wp2_with fail
  refine (zone_any b _).mono ?_
  rintro e w1 ⟨rfl, D1⟩
  obtain ⟨hc1, _⟩ := bcell D1
  have s1 := D1.size
  go_wp2_with fail
  refine (zone_ref b _).mono ?_
  rintro e w2 ⟨rfl, hb2⟩
  have D2 := bcall D1 s1 hb2
  obtain ⟨hc2, _⟩ := bcell D2
  have s2 := D2.size
  clear hb2 D1 s1 hc1
  go_wp2_with fail
  refine (next_any s p _).mono ?_
  rintro e w3 ⟨rfl, hb3⟩
  have D3 := bcall D2 s2 hb3
  obtain ⟨hc3, _⟩ := bcell D3
  have s3 := D3.size
  clear hb3 D2 s2 hc2
  go_wp2_with fail
  refine (next_ref s p _).mono ?_
  rintro e w4 ⟨rfl, hb4⟩
  have D4 := bcall D3 s3 hb4
  obtain ⟨hc4, _⟩ := bcell D4
  have s4 := D4.size
  have z0 : w.heap.size < w4.heap.size := by simp at s4; omega
  clear hb4 D3 s3 hc3
  go_wp2_with fail
  refine wp_region_ext (by kernel_rfl) (by kernel_rfl) ?_
  repeat (first | go_big_quiet_step ((first | (go_at_call 14; exact calls_ext (check_any b _)) | (go_at_call 15; exact calls_ext (check_ref b _)))) | quiet_step ((first | (go_at_call 14; exact calls_ext (check_any b _)) | (go_at_call 15; exact calls_ext (check_ref b _)))))
  refine wpQuiet_nil ?_
  rintro _ ⟨⟨w5, hb5⟩, rfl⟩
  go_wp2
  go_ret
  exact ⟨rfl, bcall (bcall (((Below.refl _ _).alloc (Nat.le_refl _) _).alloc (by simp) _) (by simp; omega) D4) (by omega) hb5⟩

end Go.Proofs.Ytigphmocjgojhaa
