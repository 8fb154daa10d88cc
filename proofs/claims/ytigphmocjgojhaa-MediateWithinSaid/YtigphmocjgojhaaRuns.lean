/- MediateRuns returns true for every bargain. -/
import Derived.Test.YtigphmocjgojhaaRunG
import Derived.Test.YtigphmocjgojhaaSame
namespace Go.Proofs.Ytigphmocjgojhaa
open Go.RowKit
set_option linter.unusedVariables false
set_option linter.unusedSimpArgs false

theorem heap_ext {w w1 : World} {g : Nat} {o : Obj} (h : w.heap[g]? = some o) (hb : Below w.heap.size w w1) : w1.heap[g]? = some o := by rw [hb.block g (lt_some h)]; exact h

theorem lenC_le (b : Bg) (med : Bool) : lenC b med ≤ 1000 := by
  unfold lenC; split
  · rename_i h
    obtain ⟨_, _, _, _, h5, h6⟩ := (code_iff b).1 h
    have := (endN_spec b med (by omega)).1; omega
  · omega

theorem same_true (u v : Value) (L : List (Int × Int)) (w : World) (hu : OffR w u L) (hv : OffR w v L) :
    Calls Try.prog 20 #[u, v] w fun e w' => e = .returned (.bool true) ∧ Below w.heap.size w w' := by
  have := same_any u v L L w hu hv
  simpa using this

theorem guard40 (op : BinOp) (x y : Operand) (xs ys : Array Value) (w : World) : (eqGuard op 40 x y (.agg xs) (.agg ys)).run Try.prog w = .ok () w := run_eqGuard_agg w op 40 x y xs ys (by kernel_rfl)
attribute [go_sem] guard40

set_option maxHeartbeats 2000000 in
theorem runs_walk (b : Bg) (w : World) :
    Calls Try.prog 4 #[b.v] w fun e w' => e = .returned (.bool true) ∧ Below w.heap.size w w' := by
  go_enter Try.func4, Try.ntmps4
  go_wp2_with fail
  refine (Run_any b _).mono ?_
  rintro e w1 ⟨v1, he, hr1, hb1⟩
  simp only [Deal.v] at he
  subst he
  have hB1 := heap_ext (heap_new rfl) hb1
  have cB1 := fun j => cell_of_row w1 _ j _ _ _ hB1
  have z1 := lt_some hB1
  have n1 : ¬ w.heap.size = w1.heap.size := by omega
  have D1 := bcall ((Below.refl _ w).alloc (Nat.le_refl _) _) (by simp) hb1
  have o1 := offR_of_row hr1 (lenC_le _ _)
  clear hb1 hr1
  go_wp2_with fail
  refine (Run_ref b _).mono ?_
  rintro e w2 ⟨v2, he, hr2, hb2⟩
  simp only [Deal.v] at he
  subst he
  have hB2 := heap_ext (heap_old hB1) hb2
  have hC2 := heap_ext (heap_new rfl) hb2
  clear cB1
  have cB2 := fun j => cell_of_row w2 _ j _ _ _ hB2
  have z2 := lt_some hB2
  have n2 : ¬ w.heap.size = w2.heap.size := by omega
  have D2 := bcall (D1.alloc (by omega) _) (by simp; omega) hb2
  have o2 := offR_of_row hr2 (lenC_le _ _)
  have p1 := (o1.ext ((Below.refl _ _).alloc (Nat.le_refl _) _)).ext hb2
  clear hb2 hr2 hB1 n1 D1 o1
  go_wp2_with fail
  refine (Mediate_any b _).mono ?_
  rintro e w3 ⟨v3, he, hr3, hb3⟩
  simp only [Deal.v] at he
  subst he
  have hB3 := heap_ext (heap_old hB2) hb3
  have hC3 := heap_ext (heap_old hC2) hb3
  have hD3 := heap_ext (heap_new rfl) hb3
  clear cB2
  have cB3 := fun j => cell_of_row w3 _ j _ _ _ hB3
  have z3 := lt_some hB3
  have n3 : ¬ w.heap.size = w3.heap.size := by omega
  have D3 := bcall (D2.alloc (by omega) _) (by simp; omega) hb3
  have o3 := offR_of_row hr3 (lenC_le _ _)
  have p2 := (o2.ext ((Below.refl _ _).alloc (Nat.le_refl _) _)).ext hb3
  have q1 := (p1.ext ((Below.refl _ _).alloc (Nat.le_refl _) _)).ext hb3
  clear hb3 hr3 hB2 hC2 n2 D2 o2 p1
  go_wp2_with fail
  refine (Mediate_ref b _).mono ?_
  rintro e w4 ⟨v4, he, hr4, hb4⟩
  simp only [Deal.v] at he
  subst he
  have hB4 := heap_ext (heap_old hB3) hb4
  have hC4 := heap_ext (heap_old hC3) hb4
  have hD4 := heap_ext (heap_old hD3) hb4
  have hE4 := heap_ext (heap_new rfl) hb4
  have D4 := bcall (D3.alloc (by omega) _) (by simp; omega) hb4
  have o4 := offR_of_row hr4 (lenC_le _ _)
  have p3 := (o3.ext ((Below.refl _ _).alloc (Nat.le_refl _) _)).ext hb4
  have q2 := (p2.ext ((Below.refl _ _).alloc (Nat.le_refl _) _)).ext hb4
  have r1 := (q1.ext ((Below.refl _ _).alloc (Nat.le_refl _) _)).ext hb4
  have zC := lt_some hC4
  have zD := lt_some hD4
  have zE := lt_some hE4
  have zC2 : w1.heap.size < w4.heap.size + 1 := by omega
  have zD2 : w2.heap.size < w4.heap.size + 1 := by omega
  have zE2 : w3.heap.size < w4.heap.size + 1 := by omega
  have nC : ¬ w1.heap.size = w4.heap.size := by omega
  have nD : ¬ w2.heap.size = w4.heap.size := by omega
  have nE : ¬ w3.heap.size = w4.heap.size := by omega
  have cC := fun j => cell_of_row w4 _ j _ _ _ hC4
  have cD := fun j => cell_of_row w4 _ j _ _ _ hD4
  have cE := fun j => cell_of_row w4 _ j _ _ _ hE4
  clear hb4 hr4 hB3 hC3 hD3 n3 D3 o3 p2 q1 cB3 hB4 hC4 hD4 hE4
  go_wp2_with fail
  refine (same_true _ _ _ _ (r1.ext ((Below.refl _ _).alloc (Nat.le_refl _) _)) (q2.ext ((Below.refl _ _).alloc (Nat.le_refl _) _))).mono ?_
  rintro e w5 ⟨rfl, hb5⟩
  obtain ⟨c5, _⟩ := bcell hb5
  have p3' := (p3.ext ((Below.refl _ _).alloc (Nat.le_refl _) _)).ext hb5
  have o4' := (o4.ext ((Below.refl _ _).alloc (Nat.le_refl _) _)).ext hb5
  have D5 := bcall (D4.alloc (by omega) _) (by simp; omega) hb5
  go_wp2_with fail
  refine (same_true _ _ _ _ p3' o4').mono ?_
  rintro e w6 ⟨rfl, hb6⟩
  obtain ⟨c6, _⟩ := bcell hb6
  have D6 := bcall D5 D5.size hb6
  have zC6 : w1.heap.size < w5.heap.size := by have := hb5.size; simp at this; omega
  have zD6 : w2.heap.size < w5.heap.size := by have := hb5.size; simp at this; omega
  have zE6 : w3.heap.size < w5.heap.size := by have := hb5.size; simp at this; omega
  have zF6 : w4.heap.size < w5.heap.size := by have := hb5.size; simp at this; omega
  go_wp2
  go_ret
  exact ⟨rfl, D6⟩

end Go.Proofs.Ytigphmocjgojhaa
