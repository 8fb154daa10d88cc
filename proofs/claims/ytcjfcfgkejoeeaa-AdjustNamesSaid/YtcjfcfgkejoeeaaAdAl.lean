/- The chapter's examples of adjust hold. -/
import Derived.Test.YtcjfcfgkejoeeaaAdAl0
import Derived.RegionTactic
import Derived.Deep.DeepCutAuto
namespace Go.Proofs.Ytcjfcfgkejoeeaa
open Go.RowKit Go.Deep
set_option linter.unusedVariables false
set_option linter.unusedSimpArgs false

set_option maxRecDepth 100000 in
set_option maxHeartbeats 16000000 in
theorem alive_any (w : World) : Calls Try.prog 22 #[] w fun e w' => e = .returned (.bool true) ∧ Below w.heap.size w w' := by
  go_enter Try.func22, Try.ntmps22
  go_wp2_with fail
  refine (given_any _).mono ?_
  rintro e w1 ⟨A1, c1, rfl, hF1, hb1⟩
  go_wp2_with fail
  refine (dg_divide _ _ _ hF1.here).mono ?_
  rintro e w2 ⟨O, oc, rfl, hP2, hb2⟩
  have HB3 := Lib.hid ((bcall hb1 hb1.size hb2).alloc (bcall hb1 hb1.size hb2).size (pB O oc Dg))
  have hP3 := Lib.hid (hP2.next (one_alloc w2 (pB O oc Dg)))
  have h1 : (w2.alloc (pB O oc Dg)).heap[w2.heap.size]? = some (pB O oc Dg) := heap_new rfl
  clear hb1 hF1 hb2 hP2
  go_upto_region 2 with fail
  generalize w2.heap.size = g1 at *
  generalize w2.alloc _ = w3 at *
  go_cut [3, 4, 5] (fun s3 s4 s5 wx => ∃ g3 g4, s3 = .pointer (some ⟨g3, 0, none⟩) ∧ s4 = .pointer (some ⟨g4, 0, none⟩) ∧ s5 = .int .i64 0 ∧ Below w3.heap.size w3 wx ∧ wx.heap[g3]? = some (rB (Rt.mk 7 1)) ∧ wx.heap[g4]? = some (rB (Rt.mk 7 1)))
  case first =>
    refine wp_region_flow 12 (by kernel_rfl) (by rfl) (fun w0 hb0 => ?_)
    have hP1 := heap_ext h1 hb0
    have hP0 := hP3.out.next hb0
    refine wpAnyE_go (w0 := w0) (w1 := w0) (X := []) (fun _ h => h) (RK.start _) [1] 11 (by kernel_rfl) ?_
    apply Exists.intro
    refine ⟨fun G hG hN => ?_, ?_⟩
    · have cg := fun (e : GE (RK w0 w0 []) G) j => cell_of_row e.w _ j _ _ _ (heap_ext hP1 e.h.b)
      have zg := fun (e : GE (RK w0 w0 []) G) => lt_some (heap_ext hP1 e.h.b)
      simp only [pickOps, List.getElem?_toArray, List.getElem?_cons_zero, List.getElem?_cons_succ]
      repeat (first | go_big_quiet_step (fail) | quiet_step (fail))
      exact wpQuiet_nil rfl
    refine wpAnyE_all (rs := [0, 7, 8]) (by kernel_rfl) (by simp) (fun W1 hW1 hRW1 i hi => ?_)
    rcases List.mem_cons.1 hi with rfl | hi
    · refine wpOp_step rfl (fun K hK => ?_)
      go_simp
      refine Calls.mono (given_any W1) ?_
      rintro e W2 ⟨A, c, rfl, hF, hbW2⟩
      have hRW2 := hRW1.grow hbW2
      refine hK _ _ ⟨hRW2, ?_⟩
      clear hK K
      have hs0 := hRW1.s
      refine wpAnyE_go (w0 := w0) (w1 := W2) (X := []) (RK.move hRW2 (by intro g hg; simp at hg)) (RK.here hRW2) [2, 3, 4, 5, 6] 5 (by kernel_rfl) ?_
      apply Exists.intro
      refine ⟨fun G hG hN => ?_, ?_⟩
      · simp only [pickOps, List.getElem?_toArray, List.getElem?_cons_zero, List.getElem?_cons_succ]
        repeat (first | go_big_quiet_step ((first | (go_at_call 10; exact calls_ge (RK.grows _ _ _) hG (dg_values _ _ _ _ _ (hF.rk (GE.h _) (by simp <;> omega)) (hP0.next (RK.b (GE.h _))))))) | quiet_step ((first | (go_at_call 10; exact calls_ge (RK.grows _ _ _) hG (dg_values _ _ _ _ _ (hF.rk (GE.h _) (by simp <;> omega)) (hP0.next (RK.b (GE.h _))))))))
        exact wpQuiet_nil rfl
      refine wpAnyE_all (rs := [7, 8]) (by kernel_rfl) (by simp) (fun W3 hW3 hRW3 i hi => ?_)
      rcases List.mem_cons.1 hi with rfl | hi
      · refine wpOp_step rfl (fun K hK => ?_)
        go_simp
        refine hK _ _ ⟨hRW3.grow (one_alloc _ _), ?_⟩
        clear hK K
        have hx3 := heap_new (w := W3) (o := (Obj.cells #[.int .i64 0, .int .i64 0] 27)) rfl
        have hg3 : W2.heap.size ≤ W3.heap.size := hRW3.s
        have hz3 : w0.heap.size ≤ W3.heap.size := hRW3.b.size
        refine wpAnyE_all (rs := [8]) (by kernel_rfl) (by simp) (fun W4 hW4 hRW4 i hi => ?_)
        have hx3 := heap_ext hx3 hW4
        obtain rfl := List.mem_singleton.1 hi
        refine wpOp_step rfl (fun K hK => ?_)
        go_simp
        refine hK _ _ ⟨hRW4.grow (one_alloc _ _), ?_⟩
        clear hK K
        have hne : W3.heap.size ≠ W4.heap.size := by have := lt_some hx3; omega
        have hx3 := heap_old (o' := (Obj.cells #[.int .i64 0, .int .i64 0] 27)) hx3
        have hx4 := heap_new (w := W4) (o := (Obj.cells #[.int .i64 0, .int .i64 0] 27)) rfl
        have hg4 : W2.heap.size ≤ W4.heap.size := hRW4.s
        have hz4 : w0.heap.size ≤ W4.heap.size := hRW4.b.size
        refine wpAnyE_all (rs := [9]) (by kernel_rfl) (by simp) (fun W5 hW5 hRW5 i hi => ?_)
        obtain rfl := List.mem_singleton.1 hi
        have hx3 := heap_ext hx3 hW5
        have hx4 := heap_ext hx4 hW5
        have ck := fun j => cell_of_row _ _ j _ _ _ hx3
        have fk := fun j => frozen_of_row _ _ j _ _ hx3
        refine wpOp_step rfl (fun K hK => ?_)
        go_simp
        refine hK _ _ ⟨(hRW5.set hz3 (by first | exact Or.inr hg3 | simp)).set hz3 (by first | exact Or.inr hg3 | simp), ?_⟩
        clear hK K
        clear ck fk
        have hx4 := heap_set_ne2 (g := W3.heap.size) (j := 0) (j2 := 1) (u := .int .i64 ((Rt.mk 7 1)).n) (u2 := .int .i64 ((Rt.mk 7 1)).d) (by first | exact hne | exact Ne.symm hne) hx4
        have hx3 := heap_set2 (u := .int .i64 ((Rt.mk 7 1)).n) (u2 := .int .i64 ((Rt.mk 7 1)).d) hx3
        refine wpAnyE_all (rs := [10]) (by kernel_rfl) (by simp) (fun W6 hW6 hRW6 i hi => ?_)
        obtain rfl := List.mem_singleton.1 hi
        have hx3 := heap_ext hx3 hW6
        have hx4 := heap_ext hx4 hW6
        have ck := fun j => cell_of_row _ _ j _ _ _ hx4
        have fk := fun j => frozen_of_row _ _ j _ _ hx4
        refine wpOp_step rfl (fun K hK => ?_)
        go_simp
        refine hK _ _ ⟨(hRW6.set hz4 (by first | exact Or.inr hg4 | simp)).set hz4 (by first | exact Or.inr hg4 | simp), ?_⟩
        clear hK K
        clear ck fk
        have hx3 := heap_set_ne2 (g := W4.heap.size) (j := 0) (j2 := 1) (u := .int .i64 ((Rt.mk 7 1)).n) (u2 := .int .i64 ((Rt.mk 7 1)).d) (by first | exact hne | exact Ne.symm hne) hx3
        have hx4 := heap_set2 (u := .int .i64 ((Rt.mk 7 1)).n) (u2 := .int .i64 ((Rt.mk 7 1)).d) hx4
        refine wpAnyE_all (rs := [11]) (by kernel_rfl) (by simp) (fun W7 hW7 hRW7 i hi => ?_)
        obtain rfl := List.mem_singleton.1 hi
        have hx3 := heap_ext hx3 hW7
        have hx4 := heap_ext hx4 hW7
        refine wpOp_step rfl (fun K hK => ?_)
        go_simp
        refine hK _ _ ⟨hRW7, ?_⟩
        clear hK K
        refine wpAnyE_done (by kernel_rfl) (fun W8 hW8 hRW8 => ?_) _
        refine NoPanic.normal ?_
        have hx3 := heap_ext hx3 hW8
        have hx4 := heap_ext hx4 hW8
        go_wp2_with fail
        go_meet
        exact ⟨_, _, rfl, rfl, rfl, bcall hb0 hb0.size hRW8.b, hx3, hx4⟩
      · obtain rfl := List.mem_singleton.1 hi
        refine wpOp_step rfl (fun K hK => ?_)
        go_simp
        refine hK _ _ ⟨hRW3.grow (one_alloc _ _), ?_⟩
        clear hK K
        have hx4 := heap_new (w := W3) (o := (Obj.cells #[.int .i64 0, .int .i64 0] 27)) rfl
        have hg4 : W2.heap.size ≤ W3.heap.size := hRW3.s
        have hz4 : w0.heap.size ≤ W3.heap.size := hRW3.b.size
        refine wpAnyE_all (rs := [7]) (by kernel_rfl) (by simp) (fun W9 hW9 hRW9 i hi => ?_)
        have hx4 := heap_ext hx4 hW9
        obtain rfl := List.mem_singleton.1 hi
        refine wpOp_step rfl (fun K hK => ?_)
        go_simp
        refine hK _ _ ⟨hRW9.grow (one_alloc _ _), ?_⟩
        clear hK K
        have hne : W3.heap.size ≠ W9.heap.size := by have := lt_some hx4; omega
        have hx4 := heap_old (o' := (Obj.cells #[.int .i64 0, .int .i64 0] 27)) hx4
        have hx3 := heap_new (w := W9) (o := (Obj.cells #[.int .i64 0, .int .i64 0] 27)) rfl
        have hg3 : W2.heap.size ≤ W9.heap.size := hRW9.s
        have hz3 : w0.heap.size ≤ W9.heap.size := hRW9.b.size
        refine wpAnyE_all (rs := [9]) (by kernel_rfl) (by simp) (fun W10 hW10 hRW10 i hi => ?_)
        obtain rfl := List.mem_singleton.1 hi
        have hx3 := heap_ext hx3 hW10
        have hx4 := heap_ext hx4 hW10
        have ck := fun j => cell_of_row _ _ j _ _ _ hx3
        have fk := fun j => frozen_of_row _ _ j _ _ hx3
        refine wpOp_step rfl (fun K hK => ?_)
        go_simp
        refine hK _ _ ⟨(hRW10.set hz3 (by first | exact Or.inr hg3 | simp)).set hz3 (by first | exact Or.inr hg3 | simp), ?_⟩
        clear hK K
        clear ck fk
        have hx4 := heap_set_ne2 (g := W9.heap.size) (j := 0) (j2 := 1) (u := .int .i64 ((Rt.mk 7 1)).n) (u2 := .int .i64 ((Rt.mk 7 1)).d) (by first | exact hne | exact Ne.symm hne) hx4
        have hx3 := heap_set2 (u := .int .i64 ((Rt.mk 7 1)).n) (u2 := .int .i64 ((Rt.mk 7 1)).d) hx3
        refine wpAnyE_all (rs := [10]) (by kernel_rfl) (by simp) (fun W11 hW11 hRW11 i hi => ?_)
        obtain rfl := List.mem_singleton.1 hi
        have hx3 := heap_ext hx3 hW11
        have hx4 := heap_ext hx4 hW11
        have ck := fun j => cell_of_row _ _ j _ _ _ hx4
        have fk := fun j => frozen_of_row _ _ j _ _ hx4
        refine wpOp_step rfl (fun K hK => ?_)
        go_simp
        refine hK _ _ ⟨(hRW11.set hz4 (by first | exact Or.inr hg4 | simp)).set hz4 (by first | exact Or.inr hg4 | simp), ?_⟩
        clear hK K
        clear ck fk
        have hx3 := heap_set_ne2 (g := W3.heap.size) (j := 0) (j2 := 1) (u := .int .i64 ((Rt.mk 7 1)).n) (u2 := .int .i64 ((Rt.mk 7 1)).d) (by first | exact hne | exact Ne.symm hne) hx3
        have hx4 := heap_set2 (u := .int .i64 ((Rt.mk 7 1)).n) (u2 := .int .i64 ((Rt.mk 7 1)).d) hx4
        refine wpAnyE_all (rs := [11]) (by kernel_rfl) (by simp) (fun W12 hW12 hRW12 i hi => ?_)
        obtain rfl := List.mem_singleton.1 hi
        have hx3 := heap_ext hx3 hW12
        have hx4 := heap_ext hx4 hW12
        refine wpOp_step rfl (fun K hK => ?_)
        go_simp
        refine hK _ _ ⟨hRW12, ?_⟩
        clear hK K
        refine wpAnyE_done (by kernel_rfl) (fun W13 hW13 hRW13 => ?_) _
        refine NoPanic.normal ?_
        have hx3 := heap_ext hx3 hW13
        have hx4 := heap_ext hx4 hW13
        go_wp2_with fail
        go_meet
        exact ⟨_, _, rfl, rfl, rfl, bcall hb0 hb0.size hRW13.b, hx3, hx4⟩
    · rcases List.mem_cons.1 hi with rfl | hi
      · refine wpOp_step rfl (fun K hK => ?_)
        go_simp
        refine hK _ _ ⟨hRW1.grow (one_alloc _ _), ?_⟩
        clear hK K
        have hx3 := heap_new (w := W1) (o := (Obj.cells #[.int .i64 0, .int .i64 0] 27)) rfl
        have hz3 : w0.heap.size ≤ W1.heap.size := hRW1.b.size
        refine wpAnyE_all (rs := [0, 8]) (by kernel_rfl) (by simp) (fun W14 hW14 hRW14 i hi => ?_)
        have hx3 := heap_ext hx3 hW14
        rcases List.mem_cons.1 hi with rfl | hi
        · refine wpOp_step rfl (fun K hK => ?_)
          go_simp
          refine Calls.mono (given_any W14) ?_
          rintro e W15 ⟨A, c, rfl, hF, hbW15⟩
          have hRW15 := hRW14.grow hbW15
          refine hK _ _ ⟨hRW15, ?_⟩
          clear hK K
          have lx3 := lt_some hx3
          have hx3 := heap_ext hx3 hbW15
          have hs0 := hRW14.s
          refine wpAnyE_go (w0 := w0) (w1 := W15) (X := [W1.heap.size]) (RK.move hRW15 (by simp <;> omega)) (RK.here hRW15) [2, 3, 4, 5, 6] 4 (by kernel_rfl) ?_
          apply Exists.intro
          refine ⟨fun G hG hN => ?_, ?_⟩
          · simp only [pickOps, List.getElem?_toArray, List.getElem?_cons_zero, List.getElem?_cons_succ]
            repeat (first | go_big_quiet_step ((first | (go_at_call 10; exact calls_ge (RK.grows _ _ _) hG (dg_values _ _ _ _ _ (hF.rk (GE.h _) (by simp <;> omega)) (hP0.next (RK.b (GE.h _))))))) | quiet_step ((first | (go_at_call 10; exact calls_ge (RK.grows _ _ _) hG (dg_values _ _ _ _ _ (hF.rk (GE.h _) (by simp <;> omega)) (hP0.next (RK.b (GE.h _))))))))
            exact wpQuiet_nil rfl
          refine wpAnyE_all (rs := [8]) (by kernel_rfl) (by simp) (fun W16 hW16 hRW16 i hi => ?_)
          have hx3 := heap_ext hx3 hW16
          obtain rfl := List.mem_singleton.1 hi
          refine wpOp_step rfl (fun K hK => ?_)
          go_simp
          refine hK _ _ ⟨hRW16.grow (one_alloc _ _), ?_⟩
          clear hK K
          have hne : W1.heap.size ≠ W16.heap.size := by have := lt_some hx3; omega
          have hx3 := heap_old (o' := (Obj.cells #[.int .i64 0, .int .i64 0] 27)) hx3
          have hx4 := heap_new (w := W16) (o := (Obj.cells #[.int .i64 0, .int .i64 0] 27)) rfl
          have hg4 : W15.heap.size ≤ W16.heap.size := hRW16.s
          have hz4 : w0.heap.size ≤ W16.heap.size := hRW16.b.size
          refine wpAnyE_all (rs := [9]) (by kernel_rfl) (by simp) (fun W17 hW17 hRW17 i hi => ?_)
          obtain rfl := List.mem_singleton.1 hi
          have hx3 := heap_ext hx3 hW17
          have hx4 := heap_ext hx4 hW17
          have ck := fun j => cell_of_row _ _ j _ _ _ hx3
          have fk := fun j => frozen_of_row _ _ j _ _ hx3
          refine wpOp_step rfl (fun K hK => ?_)
          go_simp
          refine hK _ _ ⟨(hRW17.set hz3 (by first | exact Or.inr hg3 | simp)).set hz3 (by first | exact Or.inr hg3 | simp), ?_⟩
          clear hK K
          clear ck fk
          have hx4 := heap_set_ne2 (g := W1.heap.size) (j := 0) (j2 := 1) (u := .int .i64 ((Rt.mk 7 1)).n) (u2 := .int .i64 ((Rt.mk 7 1)).d) (by first | exact hne | exact Ne.symm hne) hx4
          have hx3 := heap_set2 (u := .int .i64 ((Rt.mk 7 1)).n) (u2 := .int .i64 ((Rt.mk 7 1)).d) hx3
          refine wpAnyE_all (rs := [10]) (by kernel_rfl) (by simp) (fun W18 hW18 hRW18 i hi => ?_)
          obtain rfl := List.mem_singleton.1 hi
          have hx3 := heap_ext hx3 hW18
          have hx4 := heap_ext hx4 hW18
          have ck := fun j => cell_of_row _ _ j _ _ _ hx4
          have fk := fun j => frozen_of_row _ _ j _ _ hx4
          refine wpOp_step rfl (fun K hK => ?_)
          go_simp
          refine hK _ _ ⟨(hRW18.set hz4 (by first | exact Or.inr hg4 | simp)).set hz4 (by first | exact Or.inr hg4 | simp), ?_⟩
          clear hK K
          clear ck fk
          have hx3 := heap_set_ne2 (g := W16.heap.size) (j := 0) (j2 := 1) (u := .int .i64 ((Rt.mk 7 1)).n) (u2 := .int .i64 ((Rt.mk 7 1)).d) (by first | exact hne | exact Ne.symm hne) hx3
          have hx4 := heap_set2 (u := .int .i64 ((Rt.mk 7 1)).n) (u2 := .int .i64 ((Rt.mk 7 1)).d) hx4
          refine wpAnyE_all (rs := [11]) (by kernel_rfl) (by simp) (fun W19 hW19 hRW19 i hi => ?_)
          obtain rfl := List.mem_singleton.1 hi
          have hx3 := heap_ext hx3 hW19
          have hx4 := heap_ext hx4 hW19
          refine wpOp_step rfl (fun K hK => ?_)
          go_simp
          refine hK _ _ ⟨hRW19, ?_⟩
          clear hK K
          refine wpAnyE_done (by kernel_rfl) (fun W20 hW20 hRW20 => ?_) _
          refine NoPanic.normal ?_
          have hx3 := heap_ext hx3 hW20
          have hx4 := heap_ext hx4 hW20
          go_wp2_with fail
          go_meet
          exact ⟨_, _, rfl, rfl, rfl, bcall hb0 hb0.size hRW20.b, hx3, hx4⟩
        · obtain rfl := List.mem_singleton.1 hi
          refine wpOp_step rfl (fun K hK => ?_)
          go_simp
          refine hK _ _ ⟨hRW14.grow (one_alloc _ _), ?_⟩
          clear hK K
          have hne : W1.heap.size ≠ W14.heap.size := by have := lt_some hx3; omega
          have hx3 := heap_old (o' := (Obj.cells #[.int .i64 0, .int .i64 0] 27)) hx3
          have hx4 := heap_new (w := W14) (o := (Obj.cells #[.int .i64 0, .int .i64 0] 27)) rfl
          have hz4 : w0.heap.size ≤ W14.heap.size := hRW14.b.size
          refine wpAnyE_all (rs := [0]) (by kernel_rfl) (by simp) (fun W21 hW21 hRW21 i hi => ?_)
          have hx3 := heap_ext hx3 hW21
          have hx4 := heap_ext hx4 hW21
          obtain rfl := List.mem_singleton.1 hi
          refine wpOp_step rfl (fun K hK => ?_)
          go_simp
          refine Calls.mono (given_any W21) ?_
          rintro e W22 ⟨A, c, rfl, hF, hbW22⟩
          have hRW22 := hRW21.grow hbW22
          refine hK _ _ ⟨hRW22, ?_⟩
          clear hK K
          have lx3 := lt_some hx3
          have lx4 := lt_some hx4
          have hx3 := heap_ext hx3 hbW22
          have hx4 := heap_ext hx4 hbW22
          have hs0 := hRW21.s
          refine wpAnyE_go (w0 := w0) (w1 := W22) (X := [W1.heap.size, W14.heap.size]) (RK.move hRW22 (by simp <;> omega)) (RK.here hRW22) [2, 3, 4, 5, 6] 3 (by kernel_rfl) ?_
          apply Exists.intro
          refine ⟨fun G hG hN => ?_, ?_⟩
          · simp only [pickOps, List.getElem?_toArray, List.getElem?_cons_zero, List.getElem?_cons_succ]
            repeat (first | go_big_quiet_step ((first | (go_at_call 10; exact calls_ge (RK.grows _ _ _) hG (dg_values _ _ _ _ _ (hF.rk (GE.h _) (by simp <;> omega)) (hP0.next (RK.b (GE.h _))))))) | quiet_step ((first | (go_at_call 10; exact calls_ge (RK.grows _ _ _) hG (dg_values _ _ _ _ _ (hF.rk (GE.h _) (by simp <;> omega)) (hP0.next (RK.b (GE.h _))))))))
            exact wpQuiet_nil rfl
          refine wpAnyE_all (rs := [9]) (by kernel_rfl) (by simp) (fun W23 hW23 hRW23 i hi => ?_)
          obtain rfl := List.mem_singleton.1 hi
          have hx3 := heap_ext hx3 hW23
          have hx4 := heap_ext hx4 hW23
          have ck := fun j => cell_of_row _ _ j _ _ _ hx3
          have fk := fun j => frozen_of_row _ _ j _ _ hx3
          refine wpOp_step rfl (fun K hK => ?_)
          go_simp
          refine hK _ _ ⟨(hRW23.set hz3 (by first | exact Or.inr hg3 | simp)).set hz3 (by first | exact Or.inr hg3 | simp), ?_⟩
          clear hK K
          clear ck fk
          have hx4 := heap_set_ne2 (g := W1.heap.size) (j := 0) (j2 := 1) (u := .int .i64 ((Rt.mk 7 1)).n) (u2 := .int .i64 ((Rt.mk 7 1)).d) (by first | exact hne | exact Ne.symm hne) hx4
          have hx3 := heap_set2 (u := .int .i64 ((Rt.mk 7 1)).n) (u2 := .int .i64 ((Rt.mk 7 1)).d) hx3
          refine wpAnyE_all (rs := [10]) (by kernel_rfl) (by simp) (fun W24 hW24 hRW24 i hi => ?_)
          obtain rfl := List.mem_singleton.1 hi
          have hx3 := heap_ext hx3 hW24
          have hx4 := heap_ext hx4 hW24
          have ck := fun j => cell_of_row _ _ j _ _ _ hx4
          have fk := fun j => frozen_of_row _ _ j _ _ hx4
          refine wpOp_step rfl (fun K hK => ?_)
          go_simp
          refine hK _ _ ⟨(hRW24.set hz4 (by first | exact Or.inr hg4 | simp)).set hz4 (by first | exact Or.inr hg4 | simp), ?_⟩
          clear hK K
          clear ck fk
          have hx3 := heap_set_ne2 (g := W14.heap.size) (j := 0) (j2 := 1) (u := .int .i64 ((Rt.mk 7 1)).n) (u2 := .int .i64 ((Rt.mk 7 1)).d) (by first | exact hne | exact Ne.symm hne) hx3
          have hx4 := heap_set2 (u := .int .i64 ((Rt.mk 7 1)).n) (u2 := .int .i64 ((Rt.mk 7 1)).d) hx4
          refine wpAnyE_all (rs := [11]) (by kernel_rfl) (by simp) (fun W25 hW25 hRW25 i hi => ?_)
          obtain rfl := List.mem_singleton.1 hi
          have hx3 := heap_ext hx3 hW25
          have hx4 := heap_ext hx4 hW25
          refine wpOp_step rfl (fun K hK => ?_)
          go_simp
          refine hK _ _ ⟨hRW25, ?_⟩
          clear hK K
          refine wpAnyE_done (by kernel_rfl) (fun W26 hW26 hRW26 => ?_) _
          refine NoPanic.normal ?_
          have hx3 := heap_ext hx3 hW26
          have hx4 := heap_ext hx4 hW26
          go_wp2_with fail
          go_meet
          exact ⟨_, _, rfl, rfl, rfl, bcall hb0 hb0.size hRW26.b, hx3, hx4⟩
      · obtain rfl := List.mem_singleton.1 hi
        refine wpOp_step rfl (fun K hK => ?_)
        go_simp
        refine hK _ _ ⟨hRW1.grow (one_alloc _ _), ?_⟩
        clear hK K
        have hx4 := heap_new (w := W1) (o := (Obj.cells #[.int .i64 0, .int .i64 0] 27)) rfl
        have hz4 : w0.heap.size ≤ W1.heap.size := hRW1.b.size
        refine wpAnyE_all (rs := [0, 7]) (by kernel_rfl) (by simp) (fun W27 hW27 hRW27 i hi => ?_)
        have hx4 := heap_ext hx4 hW27
        rcases List.mem_cons.1 hi with rfl | hi
        · refine wpOp_step rfl (fun K hK => ?_)
          go_simp
          refine Calls.mono (given_any W27) ?_
          rintro e W28 ⟨A, c, rfl, hF, hbW28⟩
          have hRW28 := hRW27.grow hbW28
          refine hK _ _ ⟨hRW28, ?_⟩
          clear hK K
          have lx4 := lt_some hx4
          have hx4 := heap_ext hx4 hbW28
          have hs0 := hRW27.s
          refine wpAnyE_go (w0 := w0) (w1 := W28) (X := [W1.heap.size]) (RK.move hRW28 (by simp <;> omega)) (RK.here hRW28) [2, 3, 4, 5, 6] 4 (by kernel_rfl) ?_
          apply Exists.intro
          refine ⟨fun G hG hN => ?_, ?_⟩
          · simp only [pickOps, List.getElem?_toArray, List.getElem?_cons_zero, List.getElem?_cons_succ]
            repeat (first | go_big_quiet_step ((first | (go_at_call 10; exact calls_ge (RK.grows _ _ _) hG (dg_values _ _ _ _ _ (hF.rk (GE.h _) (by simp <;> omega)) (hP0.next (RK.b (GE.h _))))))) | quiet_step ((first | (go_at_call 10; exact calls_ge (RK.grows _ _ _) hG (dg_values _ _ _ _ _ (hF.rk (GE.h _) (by simp <;> omega)) (hP0.next (RK.b (GE.h _))))))))
            exact wpQuiet_nil rfl
          refine wpAnyE_all (rs := [7]) (by kernel_rfl) (by simp) (fun W29 hW29 hRW29 i hi => ?_)
          have hx4 := heap_ext hx4 hW29
          obtain rfl := List.mem_singleton.1 hi
          refine wpOp_step rfl (fun K hK => ?_)
          go_simp
          refine hK _ _ ⟨hRW29.grow (one_alloc _ _), ?_⟩
          clear hK K
          have hne : W1.heap.size ≠ W29.heap.size := by have := lt_some hx4; omega
          have hx4 := heap_old (o' := (Obj.cells #[.int .i64 0, .int .i64 0] 27)) hx4
          have hx3 := heap_new (w := W29) (o := (Obj.cells #[.int .i64 0, .int .i64 0] 27)) rfl
          have hg3 : W28.heap.size ≤ W29.heap.size := hRW29.s
          have hz3 : w0.heap.size ≤ W29.heap.size := hRW29.b.size
          refine wpAnyE_all (rs := [9]) (by kernel_rfl) (by simp) (fun W30 hW30 hRW30 i hi => ?_)
          obtain rfl := List.mem_singleton.1 hi
          have hx3 := heap_ext hx3 hW30
          have hx4 := heap_ext hx4 hW30
          have ck := fun j => cell_of_row _ _ j _ _ _ hx3
          have fk := fun j => frozen_of_row _ _ j _ _ hx3
          refine wpOp_step rfl (fun K hK => ?_)
          go_simp
          refine hK _ _ ⟨(hRW30.set hz3 (by first | exact Or.inr hg3 | simp)).set hz3 (by first | exact Or.inr hg3 | simp), ?_⟩
          clear hK K
          clear ck fk
          have hx4 := heap_set_ne2 (g := W29.heap.size) (j := 0) (j2 := 1) (u := .int .i64 ((Rt.mk 7 1)).n) (u2 := .int .i64 ((Rt.mk 7 1)).d) (by first | exact hne | exact Ne.symm hne) hx4
          have hx3 := heap_set2 (u := .int .i64 ((Rt.mk 7 1)).n) (u2 := .int .i64 ((Rt.mk 7 1)).d) hx3
          refine wpAnyE_all (rs := [10]) (by kernel_rfl) (by simp) (fun W31 hW31 hRW31 i hi => ?_)
          obtain rfl := List.mem_singleton.1 hi
          have hx3 := heap_ext hx3 hW31
          have hx4 := heap_ext hx4 hW31
          have ck := fun j => cell_of_row _ _ j _ _ _ hx4
          have fk := fun j => frozen_of_row _ _ j _ _ hx4
          refine wpOp_step rfl (fun K hK => ?_)
          go_simp
          refine hK _ _ ⟨(hRW31.set hz4 (by first | exact Or.inr hg4 | simp)).set hz4 (by first | exact Or.inr hg4 | simp), ?_⟩
          clear hK K
          clear ck fk
          have hx3 := heap_set_ne2 (g := W1.heap.size) (j := 0) (j2 := 1) (u := .int .i64 ((Rt.mk 7 1)).n) (u2 := .int .i64 ((Rt.mk 7 1)).d) (by first | exact hne | exact Ne.symm hne) hx3
          have hx4 := heap_set2 (u := .int .i64 ((Rt.mk 7 1)).n) (u2 := .int .i64 ((Rt.mk 7 1)).d) hx4
          refine wpAnyE_all (rs := [11]) (by kernel_rfl) (by simp) (fun W32 hW32 hRW32 i hi => ?_)
          obtain rfl := List.mem_singleton.1 hi
          have hx3 := heap_ext hx3 hW32
          have hx4 := heap_ext hx4 hW32
          refine wpOp_step rfl (fun K hK => ?_)
          go_simp
          refine hK _ _ ⟨hRW32, ?_⟩
          clear hK K
          refine wpAnyE_done (by kernel_rfl) (fun W33 hW33 hRW33 => ?_) _
          refine NoPanic.normal ?_
          have hx3 := heap_ext hx3 hW33
          have hx4 := heap_ext hx4 hW33
          go_wp2_with fail
          go_meet
          exact ⟨_, _, rfl, rfl, rfl, bcall hb0 hb0.size hRW33.b, hx3, hx4⟩
        · obtain rfl := List.mem_singleton.1 hi
          refine wpOp_step rfl (fun K hK => ?_)
          go_simp
          refine hK _ _ ⟨hRW27.grow (one_alloc _ _), ?_⟩
          clear hK K
          have hne : W1.heap.size ≠ W27.heap.size := by have := lt_some hx4; omega
          have hx4 := heap_old (o' := (Obj.cells #[.int .i64 0, .int .i64 0] 27)) hx4
          have hx3 := heap_new (w := W27) (o := (Obj.cells #[.int .i64 0, .int .i64 0] 27)) rfl
          have hz3 : w0.heap.size ≤ W27.heap.size := hRW27.b.size
          refine wpAnyE_all (rs := [0]) (by kernel_rfl) (by simp) (fun W34 hW34 hRW34 i hi => ?_)
          have hx4 := heap_ext hx4 hW34
          have hx3 := heap_ext hx3 hW34
          obtain rfl := List.mem_singleton.1 hi
          refine wpOp_step rfl (fun K hK => ?_)
          go_simp
          refine Calls.mono (given_any W34) ?_
          rintro e W35 ⟨A, c, rfl, hF, hbW35⟩
          have hRW35 := hRW34.grow hbW35
          refine hK _ _ ⟨hRW35, ?_⟩
          clear hK K
          have lx4 := lt_some hx4
          have lx3 := lt_some hx3
          have hx4 := heap_ext hx4 hbW35
          have hx3 := heap_ext hx3 hbW35
          have hs0 := hRW34.s
          refine wpAnyE_go (w0 := w0) (w1 := W35) (X := [W1.heap.size, W27.heap.size]) (RK.move hRW35 (by simp <;> omega)) (RK.here hRW35) [2, 3, 4, 5, 6] 3 (by kernel_rfl) ?_
          apply Exists.intro
          refine ⟨fun G hG hN => ?_, ?_⟩
          · simp only [pickOps, List.getElem?_toArray, List.getElem?_cons_zero, List.getElem?_cons_succ]
            repeat (first | go_big_quiet_step ((first | (go_at_call 10; exact calls_ge (RK.grows _ _ _) hG (dg_values _ _ _ _ _ (hF.rk (GE.h _) (by simp <;> omega)) (hP0.next (RK.b (GE.h _))))))) | quiet_step ((first | (go_at_call 10; exact calls_ge (RK.grows _ _ _) hG (dg_values _ _ _ _ _ (hF.rk (GE.h _) (by simp <;> omega)) (hP0.next (RK.b (GE.h _))))))))
            exact wpQuiet_nil rfl
          refine wpAnyE_all (rs := [9]) (by kernel_rfl) (by simp) (fun W36 hW36 hRW36 i hi => ?_)
          obtain rfl := List.mem_singleton.1 hi
          have hx3 := heap_ext hx3 hW36
          have hx4 := heap_ext hx4 hW36
          have ck := fun j => cell_of_row _ _ j _ _ _ hx3
          have fk := fun j => frozen_of_row _ _ j _ _ hx3
          refine wpOp_step rfl (fun K hK => ?_)
          go_simp
          refine hK _ _ ⟨(hRW36.set hz3 (by first | exact Or.inr hg3 | simp)).set hz3 (by first | exact Or.inr hg3 | simp), ?_⟩
          clear hK K
          clear ck fk
          have hx4 := heap_set_ne2 (g := W27.heap.size) (j := 0) (j2 := 1) (u := .int .i64 ((Rt.mk 7 1)).n) (u2 := .int .i64 ((Rt.mk 7 1)).d) (by first | exact hne | exact Ne.symm hne) hx4
          have hx3 := heap_set2 (u := .int .i64 ((Rt.mk 7 1)).n) (u2 := .int .i64 ((Rt.mk 7 1)).d) hx3
          refine wpAnyE_all (rs := [10]) (by kernel_rfl) (by simp) (fun W37 hW37 hRW37 i hi => ?_)
          obtain rfl := List.mem_singleton.1 hi
          have hx3 := heap_ext hx3 hW37
          have hx4 := heap_ext hx4 hW37
          have ck := fun j => cell_of_row _ _ j _ _ _ hx4
          have fk := fun j => frozen_of_row _ _ j _ _ hx4
          refine wpOp_step rfl (fun K hK => ?_)
          go_simp
          refine hK _ _ ⟨(hRW37.set hz4 (by first | exact Or.inr hg4 | simp)).set hz4 (by first | exact Or.inr hg4 | simp), ?_⟩
          clear hK K
          clear ck fk
          have hx3 := heap_set_ne2 (g := W1.heap.size) (j := 0) (j2 := 1) (u := .int .i64 ((Rt.mk 7 1)).n) (u2 := .int .i64 ((Rt.mk 7 1)).d) (by first | exact hne | exact Ne.symm hne) hx3
          have hx4 := heap_set2 (u := .int .i64 ((Rt.mk 7 1)).n) (u2 := .int .i64 ((Rt.mk 7 1)).d) hx4
          refine wpAnyE_all (rs := [11]) (by kernel_rfl) (by simp) (fun W38 hW38 hRW38 i hi => ?_)
          obtain rfl := List.mem_singleton.1 hi
          have hx3 := heap_ext hx3 hW38
          have hx4 := heap_ext hx4 hW38
          refine wpOp_step rfl (fun K hK => ?_)
          go_simp
          refine hK _ _ ⟨hRW38, ?_⟩
          clear hK K
          refine wpAnyE_done (by kernel_rfl) (fun W39 hW39 hRW39 => ?_) _
          refine NoPanic.normal ?_
          have hx3 := heap_ext hx3 hW39
          have hx4 := heap_ext hx4 hW39
          go_wp2_with fail
          go_meet
          exact ⟨_, _, rfl, rfl, rfl, bcall hb0 hb0.size hRW39.b, hx3, hx4⟩
  case rest =>
    obtain ⟨g3, g4, rfl, rfl, rfl, hb4, h3, h4⟩ := hcut
    have HB4 := Lib.hid (bcall HB3.out HB3.out.size hb4)
    have h1 := heap_ext h1 hb4
    have HP4 := Lib.hid (hP3.out.next hb4)
    clear hP3 HB3 hb4
    go_wp2_with fail
    refine (equal_any _).mono ?_
    rintro e w5 ⟨A2, c2, rfl, hF2, hb5⟩
    go_wp2_with fail
    refine (de_divide _ _ _ hF2.here).mono ?_
    rintro e w6 ⟨U, uc, rfl, hP6, hb6⟩
    have HB7 := Lib.hid ((bcall (bcall HB4.out HB4.out.size hb5) (bcall HB4.out HB4.out.size hb5).size hb6).alloc (bcall (bcall HB4.out HB4.out.size hb5) (bcall HB4.out HB4.out.size hb5).size hb6).size (pB U uc De))
    have HP7 := Lib.hid (((HP4.out.next hb5).next hb6).next (one_alloc w6 (pB U uc De)))
    have HU7 := Lib.hid (hP6.next (one_alloc w6 (pB U uc De)))
    have h1 := heap_old (o' := pB U uc De) (heap_ext (heap_ext h1 hb5) hb6)
    have h3 := heap_old (o' := pB U uc De) (heap_ext (heap_ext h3 hb5) hb6)
    have h4 := heap_old (o' := pB U uc De) (heap_ext (heap_ext h4 hb5) hb6)
    have h6 : (w6.alloc (pB U uc De)).heap[w6.heap.size]? = some (pB U uc De) := heap_new rfl
    clear hb5 hF2 hb6 hP6 HB4 HP4
    go_upto_region 4 with fail
    generalize w6.heap.size = g6 at *
    generalize w6.alloc _ = w7 at *
    go_cut [8, 9, 10] (fun s3 s4 s5 wx => ∃ g3 g4, s3 = .pointer (some ⟨g3, 0, none⟩) ∧ s4 = .pointer (some ⟨g4, 0, none⟩) ∧ s5 = .int .i64 0 ∧ Below w7.heap.size w7 wx ∧ wx.heap[g3]? = some (rB (Rt.mk 5 1)) ∧ wx.heap[g4]? = some (rB (Rt.mk 5 1)))
    case first =>
      refine wp_region_flow 12 (by kernel_rfl) (by rfl) (fun w0 hb0 => ?_)
      have hP1 := heap_ext h6 hb0
      have hP0 := HU7.out.next hb0
      refine wpAnyE_go (w0 := w0) (w1 := w0) (X := []) (fun _ h => h) (RK.start _) [1] 11 (by kernel_rfl) ?_
      apply Exists.intro
      refine ⟨fun G hG hN => ?_, ?_⟩
      · have cg := fun (e : GE (RK w0 w0 []) G) j => cell_of_row e.w _ j _ _ _ (heap_ext hP1 e.h.b)
        have zg := fun (e : GE (RK w0 w0 []) G) => lt_some (heap_ext hP1 e.h.b)
        simp only [pickOps, List.getElem?_toArray, List.getElem?_cons_zero, List.getElem?_cons_succ]
        repeat (first | go_big_quiet_step (fail) | quiet_step (fail))
        exact wpQuiet_nil rfl
      refine wpAnyE_all (rs := [0, 7, 8]) (by kernel_rfl) (by simp) (fun W1 hW1 hRW1 i hi => ?_)
      rcases List.mem_cons.1 hi with rfl | hi
      · refine wpOp_step rfl (fun K hK => ?_)
        go_simp
        refine Calls.mono (equal_any W1) ?_
        rintro e W2 ⟨A, c, rfl, hF, hbW2⟩
        have hRW2 := hRW1.grow hbW2
        refine hK _ _ ⟨hRW2, ?_⟩
        clear hK K
        have hs0 := hRW1.s
        refine wpAnyE_go (w0 := w0) (w1 := W2) (X := []) (RK.move hRW2 (by intro g hg; simp at hg)) (RK.here hRW2) [2, 3, 4, 5, 6] 5 (by kernel_rfl) ?_
        apply Exists.intro
        refine ⟨fun G hG hN => ?_, ?_⟩
        · simp only [pickOps, List.getElem?_toArray, List.getElem?_cons_zero, List.getElem?_cons_succ]
          repeat (first | go_big_quiet_step ((first | (go_at_call 10; exact calls_ge (RK.grows _ _ _) hG (de_values _ _ _ _ _ (hF.rk (GE.h _) (by simp <;> omega)) (hP0.next (RK.b (GE.h _))))))) | quiet_step ((first | (go_at_call 10; exact calls_ge (RK.grows _ _ _) hG (de_values _ _ _ _ _ (hF.rk (GE.h _) (by simp <;> omega)) (hP0.next (RK.b (GE.h _))))))))
          exact wpQuiet_nil rfl
        refine wpAnyE_all (rs := [7, 8]) (by kernel_rfl) (by simp) (fun W3 hW3 hRW3 i hi => ?_)
        rcases List.mem_cons.1 hi with rfl | hi
        · refine wpOp_step rfl (fun K hK => ?_)
          go_simp
          refine hK _ _ ⟨hRW3.grow (one_alloc _ _), ?_⟩
          clear hK K
          have hx3 := heap_new (w := W3) (o := (Obj.cells #[.int .i64 0, .int .i64 0] 27)) rfl
          have hg3 : W2.heap.size ≤ W3.heap.size := hRW3.s
          have hz3 : w0.heap.size ≤ W3.heap.size := hRW3.b.size
          refine wpAnyE_all (rs := [8]) (by kernel_rfl) (by simp) (fun W4 hW4 hRW4 i hi => ?_)
          have hx3 := heap_ext hx3 hW4
          obtain rfl := List.mem_singleton.1 hi
          refine wpOp_step rfl (fun K hK => ?_)
          go_simp
          refine hK _ _ ⟨hRW4.grow (one_alloc _ _), ?_⟩
          clear hK K
          have hne : W3.heap.size ≠ W4.heap.size := by have := lt_some hx3; omega
          have hx3 := heap_old (o' := (Obj.cells #[.int .i64 0, .int .i64 0] 27)) hx3
          have hx4 := heap_new (w := W4) (o := (Obj.cells #[.int .i64 0, .int .i64 0] 27)) rfl
          have hg4 : W2.heap.size ≤ W4.heap.size := hRW4.s
          have hz4 : w0.heap.size ≤ W4.heap.size := hRW4.b.size
          refine wpAnyE_all (rs := [9]) (by kernel_rfl) (by simp) (fun W5 hW5 hRW5 i hi => ?_)
          obtain rfl := List.mem_singleton.1 hi
          have hx3 := heap_ext hx3 hW5
          have hx4 := heap_ext hx4 hW5
          have ck := fun j => cell_of_row _ _ j _ _ _ hx3
          have fk := fun j => frozen_of_row _ _ j _ _ hx3
          refine wpOp_step rfl (fun K hK => ?_)
          go_simp
          refine hK _ _ ⟨(hRW5.set hz3 (by first | exact Or.inr hg3 | simp)).set hz3 (by first | exact Or.inr hg3 | simp), ?_⟩
          clear hK K
          clear ck fk
          have hx4 := heap_set_ne2 (g := W3.heap.size) (j := 0) (j2 := 1) (u := .int .i64 ((Rt.mk 5 1)).n) (u2 := .int .i64 ((Rt.mk 5 1)).d) (by first | exact hne | exact Ne.symm hne) hx4
          have hx3 := heap_set2 (u := .int .i64 ((Rt.mk 5 1)).n) (u2 := .int .i64 ((Rt.mk 5 1)).d) hx3
          refine wpAnyE_all (rs := [10]) (by kernel_rfl) (by simp) (fun W6 hW6 hRW6 i hi => ?_)
          obtain rfl := List.mem_singleton.1 hi
          have hx3 := heap_ext hx3 hW6
          have hx4 := heap_ext hx4 hW6
          have ck := fun j => cell_of_row _ _ j _ _ _ hx4
          have fk := fun j => frozen_of_row _ _ j _ _ hx4
          refine wpOp_step rfl (fun K hK => ?_)
          go_simp
          refine hK _ _ ⟨(hRW6.set hz4 (by first | exact Or.inr hg4 | simp)).set hz4 (by first | exact Or.inr hg4 | simp), ?_⟩
          clear hK K
          clear ck fk
          have hx3 := heap_set_ne2 (g := W4.heap.size) (j := 0) (j2 := 1) (u := .int .i64 ((Rt.mk 5 1)).n) (u2 := .int .i64 ((Rt.mk 5 1)).d) (by first | exact hne | exact Ne.symm hne) hx3
          have hx4 := heap_set2 (u := .int .i64 ((Rt.mk 5 1)).n) (u2 := .int .i64 ((Rt.mk 5 1)).d) hx4
          refine wpAnyE_all (rs := [11]) (by kernel_rfl) (by simp) (fun W7 hW7 hRW7 i hi => ?_)
          obtain rfl := List.mem_singleton.1 hi
          have hx3 := heap_ext hx3 hW7
          have hx4 := heap_ext hx4 hW7
          refine wpOp_step rfl (fun K hK => ?_)
          go_simp
          refine hK _ _ ⟨hRW7, ?_⟩
          clear hK K
          refine wpAnyE_done (by kernel_rfl) (fun W8 hW8 hRW8 => ?_) _
          refine NoPanic.normal ?_
          have hx3 := heap_ext hx3 hW8
          have hx4 := heap_ext hx4 hW8
          go_wp2_with fail
          go_meet
          exact ⟨_, _, rfl, rfl, rfl, bcall hb0 hb0.size hRW8.b, hx3, hx4⟩
        · obtain rfl := List.mem_singleton.1 hi
          refine wpOp_step rfl (fun K hK => ?_)
          go_simp
          refine hK _ _ ⟨hRW3.grow (one_alloc _ _), ?_⟩
          clear hK K
          have hx4 := heap_new (w := W3) (o := (Obj.cells #[.int .i64 0, .int .i64 0] 27)) rfl
          have hg4 : W2.heap.size ≤ W3.heap.size := hRW3.s
          have hz4 : w0.heap.size ≤ W3.heap.size := hRW3.b.size
          refine wpAnyE_all (rs := [7]) (by kernel_rfl) (by simp) (fun W9 hW9 hRW9 i hi => ?_)
          have hx4 := heap_ext hx4 hW9
          obtain rfl := List.mem_singleton.1 hi
          refine wpOp_step rfl (fun K hK => ?_)
          go_simp
          refine hK _ _ ⟨hRW9.grow (one_alloc _ _), ?_⟩
          clear hK K
          have hne : W3.heap.size ≠ W9.heap.size := by have := lt_some hx4; omega
          have hx4 := heap_old (o' := (Obj.cells #[.int .i64 0, .int .i64 0] 27)) hx4
          have hx3 := heap_new (w := W9) (o := (Obj.cells #[.int .i64 0, .int .i64 0] 27)) rfl
          have hg3 : W2.heap.size ≤ W9.heap.size := hRW9.s
          have hz3 : w0.heap.size ≤ W9.heap.size := hRW9.b.size
          refine wpAnyE_all (rs := [9]) (by kernel_rfl) (by simp) (fun W10 hW10 hRW10 i hi => ?_)
          obtain rfl := List.mem_singleton.1 hi
          have hx3 := heap_ext hx3 hW10
          have hx4 := heap_ext hx4 hW10
          have ck := fun j => cell_of_row _ _ j _ _ _ hx3
          have fk := fun j => frozen_of_row _ _ j _ _ hx3
          refine wpOp_step rfl (fun K hK => ?_)
          go_simp
          refine hK _ _ ⟨(hRW10.set hz3 (by first | exact Or.inr hg3 | simp)).set hz3 (by first | exact Or.inr hg3 | simp), ?_⟩
          clear hK K
          clear ck fk
          have hx4 := heap_set_ne2 (g := W9.heap.size) (j := 0) (j2 := 1) (u := .int .i64 ((Rt.mk 5 1)).n) (u2 := .int .i64 ((Rt.mk 5 1)).d) (by first | exact hne | exact Ne.symm hne) hx4
          have hx3 := heap_set2 (u := .int .i64 ((Rt.mk 5 1)).n) (u2 := .int .i64 ((Rt.mk 5 1)).d) hx3
          refine wpAnyE_all (rs := [10]) (by kernel_rfl) (by simp) (fun W11 hW11 hRW11 i hi => ?_)
          obtain rfl := List.mem_singleton.1 hi
          have hx3 := heap_ext hx3 hW11
          have hx4 := heap_ext hx4 hW11
          have ck := fun j => cell_of_row _ _ j _ _ _ hx4
          have fk := fun j => frozen_of_row _ _ j _ _ hx4
          refine wpOp_step rfl (fun K hK => ?_)
          go_simp
          refine hK _ _ ⟨(hRW11.set hz4 (by first | exact Or.inr hg4 | simp)).set hz4 (by first | exact Or.inr hg4 | simp), ?_⟩
          clear hK K
          clear ck fk
          have hx3 := heap_set_ne2 (g := W3.heap.size) (j := 0) (j2 := 1) (u := .int .i64 ((Rt.mk 5 1)).n) (u2 := .int .i64 ((Rt.mk 5 1)).d) (by first | exact hne | exact Ne.symm hne) hx3
          have hx4 := heap_set2 (u := .int .i64 ((Rt.mk 5 1)).n) (u2 := .int .i64 ((Rt.mk 5 1)).d) hx4
          refine wpAnyE_all (rs := [11]) (by kernel_rfl) (by simp) (fun W12 hW12 hRW12 i hi => ?_)
          obtain rfl := List.mem_singleton.1 hi
          have hx3 := heap_ext hx3 hW12
          have hx4 := heap_ext hx4 hW12
          refine wpOp_step rfl (fun K hK => ?_)
          go_simp
          refine hK _ _ ⟨hRW12, ?_⟩
          clear hK K
          refine wpAnyE_done (by kernel_rfl) (fun W13 hW13 hRW13 => ?_) _
          refine NoPanic.normal ?_
          have hx3 := heap_ext hx3 hW13
          have hx4 := heap_ext hx4 hW13
          go_wp2_with fail
          go_meet
          exact ⟨_, _, rfl, rfl, rfl, bcall hb0 hb0.size hRW13.b, hx3, hx4⟩
      · rcases List.mem_cons.1 hi with rfl | hi
        · refine wpOp_step rfl (fun K hK => ?_)
          go_simp
          refine hK _ _ ⟨hRW1.grow (one_alloc _ _), ?_⟩
          clear hK K
          have hx3 := heap_new (w := W1) (o := (Obj.cells #[.int .i64 0, .int .i64 0] 27)) rfl
          have hz3 : w0.heap.size ≤ W1.heap.size := hRW1.b.size
          refine wpAnyE_all (rs := [0, 8]) (by kernel_rfl) (by simp) (fun W14 hW14 hRW14 i hi => ?_)
          have hx3 := heap_ext hx3 hW14
          rcases List.mem_cons.1 hi with rfl | hi
          · refine wpOp_step rfl (fun K hK => ?_)
            go_simp
            refine Calls.mono (equal_any W14) ?_
            rintro e W15 ⟨A, c, rfl, hF, hbW15⟩
            have hRW15 := hRW14.grow hbW15
            refine hK _ _ ⟨hRW15, ?_⟩
            clear hK K
            have lx3 := lt_some hx3
            have hx3 := heap_ext hx3 hbW15
            have hs0 := hRW14.s
            refine wpAnyE_go (w0 := w0) (w1 := W15) (X := [W1.heap.size]) (RK.move hRW15 (by simp <;> omega)) (RK.here hRW15) [2, 3, 4, 5, 6] 4 (by kernel_rfl) ?_
            apply Exists.intro
            refine ⟨fun G hG hN => ?_, ?_⟩
            · simp only [pickOps, List.getElem?_toArray, List.getElem?_cons_zero, List.getElem?_cons_succ]
              repeat (first | go_big_quiet_step ((first | (go_at_call 10; exact calls_ge (RK.grows _ _ _) hG (de_values _ _ _ _ _ (hF.rk (GE.h _) (by simp <;> omega)) (hP0.next (RK.b (GE.h _))))))) | quiet_step ((first | (go_at_call 10; exact calls_ge (RK.grows _ _ _) hG (de_values _ _ _ _ _ (hF.rk (GE.h _) (by simp <;> omega)) (hP0.next (RK.b (GE.h _))))))))
              exact wpQuiet_nil rfl
            refine wpAnyE_all (rs := [8]) (by kernel_rfl) (by simp) (fun W16 hW16 hRW16 i hi => ?_)
            have hx3 := heap_ext hx3 hW16
            obtain rfl := List.mem_singleton.1 hi
            refine wpOp_step rfl (fun K hK => ?_)
            go_simp
            refine hK _ _ ⟨hRW16.grow (one_alloc _ _), ?_⟩
            clear hK K
            have hne : W1.heap.size ≠ W16.heap.size := by have := lt_some hx3; omega
            have hx3 := heap_old (o' := (Obj.cells #[.int .i64 0, .int .i64 0] 27)) hx3
            have hx4 := heap_new (w := W16) (o := (Obj.cells #[.int .i64 0, .int .i64 0] 27)) rfl
            have hg4 : W15.heap.size ≤ W16.heap.size := hRW16.s
            have hz4 : w0.heap.size ≤ W16.heap.size := hRW16.b.size
            refine wpAnyE_all (rs := [9]) (by kernel_rfl) (by simp) (fun W17 hW17 hRW17 i hi => ?_)
            obtain rfl := List.mem_singleton.1 hi
            have hx3 := heap_ext hx3 hW17
            have hx4 := heap_ext hx4 hW17
            have ck := fun j => cell_of_row _ _ j _ _ _ hx3
            have fk := fun j => frozen_of_row _ _ j _ _ hx3
            refine wpOp_step rfl (fun K hK => ?_)
            go_simp
            refine hK _ _ ⟨(hRW17.set hz3 (by first | exact Or.inr hg3 | simp)).set hz3 (by first | exact Or.inr hg3 | simp), ?_⟩
            clear hK K
            clear ck fk
            have hx4 := heap_set_ne2 (g := W1.heap.size) (j := 0) (j2 := 1) (u := .int .i64 ((Rt.mk 5 1)).n) (u2 := .int .i64 ((Rt.mk 5 1)).d) (by first | exact hne | exact Ne.symm hne) hx4
            have hx3 := heap_set2 (u := .int .i64 ((Rt.mk 5 1)).n) (u2 := .int .i64 ((Rt.mk 5 1)).d) hx3
            refine wpAnyE_all (rs := [10]) (by kernel_rfl) (by simp) (fun W18 hW18 hRW18 i hi => ?_)
            obtain rfl := List.mem_singleton.1 hi
            have hx3 := heap_ext hx3 hW18
            have hx4 := heap_ext hx4 hW18
            have ck := fun j => cell_of_row _ _ j _ _ _ hx4
            have fk := fun j => frozen_of_row _ _ j _ _ hx4
            refine wpOp_step rfl (fun K hK => ?_)
            go_simp
            refine hK _ _ ⟨(hRW18.set hz4 (by first | exact Or.inr hg4 | simp)).set hz4 (by first | exact Or.inr hg4 | simp), ?_⟩
            clear hK K
            clear ck fk
            have hx3 := heap_set_ne2 (g := W16.heap.size) (j := 0) (j2 := 1) (u := .int .i64 ((Rt.mk 5 1)).n) (u2 := .int .i64 ((Rt.mk 5 1)).d) (by first | exact hne | exact Ne.symm hne) hx3
            have hx4 := heap_set2 (u := .int .i64 ((Rt.mk 5 1)).n) (u2 := .int .i64 ((Rt.mk 5 1)).d) hx4
            refine wpAnyE_all (rs := [11]) (by kernel_rfl) (by simp) (fun W19 hW19 hRW19 i hi => ?_)
            obtain rfl := List.mem_singleton.1 hi
            have hx3 := heap_ext hx3 hW19
            have hx4 := heap_ext hx4 hW19
            refine wpOp_step rfl (fun K hK => ?_)
            go_simp
            refine hK _ _ ⟨hRW19, ?_⟩
            clear hK K
            refine wpAnyE_done (by kernel_rfl) (fun W20 hW20 hRW20 => ?_) _
            refine NoPanic.normal ?_
            have hx3 := heap_ext hx3 hW20
            have hx4 := heap_ext hx4 hW20
            go_wp2_with fail
            go_meet
            exact ⟨_, _, rfl, rfl, rfl, bcall hb0 hb0.size hRW20.b, hx3, hx4⟩
          · obtain rfl := List.mem_singleton.1 hi
            refine wpOp_step rfl (fun K hK => ?_)
            go_simp
            refine hK _ _ ⟨hRW14.grow (one_alloc _ _), ?_⟩
            clear hK K
            have hne : W1.heap.size ≠ W14.heap.size := by have := lt_some hx3; omega
            have hx3 := heap_old (o' := (Obj.cells #[.int .i64 0, .int .i64 0] 27)) hx3
            have hx4 := heap_new (w := W14) (o := (Obj.cells #[.int .i64 0, .int .i64 0] 27)) rfl
            have hz4 : w0.heap.size ≤ W14.heap.size := hRW14.b.size
            refine wpAnyE_all (rs := [0]) (by kernel_rfl) (by simp) (fun W21 hW21 hRW21 i hi => ?_)
            have hx3 := heap_ext hx3 hW21
            have hx4 := heap_ext hx4 hW21
            obtain rfl := List.mem_singleton.1 hi
            refine wpOp_step rfl (fun K hK => ?_)
            go_simp
            refine Calls.mono (equal_any W21) ?_
            rintro e W22 ⟨A, c, rfl, hF, hbW22⟩
            have hRW22 := hRW21.grow hbW22
            refine hK _ _ ⟨hRW22, ?_⟩
            clear hK K
            have lx3 := lt_some hx3
            have lx4 := lt_some hx4
            have hx3 := heap_ext hx3 hbW22
            have hx4 := heap_ext hx4 hbW22
            have hs0 := hRW21.s
            refine wpAnyE_go (w0 := w0) (w1 := W22) (X := [W1.heap.size, W14.heap.size]) (RK.move hRW22 (by simp <;> omega)) (RK.here hRW22) [2, 3, 4, 5, 6] 3 (by kernel_rfl) ?_
            apply Exists.intro
            refine ⟨fun G hG hN => ?_, ?_⟩
            · simp only [pickOps, List.getElem?_toArray, List.getElem?_cons_zero, List.getElem?_cons_succ]
              repeat (first | go_big_quiet_step ((first | (go_at_call 10; exact calls_ge (RK.grows _ _ _) hG (de_values _ _ _ _ _ (hF.rk (GE.h _) (by simp <;> omega)) (hP0.next (RK.b (GE.h _))))))) | quiet_step ((first | (go_at_call 10; exact calls_ge (RK.grows _ _ _) hG (de_values _ _ _ _ _ (hF.rk (GE.h _) (by simp <;> omega)) (hP0.next (RK.b (GE.h _))))))))
              exact wpQuiet_nil rfl
            refine wpAnyE_all (rs := [9]) (by kernel_rfl) (by simp) (fun W23 hW23 hRW23 i hi => ?_)
            obtain rfl := List.mem_singleton.1 hi
            have hx3 := heap_ext hx3 hW23
            have hx4 := heap_ext hx4 hW23
            have ck := fun j => cell_of_row _ _ j _ _ _ hx3
            have fk := fun j => frozen_of_row _ _ j _ _ hx3
            refine wpOp_step rfl (fun K hK => ?_)
            go_simp
            refine hK _ _ ⟨(hRW23.set hz3 (by first | exact Or.inr hg3 | simp)).set hz3 (by first | exact Or.inr hg3 | simp), ?_⟩
            clear hK K
            clear ck fk
            have hx4 := heap_set_ne2 (g := W1.heap.size) (j := 0) (j2 := 1) (u := .int .i64 ((Rt.mk 5 1)).n) (u2 := .int .i64 ((Rt.mk 5 1)).d) (by first | exact hne | exact Ne.symm hne) hx4
            have hx3 := heap_set2 (u := .int .i64 ((Rt.mk 5 1)).n) (u2 := .int .i64 ((Rt.mk 5 1)).d) hx3
            refine wpAnyE_all (rs := [10]) (by kernel_rfl) (by simp) (fun W24 hW24 hRW24 i hi => ?_)
            obtain rfl := List.mem_singleton.1 hi
            have hx3 := heap_ext hx3 hW24
            have hx4 := heap_ext hx4 hW24
            have ck := fun j => cell_of_row _ _ j _ _ _ hx4
            have fk := fun j => frozen_of_row _ _ j _ _ hx4
            refine wpOp_step rfl (fun K hK => ?_)
            go_simp
            refine hK _ _ ⟨(hRW24.set hz4 (by first | exact Or.inr hg4 | simp)).set hz4 (by first | exact Or.inr hg4 | simp), ?_⟩
            clear hK K
            clear ck fk
            have hx3 := heap_set_ne2 (g := W14.heap.size) (j := 0) (j2 := 1) (u := .int .i64 ((Rt.mk 5 1)).n) (u2 := .int .i64 ((Rt.mk 5 1)).d) (by first | exact hne | exact Ne.symm hne) hx3
            have hx4 := heap_set2 (u := .int .i64 ((Rt.mk 5 1)).n) (u2 := .int .i64 ((Rt.mk 5 1)).d) hx4
            refine wpAnyE_all (rs := [11]) (by kernel_rfl) (by simp) (fun W25 hW25 hRW25 i hi => ?_)
            obtain rfl := List.mem_singleton.1 hi
            have hx3 := heap_ext hx3 hW25
            have hx4 := heap_ext hx4 hW25
            refine wpOp_step rfl (fun K hK => ?_)
            go_simp
            refine hK _ _ ⟨hRW25, ?_⟩
            clear hK K
            refine wpAnyE_done (by kernel_rfl) (fun W26 hW26 hRW26 => ?_) _
            refine NoPanic.normal ?_
            have hx3 := heap_ext hx3 hW26
            have hx4 := heap_ext hx4 hW26
            go_wp2_with fail
            go_meet
            exact ⟨_, _, rfl, rfl, rfl, bcall hb0 hb0.size hRW26.b, hx3, hx4⟩
        · obtain rfl := List.mem_singleton.1 hi
          refine wpOp_step rfl (fun K hK => ?_)
          go_simp
          refine hK _ _ ⟨hRW1.grow (one_alloc _ _), ?_⟩
          clear hK K
          have hx4 := heap_new (w := W1) (o := (Obj.cells #[.int .i64 0, .int .i64 0] 27)) rfl
          have hz4 : w0.heap.size ≤ W1.heap.size := hRW1.b.size
          refine wpAnyE_all (rs := [0, 7]) (by kernel_rfl) (by simp) (fun W27 hW27 hRW27 i hi => ?_)
          have hx4 := heap_ext hx4 hW27
          rcases List.mem_cons.1 hi with rfl | hi
          · refine wpOp_step rfl (fun K hK => ?_)
            go_simp
            refine Calls.mono (equal_any W27) ?_
            rintro e W28 ⟨A, c, rfl, hF, hbW28⟩
            have hRW28 := hRW27.grow hbW28
            refine hK _ _ ⟨hRW28, ?_⟩
            clear hK K
            have lx4 := lt_some hx4
            have hx4 := heap_ext hx4 hbW28
            have hs0 := hRW27.s
            refine wpAnyE_go (w0 := w0) (w1 := W28) (X := [W1.heap.size]) (RK.move hRW28 (by simp <;> omega)) (RK.here hRW28) [2, 3, 4, 5, 6] 4 (by kernel_rfl) ?_
            apply Exists.intro
            refine ⟨fun G hG hN => ?_, ?_⟩
            · simp only [pickOps, List.getElem?_toArray, List.getElem?_cons_zero, List.getElem?_cons_succ]
              repeat (first | go_big_quiet_step ((first | (go_at_call 10; exact calls_ge (RK.grows _ _ _) hG (de_values _ _ _ _ _ (hF.rk (GE.h _) (by simp <;> omega)) (hP0.next (RK.b (GE.h _))))))) | quiet_step ((first | (go_at_call 10; exact calls_ge (RK.grows _ _ _) hG (de_values _ _ _ _ _ (hF.rk (GE.h _) (by simp <;> omega)) (hP0.next (RK.b (GE.h _))))))))
              exact wpQuiet_nil rfl
            refine wpAnyE_all (rs := [7]) (by kernel_rfl) (by simp) (fun W29 hW29 hRW29 i hi => ?_)
            have hx4 := heap_ext hx4 hW29
            obtain rfl := List.mem_singleton.1 hi
            refine wpOp_step rfl (fun K hK => ?_)
            go_simp
            refine hK _ _ ⟨hRW29.grow (one_alloc _ _), ?_⟩
            clear hK K
            have hne : W1.heap.size ≠ W29.heap.size := by have := lt_some hx4; omega
            have hx4 := heap_old (o' := (Obj.cells #[.int .i64 0, .int .i64 0] 27)) hx4
            have hx3 := heap_new (w := W29) (o := (Obj.cells #[.int .i64 0, .int .i64 0] 27)) rfl
            have hg3 : W28.heap.size ≤ W29.heap.size := hRW29.s
            have hz3 : w0.heap.size ≤ W29.heap.size := hRW29.b.size
            refine wpAnyE_all (rs := [9]) (by kernel_rfl) (by simp) (fun W30 hW30 hRW30 i hi => ?_)
            obtain rfl := List.mem_singleton.1 hi
            have hx3 := heap_ext hx3 hW30
            have hx4 := heap_ext hx4 hW30
            have ck := fun j => cell_of_row _ _ j _ _ _ hx3
            have fk := fun j => frozen_of_row _ _ j _ _ hx3
            refine wpOp_step rfl (fun K hK => ?_)
            go_simp
            refine hK _ _ ⟨(hRW30.set hz3 (by first | exact Or.inr hg3 | simp)).set hz3 (by first | exact Or.inr hg3 | simp), ?_⟩
            clear hK K
            clear ck fk
            have hx4 := heap_set_ne2 (g := W29.heap.size) (j := 0) (j2 := 1) (u := .int .i64 ((Rt.mk 5 1)).n) (u2 := .int .i64 ((Rt.mk 5 1)).d) (by first | exact hne | exact Ne.symm hne) hx4
            have hx3 := heap_set2 (u := .int .i64 ((Rt.mk 5 1)).n) (u2 := .int .i64 ((Rt.mk 5 1)).d) hx3
            refine wpAnyE_all (rs := [10]) (by kernel_rfl) (by simp) (fun W31 hW31 hRW31 i hi => ?_)
            obtain rfl := List.mem_singleton.1 hi
            have hx3 := heap_ext hx3 hW31
            have hx4 := heap_ext hx4 hW31
            have ck := fun j => cell_of_row _ _ j _ _ _ hx4
            have fk := fun j => frozen_of_row _ _ j _ _ hx4
            refine wpOp_step rfl (fun K hK => ?_)
            go_simp
            refine hK _ _ ⟨(hRW31.set hz4 (by first | exact Or.inr hg4 | simp)).set hz4 (by first | exact Or.inr hg4 | simp), ?_⟩
            clear hK K
            clear ck fk
            have hx3 := heap_set_ne2 (g := W1.heap.size) (j := 0) (j2 := 1) (u := .int .i64 ((Rt.mk 5 1)).n) (u2 := .int .i64 ((Rt.mk 5 1)).d) (by first | exact hne | exact Ne.symm hne) hx3
            have hx4 := heap_set2 (u := .int .i64 ((Rt.mk 5 1)).n) (u2 := .int .i64 ((Rt.mk 5 1)).d) hx4
            refine wpAnyE_all (rs := [11]) (by kernel_rfl) (by simp) (fun W32 hW32 hRW32 i hi => ?_)
            obtain rfl := List.mem_singleton.1 hi
            have hx3 := heap_ext hx3 hW32
            have hx4 := heap_ext hx4 hW32
            refine wpOp_step rfl (fun K hK => ?_)
            go_simp
            refine hK _ _ ⟨hRW32, ?_⟩
            clear hK K
            refine wpAnyE_done (by kernel_rfl) (fun W33 hW33 hRW33 => ?_) _
            refine NoPanic.normal ?_
            have hx3 := heap_ext hx3 hW33
            have hx4 := heap_ext hx4 hW33
            go_wp2_with fail
            go_meet
            exact ⟨_, _, rfl, rfl, rfl, bcall hb0 hb0.size hRW33.b, hx3, hx4⟩
          · obtain rfl := List.mem_singleton.1 hi
            refine wpOp_step rfl (fun K hK => ?_)
            go_simp
            refine hK _ _ ⟨hRW27.grow (one_alloc _ _), ?_⟩
            clear hK K
            have hne : W1.heap.size ≠ W27.heap.size := by have := lt_some hx4; omega
            have hx4 := heap_old (o' := (Obj.cells #[.int .i64 0, .int .i64 0] 27)) hx4
            have hx3 := heap_new (w := W27) (o := (Obj.cells #[.int .i64 0, .int .i64 0] 27)) rfl
            have hz3 : w0.heap.size ≤ W27.heap.size := hRW27.b.size
            refine wpAnyE_all (rs := [0]) (by kernel_rfl) (by simp) (fun W34 hW34 hRW34 i hi => ?_)
            have hx4 := heap_ext hx4 hW34
            have hx3 := heap_ext hx3 hW34
            obtain rfl := List.mem_singleton.1 hi
            refine wpOp_step rfl (fun K hK => ?_)
            go_simp
            refine Calls.mono (equal_any W34) ?_
            rintro e W35 ⟨A, c, rfl, hF, hbW35⟩
            have hRW35 := hRW34.grow hbW35
            refine hK _ _ ⟨hRW35, ?_⟩
            clear hK K
            have lx4 := lt_some hx4
            have lx3 := lt_some hx3
            have hx4 := heap_ext hx4 hbW35
            have hx3 := heap_ext hx3 hbW35
            have hs0 := hRW34.s
            refine wpAnyE_go (w0 := w0) (w1 := W35) (X := [W1.heap.size, W27.heap.size]) (RK.move hRW35 (by simp <;> omega)) (RK.here hRW35) [2, 3, 4, 5, 6] 3 (by kernel_rfl) ?_
            apply Exists.intro
            refine ⟨fun G hG hN => ?_, ?_⟩
            · simp only [pickOps, List.getElem?_toArray, List.getElem?_cons_zero, List.getElem?_cons_succ]
              repeat (first | go_big_quiet_step ((first | (go_at_call 10; exact calls_ge (RK.grows _ _ _) hG (de_values _ _ _ _ _ (hF.rk (GE.h _) (by simp <;> omega)) (hP0.next (RK.b (GE.h _))))))) | quiet_step ((first | (go_at_call 10; exact calls_ge (RK.grows _ _ _) hG (de_values _ _ _ _ _ (hF.rk (GE.h _) (by simp <;> omega)) (hP0.next (RK.b (GE.h _))))))))
              exact wpQuiet_nil rfl
            refine wpAnyE_all (rs := [9]) (by kernel_rfl) (by simp) (fun W36 hW36 hRW36 i hi => ?_)
            obtain rfl := List.mem_singleton.1 hi
            have hx3 := heap_ext hx3 hW36
            have hx4 := heap_ext hx4 hW36
            have ck := fun j => cell_of_row _ _ j _ _ _ hx3
            have fk := fun j => frozen_of_row _ _ j _ _ hx3
            refine wpOp_step rfl (fun K hK => ?_)
            go_simp
            refine hK _ _ ⟨(hRW36.set hz3 (by first | exact Or.inr hg3 | simp)).set hz3 (by first | exact Or.inr hg3 | simp), ?_⟩
            clear hK K
            clear ck fk
            have hx4 := heap_set_ne2 (g := W27.heap.size) (j := 0) (j2 := 1) (u := .int .i64 ((Rt.mk 5 1)).n) (u2 := .int .i64 ((Rt.mk 5 1)).d) (by first | exact hne | exact Ne.symm hne) hx4
            have hx3 := heap_set2 (u := .int .i64 ((Rt.mk 5 1)).n) (u2 := .int .i64 ((Rt.mk 5 1)).d) hx3
            refine wpAnyE_all (rs := [10]) (by kernel_rfl) (by simp) (fun W37 hW37 hRW37 i hi => ?_)
            obtain rfl := List.mem_singleton.1 hi
            have hx3 := heap_ext hx3 hW37
            have hx4 := heap_ext hx4 hW37
            have ck := fun j => cell_of_row _ _ j _ _ _ hx4
            have fk := fun j => frozen_of_row _ _ j _ _ hx4
            refine wpOp_step rfl (fun K hK => ?_)
            go_simp
            refine hK _ _ ⟨(hRW37.set hz4 (by first | exact Or.inr hg4 | simp)).set hz4 (by first | exact Or.inr hg4 | simp), ?_⟩
            clear hK K
            clear ck fk
            have hx3 := heap_set_ne2 (g := W1.heap.size) (j := 0) (j2 := 1) (u := .int .i64 ((Rt.mk 5 1)).n) (u2 := .int .i64 ((Rt.mk 5 1)).d) (by first | exact hne | exact Ne.symm hne) hx3
            have hx4 := heap_set2 (u := .int .i64 ((Rt.mk 5 1)).n) (u2 := .int .i64 ((Rt.mk 5 1)).d) hx4
            refine wpAnyE_all (rs := [11]) (by kernel_rfl) (by simp) (fun W38 hW38 hRW38 i hi => ?_)
            obtain rfl := List.mem_singleton.1 hi
            have hx3 := heap_ext hx3 hW38
            have hx4 := heap_ext hx4 hW38
            refine wpOp_step rfl (fun K hK => ?_)
            go_simp
            refine hK _ _ ⟨hRW38, ?_⟩
            clear hK K
            refine wpAnyE_done (by kernel_rfl) (fun W39 hW39 hRW39 => ?_) _
            refine NoPanic.normal ?_
            have hx3 := heap_ext hx3 hW39
            have hx4 := heap_ext hx4 hW39
            go_wp2_with fail
            go_meet
            exact ⟨_, _, rfl, rfl, rfl, bcall hb0 hb0.size hRW39.b, hx3, hx4⟩
    case rest =>
      obtain ⟨g8, g9, rfl, rfl, rfl, hb8, h8, h9⟩ := hcut
      have HB8 := Lib.hid (bcall HB7.out HB7.out.size hb8)
      have h1 := heap_ext h1 hb8
      have h3 := heap_ext h3 hb8
      have h4 := heap_ext h4 hb8
      have h6 := heap_ext h6 hb8
      have HP8 := Lib.hid (HP7.out.next hb8)
      have HU8 := Lib.hid (HU7.out.next hb8)
      clear HP7 HU7 HB7 hb8
      go_wp2_with fail
      refine (of_any 7 _).mono ?_
      rintro e wA ⟨rfl, hbA⟩
      go_wp2_with fail
      refine (of_any 5 _).mono ?_
      rintro e wB ⟨rfl, hbB⟩
      have HBA := Lib.hid (bcall HB8.out HB8.out.size hbA)
      have HBB := Lib.hid (bcall HBA.out HBA.out.size hbB)
      have HBC := Lib.hid ((HBB.out.alloc HBB.out.size (rB ⟨7, 1⟩)).alloc (by have := HBB.out.size; simp; omega) (rB ⟨5, 1⟩))
      have k1 := heap_old (o' := rB ⟨5, 1⟩) (heap_old (o' := rB ⟨7, 1⟩) (heap_ext (heap_ext h1 hbA) hbB))
      have k3 := heap_old (o' := rB ⟨5, 1⟩) (heap_old (o' := rB ⟨7, 1⟩) (heap_ext (heap_ext h3 hbA) hbB))
      have k4 := heap_old (o' := rB ⟨5, 1⟩) (heap_old (o' := rB ⟨7, 1⟩) (heap_ext (heap_ext h4 hbA) hbB))
      have k6 := heap_old (o' := rB ⟨5, 1⟩) (heap_old (o' := rB ⟨7, 1⟩) (heap_ext (heap_ext h6 hbA) hbB))
      have k8 := heap_old (o' := rB ⟨5, 1⟩) (heap_old (o' := rB ⟨7, 1⟩) (heap_ext (heap_ext h8 hbA) hbB))
      have k9 := heap_old (o' := rB ⟨5, 1⟩) (heap_old (o' := rB ⟨7, 1⟩) (heap_ext (heap_ext h9 hbA) hbB))
      have k11 : ((wB.alloc (rB ⟨7, 1⟩)).alloc (rB ⟨5, 1⟩)).heap[wB.heap.size]? = some (rB ⟨7, 1⟩) := heap_old (heap_new rfl)
      have k12 : ((wB.alloc (rB ⟨7, 1⟩)).alloc (rB ⟨5, 1⟩)).heap[wB.heap.size + 1]? = some (rB ⟨5, 1⟩) := heap_new (by simp)
      have HPC := Lib.hid ((((HP8.out.next hbA).next hbB).next (one_alloc wB (rB ⟨7, 1⟩))).next (one_alloc _ (rB ⟨5, 1⟩)))
      have HUC := Lib.hid ((((HU8.out.next hbA).next hbB).next (one_alloc wB (rB ⟨7, 1⟩))).next (one_alloc _ (rB ⟨5, 1⟩)))
      clear h1 h3 h4 h6 h8 h9 hbA hbB HP8 HU8 HB8 HBA HBB
      go_upto_region 6 with fail
      generalize wB.heap.size = g11 at *
      generalize (wB.alloc _).alloc _ = wC at *
      refine wp_region_flow 48 (by kernel_rfl) (by rfl) (fun w0 hb0 => ?_)
      have j1 := heap_ext k1 hb0
      have j3 := heap_ext k3 hb0
      have j4 := heap_ext k4 hb0
      have j6 := heap_ext k6 hb0
      have j8 := heap_ext k8 hb0
      have j9 := heap_ext k9 hb0
      have j11 := heap_ext k11 hb0
      have j12 := heap_ext k12 hb0
      have HP0 := Lib.hid (HPC.out.next hb0)
      have HU0 := Lib.hid (HUC.out.next hb0)
      have HB0 := Lib.hid (bcall HBC.out HBC.out.size hb0)
      clear k1 k3 k4 k6 k8 k9 k11 k12 HPC HUC HBC
      refine wpAnyE_go (w0 := w0) (w1 := w0) (X := []) (fun _ h => h) (RK.start _) [0, 1, 2, 3, 4, 5, 6, 7, 8, 9, 10, 11, 12, 13, 14, 15, 17] 31 (by kernel_rfl) ?_
      apply Exists.intro
      refine ⟨fun G hG hN => ?_, ?_⟩
      · have c_j1 := fun (e : GE (RK w0 w0 []) G) j => cell_of_row e.w _ j _ _ _ ((GE.h e).at j1 (by simp))
        have z_j1 := fun (e : GE (RK w0 w0 []) G) => lt_some ((GE.h e).at j1 (by simp))
        simp only [pickOps, List.getElem?_toArray, List.getElem?_cons_zero, List.getElem?_cons_succ]
        repeat (first | go_big_quiet_step (fail) | quiet_step (fail))
        exact wpQuiet_nil rfl
      refine wpAnyE_all (rs := [16]) (by kernel_rfl) (by simp) (fun W1 hW1 hRW1 i hi => ?_)
      obtain rfl := List.mem_singleton.1 hi
      refine wpOp_step rfl (fun K hK => ?_)
      go_simp
      refine hK _ _ ⟨hRW1.grow (one_alloc _ _), ?_⟩
      clear hK K
      have l1 : (W1.alloc (.cells #[.int .i64 0, .int .i64 0, .int .i64 1] 3)).heap[W1.heap.size]? = some (.cells #[.int .i64 0, .int .i64 0, .int .i64 1] 3) := heap_new rfl
      have hR2 := hRW1.grow (one_alloc W1 (.cells #[.int .i64 0, .int .i64 0, .int .i64 1] 3))
      generalize W1.alloc _ = W2 at *
      have j1 := hR2.at j1 (by simp)
      have j3 := hR2.at j3 (by simp)
      have j4 := hR2.at j4 (by simp)
      have j6 := hR2.at j6 (by simp)
      have j8 := hR2.at j8 (by simp)
      have j9 := hR2.at j9 (by simp)
      have j11 := hR2.at j11 (by simp)
      have j12 := hR2.at j12 (by simp)
      refine wpAnyE_go (w0 := w0) (w1 := W2) (X := []) (RK.move hR2 (by simp)) (RK.here hR2) [18, 19, 20, 21, 22, 23, 24, 25, 26, 27, 28, 29, 30, 31, 32] 15 (by kernel_rfl) ?_
      apply Exists.intro
      refine ⟨fun G hG hN => ?_, ?_⟩
      · have c_j3 := fun (e : GE (RK w0 W2 []) G) j => cell_of_row e.w _ j _ _ _ ((GE.h e).at j3 (by simp))
        have z_j3 := fun (e : GE (RK w0 W2 []) G) => lt_some ((GE.h e).at j3 (by simp))
        have c_j4 := fun (e : GE (RK w0 W2 []) G) j => cell_of_row e.w _ j _ _ _ ((GE.h e).at j4 (by simp))
        have z_j4 := fun (e : GE (RK w0 W2 []) G) => lt_some ((GE.h e).at j4 (by simp))
        have c_j6 := fun (e : GE (RK w0 W2 []) G) j => cell_of_row e.w _ j _ _ _ ((GE.h e).at j6 (by simp))
        have z_j6 := fun (e : GE (RK w0 W2 []) G) => lt_some ((GE.h e).at j6 (by simp))
        have c_j11 := fun (e : GE (RK w0 W2 []) G) j => cell_of_row e.w _ j _ _ _ ((GE.h e).at j11 (by simp))
        have z_j11 := fun (e : GE (RK w0 W2 []) G) => lt_some ((GE.h e).at j11 (by simp))
        simp only [pickOps, List.getElem?_toArray, List.getElem?_cons_zero, List.getElem?_cons_succ]
        repeat (first | go_big_quiet_step ((first | (go_at_call 19; exact calls_ge (RK.grows _ _ _) hG (ptsame_any Dg O (some ⟨W1.heap.size, 0, none⟩) oc 3 _ (HP0.out.next (RK.b (GE.h _))) (pin_lit (RK.at (GE.h _) l1 (by simp)) rfl (by decide) (by decide) (by decide) (by decide)))))) | quiet_step ((first | (go_at_call 19; exact calls_ge (RK.grows _ _ _) hG (ptsame_any Dg O (some ⟨W1.heap.size, 0, none⟩) oc 3 _ (HP0.out.next (RK.b (GE.h _))) (pin_lit (RK.at (GE.h _) l1 (by simp)) rfl (by decide) (by decide) (by decide) (by decide)))))))
        exact wpQuiet_nil rfl
      refine wpAnyE_all (rs := [33]) (by kernel_rfl) (by simp) (fun W3 hW3 hRW3 i hi => ?_)
      obtain rfl := List.mem_singleton.1 hi
      refine wpOp_step rfl (fun K hK => ?_)
      go_simp
      refine hK _ _ ⟨hRW3.grow (one_alloc _ _), ?_⟩
      clear hK K
      have l2 : (W3.alloc (.cells #[.int .i64 1, .int .i64 0] 3)).heap[W3.heap.size]? = some (.cells #[.int .i64 1, .int .i64 0] 3) := heap_new rfl
      have hR4 := hRW3.grow (one_alloc W3 (.cells #[.int .i64 1, .int .i64 0] 3))
      generalize W3.alloc _ = W4 at *
      have j8 := hR4.at j8 (by simp)
      have j9 := hR4.at j9 (by simp)
      have j12 := hR4.at j12 (by simp)
      refine wpAnyE_go (w0 := w0) (w1 := W4) (X := []) (RK.move hR4 (by simp)) (RK.here hR4) [34, 35, 36, 37, 38, 39, 40, 41, 42, 43, 44, 45, 46, 47] 0 (by kernel_rfl) ?_
      apply Exists.intro
      refine ⟨fun G hG hN => ?_, ?_⟩
      · have c_j8 := fun (e : GE (RK w0 W4 []) G) j => cell_of_row e.w _ j _ _ _ ((GE.h e).at j8 (by simp))
        have z_j8 := fun (e : GE (RK w0 W4 []) G) => lt_some ((GE.h e).at j8 (by simp))
        have c_j9 := fun (e : GE (RK w0 W4 []) G) j => cell_of_row e.w _ j _ _ _ ((GE.h e).at j9 (by simp))
        have z_j9 := fun (e : GE (RK w0 W4 []) G) => lt_some ((GE.h e).at j9 (by simp))
        have c_j12 := fun (e : GE (RK w0 W4 []) G) j => cell_of_row e.w _ j _ _ _ ((GE.h e).at j12 (by simp))
        have z_j12 := fun (e : GE (RK w0 W4 []) G) => lt_some ((GE.h e).at j12 (by simp))
        simp only [pickOps, List.getElem?_toArray, List.getElem?_cons_zero, List.getElem?_cons_succ]
        repeat (first | go_big_quiet_step ((first | (go_at_call 24; exact calls_ge (RK.grows _ _ _) hG (whole_any _ _ _ _)) | (go_at_call 19; exact calls_ge (RK.grows _ _ _) hG (ptsame_any De U (some ⟨W3.heap.size, 0, none⟩) uc 2 _ (HU0.out.next (RK.b (GE.h _))) (pin_lit (RK.at (GE.h _) l2 (by simp)) rfl (by decide) (by decide) (by decide) (by decide)))))) | quiet_step ((first | (go_at_call 24; exact calls_ge (RK.grows _ _ _) hG (whole_any _ _ _ _)) | (go_at_call 19; exact calls_ge (RK.grows _ _ _) hG (ptsame_any De U (some ⟨W3.heap.size, 0, none⟩) uc 2 _ (HU0.out.next (RK.b (GE.h _))) (pin_lit (RK.at (GE.h _) l2 (by simp)) rfl (by decide) (by decide) (by decide) (by decide)))))))
        exact wpQuiet_nil rfl
      refine wpAnyE_done (by kernel_rfl) (fun W5 hW5 hRW5 => ?_) _
      refine NoPanic.normal ?_
      go_wp2_with fail
      go_ret
      exact ⟨rfl, bcall HB0.out HB0.out.size hRW5.b⟩
end Go.Proofs.Ytcjfcfgkejoeeaa
