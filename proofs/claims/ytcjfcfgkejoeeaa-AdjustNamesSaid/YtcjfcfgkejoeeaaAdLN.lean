/- AdjustNames returns true. -/
import Derived.Test.YtcjfcfgkejoeeaaAdN0
import Derived.Test.YtcjfcfgkejoeeaaTwin
import Derived.RegionTactic
import Derived.Deep.DeepCutAuto
namespace Go.Proofs.Ytcjfcfgkejoeeaa
open Go.RowKit Go.Deep
set_option linter.unusedVariables false
set_option linter.unusedSimpArgs false

set_option maxRecDepth 100000 in
set_option maxHeartbeats 16000000 in
theorem names_walk (w : World) : Calls Try.prog 5 #[] w fun e w' => e = .returned (.bool true) ∧ Below w.heap.size w w' := by
  go_enter Try.func5, Try.ntmps5
  try dsimp only [List.append]
  go_wp2_with fail
  refine Calls.mono (ck0_any (some ⟨_, 0, none⟩) 1 _ ?_) ?_
  · exact gd_one (heap_old (heap_new (by first | rfl | simp))) (heap_new (by first | rfl | simp))
  rintro e w1 ⟨rfl, hb⟩
  have HB1 := Lib.hid (bcall (Below.refl w.heap.size w) (Nat.le_refl _) (show Below w.heap.size w w1 from bcall (by repeat (first | exact Below.refl _ _ | refine Below.alloc ?_ (by first | (simp; done) | (simp; omega) | omega) _)) (by first | (simp; done) | (simp; omega) | omega) hb))
  clear hb
  go_wp2_with fail
  refine Calls.mono (ck1_any (some ⟨_, 0, none⟩) 2 _ ?_) ?_
  · exact gd_two (heap_old (heap_old (heap_new (by first | rfl | simp)))) (heap_old (heap_new (by first | rfl | simp))) (heap_new (by first | rfl | simp)) rfl rfl rfl rfl (by decide) (by decide)
  rintro e w2 ⟨rfl, hb⟩
  have HB2 := Lib.hid (bcall HB1.out HB1.out.size (show Below w1.heap.size w1 w2 from bcall (by repeat (first | exact Below.refl _ _ | refine Below.alloc ?_ (by first | (simp; done) | (simp; omega) | omega) _)) (by first | (simp; done) | (simp; omega) | omega) hb))
  clear hb
  go_wp2_with fail
  refine Calls.mono (ck2_any (some ⟨_, 0, none⟩) 2 _ ?_) ?_
  · exact gd_two (heap_old (heap_old (heap_new (by first | rfl | simp)))) (heap_old (heap_new (by first | rfl | simp))) (heap_new (by first | rfl | simp)) rfl rfl rfl rfl (by decide) (by decide)
  rintro e w3 ⟨rfl, hb⟩
  have HB3 := Lib.hid (bcall HB2.out HB2.out.size (show Below w2.heap.size w2 w3 from bcall (by repeat (first | exact Below.refl _ _ | refine Below.alloc ?_ (by first | (simp; done) | (simp; omega) | omega) _)) (by first | (simp; done) | (simp; omega) | omega) hb))
  clear hb
  have hm2 : ∀ w, Sem.run Try.prog (Instr.makeSlice 22 (.int .i64 2) (.int .i64 2)) w = .ok (.slice (some ⟨w.heap.size, 0, none⟩) 2 2) (w.alloc (.cells (madeCells #[.slice none 0 0] 2) 25)) := run_make_row' (P := Try.prog) 22 25 (.slice none 0 0) 24 Try.underlying22 infoLI rfl .i64 .i64 2 (by omega) (by omega)
  go_wp2_with fail
  refine Calls.mono (ck3_any (some ⟨_, 0, none⟩) 2 _ ?_) ?_
  · exact gd_nil (n := 2) (heap_new (by first | rfl | simp)) rfl (by decide) (fun i hi => by match i, hi with | 0, _ => rfl | 1, _ => rfl) (fun i hi => by match i, hi with | 0, _ => simp [madeCells] | 1, _ => simp [madeCells])
  rintro e w4 ⟨rfl, hb⟩
  have HB4 := Lib.hid (bcall HB3.out HB3.out.size (show Below w3.heap.size w3 w4 from bcall (by repeat (first | exact Below.refl _ _ | refine Below.alloc ?_ (by first | (simp; done) | (simp; omega) | omega) _)) (by first | (simp; done) | (simp; omega) | omega) hb))
  clear hb
  clear hm2
  have hm7 : ∀ w, Sem.run Try.prog (Instr.makeSlice 22 (.int .i64 7) (.int .i64 7)) w = .ok (.slice (some ⟨w.heap.size, 0, none⟩) 7 7) (w.alloc (.cells (madeCells #[.slice none 0 0] 7) 25)) := run_make_row' (P := Try.prog) 22 25 (.slice none 0 0) 24 Try.underlying22 infoLI rfl .i64 .i64 7 (by omega) (by omega)
  go_wp2_with fail
  refine Calls.mono (ck4_any (some ⟨_, 0, none⟩) 7 _ ?_) ?_
  · exact gd_nil (n := 7) (heap_new (by first | rfl | simp)) rfl (by decide) (fun i hi => by match i, hi with | 0, _ => rfl | 1, _ => rfl | 2, _ => rfl | 3, _ => rfl | 4, _ => rfl | 5, _ => rfl | 6, _ => rfl) (fun i hi => by match i, hi with | 0, _ => simp [madeCells] | 1, _ => simp [madeCells] | 2, _ => simp [madeCells] | 3, _ => simp [madeCells] | 4, _ => simp [madeCells] | 5, _ => simp [madeCells] | 6, _ => simp [madeCells])
  rintro e w5 ⟨rfl, hb⟩
  have HB5 := Lib.hid (bcall HB4.out HB4.out.size (show Below w4.heap.size w4 w5 from bcall (by repeat (first | exact Below.refl _ _ | refine Below.alloc ?_ (by first | (simp; done) | (simp; omega) | omega) _)) (by first | (simp; done) | (simp; omega) | omega) hb))
  clear hb
  clear hm7
  go_wp2_with fail
  refine Calls.mono (ck5_any (some ⟨_, 0, none⟩) 2 _ ?_) ?_
  · exact gd_two (heap_old (heap_old (heap_new (by first | rfl | simp)))) (heap_old (heap_new (by first | rfl | simp))) (heap_new (by first | rfl | simp)) rfl rfl rfl rfl (by decide) (by decide)
  rintro e w6 ⟨rfl, hb⟩
  have HB6 := Lib.hid (bcall HB5.out HB5.out.size (show Below w5.heap.size w5 w6 from bcall (by repeat (first | exact Below.refl _ _ | refine Below.alloc ?_ (by first | (simp; done) | (simp; omega) | omega) _)) (by first | (simp; done) | (simp; omega) | omega) hb))
  clear hb
  go_upto_region 8 with fail
  have h7 : (w6.alloc (rB ⟨1, 2⟩)).heap[w6.heap.size]? = some (rB ⟨1, 2⟩) := heap_new rfl
  have HB7 := Lib.hid (HB6.out.alloc HB6.out.size (rB ⟨1, 2⟩))
  generalize w6.heap.size = g7 at *
  generalize w6.alloc _ = w7 at *
  go_cut [8] (fun s8 wx => ∃ g8 b1 b2 b3 b4 b5 b6 b7 b8 b9 b10, s8 = .slice (some ⟨g8, 0, none⟩) 11 11 ∧ Below w7.heap.size w7 wx ∧ wx.heap[g8]? = some (.cells #[.slice none 0 0, .int .i64 0, .int .i64 0, .int .i64 0, .slice (some ⟨b1, 0, none⟩) 2 2, .int .i64 (-1), .int .i64 0, .int .i64 1, .slice (some ⟨b2, 0, none⟩) 3 3, .int .i64 (-1), .int .i64 0, .int .i64 1, .slice (some ⟨b3, 0, none⟩) 3 3, .int .i64 (-1), .int .i64 0, .int .i64 1, .slice (some ⟨b4, 0, none⟩) 3 3, .int .i64 (-1), .int .i64 1, .int .i64 2, .slice (some ⟨b5, 0, none⟩) 3 3, .int .i64 2, .int .i64 1, .int .i64 2, .slice (some ⟨b6, 0, none⟩) 3 3, .int .i64 3, .int .i64 1, .int .i64 2, .slice (some ⟨b7, 0, none⟩) 3 3, .int .i64 0, .int .i64 0, .int .i64 1, .slice (some ⟨b8, 0, none⟩) 3 3, .int .i64 0, .int .i64 1, .int .i64 1, .slice (some ⟨b9, 0, none⟩) 3 3, .int .i64 0, .int .i64 2, .int .i64 4, .slice (some ⟨b10, 0, none⟩) 3 3, .int .i64 0, .int .i64 1, .int .i64 1000001] 29) ∧ PIn wx.heap.size wx (some ⟨b1, 0, none⟩) 2 ⟨[0, 0], (-1), ⟨0, 1⟩⟩ ∧ PIn wx.heap.size wx (some ⟨b2, 0, none⟩) 3 ⟨[0, 0, -1], (-1), ⟨0, 1⟩⟩ ∧ PIn wx.heap.size wx (some ⟨b3, 0, none⟩) 3 ⟨[0, 0, 2], (-1), ⟨0, 1⟩⟩ ∧ PIn wx.heap.size wx (some ⟨b4, 0, none⟩) 3 ⟨[0, 0, 1], (-1), ⟨1, 2⟩⟩ ∧ PIn wx.heap.size wx (some ⟨b5, 0, none⟩) 3 ⟨[0, 0, 1], 2, ⟨1, 2⟩⟩ ∧ PIn wx.heap.size wx (some ⟨b6, 0, none⟩) 3 ⟨[0, 0, 1], 3, ⟨1, 2⟩⟩ ∧ PIn wx.heap.size wx (some ⟨b7, 0, none⟩) 3 ⟨[0, 0, 1], 0, ⟨0, 1⟩⟩ ∧ PIn wx.heap.size wx (some ⟨b8, 0, none⟩) 3 ⟨[0, 0, 1], 0, ⟨1, 1⟩⟩ ∧ PIn wx.heap.size wx (some ⟨b9, 0, none⟩) 3 ⟨[0, 0, 1], 0, ⟨2, 4⟩⟩ ∧ PIn wx.heap.size wx (some ⟨b10, 0, none⟩) 3 ⟨[0, 0, 1], 0, ⟨1, 1000001⟩⟩)
  case first =>
    have c7_4 := fun (o0 o1 o2 o3 : Obj) (j : Nat) => cell_of_row ((((w7.alloc o0).alloc o1).alloc o2).alloc o3) _ j _ _ _ (heap_old (heap_old (heap_old (heap_old h7))))
    have z7_4 := fun (o0 o1 o2 o3 : Obj) => show g7 < ((((w7.alloc o0).alloc o1).alloc o2).alloc o3).heap.size from lt_some (heap_old (heap_old (heap_old (heap_old h7))))
    have c7_5 := fun (o0 o1 o2 o3 o4 : Obj) (j : Nat) => cell_of_row (((((w7.alloc o0).alloc o1).alloc o2).alloc o3).alloc o4) _ j _ _ _ (heap_old (heap_old (heap_old (heap_old (heap_old h7)))))
    have z7_5 := fun (o0 o1 o2 o3 o4 : Obj) => show g7 < (((((w7.alloc o0).alloc o1).alloc o2).alloc o3).alloc o4).heap.size from lt_some (heap_old (heap_old (heap_old (heap_old (heap_old h7)))))
    have c7_6 := fun (o0 o1 o2 o3 o4 o5 : Obj) (j : Nat) => cell_of_row ((((((w7.alloc o0).alloc o1).alloc o2).alloc o3).alloc o4).alloc o5) _ j _ _ _ (heap_old (heap_old (heap_old (heap_old (heap_old (heap_old h7))))))
    have z7_6 := fun (o0 o1 o2 o3 o4 o5 : Obj) => show g7 < ((((((w7.alloc o0).alloc o1).alloc o2).alloc o3).alloc o4).alloc o5).heap.size from lt_some (heap_old (heap_old (heap_old (heap_old (heap_old (heap_old h7))))))
    go_wp2_with fail
    go_meet
    refine ⟨_, _, _, _, _, _, _, _, _, _, _, rfl, (by repeat (first | exact Below.refl _ _ | refine Below.alloc ?_ (by first | (simp; done) | (simp; omega) | omega) _)), heap_new (by first | rfl | simp), pin_lit (heap_old (heap_old (heap_old (heap_old (heap_old (heap_old (heap_old (heap_old (heap_old (heap_old (heap_new (by first | rfl | simp)))))))))))) rfl (by decide) (by decide) (by decide) (by decide), pin_lit (heap_old (heap_old (heap_old (heap_old (heap_old (heap_old (heap_old (heap_old (heap_old (heap_new (by first | rfl | simp))))))))))) rfl (by decide) (by decide) (by decide) (by decide), pin_lit (heap_old (heap_old (heap_old (heap_old (heap_old (heap_old (heap_old (heap_old (heap_new (by first | rfl | simp)))))))))) rfl (by decide) (by decide) (by decide) (by decide), pin_lit (heap_old (heap_old (heap_old (heap_old (heap_old (heap_old (heap_old (heap_new (by first | rfl | simp))))))))) rfl (by decide) (by decide) (by decide) (by decide), pin_lit (heap_old (heap_old (heap_old (heap_old (heap_old (heap_old (heap_new (by first | rfl | simp)))))))) rfl (by decide) (by decide) (by decide) (by decide), pin_lit (heap_old (heap_old (heap_old (heap_old (heap_old (heap_new (by first | rfl | simp))))))) rfl (by decide) (by decide) (by decide) (by decide), pin_lit (heap_old (heap_old (heap_old (heap_old (heap_new (by first | rfl | simp)))))) rfl (by decide) (by decide) (by decide) (by decide), pin_lit (heap_old (heap_old (heap_old (heap_new (by first | rfl | simp))))) rfl (by decide) (by decide) (by decide) (by decide), pin_lit (heap_old (heap_old (heap_new (by first | rfl | simp)))) rfl (by decide) (by decide) (by decide) (by decide), pin_lit (heap_old (heap_new (by first | rfl | simp))) rfl (by decide) (by decide) (by decide) (by decide)⟩
  case rest =>
    as_aux_lemma =>
    obtain ⟨g8, b1, b2, b3, b4, b5, b6, b7, b8, b9, b10, rfl, hb8, h8, hp1, hp2, hp3, hp4, hp5, hp6, hp7, hp8, hp9, hp10⟩ := hcut
    have HB8 := Lib.hid (bcall HB7.out HB7.out.size hb8)
    have h7 := heap_ext h7 hb8
    have HH8 := Lib.hid h8
    have HH7 := Lib.hid h7
    have HP1 := Lib.hid hp1
    have HP2 := Lib.hid hp2
    have HP3 := Lib.hid hp3
    have HP4 := Lib.hid hp4
    have HP5 := Lib.hid hp5
    have HP6 := Lib.hid hp6
    have HP7 := Lib.hid hp7
    have HP8 := Lib.hid hp8
    have HP9 := Lib.hid hp9
    have HP10 := Lib.hid hp10
    clear hb8 h8 h7 hp1 hp2 hp3 hp4 hp5 hp6 hp7 hp8 hp9 hp10 HB7
    generalize wc = w8 at *
    go_wp2_with fail
    go_loopw [9] (fun s9 wr => ∃ i : Nat, i ≤ 11 ∧ s9 = .int .i64 i ∧ Below w8.heap.size w8 wr) (fun s9 _ => 11 - (intOf s9).toNat)
    case atStart => exact ⟨0, by omega, rfl, Below.refl _ _⟩
    case round =>
      as_aux_lemma =>
      obtain ⟨i, hi, rfl, hB⟩ := hrel
      by_cases hlt : i < 11
      · have HBr := Lib.hid hB
        have hc : i = 0 ∨ i = 1 ∨ i = 2 ∨ i = 3 ∨ i = 4 ∨ i = 5 ∨ i = 6 ∨ i = 7 ∨ i = 8 ∨ i = 9 ∨ i = 10 := by omega
        clear hi hlt hB
        rcases hc with rfl | rfl | rfl | rfl | rfl | rfl | rfl | rfl | rfl | rfl | rfl
        · as_aux_lemma =>
            go_wp2_with fail
            refine wp_region_flow 7 (by kernel_rfl) (by rfl) (fun w0 hb0 => ?_)
            have h8 := heap_ext (heap_ext HH8.out HBr.out) hb0
            refine wpAnyE_go (w0 := w0) (w1 := w0) (X := []) (fun _ h => h) (RK.start _) [1, 2, 3, 4] 3 (by kernel_rfl) ?_
            apply Exists.intro
            refine ⟨fun G hG hN => ?_, ?_⟩
            · have c8 := fun (e : GE (RK w0 w0 []) G) j => cell_of_row e.w _ j _ _ _ (heap_ext h8 e.h.b)
              have z8 := fun (e : GE (RK w0 w0 []) G) => lt_some (heap_ext h8 e.h.b)
              simp only [pickOps, List.getElem?_toArray, List.getElem?_cons_zero, List.getElem?_cons_succ]
              repeat (first | go_big_quiet_step (fail) | quiet_step (fail))
              exact wpQuiet_nil rfl
            refine wpAnyE_all (rs := [0]) (by kernel_rfl) (by simp) (fun W1 hW1 hRW1 i hi => ?_)
            obtain rfl := List.mem_singleton.1 hi
            refine wpOp_step rfl (fun K hK => ?_)
            go_simp
            refine Calls.mono (given_any W1) ?_
            rintro e W2 ⟨A, c, rfl, hF, hbW2⟩
            have hRW2 := hRW1.grow hbW2
            refine hK _ _ ⟨hRW2, ?_⟩
            clear hK K
            refine wpAnyE_go (w0 := w0) (w1 := W2) (X := []) (RK.move hRW2 (by intro g hg; simp at hg)) (RK.here hRW2) [5, 6] 0 (by kernel_rfl) ?_
            apply Exists.intro
            refine ⟨fun G hG hN => ?_, ?_⟩
            · simp only [pickOps, List.getElem?_toArray, List.getElem?_cons_zero, List.getElem?_cons_succ]
              repeat (first | go_big_quiet_step ((first | (go_at_call 12; exact calls_ge (RK.grows _ _ _) hG (bad0_any A c _ _ _ (hF.rk (GE.h _) (by intro g hg; simp at hg)) (⟨Ints.nil_, Nat.le_refl _, by unfold maxLen; omega, by decide, by decide, ⟨by decide, by decide, by decide, by decide⟩⟩))))) | quiet_step ((first | (go_at_call 12; exact calls_ge (RK.grows _ _ _) hG (bad0_any A c _ _ _ (hF.rk (GE.h _) (by intro g hg; simp at hg)) (⟨Ints.nil_, Nat.le_refl _, by unfold maxLen; omega, by decide, by decide, ⟨by decide, by decide, by decide, by decide⟩⟩))))))
              exact wpQuiet_nil rfl
            refine wpAnyE_done (by kernel_rfl) (fun W3 hW3 hRW3 => ?_) _
            refine NoPanic.normal ?_
            have HBN := Lib.hid (bcall HBr.out HBr.out.size (bcall hb0 hb0.size hRW3.b))
            clear h8
            go_wp2_with fail
            exact ⟨⟨1, by omega, rfl, HBN.out⟩, by simp [intOf]⟩
        · as_aux_lemma =>
            go_wp2_with fail
            refine wp_region_flow 7 (by kernel_rfl) (by rfl) (fun w0 hb0 => ?_)
            have h8 := heap_ext (heap_ext HH8.out HBr.out) hb0
            refine wpAnyE_go (w0 := w0) (w1 := w0) (X := []) (fun _ h => h) (RK.start _) [1, 2, 3, 4] 3 (by kernel_rfl) ?_
            apply Exists.intro
            refine ⟨fun G hG hN => ?_, ?_⟩
            · have c8 := fun (e : GE (RK w0 w0 []) G) j => cell_of_row e.w _ j _ _ _ (heap_ext h8 e.h.b)
              have z8 := fun (e : GE (RK w0 w0 []) G) => lt_some (heap_ext h8 e.h.b)
              simp only [pickOps, List.getElem?_toArray, List.getElem?_cons_zero, List.getElem?_cons_succ]
              repeat (first | go_big_quiet_step (fail) | quiet_step (fail))
              exact wpQuiet_nil rfl
            refine wpAnyE_all (rs := [0]) (by kernel_rfl) (by simp) (fun W1 hW1 hRW1 i hi => ?_)
            obtain rfl := List.mem_singleton.1 hi
            refine wpOp_step rfl (fun K hK => ?_)
            go_simp
            refine Calls.mono (given_any W1) ?_
            rintro e W2 ⟨A, c, rfl, hF, hbW2⟩
            have hRW2 := hRW1.grow hbW2
            refine hK _ _ ⟨hRW2, ?_⟩
            clear hK K
            refine wpAnyE_go (w0 := w0) (w1 := W2) (X := []) (RK.move hRW2 (by intro g hg; simp at hg)) (RK.here hRW2) [5, 6] 0 (by kernel_rfl) ?_
            apply Exists.intro
            refine ⟨fun G hG hN => ?_, ?_⟩
            · simp only [pickOps, List.getElem?_toArray, List.getElem?_cons_zero, List.getElem?_cons_succ]
              repeat (first | go_big_quiet_step ((first | (go_at_call 12; exact calls_ge (RK.grows _ _ _) hG (bad1_any A c _ _ _ (hF.rk (GE.h _) (by intro g hg; simp at hg)) (((HP1.out.next HBr.out).next hb0).next (RK.b (GE.h _))))))) | quiet_step ((first | (go_at_call 12; exact calls_ge (RK.grows _ _ _) hG (bad1_any A c _ _ _ (hF.rk (GE.h _) (by intro g hg; simp at hg)) (((HP1.out.next HBr.out).next hb0).next (RK.b (GE.h _))))))))
              exact wpQuiet_nil rfl
            refine wpAnyE_done (by kernel_rfl) (fun W3 hW3 hRW3 => ?_) _
            refine NoPanic.normal ?_
            have HBN := Lib.hid (bcall HBr.out HBr.out.size (bcall hb0 hb0.size hRW3.b))
            clear h8
            go_wp2_with fail
            exact ⟨⟨2, by omega, rfl, HBN.out⟩, by simp [intOf]⟩
        · as_aux_lemma =>
            go_wp2_with fail
            refine wp_region_flow 7 (by kernel_rfl) (by rfl) (fun w0 hb0 => ?_)
            have h8 := heap_ext (heap_ext HH8.out HBr.out) hb0
            refine wpAnyE_go (w0 := w0) (w1 := w0) (X := []) (fun _ h => h) (RK.start _) [1, 2, 3, 4] 3 (by kernel_rfl) ?_
            apply Exists.intro
            refine ⟨fun G hG hN => ?_, ?_⟩
            · have c8 := fun (e : GE (RK w0 w0 []) G) j => cell_of_row e.w _ j _ _ _ (heap_ext h8 e.h.b)
              have z8 := fun (e : GE (RK w0 w0 []) G) => lt_some (heap_ext h8 e.h.b)
              simp only [pickOps, List.getElem?_toArray, List.getElem?_cons_zero, List.getElem?_cons_succ]
              repeat (first | go_big_quiet_step (fail) | quiet_step (fail))
              exact wpQuiet_nil rfl
            refine wpAnyE_all (rs := [0]) (by kernel_rfl) (by simp) (fun W1 hW1 hRW1 i hi => ?_)
            obtain rfl := List.mem_singleton.1 hi
            refine wpOp_step rfl (fun K hK => ?_)
            go_simp
            refine Calls.mono (given_any W1) ?_
            rintro e W2 ⟨A, c, rfl, hF, hbW2⟩
            have hRW2 := hRW1.grow hbW2
            refine hK _ _ ⟨hRW2, ?_⟩
            clear hK K
            refine wpAnyE_go (w0 := w0) (w1 := W2) (X := []) (RK.move hRW2 (by intro g hg; simp at hg)) (RK.here hRW2) [5, 6] 0 (by kernel_rfl) ?_
            apply Exists.intro
            refine ⟨fun G hG hN => ?_, ?_⟩
            · simp only [pickOps, List.getElem?_toArray, List.getElem?_cons_zero, List.getElem?_cons_succ]
              repeat (first | go_big_quiet_step ((first | (go_at_call 12; exact calls_ge (RK.grows _ _ _) hG (bad2_any A c _ _ _ (hF.rk (GE.h _) (by intro g hg; simp at hg)) (((HP2.out.next HBr.out).next hb0).next (RK.b (GE.h _))))))) | quiet_step ((first | (go_at_call 12; exact calls_ge (RK.grows _ _ _) hG (bad2_any A c _ _ _ (hF.rk (GE.h _) (by intro g hg; simp at hg)) (((HP2.out.next HBr.out).next hb0).next (RK.b (GE.h _))))))))
              exact wpQuiet_nil rfl
            refine wpAnyE_done (by kernel_rfl) (fun W3 hW3 hRW3 => ?_) _
            refine NoPanic.normal ?_
            have HBN := Lib.hid (bcall HBr.out HBr.out.size (bcall hb0 hb0.size hRW3.b))
            clear h8
            go_wp2_with fail
            exact ⟨⟨3, by omega, rfl, HBN.out⟩, by simp [intOf]⟩
        · as_aux_lemma =>
            go_wp2_with fail
            refine wp_region_flow 7 (by kernel_rfl) (by rfl) (fun w0 hb0 => ?_)
            have h8 := heap_ext (heap_ext HH8.out HBr.out) hb0
            refine wpAnyE_go (w0 := w0) (w1 := w0) (X := []) (fun _ h => h) (RK.start _) [1, 2, 3, 4] 3 (by kernel_rfl) ?_
            apply Exists.intro
            refine ⟨fun G hG hN => ?_, ?_⟩
            · have c8 := fun (e : GE (RK w0 w0 []) G) j => cell_of_row e.w _ j _ _ _ (heap_ext h8 e.h.b)
              have z8 := fun (e : GE (RK w0 w0 []) G) => lt_some (heap_ext h8 e.h.b)
              simp only [pickOps, List.getElem?_toArray, List.getElem?_cons_zero, List.getElem?_cons_succ]
              repeat (first | go_big_quiet_step (fail) | quiet_step (fail))
              exact wpQuiet_nil rfl
            refine wpAnyE_all (rs := [0]) (by kernel_rfl) (by simp) (fun W1 hW1 hRW1 i hi => ?_)
            obtain rfl := List.mem_singleton.1 hi
            refine wpOp_step rfl (fun K hK => ?_)
            go_simp
            refine Calls.mono (given_any W1) ?_
            rintro e W2 ⟨A, c, rfl, hF, hbW2⟩
            have hRW2 := hRW1.grow hbW2
            refine hK _ _ ⟨hRW2, ?_⟩
            clear hK K
            refine wpAnyE_go (w0 := w0) (w1 := W2) (X := []) (RK.move hRW2 (by intro g hg; simp at hg)) (RK.here hRW2) [5, 6] 0 (by kernel_rfl) ?_
            apply Exists.intro
            refine ⟨fun G hG hN => ?_, ?_⟩
            · simp only [pickOps, List.getElem?_toArray, List.getElem?_cons_zero, List.getElem?_cons_succ]
              repeat (first | go_big_quiet_step ((first | (go_at_call 12; exact calls_ge (RK.grows _ _ _) hG (bad3_any A c _ _ _ (hF.rk (GE.h _) (by intro g hg; simp at hg)) (((HP3.out.next HBr.out).next hb0).next (RK.b (GE.h _))))))) | quiet_step ((first | (go_at_call 12; exact calls_ge (RK.grows _ _ _) hG (bad3_any A c _ _ _ (hF.rk (GE.h _) (by intro g hg; simp at hg)) (((HP3.out.next HBr.out).next hb0).next (RK.b (GE.h _))))))))
              exact wpQuiet_nil rfl
            refine wpAnyE_done (by kernel_rfl) (fun W3 hW3 hRW3 => ?_) _
            refine NoPanic.normal ?_
            have HBN := Lib.hid (bcall HBr.out HBr.out.size (bcall hb0 hb0.size hRW3.b))
            clear h8
            go_wp2_with fail
            exact ⟨⟨4, by omega, rfl, HBN.out⟩, by simp [intOf]⟩
        · as_aux_lemma =>
            go_wp2_with fail
            refine wp_region_flow 7 (by kernel_rfl) (by rfl) (fun w0 hb0 => ?_)
            have h8 := heap_ext (heap_ext HH8.out HBr.out) hb0
            refine wpAnyE_go (w0 := w0) (w1 := w0) (X := []) (fun _ h => h) (RK.start _) [1, 2, 3, 4] 3 (by kernel_rfl) ?_
            apply Exists.intro
            refine ⟨fun G hG hN => ?_, ?_⟩
            · have c8 := fun (e : GE (RK w0 w0 []) G) j => cell_of_row e.w _ j _ _ _ (heap_ext h8 e.h.b)
              have z8 := fun (e : GE (RK w0 w0 []) G) => lt_some (heap_ext h8 e.h.b)
              simp only [pickOps, List.getElem?_toArray, List.getElem?_cons_zero, List.getElem?_cons_succ]
              repeat (first | go_big_quiet_step (fail) | quiet_step (fail))
              exact wpQuiet_nil rfl
            refine wpAnyE_all (rs := [0]) (by kernel_rfl) (by simp) (fun W1 hW1 hRW1 i hi => ?_)
            obtain rfl := List.mem_singleton.1 hi
            refine wpOp_step rfl (fun K hK => ?_)
            go_simp
            refine Calls.mono (given_any W1) ?_
            rintro e W2 ⟨A, c, rfl, hF, hbW2⟩
            have hRW2 := hRW1.grow hbW2
            refine hK _ _ ⟨hRW2, ?_⟩
            clear hK K
            refine wpAnyE_go (w0 := w0) (w1 := W2) (X := []) (RK.move hRW2 (by intro g hg; simp at hg)) (RK.here hRW2) [5, 6] 0 (by kernel_rfl) ?_
            apply Exists.intro
            refine ⟨fun G hG hN => ?_, ?_⟩
            · simp only [pickOps, List.getElem?_toArray, List.getElem?_cons_zero, List.getElem?_cons_succ]
              repeat (first | go_big_quiet_step ((first | (go_at_call 12; exact calls_ge (RK.grows _ _ _) hG (bad4_any A c _ _ _ (hF.rk (GE.h _) (by intro g hg; simp at hg)) (((HP4.out.next HBr.out).next hb0).next (RK.b (GE.h _))))))) | quiet_step ((first | (go_at_call 12; exact calls_ge (RK.grows _ _ _) hG (bad4_any A c _ _ _ (hF.rk (GE.h _) (by intro g hg; simp at hg)) (((HP4.out.next HBr.out).next hb0).next (RK.b (GE.h _))))))))
              exact wpQuiet_nil rfl
            refine wpAnyE_done (by kernel_rfl) (fun W3 hW3 hRW3 => ?_) _
            refine NoPanic.normal ?_
            have HBN := Lib.hid (bcall HBr.out HBr.out.size (bcall hb0 hb0.size hRW3.b))
            clear h8
            go_wp2_with fail
            exact ⟨⟨5, by omega, rfl, HBN.out⟩, by simp [intOf]⟩
        · as_aux_lemma =>
            go_wp2_with fail
            refine wp_region_flow 7 (by kernel_rfl) (by rfl) (fun w0 hb0 => ?_)
            have h8 := heap_ext (heap_ext HH8.out HBr.out) hb0
            refine wpAnyE_go (w0 := w0) (w1 := w0) (X := []) (fun _ h => h) (RK.start _) [1, 2, 3, 4] 3 (by kernel_rfl) ?_
            apply Exists.intro
            refine ⟨fun G hG hN => ?_, ?_⟩
            · have c8 := fun (e : GE (RK w0 w0 []) G) j => cell_of_row e.w _ j _ _ _ (heap_ext h8 e.h.b)
              have z8 := fun (e : GE (RK w0 w0 []) G) => lt_some (heap_ext h8 e.h.b)
              simp only [pickOps, List.getElem?_toArray, List.getElem?_cons_zero, List.getElem?_cons_succ]
              repeat (first | go_big_quiet_step (fail) | quiet_step (fail))
              exact wpQuiet_nil rfl
            refine wpAnyE_all (rs := [0]) (by kernel_rfl) (by simp) (fun W1 hW1 hRW1 i hi => ?_)
            obtain rfl := List.mem_singleton.1 hi
            refine wpOp_step rfl (fun K hK => ?_)
            go_simp
            refine Calls.mono (given_any W1) ?_
            rintro e W2 ⟨A, c, rfl, hF, hbW2⟩
            have hRW2 := hRW1.grow hbW2
            refine hK _ _ ⟨hRW2, ?_⟩
            clear hK K
            refine wpAnyE_go (w0 := w0) (w1 := W2) (X := []) (RK.move hRW2 (by intro g hg; simp at hg)) (RK.here hRW2) [5, 6] 0 (by kernel_rfl) ?_
            apply Exists.intro
            refine ⟨fun G hG hN => ?_, ?_⟩
            · simp only [pickOps, List.getElem?_toArray, List.getElem?_cons_zero, List.getElem?_cons_succ]
              repeat (first | go_big_quiet_step ((first | (go_at_call 12; exact calls_ge (RK.grows _ _ _) hG (bad5_any A c _ _ _ (hF.rk (GE.h _) (by intro g hg; simp at hg)) (((HP5.out.next HBr.out).next hb0).next (RK.b (GE.h _))))))) | quiet_step ((first | (go_at_call 12; exact calls_ge (RK.grows _ _ _) hG (bad5_any A c _ _ _ (hF.rk (GE.h _) (by intro g hg; simp at hg)) (((HP5.out.next HBr.out).next hb0).next (RK.b (GE.h _))))))))
              exact wpQuiet_nil rfl
            refine wpAnyE_done (by kernel_rfl) (fun W3 hW3 hRW3 => ?_) _
            refine NoPanic.normal ?_
            have HBN := Lib.hid (bcall HBr.out HBr.out.size (bcall hb0 hb0.size hRW3.b))
            clear h8
            go_wp2_with fail
            exact ⟨⟨6, by omega, rfl, HBN.out⟩, by simp [intOf]⟩
        · as_aux_lemma =>
            go_wp2_with fail
            refine wp_region_flow 7 (by kernel_rfl) (by rfl) (fun w0 hb0 => ?_)
            have h8 := heap_ext (heap_ext HH8.out HBr.out) hb0
            refine wpAnyE_go (w0 := w0) (w1 := w0) (X := []) (fun _ h => h) (RK.start _) [1, 2, 3, 4] 3 (by kernel_rfl) ?_
            apply Exists.intro
            refine ⟨fun G hG hN => ?_, ?_⟩
            · have c8 := fun (e : GE (RK w0 w0 []) G) j => cell_of_row e.w _ j _ _ _ (heap_ext h8 e.h.b)
              have z8 := fun (e : GE (RK w0 w0 []) G) => lt_some (heap_ext h8 e.h.b)
              simp only [pickOps, List.getElem?_toArray, List.getElem?_cons_zero, List.getElem?_cons_succ]
              repeat (first | go_big_quiet_step (fail) | quiet_step (fail))
              exact wpQuiet_nil rfl
            refine wpAnyE_all (rs := [0]) (by kernel_rfl) (by simp) (fun W1 hW1 hRW1 i hi => ?_)
            obtain rfl := List.mem_singleton.1 hi
            refine wpOp_step rfl (fun K hK => ?_)
            go_simp
            refine Calls.mono (given_any W1) ?_
            rintro e W2 ⟨A, c, rfl, hF, hbW2⟩
            have hRW2 := hRW1.grow hbW2
            refine hK _ _ ⟨hRW2, ?_⟩
            clear hK K
            refine wpAnyE_go (w0 := w0) (w1 := W2) (X := []) (RK.move hRW2 (by intro g hg; simp at hg)) (RK.here hRW2) [5, 6] 0 (by kernel_rfl) ?_
            apply Exists.intro
            refine ⟨fun G hG hN => ?_, ?_⟩
            · simp only [pickOps, List.getElem?_toArray, List.getElem?_cons_zero, List.getElem?_cons_succ]
              repeat (first | go_big_quiet_step ((first | (go_at_call 12; exact calls_ge (RK.grows _ _ _) hG (bad6_any A c _ _ _ (hF.rk (GE.h _) (by intro g hg; simp at hg)) (((HP6.out.next HBr.out).next hb0).next (RK.b (GE.h _))))))) | quiet_step ((first | (go_at_call 12; exact calls_ge (RK.grows _ _ _) hG (bad6_any A c _ _ _ (hF.rk (GE.h _) (by intro g hg; simp at hg)) (((HP6.out.next HBr.out).next hb0).next (RK.b (GE.h _))))))))
              exact wpQuiet_nil rfl
            refine wpAnyE_done (by kernel_rfl) (fun W3 hW3 hRW3 => ?_) _
            refine NoPanic.normal ?_
            have HBN := Lib.hid (bcall HBr.out HBr.out.size (bcall hb0 hb0.size hRW3.b))
            clear h8
            go_wp2_with fail
            exact ⟨⟨7, by omega, rfl, HBN.out⟩, by simp [intOf]⟩
        · as_aux_lemma =>
            go_wp2_with fail
            refine wp_region_flow 7 (by kernel_rfl) (by rfl) (fun w0 hb0 => ?_)
            have h8 := heap_ext (heap_ext HH8.out HBr.out) hb0
            refine wpAnyE_go (w0 := w0) (w1 := w0) (X := []) (fun _ h => h) (RK.start _) [1, 2, 3, 4] 3 (by kernel_rfl) ?_
            apply Exists.intro
            refine ⟨fun G hG hN => ?_, ?_⟩
            · have c8 := fun (e : GE (RK w0 w0 []) G) j => cell_of_row e.w _ j _ _ _ (heap_ext h8 e.h.b)
              have z8 := fun (e : GE (RK w0 w0 []) G) => lt_some (heap_ext h8 e.h.b)
              simp only [pickOps, List.getElem?_toArray, List.getElem?_cons_zero, List.getElem?_cons_succ]
              repeat (first | go_big_quiet_step (fail) | quiet_step (fail))
              exact wpQuiet_nil rfl
            refine wpAnyE_all (rs := [0]) (by kernel_rfl) (by simp) (fun W1 hW1 hRW1 i hi => ?_)
            obtain rfl := List.mem_singleton.1 hi
            refine wpOp_step rfl (fun K hK => ?_)
            go_simp
            refine Calls.mono (given_any W1) ?_
            rintro e W2 ⟨A, c, rfl, hF, hbW2⟩
            have hRW2 := hRW1.grow hbW2
            refine hK _ _ ⟨hRW2, ?_⟩
            clear hK K
            refine wpAnyE_go (w0 := w0) (w1 := W2) (X := []) (RK.move hRW2 (by intro g hg; simp at hg)) (RK.here hRW2) [5, 6] 0 (by kernel_rfl) ?_
            apply Exists.intro
            refine ⟨fun G hG hN => ?_, ?_⟩
            · simp only [pickOps, List.getElem?_toArray, List.getElem?_cons_zero, List.getElem?_cons_succ]
              repeat (first | go_big_quiet_step ((first | (go_at_call 12; exact calls_ge (RK.grows _ _ _) hG (bad7_any A c _ _ _ (hF.rk (GE.h _) (by intro g hg; simp at hg)) (((HP7.out.next HBr.out).next hb0).next (RK.b (GE.h _))))))) | quiet_step ((first | (go_at_call 12; exact calls_ge (RK.grows _ _ _) hG (bad7_any A c _ _ _ (hF.rk (GE.h _) (by intro g hg; simp at hg)) (((HP7.out.next HBr.out).next hb0).next (RK.b (GE.h _))))))))
              exact wpQuiet_nil rfl
            refine wpAnyE_done (by kernel_rfl) (fun W3 hW3 hRW3 => ?_) _
            refine NoPanic.normal ?_
            have HBN := Lib.hid (bcall HBr.out HBr.out.size (bcall hb0 hb0.size hRW3.b))
            clear h8
            go_wp2_with fail
            exact ⟨⟨8, by omega, rfl, HBN.out⟩, by simp [intOf]⟩
        · as_aux_lemma =>
            go_wp2_with fail
            refine wp_region_flow 7 (by kernel_rfl) (by rfl) (fun w0 hb0 => ?_)
            have h8 := heap_ext (heap_ext HH8.out HBr.out) hb0
            refine wpAnyE_go (w0 := w0) (w1 := w0) (X := []) (fun _ h => h) (RK.start _) [1, 2, 3, 4] 3 (by kernel_rfl) ?_
            apply Exists.intro
            refine ⟨fun G hG hN => ?_, ?_⟩
            · have c8 := fun (e : GE (RK w0 w0 []) G) j => cell_of_row e.w _ j _ _ _ (heap_ext h8 e.h.b)
              have z8 := fun (e : GE (RK w0 w0 []) G) => lt_some (heap_ext h8 e.h.b)
              simp only [pickOps, List.getElem?_toArray, List.getElem?_cons_zero, List.getElem?_cons_succ]
              repeat (first | go_big_quiet_step (fail) | quiet_step (fail))
              exact wpQuiet_nil rfl
            refine wpAnyE_all (rs := [0]) (by kernel_rfl) (by simp) (fun W1 hW1 hRW1 i hi => ?_)
            obtain rfl := List.mem_singleton.1 hi
            refine wpOp_step rfl (fun K hK => ?_)
            go_simp
            refine Calls.mono (given_any W1) ?_
            rintro e W2 ⟨A, c, rfl, hF, hbW2⟩
            have hRW2 := hRW1.grow hbW2
            refine hK _ _ ⟨hRW2, ?_⟩
            clear hK K
            refine wpAnyE_go (w0 := w0) (w1 := W2) (X := []) (RK.move hRW2 (by intro g hg; simp at hg)) (RK.here hRW2) [5, 6] 0 (by kernel_rfl) ?_
            apply Exists.intro
            refine ⟨fun G hG hN => ?_, ?_⟩
            · simp only [pickOps, List.getElem?_toArray, List.getElem?_cons_zero, List.getElem?_cons_succ]
              repeat (first | go_big_quiet_step ((first | (go_at_call 12; exact calls_ge (RK.grows _ _ _) hG (bad8_any A c _ _ _ (hF.rk (GE.h _) (by intro g hg; simp at hg)) (((HP8.out.next HBr.out).next hb0).next (RK.b (GE.h _))))))) | quiet_step ((first | (go_at_call 12; exact calls_ge (RK.grows _ _ _) hG (bad8_any A c _ _ _ (hF.rk (GE.h _) (by intro g hg; simp at hg)) (((HP8.out.next HBr.out).next hb0).next (RK.b (GE.h _))))))))
              exact wpQuiet_nil rfl
            refine wpAnyE_done (by kernel_rfl) (fun W3 hW3 hRW3 => ?_) _
            refine NoPanic.normal ?_
            have HBN := Lib.hid (bcall HBr.out HBr.out.size (bcall hb0 hb0.size hRW3.b))
            clear h8
            go_wp2_with fail
            exact ⟨⟨9, by omega, rfl, HBN.out⟩, by simp [intOf]⟩
        · as_aux_lemma =>
            go_wp2_with fail
            refine wp_region_flow 7 (by kernel_rfl) (by rfl) (fun w0 hb0 => ?_)
            have h8 := heap_ext (heap_ext HH8.out HBr.out) hb0
            refine wpAnyE_go (w0 := w0) (w1 := w0) (X := []) (fun _ h => h) (RK.start _) [1, 2, 3, 4] 3 (by kernel_rfl) ?_
            apply Exists.intro
            refine ⟨fun G hG hN => ?_, ?_⟩
            · have c8 := fun (e : GE (RK w0 w0 []) G) j => cell_of_row e.w _ j _ _ _ (heap_ext h8 e.h.b)
              have z8 := fun (e : GE (RK w0 w0 []) G) => lt_some (heap_ext h8 e.h.b)
              simp only [pickOps, List.getElem?_toArray, List.getElem?_cons_zero, List.getElem?_cons_succ]
              repeat (first | go_big_quiet_step (fail) | quiet_step (fail))
              exact wpQuiet_nil rfl
            refine wpAnyE_all (rs := [0]) (by kernel_rfl) (by simp) (fun W1 hW1 hRW1 i hi => ?_)
            obtain rfl := List.mem_singleton.1 hi
            refine wpOp_step rfl (fun K hK => ?_)
            go_simp
            refine Calls.mono (given_any W1) ?_
            rintro e W2 ⟨A, c, rfl, hF, hbW2⟩
            have hRW2 := hRW1.grow hbW2
            refine hK _ _ ⟨hRW2, ?_⟩
            clear hK K
            refine wpAnyE_go (w0 := w0) (w1 := W2) (X := []) (RK.move hRW2 (by intro g hg; simp at hg)) (RK.here hRW2) [5, 6] 0 (by kernel_rfl) ?_
            apply Exists.intro
            refine ⟨fun G hG hN => ?_, ?_⟩
            · simp only [pickOps, List.getElem?_toArray, List.getElem?_cons_zero, List.getElem?_cons_succ]
              repeat (first | go_big_quiet_step ((first | (go_at_call 12; exact calls_ge (RK.grows _ _ _) hG (bad9_any A c _ _ _ (hF.rk (GE.h _) (by intro g hg; simp at hg)) (((HP9.out.next HBr.out).next hb0).next (RK.b (GE.h _))))))) | quiet_step ((first | (go_at_call 12; exact calls_ge (RK.grows _ _ _) hG (bad9_any A c _ _ _ (hF.rk (GE.h _) (by intro g hg; simp at hg)) (((HP9.out.next HBr.out).next hb0).next (RK.b (GE.h _))))))))
              exact wpQuiet_nil rfl
            refine wpAnyE_done (by kernel_rfl) (fun W3 hW3 hRW3 => ?_) _
            refine NoPanic.normal ?_
            have HBN := Lib.hid (bcall HBr.out HBr.out.size (bcall hb0 hb0.size hRW3.b))
            clear h8
            go_wp2_with fail
            exact ⟨⟨10, by omega, rfl, HBN.out⟩, by simp [intOf]⟩
        · as_aux_lemma =>
            go_wp2_with fail
            refine wp_region_flow 7 (by kernel_rfl) (by rfl) (fun w0 hb0 => ?_)
            have h8 := heap_ext (heap_ext HH8.out HBr.out) hb0
            refine wpAnyE_go (w0 := w0) (w1 := w0) (X := []) (fun _ h => h) (RK.start _) [1, 2, 3, 4] 3 (by kernel_rfl) ?_
            apply Exists.intro
            refine ⟨fun G hG hN => ?_, ?_⟩
            · have c8 := fun (e : GE (RK w0 w0 []) G) j => cell_of_row e.w _ j _ _ _ (heap_ext h8 e.h.b)
              have z8 := fun (e : GE (RK w0 w0 []) G) => lt_some (heap_ext h8 e.h.b)
              simp only [pickOps, List.getElem?_toArray, List.getElem?_cons_zero, List.getElem?_cons_succ]
              repeat (first | go_big_quiet_step (fail) | quiet_step (fail))
              exact wpQuiet_nil rfl
            refine wpAnyE_all (rs := [0]) (by kernel_rfl) (by simp) (fun W1 hW1 hRW1 i hi => ?_)
            obtain rfl := List.mem_singleton.1 hi
            refine wpOp_step rfl (fun K hK => ?_)
            go_simp
            refine Calls.mono (given_any W1) ?_
            rintro e W2 ⟨A, c, rfl, hF, hbW2⟩
            have hRW2 := hRW1.grow hbW2
            refine hK _ _ ⟨hRW2, ?_⟩
            clear hK K
            refine wpAnyE_go (w0 := w0) (w1 := W2) (X := []) (RK.move hRW2 (by intro g hg; simp at hg)) (RK.here hRW2) [5, 6] 0 (by kernel_rfl) ?_
            apply Exists.intro
            refine ⟨fun G hG hN => ?_, ?_⟩
            · simp only [pickOps, List.getElem?_toArray, List.getElem?_cons_zero, List.getElem?_cons_succ]
              repeat (first | go_big_quiet_step ((first | (go_at_call 12; exact calls_ge (RK.grows _ _ _) hG (bad10_any A c _ _ _ (hF.rk (GE.h _) (by intro g hg; simp at hg)) (((HP10.out.next HBr.out).next hb0).next (RK.b (GE.h _))))))) | quiet_step ((first | (go_at_call 12; exact calls_ge (RK.grows _ _ _) hG (bad10_any A c _ _ _ (hF.rk (GE.h _) (by intro g hg; simp at hg)) (((HP10.out.next HBr.out).next hb0).next (RK.b (GE.h _))))))))
              exact wpQuiet_nil rfl
            refine wpAnyE_done (by kernel_rfl) (fun W3 hW3 hRW3 => ?_) _
            refine NoPanic.normal ?_
            have HBN := Lib.hid (bcall HBr.out HBr.out.size (bcall hb0 hb0.size hRW3.b))
            clear h8
            go_wp2_with fail
            exact ⟨⟨11, by omega, rfl, HBN.out⟩, by simp [intOf]⟩
      · obtain rfl : i = 11 := by omega
        have HB9 := Lib.hid (bcall HB8.out HB8.out.size hB)
        have h7 := heap_ext HH7.out hB
        clear hB HB8 HH7 HH8 HP1 HP2 HP3 HP4 HP5 HP6 HP7 HP8 HP9 HP10 hi hlt
        go_wp2_with fail
        go_cut [10, 11, 12] (fun s3 s4 s5 wx => ∃ g3 g4, s3 = .pointer (some ⟨g3, 0, none⟩) ∧ s4 = .pointer (some ⟨g4, 0, none⟩) ∧ s5 = .int .i64 0 ∧ Below wr.heap.size wr wx ∧ wx.heap[g3]? = some (rB ⟨6, 1⟩) ∧ wx.heap[g4]? = some (rB ⟨6, 1⟩))
        case first =>
          refine wp_region_flow 14 (by kernel_rfl) (by rfl) (fun w0 hb0 => ?_)
          have hk := heap_ext h7 hb0
          refine wpAnyE_go (w0 := w0) (w1 := w0) (X := []) (fun _ h => h) (RK.start _) [2] 13 (by kernel_rfl) ?_
          apply Exists.intro
          refine ⟨fun G hG hN => ?_, ?_⟩
          · have cg := fun (e : GE (RK w0 w0 []) G) j => cell_of_row e.w _ j _ _ _ (heap_ext hk e.h.b)
            have zg := fun (e : GE (RK w0 w0 []) G) => lt_some (heap_ext hk e.h.b)
            simp only [pickOps, List.getElem?_toArray, List.getElem?_cons_zero, List.getElem?_cons_succ]
            repeat (first | go_big_quiet_step (fail) | quiet_step (fail))
            exact wpQuiet_nil rfl
          refine wpAnyE_all (rs := [0, 1, 9, 10]) (by kernel_rfl) (by simp) (fun W1 hW1 hRW1 i hi => ?_)
          rcases List.mem_cons.1 hi with rfl | hi
          · refine wpOp_step rfl (fun K hK => ?_)
            go_simp
            refine Calls.mono (given_any W1) ?_
            rintro e W2 ⟨A, c, rfl, hF, hbW2⟩
            have hRW2 := hRW1.grow hbW2
            refine hK _ _ ⟨hRW2, ?_⟩
            clear hK K
            have hbG := Below.refl W2.heap.size W2
            refine wpAnyE_all (rs := [1, 9, 10]) (by kernel_rfl) (by simp) (fun W3 hW3 hRW3 i hi => ?_)
            have hbG := bcall hbG hbG.size hW3
            rcases List.mem_cons.1 hi with rfl | hi
            · refine wpOp_step rfl (fun K hK => ?_)
              go_simp
              refine hK _ _ ⟨hRW3.grow (one_alloc _ _), ?_⟩
              clear hK K
              have lw1 := hbG.size
              have hbG := hbG.alloc hbG.size (Obj.cells #[.int .i64 0, .int .i64 0, .int .i64 1] 3)
              have lS := heap_new (w := W3) (o := (Obj.cells #[.int .i64 0, .int .i64 0, .int .i64 1] 3)) rfl
              have hz1 : w0.heap.size ≤ W3.heap.size := hRW3.b.size
              have hRS := (hRW3.grow (one_alloc W3 (Obj.cells #[.int .i64 0, .int .i64 0, .int .i64 1] 3)))
              refine wpAnyE_go (w0 := w0) (w1 := (W3.alloc (Obj.cells #[.int .i64 0, .int .i64 0, .int .i64 1] 3))) (X := []) (RK.move hRS (by intro g hg; simp at hg)) (RK.here hRS) [3, 4, 5, 6, 7, 8] 5 (by kernel_rfl) ?_
              apply Exists.intro
              refine ⟨fun G hG hN => ?_, ?_⟩
              · simp only [pickOps, List.getElem?_toArray, List.getElem?_cons_zero, List.getElem?_cons_succ]
                repeat (first | go_big_quiet_step ((first | (go_at_call 10; exact calls_ge (RK.grows _ _ _) hG (half_values A c (some ⟨W3.heap.size, 0, none⟩) 3 _ (hF.rk2 hbG (GE.h _) (by intro g hg; simp at hg)) (pin_lit (RK.at (GE.h _) lS (by simp)) rfl (by decide) (by decide) (by decide) (by decide)))))) | quiet_step ((first | (go_at_call 10; exact calls_ge (RK.grows _ _ _) hG (half_values A c (some ⟨W3.heap.size, 0, none⟩) 3 _ (hF.rk2 hbG (GE.h _) (by intro g hg; simp at hg)) (pin_lit (RK.at (GE.h _) lS (by simp)) rfl (by decide) (by decide) (by decide) (by decide)))))))
                exact wpQuiet_nil rfl
              refine wpAnyE_all (rs := [9, 10]) (by kernel_rfl) (by simp) (fun W4 hW4 hRW4 i hi => ?_)
              have lS := heap_ext lS hW4
              have hbG := bcall hbG hbG.size hW4
              rcases List.mem_cons.1 hi with rfl | hi
              · refine wpOp_step rfl (fun K hK => ?_)
                go_simp
                refine hK _ _ ⟨hRW4.grow (one_alloc _ _), ?_⟩
                clear hK K
                have lylS := lt_some lS
                have lw9 := hbG.size
                have lS := heap_old (o' := (Obj.cells #[.int .i64 0, .int .i64 0] 27)) lS
                have hbG := hbG.alloc hbG.size (Obj.cells #[.int .i64 0, .int .i64 0] 27)
                have hx9 := heap_new (w := W4) (o := (Obj.cells #[.int .i64 0, .int .i64 0] 27)) rfl
                have hz9 : w0.heap.size ≤ W4.heap.size := hRW4.b.size
                have hg9 : (W3.alloc (Obj.cells #[.int .i64 0, .int .i64 0, .int .i64 1] 3)).heap.size ≤ W4.heap.size := hRW4.s
                refine wpAnyE_all (rs := [10]) (by kernel_rfl) (by simp) (fun W5 hW5 hRW5 i hi => ?_)
                have hx9 := heap_ext hx9 hW5
                have lS := heap_ext lS hW5
                have hbG := bcall hbG hbG.size hW5
                obtain rfl := List.mem_singleton.1 hi
                refine wpOp_step rfl (fun K hK => ?_)
                go_simp
                refine hK _ _ ⟨hRW5.grow (one_alloc _ _), ?_⟩
                clear hK K
                have lyhx9 := lt_some hx9
                have lylS := lt_some lS
                have lw10 := hbG.size
                have hx9 := heap_old (o' := (Obj.cells #[.int .i64 0, .int .i64 0] 27)) hx9
                have lS := heap_old (o' := (Obj.cells #[.int .i64 0, .int .i64 0] 27)) lS
                have hbG := hbG.alloc hbG.size (Obj.cells #[.int .i64 0, .int .i64 0] 27)
                have hx10 := heap_new (w := W5) (o := (Obj.cells #[.int .i64 0, .int .i64 0] 27)) rfl
                have hz10 : w0.heap.size ≤ W5.heap.size := hRW5.b.size
                have hg10 : (W3.alloc (Obj.cells #[.int .i64 0, .int .i64 0, .int .i64 1] 3)).heap.size ≤ W5.heap.size := hRW5.s
                have hne : W4.heap.size ≠ W5.heap.size := by have := lt_some hx9; have := lyhx9; omega
                refine wpAnyE_all (rs := [11]) (by kernel_rfl) (by simp) (fun W6 hW6 hRW6 i hi => ?_)
                obtain rfl := List.mem_singleton.1 hi
                have hx9 := heap_ext hx9 hW6
                have hx10 := heap_ext hx10 hW6
                have ck := fun j => cell_of_row _ _ j _ _ _ hx9
                have fk := fun j => frozen_of_row _ _ j _ _ hx9
                refine wpOp_step rfl (fun K hK => ?_)
                go_simp
                refine hK _ _ ⟨(hRW6.set hz9 (by first | exact Or.inr hg9 | simp)).set hz9 (by first | exact Or.inr hg9 | simp), ?_⟩
                clear hK K
                clear ck fk
                have hx10 := heap_set_ne2 (g := W4.heap.size) (j := 0) (j2 := 1) (u := .int .i64 ((Rt.mk 6 1)).n) (u2 := .int .i64 ((Rt.mk 6 1)).d) (by first | exact hne | exact Ne.symm hne) hx10
                have hx9 := heap_set2 (u := .int .i64 ((Rt.mk 6 1)).n) (u2 := .int .i64 ((Rt.mk 6 1)).d) hx9
                refine wpAnyE_all (rs := [12]) (by kernel_rfl) (by simp) (fun W7 hW7 hRW7 i hi => ?_)
                obtain rfl := List.mem_singleton.1 hi
                have hx9 := heap_ext hx9 hW7
                have hx10 := heap_ext hx10 hW7
                have ck := fun j => cell_of_row _ _ j _ _ _ hx10
                have fk := fun j => frozen_of_row _ _ j _ _ hx10
                refine wpOp_step rfl (fun K hK => ?_)
                go_simp
                refine hK _ _ ⟨(hRW7.set hz10 (by first | exact Or.inr hg10 | simp)).set hz10 (by first | exact Or.inr hg10 | simp), ?_⟩
                clear hK K
                clear ck fk
                have hx9 := heap_set_ne2 (g := W5.heap.size) (j := 0) (j2 := 1) (u := .int .i64 ((Rt.mk 6 1)).n) (u2 := .int .i64 ((Rt.mk 6 1)).d) (by first | exact hne | exact Ne.symm hne) hx9
                have hx10 := heap_set2 (u := .int .i64 ((Rt.mk 6 1)).n) (u2 := .int .i64 ((Rt.mk 6 1)).d) hx10
                refine wpAnyE_all (rs := [13]) (by kernel_rfl) (by simp) (fun W8 hW8 hRW8 i hi => ?_)
                obtain rfl := List.mem_singleton.1 hi
                have hx9 := heap_ext hx9 hW8
                have hx10 := heap_ext hx10 hW8
                refine wpOp_step rfl (fun K hK => ?_)
                go_simp
                refine hK _ _ ⟨hRW8, ?_⟩
                clear hK K
                refine wpAnyE_done (by kernel_rfl) (fun W9 hW9 hRW9 => ?_) _
                refine NoPanic.normal ?_
                have hx9 := heap_ext hx9 hW9
                have hx10 := heap_ext hx10 hW9
                go_wp2_with fail
                go_meet
                exact ⟨_, _, rfl, rfl, rfl, bcall hb0 hb0.size hRW9.b, hx9, hx10⟩
              · obtain rfl := List.mem_singleton.1 hi
                refine wpOp_step rfl (fun K hK => ?_)
                go_simp
                refine hK _ _ ⟨hRW4.grow (one_alloc _ _), ?_⟩
                clear hK K
                have lylS := lt_some lS
                have lw10 := hbG.size
                have lS := heap_old (o' := (Obj.cells #[.int .i64 0, .int .i64 0] 27)) lS
                have hbG := hbG.alloc hbG.size (Obj.cells #[.int .i64 0, .int .i64 0] 27)
                have hx10 := heap_new (w := W4) (o := (Obj.cells #[.int .i64 0, .int .i64 0] 27)) rfl
                have hz10 : w0.heap.size ≤ W4.heap.size := hRW4.b.size
                have hg10 : (W3.alloc (Obj.cells #[.int .i64 0, .int .i64 0, .int .i64 1] 3)).heap.size ≤ W4.heap.size := hRW4.s
                refine wpAnyE_all (rs := [9]) (by kernel_rfl) (by simp) (fun W10 hW10 hRW10 i hi => ?_)
                have hx10 := heap_ext hx10 hW10
                have lS := heap_ext lS hW10
                have hbG := bcall hbG hbG.size hW10
                obtain rfl := List.mem_singleton.1 hi
                refine wpOp_step rfl (fun K hK => ?_)
                go_simp
                refine hK _ _ ⟨hRW10.grow (one_alloc _ _), ?_⟩
                clear hK K
                have lyhx10 := lt_some hx10
                have lylS := lt_some lS
                have lw9 := hbG.size
                have hx10 := heap_old (o' := (Obj.cells #[.int .i64 0, .int .i64 0] 27)) hx10
                have lS := heap_old (o' := (Obj.cells #[.int .i64 0, .int .i64 0] 27)) lS
                have hbG := hbG.alloc hbG.size (Obj.cells #[.int .i64 0, .int .i64 0] 27)
                have hx9 := heap_new (w := W10) (o := (Obj.cells #[.int .i64 0, .int .i64 0] 27)) rfl
                have hz9 : w0.heap.size ≤ W10.heap.size := hRW10.b.size
                have hg9 : (W3.alloc (Obj.cells #[.int .i64 0, .int .i64 0, .int .i64 1] 3)).heap.size ≤ W10.heap.size := hRW10.s
                have hne : W4.heap.size ≠ W10.heap.size := by have := lt_some hx10; have := lyhx10; omega
                refine wpAnyE_all (rs := [11]) (by kernel_rfl) (by simp) (fun W11 hW11 hRW11 i hi => ?_)
                obtain rfl := List.mem_singleton.1 hi
                have hx9 := heap_ext hx9 hW11
                have hx10 := heap_ext hx10 hW11
                have ck := fun j => cell_of_row _ _ j _ _ _ hx9
                have fk := fun j => frozen_of_row _ _ j _ _ hx9
                refine wpOp_step rfl (fun K hK => ?_)
                go_simp
                refine hK _ _ ⟨(hRW11.set hz9 (by first | exact Or.inr hg9 | simp)).set hz9 (by first | exact Or.inr hg9 | simp), ?_⟩
                clear hK K
                clear ck fk
                have hx10 := heap_set_ne2 (g := W10.heap.size) (j := 0) (j2 := 1) (u := .int .i64 ((Rt.mk 6 1)).n) (u2 := .int .i64 ((Rt.mk 6 1)).d) (by first | exact hne | exact Ne.symm hne) hx10
                have hx9 := heap_set2 (u := .int .i64 ((Rt.mk 6 1)).n) (u2 := .int .i64 ((Rt.mk 6 1)).d) hx9
                refine wpAnyE_all (rs := [12]) (by kernel_rfl) (by simp) (fun W12 hW12 hRW12 i hi => ?_)
                obtain rfl := List.mem_singleton.1 hi
                have hx9 := heap_ext hx9 hW12
                have hx10 := heap_ext hx10 hW12
                have ck := fun j => cell_of_row _ _ j _ _ _ hx10
                have fk := fun j => frozen_of_row _ _ j _ _ hx10
                refine wpOp_step rfl (fun K hK => ?_)
                go_simp
                refine hK _ _ ⟨(hRW12.set hz10 (by first | exact Or.inr hg10 | simp)).set hz10 (by first | exact Or.inr hg10 | simp), ?_⟩
                clear hK K
                clear ck fk
                have hx9 := heap_set_ne2 (g := W4.heap.size) (j := 0) (j2 := 1) (u := .int .i64 ((Rt.mk 6 1)).n) (u2 := .int .i64 ((Rt.mk 6 1)).d) (by first | exact hne | exact Ne.symm hne) hx9
                have hx10 := heap_set2 (u := .int .i64 ((Rt.mk 6 1)).n) (u2 := .int .i64 ((Rt.mk 6 1)).d) hx10
                refine wpAnyE_all (rs := [13]) (by kernel_rfl) (by simp) (fun W13 hW13 hRW13 i hi => ?_)
                obtain rfl := List.mem_singleton.1 hi
                have hx9 := heap_ext hx9 hW13
                have hx10 := heap_ext hx10 hW13
                refine wpOp_step rfl (fun K hK => ?_)
                go_simp
                refine hK _ _ ⟨hRW13, ?_⟩
                clear hK K
                refine wpAnyE_done (by kernel_rfl) (fun W14 hW14 hRW14 => ?_) _
                refine NoPanic.normal ?_
                have hx9 := heap_ext hx9 hW14
                have hx10 := heap_ext hx10 hW14
                go_wp2_with fail
                go_meet
                exact ⟨_, _, rfl, rfl, rfl, bcall hb0 hb0.size hRW14.b, hx9, hx10⟩
            · rcases List.mem_cons.1 hi with rfl | hi
              · refine wpOp_step rfl (fun K hK => ?_)
                go_simp
                refine hK _ _ ⟨hRW3.grow (one_alloc _ _), ?_⟩
                clear hK K
                have lw9 := hbG.size
                have hbG := hbG.alloc hbG.size (Obj.cells #[.int .i64 0, .int .i64 0] 27)
                have hx9 := heap_new (w := W3) (o := (Obj.cells #[.int .i64 0, .int .i64 0] 27)) rfl
                have hz9 : w0.heap.size ≤ W3.heap.size := hRW3.b.size
                refine wpAnyE_all (rs := [1, 10]) (by kernel_rfl) (by simp) (fun W15 hW15 hRW15 i hi => ?_)
                have hx9 := heap_ext hx9 hW15
                have hbG := bcall hbG hbG.size hW15
                rcases List.mem_cons.1 hi with rfl | hi
                · refine wpOp_step rfl (fun K hK => ?_)
                  go_simp
                  refine hK _ _ ⟨hRW15.grow (one_alloc _ _), ?_⟩
                  clear hK K
                  have lyhx9 := lt_some hx9
                  have lw1 := hbG.size
                  have hx9 := heap_old (o' := (Obj.cells #[.int .i64 0, .int .i64 0, .int .i64 1] 3)) hx9
                  have hbG := hbG.alloc hbG.size (Obj.cells #[.int .i64 0, .int .i64 0, .int .i64 1] 3)
                  have lS := heap_new (w := W15) (o := (Obj.cells #[.int .i64 0, .int .i64 0, .int .i64 1] 3)) rfl
                  have hz1 : w0.heap.size ≤ W15.heap.size := hRW15.b.size
                  have hRS := (hRW15.grow (one_alloc W15 (Obj.cells #[.int .i64 0, .int .i64 0, .int .i64 1] 3)))
                  refine wpAnyE_go (w0 := w0) (w1 := (W15.alloc (Obj.cells #[.int .i64 0, .int .i64 0, .int .i64 1] 3))) (X := [W3.heap.size]) (RK.move hRS (by intro g hg; simp at hg ⊢; omega)) (RK.here hRS) [3, 4, 5, 6, 7, 8] 4 (by kernel_rfl) ?_
                  apply Exists.intro
                  refine ⟨fun G hG hN => ?_, ?_⟩
                  · simp only [pickOps, List.getElem?_toArray, List.getElem?_cons_zero, List.getElem?_cons_succ]
                    repeat (first | go_big_quiet_step ((first | (go_at_call 10; exact calls_ge (RK.grows _ _ _) hG (half_values A c (some ⟨W15.heap.size, 0, none⟩) 3 _ (hF.rk2 hbG (GE.h _) (by simp <;> omega)) (pin_lit (RK.at (GE.h _) lS (by simp <;> omega)) rfl (by decide) (by decide) (by decide) (by decide)))))) | quiet_step ((first | (go_at_call 10; exact calls_ge (RK.grows _ _ _) hG (half_values A c (some ⟨W15.heap.size, 0, none⟩) 3 _ (hF.rk2 hbG (GE.h _) (by simp <;> omega)) (pin_lit (RK.at (GE.h _) lS (by simp <;> omega)) rfl (by decide) (by decide) (by decide) (by decide)))))))
                    exact wpQuiet_nil rfl
                  refine wpAnyE_all (rs := [10]) (by kernel_rfl) (by simp) (fun W16 hW16 hRW16 i hi => ?_)
                  have hx9 := heap_ext hx9 hW16
                  have lS := heap_ext lS hW16
                  have hbG := bcall hbG hbG.size hW16
                  obtain rfl := List.mem_singleton.1 hi
                  refine wpOp_step rfl (fun K hK => ?_)
                  go_simp
                  refine hK _ _ ⟨hRW16.grow (one_alloc _ _), ?_⟩
                  clear hK K
                  have lyhx9 := lt_some hx9
                  have lylS := lt_some lS
                  have lw10 := hbG.size
                  have hx9 := heap_old (o' := (Obj.cells #[.int .i64 0, .int .i64 0] 27)) hx9
                  have lS := heap_old (o' := (Obj.cells #[.int .i64 0, .int .i64 0] 27)) lS
                  have hbG := hbG.alloc hbG.size (Obj.cells #[.int .i64 0, .int .i64 0] 27)
                  have hx10 := heap_new (w := W16) (o := (Obj.cells #[.int .i64 0, .int .i64 0] 27)) rfl
                  have hz10 : w0.heap.size ≤ W16.heap.size := hRW16.b.size
                  have hg10 : (W15.alloc (Obj.cells #[.int .i64 0, .int .i64 0, .int .i64 1] 3)).heap.size ≤ W16.heap.size := hRW16.s
                  have hne : W3.heap.size ≠ W16.heap.size := by have := lt_some hx9; have := lyhx9; omega
                  refine wpAnyE_all (rs := [11]) (by kernel_rfl) (by simp) (fun W17 hW17 hRW17 i hi => ?_)
                  obtain rfl := List.mem_singleton.1 hi
                  have hx9 := heap_ext hx9 hW17
                  have hx10 := heap_ext hx10 hW17
                  have ck := fun j => cell_of_row _ _ j _ _ _ hx9
                  have fk := fun j => frozen_of_row _ _ j _ _ hx9
                  refine wpOp_step rfl (fun K hK => ?_)
                  go_simp
                  refine hK _ _ ⟨(hRW17.set hz9 (by first | exact Or.inr hg9 | simp)).set hz9 (by first | exact Or.inr hg9 | simp), ?_⟩
                  clear hK K
                  clear ck fk
                  have hx10 := heap_set_ne2 (g := W3.heap.size) (j := 0) (j2 := 1) (u := .int .i64 ((Rt.mk 6 1)).n) (u2 := .int .i64 ((Rt.mk 6 1)).d) (by first | exact hne | exact Ne.symm hne) hx10
                  have hx9 := heap_set2 (u := .int .i64 ((Rt.mk 6 1)).n) (u2 := .int .i64 ((Rt.mk 6 1)).d) hx9
                  refine wpAnyE_all (rs := [12]) (by kernel_rfl) (by simp) (fun W18 hW18 hRW18 i hi => ?_)
                  obtain rfl := List.mem_singleton.1 hi
                  have hx9 := heap_ext hx9 hW18
                  have hx10 := heap_ext hx10 hW18
                  have ck := fun j => cell_of_row _ _ j _ _ _ hx10
                  have fk := fun j => frozen_of_row _ _ j _ _ hx10
                  refine wpOp_step rfl (fun K hK => ?_)
                  go_simp
                  refine hK _ _ ⟨(hRW18.set hz10 (by first | exact Or.inr hg10 | simp)).set hz10 (by first | exact Or.inr hg10 | simp), ?_⟩
                  clear hK K
                  clear ck fk
                  have hx9 := heap_set_ne2 (g := W16.heap.size) (j := 0) (j2 := 1) (u := .int .i64 ((Rt.mk 6 1)).n) (u2 := .int .i64 ((Rt.mk 6 1)).d) (by first | exact hne | exact Ne.symm hne) hx9
                  have hx10 := heap_set2 (u := .int .i64 ((Rt.mk 6 1)).n) (u2 := .int .i64 ((Rt.mk 6 1)).d) hx10
                  refine wpAnyE_all (rs := [13]) (by kernel_rfl) (by simp) (fun W19 hW19 hRW19 i hi => ?_)
                  obtain rfl := List.mem_singleton.1 hi
                  have hx9 := heap_ext hx9 hW19
                  have hx10 := heap_ext hx10 hW19
                  refine wpOp_step rfl (fun K hK => ?_)
                  go_simp
                  refine hK _ _ ⟨hRW19, ?_⟩
                  clear hK K
                  refine wpAnyE_done (by kernel_rfl) (fun W20 hW20 hRW20 => ?_) _
                  refine NoPanic.normal ?_
                  have hx9 := heap_ext hx9 hW20
                  have hx10 := heap_ext hx10 hW20
                  go_wp2_with fail
                  go_meet
                  exact ⟨_, _, rfl, rfl, rfl, bcall hb0 hb0.size hRW20.b, hx9, hx10⟩
                · obtain rfl := List.mem_singleton.1 hi
                  refine wpOp_step rfl (fun K hK => ?_)
                  go_simp
                  refine hK _ _ ⟨hRW15.grow (one_alloc _ _), ?_⟩
                  clear hK K
                  have lyhx9 := lt_some hx9
                  have lw10 := hbG.size
                  have hx9 := heap_old (o' := (Obj.cells #[.int .i64 0, .int .i64 0] 27)) hx9
                  have hbG := hbG.alloc hbG.size (Obj.cells #[.int .i64 0, .int .i64 0] 27)
                  have hx10 := heap_new (w := W15) (o := (Obj.cells #[.int .i64 0, .int .i64 0] 27)) rfl
                  have hz10 : w0.heap.size ≤ W15.heap.size := hRW15.b.size
                  have hne : W3.heap.size ≠ W15.heap.size := by have := lt_some hx9; have := lyhx9; omega
                  refine wpAnyE_all (rs := [1]) (by kernel_rfl) (by simp) (fun W21 hW21 hRW21 i hi => ?_)
                  have hx9 := heap_ext hx9 hW21
                  have hx10 := heap_ext hx10 hW21
                  have hbG := bcall hbG hbG.size hW21
                  obtain rfl := List.mem_singleton.1 hi
                  refine wpOp_step rfl (fun K hK => ?_)
                  go_simp
                  refine hK _ _ ⟨hRW21.grow (one_alloc _ _), ?_⟩
                  clear hK K
                  have lyhx9 := lt_some hx9
                  have lyhx10 := lt_some hx10
                  have lw1 := hbG.size
                  have hx9 := heap_old (o' := (Obj.cells #[.int .i64 0, .int .i64 0, .int .i64 1] 3)) hx9
                  have hx10 := heap_old (o' := (Obj.cells #[.int .i64 0, .int .i64 0, .int .i64 1] 3)) hx10
                  have hbG := hbG.alloc hbG.size (Obj.cells #[.int .i64 0, .int .i64 0, .int .i64 1] 3)
                  have lS := heap_new (w := W21) (o := (Obj.cells #[.int .i64 0, .int .i64 0, .int .i64 1] 3)) rfl
                  have hz1 : w0.heap.size ≤ W21.heap.size := hRW21.b.size
                  have hRS := (hRW21.grow (one_alloc W21 (Obj.cells #[.int .i64 0, .int .i64 0, .int .i64 1] 3)))
                  refine wpAnyE_go (w0 := w0) (w1 := (W21.alloc (Obj.cells #[.int .i64 0, .int .i64 0, .int .i64 1] 3))) (X := [W3.heap.size, W15.heap.size]) (RK.move hRS (by intro g hg; simp at hg ⊢; omega)) (RK.here hRS) [3, 4, 5, 6, 7, 8] 3 (by kernel_rfl) ?_
                  apply Exists.intro
                  refine ⟨fun G hG hN => ?_, ?_⟩
                  · simp only [pickOps, List.getElem?_toArray, List.getElem?_cons_zero, List.getElem?_cons_succ]
                    repeat (first | go_big_quiet_step ((first | (go_at_call 10; exact calls_ge (RK.grows _ _ _) hG (half_values A c (some ⟨W21.heap.size, 0, none⟩) 3 _ (hF.rk2 hbG (GE.h _) (by simp <;> omega)) (pin_lit (RK.at (GE.h _) lS (by simp <;> omega)) rfl (by decide) (by decide) (by decide) (by decide)))))) | quiet_step ((first | (go_at_call 10; exact calls_ge (RK.grows _ _ _) hG (half_values A c (some ⟨W21.heap.size, 0, none⟩) 3 _ (hF.rk2 hbG (GE.h _) (by simp <;> omega)) (pin_lit (RK.at (GE.h _) lS (by simp <;> omega)) rfl (by decide) (by decide) (by decide) (by decide)))))))
                    exact wpQuiet_nil rfl
                  refine wpAnyE_all (rs := [11]) (by kernel_rfl) (by simp) (fun W22 hW22 hRW22 i hi => ?_)
                  obtain rfl := List.mem_singleton.1 hi
                  have hx9 := heap_ext hx9 hW22
                  have hx10 := heap_ext hx10 hW22
                  have ck := fun j => cell_of_row _ _ j _ _ _ hx9
                  have fk := fun j => frozen_of_row _ _ j _ _ hx9
                  refine wpOp_step rfl (fun K hK => ?_)
                  go_simp
                  refine hK _ _ ⟨(hRW22.set hz9 (by first | exact Or.inr hg9 | simp)).set hz9 (by first | exact Or.inr hg9 | simp), ?_⟩
                  clear hK K
                  clear ck fk
                  have hx10 := heap_set_ne2 (g := W3.heap.size) (j := 0) (j2 := 1) (u := .int .i64 ((Rt.mk 6 1)).n) (u2 := .int .i64 ((Rt.mk 6 1)).d) (by first | exact hne | exact Ne.symm hne) hx10
                  have hx9 := heap_set2 (u := .int .i64 ((Rt.mk 6 1)).n) (u2 := .int .i64 ((Rt.mk 6 1)).d) hx9
                  refine wpAnyE_all (rs := [12]) (by kernel_rfl) (by simp) (fun W23 hW23 hRW23 i hi => ?_)
                  obtain rfl := List.mem_singleton.1 hi
                  have hx9 := heap_ext hx9 hW23
                  have hx10 := heap_ext hx10 hW23
                  have ck := fun j => cell_of_row _ _ j _ _ _ hx10
                  have fk := fun j => frozen_of_row _ _ j _ _ hx10
                  refine wpOp_step rfl (fun K hK => ?_)
                  go_simp
                  refine hK _ _ ⟨(hRW23.set hz10 (by first | exact Or.inr hg10 | simp)).set hz10 (by first | exact Or.inr hg10 | simp), ?_⟩
                  clear hK K
                  clear ck fk
                  have hx9 := heap_set_ne2 (g := W15.heap.size) (j := 0) (j2 := 1) (u := .int .i64 ((Rt.mk 6 1)).n) (u2 := .int .i64 ((Rt.mk 6 1)).d) (by first | exact hne | exact Ne.symm hne) hx9
                  have hx10 := heap_set2 (u := .int .i64 ((Rt.mk 6 1)).n) (u2 := .int .i64 ((Rt.mk 6 1)).d) hx10
                  refine wpAnyE_all (rs := [13]) (by kernel_rfl) (by simp) (fun W24 hW24 hRW24 i hi => ?_)
                  obtain rfl := List.mem_singleton.1 hi
                  have hx9 := heap_ext hx9 hW24
                  have hx10 := heap_ext hx10 hW24
                  refine wpOp_step rfl (fun K hK => ?_)
                  go_simp
                  refine hK _ _ ⟨hRW24, ?_⟩
                  clear hK K
                  refine wpAnyE_done (by kernel_rfl) (fun W25 hW25 hRW25 => ?_) _
                  refine NoPanic.normal ?_
                  have hx9 := heap_ext hx9 hW25
                  have hx10 := heap_ext hx10 hW25
                  go_wp2_with fail
                  go_meet
                  exact ⟨_, _, rfl, rfl, rfl, bcall hb0 hb0.size hRW25.b, hx9, hx10⟩
              · obtain rfl := List.mem_singleton.1 hi
                refine wpOp_step rfl (fun K hK => ?_)
                go_simp
                refine hK _ _ ⟨hRW3.grow (one_alloc _ _), ?_⟩
                clear hK K
                have lw10 := hbG.size
                have hbG := hbG.alloc hbG.size (Obj.cells #[.int .i64 0, .int .i64 0] 27)
                have hx10 := heap_new (w := W3) (o := (Obj.cells #[.int .i64 0, .int .i64 0] 27)) rfl
                have hz10 : w0.heap.size ≤ W3.heap.size := hRW3.b.size
                refine wpAnyE_all (rs := [1, 9]) (by kernel_rfl) (by simp) (fun W26 hW26 hRW26 i hi => ?_)
                have hx10 := heap_ext hx10 hW26
                have hbG := bcall hbG hbG.size hW26
                rcases List.mem_cons.1 hi with rfl | hi
                · refine wpOp_step rfl (fun K hK => ?_)
                  go_simp
                  refine hK _ _ ⟨hRW26.grow (one_alloc _ _), ?_⟩
                  clear hK K
                  have lyhx10 := lt_some hx10
                  have lw1 := hbG.size
                  have hx10 := heap_old (o' := (Obj.cells #[.int .i64 0, .int .i64 0, .int .i64 1] 3)) hx10
                  have hbG := hbG.alloc hbG.size (Obj.cells #[.int .i64 0, .int .i64 0, .int .i64 1] 3)
                  have lS := heap_new (w := W26) (o := (Obj.cells #[.int .i64 0, .int .i64 0, .int .i64 1] 3)) rfl
                  have hz1 : w0.heap.size ≤ W26.heap.size := hRW26.b.size
                  have hRS := (hRW26.grow (one_alloc W26 (Obj.cells #[.int .i64 0, .int .i64 0, .int .i64 1] 3)))
                  refine wpAnyE_go (w0 := w0) (w1 := (W26.alloc (Obj.cells #[.int .i64 0, .int .i64 0, .int .i64 1] 3))) (X := [W3.heap.size]) (RK.move hRS (by intro g hg; simp at hg ⊢; omega)) (RK.here hRS) [3, 4, 5, 6, 7, 8] 4 (by kernel_rfl) ?_
                  apply Exists.intro
                  refine ⟨fun G hG hN => ?_, ?_⟩
                  · simp only [pickOps, List.getElem?_toArray, List.getElem?_cons_zero, List.getElem?_cons_succ]
                    repeat (first | go_big_quiet_step ((first | (go_at_call 10; exact calls_ge (RK.grows _ _ _) hG (half_values A c (some ⟨W26.heap.size, 0, none⟩) 3 _ (hF.rk2 hbG (GE.h _) (by simp <;> omega)) (pin_lit (RK.at (GE.h _) lS (by simp <;> omega)) rfl (by decide) (by decide) (by decide) (by decide)))))) | quiet_step ((first | (go_at_call 10; exact calls_ge (RK.grows _ _ _) hG (half_values A c (some ⟨W26.heap.size, 0, none⟩) 3 _ (hF.rk2 hbG (GE.h _) (by simp <;> omega)) (pin_lit (RK.at (GE.h _) lS (by simp <;> omega)) rfl (by decide) (by decide) (by decide) (by decide)))))))
                    exact wpQuiet_nil rfl
                  refine wpAnyE_all (rs := [9]) (by kernel_rfl) (by simp) (fun W27 hW27 hRW27 i hi => ?_)
                  have hx10 := heap_ext hx10 hW27
                  have lS := heap_ext lS hW27
                  have hbG := bcall hbG hbG.size hW27
                  obtain rfl := List.mem_singleton.1 hi
                  refine wpOp_step rfl (fun K hK => ?_)
                  go_simp
                  refine hK _ _ ⟨hRW27.grow (one_alloc _ _), ?_⟩
                  clear hK K
                  have lyhx10 := lt_some hx10
                  have lylS := lt_some lS
                  have lw9 := hbG.size
                  have hx10 := heap_old (o' := (Obj.cells #[.int .i64 0, .int .i64 0] 27)) hx10
                  have lS := heap_old (o' := (Obj.cells #[.int .i64 0, .int .i64 0] 27)) lS
                  have hbG := hbG.alloc hbG.size (Obj.cells #[.int .i64 0, .int .i64 0] 27)
                  have hx9 := heap_new (w := W27) (o := (Obj.cells #[.int .i64 0, .int .i64 0] 27)) rfl
                  have hz9 : w0.heap.size ≤ W27.heap.size := hRW27.b.size
                  have hg9 : (W26.alloc (Obj.cells #[.int .i64 0, .int .i64 0, .int .i64 1] 3)).heap.size ≤ W27.heap.size := hRW27.s
                  have hne : W3.heap.size ≠ W27.heap.size := by have := lt_some hx10; have := lyhx10; omega
                  refine wpAnyE_all (rs := [11]) (by kernel_rfl) (by simp) (fun W28 hW28 hRW28 i hi => ?_)
                  obtain rfl := List.mem_singleton.1 hi
                  have hx9 := heap_ext hx9 hW28
                  have hx10 := heap_ext hx10 hW28
                  have ck := fun j => cell_of_row _ _ j _ _ _ hx9
                  have fk := fun j => frozen_of_row _ _ j _ _ hx9
                  refine wpOp_step rfl (fun K hK => ?_)
                  go_simp
                  refine hK _ _ ⟨(hRW28.set hz9 (by first | exact Or.inr hg9 | simp)).set hz9 (by first | exact Or.inr hg9 | simp), ?_⟩
                  clear hK K
                  clear ck fk
                  have hx10 := heap_set_ne2 (g := W27.heap.size) (j := 0) (j2 := 1) (u := .int .i64 ((Rt.mk 6 1)).n) (u2 := .int .i64 ((Rt.mk 6 1)).d) (by first | exact hne | exact Ne.symm hne) hx10
                  have hx9 := heap_set2 (u := .int .i64 ((Rt.mk 6 1)).n) (u2 := .int .i64 ((Rt.mk 6 1)).d) hx9
                  refine wpAnyE_all (rs := [12]) (by kernel_rfl) (by simp) (fun W29 hW29 hRW29 i hi => ?_)
                  obtain rfl := List.mem_singleton.1 hi
                  have hx9 := heap_ext hx9 hW29
                  have hx10 := heap_ext hx10 hW29
                  have ck := fun j => cell_of_row _ _ j _ _ _ hx10
                  have fk := fun j => frozen_of_row _ _ j _ _ hx10
                  refine wpOp_step rfl (fun K hK => ?_)
                  go_simp
                  refine hK _ _ ⟨(hRW29.set hz10 (by first | exact Or.inr hg10 | simp)).set hz10 (by first | exact Or.inr hg10 | simp), ?_⟩
                  clear hK K
                  clear ck fk
                  have hx9 := heap_set_ne2 (g := W3.heap.size) (j := 0) (j2 := 1) (u := .int .i64 ((Rt.mk 6 1)).n) (u2 := .int .i64 ((Rt.mk 6 1)).d) (by first | exact hne | exact Ne.symm hne) hx9
                  have hx10 := heap_set2 (u := .int .i64 ((Rt.mk 6 1)).n) (u2 := .int .i64 ((Rt.mk 6 1)).d) hx10
                  refine wpAnyE_all (rs := [13]) (by kernel_rfl) (by simp) (fun W30 hW30 hRW30 i hi => ?_)
                  obtain rfl := List.mem_singleton.1 hi
                  have hx9 := heap_ext hx9 hW30
                  have hx10 := heap_ext hx10 hW30
                  refine wpOp_step rfl (fun K hK => ?_)
                  go_simp
                  refine hK _ _ ⟨hRW30, ?_⟩
                  clear hK K
                  refine wpAnyE_done (by kernel_rfl) (fun W31 hW31 hRW31 => ?_) _
                  refine NoPanic.normal ?_
                  have hx9 := heap_ext hx9 hW31
                  have hx10 := heap_ext hx10 hW31
                  go_wp2_with fail
                  go_meet
                  exact ⟨_, _, rfl, rfl, rfl, bcall hb0 hb0.size hRW31.b, hx9, hx10⟩
                · obtain rfl := List.mem_singleton.1 hi
                  refine wpOp_step rfl (fun K hK => ?_)
                  go_simp
                  refine hK _ _ ⟨hRW26.grow (one_alloc _ _), ?_⟩
                  clear hK K
                  have lyhx10 := lt_some hx10
                  have lw9 := hbG.size
                  have hx10 := heap_old (o' := (Obj.cells #[.int .i64 0, .int .i64 0] 27)) hx10
                  have hbG := hbG.alloc hbG.size (Obj.cells #[.int .i64 0, .int .i64 0] 27)
                  have hx9 := heap_new (w := W26) (o := (Obj.cells #[.int .i64 0, .int .i64 0] 27)) rfl
                  have hz9 : w0.heap.size ≤ W26.heap.size := hRW26.b.size
                  have hne : W3.heap.size ≠ W26.heap.size := by have := lt_some hx10; have := lyhx10; omega
                  refine wpAnyE_all (rs := [1]) (by kernel_rfl) (by simp) (fun W32 hW32 hRW32 i hi => ?_)
                  have hx10 := heap_ext hx10 hW32
                  have hx9 := heap_ext hx9 hW32
                  have hbG := bcall hbG hbG.size hW32
                  obtain rfl := List.mem_singleton.1 hi
                  refine wpOp_step rfl (fun K hK => ?_)
                  go_simp
                  refine hK _ _ ⟨hRW32.grow (one_alloc _ _), ?_⟩
                  clear hK K
                  have lyhx10 := lt_some hx10
                  have lyhx9 := lt_some hx9
                  have lw1 := hbG.size
                  have hx10 := heap_old (o' := (Obj.cells #[.int .i64 0, .int .i64 0, .int .i64 1] 3)) hx10
                  have hx9 := heap_old (o' := (Obj.cells #[.int .i64 0, .int .i64 0, .int .i64 1] 3)) hx9
                  have hbG := hbG.alloc hbG.size (Obj.cells #[.int .i64 0, .int .i64 0, .int .i64 1] 3)
                  have lS := heap_new (w := W32) (o := (Obj.cells #[.int .i64 0, .int .i64 0, .int .i64 1] 3)) rfl
                  have hz1 : w0.heap.size ≤ W32.heap.size := hRW32.b.size
                  have hRS := (hRW32.grow (one_alloc W32 (Obj.cells #[.int .i64 0, .int .i64 0, .int .i64 1] 3)))
                  refine wpAnyE_go (w0 := w0) (w1 := (W32.alloc (Obj.cells #[.int .i64 0, .int .i64 0, .int .i64 1] 3))) (X := [W3.heap.size, W26.heap.size]) (RK.move hRS (by intro g hg; simp at hg ⊢; omega)) (RK.here hRS) [3, 4, 5, 6, 7, 8] 3 (by kernel_rfl) ?_
                  apply Exists.intro
                  refine ⟨fun G hG hN => ?_, ?_⟩
                  · simp only [pickOps, List.getElem?_toArray, List.getElem?_cons_zero, List.getElem?_cons_succ]
                    repeat (first | go_big_quiet_step ((first | (go_at_call 10; exact calls_ge (RK.grows _ _ _) hG (half_values A c (some ⟨W32.heap.size, 0, none⟩) 3 _ (hF.rk2 hbG (GE.h _) (by simp <;> omega)) (pin_lit (RK.at (GE.h _) lS (by simp <;> omega)) rfl (by decide) (by decide) (by decide) (by decide)))))) | quiet_step ((first | (go_at_call 10; exact calls_ge (RK.grows _ _ _) hG (half_values A c (some ⟨W32.heap.size, 0, none⟩) 3 _ (hF.rk2 hbG (GE.h _) (by simp <;> omega)) (pin_lit (RK.at (GE.h _) lS (by simp <;> omega)) rfl (by decide) (by decide) (by decide) (by decide)))))))
                    exact wpQuiet_nil rfl
                  refine wpAnyE_all (rs := [11]) (by kernel_rfl) (by simp) (fun W33 hW33 hRW33 i hi => ?_)
                  obtain rfl := List.mem_singleton.1 hi
                  have hx9 := heap_ext hx9 hW33
                  have hx10 := heap_ext hx10 hW33
                  have ck := fun j => cell_of_row _ _ j _ _ _ hx9
                  have fk := fun j => frozen_of_row _ _ j _ _ hx9
                  refine wpOp_step rfl (fun K hK => ?_)
                  go_simp
                  refine hK _ _ ⟨(hRW33.set hz9 (by first | exact Or.inr hg9 | simp)).set hz9 (by first | exact Or.inr hg9 | simp), ?_⟩
                  clear hK K
                  clear ck fk
                  have hx10 := heap_set_ne2 (g := W26.heap.size) (j := 0) (j2 := 1) (u := .int .i64 ((Rt.mk 6 1)).n) (u2 := .int .i64 ((Rt.mk 6 1)).d) (by first | exact hne | exact Ne.symm hne) hx10
                  have hx9 := heap_set2 (u := .int .i64 ((Rt.mk 6 1)).n) (u2 := .int .i64 ((Rt.mk 6 1)).d) hx9
                  refine wpAnyE_all (rs := [12]) (by kernel_rfl) (by simp) (fun W34 hW34 hRW34 i hi => ?_)
                  obtain rfl := List.mem_singleton.1 hi
                  have hx9 := heap_ext hx9 hW34
                  have hx10 := heap_ext hx10 hW34
                  have ck := fun j => cell_of_row _ _ j _ _ _ hx10
                  have fk := fun j => frozen_of_row _ _ j _ _ hx10
                  refine wpOp_step rfl (fun K hK => ?_)
                  go_simp
                  refine hK _ _ ⟨(hRW34.set hz10 (by first | exact Or.inr hg10 | simp)).set hz10 (by first | exact Or.inr hg10 | simp), ?_⟩
                  clear hK K
                  clear ck fk
                  have hx9 := heap_set_ne2 (g := W3.heap.size) (j := 0) (j2 := 1) (u := .int .i64 ((Rt.mk 6 1)).n) (u2 := .int .i64 ((Rt.mk 6 1)).d) (by first | exact hne | exact Ne.symm hne) hx9
                  have hx10 := heap_set2 (u := .int .i64 ((Rt.mk 6 1)).n) (u2 := .int .i64 ((Rt.mk 6 1)).d) hx10
                  refine wpAnyE_all (rs := [13]) (by kernel_rfl) (by simp) (fun W35 hW35 hRW35 i hi => ?_)
                  obtain rfl := List.mem_singleton.1 hi
                  have hx9 := heap_ext hx9 hW35
                  have hx10 := heap_ext hx10 hW35
                  refine wpOp_step rfl (fun K hK => ?_)
                  go_simp
                  refine hK _ _ ⟨hRW35, ?_⟩
                  clear hK K
                  refine wpAnyE_done (by kernel_rfl) (fun W36 hW36 hRW36 => ?_) _
                  refine NoPanic.normal ?_
                  have hx9 := heap_ext hx9 hW36
                  have hx10 := heap_ext hx10 hW36
                  go_wp2_with fail
                  go_meet
                  exact ⟨_, _, rfl, rfl, rfl, bcall hb0 hb0.size hRW36.b, hx9, hx10⟩
          · rcases List.mem_cons.1 hi with rfl | hi
            · refine wpOp_step rfl (fun K hK => ?_)
              go_simp
              refine hK _ _ ⟨hRW1.grow (one_alloc _ _), ?_⟩
              clear hK K
              have lS := heap_new (w := W1) (o := (Obj.cells #[.int .i64 0, .int .i64 0, .int .i64 1] 3)) rfl
              have hz1 : w0.heap.size ≤ W1.heap.size := hRW1.b.size
              have hRS0 := (hRW1.grow (one_alloc W1 (Obj.cells #[.int .i64 0, .int .i64 0, .int .i64 1] 3)))
              refine wpAnyE_go (w0 := w0) (w1 := (W1.alloc (Obj.cells #[.int .i64 0, .int .i64 0, .int .i64 1] 3))) (X := []) (RK.move hRS0 (by intro g hg; simp at hg)) (RK.here hRS0) [3] 11 (by kernel_rfl) ?_
              apply Exists.intro
              refine ⟨fun G hG hN => ?_, ?_⟩
              · simp only [pickOps, List.getElem?_toArray, List.getElem?_cons_zero, List.getElem?_cons_succ]
                repeat (first | go_big_quiet_step (fail) | quiet_step (fail))
                exact wpQuiet_nil rfl
              refine wpAnyE_all (rs := [0, 9, 10]) (by kernel_rfl) (by simp) (fun W37 hW37 hRW37 i hi => ?_)
              have lS := heap_ext lS hW37
              rcases List.mem_cons.1 hi with rfl | hi
              · refine wpOp_step rfl (fun K hK => ?_)
                go_simp
                refine Calls.mono (given_any W37) ?_
                rintro e W38 ⟨A, c, rfl, hF, hbW38⟩
                have hRW38 := hRW37.grow hbW38
                refine hK _ _ ⟨hRW38, ?_⟩
                clear hK K
                have lS := heap_ext lS hbW38
                have hbG := Below.refl W38.heap.size W38
                have hRS := hRW38
                refine wpAnyE_go (w0 := w0) (w1 := W38) (X := []) (RK.move hRS (by intro g hg; simp at hg)) (RK.here hRS) [4, 5, 6, 7, 8] 5 (by kernel_rfl) ?_
                apply Exists.intro
                refine ⟨fun G hG hN => ?_, ?_⟩
                · simp only [pickOps, List.getElem?_toArray, List.getElem?_cons_zero, List.getElem?_cons_succ]
                  repeat (first | go_big_quiet_step ((first | (go_at_call 10; exact calls_ge (RK.grows _ _ _) hG (half_values A c (some ⟨W1.heap.size, 0, none⟩) 3 _ (hF.rk2 hbG (GE.h _) (by intro g hg; simp at hg)) (pin_lit (RK.at (GE.h _) lS (by simp)) rfl (by decide) (by decide) (by decide) (by decide)))))) | quiet_step ((first | (go_at_call 10; exact calls_ge (RK.grows _ _ _) hG (half_values A c (some ⟨W1.heap.size, 0, none⟩) 3 _ (hF.rk2 hbG (GE.h _) (by intro g hg; simp at hg)) (pin_lit (RK.at (GE.h _) lS (by simp)) rfl (by decide) (by decide) (by decide) (by decide)))))))
                  exact wpQuiet_nil rfl
                refine wpAnyE_all (rs := [9, 10]) (by kernel_rfl) (by simp) (fun W39 hW39 hRW39 i hi => ?_)
                have lS := heap_ext lS hW39
                have hbG := bcall hbG hbG.size hW39
                rcases List.mem_cons.1 hi with rfl | hi
                · refine wpOp_step rfl (fun K hK => ?_)
                  go_simp
                  refine hK _ _ ⟨hRW39.grow (one_alloc _ _), ?_⟩
                  clear hK K
                  have lylS := lt_some lS
                  have lw9 := hbG.size
                  have lS := heap_old (o' := (Obj.cells #[.int .i64 0, .int .i64 0] 27)) lS
                  have hbG := hbG.alloc hbG.size (Obj.cells #[.int .i64 0, .int .i64 0] 27)
                  have hx9 := heap_new (w := W39) (o := (Obj.cells #[.int .i64 0, .int .i64 0] 27)) rfl
                  have hz9 : w0.heap.size ≤ W39.heap.size := hRW39.b.size
                  have hg9 : W38.heap.size ≤ W39.heap.size := hRW39.s
                  refine wpAnyE_all (rs := [10]) (by kernel_rfl) (by simp) (fun W40 hW40 hRW40 i hi => ?_)
                  have hx9 := heap_ext hx9 hW40
                  have lS := heap_ext lS hW40
                  have hbG := bcall hbG hbG.size hW40
                  obtain rfl := List.mem_singleton.1 hi
                  refine wpOp_step rfl (fun K hK => ?_)
                  go_simp
                  refine hK _ _ ⟨hRW40.grow (one_alloc _ _), ?_⟩
                  clear hK K
                  have lyhx9 := lt_some hx9
                  have lylS := lt_some lS
                  have lw10 := hbG.size
                  have hx9 := heap_old (o' := (Obj.cells #[.int .i64 0, .int .i64 0] 27)) hx9
                  have lS := heap_old (o' := (Obj.cells #[.int .i64 0, .int .i64 0] 27)) lS
                  have hbG := hbG.alloc hbG.size (Obj.cells #[.int .i64 0, .int .i64 0] 27)
                  have hx10 := heap_new (w := W40) (o := (Obj.cells #[.int .i64 0, .int .i64 0] 27)) rfl
                  have hz10 : w0.heap.size ≤ W40.heap.size := hRW40.b.size
                  have hg10 : W38.heap.size ≤ W40.heap.size := hRW40.s
                  have hne : W39.heap.size ≠ W40.heap.size := by have := lt_some hx9; have := lyhx9; omega
                  refine wpAnyE_all (rs := [11]) (by kernel_rfl) (by simp) (fun W41 hW41 hRW41 i hi => ?_)
                  obtain rfl := List.mem_singleton.1 hi
                  have hx9 := heap_ext hx9 hW41
                  have hx10 := heap_ext hx10 hW41
                  have ck := fun j => cell_of_row _ _ j _ _ _ hx9
                  have fk := fun j => frozen_of_row _ _ j _ _ hx9
                  refine wpOp_step rfl (fun K hK => ?_)
                  go_simp
                  refine hK _ _ ⟨(hRW41.set hz9 (by first | exact Or.inr hg9 | simp)).set hz9 (by first | exact Or.inr hg9 | simp), ?_⟩
                  clear hK K
                  clear ck fk
                  have hx10 := heap_set_ne2 (g := W39.heap.size) (j := 0) (j2 := 1) (u := .int .i64 ((Rt.mk 6 1)).n) (u2 := .int .i64 ((Rt.mk 6 1)).d) (by first | exact hne | exact Ne.symm hne) hx10
                  have hx9 := heap_set2 (u := .int .i64 ((Rt.mk 6 1)).n) (u2 := .int .i64 ((Rt.mk 6 1)).d) hx9
                  refine wpAnyE_all (rs := [12]) (by kernel_rfl) (by simp) (fun W42 hW42 hRW42 i hi => ?_)
                  obtain rfl := List.mem_singleton.1 hi
                  have hx9 := heap_ext hx9 hW42
                  have hx10 := heap_ext hx10 hW42
                  have ck := fun j => cell_of_row _ _ j _ _ _ hx10
                  have fk := fun j => frozen_of_row _ _ j _ _ hx10
                  refine wpOp_step rfl (fun K hK => ?_)
                  go_simp
                  refine hK _ _ ⟨(hRW42.set hz10 (by first | exact Or.inr hg10 | simp)).set hz10 (by first | exact Or.inr hg10 | simp), ?_⟩
                  clear hK K
                  clear ck fk
                  have hx9 := heap_set_ne2 (g := W40.heap.size) (j := 0) (j2 := 1) (u := .int .i64 ((Rt.mk 6 1)).n) (u2 := .int .i64 ((Rt.mk 6 1)).d) (by first | exact hne | exact Ne.symm hne) hx9
                  have hx10 := heap_set2 (u := .int .i64 ((Rt.mk 6 1)).n) (u2 := .int .i64 ((Rt.mk 6 1)).d) hx10
                  refine wpAnyE_all (rs := [13]) (by kernel_rfl) (by simp) (fun W43 hW43 hRW43 i hi => ?_)
                  obtain rfl := List.mem_singleton.1 hi
                  have hx9 := heap_ext hx9 hW43
                  have hx10 := heap_ext hx10 hW43
                  refine wpOp_step rfl (fun K hK => ?_)
                  go_simp
                  refine hK _ _ ⟨hRW43, ?_⟩
                  clear hK K
                  refine wpAnyE_done (by kernel_rfl) (fun W44 hW44 hRW44 => ?_) _
                  refine NoPanic.normal ?_
                  have hx9 := heap_ext hx9 hW44
                  have hx10 := heap_ext hx10 hW44
                  go_wp2_with fail
                  go_meet
                  exact ⟨_, _, rfl, rfl, rfl, bcall hb0 hb0.size hRW44.b, hx9, hx10⟩
                · obtain rfl := List.mem_singleton.1 hi
                  refine wpOp_step rfl (fun K hK => ?_)
                  go_simp
                  refine hK _ _ ⟨hRW39.grow (one_alloc _ _), ?_⟩
                  clear hK K
                  have lylS := lt_some lS
                  have lw10 := hbG.size
                  have lS := heap_old (o' := (Obj.cells #[.int .i64 0, .int .i64 0] 27)) lS
                  have hbG := hbG.alloc hbG.size (Obj.cells #[.int .i64 0, .int .i64 0] 27)
                  have hx10 := heap_new (w := W39) (o := (Obj.cells #[.int .i64 0, .int .i64 0] 27)) rfl
                  have hz10 : w0.heap.size ≤ W39.heap.size := hRW39.b.size
                  have hg10 : W38.heap.size ≤ W39.heap.size := hRW39.s
                  refine wpAnyE_all (rs := [9]) (by kernel_rfl) (by simp) (fun W45 hW45 hRW45 i hi => ?_)
                  have hx10 := heap_ext hx10 hW45
                  have lS := heap_ext lS hW45
                  have hbG := bcall hbG hbG.size hW45
                  obtain rfl := List.mem_singleton.1 hi
                  refine wpOp_step rfl (fun K hK => ?_)
                  go_simp
                  refine hK _ _ ⟨hRW45.grow (one_alloc _ _), ?_⟩
                  clear hK K
                  have lyhx10 := lt_some hx10
                  have lylS := lt_some lS
                  have lw9 := hbG.size
                  have hx10 := heap_old (o' := (Obj.cells #[.int .i64 0, .int .i64 0] 27)) hx10
                  have lS := heap_old (o' := (Obj.cells #[.int .i64 0, .int .i64 0] 27)) lS
                  have hbG := hbG.alloc hbG.size (Obj.cells #[.int .i64 0, .int .i64 0] 27)
                  have hx9 := heap_new (w := W45) (o := (Obj.cells #[.int .i64 0, .int .i64 0] 27)) rfl
                  have hz9 : w0.heap.size ≤ W45.heap.size := hRW45.b.size
                  have hg9 : W38.heap.size ≤ W45.heap.size := hRW45.s
                  have hne : W39.heap.size ≠ W45.heap.size := by have := lt_some hx10; have := lyhx10; omega
                  refine wpAnyE_all (rs := [11]) (by kernel_rfl) (by simp) (fun W46 hW46 hRW46 i hi => ?_)
                  obtain rfl := List.mem_singleton.1 hi
                  have hx9 := heap_ext hx9 hW46
                  have hx10 := heap_ext hx10 hW46
                  have ck := fun j => cell_of_row _ _ j _ _ _ hx9
                  have fk := fun j => frozen_of_row _ _ j _ _ hx9
                  refine wpOp_step rfl (fun K hK => ?_)
                  go_simp
                  refine hK _ _ ⟨(hRW46.set hz9 (by first | exact Or.inr hg9 | simp)).set hz9 (by first | exact Or.inr hg9 | simp), ?_⟩
                  clear hK K
                  clear ck fk
                  have hx10 := heap_set_ne2 (g := W45.heap.size) (j := 0) (j2 := 1) (u := .int .i64 ((Rt.mk 6 1)).n) (u2 := .int .i64 ((Rt.mk 6 1)).d) (by first | exact hne | exact Ne.symm hne) hx10
                  have hx9 := heap_set2 (u := .int .i64 ((Rt.mk 6 1)).n) (u2 := .int .i64 ((Rt.mk 6 1)).d) hx9
                  refine wpAnyE_all (rs := [12]) (by kernel_rfl) (by simp) (fun W47 hW47 hRW47 i hi => ?_)
                  obtain rfl := List.mem_singleton.1 hi
                  have hx9 := heap_ext hx9 hW47
                  have hx10 := heap_ext hx10 hW47
                  have ck := fun j => cell_of_row _ _ j _ _ _ hx10
                  have fk := fun j => frozen_of_row _ _ j _ _ hx10
                  refine wpOp_step rfl (fun K hK => ?_)
                  go_simp
                  refine hK _ _ ⟨(hRW47.set hz10 (by first | exact Or.inr hg10 | simp)).set hz10 (by first | exact Or.inr hg10 | simp), ?_⟩
                  clear hK K
                  clear ck fk
                  have hx9 := heap_set_ne2 (g := W39.heap.size) (j := 0) (j2 := 1) (u := .int .i64 ((Rt.mk 6 1)).n) (u2 := .int .i64 ((Rt.mk 6 1)).d) (by first | exact hne | exact Ne.symm hne) hx9
                  have hx10 := heap_set2 (u := .int .i64 ((Rt.mk 6 1)).n) (u2 := .int .i64 ((Rt.mk 6 1)).d) hx10
                  refine wpAnyE_all (rs := [13]) (by kernel_rfl) (by simp) (fun W48 hW48 hRW48 i hi => ?_)
                  obtain rfl := List.mem_singleton.1 hi
                  have hx9 := heap_ext hx9 hW48
                  have hx10 := heap_ext hx10 hW48
                  refine wpOp_step rfl (fun K hK => ?_)
                  go_simp
                  refine hK _ _ ⟨hRW48, ?_⟩
                  clear hK K
                  refine wpAnyE_done (by kernel_rfl) (fun W49 hW49 hRW49 => ?_) _
                  refine NoPanic.normal ?_
                  have hx9 := heap_ext hx9 hW49
                  have hx10 := heap_ext hx10 hW49
                  go_wp2_with fail
                  go_meet
                  exact ⟨_, _, rfl, rfl, rfl, bcall hb0 hb0.size hRW49.b, hx9, hx10⟩
              · rcases List.mem_cons.1 hi with rfl | hi
                · refine wpOp_step rfl (fun K hK => ?_)
                  go_simp
                  refine hK _ _ ⟨hRW37.grow (one_alloc _ _), ?_⟩
                  clear hK K
                  have lylS := lt_some lS
                  have lS := heap_old (o' := (Obj.cells #[.int .i64 0, .int .i64 0] 27)) lS
                  have hx9 := heap_new (w := W37) (o := (Obj.cells #[.int .i64 0, .int .i64 0] 27)) rfl
                  have hz9 : w0.heap.size ≤ W37.heap.size := hRW37.b.size
                  have hs9 : W1.heap.size + 1 ≤ W37.heap.size := by have := hRW37.s; simpa using this
                  refine wpAnyE_all (rs := [0, 10]) (by kernel_rfl) (by simp) (fun W50 hW50 hRW50 i hi => ?_)
                  have hx9 := heap_ext hx9 hW50
                  have lS := heap_ext lS hW50
                  rcases List.mem_cons.1 hi with rfl | hi
                  · refine wpOp_step rfl (fun K hK => ?_)
                    go_simp
                    refine Calls.mono (given_any W50) ?_
                    rintro e W51 ⟨A, c, rfl, hF, hbW51⟩
                    have hRW51 := hRW50.grow hbW51
                    refine hK _ _ ⟨hRW51, ?_⟩
                    clear hK K
                    have lx9 := lt_some hx9
                    have hx9 := heap_ext hx9 hbW51
                    have lS := heap_ext lS hbW51
                    have hbG := Below.refl W51.heap.size W51
                    have hRS := hRW51
                    refine wpAnyE_go (w0 := w0) (w1 := W51) (X := [W37.heap.size]) (RK.move hRS (by intro g hg; simp at hg ⊢; omega)) (RK.here hRS) [4, 5, 6, 7, 8] 4 (by kernel_rfl) ?_
                    apply Exists.intro
                    refine ⟨fun G hG hN => ?_, ?_⟩
                    · simp only [pickOps, List.getElem?_toArray, List.getElem?_cons_zero, List.getElem?_cons_succ]
                      repeat (first | go_big_quiet_step ((first | (go_at_call 10; exact calls_ge (RK.grows _ _ _) hG (half_values A c (some ⟨W1.heap.size, 0, none⟩) 3 _ (hF.rk2 hbG (GE.h _) (by simp <;> omega)) (pin_lit (RK.at (GE.h _) lS (by simp <;> omega)) rfl (by decide) (by decide) (by decide) (by decide)))))) | quiet_step ((first | (go_at_call 10; exact calls_ge (RK.grows _ _ _) hG (half_values A c (some ⟨W1.heap.size, 0, none⟩) 3 _ (hF.rk2 hbG (GE.h _) (by simp <;> omega)) (pin_lit (RK.at (GE.h _) lS (by simp <;> omega)) rfl (by decide) (by decide) (by decide) (by decide)))))))
                      exact wpQuiet_nil rfl
                    refine wpAnyE_all (rs := [10]) (by kernel_rfl) (by simp) (fun W52 hW52 hRW52 i hi => ?_)
                    have hx9 := heap_ext hx9 hW52
                    have lS := heap_ext lS hW52
                    have hbG := bcall hbG hbG.size hW52
                    obtain rfl := List.mem_singleton.1 hi
                    refine wpOp_step rfl (fun K hK => ?_)
                    go_simp
                    refine hK _ _ ⟨hRW52.grow (one_alloc _ _), ?_⟩
                    clear hK K
                    have lyhx9 := lt_some hx9
                    have lylS := lt_some lS
                    have lw10 := hbG.size
                    have hx9 := heap_old (o' := (Obj.cells #[.int .i64 0, .int .i64 0] 27)) hx9
                    have lS := heap_old (o' := (Obj.cells #[.int .i64 0, .int .i64 0] 27)) lS
                    have hbG := hbG.alloc hbG.size (Obj.cells #[.int .i64 0, .int .i64 0] 27)
                    have hx10 := heap_new (w := W52) (o := (Obj.cells #[.int .i64 0, .int .i64 0] 27)) rfl
                    have hz10 : w0.heap.size ≤ W52.heap.size := hRW52.b.size
                    have hg10 : W51.heap.size ≤ W52.heap.size := hRW52.s
                    have hne : W37.heap.size ≠ W52.heap.size := by have := lt_some hx9; have := lyhx9; omega
                    refine wpAnyE_all (rs := [11]) (by kernel_rfl) (by simp) (fun W53 hW53 hRW53 i hi => ?_)
                    obtain rfl := List.mem_singleton.1 hi
                    have hx9 := heap_ext hx9 hW53
                    have hx10 := heap_ext hx10 hW53
                    have ck := fun j => cell_of_row _ _ j _ _ _ hx9
                    have fk := fun j => frozen_of_row _ _ j _ _ hx9
                    refine wpOp_step rfl (fun K hK => ?_)
                    go_simp
                    refine hK _ _ ⟨(hRW53.set hz9 (by first | exact Or.inr hg9 | simp)).set hz9 (by first | exact Or.inr hg9 | simp), ?_⟩
                    clear hK K
                    clear ck fk
                    have hx10 := heap_set_ne2 (g := W37.heap.size) (j := 0) (j2 := 1) (u := .int .i64 ((Rt.mk 6 1)).n) (u2 := .int .i64 ((Rt.mk 6 1)).d) (by first | exact hne | exact Ne.symm hne) hx10
                    have hx9 := heap_set2 (u := .int .i64 ((Rt.mk 6 1)).n) (u2 := .int .i64 ((Rt.mk 6 1)).d) hx9
                    refine wpAnyE_all (rs := [12]) (by kernel_rfl) (by simp) (fun W54 hW54 hRW54 i hi => ?_)
                    obtain rfl := List.mem_singleton.1 hi
                    have hx9 := heap_ext hx9 hW54
                    have hx10 := heap_ext hx10 hW54
                    have ck := fun j => cell_of_row _ _ j _ _ _ hx10
                    have fk := fun j => frozen_of_row _ _ j _ _ hx10
                    refine wpOp_step rfl (fun K hK => ?_)
                    go_simp
                    refine hK _ _ ⟨(hRW54.set hz10 (by first | exact Or.inr hg10 | simp)).set hz10 (by first | exact Or.inr hg10 | simp), ?_⟩
                    clear hK K
                    clear ck fk
                    have hx9 := heap_set_ne2 (g := W52.heap.size) (j := 0) (j2 := 1) (u := .int .i64 ((Rt.mk 6 1)).n) (u2 := .int .i64 ((Rt.mk 6 1)).d) (by first | exact hne | exact Ne.symm hne) hx9
                    have hx10 := heap_set2 (u := .int .i64 ((Rt.mk 6 1)).n) (u2 := .int .i64 ((Rt.mk 6 1)).d) hx10
                    refine wpAnyE_all (rs := [13]) (by kernel_rfl) (by simp) (fun W55 hW55 hRW55 i hi => ?_)
                    obtain rfl := List.mem_singleton.1 hi
                    have hx9 := heap_ext hx9 hW55
                    have hx10 := heap_ext hx10 hW55
                    refine wpOp_step rfl (fun K hK => ?_)
                    go_simp
                    refine hK _ _ ⟨hRW55, ?_⟩
                    clear hK K
                    refine wpAnyE_done (by kernel_rfl) (fun W56 hW56 hRW56 => ?_) _
                    refine NoPanic.normal ?_
                    have hx9 := heap_ext hx9 hW56
                    have hx10 := heap_ext hx10 hW56
                    go_wp2_with fail
                    go_meet
                    exact ⟨_, _, rfl, rfl, rfl, bcall hb0 hb0.size hRW56.b, hx9, hx10⟩
                  · obtain rfl := List.mem_singleton.1 hi
                    refine wpOp_step rfl (fun K hK => ?_)
                    go_simp
                    refine hK _ _ ⟨hRW50.grow (one_alloc _ _), ?_⟩
                    clear hK K
                    have lyhx9 := lt_some hx9
                    have lylS := lt_some lS
                    have hx9 := heap_old (o' := (Obj.cells #[.int .i64 0, .int .i64 0] 27)) hx9
                    have lS := heap_old (o' := (Obj.cells #[.int .i64 0, .int .i64 0] 27)) lS
                    have hx10 := heap_new (w := W50) (o := (Obj.cells #[.int .i64 0, .int .i64 0] 27)) rfl
                    have hz10 : w0.heap.size ≤ W50.heap.size := hRW50.b.size
                    have hne : W37.heap.size ≠ W50.heap.size := by have := lt_some hx9; have := lyhx9; omega
                    have hs10 : W1.heap.size + 1 ≤ W50.heap.size := by have := hRW50.s; simpa using this
                    refine wpAnyE_all (rs := [0]) (by kernel_rfl) (by simp) (fun W57 hW57 hRW57 i hi => ?_)
                    have hx9 := heap_ext hx9 hW57
                    have hx10 := heap_ext hx10 hW57
                    have lS := heap_ext lS hW57
                    obtain rfl := List.mem_singleton.1 hi
                    refine wpOp_step rfl (fun K hK => ?_)
                    go_simp
                    refine Calls.mono (given_any W57) ?_
                    rintro e W58 ⟨A, c, rfl, hF, hbW58⟩
                    have hRW58 := hRW57.grow hbW58
                    refine hK _ _ ⟨hRW58, ?_⟩
                    clear hK K
                    have lx9 := lt_some hx9
                    have lx10 := lt_some hx10
                    have hx9 := heap_ext hx9 hbW58
                    have hx10 := heap_ext hx10 hbW58
                    have lS := heap_ext lS hbW58
                    have hbG := Below.refl W58.heap.size W58
                    have hRS := hRW58
                    refine wpAnyE_go (w0 := w0) (w1 := W58) (X := [W37.heap.size, W50.heap.size]) (RK.move hRS (by intro g hg; simp at hg ⊢; omega)) (RK.here hRS) [4, 5, 6, 7, 8] 3 (by kernel_rfl) ?_
                    apply Exists.intro
                    refine ⟨fun G hG hN => ?_, ?_⟩
                    · simp only [pickOps, List.getElem?_toArray, List.getElem?_cons_zero, List.getElem?_cons_succ]
                      repeat (first | go_big_quiet_step ((first | (go_at_call 10; exact calls_ge (RK.grows _ _ _) hG (half_values A c (some ⟨W1.heap.size, 0, none⟩) 3 _ (hF.rk2 hbG (GE.h _) (by simp <;> omega)) (pin_lit (RK.at (GE.h _) lS (by simp <;> omega)) rfl (by decide) (by decide) (by decide) (by decide)))))) | quiet_step ((first | (go_at_call 10; exact calls_ge (RK.grows _ _ _) hG (half_values A c (some ⟨W1.heap.size, 0, none⟩) 3 _ (hF.rk2 hbG (GE.h _) (by simp <;> omega)) (pin_lit (RK.at (GE.h _) lS (by simp <;> omega)) rfl (by decide) (by decide) (by decide) (by decide)))))))
                      exact wpQuiet_nil rfl
                    refine wpAnyE_all (rs := [11]) (by kernel_rfl) (by simp) (fun W59 hW59 hRW59 i hi => ?_)
                    obtain rfl := List.mem_singleton.1 hi
                    have hx9 := heap_ext hx9 hW59
                    have hx10 := heap_ext hx10 hW59
                    have ck := fun j => cell_of_row _ _ j _ _ _ hx9
                    have fk := fun j => frozen_of_row _ _ j _ _ hx9
                    refine wpOp_step rfl (fun K hK => ?_)
                    go_simp
                    refine hK _ _ ⟨(hRW59.set hz9 (by first | exact Or.inr hg9 | simp)).set hz9 (by first | exact Or.inr hg9 | simp), ?_⟩
                    clear hK K
                    clear ck fk
                    have hx10 := heap_set_ne2 (g := W37.heap.size) (j := 0) (j2 := 1) (u := .int .i64 ((Rt.mk 6 1)).n) (u2 := .int .i64 ((Rt.mk 6 1)).d) (by first | exact hne | exact Ne.symm hne) hx10
                    have hx9 := heap_set2 (u := .int .i64 ((Rt.mk 6 1)).n) (u2 := .int .i64 ((Rt.mk 6 1)).d) hx9
                    refine wpAnyE_all (rs := [12]) (by kernel_rfl) (by simp) (fun W60 hW60 hRW60 i hi => ?_)
                    obtain rfl := List.mem_singleton.1 hi
                    have hx9 := heap_ext hx9 hW60
                    have hx10 := heap_ext hx10 hW60
                    have ck := fun j => cell_of_row _ _ j _ _ _ hx10
                    have fk := fun j => frozen_of_row _ _ j _ _ hx10
                    refine wpOp_step rfl (fun K hK => ?_)
                    go_simp
                    refine hK _ _ ⟨(hRW60.set hz10 (by first | exact Or.inr hg10 | simp)).set hz10 (by first | exact Or.inr hg10 | simp), ?_⟩
                    clear hK K
                    clear ck fk
                    have hx9 := heap_set_ne2 (g := W50.heap.size) (j := 0) (j2 := 1) (u := .int .i64 ((Rt.mk 6 1)).n) (u2 := .int .i64 ((Rt.mk 6 1)).d) (by first | exact hne | exact Ne.symm hne) hx9
                    have hx10 := heap_set2 (u := .int .i64 ((Rt.mk 6 1)).n) (u2 := .int .i64 ((Rt.mk 6 1)).d) hx10
                    refine wpAnyE_all (rs := [13]) (by kernel_rfl) (by simp) (fun W61 hW61 hRW61 i hi => ?_)
                    obtain rfl := List.mem_singleton.1 hi
                    have hx9 := heap_ext hx9 hW61
                    have hx10 := heap_ext hx10 hW61
                    refine wpOp_step rfl (fun K hK => ?_)
                    go_simp
                    refine hK _ _ ⟨hRW61, ?_⟩
                    clear hK K
                    refine wpAnyE_done (by kernel_rfl) (fun W62 hW62 hRW62 => ?_) _
                    refine NoPanic.normal ?_
                    have hx9 := heap_ext hx9 hW62
                    have hx10 := heap_ext hx10 hW62
                    go_wp2_with fail
                    go_meet
                    exact ⟨_, _, rfl, rfl, rfl, bcall hb0 hb0.size hRW62.b, hx9, hx10⟩
                · obtain rfl := List.mem_singleton.1 hi
                  refine wpOp_step rfl (fun K hK => ?_)
                  go_simp
                  refine hK _ _ ⟨hRW37.grow (one_alloc _ _), ?_⟩
                  clear hK K
                  have lylS := lt_some lS
                  have lS := heap_old (o' := (Obj.cells #[.int .i64 0, .int .i64 0] 27)) lS
                  have hx10 := heap_new (w := W37) (o := (Obj.cells #[.int .i64 0, .int .i64 0] 27)) rfl
                  have hz10 : w0.heap.size ≤ W37.heap.size := hRW37.b.size
                  have hs10 : W1.heap.size + 1 ≤ W37.heap.size := by have := hRW37.s; simpa using this
                  refine wpAnyE_all (rs := [0, 9]) (by kernel_rfl) (by simp) (fun W63 hW63 hRW63 i hi => ?_)
                  have hx10 := heap_ext hx10 hW63
                  have lS := heap_ext lS hW63
                  rcases List.mem_cons.1 hi with rfl | hi
                  · refine wpOp_step rfl (fun K hK => ?_)
                    go_simp
                    refine Calls.mono (given_any W63) ?_
                    rintro e W64 ⟨A, c, rfl, hF, hbW64⟩
                    have hRW64 := hRW63.grow hbW64
                    refine hK _ _ ⟨hRW64, ?_⟩
                    clear hK K
                    have lx10 := lt_some hx10
                    have hx10 := heap_ext hx10 hbW64
                    have lS := heap_ext lS hbW64
                    have hbG := Below.refl W64.heap.size W64
                    have hRS := hRW64
                    refine wpAnyE_go (w0 := w0) (w1 := W64) (X := [W37.heap.size]) (RK.move hRS (by intro g hg; simp at hg ⊢; omega)) (RK.here hRS) [4, 5, 6, 7, 8] 4 (by kernel_rfl) ?_
                    apply Exists.intro
                    refine ⟨fun G hG hN => ?_, ?_⟩
                    · simp only [pickOps, List.getElem?_toArray, List.getElem?_cons_zero, List.getElem?_cons_succ]
                      repeat (first | go_big_quiet_step ((first | (go_at_call 10; exact calls_ge (RK.grows _ _ _) hG (half_values A c (some ⟨W1.heap.size, 0, none⟩) 3 _ (hF.rk2 hbG (GE.h _) (by simp <;> omega)) (pin_lit (RK.at (GE.h _) lS (by simp <;> omega)) rfl (by decide) (by decide) (by decide) (by decide)))))) | quiet_step ((first | (go_at_call 10; exact calls_ge (RK.grows _ _ _) hG (half_values A c (some ⟨W1.heap.size, 0, none⟩) 3 _ (hF.rk2 hbG (GE.h _) (by simp <;> omega)) (pin_lit (RK.at (GE.h _) lS (by simp <;> omega)) rfl (by decide) (by decide) (by decide) (by decide)))))))
                      exact wpQuiet_nil rfl
                    refine wpAnyE_all (rs := [9]) (by kernel_rfl) (by simp) (fun W65 hW65 hRW65 i hi => ?_)
                    have hx10 := heap_ext hx10 hW65
                    have lS := heap_ext lS hW65
                    have hbG := bcall hbG hbG.size hW65
                    obtain rfl := List.mem_singleton.1 hi
                    refine wpOp_step rfl (fun K hK => ?_)
                    go_simp
                    refine hK _ _ ⟨hRW65.grow (one_alloc _ _), ?_⟩
                    clear hK K
                    have lyhx10 := lt_some hx10
                    have lylS := lt_some lS
                    have lw9 := hbG.size
                    have hx10 := heap_old (o' := (Obj.cells #[.int .i64 0, .int .i64 0] 27)) hx10
                    have lS := heap_old (o' := (Obj.cells #[.int .i64 0, .int .i64 0] 27)) lS
                    have hbG := hbG.alloc hbG.size (Obj.cells #[.int .i64 0, .int .i64 0] 27)
                    have hx9 := heap_new (w := W65) (o := (Obj.cells #[.int .i64 0, .int .i64 0] 27)) rfl
                    have hz9 : w0.heap.size ≤ W65.heap.size := hRW65.b.size
                    have hg9 : W64.heap.size ≤ W65.heap.size := hRW65.s
                    have hne : W37.heap.size ≠ W65.heap.size := by have := lt_some hx10; have := lyhx10; omega
                    refine wpAnyE_all (rs := [11]) (by kernel_rfl) (by simp) (fun W66 hW66 hRW66 i hi => ?_)
                    obtain rfl := List.mem_singleton.1 hi
                    have hx9 := heap_ext hx9 hW66
                    have hx10 := heap_ext hx10 hW66
                    have ck := fun j => cell_of_row _ _ j _ _ _ hx9
                    have fk := fun j => frozen_of_row _ _ j _ _ hx9
                    refine wpOp_step rfl (fun K hK => ?_)
                    go_simp
                    refine hK _ _ ⟨(hRW66.set hz9 (by first | exact Or.inr hg9 | simp)).set hz9 (by first | exact Or.inr hg9 | simp), ?_⟩
                    clear hK K
                    clear ck fk
                    have hx10 := heap_set_ne2 (g := W65.heap.size) (j := 0) (j2 := 1) (u := .int .i64 ((Rt.mk 6 1)).n) (u2 := .int .i64 ((Rt.mk 6 1)).d) (by first | exact hne | exact Ne.symm hne) hx10
                    have hx9 := heap_set2 (u := .int .i64 ((Rt.mk 6 1)).n) (u2 := .int .i64 ((Rt.mk 6 1)).d) hx9
                    refine wpAnyE_all (rs := [12]) (by kernel_rfl) (by simp) (fun W67 hW67 hRW67 i hi => ?_)
                    obtain rfl := List.mem_singleton.1 hi
                    have hx9 := heap_ext hx9 hW67
                    have hx10 := heap_ext hx10 hW67
                    have ck := fun j => cell_of_row _ _ j _ _ _ hx10
                    have fk := fun j => frozen_of_row _ _ j _ _ hx10
                    refine wpOp_step rfl (fun K hK => ?_)
                    go_simp
                    refine hK _ _ ⟨(hRW67.set hz10 (by first | exact Or.inr hg10 | simp)).set hz10 (by first | exact Or.inr hg10 | simp), ?_⟩
                    clear hK K
                    clear ck fk
                    have hx9 := heap_set_ne2 (g := W37.heap.size) (j := 0) (j2 := 1) (u := .int .i64 ((Rt.mk 6 1)).n) (u2 := .int .i64 ((Rt.mk 6 1)).d) (by first | exact hne | exact Ne.symm hne) hx9
                    have hx10 := heap_set2 (u := .int .i64 ((Rt.mk 6 1)).n) (u2 := .int .i64 ((Rt.mk 6 1)).d) hx10
                    refine wpAnyE_all (rs := [13]) (by kernel_rfl) (by simp) (fun W68 hW68 hRW68 i hi => ?_)
                    obtain rfl := List.mem_singleton.1 hi
                    have hx9 := heap_ext hx9 hW68
                    have hx10 := heap_ext hx10 hW68
                    refine wpOp_step rfl (fun K hK => ?_)
                    go_simp
                    refine hK _ _ ⟨hRW68, ?_⟩
                    clear hK K
                    refine wpAnyE_done (by kernel_rfl) (fun W69 hW69 hRW69 => ?_) _
                    refine NoPanic.normal ?_
                    have hx9 := heap_ext hx9 hW69
                    have hx10 := heap_ext hx10 hW69
                    go_wp2_with fail
                    go_meet
                    exact ⟨_, _, rfl, rfl, rfl, bcall hb0 hb0.size hRW69.b, hx9, hx10⟩
                  · obtain rfl := List.mem_singleton.1 hi
                    refine wpOp_step rfl (fun K hK => ?_)
                    go_simp
                    refine hK _ _ ⟨hRW63.grow (one_alloc _ _), ?_⟩
                    clear hK K
                    have lyhx10 := lt_some hx10
                    have lylS := lt_some lS
                    have hx10 := heap_old (o' := (Obj.cells #[.int .i64 0, .int .i64 0] 27)) hx10
                    have lS := heap_old (o' := (Obj.cells #[.int .i64 0, .int .i64 0] 27)) lS
                    have hx9 := heap_new (w := W63) (o := (Obj.cells #[.int .i64 0, .int .i64 0] 27)) rfl
                    have hz9 : w0.heap.size ≤ W63.heap.size := hRW63.b.size
                    have hne : W37.heap.size ≠ W63.heap.size := by have := lt_some hx10; have := lyhx10; omega
                    have hs9 : W1.heap.size + 1 ≤ W63.heap.size := by have := hRW63.s; simpa using this
                    refine wpAnyE_all (rs := [0]) (by kernel_rfl) (by simp) (fun W70 hW70 hRW70 i hi => ?_)
                    have hx10 := heap_ext hx10 hW70
                    have hx9 := heap_ext hx9 hW70
                    have lS := heap_ext lS hW70
                    obtain rfl := List.mem_singleton.1 hi
                    refine wpOp_step rfl (fun K hK => ?_)
                    go_simp
                    refine Calls.mono (given_any W70) ?_
                    rintro e W71 ⟨A, c, rfl, hF, hbW71⟩
                    have hRW71 := hRW70.grow hbW71
                    refine hK _ _ ⟨hRW71, ?_⟩
                    clear hK K
                    have lx10 := lt_some hx10
                    have lx9 := lt_some hx9
                    have hx10 := heap_ext hx10 hbW71
                    have hx9 := heap_ext hx9 hbW71
                    have lS := heap_ext lS hbW71
                    have hbG := Below.refl W71.heap.size W71
                    have hRS := hRW71
                    refine wpAnyE_go (w0 := w0) (w1 := W71) (X := [W37.heap.size, W63.heap.size]) (RK.move hRS (by intro g hg; simp at hg ⊢; omega)) (RK.here hRS) [4, 5, 6, 7, 8] 3 (by kernel_rfl) ?_
                    apply Exists.intro
                    refine ⟨fun G hG hN => ?_, ?_⟩
                    · simp only [pickOps, List.getElem?_toArray, List.getElem?_cons_zero, List.getElem?_cons_succ]
                      repeat (first | go_big_quiet_step ((first | (go_at_call 10; exact calls_ge (RK.grows _ _ _) hG (half_values A c (some ⟨W1.heap.size, 0, none⟩) 3 _ (hF.rk2 hbG (GE.h _) (by simp <;> omega)) (pin_lit (RK.at (GE.h _) lS (by simp <;> omega)) rfl (by decide) (by decide) (by decide) (by decide)))))) | quiet_step ((first | (go_at_call 10; exact calls_ge (RK.grows _ _ _) hG (half_values A c (some ⟨W1.heap.size, 0, none⟩) 3 _ (hF.rk2 hbG (GE.h _) (by simp <;> omega)) (pin_lit (RK.at (GE.h _) lS (by simp <;> omega)) rfl (by decide) (by decide) (by decide) (by decide)))))))
                      exact wpQuiet_nil rfl
                    refine wpAnyE_all (rs := [11]) (by kernel_rfl) (by simp) (fun W72 hW72 hRW72 i hi => ?_)
                    obtain rfl := List.mem_singleton.1 hi
                    have hx9 := heap_ext hx9 hW72
                    have hx10 := heap_ext hx10 hW72
                    have ck := fun j => cell_of_row _ _ j _ _ _ hx9
                    have fk := fun j => frozen_of_row _ _ j _ _ hx9
                    refine wpOp_step rfl (fun K hK => ?_)
                    go_simp
                    refine hK _ _ ⟨(hRW72.set hz9 (by first | exact Or.inr hg9 | simp)).set hz9 (by first | exact Or.inr hg9 | simp), ?_⟩
                    clear hK K
                    clear ck fk
                    have hx10 := heap_set_ne2 (g := W63.heap.size) (j := 0) (j2 := 1) (u := .int .i64 ((Rt.mk 6 1)).n) (u2 := .int .i64 ((Rt.mk 6 1)).d) (by first | exact hne | exact Ne.symm hne) hx10
                    have hx9 := heap_set2 (u := .int .i64 ((Rt.mk 6 1)).n) (u2 := .int .i64 ((Rt.mk 6 1)).d) hx9
                    refine wpAnyE_all (rs := [12]) (by kernel_rfl) (by simp) (fun W73 hW73 hRW73 i hi => ?_)
                    obtain rfl := List.mem_singleton.1 hi
                    have hx9 := heap_ext hx9 hW73
                    have hx10 := heap_ext hx10 hW73
                    have ck := fun j => cell_of_row _ _ j _ _ _ hx10
                    have fk := fun j => frozen_of_row _ _ j _ _ hx10
                    refine wpOp_step rfl (fun K hK => ?_)
                    go_simp
                    refine hK _ _ ⟨(hRW73.set hz10 (by first | exact Or.inr hg10 | simp)).set hz10 (by first | exact Or.inr hg10 | simp), ?_⟩
                    clear hK K
                    clear ck fk
                    have hx9 := heap_set_ne2 (g := W37.heap.size) (j := 0) (j2 := 1) (u := .int .i64 ((Rt.mk 6 1)).n) (u2 := .int .i64 ((Rt.mk 6 1)).d) (by first | exact hne | exact Ne.symm hne) hx9
                    have hx10 := heap_set2 (u := .int .i64 ((Rt.mk 6 1)).n) (u2 := .int .i64 ((Rt.mk 6 1)).d) hx10
                    refine wpAnyE_all (rs := [13]) (by kernel_rfl) (by simp) (fun W74 hW74 hRW74 i hi => ?_)
                    obtain rfl := List.mem_singleton.1 hi
                    have hx9 := heap_ext hx9 hW74
                    have hx10 := heap_ext hx10 hW74
                    refine wpOp_step rfl (fun K hK => ?_)
                    go_simp
                    refine hK _ _ ⟨hRW74, ?_⟩
                    clear hK K
                    refine wpAnyE_done (by kernel_rfl) (fun W75 hW75 hRW75 => ?_) _
                    refine NoPanic.normal ?_
                    have hx9 := heap_ext hx9 hW75
                    have hx10 := heap_ext hx10 hW75
                    go_wp2_with fail
                    go_meet
                    exact ⟨_, _, rfl, rfl, rfl, bcall hb0 hb0.size hRW75.b, hx9, hx10⟩
            · rcases List.mem_cons.1 hi with rfl | hi
              · refine wpOp_step rfl (fun K hK => ?_)
                go_simp
                refine hK _ _ ⟨hRW1.grow (one_alloc _ _), ?_⟩
                clear hK K
                have hx9 := heap_new (w := W1) (o := (Obj.cells #[.int .i64 0, .int .i64 0] 27)) rfl
                have hz9 : w0.heap.size ≤ W1.heap.size := hRW1.b.size
                refine wpAnyE_all (rs := [0, 1, 10]) (by kernel_rfl) (by simp) (fun W76 hW76 hRW76 i hi => ?_)
                have hx9 := heap_ext hx9 hW76
                rcases List.mem_cons.1 hi with rfl | hi
                · refine wpOp_step rfl (fun K hK => ?_)
                  go_simp
                  refine Calls.mono (given_any W76) ?_
                  rintro e W77 ⟨A, c, rfl, hF, hbW77⟩
                  have hRW77 := hRW76.grow hbW77
                  refine hK _ _ ⟨hRW77, ?_⟩
                  clear hK K
                  have lx9 := lt_some hx9
                  have hx9 := heap_ext hx9 hbW77
                  have hbG := Below.refl W77.heap.size W77
                  refine wpAnyE_all (rs := [1, 10]) (by kernel_rfl) (by simp) (fun W78 hW78 hRW78 i hi => ?_)
                  have hx9 := heap_ext hx9 hW78
                  have hbG := bcall hbG hbG.size hW78
                  rcases List.mem_cons.1 hi with rfl | hi
                  · refine wpOp_step rfl (fun K hK => ?_)
                    go_simp
                    refine hK _ _ ⟨hRW78.grow (one_alloc _ _), ?_⟩
                    clear hK K
                    have lyhx9 := lt_some hx9
                    have lw1 := hbG.size
                    have hx9 := heap_old (o' := (Obj.cells #[.int .i64 0, .int .i64 0, .int .i64 1] 3)) hx9
                    have hbG := hbG.alloc hbG.size (Obj.cells #[.int .i64 0, .int .i64 0, .int .i64 1] 3)
                    have lS := heap_new (w := W78) (o := (Obj.cells #[.int .i64 0, .int .i64 0, .int .i64 1] 3)) rfl
                    have hz1 : w0.heap.size ≤ W78.heap.size := hRW78.b.size
                    have hRS := (hRW78.grow (one_alloc W78 (Obj.cells #[.int .i64 0, .int .i64 0, .int .i64 1] 3)))
                    refine wpAnyE_go (w0 := w0) (w1 := (W78.alloc (Obj.cells #[.int .i64 0, .int .i64 0, .int .i64 1] 3))) (X := [W1.heap.size]) (RK.move hRS (by intro g hg; simp at hg ⊢; omega)) (RK.here hRS) [3, 4, 5, 6, 7, 8] 4 (by kernel_rfl) ?_
                    apply Exists.intro
                    refine ⟨fun G hG hN => ?_, ?_⟩
                    · simp only [pickOps, List.getElem?_toArray, List.getElem?_cons_zero, List.getElem?_cons_succ]
                      repeat (first | go_big_quiet_step ((first | (go_at_call 10; exact calls_ge (RK.grows _ _ _) hG (half_values A c (some ⟨W78.heap.size, 0, none⟩) 3 _ (hF.rk2 hbG (GE.h _) (by simp <;> omega)) (pin_lit (RK.at (GE.h _) lS (by simp <;> omega)) rfl (by decide) (by decide) (by decide) (by decide)))))) | quiet_step ((first | (go_at_call 10; exact calls_ge (RK.grows _ _ _) hG (half_values A c (some ⟨W78.heap.size, 0, none⟩) 3 _ (hF.rk2 hbG (GE.h _) (by simp <;> omega)) (pin_lit (RK.at (GE.h _) lS (by simp <;> omega)) rfl (by decide) (by decide) (by decide) (by decide)))))))
                      exact wpQuiet_nil rfl
                    refine wpAnyE_all (rs := [10]) (by kernel_rfl) (by simp) (fun W79 hW79 hRW79 i hi => ?_)
                    have hx9 := heap_ext hx9 hW79
                    have lS := heap_ext lS hW79
                    have hbG := bcall hbG hbG.size hW79
                    obtain rfl := List.mem_singleton.1 hi
                    refine wpOp_step rfl (fun K hK => ?_)
                    go_simp
                    refine hK _ _ ⟨hRW79.grow (one_alloc _ _), ?_⟩
                    clear hK K
                    have lyhx9 := lt_some hx9
                    have lylS := lt_some lS
                    have lw10 := hbG.size
                    have hx9 := heap_old (o' := (Obj.cells #[.int .i64 0, .int .i64 0] 27)) hx9
                    have lS := heap_old (o' := (Obj.cells #[.int .i64 0, .int .i64 0] 27)) lS
                    have hbG := hbG.alloc hbG.size (Obj.cells #[.int .i64 0, .int .i64 0] 27)
                    have hx10 := heap_new (w := W79) (o := (Obj.cells #[.int .i64 0, .int .i64 0] 27)) rfl
                    have hz10 : w0.heap.size ≤ W79.heap.size := hRW79.b.size
                    have hg10 : (W78.alloc (Obj.cells #[.int .i64 0, .int .i64 0, .int .i64 1] 3)).heap.size ≤ W79.heap.size := hRW79.s
                    have hne : W1.heap.size ≠ W79.heap.size := by have := lt_some hx9; have := lyhx9; omega
                    refine wpAnyE_all (rs := [11]) (by kernel_rfl) (by simp) (fun W80 hW80 hRW80 i hi => ?_)
                    obtain rfl := List.mem_singleton.1 hi
                    have hx9 := heap_ext hx9 hW80
                    have hx10 := heap_ext hx10 hW80
                    have ck := fun j => cell_of_row _ _ j _ _ _ hx9
                    have fk := fun j => frozen_of_row _ _ j _ _ hx9
                    refine wpOp_step rfl (fun K hK => ?_)
                    go_simp
                    refine hK _ _ ⟨(hRW80.set hz9 (by first | exact Or.inr hg9 | simp)).set hz9 (by first | exact Or.inr hg9 | simp), ?_⟩
                    clear hK K
                    clear ck fk
                    have hx10 := heap_set_ne2 (g := W1.heap.size) (j := 0) (j2 := 1) (u := .int .i64 ((Rt.mk 6 1)).n) (u2 := .int .i64 ((Rt.mk 6 1)).d) (by first | exact hne | exact Ne.symm hne) hx10
                    have hx9 := heap_set2 (u := .int .i64 ((Rt.mk 6 1)).n) (u2 := .int .i64 ((Rt.mk 6 1)).d) hx9
                    refine wpAnyE_all (rs := [12]) (by kernel_rfl) (by simp) (fun W81 hW81 hRW81 i hi => ?_)
                    obtain rfl := List.mem_singleton.1 hi
                    have hx9 := heap_ext hx9 hW81
                    have hx10 := heap_ext hx10 hW81
                    have ck := fun j => cell_of_row _ _ j _ _ _ hx10
                    have fk := fun j => frozen_of_row _ _ j _ _ hx10
                    refine wpOp_step rfl (fun K hK => ?_)
                    go_simp
                    refine hK _ _ ⟨(hRW81.set hz10 (by first | exact Or.inr hg10 | simp)).set hz10 (by first | exact Or.inr hg10 | simp), ?_⟩
                    clear hK K
                    clear ck fk
                    have hx9 := heap_set_ne2 (g := W79.heap.size) (j := 0) (j2 := 1) (u := .int .i64 ((Rt.mk 6 1)).n) (u2 := .int .i64 ((Rt.mk 6 1)).d) (by first | exact hne | exact Ne.symm hne) hx9
                    have hx10 := heap_set2 (u := .int .i64 ((Rt.mk 6 1)).n) (u2 := .int .i64 ((Rt.mk 6 1)).d) hx10
                    refine wpAnyE_all (rs := [13]) (by kernel_rfl) (by simp) (fun W82 hW82 hRW82 i hi => ?_)
                    obtain rfl := List.mem_singleton.1 hi
                    have hx9 := heap_ext hx9 hW82
                    have hx10 := heap_ext hx10 hW82
                    refine wpOp_step rfl (fun K hK => ?_)
                    go_simp
                    refine hK _ _ ⟨hRW82, ?_⟩
                    clear hK K
                    refine wpAnyE_done (by kernel_rfl) (fun W83 hW83 hRW83 => ?_) _
                    refine NoPanic.normal ?_
                    have hx9 := heap_ext hx9 hW83
                    have hx10 := heap_ext hx10 hW83
                    go_wp2_with fail
                    go_meet
                    exact ⟨_, _, rfl, rfl, rfl, bcall hb0 hb0.size hRW83.b, hx9, hx10⟩
                  · obtain rfl := List.mem_singleton.1 hi
                    refine wpOp_step rfl (fun K hK => ?_)
                    go_simp
                    refine hK _ _ ⟨hRW78.grow (one_alloc _ _), ?_⟩
                    clear hK K
                    have lyhx9 := lt_some hx9
                    have lw10 := hbG.size
                    have hx9 := heap_old (o' := (Obj.cells #[.int .i64 0, .int .i64 0] 27)) hx9
                    have hbG := hbG.alloc hbG.size (Obj.cells #[.int .i64 0, .int .i64 0] 27)
                    have hx10 := heap_new (w := W78) (o := (Obj.cells #[.int .i64 0, .int .i64 0] 27)) rfl
                    have hz10 : w0.heap.size ≤ W78.heap.size := hRW78.b.size
                    have hne : W1.heap.size ≠ W78.heap.size := by have := lt_some hx9; have := lyhx9; omega
                    refine wpAnyE_all (rs := [1]) (by kernel_rfl) (by simp) (fun W84 hW84 hRW84 i hi => ?_)
                    have hx9 := heap_ext hx9 hW84
                    have hx10 := heap_ext hx10 hW84
                    have hbG := bcall hbG hbG.size hW84
                    obtain rfl := List.mem_singleton.1 hi
                    refine wpOp_step rfl (fun K hK => ?_)
                    go_simp
                    refine hK _ _ ⟨hRW84.grow (one_alloc _ _), ?_⟩
                    clear hK K
                    have lyhx9 := lt_some hx9
                    have lyhx10 := lt_some hx10
                    have lw1 := hbG.size
                    have hx9 := heap_old (o' := (Obj.cells #[.int .i64 0, .int .i64 0, .int .i64 1] 3)) hx9
                    have hx10 := heap_old (o' := (Obj.cells #[.int .i64 0, .int .i64 0, .int .i64 1] 3)) hx10
                    have hbG := hbG.alloc hbG.size (Obj.cells #[.int .i64 0, .int .i64 0, .int .i64 1] 3)
                    have lS := heap_new (w := W84) (o := (Obj.cells #[.int .i64 0, .int .i64 0, .int .i64 1] 3)) rfl
                    have hz1 : w0.heap.size ≤ W84.heap.size := hRW84.b.size
                    have hRS := (hRW84.grow (one_alloc W84 (Obj.cells #[.int .i64 0, .int .i64 0, .int .i64 1] 3)))
                    refine wpAnyE_go (w0 := w0) (w1 := (W84.alloc (Obj.cells #[.int .i64 0, .int .i64 0, .int .i64 1] 3))) (X := [W1.heap.size, W78.heap.size]) (RK.move hRS (by intro g hg; simp at hg ⊢; omega)) (RK.here hRS) [3, 4, 5, 6, 7, 8] 3 (by kernel_rfl) ?_
                    apply Exists.intro
                    refine ⟨fun G hG hN => ?_, ?_⟩
                    · simp only [pickOps, List.getElem?_toArray, List.getElem?_cons_zero, List.getElem?_cons_succ]
                      repeat (first | go_big_quiet_step ((first | (go_at_call 10; exact calls_ge (RK.grows _ _ _) hG (half_values A c (some ⟨W84.heap.size, 0, none⟩) 3 _ (hF.rk2 hbG (GE.h _) (by simp <;> omega)) (pin_lit (RK.at (GE.h _) lS (by simp <;> omega)) rfl (by decide) (by decide) (by decide) (by decide)))))) | quiet_step ((first | (go_at_call 10; exact calls_ge (RK.grows _ _ _) hG (half_values A c (some ⟨W84.heap.size, 0, none⟩) 3 _ (hF.rk2 hbG (GE.h _) (by simp <;> omega)) (pin_lit (RK.at (GE.h _) lS (by simp <;> omega)) rfl (by decide) (by decide) (by decide) (by decide)))))))
                      exact wpQuiet_nil rfl
                    refine wpAnyE_all (rs := [11]) (by kernel_rfl) (by simp) (fun W85 hW85 hRW85 i hi => ?_)
                    obtain rfl := List.mem_singleton.1 hi
                    have hx9 := heap_ext hx9 hW85
                    have hx10 := heap_ext hx10 hW85
                    have ck := fun j => cell_of_row _ _ j _ _ _ hx9
                    have fk := fun j => frozen_of_row _ _ j _ _ hx9
                    refine wpOp_step rfl (fun K hK => ?_)
                    go_simp
                    refine hK _ _ ⟨(hRW85.set hz9 (by first | exact Or.inr hg9 | simp)).set hz9 (by first | exact Or.inr hg9 | simp), ?_⟩
                    clear hK K
                    clear ck fk
                    have hx10 := heap_set_ne2 (g := W1.heap.size) (j := 0) (j2 := 1) (u := .int .i64 ((Rt.mk 6 1)).n) (u2 := .int .i64 ((Rt.mk 6 1)).d) (by first | exact hne | exact Ne.symm hne) hx10
                    have hx9 := heap_set2 (u := .int .i64 ((Rt.mk 6 1)).n) (u2 := .int .i64 ((Rt.mk 6 1)).d) hx9
                    refine wpAnyE_all (rs := [12]) (by kernel_rfl) (by simp) (fun W86 hW86 hRW86 i hi => ?_)
                    obtain rfl := List.mem_singleton.1 hi
                    have hx9 := heap_ext hx9 hW86
                    have hx10 := heap_ext hx10 hW86
                    have ck := fun j => cell_of_row _ _ j _ _ _ hx10
                    have fk := fun j => frozen_of_row _ _ j _ _ hx10
                    refine wpOp_step rfl (fun K hK => ?_)
                    go_simp
                    refine hK _ _ ⟨(hRW86.set hz10 (by first | exact Or.inr hg10 | simp)).set hz10 (by first | exact Or.inr hg10 | simp), ?_⟩
                    clear hK K
                    clear ck fk
                    have hx9 := heap_set_ne2 (g := W78.heap.size) (j := 0) (j2 := 1) (u := .int .i64 ((Rt.mk 6 1)).n) (u2 := .int .i64 ((Rt.mk 6 1)).d) (by first | exact hne | exact Ne.symm hne) hx9
                    have hx10 := heap_set2 (u := .int .i64 ((Rt.mk 6 1)).n) (u2 := .int .i64 ((Rt.mk 6 1)).d) hx10
                    refine wpAnyE_all (rs := [13]) (by kernel_rfl) (by simp) (fun W87 hW87 hRW87 i hi => ?_)
                    obtain rfl := List.mem_singleton.1 hi
                    have hx9 := heap_ext hx9 hW87
                    have hx10 := heap_ext hx10 hW87
                    refine wpOp_step rfl (fun K hK => ?_)
                    go_simp
                    refine hK _ _ ⟨hRW87, ?_⟩
                    clear hK K
                    refine wpAnyE_done (by kernel_rfl) (fun W88 hW88 hRW88 => ?_) _
                    refine NoPanic.normal ?_
                    have hx9 := heap_ext hx9 hW88
                    have hx10 := heap_ext hx10 hW88
                    go_wp2_with fail
                    go_meet
                    exact ⟨_, _, rfl, rfl, rfl, bcall hb0 hb0.size hRW88.b, hx9, hx10⟩
                · rcases List.mem_cons.1 hi with rfl | hi
                  · refine wpOp_step rfl (fun K hK => ?_)
                    go_simp
                    refine hK _ _ ⟨hRW76.grow (one_alloc _ _), ?_⟩
                    clear hK K
                    have lyhx9 := lt_some hx9
                    have hx9 := heap_old (o' := (Obj.cells #[.int .i64 0, .int .i64 0, .int .i64 1] 3)) hx9
                    have lS := heap_new (w := W76) (o := (Obj.cells #[.int .i64 0, .int .i64 0, .int .i64 1] 3)) rfl
                    have hz1 : w0.heap.size ≤ W76.heap.size := hRW76.b.size
                    have hRS0 := (hRW76.grow (one_alloc W76 (Obj.cells #[.int .i64 0, .int .i64 0, .int .i64 1] 3)))
                    refine wpAnyE_go (w0 := w0) (w1 := (W76.alloc (Obj.cells #[.int .i64 0, .int .i64 0, .int .i64 1] 3))) (X := [W1.heap.size]) (RK.move hRS0 (by intro g hg; simp at hg ⊢; omega)) (RK.here hRS0) [3] 10 (by kernel_rfl) ?_
                    apply Exists.intro
                    refine ⟨fun G hG hN => ?_, ?_⟩
                    · simp only [pickOps, List.getElem?_toArray, List.getElem?_cons_zero, List.getElem?_cons_succ]
                      repeat (first | go_big_quiet_step (fail) | quiet_step (fail))
                      exact wpQuiet_nil rfl
                    refine wpAnyE_all (rs := [0, 10]) (by kernel_rfl) (by simp) (fun W89 hW89 hRW89 i hi => ?_)
                    have hx9 := heap_ext hx9 hW89
                    have lS := heap_ext lS hW89
                    rcases List.mem_cons.1 hi with rfl | hi
                    · refine wpOp_step rfl (fun K hK => ?_)
                      go_simp
                      refine Calls.mono (given_any W89) ?_
                      rintro e W90 ⟨A, c, rfl, hF, hbW90⟩
                      have hRW90 := hRW89.grow hbW90
                      refine hK _ _ ⟨hRW90, ?_⟩
                      clear hK K
                      have lx9 := lt_some hx9
                      have hx9 := heap_ext hx9 hbW90
                      have lS := heap_ext lS hbW90
                      have hbG := Below.refl W90.heap.size W90
                      have hRS := hRW90
                      refine wpAnyE_go (w0 := w0) (w1 := W90) (X := [W1.heap.size]) (RK.move hRS (by intro g hg; simp at hg ⊢; omega)) (RK.here hRS) [4, 5, 6, 7, 8] 4 (by kernel_rfl) ?_
                      apply Exists.intro
                      refine ⟨fun G hG hN => ?_, ?_⟩
                      · simp only [pickOps, List.getElem?_toArray, List.getElem?_cons_zero, List.getElem?_cons_succ]
                        repeat (first | go_big_quiet_step ((first | (go_at_call 10; exact calls_ge (RK.grows _ _ _) hG (half_values A c (some ⟨W76.heap.size, 0, none⟩) 3 _ (hF.rk2 hbG (GE.h _) (by simp <;> omega)) (pin_lit (RK.at (GE.h _) lS (by simp <;> omega)) rfl (by decide) (by decide) (by decide) (by decide)))))) | quiet_step ((first | (go_at_call 10; exact calls_ge (RK.grows _ _ _) hG (half_values A c (some ⟨W76.heap.size, 0, none⟩) 3 _ (hF.rk2 hbG (GE.h _) (by simp <;> omega)) (pin_lit (RK.at (GE.h _) lS (by simp <;> omega)) rfl (by decide) (by decide) (by decide) (by decide)))))))
                        exact wpQuiet_nil rfl
                      refine wpAnyE_all (rs := [10]) (by kernel_rfl) (by simp) (fun W91 hW91 hRW91 i hi => ?_)
                      have hx9 := heap_ext hx9 hW91
                      have lS := heap_ext lS hW91
                      have hbG := bcall hbG hbG.size hW91
                      obtain rfl := List.mem_singleton.1 hi
                      refine wpOp_step rfl (fun K hK => ?_)
                      go_simp
                      refine hK _ _ ⟨hRW91.grow (one_alloc _ _), ?_⟩
                      clear hK K
                      have lyhx9 := lt_some hx9
                      have lylS := lt_some lS
                      have lw10 := hbG.size
                      have hx9 := heap_old (o' := (Obj.cells #[.int .i64 0, .int .i64 0] 27)) hx9
                      have lS := heap_old (o' := (Obj.cells #[.int .i64 0, .int .i64 0] 27)) lS
                      have hbG := hbG.alloc hbG.size (Obj.cells #[.int .i64 0, .int .i64 0] 27)
                      have hx10 := heap_new (w := W91) (o := (Obj.cells #[.int .i64 0, .int .i64 0] 27)) rfl
                      have hz10 : w0.heap.size ≤ W91.heap.size := hRW91.b.size
                      have hg10 : W90.heap.size ≤ W91.heap.size := hRW91.s
                      have hne : W1.heap.size ≠ W91.heap.size := by have := lt_some hx9; have := lyhx9; omega
                      refine wpAnyE_all (rs := [11]) (by kernel_rfl) (by simp) (fun W92 hW92 hRW92 i hi => ?_)
                      obtain rfl := List.mem_singleton.1 hi
                      have hx9 := heap_ext hx9 hW92
                      have hx10 := heap_ext hx10 hW92
                      have ck := fun j => cell_of_row _ _ j _ _ _ hx9
                      have fk := fun j => frozen_of_row _ _ j _ _ hx9
                      refine wpOp_step rfl (fun K hK => ?_)
                      go_simp
                      refine hK _ _ ⟨(hRW92.set hz9 (by first | exact Or.inr hg9 | simp)).set hz9 (by first | exact Or.inr hg9 | simp), ?_⟩
                      clear hK K
                      clear ck fk
                      have hx10 := heap_set_ne2 (g := W1.heap.size) (j := 0) (j2 := 1) (u := .int .i64 ((Rt.mk 6 1)).n) (u2 := .int .i64 ((Rt.mk 6 1)).d) (by first | exact hne | exact Ne.symm hne) hx10
                      have hx9 := heap_set2 (u := .int .i64 ((Rt.mk 6 1)).n) (u2 := .int .i64 ((Rt.mk 6 1)).d) hx9
                      refine wpAnyE_all (rs := [12]) (by kernel_rfl) (by simp) (fun W93 hW93 hRW93 i hi => ?_)
                      obtain rfl := List.mem_singleton.1 hi
                      have hx9 := heap_ext hx9 hW93
                      have hx10 := heap_ext hx10 hW93
                      have ck := fun j => cell_of_row _ _ j _ _ _ hx10
                      have fk := fun j => frozen_of_row _ _ j _ _ hx10
                      refine wpOp_step rfl (fun K hK => ?_)
                      go_simp
                      refine hK _ _ ⟨(hRW93.set hz10 (by first | exact Or.inr hg10 | simp)).set hz10 (by first | exact Or.inr hg10 | simp), ?_⟩
                      clear hK K
                      clear ck fk
                      have hx9 := heap_set_ne2 (g := W91.heap.size) (j := 0) (j2 := 1) (u := .int .i64 ((Rt.mk 6 1)).n) (u2 := .int .i64 ((Rt.mk 6 1)).d) (by first | exact hne | exact Ne.symm hne) hx9
                      have hx10 := heap_set2 (u := .int .i64 ((Rt.mk 6 1)).n) (u2 := .int .i64 ((Rt.mk 6 1)).d) hx10
                      refine wpAnyE_all (rs := [13]) (by kernel_rfl) (by simp) (fun W94 hW94 hRW94 i hi => ?_)
                      obtain rfl := List.mem_singleton.1 hi
                      have hx9 := heap_ext hx9 hW94
                      have hx10 := heap_ext hx10 hW94
                      refine wpOp_step rfl (fun K hK => ?_)
                      go_simp
                      refine hK _ _ ⟨hRW94, ?_⟩
                      clear hK K
                      refine wpAnyE_done (by kernel_rfl) (fun W95 hW95 hRW95 => ?_) _
                      refine NoPanic.normal ?_
                      have hx9 := heap_ext hx9 hW95
                      have hx10 := heap_ext hx10 hW95
                      go_wp2_with fail
                      go_meet
                      exact ⟨_, _, rfl, rfl, rfl, bcall hb0 hb0.size hRW95.b, hx9, hx10⟩
                    · obtain rfl := List.mem_singleton.1 hi
                      refine wpOp_step rfl (fun K hK => ?_)
                      go_simp
                      refine hK _ _ ⟨hRW89.grow (one_alloc _ _), ?_⟩
                      clear hK K
                      have lyhx9 := lt_some hx9
                      have lylS := lt_some lS
                      have hx9 := heap_old (o' := (Obj.cells #[.int .i64 0, .int .i64 0] 27)) hx9
                      have lS := heap_old (o' := (Obj.cells #[.int .i64 0, .int .i64 0] 27)) lS
                      have hx10 := heap_new (w := W89) (o := (Obj.cells #[.int .i64 0, .int .i64 0] 27)) rfl
                      have hz10 : w0.heap.size ≤ W89.heap.size := hRW89.b.size
                      have hne : W1.heap.size ≠ W89.heap.size := by have := lt_some hx9; have := lyhx9; omega
                      have hs10 : W76.heap.size + 1 ≤ W89.heap.size := by have := hRW89.s; simpa using this
                      refine wpAnyE_all (rs := [0]) (by kernel_rfl) (by simp) (fun W96 hW96 hRW96 i hi => ?_)
                      have hx9 := heap_ext hx9 hW96
                      have hx10 := heap_ext hx10 hW96
                      have lS := heap_ext lS hW96
                      obtain rfl := List.mem_singleton.1 hi
                      refine wpOp_step rfl (fun K hK => ?_)
                      go_simp
                      refine Calls.mono (given_any W96) ?_
                      rintro e W97 ⟨A, c, rfl, hF, hbW97⟩
                      have hRW97 := hRW96.grow hbW97
                      refine hK _ _ ⟨hRW97, ?_⟩
                      clear hK K
                      have lx9 := lt_some hx9
                      have lx10 := lt_some hx10
                      have hx9 := heap_ext hx9 hbW97
                      have hx10 := heap_ext hx10 hbW97
                      have lS := heap_ext lS hbW97
                      have hbG := Below.refl W97.heap.size W97
                      have hRS := hRW97
                      refine wpAnyE_go (w0 := w0) (w1 := W97) (X := [W1.heap.size, W89.heap.size]) (RK.move hRS (by intro g hg; simp at hg ⊢; omega)) (RK.here hRS) [4, 5, 6, 7, 8] 3 (by kernel_rfl) ?_
                      apply Exists.intro
                      refine ⟨fun G hG hN => ?_, ?_⟩
                      · simp only [pickOps, List.getElem?_toArray, List.getElem?_cons_zero, List.getElem?_cons_succ]
                        repeat (first | go_big_quiet_step ((first | (go_at_call 10; exact calls_ge (RK.grows _ _ _) hG (half_values A c (some ⟨W76.heap.size, 0, none⟩) 3 _ (hF.rk2 hbG (GE.h _) (by simp <;> omega)) (pin_lit (RK.at (GE.h _) lS (by simp <;> omega)) rfl (by decide) (by decide) (by decide) (by decide)))))) | quiet_step ((first | (go_at_call 10; exact calls_ge (RK.grows _ _ _) hG (half_values A c (some ⟨W76.heap.size, 0, none⟩) 3 _ (hF.rk2 hbG (GE.h _) (by simp <;> omega)) (pin_lit (RK.at (GE.h _) lS (by simp <;> omega)) rfl (by decide) (by decide) (by decide) (by decide)))))))
                        exact wpQuiet_nil rfl
                      refine wpAnyE_all (rs := [11]) (by kernel_rfl) (by simp) (fun W98 hW98 hRW98 i hi => ?_)
                      obtain rfl := List.mem_singleton.1 hi
                      have hx9 := heap_ext hx9 hW98
                      have hx10 := heap_ext hx10 hW98
                      have ck := fun j => cell_of_row _ _ j _ _ _ hx9
                      have fk := fun j => frozen_of_row _ _ j _ _ hx9
                      refine wpOp_step rfl (fun K hK => ?_)
                      go_simp
                      refine hK _ _ ⟨(hRW98.set hz9 (by first | exact Or.inr hg9 | simp)).set hz9 (by first | exact Or.inr hg9 | simp), ?_⟩
                      clear hK K
                      clear ck fk
                      have hx10 := heap_set_ne2 (g := W1.heap.size) (j := 0) (j2 := 1) (u := .int .i64 ((Rt.mk 6 1)).n) (u2 := .int .i64 ((Rt.mk 6 1)).d) (by first | exact hne | exact Ne.symm hne) hx10
                      have hx9 := heap_set2 (u := .int .i64 ((Rt.mk 6 1)).n) (u2 := .int .i64 ((Rt.mk 6 1)).d) hx9
                      refine wpAnyE_all (rs := [12]) (by kernel_rfl) (by simp) (fun W99 hW99 hRW99 i hi => ?_)
                      obtain rfl := List.mem_singleton.1 hi
                      have hx9 := heap_ext hx9 hW99
                      have hx10 := heap_ext hx10 hW99
                      have ck := fun j => cell_of_row _ _ j _ _ _ hx10
                      have fk := fun j => frozen_of_row _ _ j _ _ hx10
                      refine wpOp_step rfl (fun K hK => ?_)
                      go_simp
                      refine hK _ _ ⟨(hRW99.set hz10 (by first | exact Or.inr hg10 | simp)).set hz10 (by first | exact Or.inr hg10 | simp), ?_⟩
                      clear hK K
                      clear ck fk
                      have hx9 := heap_set_ne2 (g := W89.heap.size) (j := 0) (j2 := 1) (u := .int .i64 ((Rt.mk 6 1)).n) (u2 := .int .i64 ((Rt.mk 6 1)).d) (by first | exact hne | exact Ne.symm hne) hx9
                      have hx10 := heap_set2 (u := .int .i64 ((Rt.mk 6 1)).n) (u2 := .int .i64 ((Rt.mk 6 1)).d) hx10
                      refine wpAnyE_all (rs := [13]) (by kernel_rfl) (by simp) (fun W100 hW100 hRW100 i hi => ?_)
                      obtain rfl := List.mem_singleton.1 hi
                      have hx9 := heap_ext hx9 hW100
                      have hx10 := heap_ext hx10 hW100
                      refine wpOp_step rfl (fun K hK => ?_)
                      go_simp
                      refine hK _ _ ⟨hRW100, ?_⟩
                      clear hK K
                      refine wpAnyE_done (by kernel_rfl) (fun W101 hW101 hRW101 => ?_) _
                      refine NoPanic.normal ?_
                      have hx9 := heap_ext hx9 hW101
                      have hx10 := heap_ext hx10 hW101
                      go_wp2_with fail
                      go_meet
                      exact ⟨_, _, rfl, rfl, rfl, bcall hb0 hb0.size hRW101.b, hx9, hx10⟩
                  · obtain rfl := List.mem_singleton.1 hi
                    refine wpOp_step rfl (fun K hK => ?_)
                    go_simp
                    refine hK _ _ ⟨hRW76.grow (one_alloc _ _), ?_⟩
                    clear hK K
                    have lyhx9 := lt_some hx9
                    have hx9 := heap_old (o' := (Obj.cells #[.int .i64 0, .int .i64 0] 27)) hx9
                    have hx10 := heap_new (w := W76) (o := (Obj.cells #[.int .i64 0, .int .i64 0] 27)) rfl
                    have hz10 : w0.heap.size ≤ W76.heap.size := hRW76.b.size
                    have hne : W1.heap.size ≠ W76.heap.size := by have := lt_some hx9; have := lyhx9; omega
                    refine wpAnyE_all (rs := [0, 1]) (by kernel_rfl) (by simp) (fun W102 hW102 hRW102 i hi => ?_)
                    have hx9 := heap_ext hx9 hW102
                    have hx10 := heap_ext hx10 hW102
                    rcases List.mem_cons.1 hi with rfl | hi
                    · refine wpOp_step rfl (fun K hK => ?_)
                      go_simp
                      refine Calls.mono (given_any W102) ?_
                      rintro e W103 ⟨A, c, rfl, hF, hbW103⟩
                      have hRW103 := hRW102.grow hbW103
                      refine hK _ _ ⟨hRW103, ?_⟩
                      clear hK K
                      have lx9 := lt_some hx9
                      have lx10 := lt_some hx10
                      have hx9 := heap_ext hx9 hbW103
                      have hx10 := heap_ext hx10 hbW103
                      have hbG := Below.refl W103.heap.size W103
                      refine wpAnyE_all (rs := [1]) (by kernel_rfl) (by simp) (fun W104 hW104 hRW104 i hi => ?_)
                      have hx9 := heap_ext hx9 hW104
                      have hx10 := heap_ext hx10 hW104
                      have hbG := bcall hbG hbG.size hW104
                      obtain rfl := List.mem_singleton.1 hi
                      refine wpOp_step rfl (fun K hK => ?_)
                      go_simp
                      refine hK _ _ ⟨hRW104.grow (one_alloc _ _), ?_⟩
                      clear hK K
                      have lyhx9 := lt_some hx9
                      have lyhx10 := lt_some hx10
                      have lw1 := hbG.size
                      have hx9 := heap_old (o' := (Obj.cells #[.int .i64 0, .int .i64 0, .int .i64 1] 3)) hx9
                      have hx10 := heap_old (o' := (Obj.cells #[.int .i64 0, .int .i64 0, .int .i64 1] 3)) hx10
                      have hbG := hbG.alloc hbG.size (Obj.cells #[.int .i64 0, .int .i64 0, .int .i64 1] 3)
                      have lS := heap_new (w := W104) (o := (Obj.cells #[.int .i64 0, .int .i64 0, .int .i64 1] 3)) rfl
                      have hz1 : w0.heap.size ≤ W104.heap.size := hRW104.b.size
                      have hRS := (hRW104.grow (one_alloc W104 (Obj.cells #[.int .i64 0, .int .i64 0, .int .i64 1] 3)))
                      refine wpAnyE_go (w0 := w0) (w1 := (W104.alloc (Obj.cells #[.int .i64 0, .int .i64 0, .int .i64 1] 3))) (X := [W1.heap.size, W76.heap.size]) (RK.move hRS (by intro g hg; simp at hg ⊢; omega)) (RK.here hRS) [3, 4, 5, 6, 7, 8] 3 (by kernel_rfl) ?_
                      apply Exists.intro
                      refine ⟨fun G hG hN => ?_, ?_⟩
                      · simp only [pickOps, List.getElem?_toArray, List.getElem?_cons_zero, List.getElem?_cons_succ]
                        repeat (first | go_big_quiet_step ((first | (go_at_call 10; exact calls_ge (RK.grows _ _ _) hG (half_values A c (some ⟨W104.heap.size, 0, none⟩) 3 _ (hF.rk2 hbG (GE.h _) (by simp <;> omega)) (pin_lit (RK.at (GE.h _) lS (by simp <;> omega)) rfl (by decide) (by decide) (by decide) (by decide)))))) | quiet_step ((first | (go_at_call 10; exact calls_ge (RK.grows _ _ _) hG (half_values A c (some ⟨W104.heap.size, 0, none⟩) 3 _ (hF.rk2 hbG (GE.h _) (by simp <;> omega)) (pin_lit (RK.at (GE.h _) lS (by simp <;> omega)) rfl (by decide) (by decide) (by decide) (by decide)))))))
                        exact wpQuiet_nil rfl
                      refine wpAnyE_all (rs := [11]) (by kernel_rfl) (by simp) (fun W105 hW105 hRW105 i hi => ?_)
                      obtain rfl := List.mem_singleton.1 hi
                      have hx9 := heap_ext hx9 hW105
                      have hx10 := heap_ext hx10 hW105
                      have ck := fun j => cell_of_row _ _ j _ _ _ hx9
                      have fk := fun j => frozen_of_row _ _ j _ _ hx9
                      refine wpOp_step rfl (fun K hK => ?_)
                      go_simp
                      refine hK _ _ ⟨(hRW105.set hz9 (by first | exact Or.inr hg9 | simp)).set hz9 (by first | exact Or.inr hg9 | simp), ?_⟩
                      clear hK K
                      clear ck fk
                      have hx10 := heap_set_ne2 (g := W1.heap.size) (j := 0) (j2 := 1) (u := .int .i64 ((Rt.mk 6 1)).n) (u2 := .int .i64 ((Rt.mk 6 1)).d) (by first | exact hne | exact Ne.symm hne) hx10
                      have hx9 := heap_set2 (u := .int .i64 ((Rt.mk 6 1)).n) (u2 := .int .i64 ((Rt.mk 6 1)).d) hx9
                      refine wpAnyE_all (rs := [12]) (by kernel_rfl) (by simp) (fun W106 hW106 hRW106 i hi => ?_)
                      obtain rfl := List.mem_singleton.1 hi
                      have hx9 := heap_ext hx9 hW106
                      have hx10 := heap_ext hx10 hW106
                      have ck := fun j => cell_of_row _ _ j _ _ _ hx10
                      have fk := fun j => frozen_of_row _ _ j _ _ hx10
                      refine wpOp_step rfl (fun K hK => ?_)
                      go_simp
                      refine hK _ _ ⟨(hRW106.set hz10 (by first | exact Or.inr hg10 | simp)).set hz10 (by first | exact Or.inr hg10 | simp), ?_⟩
                      clear hK K
                      clear ck fk
                      have hx9 := heap_set_ne2 (g := W76.heap.size) (j := 0) (j2 := 1) (u := .int .i64 ((Rt.mk 6 1)).n) (u2 := .int .i64 ((Rt.mk 6 1)).d) (by first | exact hne | exact Ne.symm hne) hx9
                      have hx10 := heap_set2 (u := .int .i64 ((Rt.mk 6 1)).n) (u2 := .int .i64 ((Rt.mk 6 1)).d) hx10
                      refine wpAnyE_all (rs := [13]) (by kernel_rfl) (by simp) (fun W107 hW107 hRW107 i hi => ?_)
                      obtain rfl := List.mem_singleton.1 hi
                      have hx9 := heap_ext hx9 hW107
                      have hx10 := heap_ext hx10 hW107
                      refine wpOp_step rfl (fun K hK => ?_)
                      go_simp
                      refine hK _ _ ⟨hRW107, ?_⟩
                      clear hK K
                      refine wpAnyE_done (by kernel_rfl) (fun W108 hW108 hRW108 => ?_) _
                      refine NoPanic.normal ?_
                      have hx9 := heap_ext hx9 hW108
                      have hx10 := heap_ext hx10 hW108
                      go_wp2_with fail
                      go_meet
                      exact ⟨_, _, rfl, rfl, rfl, bcall hb0 hb0.size hRW108.b, hx9, hx10⟩
                    · obtain rfl := List.mem_singleton.1 hi
                      refine wpOp_step rfl (fun K hK => ?_)
                      go_simp
                      refine hK _ _ ⟨hRW102.grow (one_alloc _ _), ?_⟩
                      clear hK K
                      have lyhx9 := lt_some hx9
                      have lyhx10 := lt_some hx10
                      have hx9 := heap_old (o' := (Obj.cells #[.int .i64 0, .int .i64 0, .int .i64 1] 3)) hx9
                      have hx10 := heap_old (o' := (Obj.cells #[.int .i64 0, .int .i64 0, .int .i64 1] 3)) hx10
                      have lS := heap_new (w := W102) (o := (Obj.cells #[.int .i64 0, .int .i64 0, .int .i64 1] 3)) rfl
                      have hz1 : w0.heap.size ≤ W102.heap.size := hRW102.b.size
                      have hRS0 := (hRW102.grow (one_alloc W102 (Obj.cells #[.int .i64 0, .int .i64 0, .int .i64 1] 3)))
                      refine wpAnyE_go (w0 := w0) (w1 := (W102.alloc (Obj.cells #[.int .i64 0, .int .i64 0, .int .i64 1] 3))) (X := [W1.heap.size, W76.heap.size]) (RK.move hRS0 (by intro g hg; simp at hg ⊢; omega)) (RK.here hRS0) [3] 9 (by kernel_rfl) ?_
                      apply Exists.intro
                      refine ⟨fun G hG hN => ?_, ?_⟩
                      · simp only [pickOps, List.getElem?_toArray, List.getElem?_cons_zero, List.getElem?_cons_succ]
                        repeat (first | go_big_quiet_step (fail) | quiet_step (fail))
                        exact wpQuiet_nil rfl
                      refine wpAnyE_all (rs := [0]) (by kernel_rfl) (by simp) (fun W109 hW109 hRW109 i hi => ?_)
                      have hx9 := heap_ext hx9 hW109
                      have hx10 := heap_ext hx10 hW109
                      have lS := heap_ext lS hW109
                      obtain rfl := List.mem_singleton.1 hi
                      refine wpOp_step rfl (fun K hK => ?_)
                      go_simp
                      refine Calls.mono (given_any W109) ?_
                      rintro e W110 ⟨A, c, rfl, hF, hbW110⟩
                      have hRW110 := hRW109.grow hbW110
                      refine hK _ _ ⟨hRW110, ?_⟩
                      clear hK K
                      have lx9 := lt_some hx9
                      have lx10 := lt_some hx10
                      have hx9 := heap_ext hx9 hbW110
                      have hx10 := heap_ext hx10 hbW110
                      have lS := heap_ext lS hbW110
                      have hbG := Below.refl W110.heap.size W110
                      have hRS := hRW110
                      refine wpAnyE_go (w0 := w0) (w1 := W110) (X := [W1.heap.size, W76.heap.size]) (RK.move hRS (by intro g hg; simp at hg ⊢; omega)) (RK.here hRS) [4, 5, 6, 7, 8] 3 (by kernel_rfl) ?_
                      apply Exists.intro
                      refine ⟨fun G hG hN => ?_, ?_⟩
                      · simp only [pickOps, List.getElem?_toArray, List.getElem?_cons_zero, List.getElem?_cons_succ]
                        repeat (first | go_big_quiet_step ((first | (go_at_call 10; exact calls_ge (RK.grows _ _ _) hG (half_values A c (some ⟨W102.heap.size, 0, none⟩) 3 _ (hF.rk2 hbG (GE.h _) (by simp <;> omega)) (pin_lit (RK.at (GE.h _) lS (by simp <;> omega)) rfl (by decide) (by decide) (by decide) (by decide)))))) | quiet_step ((first | (go_at_call 10; exact calls_ge (RK.grows _ _ _) hG (half_values A c (some ⟨W102.heap.size, 0, none⟩) 3 _ (hF.rk2 hbG (GE.h _) (by simp <;> omega)) (pin_lit (RK.at (GE.h _) lS (by simp <;> omega)) rfl (by decide) (by decide) (by decide) (by decide)))))))
                        exact wpQuiet_nil rfl
                      refine wpAnyE_all (rs := [11]) (by kernel_rfl) (by simp) (fun W111 hW111 hRW111 i hi => ?_)
                      obtain rfl := List.mem_singleton.1 hi
                      have hx9 := heap_ext hx9 hW111
                      have hx10 := heap_ext hx10 hW111
                      have ck := fun j => cell_of_row _ _ j _ _ _ hx9
                      have fk := fun j => frozen_of_row _ _ j _ _ hx9
                      refine wpOp_step rfl (fun K hK => ?_)
                      go_simp
                      refine hK _ _ ⟨(hRW111.set hz9 (by first | exact Or.inr hg9 | simp)).set hz9 (by first | exact Or.inr hg9 | simp), ?_⟩
                      clear hK K
                      clear ck fk
                      have hx10 := heap_set_ne2 (g := W1.heap.size) (j := 0) (j2 := 1) (u := .int .i64 ((Rt.mk 6 1)).n) (u2 := .int .i64 ((Rt.mk 6 1)).d) (by first | exact hne | exact Ne.symm hne) hx10
                      have hx9 := heap_set2 (u := .int .i64 ((Rt.mk 6 1)).n) (u2 := .int .i64 ((Rt.mk 6 1)).d) hx9
                      refine wpAnyE_all (rs := [12]) (by kernel_rfl) (by simp) (fun W112 hW112 hRW112 i hi => ?_)
                      obtain rfl := List.mem_singleton.1 hi
                      have hx9 := heap_ext hx9 hW112
                      have hx10 := heap_ext hx10 hW112
                      have ck := fun j => cell_of_row _ _ j _ _ _ hx10
                      have fk := fun j => frozen_of_row _ _ j _ _ hx10
                      refine wpOp_step rfl (fun K hK => ?_)
                      go_simp
                      refine hK _ _ ⟨(hRW112.set hz10 (by first | exact Or.inr hg10 | simp)).set hz10 (by first | exact Or.inr hg10 | simp), ?_⟩
                      clear hK K
                      clear ck fk
                      have hx9 := heap_set_ne2 (g := W76.heap.size) (j := 0) (j2 := 1) (u := .int .i64 ((Rt.mk 6 1)).n) (u2 := .int .i64 ((Rt.mk 6 1)).d) (by first | exact hne | exact Ne.symm hne) hx9
                      have hx10 := heap_set2 (u := .int .i64 ((Rt.mk 6 1)).n) (u2 := .int .i64 ((Rt.mk 6 1)).d) hx10
                      refine wpAnyE_all (rs := [13]) (by kernel_rfl) (by simp) (fun W113 hW113 hRW113 i hi => ?_)
                      obtain rfl := List.mem_singleton.1 hi
                      have hx9 := heap_ext hx9 hW113
                      have hx10 := heap_ext hx10 hW113
                      refine wpOp_step rfl (fun K hK => ?_)
                      go_simp
                      refine hK _ _ ⟨hRW113, ?_⟩
                      clear hK K
                      refine wpAnyE_done (by kernel_rfl) (fun W114 hW114 hRW114 => ?_) _
                      refine NoPanic.normal ?_
                      have hx9 := heap_ext hx9 hW114
                      have hx10 := heap_ext hx10 hW114
                      go_wp2_with fail
                      go_meet
                      exact ⟨_, _, rfl, rfl, rfl, bcall hb0 hb0.size hRW114.b, hx9, hx10⟩
              · obtain rfl := List.mem_singleton.1 hi
                refine wpOp_step rfl (fun K hK => ?_)
                go_simp
                refine hK _ _ ⟨hRW1.grow (one_alloc _ _), ?_⟩
                clear hK K
                have hx10 := heap_new (w := W1) (o := (Obj.cells #[.int .i64 0, .int .i64 0] 27)) rfl
                have hz10 : w0.heap.size ≤ W1.heap.size := hRW1.b.size
                refine wpAnyE_all (rs := [0, 1, 9]) (by kernel_rfl) (by simp) (fun W115 hW115 hRW115 i hi => ?_)
                have hx10 := heap_ext hx10 hW115
                rcases List.mem_cons.1 hi with rfl | hi
                · refine wpOp_step rfl (fun K hK => ?_)
                  go_simp
                  refine Calls.mono (given_any W115) ?_
                  rintro e W116 ⟨A, c, rfl, hF, hbW116⟩
                  have hRW116 := hRW115.grow hbW116
                  refine hK _ _ ⟨hRW116, ?_⟩
                  clear hK K
                  have lx10 := lt_some hx10
                  have hx10 := heap_ext hx10 hbW116
                  have hbG := Below.refl W116.heap.size W116
                  refine wpAnyE_all (rs := [1, 9]) (by kernel_rfl) (by simp) (fun W117 hW117 hRW117 i hi => ?_)
                  have hx10 := heap_ext hx10 hW117
                  have hbG := bcall hbG hbG.size hW117
                  rcases List.mem_cons.1 hi with rfl | hi
                  · refine wpOp_step rfl (fun K hK => ?_)
                    go_simp
                    refine hK _ _ ⟨hRW117.grow (one_alloc _ _), ?_⟩
                    clear hK K
                    have lyhx10 := lt_some hx10
                    have lw1 := hbG.size
                    have hx10 := heap_old (o' := (Obj.cells #[.int .i64 0, .int .i64 0, .int .i64 1] 3)) hx10
                    have hbG := hbG.alloc hbG.size (Obj.cells #[.int .i64 0, .int .i64 0, .int .i64 1] 3)
                    have lS := heap_new (w := W117) (o := (Obj.cells #[.int .i64 0, .int .i64 0, .int .i64 1] 3)) rfl
                    have hz1 : w0.heap.size ≤ W117.heap.size := hRW117.b.size
                    have hRS := (hRW117.grow (one_alloc W117 (Obj.cells #[.int .i64 0, .int .i64 0, .int .i64 1] 3)))
                    refine wpAnyE_go (w0 := w0) (w1 := (W117.alloc (Obj.cells #[.int .i64 0, .int .i64 0, .int .i64 1] 3))) (X := [W1.heap.size]) (RK.move hRS (by intro g hg; simp at hg ⊢; omega)) (RK.here hRS) [3, 4, 5, 6, 7, 8] 4 (by kernel_rfl) ?_
                    apply Exists.intro
                    refine ⟨fun G hG hN => ?_, ?_⟩
                    · simp only [pickOps, List.getElem?_toArray, List.getElem?_cons_zero, List.getElem?_cons_succ]
                      repeat (first | go_big_quiet_step ((first | (go_at_call 10; exact calls_ge (RK.grows _ _ _) hG (half_values A c (some ⟨W117.heap.size, 0, none⟩) 3 _ (hF.rk2 hbG (GE.h _) (by simp <;> omega)) (pin_lit (RK.at (GE.h _) lS (by simp <;> omega)) rfl (by decide) (by decide) (by decide) (by decide)))))) | quiet_step ((first | (go_at_call 10; exact calls_ge (RK.grows _ _ _) hG (half_values A c (some ⟨W117.heap.size, 0, none⟩) 3 _ (hF.rk2 hbG (GE.h _) (by simp <;> omega)) (pin_lit (RK.at (GE.h _) lS (by simp <;> omega)) rfl (by decide) (by decide) (by decide) (by decide)))))))
                      exact wpQuiet_nil rfl
                    refine wpAnyE_all (rs := [9]) (by kernel_rfl) (by simp) (fun W118 hW118 hRW118 i hi => ?_)
                    have hx10 := heap_ext hx10 hW118
                    have lS := heap_ext lS hW118
                    have hbG := bcall hbG hbG.size hW118
                    obtain rfl := List.mem_singleton.1 hi
                    refine wpOp_step rfl (fun K hK => ?_)
                    go_simp
                    refine hK _ _ ⟨hRW118.grow (one_alloc _ _), ?_⟩
                    clear hK K
                    have lyhx10 := lt_some hx10
                    have lylS := lt_some lS
                    have lw9 := hbG.size
                    have hx10 := heap_old (o' := (Obj.cells #[.int .i64 0, .int .i64 0] 27)) hx10
                    have lS := heap_old (o' := (Obj.cells #[.int .i64 0, .int .i64 0] 27)) lS
                    have hbG := hbG.alloc hbG.size (Obj.cells #[.int .i64 0, .int .i64 0] 27)
                    have hx9 := heap_new (w := W118) (o := (Obj.cells #[.int .i64 0, .int .i64 0] 27)) rfl
                    have hz9 : w0.heap.size ≤ W118.heap.size := hRW118.b.size
                    have hg9 : (W117.alloc (Obj.cells #[.int .i64 0, .int .i64 0, .int .i64 1] 3)).heap.size ≤ W118.heap.size := hRW118.s
                    have hne : W1.heap.size ≠ W118.heap.size := by have := lt_some hx10; have := lyhx10; omega
                    refine wpAnyE_all (rs := [11]) (by kernel_rfl) (by simp) (fun W119 hW119 hRW119 i hi => ?_)
                    obtain rfl := List.mem_singleton.1 hi
                    have hx9 := heap_ext hx9 hW119
                    have hx10 := heap_ext hx10 hW119
                    have ck := fun j => cell_of_row _ _ j _ _ _ hx9
                    have fk := fun j => frozen_of_row _ _ j _ _ hx9
                    refine wpOp_step rfl (fun K hK => ?_)
                    go_simp
                    refine hK _ _ ⟨(hRW119.set hz9 (by first | exact Or.inr hg9 | simp)).set hz9 (by first | exact Or.inr hg9 | simp), ?_⟩
                    clear hK K
                    clear ck fk
                    have hx10 := heap_set_ne2 (g := W118.heap.size) (j := 0) (j2 := 1) (u := .int .i64 ((Rt.mk 6 1)).n) (u2 := .int .i64 ((Rt.mk 6 1)).d) (by first | exact hne | exact Ne.symm hne) hx10
                    have hx9 := heap_set2 (u := .int .i64 ((Rt.mk 6 1)).n) (u2 := .int .i64 ((Rt.mk 6 1)).d) hx9
                    refine wpAnyE_all (rs := [12]) (by kernel_rfl) (by simp) (fun W120 hW120 hRW120 i hi => ?_)
                    obtain rfl := List.mem_singleton.1 hi
                    have hx9 := heap_ext hx9 hW120
                    have hx10 := heap_ext hx10 hW120
                    have ck := fun j => cell_of_row _ _ j _ _ _ hx10
                    have fk := fun j => frozen_of_row _ _ j _ _ hx10
                    refine wpOp_step rfl (fun K hK => ?_)
                    go_simp
                    refine hK _ _ ⟨(hRW120.set hz10 (by first | exact Or.inr hg10 | simp)).set hz10 (by first | exact Or.inr hg10 | simp), ?_⟩
                    clear hK K
                    clear ck fk
                    have hx9 := heap_set_ne2 (g := W1.heap.size) (j := 0) (j2 := 1) (u := .int .i64 ((Rt.mk 6 1)).n) (u2 := .int .i64 ((Rt.mk 6 1)).d) (by first | exact hne | exact Ne.symm hne) hx9
                    have hx10 := heap_set2 (u := .int .i64 ((Rt.mk 6 1)).n) (u2 := .int .i64 ((Rt.mk 6 1)).d) hx10
                    refine wpAnyE_all (rs := [13]) (by kernel_rfl) (by simp) (fun W121 hW121 hRW121 i hi => ?_)
                    obtain rfl := List.mem_singleton.1 hi
                    have hx9 := heap_ext hx9 hW121
                    have hx10 := heap_ext hx10 hW121
                    refine wpOp_step rfl (fun K hK => ?_)
                    go_simp
                    refine hK _ _ ⟨hRW121, ?_⟩
                    clear hK K
                    refine wpAnyE_done (by kernel_rfl) (fun W122 hW122 hRW122 => ?_) _
                    refine NoPanic.normal ?_
                    have hx9 := heap_ext hx9 hW122
                    have hx10 := heap_ext hx10 hW122
                    go_wp2_with fail
                    go_meet
                    exact ⟨_, _, rfl, rfl, rfl, bcall hb0 hb0.size hRW122.b, hx9, hx10⟩
                  · obtain rfl := List.mem_singleton.1 hi
                    refine wpOp_step rfl (fun K hK => ?_)
                    go_simp
                    refine hK _ _ ⟨hRW117.grow (one_alloc _ _), ?_⟩
                    clear hK K
                    have lyhx10 := lt_some hx10
                    have lw9 := hbG.size
                    have hx10 := heap_old (o' := (Obj.cells #[.int .i64 0, .int .i64 0] 27)) hx10
                    have hbG := hbG.alloc hbG.size (Obj.cells #[.int .i64 0, .int .i64 0] 27)
                    have hx9 := heap_new (w := W117) (o := (Obj.cells #[.int .i64 0, .int .i64 0] 27)) rfl
                    have hz9 : w0.heap.size ≤ W117.heap.size := hRW117.b.size
                    have hne : W1.heap.size ≠ W117.heap.size := by have := lt_some hx10; have := lyhx10; omega
                    refine wpAnyE_all (rs := [1]) (by kernel_rfl) (by simp) (fun W123 hW123 hRW123 i hi => ?_)
                    have hx10 := heap_ext hx10 hW123
                    have hx9 := heap_ext hx9 hW123
                    have hbG := bcall hbG hbG.size hW123
                    obtain rfl := List.mem_singleton.1 hi
                    refine wpOp_step rfl (fun K hK => ?_)
                    go_simp
                    refine hK _ _ ⟨hRW123.grow (one_alloc _ _), ?_⟩
                    clear hK K
                    have lyhx10 := lt_some hx10
                    have lyhx9 := lt_some hx9
                    have lw1 := hbG.size
                    have hx10 := heap_old (o' := (Obj.cells #[.int .i64 0, .int .i64 0, .int .i64 1] 3)) hx10
                    have hx9 := heap_old (o' := (Obj.cells #[.int .i64 0, .int .i64 0, .int .i64 1] 3)) hx9
                    have hbG := hbG.alloc hbG.size (Obj.cells #[.int .i64 0, .int .i64 0, .int .i64 1] 3)
                    have lS := heap_new (w := W123) (o := (Obj.cells #[.int .i64 0, .int .i64 0, .int .i64 1] 3)) rfl
                    have hz1 : w0.heap.size ≤ W123.heap.size := hRW123.b.size
                    have hRS := (hRW123.grow (one_alloc W123 (Obj.cells #[.int .i64 0, .int .i64 0, .int .i64 1] 3)))
                    refine wpAnyE_go (w0 := w0) (w1 := (W123.alloc (Obj.cells #[.int .i64 0, .int .i64 0, .int .i64 1] 3))) (X := [W1.heap.size, W117.heap.size]) (RK.move hRS (by intro g hg; simp at hg ⊢; omega)) (RK.here hRS) [3, 4, 5, 6, 7, 8] 3 (by kernel_rfl) ?_
                    apply Exists.intro
                    refine ⟨fun G hG hN => ?_, ?_⟩
                    · simp only [pickOps, List.getElem?_toArray, List.getElem?_cons_zero, List.getElem?_cons_succ]
                      repeat (first | go_big_quiet_step ((first | (go_at_call 10; exact calls_ge (RK.grows _ _ _) hG (half_values A c (some ⟨W123.heap.size, 0, none⟩) 3 _ (hF.rk2 hbG (GE.h _) (by simp <;> omega)) (pin_lit (RK.at (GE.h _) lS (by simp <;> omega)) rfl (by decide) (by decide) (by decide) (by decide)))))) | quiet_step ((first | (go_at_call 10; exact calls_ge (RK.grows _ _ _) hG (half_values A c (some ⟨W123.heap.size, 0, none⟩) 3 _ (hF.rk2 hbG (GE.h _) (by simp <;> omega)) (pin_lit (RK.at (GE.h _) lS (by simp <;> omega)) rfl (by decide) (by decide) (by decide) (by decide)))))))
                      exact wpQuiet_nil rfl
                    refine wpAnyE_all (rs := [11]) (by kernel_rfl) (by simp) (fun W124 hW124 hRW124 i hi => ?_)
                    obtain rfl := List.mem_singleton.1 hi
                    have hx9 := heap_ext hx9 hW124
                    have hx10 := heap_ext hx10 hW124
                    have ck := fun j => cell_of_row _ _ j _ _ _ hx9
                    have fk := fun j => frozen_of_row _ _ j _ _ hx9
                    refine wpOp_step rfl (fun K hK => ?_)
                    go_simp
                    refine hK _ _ ⟨(hRW124.set hz9 (by first | exact Or.inr hg9 | simp)).set hz9 (by first | exact Or.inr hg9 | simp), ?_⟩
                    clear hK K
                    clear ck fk
                    have hx10 := heap_set_ne2 (g := W117.heap.size) (j := 0) (j2 := 1) (u := .int .i64 ((Rt.mk 6 1)).n) (u2 := .int .i64 ((Rt.mk 6 1)).d) (by first | exact hne | exact Ne.symm hne) hx10
                    have hx9 := heap_set2 (u := .int .i64 ((Rt.mk 6 1)).n) (u2 := .int .i64 ((Rt.mk 6 1)).d) hx9
                    refine wpAnyE_all (rs := [12]) (by kernel_rfl) (by simp) (fun W125 hW125 hRW125 i hi => ?_)
                    obtain rfl := List.mem_singleton.1 hi
                    have hx9 := heap_ext hx9 hW125
                    have hx10 := heap_ext hx10 hW125
                    have ck := fun j => cell_of_row _ _ j _ _ _ hx10
                    have fk := fun j => frozen_of_row _ _ j _ _ hx10
                    refine wpOp_step rfl (fun K hK => ?_)
                    go_simp
                    refine hK _ _ ⟨(hRW125.set hz10 (by first | exact Or.inr hg10 | simp)).set hz10 (by first | exact Or.inr hg10 | simp), ?_⟩
                    clear hK K
                    clear ck fk
                    have hx9 := heap_set_ne2 (g := W1.heap.size) (j := 0) (j2 := 1) (u := .int .i64 ((Rt.mk 6 1)).n) (u2 := .int .i64 ((Rt.mk 6 1)).d) (by first | exact hne | exact Ne.symm hne) hx9
                    have hx10 := heap_set2 (u := .int .i64 ((Rt.mk 6 1)).n) (u2 := .int .i64 ((Rt.mk 6 1)).d) hx10
                    refine wpAnyE_all (rs := [13]) (by kernel_rfl) (by simp) (fun W126 hW126 hRW126 i hi => ?_)
                    obtain rfl := List.mem_singleton.1 hi
                    have hx9 := heap_ext hx9 hW126
                    have hx10 := heap_ext hx10 hW126
                    refine wpOp_step rfl (fun K hK => ?_)
                    go_simp
                    refine hK _ _ ⟨hRW126, ?_⟩
                    clear hK K
                    refine wpAnyE_done (by kernel_rfl) (fun W127 hW127 hRW127 => ?_) _
                    refine NoPanic.normal ?_
                    have hx9 := heap_ext hx9 hW127
                    have hx10 := heap_ext hx10 hW127
                    go_wp2_with fail
                    go_meet
                    exact ⟨_, _, rfl, rfl, rfl, bcall hb0 hb0.size hRW127.b, hx9, hx10⟩
                · rcases List.mem_cons.1 hi with rfl | hi
                  · refine wpOp_step rfl (fun K hK => ?_)
                    go_simp
                    refine hK _ _ ⟨hRW115.grow (one_alloc _ _), ?_⟩
                    clear hK K
                    have lyhx10 := lt_some hx10
                    have hx10 := heap_old (o' := (Obj.cells #[.int .i64 0, .int .i64 0, .int .i64 1] 3)) hx10
                    have lS := heap_new (w := W115) (o := (Obj.cells #[.int .i64 0, .int .i64 0, .int .i64 1] 3)) rfl
                    have hz1 : w0.heap.size ≤ W115.heap.size := hRW115.b.size
                    have hRS0 := (hRW115.grow (one_alloc W115 (Obj.cells #[.int .i64 0, .int .i64 0, .int .i64 1] 3)))
                    refine wpAnyE_go (w0 := w0) (w1 := (W115.alloc (Obj.cells #[.int .i64 0, .int .i64 0, .int .i64 1] 3))) (X := [W1.heap.size]) (RK.move hRS0 (by intro g hg; simp at hg ⊢; omega)) (RK.here hRS0) [3] 10 (by kernel_rfl) ?_
                    apply Exists.intro
                    refine ⟨fun G hG hN => ?_, ?_⟩
                    · simp only [pickOps, List.getElem?_toArray, List.getElem?_cons_zero, List.getElem?_cons_succ]
                      repeat (first | go_big_quiet_step (fail) | quiet_step (fail))
                      exact wpQuiet_nil rfl
                    refine wpAnyE_all (rs := [0, 9]) (by kernel_rfl) (by simp) (fun W128 hW128 hRW128 i hi => ?_)
                    have hx10 := heap_ext hx10 hW128
                    have lS := heap_ext lS hW128
                    rcases List.mem_cons.1 hi with rfl | hi
                    · refine wpOp_step rfl (fun K hK => ?_)
                      go_simp
                      refine Calls.mono (given_any W128) ?_
                      rintro e W129 ⟨A, c, rfl, hF, hbW129⟩
                      have hRW129 := hRW128.grow hbW129
                      refine hK _ _ ⟨hRW129, ?_⟩
                      clear hK K
                      have lx10 := lt_some hx10
                      have hx10 := heap_ext hx10 hbW129
                      have lS := heap_ext lS hbW129
                      have hbG := Below.refl W129.heap.size W129
                      have hRS := hRW129
                      refine wpAnyE_go (w0 := w0) (w1 := W129) (X := [W1.heap.size]) (RK.move hRS (by intro g hg; simp at hg ⊢; omega)) (RK.here hRS) [4, 5, 6, 7, 8] 4 (by kernel_rfl) ?_
                      apply Exists.intro
                      refine ⟨fun G hG hN => ?_, ?_⟩
                      · simp only [pickOps, List.getElem?_toArray, List.getElem?_cons_zero, List.getElem?_cons_succ]
                        repeat (first | go_big_quiet_step ((first | (go_at_call 10; exact calls_ge (RK.grows _ _ _) hG (half_values A c (some ⟨W115.heap.size, 0, none⟩) 3 _ (hF.rk2 hbG (GE.h _) (by simp <;> omega)) (pin_lit (RK.at (GE.h _) lS (by simp <;> omega)) rfl (by decide) (by decide) (by decide) (by decide)))))) | quiet_step ((first | (go_at_call 10; exact calls_ge (RK.grows _ _ _) hG (half_values A c (some ⟨W115.heap.size, 0, none⟩) 3 _ (hF.rk2 hbG (GE.h _) (by simp <;> omega)) (pin_lit (RK.at (GE.h _) lS (by simp <;> omega)) rfl (by decide) (by decide) (by decide) (by decide)))))))
                        exact wpQuiet_nil rfl
                      refine wpAnyE_all (rs := [9]) (by kernel_rfl) (by simp) (fun W130 hW130 hRW130 i hi => ?_)
                      have hx10 := heap_ext hx10 hW130
                      have lS := heap_ext lS hW130
                      have hbG := bcall hbG hbG.size hW130
                      obtain rfl := List.mem_singleton.1 hi
                      refine wpOp_step rfl (fun K hK => ?_)
                      go_simp
                      refine hK _ _ ⟨hRW130.grow (one_alloc _ _), ?_⟩
                      clear hK K
                      have lyhx10 := lt_some hx10
                      have lylS := lt_some lS
                      have lw9 := hbG.size
                      have hx10 := heap_old (o' := (Obj.cells #[.int .i64 0, .int .i64 0] 27)) hx10
                      have lS := heap_old (o' := (Obj.cells #[.int .i64 0, .int .i64 0] 27)) lS
                      have hbG := hbG.alloc hbG.size (Obj.cells #[.int .i64 0, .int .i64 0] 27)
                      have hx9 := heap_new (w := W130) (o := (Obj.cells #[.int .i64 0, .int .i64 0] 27)) rfl
                      have hz9 : w0.heap.size ≤ W130.heap.size := hRW130.b.size
                      have hg9 : W129.heap.size ≤ W130.heap.size := hRW130.s
                      have hne : W1.heap.size ≠ W130.heap.size := by have := lt_some hx10; have := lyhx10; omega
                      refine wpAnyE_all (rs := [11]) (by kernel_rfl) (by simp) (fun W131 hW131 hRW131 i hi => ?_)
                      obtain rfl := List.mem_singleton.1 hi
                      have hx9 := heap_ext hx9 hW131
                      have hx10 := heap_ext hx10 hW131
                      have ck := fun j => cell_of_row _ _ j _ _ _ hx9
                      have fk := fun j => frozen_of_row _ _ j _ _ hx9
                      refine wpOp_step rfl (fun K hK => ?_)
                      go_simp
                      refine hK _ _ ⟨(hRW131.set hz9 (by first | exact Or.inr hg9 | simp)).set hz9 (by first | exact Or.inr hg9 | simp), ?_⟩
                      clear hK K
                      clear ck fk
                      have hx10 := heap_set_ne2 (g := W130.heap.size) (j := 0) (j2 := 1) (u := .int .i64 ((Rt.mk 6 1)).n) (u2 := .int .i64 ((Rt.mk 6 1)).d) (by first | exact hne | exact Ne.symm hne) hx10
                      have hx9 := heap_set2 (u := .int .i64 ((Rt.mk 6 1)).n) (u2 := .int .i64 ((Rt.mk 6 1)).d) hx9
                      refine wpAnyE_all (rs := [12]) (by kernel_rfl) (by simp) (fun W132 hW132 hRW132 i hi => ?_)
                      obtain rfl := List.mem_singleton.1 hi
                      have hx9 := heap_ext hx9 hW132
                      have hx10 := heap_ext hx10 hW132
                      have ck := fun j => cell_of_row _ _ j _ _ _ hx10
                      have fk := fun j => frozen_of_row _ _ j _ _ hx10
                      refine wpOp_step rfl (fun K hK => ?_)
                      go_simp
                      refine hK _ _ ⟨(hRW132.set hz10 (by first | exact Or.inr hg10 | simp)).set hz10 (by first | exact Or.inr hg10 | simp), ?_⟩
                      clear hK K
                      clear ck fk
                      have hx9 := heap_set_ne2 (g := W1.heap.size) (j := 0) (j2 := 1) (u := .int .i64 ((Rt.mk 6 1)).n) (u2 := .int .i64 ((Rt.mk 6 1)).d) (by first | exact hne | exact Ne.symm hne) hx9
                      have hx10 := heap_set2 (u := .int .i64 ((Rt.mk 6 1)).n) (u2 := .int .i64 ((Rt.mk 6 1)).d) hx10
                      refine wpAnyE_all (rs := [13]) (by kernel_rfl) (by simp) (fun W133 hW133 hRW133 i hi => ?_)
                      obtain rfl := List.mem_singleton.1 hi
                      have hx9 := heap_ext hx9 hW133
                      have hx10 := heap_ext hx10 hW133
                      refine wpOp_step rfl (fun K hK => ?_)
                      go_simp
                      refine hK _ _ ⟨hRW133, ?_⟩
                      clear hK K
                      refine wpAnyE_done (by kernel_rfl) (fun W134 hW134 hRW134 => ?_) _
                      refine NoPanic.normal ?_
                      have hx9 := heap_ext hx9 hW134
                      have hx10 := heap_ext hx10 hW134
                      go_wp2_with fail
                      go_meet
                      exact ⟨_, _, rfl, rfl, rfl, bcall hb0 hb0.size hRW134.b, hx9, hx10⟩
                    · obtain rfl := List.mem_singleton.1 hi
                      refine wpOp_step rfl (fun K hK => ?_)
                      go_simp
                      refine hK _ _ ⟨hRW128.grow (one_alloc _ _), ?_⟩
                      clear hK K
                      have lyhx10 := lt_some hx10
                      have lylS := lt_some lS
                      have hx10 := heap_old (o' := (Obj.cells #[.int .i64 0, .int .i64 0] 27)) hx10
                      have lS := heap_old (o' := (Obj.cells #[.int .i64 0, .int .i64 0] 27)) lS
                      have hx9 := heap_new (w := W128) (o := (Obj.cells #[.int .i64 0, .int .i64 0] 27)) rfl
                      have hz9 : w0.heap.size ≤ W128.heap.size := hRW128.b.size
                      have hne : W1.heap.size ≠ W128.heap.size := by have := lt_some hx10; have := lyhx10; omega
                      have hs9 : W115.heap.size + 1 ≤ W128.heap.size := by have := hRW128.s; simpa using this
                      refine wpAnyE_all (rs := [0]) (by kernel_rfl) (by simp) (fun W135 hW135 hRW135 i hi => ?_)
                      have hx10 := heap_ext hx10 hW135
                      have hx9 := heap_ext hx9 hW135
                      have lS := heap_ext lS hW135
                      obtain rfl := List.mem_singleton.1 hi
                      refine wpOp_step rfl (fun K hK => ?_)
                      go_simp
                      refine Calls.mono (given_any W135) ?_
                      rintro e W136 ⟨A, c, rfl, hF, hbW136⟩
                      have hRW136 := hRW135.grow hbW136
                      refine hK _ _ ⟨hRW136, ?_⟩
                      clear hK K
                      have lx10 := lt_some hx10
                      have lx9 := lt_some hx9
                      have hx10 := heap_ext hx10 hbW136
                      have hx9 := heap_ext hx9 hbW136
                      have lS := heap_ext lS hbW136
                      have hbG := Below.refl W136.heap.size W136
                      have hRS := hRW136
                      refine wpAnyE_go (w0 := w0) (w1 := W136) (X := [W1.heap.size, W128.heap.size]) (RK.move hRS (by intro g hg; simp at hg ⊢; omega)) (RK.here hRS) [4, 5, 6, 7, 8] 3 (by kernel_rfl) ?_
                      apply Exists.intro
                      refine ⟨fun G hG hN => ?_, ?_⟩
                      · simp only [pickOps, List.getElem?_toArray, List.getElem?_cons_zero, List.getElem?_cons_succ]
                        repeat (first | go_big_quiet_step ((first | (go_at_call 10; exact calls_ge (RK.grows _ _ _) hG (half_values A c (some ⟨W115.heap.size, 0, none⟩) 3 _ (hF.rk2 hbG (GE.h _) (by simp <;> omega)) (pin_lit (RK.at (GE.h _) lS (by simp <;> omega)) rfl (by decide) (by decide) (by decide) (by decide)))))) | quiet_step ((first | (go_at_call 10; exact calls_ge (RK.grows _ _ _) hG (half_values A c (some ⟨W115.heap.size, 0, none⟩) 3 _ (hF.rk2 hbG (GE.h _) (by simp <;> omega)) (pin_lit (RK.at (GE.h _) lS (by simp <;> omega)) rfl (by decide) (by decide) (by decide) (by decide)))))))
                        exact wpQuiet_nil rfl
                      refine wpAnyE_all (rs := [11]) (by kernel_rfl) (by simp) (fun W137 hW137 hRW137 i hi => ?_)
                      obtain rfl := List.mem_singleton.1 hi
                      have hx9 := heap_ext hx9 hW137
                      have hx10 := heap_ext hx10 hW137
                      have ck := fun j => cell_of_row _ _ j _ _ _ hx9
                      have fk := fun j => frozen_of_row _ _ j _ _ hx9
                      refine wpOp_step rfl (fun K hK => ?_)
                      go_simp
                      refine hK _ _ ⟨(hRW137.set hz9 (by first | exact Or.inr hg9 | simp)).set hz9 (by first | exact Or.inr hg9 | simp), ?_⟩
                      clear hK K
                      clear ck fk
                      have hx10 := heap_set_ne2 (g := W128.heap.size) (j := 0) (j2 := 1) (u := .int .i64 ((Rt.mk 6 1)).n) (u2 := .int .i64 ((Rt.mk 6 1)).d) (by first | exact hne | exact Ne.symm hne) hx10
                      have hx9 := heap_set2 (u := .int .i64 ((Rt.mk 6 1)).n) (u2 := .int .i64 ((Rt.mk 6 1)).d) hx9
                      refine wpAnyE_all (rs := [12]) (by kernel_rfl) (by simp) (fun W138 hW138 hRW138 i hi => ?_)
                      obtain rfl := List.mem_singleton.1 hi
                      have hx9 := heap_ext hx9 hW138
                      have hx10 := heap_ext hx10 hW138
                      have ck := fun j => cell_of_row _ _ j _ _ _ hx10
                      have fk := fun j => frozen_of_row _ _ j _ _ hx10
                      refine wpOp_step rfl (fun K hK => ?_)
                      go_simp
                      refine hK _ _ ⟨(hRW138.set hz10 (by first | exact Or.inr hg10 | simp)).set hz10 (by first | exact Or.inr hg10 | simp), ?_⟩
                      clear hK K
                      clear ck fk
                      have hx9 := heap_set_ne2 (g := W1.heap.size) (j := 0) (j2 := 1) (u := .int .i64 ((Rt.mk 6 1)).n) (u2 := .int .i64 ((Rt.mk 6 1)).d) (by first | exact hne | exact Ne.symm hne) hx9
                      have hx10 := heap_set2 (u := .int .i64 ((Rt.mk 6 1)).n) (u2 := .int .i64 ((Rt.mk 6 1)).d) hx10
                      refine wpAnyE_all (rs := [13]) (by kernel_rfl) (by simp) (fun W139 hW139 hRW139 i hi => ?_)
                      obtain rfl := List.mem_singleton.1 hi
                      have hx9 := heap_ext hx9 hW139
                      have hx10 := heap_ext hx10 hW139
                      refine wpOp_step rfl (fun K hK => ?_)
                      go_simp
                      refine hK _ _ ⟨hRW139, ?_⟩
                      clear hK K
                      refine wpAnyE_done (by kernel_rfl) (fun W140 hW140 hRW140 => ?_) _
                      refine NoPanic.normal ?_
                      have hx9 := heap_ext hx9 hW140
                      have hx10 := heap_ext hx10 hW140
                      go_wp2_with fail
                      go_meet
                      exact ⟨_, _, rfl, rfl, rfl, bcall hb0 hb0.size hRW140.b, hx9, hx10⟩
                  · obtain rfl := List.mem_singleton.1 hi
                    refine wpOp_step rfl (fun K hK => ?_)
                    go_simp
                    refine hK _ _ ⟨hRW115.grow (one_alloc _ _), ?_⟩
                    clear hK K
                    have lyhx10 := lt_some hx10
                    have hx10 := heap_old (o' := (Obj.cells #[.int .i64 0, .int .i64 0] 27)) hx10
                    have hx9 := heap_new (w := W115) (o := (Obj.cells #[.int .i64 0, .int .i64 0] 27)) rfl
                    have hz9 : w0.heap.size ≤ W115.heap.size := hRW115.b.size
                    have hne : W1.heap.size ≠ W115.heap.size := by have := lt_some hx10; have := lyhx10; omega
                    refine wpAnyE_all (rs := [0, 1]) (by kernel_rfl) (by simp) (fun W141 hW141 hRW141 i hi => ?_)
                    have hx10 := heap_ext hx10 hW141
                    have hx9 := heap_ext hx9 hW141
                    rcases List.mem_cons.1 hi with rfl | hi
                    · refine wpOp_step rfl (fun K hK => ?_)
                      go_simp
                      refine Calls.mono (given_any W141) ?_
                      rintro e W142 ⟨A, c, rfl, hF, hbW142⟩
                      have hRW142 := hRW141.grow hbW142
                      refine hK _ _ ⟨hRW142, ?_⟩
                      clear hK K
                      have lx10 := lt_some hx10
                      have lx9 := lt_some hx9
                      have hx10 := heap_ext hx10 hbW142
                      have hx9 := heap_ext hx9 hbW142
                      have hbG := Below.refl W142.heap.size W142
                      refine wpAnyE_all (rs := [1]) (by kernel_rfl) (by simp) (fun W143 hW143 hRW143 i hi => ?_)
                      have hx10 := heap_ext hx10 hW143
                      have hx9 := heap_ext hx9 hW143
                      have hbG := bcall hbG hbG.size hW143
                      obtain rfl := List.mem_singleton.1 hi
                      refine wpOp_step rfl (fun K hK => ?_)
                      go_simp
                      refine hK _ _ ⟨hRW143.grow (one_alloc _ _), ?_⟩
                      clear hK K
                      have lyhx10 := lt_some hx10
                      have lyhx9 := lt_some hx9
                      have lw1 := hbG.size
                      have hx10 := heap_old (o' := (Obj.cells #[.int .i64 0, .int .i64 0, .int .i64 1] 3)) hx10
                      have hx9 := heap_old (o' := (Obj.cells #[.int .i64 0, .int .i64 0, .int .i64 1] 3)) hx9
                      have hbG := hbG.alloc hbG.size (Obj.cells #[.int .i64 0, .int .i64 0, .int .i64 1] 3)
                      have lS := heap_new (w := W143) (o := (Obj.cells #[.int .i64 0, .int .i64 0, .int .i64 1] 3)) rfl
                      have hz1 : w0.heap.size ≤ W143.heap.size := hRW143.b.size
                      have hRS := (hRW143.grow (one_alloc W143 (Obj.cells #[.int .i64 0, .int .i64 0, .int .i64 1] 3)))
                      refine wpAnyE_go (w0 := w0) (w1 := (W143.alloc (Obj.cells #[.int .i64 0, .int .i64 0, .int .i64 1] 3))) (X := [W1.heap.size, W115.heap.size]) (RK.move hRS (by intro g hg; simp at hg ⊢; omega)) (RK.here hRS) [3, 4, 5, 6, 7, 8] 3 (by kernel_rfl) ?_
                      apply Exists.intro
                      refine ⟨fun G hG hN => ?_, ?_⟩
                      · simp only [pickOps, List.getElem?_toArray, List.getElem?_cons_zero, List.getElem?_cons_succ]
                        repeat (first | go_big_quiet_step ((first | (go_at_call 10; exact calls_ge (RK.grows _ _ _) hG (half_values A c (some ⟨W143.heap.size, 0, none⟩) 3 _ (hF.rk2 hbG (GE.h _) (by simp <;> omega)) (pin_lit (RK.at (GE.h _) lS (by simp <;> omega)) rfl (by decide) (by decide) (by decide) (by decide)))))) | quiet_step ((first | (go_at_call 10; exact calls_ge (RK.grows _ _ _) hG (half_values A c (some ⟨W143.heap.size, 0, none⟩) 3 _ (hF.rk2 hbG (GE.h _) (by simp <;> omega)) (pin_lit (RK.at (GE.h _) lS (by simp <;> omega)) rfl (by decide) (by decide) (by decide) (by decide)))))))
                        exact wpQuiet_nil rfl
                      refine wpAnyE_all (rs := [11]) (by kernel_rfl) (by simp) (fun W144 hW144 hRW144 i hi => ?_)
                      obtain rfl := List.mem_singleton.1 hi
                      have hx9 := heap_ext hx9 hW144
                      have hx10 := heap_ext hx10 hW144
                      have ck := fun j => cell_of_row _ _ j _ _ _ hx9
                      have fk := fun j => frozen_of_row _ _ j _ _ hx9
                      refine wpOp_step rfl (fun K hK => ?_)
                      go_simp
                      refine hK _ _ ⟨(hRW144.set hz9 (by first | exact Or.inr hg9 | simp)).set hz9 (by first | exact Or.inr hg9 | simp), ?_⟩
                      clear hK K
                      clear ck fk
                      have hx10 := heap_set_ne2 (g := W115.heap.size) (j := 0) (j2 := 1) (u := .int .i64 ((Rt.mk 6 1)).n) (u2 := .int .i64 ((Rt.mk 6 1)).d) (by first | exact hne | exact Ne.symm hne) hx10
                      have hx9 := heap_set2 (u := .int .i64 ((Rt.mk 6 1)).n) (u2 := .int .i64 ((Rt.mk 6 1)).d) hx9
                      refine wpAnyE_all (rs := [12]) (by kernel_rfl) (by simp) (fun W145 hW145 hRW145 i hi => ?_)
                      obtain rfl := List.mem_singleton.1 hi
                      have hx9 := heap_ext hx9 hW145
                      have hx10 := heap_ext hx10 hW145
                      have ck := fun j => cell_of_row _ _ j _ _ _ hx10
                      have fk := fun j => frozen_of_row _ _ j _ _ hx10
                      refine wpOp_step rfl (fun K hK => ?_)
                      go_simp
                      refine hK _ _ ⟨(hRW145.set hz10 (by first | exact Or.inr hg10 | simp)).set hz10 (by first | exact Or.inr hg10 | simp), ?_⟩
                      clear hK K
                      clear ck fk
                      have hx9 := heap_set_ne2 (g := W1.heap.size) (j := 0) (j2 := 1) (u := .int .i64 ((Rt.mk 6 1)).n) (u2 := .int .i64 ((Rt.mk 6 1)).d) (by first | exact hne | exact Ne.symm hne) hx9
                      have hx10 := heap_set2 (u := .int .i64 ((Rt.mk 6 1)).n) (u2 := .int .i64 ((Rt.mk 6 1)).d) hx10
                      refine wpAnyE_all (rs := [13]) (by kernel_rfl) (by simp) (fun W146 hW146 hRW146 i hi => ?_)
                      obtain rfl := List.mem_singleton.1 hi
                      have hx9 := heap_ext hx9 hW146
                      have hx10 := heap_ext hx10 hW146
                      refine wpOp_step rfl (fun K hK => ?_)
                      go_simp
                      refine hK _ _ ⟨hRW146, ?_⟩
                      clear hK K
                      refine wpAnyE_done (by kernel_rfl) (fun W147 hW147 hRW147 => ?_) _
                      refine NoPanic.normal ?_
                      have hx9 := heap_ext hx9 hW147
                      have hx10 := heap_ext hx10 hW147
                      go_wp2_with fail
                      go_meet
                      exact ⟨_, _, rfl, rfl, rfl, bcall hb0 hb0.size hRW147.b, hx9, hx10⟩
                    · obtain rfl := List.mem_singleton.1 hi
                      refine wpOp_step rfl (fun K hK => ?_)
                      go_simp
                      refine hK _ _ ⟨hRW141.grow (one_alloc _ _), ?_⟩
                      clear hK K
                      have lyhx10 := lt_some hx10
                      have lyhx9 := lt_some hx9
                      have hx10 := heap_old (o' := (Obj.cells #[.int .i64 0, .int .i64 0, .int .i64 1] 3)) hx10
                      have hx9 := heap_old (o' := (Obj.cells #[.int .i64 0, .int .i64 0, .int .i64 1] 3)) hx9
                      have lS := heap_new (w := W141) (o := (Obj.cells #[.int .i64 0, .int .i64 0, .int .i64 1] 3)) rfl
                      have hz1 : w0.heap.size ≤ W141.heap.size := hRW141.b.size
                      have hRS0 := (hRW141.grow (one_alloc W141 (Obj.cells #[.int .i64 0, .int .i64 0, .int .i64 1] 3)))
                      refine wpAnyE_go (w0 := w0) (w1 := (W141.alloc (Obj.cells #[.int .i64 0, .int .i64 0, .int .i64 1] 3))) (X := [W1.heap.size, W115.heap.size]) (RK.move hRS0 (by intro g hg; simp at hg ⊢; omega)) (RK.here hRS0) [3] 9 (by kernel_rfl) ?_
                      apply Exists.intro
                      refine ⟨fun G hG hN => ?_, ?_⟩
                      · simp only [pickOps, List.getElem?_toArray, List.getElem?_cons_zero, List.getElem?_cons_succ]
                        repeat (first | go_big_quiet_step (fail) | quiet_step (fail))
                        exact wpQuiet_nil rfl
                      refine wpAnyE_all (rs := [0]) (by kernel_rfl) (by simp) (fun W148 hW148 hRW148 i hi => ?_)
                      have hx10 := heap_ext hx10 hW148
                      have hx9 := heap_ext hx9 hW148
                      have lS := heap_ext lS hW148
                      obtain rfl := List.mem_singleton.1 hi
                      refine wpOp_step rfl (fun K hK => ?_)
                      go_simp
                      refine Calls.mono (given_any W148) ?_
                      rintro e W149 ⟨A, c, rfl, hF, hbW149⟩
                      have hRW149 := hRW148.grow hbW149
                      refine hK _ _ ⟨hRW149, ?_⟩
                      clear hK K
                      have lx10 := lt_some hx10
                      have lx9 := lt_some hx9
                      have hx10 := heap_ext hx10 hbW149
                      have hx9 := heap_ext hx9 hbW149
                      have lS := heap_ext lS hbW149
                      have hbG := Below.refl W149.heap.size W149
                      have hRS := hRW149
                      refine wpAnyE_go (w0 := w0) (w1 := W149) (X := [W1.heap.size, W115.heap.size]) (RK.move hRS (by intro g hg; simp at hg ⊢; omega)) (RK.here hRS) [4, 5, 6, 7, 8] 3 (by kernel_rfl) ?_
                      apply Exists.intro
                      refine ⟨fun G hG hN => ?_, ?_⟩
                      · simp only [pickOps, List.getElem?_toArray, List.getElem?_cons_zero, List.getElem?_cons_succ]
                        repeat (first | go_big_quiet_step ((first | (go_at_call 10; exact calls_ge (RK.grows _ _ _) hG (half_values A c (some ⟨W141.heap.size, 0, none⟩) 3 _ (hF.rk2 hbG (GE.h _) (by simp <;> omega)) (pin_lit (RK.at (GE.h _) lS (by simp <;> omega)) rfl (by decide) (by decide) (by decide) (by decide)))))) | quiet_step ((first | (go_at_call 10; exact calls_ge (RK.grows _ _ _) hG (half_values A c (some ⟨W141.heap.size, 0, none⟩) 3 _ (hF.rk2 hbG (GE.h _) (by simp <;> omega)) (pin_lit (RK.at (GE.h _) lS (by simp <;> omega)) rfl (by decide) (by decide) (by decide) (by decide)))))))
                        exact wpQuiet_nil rfl
                      refine wpAnyE_all (rs := [11]) (by kernel_rfl) (by simp) (fun W150 hW150 hRW150 i hi => ?_)
                      obtain rfl := List.mem_singleton.1 hi
                      have hx9 := heap_ext hx9 hW150
                      have hx10 := heap_ext hx10 hW150
                      have ck := fun j => cell_of_row _ _ j _ _ _ hx9
                      have fk := fun j => frozen_of_row _ _ j _ _ hx9
                      refine wpOp_step rfl (fun K hK => ?_)
                      go_simp
                      refine hK _ _ ⟨(hRW150.set hz9 (by first | exact Or.inr hg9 | simp)).set hz9 (by first | exact Or.inr hg9 | simp), ?_⟩
                      clear hK K
                      clear ck fk
                      have hx10 := heap_set_ne2 (g := W115.heap.size) (j := 0) (j2 := 1) (u := .int .i64 ((Rt.mk 6 1)).n) (u2 := .int .i64 ((Rt.mk 6 1)).d) (by first | exact hne | exact Ne.symm hne) hx10
                      have hx9 := heap_set2 (u := .int .i64 ((Rt.mk 6 1)).n) (u2 := .int .i64 ((Rt.mk 6 1)).d) hx9
                      refine wpAnyE_all (rs := [12]) (by kernel_rfl) (by simp) (fun W151 hW151 hRW151 i hi => ?_)
                      obtain rfl := List.mem_singleton.1 hi
                      have hx9 := heap_ext hx9 hW151
                      have hx10 := heap_ext hx10 hW151
                      have ck := fun j => cell_of_row _ _ j _ _ _ hx10
                      have fk := fun j => frozen_of_row _ _ j _ _ hx10
                      refine wpOp_step rfl (fun K hK => ?_)
                      go_simp
                      refine hK _ _ ⟨(hRW151.set hz10 (by first | exact Or.inr hg10 | simp)).set hz10 (by first | exact Or.inr hg10 | simp), ?_⟩
                      clear hK K
                      clear ck fk
                      have hx9 := heap_set_ne2 (g := W1.heap.size) (j := 0) (j2 := 1) (u := .int .i64 ((Rt.mk 6 1)).n) (u2 := .int .i64 ((Rt.mk 6 1)).d) (by first | exact hne | exact Ne.symm hne) hx9
                      have hx10 := heap_set2 (u := .int .i64 ((Rt.mk 6 1)).n) (u2 := .int .i64 ((Rt.mk 6 1)).d) hx10
                      refine wpAnyE_all (rs := [13]) (by kernel_rfl) (by simp) (fun W152 hW152 hRW152 i hi => ?_)
                      obtain rfl := List.mem_singleton.1 hi
                      have hx9 := heap_ext hx9 hW152
                      have hx10 := heap_ext hx10 hW152
                      refine wpOp_step rfl (fun K hK => ?_)
                      go_simp
                      refine hK _ _ ⟨hRW152, ?_⟩
                      clear hK K
                      refine wpAnyE_done (by kernel_rfl) (fun W153 hW153 hRW153 => ?_) _
                      refine NoPanic.normal ?_
                      have hx9 := heap_ext hx9 hW153
                      have hx10 := heap_ext hx10 hW153
                      go_wp2_with fail
                      go_meet
                      exact ⟨_, _, rfl, rfl, rfl, bcall hb0 hb0.size hRW153.b, hx9, hx10⟩
        case rest =>
          as_aux_lemma =>
          obtain ⟨g3, g4, rfl, rfl, rfl, hbc, h3, h4⟩ := hcut
          have HB10 := Lib.hid (bcall HB9.out HB9.out.size hbc)
          have h7 := heap_ext h7 hbc
          clear hbc HB9
          generalize wc = wd at *
          go_wp2_with fail
          refine Calls.mono (dv0_any (some ⟨_, 0, none⟩) 2 _ ?_) ?_
          · exact gd_two (heap_old (heap_old (heap_new (by first | rfl | simp)))) (heap_old (heap_new (by first | rfl | simp))) (heap_new (by first | rfl | simp)) rfl rfl rfl rfl (by decide) (by decide)
          rintro e we0 ⟨O0, oc0, rfl, hP, hb⟩
          have hb : Below wd.heap.size wd we0 := bcall (by repeat (first | exact Below.refl _ _ | refine Below.alloc ?_ (by first | (simp; done) | (simp; omega) | omega) _)) (by first | (simp; done) | (simp; omega) | omega) hb
          have h7 := heap_old (o' := pB O0 oc0 dvL0) (heap_ext h7 hb)
          have h3 := heap_old (o' := pB O0 oc0 dvL0) (heap_ext h3 hb)
          have h4 := heap_old (o' := pB O0 oc0 dvL0) (heap_ext h4 hb)
          have hq0 := hP.next (one_alloc we0 (pB O0 oc0 dvL0))
          have hd0 : (we0.alloc (pB O0 oc0 dvL0)).heap[we0.heap.size]? = some (pB O0 oc0 dvL0) := heap_new rfl
          have HB100 := Lib.hid ((bcall HB10.out HB10.out.size hb).alloc (bcall HB10.out HB10.out.size hb).size (pB O0 oc0 dvL0))
          clear hb hP HB10
          go_upto_region 16 with fail
          generalize we0.heap.size = gd0 at *
          generalize we0.alloc _ = wf0 at *
          go_wp2_with fail
          refine Calls.mono (dv1_any (some ⟨_, 0, none⟩) 2 _ ?_) ?_
          · exact gd_two (heap_old (heap_old (heap_new (by first | rfl | simp)))) (heap_old (heap_new (by first | rfl | simp))) (heap_new (by first | rfl | simp)) rfl rfl rfl rfl (by decide) (by decide)
          rintro e we1 ⟨O1, oc1, rfl, hP, hb⟩
          have hb : Below wf0.heap.size wf0 we1 := bcall (by repeat (first | exact Below.refl _ _ | refine Below.alloc ?_ (by first | (simp; done) | (simp; omega) | omega) _)) (by first | (simp; done) | (simp; omega) | omega) hb
          have h7 := heap_old (o' := pB O1 oc1 dvL1) (heap_ext h7 hb)
          have h3 := heap_old (o' := pB O1 oc1 dvL1) (heap_ext h3 hb)
          have h4 := heap_old (o' := pB O1 oc1 dvL1) (heap_ext h4 hb)
          have hd0 := heap_old (o' := pB O1 oc1 dvL1) (heap_ext hd0 hb)
          have hq0 := (hq0.next hb).next (one_alloc we1 (pB O1 oc1 dvL1))
          have hq1 := hP.next (one_alloc we1 (pB O1 oc1 dvL1))
          have hd1 : (we1.alloc (pB O1 oc1 dvL1)).heap[we1.heap.size]? = some (pB O1 oc1 dvL1) := heap_new rfl
          have HB1001 := Lib.hid ((bcall HB100.out HB100.out.size hb).alloc (bcall HB100.out HB100.out.size hb).size (pB O1 oc1 dvL1))
          clear hb hP HB100
          go_upto_region 17 with fail
          generalize we1.heap.size = gd1 at *
          generalize we1.alloc _ = wf1 at *
          go_wp2_with fail
          refine Calls.mono (dv2_any (some ⟨_, 0, none⟩) 2 _ ?_) ?_
          · exact gd_two (heap_old (heap_old (heap_new (by first | rfl | simp)))) (heap_old (heap_new (by first | rfl | simp))) (heap_new (by first | rfl | simp)) rfl rfl rfl rfl (by decide) (by decide)
          rintro e we2 ⟨O2, oc2, rfl, hP, hb⟩
          have hb : Below wf1.heap.size wf1 we2 := bcall (by repeat (first | exact Below.refl _ _ | refine Below.alloc ?_ (by first | (simp; done) | (simp; omega) | omega) _)) (by first | (simp; done) | (simp; omega) | omega) hb
          have h7 := heap_old (o' := pB O2 oc2 dvL2) (heap_ext h7 hb)
          have h3 := heap_old (o' := pB O2 oc2 dvL2) (heap_ext h3 hb)
          have h4 := heap_old (o' := pB O2 oc2 dvL2) (heap_ext h4 hb)
          have hd0 := heap_old (o' := pB O2 oc2 dvL2) (heap_ext hd0 hb)
          have hd1 := heap_old (o' := pB O2 oc2 dvL2) (heap_ext hd1 hb)
          have hq0 := (hq0.next hb).next (one_alloc we2 (pB O2 oc2 dvL2))
          have hq1 := (hq1.next hb).next (one_alloc we2 (pB O2 oc2 dvL2))
          have hq2 := hP.next (one_alloc we2 (pB O2 oc2 dvL2))
          have hd2 : (we2.alloc (pB O2 oc2 dvL2)).heap[we2.heap.size]? = some (pB O2 oc2 dvL2) := heap_new rfl
          have HB10012 := Lib.hid ((bcall HB1001.out HB1001.out.size hb).alloc (bcall HB1001.out HB1001.out.size hb).size (pB O2 oc2 dvL2))
          clear hb hP HB1001
          go_upto_region 18 with fail
          generalize we2.heap.size = gd2 at *
          generalize we2.alloc _ = wf2 at *
          as_aux_lemma =>
          go_wp2_with fail
          refine (given_any _).mono ?_
          rintro e wg ⟨A, c, rfl, hF, hb⟩
          have hbg := hb
          go_wp2_with fail
          refine Calls.mono (top_any A c (some ⟨_, 0, none⟩) 3 _ ?_ ?_) ?_
          · exact hF.ext (one_alloc _ _)
          · exact pin_lit (heap_new (by first | rfl | simp)) rfl (by decide) (by decide) (by decide) (by decide)
          rintro e wh ⟨rfl, hb⟩
          have hb : Below wf2.heap.size wf2 wh := bcall (hbg.alloc hbg.size _) (by first | (have := hbg.size; simp; omega) | omega) hb
          have h7 := heap_ext h7 hb
          have h3 := heap_ext h3 hb
          have h4 := heap_ext h4 hb
          have hd0 := heap_ext hd0 hb
          have hd1 := heap_ext hd1 hb
          have hd2 := heap_ext hd2 hb
          have HQ0 := Lib.hid (hq0.next hb)
          have HQ1 := Lib.hid (hq1.next hb)
          have HQ2 := Lib.hid (hq2.next hb)
          have HBX := Lib.hid (bcall HB10012.out HB10012.out.size hb)
          clear hb hbg hF HB10012 hq0 hq1 hq2
          go_wp2_with fail
          as_aux_lemma =>
          refine wp_region_flow 78 (by kernel_rfl) (by rfl) (fun w0 hb0 => ?_)
          have h7 := heap_ext h7 hb0
          have h3 := heap_ext h3 hb0
          have h4 := heap_ext h4 hb0
          have hd0 := heap_ext hd0 hb0
          have hd1 := heap_ext hd1 hb0
          have hd2 := heap_ext hd2 hb0
          have HQ0 := Lib.hid (HQ0.out.next hb0)
          have HQ1 := Lib.hid (HQ1.out.next hb0)
          have HQ2 := Lib.hid (HQ2.out.next hb0)
          have HBX := Lib.hid (bcall HBX.out HBX.out.size hb0)
          refine wpAnyE_go (w0 := w0) (w1 := w0) (X := []) (fun _ h => h) (RK.start _) [0, 1, 2, 3, 4, 5, 6, 7, 8, 9, 10, 11, 12, 13, 14, 15, 16, 17, 18, 19, 20, 21, 22, 23, 24, 25, 26, 27, 28, 29, 30, 31, 32, 33, 34, 35, 36, 37, 38, 39, 40, 41, 42, 43, 44, 45, 46, 48] 30 (by kernel_rfl) ?_
          apply Exists.intro
          refine ⟨fun G hG hN => ?_, ?_⟩
          · have c_h3 := fun (e : GE (RK w0 w0 []) G) j => cell_of_row e.w _ j _ _ _ ((GE.h e).at h3 (by simp))
            have z_h3 := fun (e : GE (RK w0 w0 []) G) => lt_some ((GE.h e).at h3 (by simp))
            have c_h4 := fun (e : GE (RK w0 w0 []) G) j => cell_of_row e.w _ j _ _ _ ((GE.h e).at h4 (by simp))
            have z_h4 := fun (e : GE (RK w0 w0 []) G) => lt_some ((GE.h e).at h4 (by simp))
            have c_hd0 := fun (e : GE (RK w0 w0 []) G) j => cell_of_row e.w _ j _ _ _ ((GE.h e).at hd0 (by simp))
            have z_hd0 := fun (e : GE (RK w0 w0 []) G) => lt_some ((GE.h e).at hd0 (by simp))
            simp only [pickOps, List.getElem?_toArray, List.getElem?_cons_zero, List.getElem?_cons_succ]
            repeat (first | go_big_quiet_step ((first | (go_at_call 22; exact calls_ge (RK.grows _ _ _) hG (alive_any _)) | (go_at_call 23; exact calls_ge (RK.grows _ _ _) hG (of_any 6 _)))) | quiet_step ((first | (go_at_call 22; exact calls_ge (RK.grows _ _ _) hG (alive_any _)) | (go_at_call 23; exact calls_ge (RK.grows _ _ _) hG (of_any 6 _)))))
            exact wpQuiet_nil rfl
          refine wpAnyE_all (rs := [47]) (by kernel_rfl) (by simp) (fun V1 hV1 hRV1 i hi => ?_)
          obtain rfl := List.mem_singleton.1 hi
          refine wpOp_step rfl (fun K hK => ?_)
          go_simp
          refine hK _ _ ⟨hRV1.grow (one_alloc _ _), ?_⟩
          clear hK K
          have l1 : (V1.alloc (Obj.cells #[.int .i64 0, .int .i64 0, .int .i64 1] 3)).heap[V1.heap.size]? = some (Obj.cells #[.int .i64 0, .int .i64 0, .int .i64 1] 3) := heap_new rfl
          have hU1 := hRV1.grow (one_alloc V1 (Obj.cells #[.int .i64 0, .int .i64 0, .int .i64 1] 3))
          generalize V1.alloc _ = U1 at *
          have h7 := hU1.at h7 (by simp)
          have hd1 := hU1.at hd1 (by simp)
          have hd2 := hU1.at hd2 (by simp)
          refine wpAnyE_go (w0 := w0) (w1 := U1) (X := []) (RK.move hU1 (by simp)) (RK.here hU1) [49, 50, 51, 52, 53, 54, 55, 56, 57] 20 (by kernel_rfl) ?_
          apply Exists.intro
          refine ⟨fun G hG hN => ?_, ?_⟩
          · have c_hd1 := fun (e : GE (RK w0 U1 []) G) j => cell_of_row e.w _ j _ _ _ ((GE.h e).at hd1 (by simp))
            have z_hd1 := fun (e : GE (RK w0 U1 []) G) => lt_some ((GE.h e).at hd1 (by simp))
            simp only [pickOps, List.getElem?_toArray, List.getElem?_cons_zero, List.getElem?_cons_succ]
            repeat (first | go_big_quiet_step ((first | (go_at_call 19; exact calls_ge (RK.grows _ _ _) hG (ptsame_any dvL0 O0 (some ⟨V1.heap.size, 0, none⟩) oc0 3 _ (HQ0.out.next (RK.b (GE.h _))) (pin_lit (RK.at (GE.h _) l1 (by simp)) rfl (by decide) (by decide) (by decide) (by decide)))))) | quiet_step ((first | (go_at_call 19; exact calls_ge (RK.grows _ _ _) hG (ptsame_any dvL0 O0 (some ⟨V1.heap.size, 0, none⟩) oc0 3 _ (HQ0.out.next (RK.b (GE.h _))) (pin_lit (RK.at (GE.h _) l1 (by simp)) rfl (by decide) (by decide) (by decide) (by decide)))))))
            exact wpQuiet_nil rfl
          refine wpAnyE_all (rs := [58]) (by kernel_rfl) (by simp) (fun V2 hV2 hRV2 i hi => ?_)
          obtain rfl := List.mem_singleton.1 hi
          refine wpOp_step rfl (fun K hK => ?_)
          go_simp
          refine hK _ _ ⟨hRV2.grow (one_alloc _ _), ?_⟩
          clear hK K
          have l2 : (V2.alloc (Obj.cells #[.int .i64 0, .int .i64 1] 3)).heap[V2.heap.size]? = some (Obj.cells #[.int .i64 0, .int .i64 1] 3) := heap_new rfl
          have hU2 := hRV2.grow (one_alloc V2 (Obj.cells #[.int .i64 0, .int .i64 1] 3))
          generalize V2.alloc _ = U2 at *
          have h7 := hU2.at h7 (by simp)
          have hd2 := hU2.at hd2 (by simp)
          refine wpAnyE_go (w0 := w0) (w1 := U2) (X := []) (RK.move hU2 (by simp)) (RK.here hU2) [59, 60, 61, 62, 63, 64, 65, 66, 67, 69] 9 (by kernel_rfl) ?_
          apply Exists.intro
          refine ⟨fun G hG hN => ?_, ?_⟩
          · have c_hd2 := fun (e : GE (RK w0 U2 []) G) j => cell_of_row e.w _ j _ _ _ ((GE.h e).at hd2 (by simp))
            have z_hd2 := fun (e : GE (RK w0 U2 []) G) => lt_some ((GE.h e).at hd2 (by simp))
            have c_h7 := fun (e : GE (RK w0 U2 []) G) j => cell_of_row e.w _ j _ _ _ ((GE.h e).at h7 (by simp))
            have z_h7 := fun (e : GE (RK w0 U2 []) G) => lt_some ((GE.h e).at h7 (by simp))
            simp only [pickOps, List.getElem?_toArray, List.getElem?_cons_zero, List.getElem?_cons_succ]
            repeat (first | go_big_quiet_step ((first | (go_at_call 24; exact calls_ge (RK.grows _ _ _) hG (whole_any _ _ _ _)) | (go_at_call 19; exact calls_ge (RK.grows _ _ _) hG (ptsame_any dvL1 O1 (some ⟨V2.heap.size, 0, none⟩) oc1 2 _ (HQ1.out.next (RK.b (GE.h _))) (pin_lit (RK.at (GE.h _) l2 (by simp)) rfl (by decide) (by decide) (by decide) (by decide)))))) | quiet_step ((first | (go_at_call 24; exact calls_ge (RK.grows _ _ _) hG (whole_any _ _ _ _)) | (go_at_call 19; exact calls_ge (RK.grows _ _ _) hG (ptsame_any dvL1 O1 (some ⟨V2.heap.size, 0, none⟩) oc1 2 _ (HQ1.out.next (RK.b (GE.h _))) (pin_lit (RK.at (GE.h _) l2 (by simp)) rfl (by decide) (by decide) (by decide) (by decide)))))))
            exact wpQuiet_nil rfl
          refine wpAnyE_all (rs := [68]) (by kernel_rfl) (by simp) (fun V3 hV3 hRV3 i hi => ?_)
          obtain rfl := List.mem_singleton.1 hi
          refine wpOp_step rfl (fun K hK => ?_)
          go_simp
          refine hK _ _ ⟨hRV3.grow (one_alloc _ _), ?_⟩
          clear hK K
          have l3 : (V3.alloc (Obj.cells #[.int .i64 0] 3)).heap[V3.heap.size]? = some (Obj.cells #[.int .i64 0] 3) := heap_new rfl
          have hU3 := hRV3.grow (one_alloc V3 (Obj.cells #[.int .i64 0] 3))
          generalize V3.alloc _ = U3 at *
          have h7 := hU3.at h7 (by simp)
          refine wpAnyE_go (w0 := w0) (w1 := U3) (X := []) (RK.move hU3 (by simp)) (RK.here hU3) [70, 71, 72, 73, 74, 75, 76, 77] 0 (by kernel_rfl) ?_
          apply Exists.intro
          refine ⟨fun G hG hN => ?_, ?_⟩
          · have c_h7 := fun (e : GE (RK w0 U3 []) G) j => cell_of_row e.w _ j _ _ _ ((GE.h e).at h7 (by simp))
            have z_h7 := fun (e : GE (RK w0 U3 []) G) => lt_some ((GE.h e).at h7 (by simp))
            simp only [pickOps, List.getElem?_toArray, List.getElem?_cons_zero, List.getElem?_cons_succ]
            repeat (first | go_big_quiet_step ((first | (go_at_call 19; exact calls_ge (RK.grows _ _ _) hG (ptsame_any dvL2 O2 (some ⟨V3.heap.size, 0, none⟩) oc2 1 _ (HQ2.out.next (RK.b (GE.h _))) (pin_lit (RK.at (GE.h _) l3 (by simp)) rfl (by decide) (by decide) (by decide) (by decide)))))) | quiet_step ((first | (go_at_call 19; exact calls_ge (RK.grows _ _ _) hG (ptsame_any dvL2 O2 (some ⟨V3.heap.size, 0, none⟩) oc2 1 _ (HQ2.out.next (RK.b (GE.h _))) (pin_lit (RK.at (GE.h _) l3 (by simp)) rfl (by decide) (by decide) (by decide) (by decide)))))))
            exact wpQuiet_nil rfl
          refine wpAnyE_done (by kernel_rfl) (fun V4 hV4 hRV4 => ?_) _
          refine NoPanic.normal ?_
          go_wp2_with fail
          go_ret
          exact ⟨rfl, bcall HBX.out HBX.out.size hRV4.b⟩
end Go.Proofs.Ytcjfcfgkejoeeaa
