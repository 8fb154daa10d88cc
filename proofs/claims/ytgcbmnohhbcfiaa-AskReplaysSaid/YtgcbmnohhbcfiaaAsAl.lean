/- The chapter's examples of desks. -/
import Derived.Test.YtgcbmnohhbcfiaaCm16
namespace Go.Proofs.Ytgcbmnohhbcfiaa
open Go.RowKit Go.Deep
set_option linter.unusedVariables false
set_option linter.unusedSimpArgs false

theorem two_fresh {w W : World} {g0 g1 g2 g3 g4 : Nat} (h : Bx w (twoL g0 g1 g2 g3 g4) W) : Fresh w.heap.size W (fun V => CsIn V.heap.size V (some ⟨g4, 0, none⟩) 2 twoK) := fun V hs hk => by
  have e := fun (i : Nat) (p : Nat × Obj) (hi : (twoL g0 g1 g2 g3 g4)[i]? = some p) => (hk p.1 (h.le i hi) (h.lt i hi)).trans (h.get i hi)
  exact cs_two (e 0 _ rfl) ⟨rfl, rfl, rfl⟩ ⟨rfl, rfl, rfl⟩ (two_k0 (e 4 _ rfl) (e 3 _ rfl)) (two_k1 (e 2 _ rfl) (e 1 _ rfl))
def lg1 : List Qy := [⟨0, 2, ⟨0, 1⟩, ⟨1, 1⟩, ⟨1, 1⟩⟩]
def lg2 : List Qy := [⟨0, 2, ⟨0, 1⟩, ⟨1, 1⟩, ⟨1, 1⟩⟩, ⟨1, 2, ⟨0, 1⟩, ⟨1, 1⟩, ⟨1, 3⟩⟩]
def kcT : List Ck := [⟨2, [0, 1, 2], [3, 1]⟩, ⟨2, [0, 2], [1]⟩]
theorem al0 : deskC twoK 0 = 0 := by decide +kernel
theorem al1 : askC twoK 0 0 2 ⟨0, 1⟩ ⟨1, 1⟩ = 0 := by decide +kernel
theorem al2 : ansR (ckAt twoK 0) 2 ⟨0, 1⟩ ⟨1, 1⟩ = ⟨1, 1⟩ := by decide +kernel
theorem al3 : askC twoK 1 1 2 ⟨0, 1⟩ ⟨1, 1⟩ = 0 := by decide +kernel
theorem al4 : ansR (ckAt twoK 1) 2 ⟨0, 1⟩ ⟨1, 1⟩ = ⟨1, 3⟩ := by decide +kernel
theorem al5 : repR twoK lg2 = 2 ∧ deskC twoK lg2.length = 0 := by decide +kernel
theorem al6 : repR kcT lg2 = 0 ∧ deskC kcT lg2.length = 0 := by decide +kernel
theorem al7 : totR twoK 0 0 = 2 ∧ totC twoK 0 0 = 0 ∧ totR twoK 0 1 = 4 ∧ totC twoK 0 1 = 0 := by decide +kernel
theorem al8 : cnt lg2 0 = 1 ∧ cnt lg2 1 = 1 := by decide +kernel
theorem wf01 : Rt.wf ⟨0, 1⟩ := ⟨by decide, by decide, by decide, by decide⟩
theorem wf11 : Rt.wf ⟨1, 1⟩ := ⟨by decide, by decide, by decide, by decide⟩
def AlRes (l : List Qy) (n : Nat) (r : Rt) (W : World) (e : Ending) (w' : World) : Prop := ∃ A c S d, e = .returned (.tuple #[.agg #[.slice A 2 c, .slice S n d], rV r, .int .i64 0]) ∧ Fresh W.heap.size w' (fun V => CsIn V.heap.size V A c twoK ∧ LgIn V.heap.size V S d l) ∧ Below W.heap.size W w'
theorem al_open (A : Option Addr) (c : Nat) (W : World) (h : CsIn W.heap.size W A c twoK) : Calls Try.prog 51 #[.slice A 2 c] W fun e w' => ∃ P cp, e = .returned (.tuple #[.agg #[.slice P 2 cp, (.slice none 0 0)], .int .i64 0]) ∧ Fresh W.heap.size w' (fun V => CsIn V.heap.size V P cp twoK) ∧ Below W.heap.size W w' := by
  refine (askopen_any twoK A c W h).mono ?_
  rintro e w' ⟨P, cp, rfl, hF, hb⟩
  have hk : openK twoK = twoK := if_pos al0
  rw [hk] at hF
  exact ⟨P, cp, by rw [hk, al0]; rfl, hF, hb⟩
theorem al_total (P : Option Addr) (cp : Nat) (g : Int) (x : Int) (hx : totR twoK 0 g = x) (hc : totC twoK 0 g = 0) (W : World) (h : CsIn W.heap.size W P cp twoK) : Calls Try.prog 50 #[.agg #[.slice P 2 cp, (.slice none 0 0)], .int .i64 g] W fun e w' => e = .returned (.tuple #[.int .i64 x, .int .i64 0]) ∧ Below W.heap.size W w' := by
  have := asktotal_any twoK P cp [] none 0 g W h (by unfold maxLen; simp)
  rw [show ([] : List Qy).length = 0 from rfl, hx, hc] at this
  exact this
theorem al_mark1 (P : Option Addr) (cp : Nat) (W : World) (h : CsIn W.heap.size W P cp twoK) : Calls Try.prog 49 #[.agg #[.slice P 2 cp, (.slice none 0 0)], .int .i64 0, rV ⟨0, 1⟩, rV ⟨1, 1⟩] W (AlRes lg1 1 ⟨1, 1⟩ W) := by
  refine (askmark_any twoK P cp [] none 0 0 (by decide) (by decide) ⟨0, 1⟩ ⟨1, 1⟩ wf01 wf11 W h (RIn.nil _ _)).mono ?_
  rintro e w' ⟨A, c, S, d, rfl, hF, hb⟩
  have k1 : askK twoK ([] : List Qy).length 0 2 ⟨0, 1⟩ ⟨1, 1⟩ = twoK := if_pos al1
  have k2 : askL twoK [] 0 2 ⟨0, 1⟩ ⟨1, 1⟩ = lg1 := by unfold askL; rw [show ([] : List Qy).length = 0 from rfl, if_pos al1, al2]; rfl
  have k3 : askR twoK ([] : List Qy).length 0 2 ⟨0, 1⟩ ⟨1, 1⟩ = ⟨1, 1⟩ := (if_pos al1).trans al2
  rw [k1, k2] at hF
  exact ⟨A, c, S, d, by rw [k1, k2, k3]; exact congrArg (fun x => Ending.returned (.tuple #[dV A c twoK S d lg1, rV ⟨1, 1⟩, .int .i64 x])) al1, hF, hb⟩
theorem al_mark2 (P : Option Addr) (cp : Nat) (S0 : Option Addr) (d0 : Nat) (W : World) (h : CsIn W.heap.size W P cp twoK) (hl : LgIn W.heap.size W S0 d0 lg1) : Calls Try.prog 49 #[.agg #[.slice P 2 cp, .slice S0 1 d0], .int .i64 1, rV ⟨0, 1⟩, rV ⟨1, 1⟩] W (AlRes lg2 2 ⟨1, 3⟩ W) := by
  refine (askmark_any twoK P cp lg1 S0 d0 1 (by decide) (by decide) ⟨0, 1⟩ ⟨1, 1⟩ wf01 wf11 W h hl).mono ?_
  rintro e w' ⟨A, c, S, d, rfl, hF, hb⟩
  have k1 : askK twoK lg1.length 1 2 ⟨0, 1⟩ ⟨1, 1⟩ = twoK := if_pos al3
  have k2 : askL twoK lg1 1 2 ⟨0, 1⟩ ⟨1, 1⟩ = lg2 := by unfold askL; rw [show lg1.length = 1 from rfl, if_pos al3, al4]; rfl
  have k3 : askR twoK lg1.length 1 2 ⟨0, 1⟩ ⟨1, 1⟩ = ⟨1, 3⟩ := (if_pos al3).trans al4
  rw [k1, k2] at hF
  exact ⟨A, c, S, d, by rw [k1, k2, k3]; exact congrArg (fun x => Ending.returned (.tuple #[dV A c twoK S d lg2, rV ⟨1, 3⟩, .int .i64 x])) al3, hF, hb⟩
theorem al_replay1 (P : Option Addr) (cp : Nat) (S : Option Addr) (d : Nat) (W : World) (h : CsIn W.heap.size W P cp twoK) (hl : LgIn W.heap.size W S d lg2) : Calls Try.prog 52 #[.slice P 2 cp, .slice S 2 d] W fun e w' => e = .returned (.tuple #[.int .i64 2, .int .i64 0]) ∧ Below W.heap.size W w' := by
  have := askreplay_any twoK P cp lg2 S d W h hl
  rw [al5.1, al5.2] at this
  exact this
theorem al_replay2 (P : Option Addr) (cp : Nat) (S : Option Addr) (d : Nat) (W : World) (h : CsIn W.heap.size W P cp kcT) (hl : LgIn W.heap.size W S d lg2) : Calls Try.prog 52 #[.slice P 2 cp, .slice S 2 d] W fun e w' => e = .returned (.tuple #[.int .i64 0, .int .i64 0]) ∧ Below W.heap.size W w' := by
  have := askreplay_any kcT P cp lg2 S d W h hl
  rw [al6.1, al6.2] at this
  exact this
theorem al_count (S : Option Addr) (d : Nat) (g : Int) (hg : cnt lg2 g = 1) (W : World) (hl : LgIn W.heap.size W S d lg2) : Calls Try.prog 53 #[.slice S 2 d, .int .i64 g] W fun e w' => e = .returned (.int .i64 1) ∧ Below W.heap.size W w' := by
  have := askcount_any lg2 S d g W hl
  rw [hg] at this
  exact this
set_option maxRecDepth 100000 in
set_option maxHeartbeats 32000000 in
theorem askalive_any (w : World) : Calls Try.prog 54 #[] w fun e w' => e = .returned (.bool true) ∧ Below w.heap.size w w' := by
  go_enter Try.func54, Try.ntmps54
  try dsimp only [List.append]
  go_wp2_with fail
  refine (two_any _).mono ?_
  rintro e w1 ⟨g0, g1, g2, g3, g4, rfl, hT⟩
  have hc := two_in hT
  have hbe := hT.below
  clear hT
  go_wp2_with fail
  refine (al_open _ _ _ hc).mono ?_
  rintro e w2 ⟨P, cp, rfl, hF, hb⟩
  have hB2 := (Bx.start w).next (bcall hbe hbe.size hb)
  have hK := hF.here
  clear hb hF hc hbe
  go_upto_region 2 with fail
  have hB3 := hB2.new rfl (.cells #[.slice P 2 cp, (.slice none 0 0)] 76)
  have hK := hK.next (one_alloc w2 (.cells #[.slice P 2 cp, (.slice none 0 0)] 76))
  clear hB2
  generalize w2.heap.size = gD at *
  generalize w2.alloc _ = w3 at *
  have c_d := fun j => cell_of_row _ _ j _ _ _ (hB3.get 0 rfl)
  have z_d := hB3.lt 0 rfl
  go_wp2_with fail
  refine (al_total P cp 0 2 al7.1 al7.2.1 _ hK).mono ?_
  rintro e w4 ⟨rfl, hb⟩
  have hB4 := hB3.next hb
  have hK := hK.next hb
  clear c_d z_d hB3 hb
  have c_d := fun j => cell_of_row _ _ j _ _ _ (hB4.get 0 rfl)
  have z_d := hB4.lt 0 rfl
  go_wp2_with fail
  refine (al_total P cp 1 4 al7.2.2.1 al7.2.2.2 _ hK).mono ?_
  rintro e w5 ⟨rfl, hb⟩
  have hB5 := hB4.next hb
  have hK := hK.next hb
  clear c_d z_d hB4 hb
  have HB5 := Lib.hid hB5.below
  have HD := Lib.hid (fun (V : World) (hV : Below w5.heap.size w5 V) => heap_ext (hB5.get 0 rfl) hV)
  have HK := Lib.hid (fun (V : World) (hV : Below w5.heap.size w5 V) => hK.next hV)
  clear hB5 hK
  go_upto_region 4 with fail
  go_cut [7, 8, 9] (fun s7 s8 s9 wx => ∃ (gA gP : Nat) (A : Option Addr) (cA : Nat) (S : Option Addr) (d : Nat), s7 = .pointer (some ⟨gA, 0, none⟩) ∧ s8 = .pointer (some ⟨gP, 0, none⟩) ∧ s9 = .int .i64 0 ∧ Mx w5 [(gP, rB ⟨1, 1⟩), (gA, .cells #[.slice A 2 cA, .slice S 1 d] 76)] [] wx ∧ Fresh w5.heap.size wx (fun V => CsIn V.heap.size V A cA twoK ∧ LgIn V.heap.size V S d lg1))
  case first =>
    as_aux_lemma =>
      have hA4 := Mx.of_bx (Bx.start w5)
      go_wp2_with fail
      refine wp_region_T (Bx w5 []) 13 (by kernel_rfl) (by rfl) ((hA4.keep (List.nil_sublist _)).drew) (fun wq1 hbq => ?_)
      have hB401 := hA4.next hbq
      clear hA4 hbq
      refine wpAnyT_go (Bx.grows _ _) (hB401.keep (List.nil_sublist _)) [0, 1, 2] 10 (by kernel_rfl) ?_
      apply Exists.intro
      refine ⟨fun G hG hN => ?_, ?_⟩
      · have c_d := fun (e : GE (Bx w5 []) G) j => cell_of_row e.w _ j _ _ _ (HD.out e.w (GE.h e).below)
        have z_d := fun (e : GE (Bx w5 []) G) => lt_some (HD.out e.w (GE.h e).below)
        simp only [pickOps, List.getElem?_toArray, List.getElem?_cons_zero, List.getElem?_cons_succ]
        repeat (first | go_big_quiet_step ((first | (go_at_call 48; exact calls_ge (Bx.grows _ _) hG (lof4_any _ _)))) | quiet_step ((first | (go_at_call 48; exact calls_ge (Bx.grows _ _) hG (lof4_any _ _)))))
        exact wpQuiet_nil rfl
      refine wpAnyT_all (rs := [3, 8, 9]) (by kernel_rfl) (by simp) (fun wa2 hwa2 hRwa2 i hi => ?_)
      have hB402 := hB401.next hwa2
      clear hB401 hwa2 hRwa2
      rcases List.mem_cons.1 hi with rfl | hi
      · refine wpOp_step rfl (fun Kc hKc => ?_)
        go_simp
        refine Calls.mono (al_mark1 P cp _ (HK.out _ hB402.below)) ?_
        rintro e wv3 ⟨A, cA, S, d, rfl, hF, hb⟩
        have hB403 := Mf.start hB402 hb hF
        clear hb hF
        refine hKc _ _ ⟨(hB403.keep (List.nil_sublist _)), ?_⟩
        clear hKc Kc hB402
        refine wpAnyT_go (Bx.grows _ _) (hB403.keep (List.nil_sublist _)) [4, 5, 6, 7] 5 (by kernel_rfl) ?_
        apply Exists.intro
        refine ⟨fun G hG hN => ?_, ?_⟩
        · have c_d := fun (e : GE (Bx w5 []) G) j => cell_of_row e.w _ j _ _ _ (HD.out e.w (GE.h e).below)
          have z_d := fun (e : GE (Bx w5 []) G) => lt_some (HD.out e.w (GE.h e).below)
          simp only [pickOps, List.getElem?_toArray, List.getElem?_cons_zero, List.getElem?_cons_succ]
          repeat (first | go_big_quiet_step ((first | (go_at_call 48; exact calls_ge (Bx.grows _ _) hG (lof4_any _ _)))) | quiet_step ((first | (go_at_call 48; exact calls_ge (Bx.grows _ _) hG (lof4_any _ _)))))
          exact wpQuiet_nil rfl
        refine wpAnyT_all (rs := [8, 9]) (by kernel_rfl) (by simp) (fun wa4 hwa4 hRwa4 i hi => ?_)
        have hB404 := hB403.next hwa4
        clear hB403 hwa4 hRwa4
        rcases List.mem_cons.1 hi with rfl | hi
        · refine wpOp_step rfl (fun Kc hKc => ?_)
          go_simp
          have hB405 := hB404.new (g := wa4.heap.size) rfl (.cells #[(.slice none 0 0), (.slice none 0 0)] 76)
          refine hKc _ _ ⟨(hB405.keep (List.nil_sublist _)), ?_⟩
          clear hKc Kc hB404
          generalize wa4.heap.size = gA at *
          generalize wa4.alloc _ = wb5 at *
          refine wpAnyT_all (rs := [9]) (by kernel_rfl) (by simp) (fun wa6 hwa6 hRwa6 i hi => ?_)
          have hB406 := hB405.next hwa6
          clear hB405 hwa6 hRwa6
          obtain rfl := List.mem_singleton.1 hi
          refine wpOp_step rfl (fun Kc hKc => ?_)
          go_simp
          have hB407 := hB406.new (g := wa6.heap.size) rfl (rB ⟨0, 0⟩)
          refine hKc _ _ ⟨(hB407.keep (List.nil_sublist _)), ?_⟩
          clear hKc Kc hB406
          generalize wa6.heap.size = gP at *
          generalize wa6.alloc _ = wb7 at *
          refine wpAnyT_all (rs := [10]) (by kernel_rfl) (by simp) (fun wa8 hwa8 hRwa8 i hi => ?_)
          have hB408 := hB407.next hwa8
          clear hB407 hwa8 hRwa8
          obtain rfl := List.mem_singleton.1 hi
          refine wpOp_step rfl (fun Kc hKc => ?_)
          have c_bd := fun j => cell_of_row _ _ j _ _ _ (hB408.get 1 rfl)
          have z_bd := hB408.lt 1 rfl
          have f_bd := fun j => frozen_of_row _ _ j _ _ (hB408.get 1 rfl)
          go_simp
          have hB409 := hB408.put2 1 rfl (.slice A 2 cA) (.slice S 1 d)
          refine hKc _ _ ⟨(hB409.keep (List.nil_sublist _)), ?_⟩
          clear c_bd z_bd f_bd hKc Kc hB408
          generalize (wa8.setCell _ _).setCell _ _ = wb9 at *
          refine wpAnyT_all (rs := [11]) (by kernel_rfl) (by simp) (fun wa10 hwa10 hRwa10 i hi => ?_)
          have hB410 := hB409.next hwa10
          clear hB409 hwa10 hRwa10
          obtain rfl := List.mem_singleton.1 hi
          refine wpOp_step rfl (fun Kc hKc => ?_)
          have c_br := fun j => cell_of_row _ _ j _ _ _ (hB410.get 0 rfl)
          have z_br := hB410.lt 0 rfl
          have f_br := fun j => frozen_of_row _ _ j _ _ (hB410.get 0 rfl)
          go_simp
          have hB411 := hB410.put 0 rfl (⟨1, 1⟩)
          refine hKc _ _ ⟨(hB411.keep (List.nil_sublist _)), ?_⟩
          clear c_br z_br f_br hKc Kc hB410
          generalize (wa10.setCell _ _).setCell _ _ = wb11 at *
          refine wpAnyT_go (Bx.grows _ _) (hB411.keep (List.nil_sublist _)) [12] 0 (by kernel_rfl) ?_
          apply Exists.intro
          refine ⟨fun G hG hN => ?_, ?_⟩
          · have c_d := fun (e : GE (Bx w5 []) G) j => cell_of_row e.w _ j _ _ _ (HD.out e.w (GE.h e).below)
            have z_d := fun (e : GE (Bx w5 []) G) => lt_some (HD.out e.w (GE.h e).below)
            simp only [pickOps, List.getElem?_toArray, List.getElem?_cons_zero, List.getElem?_cons_succ]
            repeat (first | go_big_quiet_step ((first | (go_at_call 48; exact calls_ge (Bx.grows _ _) hG (lof4_any _ _)))) | quiet_step ((first | (go_at_call 48; exact calls_ge (Bx.grows _ _) hG (lof4_any _ _)))))
            exact wpQuiet_nil rfl
          refine wpAnyT_done (by kernel_rfl) (fun wd12 hwd12 hRwd12 => ?_) _
          refine NoPanic.normal ?_
          have hB412 := hB411.next hwd12
          clear hB411 hwd12 hRwd12
          have HM := Lib.hid hB412.mx
          have HF := Lib.hid hB412.fresh
          clear hB412
          go_wp2_with fail
          go_meet
          exact ⟨gA, gP, A, cA, S, d, rfl, rfl, rfl, HM.out, HF.out⟩
        · obtain rfl := List.mem_singleton.1 hi
          refine wpOp_step rfl (fun Kc hKc => ?_)
          go_simp
          have hB405 := hB404.new (g := wa4.heap.size) rfl (rB ⟨0, 0⟩)
          refine hKc _ _ ⟨(hB405.keep (List.nil_sublist _)), ?_⟩
          clear hKc Kc hB404
          generalize wa4.heap.size = gP at *
          generalize wa4.alloc _ = wb13 at *
          refine wpAnyT_all (rs := [8]) (by kernel_rfl) (by simp) (fun wa14 hwa14 hRwa14 i hi => ?_)
          have hB406 := hB405.next hwa14
          clear hB405 hwa14 hRwa14
          obtain rfl := List.mem_singleton.1 hi
          refine wpOp_step rfl (fun Kc hKc => ?_)
          go_simp
          have hB407 := hB406.new (g := wa14.heap.size) rfl (.cells #[(.slice none 0 0), (.slice none 0 0)] 76)
          refine hKc _ _ ⟨(hB407.keep (List.nil_sublist _)), ?_⟩
          clear hKc Kc hB406
          generalize wa14.heap.size = gA at *
          generalize wa14.alloc _ = wb15 at *
          refine wpAnyT_all (rs := [10]) (by kernel_rfl) (by simp) (fun wa16 hwa16 hRwa16 i hi => ?_)
          have hB408 := hB407.next hwa16
          clear hB407 hwa16 hRwa16
          obtain rfl := List.mem_singleton.1 hi
          refine wpOp_step rfl (fun Kc hKc => ?_)
          have c_bd := fun j => cell_of_row _ _ j _ _ _ (hB408.get 0 rfl)
          have z_bd := hB408.lt 0 rfl
          have f_bd := fun j => frozen_of_row _ _ j _ _ (hB408.get 0 rfl)
          go_simp
          have hB409 := hB408.put2 0 rfl (.slice A 2 cA) (.slice S 1 d)
          refine hKc _ _ ⟨(hB409.keep (List.nil_sublist _)), ?_⟩
          clear c_bd z_bd f_bd hKc Kc hB408
          generalize (wa16.setCell _ _).setCell _ _ = wb17 at *
          refine wpAnyT_all (rs := [11]) (by kernel_rfl) (by simp) (fun wa18 hwa18 hRwa18 i hi => ?_)
          have hB410 := hB409.next hwa18
          clear hB409 hwa18 hRwa18
          obtain rfl := List.mem_singleton.1 hi
          refine wpOp_step rfl (fun Kc hKc => ?_)
          have c_br := fun j => cell_of_row _ _ j _ _ _ (hB410.get 1 rfl)
          have z_br := hB410.lt 1 rfl
          have f_br := fun j => frozen_of_row _ _ j _ _ (hB410.get 1 rfl)
          go_simp
          have hB411 := hB410.put 1 rfl (⟨1, 1⟩)
          refine hKc _ _ ⟨(hB411.keep (List.nil_sublist _)), ?_⟩
          clear c_br z_br f_br hKc Kc hB410
          generalize (wa18.setCell _ _).setCell _ _ = wb19 at *
          refine wpAnyT_go (Bx.grows _ _) (hB411.keep (List.nil_sublist _)) [12] 0 (by kernel_rfl) ?_
          apply Exists.intro
          refine ⟨fun G hG hN => ?_, ?_⟩
          · have c_d := fun (e : GE (Bx w5 []) G) j => cell_of_row e.w _ j _ _ _ (HD.out e.w (GE.h e).below)
            have z_d := fun (e : GE (Bx w5 []) G) => lt_some (HD.out e.w (GE.h e).below)
            simp only [pickOps, List.getElem?_toArray, List.getElem?_cons_zero, List.getElem?_cons_succ]
            repeat (first | go_big_quiet_step ((first | (go_at_call 48; exact calls_ge (Bx.grows _ _) hG (lof4_any _ _)))) | quiet_step ((first | (go_at_call 48; exact calls_ge (Bx.grows _ _) hG (lof4_any _ _)))))
            exact wpQuiet_nil rfl
          refine wpAnyT_done (by kernel_rfl) (fun wd20 hwd20 hRwd20 => ?_) _
          refine NoPanic.normal ?_
          have hB412 := hB411.next hwd20
          clear hB411 hwd20 hRwd20
          have HM := Lib.hid hB412.mx.swap
          have HF := Lib.hid hB412.fresh
          clear hB412
          go_wp2_with fail
          go_meet
          exact ⟨gA, gP, A, cA, S, d, rfl, rfl, rfl, HM.out, HF.out⟩
      · rcases List.mem_cons.1 hi with rfl | hi
        · refine wpOp_step rfl (fun Kc hKc => ?_)
          go_simp
          have hB403 := hB402.new (g := wa2.heap.size) rfl (.cells #[(.slice none 0 0), (.slice none 0 0)] 76)
          refine hKc _ _ ⟨(hB403.keep (List.nil_sublist _)), ?_⟩
          clear hKc Kc hB402
          generalize wa2.heap.size = gA at *
          generalize wa2.alloc _ = wb21 at *
          refine wpAnyT_all (rs := [3, 9]) (by kernel_rfl) (by simp) (fun wa22 hwa22 hRwa22 i hi => ?_)
          have hB404 := hB403.next hwa22
          clear hB403 hwa22 hRwa22
          rcases List.mem_cons.1 hi with rfl | hi
          · refine wpOp_step rfl (fun Kc hKc => ?_)
            go_simp
            refine Calls.mono (al_mark1 P cp _ (HK.out _ hB404.below)) ?_
            rintro e wv23 ⟨A, cA, S, d, rfl, hF, hb⟩
            have hB405 := Mf.start hB404 hb hF
            clear hb hF
            refine hKc _ _ ⟨(hB405.keep (List.nil_sublist _)), ?_⟩
            clear hKc Kc hB404
            refine wpAnyT_go (Bx.grows _ _) (hB405.keep (List.nil_sublist _)) [4, 5, 6, 7] 4 (by kernel_rfl) ?_
            apply Exists.intro
            refine ⟨fun G hG hN => ?_, ?_⟩
            · have c_d := fun (e : GE (Bx w5 []) G) j => cell_of_row e.w _ j _ _ _ (HD.out e.w (GE.h e).below)
              have z_d := fun (e : GE (Bx w5 []) G) => lt_some (HD.out e.w (GE.h e).below)
              simp only [pickOps, List.getElem?_toArray, List.getElem?_cons_zero, List.getElem?_cons_succ]
              repeat (first | go_big_quiet_step ((first | (go_at_call 48; exact calls_ge (Bx.grows _ _) hG (lof4_any _ _)))) | quiet_step ((first | (go_at_call 48; exact calls_ge (Bx.grows _ _) hG (lof4_any _ _)))))
              exact wpQuiet_nil rfl
            refine wpAnyT_all (rs := [9]) (by kernel_rfl) (by simp) (fun wa24 hwa24 hRwa24 i hi => ?_)
            have hB406 := hB405.next hwa24
            clear hB405 hwa24 hRwa24
            obtain rfl := List.mem_singleton.1 hi
            refine wpOp_step rfl (fun Kc hKc => ?_)
            go_simp
            have hB407 := hB406.new (g := wa24.heap.size) rfl (rB ⟨0, 0⟩)
            refine hKc _ _ ⟨(hB407.keep (List.nil_sublist _)), ?_⟩
            clear hKc Kc hB406
            generalize wa24.heap.size = gP at *
            generalize wa24.alloc _ = wb25 at *
            refine wpAnyT_all (rs := [10]) (by kernel_rfl) (by simp) (fun wa26 hwa26 hRwa26 i hi => ?_)
            have hB408 := hB407.next hwa26
            clear hB407 hwa26 hRwa26
            obtain rfl := List.mem_singleton.1 hi
            refine wpOp_step rfl (fun Kc hKc => ?_)
            have c_bd := fun j => cell_of_row _ _ j _ _ _ (hB408.get 1 rfl)
            have z_bd := hB408.lt 1 rfl
            have f_bd := fun j => frozen_of_row _ _ j _ _ (hB408.get 1 rfl)
            go_simp
            have hB409 := hB408.put2 1 rfl (.slice A 2 cA) (.slice S 1 d)
            refine hKc _ _ ⟨(hB409.keep (List.nil_sublist _)), ?_⟩
            clear c_bd z_bd f_bd hKc Kc hB408
            generalize (wa26.setCell _ _).setCell _ _ = wb27 at *
            refine wpAnyT_all (rs := [11]) (by kernel_rfl) (by simp) (fun wa28 hwa28 hRwa28 i hi => ?_)
            have hB410 := hB409.next hwa28
            clear hB409 hwa28 hRwa28
            obtain rfl := List.mem_singleton.1 hi
            refine wpOp_step rfl (fun Kc hKc => ?_)
            have c_br := fun j => cell_of_row _ _ j _ _ _ (hB410.get 0 rfl)
            have z_br := hB410.lt 0 rfl
            have f_br := fun j => frozen_of_row _ _ j _ _ (hB410.get 0 rfl)
            go_simp
            have hB411 := hB410.put 0 rfl (⟨1, 1⟩)
            refine hKc _ _ ⟨(hB411.keep (List.nil_sublist _)), ?_⟩
            clear c_br z_br f_br hKc Kc hB410
            generalize (wa28.setCell _ _).setCell _ _ = wb29 at *
            refine wpAnyT_go (Bx.grows _ _) (hB411.keep (List.nil_sublist _)) [12] 0 (by kernel_rfl) ?_
            apply Exists.intro
            refine ⟨fun G hG hN => ?_, ?_⟩
            · have c_d := fun (e : GE (Bx w5 []) G) j => cell_of_row e.w _ j _ _ _ (HD.out e.w (GE.h e).below)
              have z_d := fun (e : GE (Bx w5 []) G) => lt_some (HD.out e.w (GE.h e).below)
              simp only [pickOps, List.getElem?_toArray, List.getElem?_cons_zero, List.getElem?_cons_succ]
              repeat (first | go_big_quiet_step ((first | (go_at_call 48; exact calls_ge (Bx.grows _ _) hG (lof4_any _ _)))) | quiet_step ((first | (go_at_call 48; exact calls_ge (Bx.grows _ _) hG (lof4_any _ _)))))
              exact wpQuiet_nil rfl
            refine wpAnyT_done (by kernel_rfl) (fun wd30 hwd30 hRwd30 => ?_) _
            refine NoPanic.normal ?_
            have hB412 := hB411.next hwd30
            clear hB411 hwd30 hRwd30
            have HM := Lib.hid hB412.mx
            have HF := Lib.hid hB412.fresh
            clear hB412
            go_wp2_with fail
            go_meet
            exact ⟨gA, gP, A, cA, S, d, rfl, rfl, rfl, HM.out, HF.out⟩
          · obtain rfl := List.mem_singleton.1 hi
            refine wpOp_step rfl (fun Kc hKc => ?_)
            go_simp
            have hB405 := hB404.new (g := wa22.heap.size) rfl (rB ⟨0, 0⟩)
            refine hKc _ _ ⟨(hB405.keep (List.nil_sublist _)), ?_⟩
            clear hKc Kc hB404
            generalize wa22.heap.size = gP at *
            generalize wa22.alloc _ = wb31 at *
            refine wpAnyT_all (rs := [3]) (by kernel_rfl) (by simp) (fun wa32 hwa32 hRwa32 i hi => ?_)
            have hB406 := hB405.next hwa32
            clear hB405 hwa32 hRwa32
            obtain rfl := List.mem_singleton.1 hi
            refine wpOp_step rfl (fun Kc hKc => ?_)
            go_simp
            refine Calls.mono (al_mark1 P cp _ (HK.out _ hB406.below)) ?_
            rintro e wv33 ⟨A, cA, S, d, rfl, hF, hb⟩
            have hB407 := Mf.start hB406 hb hF
            clear hb hF
            refine hKc _ _ ⟨(hB407.keep (List.nil_sublist _)), ?_⟩
            clear hKc Kc hB406
            refine wpAnyT_go (Bx.grows _ _) (hB407.keep (List.nil_sublist _)) [4, 5, 6, 7] 3 (by kernel_rfl) ?_
            apply Exists.intro
            refine ⟨fun G hG hN => ?_, ?_⟩
            · have c_d := fun (e : GE (Bx w5 []) G) j => cell_of_row e.w _ j _ _ _ (HD.out e.w (GE.h e).below)
              have z_d := fun (e : GE (Bx w5 []) G) => lt_some (HD.out e.w (GE.h e).below)
              simp only [pickOps, List.getElem?_toArray, List.getElem?_cons_zero, List.getElem?_cons_succ]
              repeat (first | go_big_quiet_step ((first | (go_at_call 48; exact calls_ge (Bx.grows _ _) hG (lof4_any _ _)))) | quiet_step ((first | (go_at_call 48; exact calls_ge (Bx.grows _ _) hG (lof4_any _ _)))))
              exact wpQuiet_nil rfl
            refine wpAnyT_all (rs := [10]) (by kernel_rfl) (by simp) (fun wa34 hwa34 hRwa34 i hi => ?_)
            have hB408 := hB407.next hwa34
            clear hB407 hwa34 hRwa34
            obtain rfl := List.mem_singleton.1 hi
            refine wpOp_step rfl (fun Kc hKc => ?_)
            have c_bd := fun j => cell_of_row _ _ j _ _ _ (hB408.get 1 rfl)
            have z_bd := hB408.lt 1 rfl
            have f_bd := fun j => frozen_of_row _ _ j _ _ (hB408.get 1 rfl)
            go_simp
            have hB409 := hB408.put2 1 rfl (.slice A 2 cA) (.slice S 1 d)
            refine hKc _ _ ⟨(hB409.keep (List.nil_sublist _)), ?_⟩
            clear c_bd z_bd f_bd hKc Kc hB408
            generalize (wa34.setCell _ _).setCell _ _ = wb35 at *
            refine wpAnyT_all (rs := [11]) (by kernel_rfl) (by simp) (fun wa36 hwa36 hRwa36 i hi => ?_)
            have hB410 := hB409.next hwa36
            clear hB409 hwa36 hRwa36
            obtain rfl := List.mem_singleton.1 hi
            refine wpOp_step rfl (fun Kc hKc => ?_)
            have c_br := fun j => cell_of_row _ _ j _ _ _ (hB410.get 0 rfl)
            have z_br := hB410.lt 0 rfl
            have f_br := fun j => frozen_of_row _ _ j _ _ (hB410.get 0 rfl)
            go_simp
            have hB411 := hB410.put 0 rfl (⟨1, 1⟩)
            refine hKc _ _ ⟨(hB411.keep (List.nil_sublist _)), ?_⟩
            clear c_br z_br f_br hKc Kc hB410
            generalize (wa36.setCell _ _).setCell _ _ = wb37 at *
            refine wpAnyT_go (Bx.grows _ _) (hB411.keep (List.nil_sublist _)) [12] 0 (by kernel_rfl) ?_
            apply Exists.intro
            refine ⟨fun G hG hN => ?_, ?_⟩
            · have c_d := fun (e : GE (Bx w5 []) G) j => cell_of_row e.w _ j _ _ _ (HD.out e.w (GE.h e).below)
              have z_d := fun (e : GE (Bx w5 []) G) => lt_some (HD.out e.w (GE.h e).below)
              simp only [pickOps, List.getElem?_toArray, List.getElem?_cons_zero, List.getElem?_cons_succ]
              repeat (first | go_big_quiet_step ((first | (go_at_call 48; exact calls_ge (Bx.grows _ _) hG (lof4_any _ _)))) | quiet_step ((first | (go_at_call 48; exact calls_ge (Bx.grows _ _) hG (lof4_any _ _)))))
              exact wpQuiet_nil rfl
            refine wpAnyT_done (by kernel_rfl) (fun wd38 hwd38 hRwd38 => ?_) _
            refine NoPanic.normal ?_
            have hB412 := hB411.next hwd38
            clear hB411 hwd38 hRwd38
            have HM := Lib.hid hB412.mx
            have HF := Lib.hid hB412.fresh
            clear hB412
            go_wp2_with fail
            go_meet
            exact ⟨gA, gP, A, cA, S, d, rfl, rfl, rfl, HM.out, HF.out⟩
        · obtain rfl := List.mem_singleton.1 hi
          refine wpOp_step rfl (fun Kc hKc => ?_)
          go_simp
          have hB403 := hB402.new (g := wa2.heap.size) rfl (rB ⟨0, 0⟩)
          refine hKc _ _ ⟨(hB403.keep (List.nil_sublist _)), ?_⟩
          clear hKc Kc hB402
          generalize wa2.heap.size = gP at *
          generalize wa2.alloc _ = wb39 at *
          refine wpAnyT_all (rs := [3, 8]) (by kernel_rfl) (by simp) (fun wa40 hwa40 hRwa40 i hi => ?_)
          have hB404 := hB403.next hwa40
          clear hB403 hwa40 hRwa40
          rcases List.mem_cons.1 hi with rfl | hi
          · refine wpOp_step rfl (fun Kc hKc => ?_)
            go_simp
            refine Calls.mono (al_mark1 P cp _ (HK.out _ hB404.below)) ?_
            rintro e wv41 ⟨A, cA, S, d, rfl, hF, hb⟩
            have hB405 := Mf.start hB404 hb hF
            clear hb hF
            refine hKc _ _ ⟨(hB405.keep (List.nil_sublist _)), ?_⟩
            clear hKc Kc hB404
            refine wpAnyT_go (Bx.grows _ _) (hB405.keep (List.nil_sublist _)) [4, 5, 6, 7] 4 (by kernel_rfl) ?_
            apply Exists.intro
            refine ⟨fun G hG hN => ?_, ?_⟩
            · have c_d := fun (e : GE (Bx w5 []) G) j => cell_of_row e.w _ j _ _ _ (HD.out e.w (GE.h e).below)
              have z_d := fun (e : GE (Bx w5 []) G) => lt_some (HD.out e.w (GE.h e).below)
              simp only [pickOps, List.getElem?_toArray, List.getElem?_cons_zero, List.getElem?_cons_succ]
              repeat (first | go_big_quiet_step ((first | (go_at_call 48; exact calls_ge (Bx.grows _ _) hG (lof4_any _ _)))) | quiet_step ((first | (go_at_call 48; exact calls_ge (Bx.grows _ _) hG (lof4_any _ _)))))
              exact wpQuiet_nil rfl
            refine wpAnyT_all (rs := [8]) (by kernel_rfl) (by simp) (fun wa42 hwa42 hRwa42 i hi => ?_)
            have hB406 := hB405.next hwa42
            clear hB405 hwa42 hRwa42
            obtain rfl := List.mem_singleton.1 hi
            refine wpOp_step rfl (fun Kc hKc => ?_)
            go_simp
            have hB407 := hB406.new (g := wa42.heap.size) rfl (.cells #[(.slice none 0 0), (.slice none 0 0)] 76)
            refine hKc _ _ ⟨(hB407.keep (List.nil_sublist _)), ?_⟩
            clear hKc Kc hB406
            generalize wa42.heap.size = gA at *
            generalize wa42.alloc _ = wb43 at *
            refine wpAnyT_all (rs := [10]) (by kernel_rfl) (by simp) (fun wa44 hwa44 hRwa44 i hi => ?_)
            have hB408 := hB407.next hwa44
            clear hB407 hwa44 hRwa44
            obtain rfl := List.mem_singleton.1 hi
            refine wpOp_step rfl (fun Kc hKc => ?_)
            have c_bd := fun j => cell_of_row _ _ j _ _ _ (hB408.get 0 rfl)
            have z_bd := hB408.lt 0 rfl
            have f_bd := fun j => frozen_of_row _ _ j _ _ (hB408.get 0 rfl)
            go_simp
            have hB409 := hB408.put2 0 rfl (.slice A 2 cA) (.slice S 1 d)
            refine hKc _ _ ⟨(hB409.keep (List.nil_sublist _)), ?_⟩
            clear c_bd z_bd f_bd hKc Kc hB408
            generalize (wa44.setCell _ _).setCell _ _ = wb45 at *
            refine wpAnyT_all (rs := [11]) (by kernel_rfl) (by simp) (fun wa46 hwa46 hRwa46 i hi => ?_)
            have hB410 := hB409.next hwa46
            clear hB409 hwa46 hRwa46
            obtain rfl := List.mem_singleton.1 hi
            refine wpOp_step rfl (fun Kc hKc => ?_)
            have c_br := fun j => cell_of_row _ _ j _ _ _ (hB410.get 1 rfl)
            have z_br := hB410.lt 1 rfl
            have f_br := fun j => frozen_of_row _ _ j _ _ (hB410.get 1 rfl)
            go_simp
            have hB411 := hB410.put 1 rfl (⟨1, 1⟩)
            refine hKc _ _ ⟨(hB411.keep (List.nil_sublist _)), ?_⟩
            clear c_br z_br f_br hKc Kc hB410
            generalize (wa46.setCell _ _).setCell _ _ = wb47 at *
            refine wpAnyT_go (Bx.grows _ _) (hB411.keep (List.nil_sublist _)) [12] 0 (by kernel_rfl) ?_
            apply Exists.intro
            refine ⟨fun G hG hN => ?_, ?_⟩
            · have c_d := fun (e : GE (Bx w5 []) G) j => cell_of_row e.w _ j _ _ _ (HD.out e.w (GE.h e).below)
              have z_d := fun (e : GE (Bx w5 []) G) => lt_some (HD.out e.w (GE.h e).below)
              simp only [pickOps, List.getElem?_toArray, List.getElem?_cons_zero, List.getElem?_cons_succ]
              repeat (first | go_big_quiet_step ((first | (go_at_call 48; exact calls_ge (Bx.grows _ _) hG (lof4_any _ _)))) | quiet_step ((first | (go_at_call 48; exact calls_ge (Bx.grows _ _) hG (lof4_any _ _)))))
              exact wpQuiet_nil rfl
            refine wpAnyT_done (by kernel_rfl) (fun wd48 hwd48 hRwd48 => ?_) _
            refine NoPanic.normal ?_
            have hB412 := hB411.next hwd48
            clear hB411 hwd48 hRwd48
            have HM := Lib.hid hB412.mx.swap
            have HF := Lib.hid hB412.fresh
            clear hB412
            go_wp2_with fail
            go_meet
            exact ⟨gA, gP, A, cA, S, d, rfl, rfl, rfl, HM.out, HF.out⟩
          · obtain rfl := List.mem_singleton.1 hi
            refine wpOp_step rfl (fun Kc hKc => ?_)
            go_simp
            have hB405 := hB404.new (g := wa40.heap.size) rfl (.cells #[(.slice none 0 0), (.slice none 0 0)] 76)
            refine hKc _ _ ⟨(hB405.keep (List.nil_sublist _)), ?_⟩
            clear hKc Kc hB404
            generalize wa40.heap.size = gA at *
            generalize wa40.alloc _ = wb49 at *
            refine wpAnyT_all (rs := [3]) (by kernel_rfl) (by simp) (fun wa50 hwa50 hRwa50 i hi => ?_)
            have hB406 := hB405.next hwa50
            clear hB405 hwa50 hRwa50
            obtain rfl := List.mem_singleton.1 hi
            refine wpOp_step rfl (fun Kc hKc => ?_)
            go_simp
            refine Calls.mono (al_mark1 P cp _ (HK.out _ hB406.below)) ?_
            rintro e wv51 ⟨A, cA, S, d, rfl, hF, hb⟩
            have hB407 := Mf.start hB406 hb hF
            clear hb hF
            refine hKc _ _ ⟨(hB407.keep (List.nil_sublist _)), ?_⟩
            clear hKc Kc hB406
            refine wpAnyT_go (Bx.grows _ _) (hB407.keep (List.nil_sublist _)) [4, 5, 6, 7] 3 (by kernel_rfl) ?_
            apply Exists.intro
            refine ⟨fun G hG hN => ?_, ?_⟩
            · have c_d := fun (e : GE (Bx w5 []) G) j => cell_of_row e.w _ j _ _ _ (HD.out e.w (GE.h e).below)
              have z_d := fun (e : GE (Bx w5 []) G) => lt_some (HD.out e.w (GE.h e).below)
              simp only [pickOps, List.getElem?_toArray, List.getElem?_cons_zero, List.getElem?_cons_succ]
              repeat (first | go_big_quiet_step ((first | (go_at_call 48; exact calls_ge (Bx.grows _ _) hG (lof4_any _ _)))) | quiet_step ((first | (go_at_call 48; exact calls_ge (Bx.grows _ _) hG (lof4_any _ _)))))
              exact wpQuiet_nil rfl
            refine wpAnyT_all (rs := [10]) (by kernel_rfl) (by simp) (fun wa52 hwa52 hRwa52 i hi => ?_)
            have hB408 := hB407.next hwa52
            clear hB407 hwa52 hRwa52
            obtain rfl := List.mem_singleton.1 hi
            refine wpOp_step rfl (fun Kc hKc => ?_)
            have c_bd := fun j => cell_of_row _ _ j _ _ _ (hB408.get 0 rfl)
            have z_bd := hB408.lt 0 rfl
            have f_bd := fun j => frozen_of_row _ _ j _ _ (hB408.get 0 rfl)
            go_simp
            have hB409 := hB408.put2 0 rfl (.slice A 2 cA) (.slice S 1 d)
            refine hKc _ _ ⟨(hB409.keep (List.nil_sublist _)), ?_⟩
            clear c_bd z_bd f_bd hKc Kc hB408
            generalize (wa52.setCell _ _).setCell _ _ = wb53 at *
            refine wpAnyT_all (rs := [11]) (by kernel_rfl) (by simp) (fun wa54 hwa54 hRwa54 i hi => ?_)
            have hB410 := hB409.next hwa54
            clear hB409 hwa54 hRwa54
            obtain rfl := List.mem_singleton.1 hi
            refine wpOp_step rfl (fun Kc hKc => ?_)
            have c_br := fun j => cell_of_row _ _ j _ _ _ (hB410.get 1 rfl)
            have z_br := hB410.lt 1 rfl
            have f_br := fun j => frozen_of_row _ _ j _ _ (hB410.get 1 rfl)
            go_simp
            have hB411 := hB410.put 1 rfl (⟨1, 1⟩)
            refine hKc _ _ ⟨(hB411.keep (List.nil_sublist _)), ?_⟩
            clear c_br z_br f_br hKc Kc hB410
            generalize (wa54.setCell _ _).setCell _ _ = wb55 at *
            refine wpAnyT_go (Bx.grows _ _) (hB411.keep (List.nil_sublist _)) [12] 0 (by kernel_rfl) ?_
            apply Exists.intro
            refine ⟨fun G hG hN => ?_, ?_⟩
            · have c_d := fun (e : GE (Bx w5 []) G) j => cell_of_row e.w _ j _ _ _ (HD.out e.w (GE.h e).below)
              have z_d := fun (e : GE (Bx w5 []) G) => lt_some (HD.out e.w (GE.h e).below)
              simp only [pickOps, List.getElem?_toArray, List.getElem?_cons_zero, List.getElem?_cons_succ]
              repeat (first | go_big_quiet_step ((first | (go_at_call 48; exact calls_ge (Bx.grows _ _) hG (lof4_any _ _)))) | quiet_step ((first | (go_at_call 48; exact calls_ge (Bx.grows _ _) hG (lof4_any _ _)))))
              exact wpQuiet_nil rfl
            refine wpAnyT_done (by kernel_rfl) (fun wd56 hwd56 hRwd56 => ?_) _
            refine NoPanic.normal ?_
            have hB412 := hB411.next hwd56
            clear hB411 hwd56 hRwd56
            have HM := Lib.hid hB412.mx.swap
            have HF := Lib.hid hB412.fresh
            clear hB412
            go_wp2_with fail
            go_meet
            exact ⟨gA, gP, A, cA, S, d, rfl, rfl, rfl, HM.out, HF.out⟩
  case rest =>
    as_aux_lemma =>
      obtain ⟨gA, gP, A, cA, S, d, rfl, rfl, rfl, hM, hF⟩ := hcut
      have HB6 := Lib.hid (bcall HB5.out HB5.out.size hM.below)
      generalize wc = w6 at *
      have HA := Lib.hid (fun (V : World) (hV : Below w6.heap.size w6 V) => heap_ext (hM.get 1 rfl) hV)
      have HP := Lib.hid (fun (V : World) (hV : Below w6.heap.size w6 V) => heap_ext (hM.get 0 rfl) hV)
      have HF := Lib.hid (fun (V : World) (hV : Below w6.heap.size w6 V) => hF.ext hV)
      clear hM hF HD HK HB5
      try go_upto_region 5 with fail
      go_cut [10, 11, 12] (fun s10 s11 s12 wx => ∃ (gA gP : Nat) (A : Option Addr) (cA : Nat) (S : Option Addr) (d : Nat), s10 = .pointer (some ⟨gA, 0, none⟩) ∧ s11 = .pointer (some ⟨gP, 0, none⟩) ∧ s12 = .int .i64 0 ∧ Mx w6 [(gP, rB ⟨1, 3⟩), (gA, .cells #[.slice A 2 cA, .slice S 2 d] 76)] [] wx ∧ Fresh w6.heap.size wx (fun V => CsIn V.heap.size V A cA twoK ∧ LgIn V.heap.size V S d lg2))
      case first =>
        as_aux_lemma =>
          have hA5 := Mx.of_bx (Bx.start w6)
          go_wp2_with fail
          refine wp_region_T (Bx w6 []) 13 (by kernel_rfl) (by rfl) ((hA5.keep (List.nil_sublist _)).drew) (fun wq57 hbq => ?_)
          have hB501 := hA5.next hbq
          clear hA5 hbq
          refine wpAnyT_go (Bx.grows _ _) (hB501.keep (List.nil_sublist _)) [0, 1, 2] 10 (by kernel_rfl) ?_
          apply Exists.intro
          refine ⟨fun G hG hN => ?_, ?_⟩
          · have c_a := fun (e : GE (Bx w6 []) G) j => cell_of_row e.w _ j _ _ _ (HA.out e.w (GE.h e).below)
            have z_a := fun (e : GE (Bx w6 []) G) => lt_some (HA.out e.w (GE.h e).below)
            simp only [pickOps, List.getElem?_toArray, List.getElem?_cons_zero, List.getElem?_cons_succ]
            repeat (first | go_big_quiet_step ((first | (go_at_call 48; exact calls_ge (Bx.grows _ _) hG (lof4_any _ _)))) | quiet_step ((first | (go_at_call 48; exact calls_ge (Bx.grows _ _) hG (lof4_any _ _)))))
            exact wpQuiet_nil rfl
          refine wpAnyT_all (rs := [3, 8, 9]) (by kernel_rfl) (by simp) (fun wa58 hwa58 hRwa58 i hi => ?_)
          have hB502 := hB501.next hwa58
          clear hB501 hwa58 hRwa58
          rcases List.mem_cons.1 hi with rfl | hi
          · refine wpOp_step rfl (fun Kc hKc => ?_)
            go_simp
            refine Calls.mono (al_mark2 A cA S d _ (HF.out _ hB502.below).1 (HF.out _ hB502.below).2) ?_
            rintro e wv59 ⟨A, cA, S, d, rfl, hF, hb⟩
            have hB503 := Mf.start hB502 hb hF
            clear hb hF
            refine hKc _ _ ⟨(hB503.keep (List.nil_sublist _)), ?_⟩
            clear hKc Kc hB502
            refine wpAnyT_go (Bx.grows _ _) (hB503.keep (List.nil_sublist _)) [4, 5, 6, 7] 5 (by kernel_rfl) ?_
            apply Exists.intro
            refine ⟨fun G hG hN => ?_, ?_⟩
            · have c_a := fun (e : GE (Bx w6 []) G) j => cell_of_row e.w _ j _ _ _ (HA.out e.w (GE.h e).below)
              have z_a := fun (e : GE (Bx w6 []) G) => lt_some (HA.out e.w (GE.h e).below)
              simp only [pickOps, List.getElem?_toArray, List.getElem?_cons_zero, List.getElem?_cons_succ]
              repeat (first | go_big_quiet_step ((first | (go_at_call 48; exact calls_ge (Bx.grows _ _) hG (lof4_any _ _)))) | quiet_step ((first | (go_at_call 48; exact calls_ge (Bx.grows _ _) hG (lof4_any _ _)))))
              exact wpQuiet_nil rfl
            refine wpAnyT_all (rs := [8, 9]) (by kernel_rfl) (by simp) (fun wa60 hwa60 hRwa60 i hi => ?_)
            have hB504 := hB503.next hwa60
            clear hB503 hwa60 hRwa60
            rcases List.mem_cons.1 hi with rfl | hi
            · refine wpOp_step rfl (fun Kc hKc => ?_)
              go_simp
              have hB505 := hB504.new (g := wa60.heap.size) rfl (.cells #[(.slice none 0 0), (.slice none 0 0)] 76)
              refine hKc _ _ ⟨(hB505.keep (List.nil_sublist _)), ?_⟩
              clear hKc Kc hB504
              generalize wa60.heap.size = gA at *
              generalize wa60.alloc _ = wb61 at *
              refine wpAnyT_all (rs := [9]) (by kernel_rfl) (by simp) (fun wa62 hwa62 hRwa62 i hi => ?_)
              have hB506 := hB505.next hwa62
              clear hB505 hwa62 hRwa62
              obtain rfl := List.mem_singleton.1 hi
              refine wpOp_step rfl (fun Kc hKc => ?_)
              go_simp
              have hB507 := hB506.new (g := wa62.heap.size) rfl (rB ⟨0, 0⟩)
              refine hKc _ _ ⟨(hB507.keep (List.nil_sublist _)), ?_⟩
              clear hKc Kc hB506
              generalize wa62.heap.size = gP at *
              generalize wa62.alloc _ = wb63 at *
              refine wpAnyT_all (rs := [10]) (by kernel_rfl) (by simp) (fun wa64 hwa64 hRwa64 i hi => ?_)
              have hB508 := hB507.next hwa64
              clear hB507 hwa64 hRwa64
              obtain rfl := List.mem_singleton.1 hi
              refine wpOp_step rfl (fun Kc hKc => ?_)
              have c_bd := fun j => cell_of_row _ _ j _ _ _ (hB508.get 1 rfl)
              have z_bd := hB508.lt 1 rfl
              have f_bd := fun j => frozen_of_row _ _ j _ _ (hB508.get 1 rfl)
              go_simp
              have hB509 := hB508.put2 1 rfl (.slice A 2 cA) (.slice S 2 d)
              refine hKc _ _ ⟨(hB509.keep (List.nil_sublist _)), ?_⟩
              clear c_bd z_bd f_bd hKc Kc hB508
              generalize (wa64.setCell _ _).setCell _ _ = wb65 at *
              refine wpAnyT_all (rs := [11]) (by kernel_rfl) (by simp) (fun wa66 hwa66 hRwa66 i hi => ?_)
              have hB510 := hB509.next hwa66
              clear hB509 hwa66 hRwa66
              obtain rfl := List.mem_singleton.1 hi
              refine wpOp_step rfl (fun Kc hKc => ?_)
              have c_br := fun j => cell_of_row _ _ j _ _ _ (hB510.get 0 rfl)
              have z_br := hB510.lt 0 rfl
              have f_br := fun j => frozen_of_row _ _ j _ _ (hB510.get 0 rfl)
              go_simp
              have hB511 := hB510.put 0 rfl (⟨1, 3⟩)
              refine hKc _ _ ⟨(hB511.keep (List.nil_sublist _)), ?_⟩
              clear c_br z_br f_br hKc Kc hB510
              generalize (wa66.setCell _ _).setCell _ _ = wb67 at *
              refine wpAnyT_go (Bx.grows _ _) (hB511.keep (List.nil_sublist _)) [12] 0 (by kernel_rfl) ?_
              apply Exists.intro
              refine ⟨fun G hG hN => ?_, ?_⟩
              · have c_a := fun (e : GE (Bx w6 []) G) j => cell_of_row e.w _ j _ _ _ (HA.out e.w (GE.h e).below)
                have z_a := fun (e : GE (Bx w6 []) G) => lt_some (HA.out e.w (GE.h e).below)
                simp only [pickOps, List.getElem?_toArray, List.getElem?_cons_zero, List.getElem?_cons_succ]
                repeat (first | go_big_quiet_step ((first | (go_at_call 48; exact calls_ge (Bx.grows _ _) hG (lof4_any _ _)))) | quiet_step ((first | (go_at_call 48; exact calls_ge (Bx.grows _ _) hG (lof4_any _ _)))))
                exact wpQuiet_nil rfl
              refine wpAnyT_done (by kernel_rfl) (fun wd68 hwd68 hRwd68 => ?_) _
              refine NoPanic.normal ?_
              have hB512 := hB511.next hwd68
              clear hB511 hwd68 hRwd68
              have HM := Lib.hid hB512.mx
              have HF := Lib.hid hB512.fresh
              clear hB512
              go_wp2_with fail
              go_meet
              exact ⟨gA, gP, A, cA, S, d, rfl, rfl, rfl, HM.out, HF.out⟩
            · obtain rfl := List.mem_singleton.1 hi
              refine wpOp_step rfl (fun Kc hKc => ?_)
              go_simp
              have hB505 := hB504.new (g := wa60.heap.size) rfl (rB ⟨0, 0⟩)
              refine hKc _ _ ⟨(hB505.keep (List.nil_sublist _)), ?_⟩
              clear hKc Kc hB504
              generalize wa60.heap.size = gP at *
              generalize wa60.alloc _ = wb69 at *
              refine wpAnyT_all (rs := [8]) (by kernel_rfl) (by simp) (fun wa70 hwa70 hRwa70 i hi => ?_)
              have hB506 := hB505.next hwa70
              clear hB505 hwa70 hRwa70
              obtain rfl := List.mem_singleton.1 hi
              refine wpOp_step rfl (fun Kc hKc => ?_)
              go_simp
              have hB507 := hB506.new (g := wa70.heap.size) rfl (.cells #[(.slice none 0 0), (.slice none 0 0)] 76)
              refine hKc _ _ ⟨(hB507.keep (List.nil_sublist _)), ?_⟩
              clear hKc Kc hB506
              generalize wa70.heap.size = gA at *
              generalize wa70.alloc _ = wb71 at *
              refine wpAnyT_all (rs := [10]) (by kernel_rfl) (by simp) (fun wa72 hwa72 hRwa72 i hi => ?_)
              have hB508 := hB507.next hwa72
              clear hB507 hwa72 hRwa72
              obtain rfl := List.mem_singleton.1 hi
              refine wpOp_step rfl (fun Kc hKc => ?_)
              have c_bd := fun j => cell_of_row _ _ j _ _ _ (hB508.get 0 rfl)
              have z_bd := hB508.lt 0 rfl
              have f_bd := fun j => frozen_of_row _ _ j _ _ (hB508.get 0 rfl)
              go_simp
              have hB509 := hB508.put2 0 rfl (.slice A 2 cA) (.slice S 2 d)
              refine hKc _ _ ⟨(hB509.keep (List.nil_sublist _)), ?_⟩
              clear c_bd z_bd f_bd hKc Kc hB508
              generalize (wa72.setCell _ _).setCell _ _ = wb73 at *
              refine wpAnyT_all (rs := [11]) (by kernel_rfl) (by simp) (fun wa74 hwa74 hRwa74 i hi => ?_)
              have hB510 := hB509.next hwa74
              clear hB509 hwa74 hRwa74
              obtain rfl := List.mem_singleton.1 hi
              refine wpOp_step rfl (fun Kc hKc => ?_)
              have c_br := fun j => cell_of_row _ _ j _ _ _ (hB510.get 1 rfl)
              have z_br := hB510.lt 1 rfl
              have f_br := fun j => frozen_of_row _ _ j _ _ (hB510.get 1 rfl)
              go_simp
              have hB511 := hB510.put 1 rfl (⟨1, 3⟩)
              refine hKc _ _ ⟨(hB511.keep (List.nil_sublist _)), ?_⟩
              clear c_br z_br f_br hKc Kc hB510
              generalize (wa74.setCell _ _).setCell _ _ = wb75 at *
              refine wpAnyT_go (Bx.grows _ _) (hB511.keep (List.nil_sublist _)) [12] 0 (by kernel_rfl) ?_
              apply Exists.intro
              refine ⟨fun G hG hN => ?_, ?_⟩
              · have c_a := fun (e : GE (Bx w6 []) G) j => cell_of_row e.w _ j _ _ _ (HA.out e.w (GE.h e).below)
                have z_a := fun (e : GE (Bx w6 []) G) => lt_some (HA.out e.w (GE.h e).below)
                simp only [pickOps, List.getElem?_toArray, List.getElem?_cons_zero, List.getElem?_cons_succ]
                repeat (first | go_big_quiet_step ((first | (go_at_call 48; exact calls_ge (Bx.grows _ _) hG (lof4_any _ _)))) | quiet_step ((first | (go_at_call 48; exact calls_ge (Bx.grows _ _) hG (lof4_any _ _)))))
                exact wpQuiet_nil rfl
              refine wpAnyT_done (by kernel_rfl) (fun wd76 hwd76 hRwd76 => ?_) _
              refine NoPanic.normal ?_
              have hB512 := hB511.next hwd76
              clear hB511 hwd76 hRwd76
              have HM := Lib.hid hB512.mx.swap
              have HF := Lib.hid hB512.fresh
              clear hB512
              go_wp2_with fail
              go_meet
              exact ⟨gA, gP, A, cA, S, d, rfl, rfl, rfl, HM.out, HF.out⟩
          · rcases List.mem_cons.1 hi with rfl | hi
            · refine wpOp_step rfl (fun Kc hKc => ?_)
              go_simp
              have hB503 := hB502.new (g := wa58.heap.size) rfl (.cells #[(.slice none 0 0), (.slice none 0 0)] 76)
              refine hKc _ _ ⟨(hB503.keep (List.nil_sublist _)), ?_⟩
              clear hKc Kc hB502
              generalize wa58.heap.size = gA at *
              generalize wa58.alloc _ = wb77 at *
              refine wpAnyT_all (rs := [3, 9]) (by kernel_rfl) (by simp) (fun wa78 hwa78 hRwa78 i hi => ?_)
              have hB504 := hB503.next hwa78
              clear hB503 hwa78 hRwa78
              rcases List.mem_cons.1 hi with rfl | hi
              · refine wpOp_step rfl (fun Kc hKc => ?_)
                go_simp
                refine Calls.mono (al_mark2 A cA S d _ (HF.out _ hB504.below).1 (HF.out _ hB504.below).2) ?_
                rintro e wv79 ⟨A, cA, S, d, rfl, hF, hb⟩
                have hB505 := Mf.start hB504 hb hF
                clear hb hF
                refine hKc _ _ ⟨(hB505.keep (List.nil_sublist _)), ?_⟩
                clear hKc Kc hB504
                refine wpAnyT_go (Bx.grows _ _) (hB505.keep (List.nil_sublist _)) [4, 5, 6, 7] 4 (by kernel_rfl) ?_
                apply Exists.intro
                refine ⟨fun G hG hN => ?_, ?_⟩
                · have c_a := fun (e : GE (Bx w6 []) G) j => cell_of_row e.w _ j _ _ _ (HA.out e.w (GE.h e).below)
                  have z_a := fun (e : GE (Bx w6 []) G) => lt_some (HA.out e.w (GE.h e).below)
                  simp only [pickOps, List.getElem?_toArray, List.getElem?_cons_zero, List.getElem?_cons_succ]
                  repeat (first | go_big_quiet_step ((first | (go_at_call 48; exact calls_ge (Bx.grows _ _) hG (lof4_any _ _)))) | quiet_step ((first | (go_at_call 48; exact calls_ge (Bx.grows _ _) hG (lof4_any _ _)))))
                  exact wpQuiet_nil rfl
                refine wpAnyT_all (rs := [9]) (by kernel_rfl) (by simp) (fun wa80 hwa80 hRwa80 i hi => ?_)
                have hB506 := hB505.next hwa80
                clear hB505 hwa80 hRwa80
                obtain rfl := List.mem_singleton.1 hi
                refine wpOp_step rfl (fun Kc hKc => ?_)
                go_simp
                have hB507 := hB506.new (g := wa80.heap.size) rfl (rB ⟨0, 0⟩)
                refine hKc _ _ ⟨(hB507.keep (List.nil_sublist _)), ?_⟩
                clear hKc Kc hB506
                generalize wa80.heap.size = gP at *
                generalize wa80.alloc _ = wb81 at *
                refine wpAnyT_all (rs := [10]) (by kernel_rfl) (by simp) (fun wa82 hwa82 hRwa82 i hi => ?_)
                have hB508 := hB507.next hwa82
                clear hB507 hwa82 hRwa82
                obtain rfl := List.mem_singleton.1 hi
                refine wpOp_step rfl (fun Kc hKc => ?_)
                have c_bd := fun j => cell_of_row _ _ j _ _ _ (hB508.get 1 rfl)
                have z_bd := hB508.lt 1 rfl
                have f_bd := fun j => frozen_of_row _ _ j _ _ (hB508.get 1 rfl)
                go_simp
                have hB509 := hB508.put2 1 rfl (.slice A 2 cA) (.slice S 2 d)
                refine hKc _ _ ⟨(hB509.keep (List.nil_sublist _)), ?_⟩
                clear c_bd z_bd f_bd hKc Kc hB508
                generalize (wa82.setCell _ _).setCell _ _ = wb83 at *
                refine wpAnyT_all (rs := [11]) (by kernel_rfl) (by simp) (fun wa84 hwa84 hRwa84 i hi => ?_)
                have hB510 := hB509.next hwa84
                clear hB509 hwa84 hRwa84
                obtain rfl := List.mem_singleton.1 hi
                refine wpOp_step rfl (fun Kc hKc => ?_)
                have c_br := fun j => cell_of_row _ _ j _ _ _ (hB510.get 0 rfl)
                have z_br := hB510.lt 0 rfl
                have f_br := fun j => frozen_of_row _ _ j _ _ (hB510.get 0 rfl)
                go_simp
                have hB511 := hB510.put 0 rfl (⟨1, 3⟩)
                refine hKc _ _ ⟨(hB511.keep (List.nil_sublist _)), ?_⟩
                clear c_br z_br f_br hKc Kc hB510
                generalize (wa84.setCell _ _).setCell _ _ = wb85 at *
                refine wpAnyT_go (Bx.grows _ _) (hB511.keep (List.nil_sublist _)) [12] 0 (by kernel_rfl) ?_
                apply Exists.intro
                refine ⟨fun G hG hN => ?_, ?_⟩
                · have c_a := fun (e : GE (Bx w6 []) G) j => cell_of_row e.w _ j _ _ _ (HA.out e.w (GE.h e).below)
                  have z_a := fun (e : GE (Bx w6 []) G) => lt_some (HA.out e.w (GE.h e).below)
                  simp only [pickOps, List.getElem?_toArray, List.getElem?_cons_zero, List.getElem?_cons_succ]
                  repeat (first | go_big_quiet_step ((first | (go_at_call 48; exact calls_ge (Bx.grows _ _) hG (lof4_any _ _)))) | quiet_step ((first | (go_at_call 48; exact calls_ge (Bx.grows _ _) hG (lof4_any _ _)))))
                  exact wpQuiet_nil rfl
                refine wpAnyT_done (by kernel_rfl) (fun wd86 hwd86 hRwd86 => ?_) _
                refine NoPanic.normal ?_
                have hB512 := hB511.next hwd86
                clear hB511 hwd86 hRwd86
                have HM := Lib.hid hB512.mx
                have HF := Lib.hid hB512.fresh
                clear hB512
                go_wp2_with fail
                go_meet
                exact ⟨gA, gP, A, cA, S, d, rfl, rfl, rfl, HM.out, HF.out⟩
              · obtain rfl := List.mem_singleton.1 hi
                refine wpOp_step rfl (fun Kc hKc => ?_)
                go_simp
                have hB505 := hB504.new (g := wa78.heap.size) rfl (rB ⟨0, 0⟩)
                refine hKc _ _ ⟨(hB505.keep (List.nil_sublist _)), ?_⟩
                clear hKc Kc hB504
                generalize wa78.heap.size = gP at *
                generalize wa78.alloc _ = wb87 at *
                refine wpAnyT_all (rs := [3]) (by kernel_rfl) (by simp) (fun wa88 hwa88 hRwa88 i hi => ?_)
                have hB506 := hB505.next hwa88
                clear hB505 hwa88 hRwa88
                obtain rfl := List.mem_singleton.1 hi
                refine wpOp_step rfl (fun Kc hKc => ?_)
                go_simp
                refine Calls.mono (al_mark2 A cA S d _ (HF.out _ hB506.below).1 (HF.out _ hB506.below).2) ?_
                rintro e wv89 ⟨A, cA, S, d, rfl, hF, hb⟩
                have hB507 := Mf.start hB506 hb hF
                clear hb hF
                refine hKc _ _ ⟨(hB507.keep (List.nil_sublist _)), ?_⟩
                clear hKc Kc hB506
                refine wpAnyT_go (Bx.grows _ _) (hB507.keep (List.nil_sublist _)) [4, 5, 6, 7] 3 (by kernel_rfl) ?_
                apply Exists.intro
                refine ⟨fun G hG hN => ?_, ?_⟩
                · have c_a := fun (e : GE (Bx w6 []) G) j => cell_of_row e.w _ j _ _ _ (HA.out e.w (GE.h e).below)
                  have z_a := fun (e : GE (Bx w6 []) G) => lt_some (HA.out e.w (GE.h e).below)
                  simp only [pickOps, List.getElem?_toArray, List.getElem?_cons_zero, List.getElem?_cons_succ]
                  repeat (first | go_big_quiet_step ((first | (go_at_call 48; exact calls_ge (Bx.grows _ _) hG (lof4_any _ _)))) | quiet_step ((first | (go_at_call 48; exact calls_ge (Bx.grows _ _) hG (lof4_any _ _)))))
                  exact wpQuiet_nil rfl
                refine wpAnyT_all (rs := [10]) (by kernel_rfl) (by simp) (fun wa90 hwa90 hRwa90 i hi => ?_)
                have hB508 := hB507.next hwa90
                clear hB507 hwa90 hRwa90
                obtain rfl := List.mem_singleton.1 hi
                refine wpOp_step rfl (fun Kc hKc => ?_)
                have c_bd := fun j => cell_of_row _ _ j _ _ _ (hB508.get 1 rfl)
                have z_bd := hB508.lt 1 rfl
                have f_bd := fun j => frozen_of_row _ _ j _ _ (hB508.get 1 rfl)
                go_simp
                have hB509 := hB508.put2 1 rfl (.slice A 2 cA) (.slice S 2 d)
                refine hKc _ _ ⟨(hB509.keep (List.nil_sublist _)), ?_⟩
                clear c_bd z_bd f_bd hKc Kc hB508
                generalize (wa90.setCell _ _).setCell _ _ = wb91 at *
                refine wpAnyT_all (rs := [11]) (by kernel_rfl) (by simp) (fun wa92 hwa92 hRwa92 i hi => ?_)
                have hB510 := hB509.next hwa92
                clear hB509 hwa92 hRwa92
                obtain rfl := List.mem_singleton.1 hi
                refine wpOp_step rfl (fun Kc hKc => ?_)
                have c_br := fun j => cell_of_row _ _ j _ _ _ (hB510.get 0 rfl)
                have z_br := hB510.lt 0 rfl
                have f_br := fun j => frozen_of_row _ _ j _ _ (hB510.get 0 rfl)
                go_simp
                have hB511 := hB510.put 0 rfl (⟨1, 3⟩)
                refine hKc _ _ ⟨(hB511.keep (List.nil_sublist _)), ?_⟩
                clear c_br z_br f_br hKc Kc hB510
                generalize (wa92.setCell _ _).setCell _ _ = wb93 at *
                refine wpAnyT_go (Bx.grows _ _) (hB511.keep (List.nil_sublist _)) [12] 0 (by kernel_rfl) ?_
                apply Exists.intro
                refine ⟨fun G hG hN => ?_, ?_⟩
                · have c_a := fun (e : GE (Bx w6 []) G) j => cell_of_row e.w _ j _ _ _ (HA.out e.w (GE.h e).below)
                  have z_a := fun (e : GE (Bx w6 []) G) => lt_some (HA.out e.w (GE.h e).below)
                  simp only [pickOps, List.getElem?_toArray, List.getElem?_cons_zero, List.getElem?_cons_succ]
                  repeat (first | go_big_quiet_step ((first | (go_at_call 48; exact calls_ge (Bx.grows _ _) hG (lof4_any _ _)))) | quiet_step ((first | (go_at_call 48; exact calls_ge (Bx.grows _ _) hG (lof4_any _ _)))))
                  exact wpQuiet_nil rfl
                refine wpAnyT_done (by kernel_rfl) (fun wd94 hwd94 hRwd94 => ?_) _
                refine NoPanic.normal ?_
                have hB512 := hB511.next hwd94
                clear hB511 hwd94 hRwd94
                have HM := Lib.hid hB512.mx
                have HF := Lib.hid hB512.fresh
                clear hB512
                go_wp2_with fail
                go_meet
                exact ⟨gA, gP, A, cA, S, d, rfl, rfl, rfl, HM.out, HF.out⟩
            · obtain rfl := List.mem_singleton.1 hi
              refine wpOp_step rfl (fun Kc hKc => ?_)
              go_simp
              have hB503 := hB502.new (g := wa58.heap.size) rfl (rB ⟨0, 0⟩)
              refine hKc _ _ ⟨(hB503.keep (List.nil_sublist _)), ?_⟩
              clear hKc Kc hB502
              generalize wa58.heap.size = gP at *
              generalize wa58.alloc _ = wb95 at *
              refine wpAnyT_all (rs := [3, 8]) (by kernel_rfl) (by simp) (fun wa96 hwa96 hRwa96 i hi => ?_)
              have hB504 := hB503.next hwa96
              clear hB503 hwa96 hRwa96
              rcases List.mem_cons.1 hi with rfl | hi
              · refine wpOp_step rfl (fun Kc hKc => ?_)
                go_simp
                refine Calls.mono (al_mark2 A cA S d _ (HF.out _ hB504.below).1 (HF.out _ hB504.below).2) ?_
                rintro e wv97 ⟨A, cA, S, d, rfl, hF, hb⟩
                have hB505 := Mf.start hB504 hb hF
                clear hb hF
                refine hKc _ _ ⟨(hB505.keep (List.nil_sublist _)), ?_⟩
                clear hKc Kc hB504
                refine wpAnyT_go (Bx.grows _ _) (hB505.keep (List.nil_sublist _)) [4, 5, 6, 7] 4 (by kernel_rfl) ?_
                apply Exists.intro
                refine ⟨fun G hG hN => ?_, ?_⟩
                · have c_a := fun (e : GE (Bx w6 []) G) j => cell_of_row e.w _ j _ _ _ (HA.out e.w (GE.h e).below)
                  have z_a := fun (e : GE (Bx w6 []) G) => lt_some (HA.out e.w (GE.h e).below)
                  simp only [pickOps, List.getElem?_toArray, List.getElem?_cons_zero, List.getElem?_cons_succ]
                  repeat (first | go_big_quiet_step ((first | (go_at_call 48; exact calls_ge (Bx.grows _ _) hG (lof4_any _ _)))) | quiet_step ((first | (go_at_call 48; exact calls_ge (Bx.grows _ _) hG (lof4_any _ _)))))
                  exact wpQuiet_nil rfl
                refine wpAnyT_all (rs := [8]) (by kernel_rfl) (by simp) (fun wa98 hwa98 hRwa98 i hi => ?_)
                have hB506 := hB505.next hwa98
                clear hB505 hwa98 hRwa98
                obtain rfl := List.mem_singleton.1 hi
                refine wpOp_step rfl (fun Kc hKc => ?_)
                go_simp
                have hB507 := hB506.new (g := wa98.heap.size) rfl (.cells #[(.slice none 0 0), (.slice none 0 0)] 76)
                refine hKc _ _ ⟨(hB507.keep (List.nil_sublist _)), ?_⟩
                clear hKc Kc hB506
                generalize wa98.heap.size = gA at *
                generalize wa98.alloc _ = wb99 at *
                refine wpAnyT_all (rs := [10]) (by kernel_rfl) (by simp) (fun wa100 hwa100 hRwa100 i hi => ?_)
                have hB508 := hB507.next hwa100
                clear hB507 hwa100 hRwa100
                obtain rfl := List.mem_singleton.1 hi
                refine wpOp_step rfl (fun Kc hKc => ?_)
                have c_bd := fun j => cell_of_row _ _ j _ _ _ (hB508.get 0 rfl)
                have z_bd := hB508.lt 0 rfl
                have f_bd := fun j => frozen_of_row _ _ j _ _ (hB508.get 0 rfl)
                go_simp
                have hB509 := hB508.put2 0 rfl (.slice A 2 cA) (.slice S 2 d)
                refine hKc _ _ ⟨(hB509.keep (List.nil_sublist _)), ?_⟩
                clear c_bd z_bd f_bd hKc Kc hB508
                generalize (wa100.setCell _ _).setCell _ _ = wb101 at *
                refine wpAnyT_all (rs := [11]) (by kernel_rfl) (by simp) (fun wa102 hwa102 hRwa102 i hi => ?_)
                have hB510 := hB509.next hwa102
                clear hB509 hwa102 hRwa102
                obtain rfl := List.mem_singleton.1 hi
                refine wpOp_step rfl (fun Kc hKc => ?_)
                have c_br := fun j => cell_of_row _ _ j _ _ _ (hB510.get 1 rfl)
                have z_br := hB510.lt 1 rfl
                have f_br := fun j => frozen_of_row _ _ j _ _ (hB510.get 1 rfl)
                go_simp
                have hB511 := hB510.put 1 rfl (⟨1, 3⟩)
                refine hKc _ _ ⟨(hB511.keep (List.nil_sublist _)), ?_⟩
                clear c_br z_br f_br hKc Kc hB510
                generalize (wa102.setCell _ _).setCell _ _ = wb103 at *
                refine wpAnyT_go (Bx.grows _ _) (hB511.keep (List.nil_sublist _)) [12] 0 (by kernel_rfl) ?_
                apply Exists.intro
                refine ⟨fun G hG hN => ?_, ?_⟩
                · have c_a := fun (e : GE (Bx w6 []) G) j => cell_of_row e.w _ j _ _ _ (HA.out e.w (GE.h e).below)
                  have z_a := fun (e : GE (Bx w6 []) G) => lt_some (HA.out e.w (GE.h e).below)
                  simp only [pickOps, List.getElem?_toArray, List.getElem?_cons_zero, List.getElem?_cons_succ]
                  repeat (first | go_big_quiet_step ((first | (go_at_call 48; exact calls_ge (Bx.grows _ _) hG (lof4_any _ _)))) | quiet_step ((first | (go_at_call 48; exact calls_ge (Bx.grows _ _) hG (lof4_any _ _)))))
                  exact wpQuiet_nil rfl
                refine wpAnyT_done (by kernel_rfl) (fun wd104 hwd104 hRwd104 => ?_) _
                refine NoPanic.normal ?_
                have hB512 := hB511.next hwd104
                clear hB511 hwd104 hRwd104
                have HM := Lib.hid hB512.mx.swap
                have HF := Lib.hid hB512.fresh
                clear hB512
                go_wp2_with fail
                go_meet
                exact ⟨gA, gP, A, cA, S, d, rfl, rfl, rfl, HM.out, HF.out⟩
              · obtain rfl := List.mem_singleton.1 hi
                refine wpOp_step rfl (fun Kc hKc => ?_)
                go_simp
                have hB505 := hB504.new (g := wa96.heap.size) rfl (.cells #[(.slice none 0 0), (.slice none 0 0)] 76)
                refine hKc _ _ ⟨(hB505.keep (List.nil_sublist _)), ?_⟩
                clear hKc Kc hB504
                generalize wa96.heap.size = gA at *
                generalize wa96.alloc _ = wb105 at *
                refine wpAnyT_all (rs := [3]) (by kernel_rfl) (by simp) (fun wa106 hwa106 hRwa106 i hi => ?_)
                have hB506 := hB505.next hwa106
                clear hB505 hwa106 hRwa106
                obtain rfl := List.mem_singleton.1 hi
                refine wpOp_step rfl (fun Kc hKc => ?_)
                go_simp
                refine Calls.mono (al_mark2 A cA S d _ (HF.out _ hB506.below).1 (HF.out _ hB506.below).2) ?_
                rintro e wv107 ⟨A, cA, S, d, rfl, hF, hb⟩
                have hB507 := Mf.start hB506 hb hF
                clear hb hF
                refine hKc _ _ ⟨(hB507.keep (List.nil_sublist _)), ?_⟩
                clear hKc Kc hB506
                refine wpAnyT_go (Bx.grows _ _) (hB507.keep (List.nil_sublist _)) [4, 5, 6, 7] 3 (by kernel_rfl) ?_
                apply Exists.intro
                refine ⟨fun G hG hN => ?_, ?_⟩
                · have c_a := fun (e : GE (Bx w6 []) G) j => cell_of_row e.w _ j _ _ _ (HA.out e.w (GE.h e).below)
                  have z_a := fun (e : GE (Bx w6 []) G) => lt_some (HA.out e.w (GE.h e).below)
                  simp only [pickOps, List.getElem?_toArray, List.getElem?_cons_zero, List.getElem?_cons_succ]
                  repeat (first | go_big_quiet_step ((first | (go_at_call 48; exact calls_ge (Bx.grows _ _) hG (lof4_any _ _)))) | quiet_step ((first | (go_at_call 48; exact calls_ge (Bx.grows _ _) hG (lof4_any _ _)))))
                  exact wpQuiet_nil rfl
                refine wpAnyT_all (rs := [10]) (by kernel_rfl) (by simp) (fun wa108 hwa108 hRwa108 i hi => ?_)
                have hB508 := hB507.next hwa108
                clear hB507 hwa108 hRwa108
                obtain rfl := List.mem_singleton.1 hi
                refine wpOp_step rfl (fun Kc hKc => ?_)
                have c_bd := fun j => cell_of_row _ _ j _ _ _ (hB508.get 0 rfl)
                have z_bd := hB508.lt 0 rfl
                have f_bd := fun j => frozen_of_row _ _ j _ _ (hB508.get 0 rfl)
                go_simp
                have hB509 := hB508.put2 0 rfl (.slice A 2 cA) (.slice S 2 d)
                refine hKc _ _ ⟨(hB509.keep (List.nil_sublist _)), ?_⟩
                clear c_bd z_bd f_bd hKc Kc hB508
                generalize (wa108.setCell _ _).setCell _ _ = wb109 at *
                refine wpAnyT_all (rs := [11]) (by kernel_rfl) (by simp) (fun wa110 hwa110 hRwa110 i hi => ?_)
                have hB510 := hB509.next hwa110
                clear hB509 hwa110 hRwa110
                obtain rfl := List.mem_singleton.1 hi
                refine wpOp_step rfl (fun Kc hKc => ?_)
                have c_br := fun j => cell_of_row _ _ j _ _ _ (hB510.get 1 rfl)
                have z_br := hB510.lt 1 rfl
                have f_br := fun j => frozen_of_row _ _ j _ _ (hB510.get 1 rfl)
                go_simp
                have hB511 := hB510.put 1 rfl (⟨1, 3⟩)
                refine hKc _ _ ⟨(hB511.keep (List.nil_sublist _)), ?_⟩
                clear c_br z_br f_br hKc Kc hB510
                generalize (wa110.setCell _ _).setCell _ _ = wb111 at *
                refine wpAnyT_go (Bx.grows _ _) (hB511.keep (List.nil_sublist _)) [12] 0 (by kernel_rfl) ?_
                apply Exists.intro
                refine ⟨fun G hG hN => ?_, ?_⟩
                · have c_a := fun (e : GE (Bx w6 []) G) j => cell_of_row e.w _ j _ _ _ (HA.out e.w (GE.h e).below)
                  have z_a := fun (e : GE (Bx w6 []) G) => lt_some (HA.out e.w (GE.h e).below)
                  simp only [pickOps, List.getElem?_toArray, List.getElem?_cons_zero, List.getElem?_cons_succ]
                  repeat (first | go_big_quiet_step ((first | (go_at_call 48; exact calls_ge (Bx.grows _ _) hG (lof4_any _ _)))) | quiet_step ((first | (go_at_call 48; exact calls_ge (Bx.grows _ _) hG (lof4_any _ _)))))
                  exact wpQuiet_nil rfl
                refine wpAnyT_done (by kernel_rfl) (fun wd112 hwd112 hRwd112 => ?_) _
                refine NoPanic.normal ?_
                have hB512 := hB511.next hwd112
                clear hB511 hwd112 hRwd112
                have HM := Lib.hid hB512.mx.swap
                have HF := Lib.hid hB512.fresh
                clear hB512
                go_wp2_with fail
                go_meet
                exact ⟨gA, gP, A, cA, S, d, rfl, rfl, rfl, HM.out, HF.out⟩
      case rest =>
        as_aux_lemma =>
          obtain ⟨gB, gQ, A2, cA2, S2, d2, rfl, rfl, rfl, hM, hF2⟩ := hcut
          have HB7 := Lib.hid (bcall HB6.out HB6.out.size hM.below)
          have HP7 := Lib.hid (fun (V : World) (hV : Below wc.heap.size wc V) => HP.out V (bcall hM.below hM.below.size hV))
          generalize wc = w7 at *
          have HA7 := Lib.hid (fun (V : World) (hV : Below w7.heap.size w7 V) => heap_ext (hM.get 1 rfl) hV)
          have HQ7 := Lib.hid (fun (V : World) (hV : Below w7.heap.size w7 V) => heap_ext (hM.get 0 rfl) hV)
          have HL7 := Lib.hid (fun (V : World) (hV : Below w7.heap.size w7 V) => (hF2.ext hV).2)
          clear hM hF2 HA HP HF HB6
          have hZ := Mx.of_bx (Bx.start w7)
          try go_upto_region 6 with fail
          go_wp2_with fail
          refine wp_region_T (Bx w7 []) 9 (by kernel_rfl) (by rfl) ((hZ.keep (List.nil_sublist _)).drew) (fun wq113 hbq => ?_)
          have hB1 := hZ.next hbq
          clear hZ hbq
          refine wpAnyT_go (Bx.grows _ _) (hB1.keep (List.nil_sublist _)) [1, 2] 7 (by kernel_rfl) ?_
          apply Exists.intro
          refine ⟨fun G hG hN => ?_, ?_⟩
          · have c_b := fun (e : GE (Bx w7 []) G) j => cell_of_row e.w _ j _ _ _ (HA7.out e.w (GE.h e).below)
            have z_b := fun (e : GE (Bx w7 []) G) => lt_some (HA7.out e.w (GE.h e).below)
            simp only [pickOps, List.getElem?_toArray, List.getElem?_cons_zero, List.getElem?_cons_succ]
            repeat (first | go_big_quiet_step (fail) | quiet_step (fail))
            exact wpQuiet_nil rfl
          refine wpAnyT_all (rs := [0]) (by kernel_rfl) (by simp) (fun wa114 hwa114 hRwa114 i hi => ?_)
          have hB2 := hB1.next hwa114
          clear hB1 hwa114 hRwa114
          obtain rfl := List.mem_singleton.1 hi
          refine wpOp_step rfl (fun Kc hKc => ?_)
          go_simp
          refine Calls.mono (two_any _) ?_
          rintro e wv115 ⟨k0, k1, k2, k3, k4, rfl, hT⟩
          have hB3 := Mf.start hB2 hT.below (two_fresh hT)
          clear hT
          refine hKc _ _ ⟨(hB3.keep (List.nil_sublist _)), ?_⟩
          clear hKc Kc hB2
          refine wpAnyT_all (rs := [3]) (by kernel_rfl) (by simp) (fun wa116 hwa116 hRwa116 i hi => ?_)
          have hB4 := hB3.next hwa116
          clear hB3 hwa116 hRwa116
          obtain rfl := List.mem_singleton.1 hi
          refine wpOp_step rfl (fun Kc hKc => ?_)
          go_simp
          refine Calls.mono (al_replay1 _ _ S2 d2 _ hB4.here (HL7.out _ hB4.below)) ?_
          rintro e wv117 ⟨rfl, hb⟩
          have hB5 := hB4.next hb
          clear hb
          refine hKc _ _ ⟨(hB5.keep (List.nil_sublist _)), ?_⟩
          clear hKc Kc hB4
          refine wpAnyT_go (Bx.grows _ _) (hB5.keep (List.nil_sublist _)) [4, 5, 6, 7, 8] 0 (by kernel_rfl) ?_
          apply Exists.intro
          refine ⟨fun G hG hN => ?_, ?_⟩
          · have c_b := fun (e : GE (Bx w7 []) G) j => cell_of_row e.w _ j _ _ _ (HA7.out e.w (GE.h e).below)
            have z_b := fun (e : GE (Bx w7 []) G) => lt_some (HA7.out e.w (GE.h e).below)
            simp only [pickOps, List.getElem?_toArray, List.getElem?_cons_zero, List.getElem?_cons_succ]
            repeat (first | go_big_quiet_step (fail) | quiet_step (fail))
            exact wpQuiet_nil rfl
          refine wpAnyT_done (by kernel_rfl) (fun wd118 hwd118 hRwd118 => ?_) _
          refine NoPanic.normal ?_
          have hB6 := hB5.next hwd118
          clear hB5 hwd118 hRwd118
          have HLW := Lib.hid hB6.below
          have hZ7 := hB6.mx.bx
          clear hB6
          go_wp2_with fail
          refine (two_any _).mono ?_
          rintro e w8 ⟨h0, h1, h2, h3, h4, rfl, hT⟩
          have HB8 := Lib.hid (bcall hZ7.below hZ7.below.size hT.below)
          have HT := Lib.hid hT
          clear hT hZ7
          go_upto_region 8 with fail
          go_cut [] (fun wx => Bx wd118 [(h4, .cells #[.int .i64 2, .slice (some ⟨h2, 0, none⟩) 3 3, .slice (some ⟨h3, 0, none⟩) 2 2, .int .i64 2, .slice (some ⟨h0, 0, none⟩) 2 2, .slice (some ⟨h1, 0, none⟩) 1 1] 24), (h3, .cells #[.int .i64 3, .int .i64 1] 3), (h2, .cells #[.int .i64 0, .int .i64 1, .int .i64 2] 3), (h1, .cells #[.int .i64 1] 3), (h0, .cells #[.int .i64 0, .int .i64 2] 3)] wx)
          case first =>
            as_aux_lemma =>
              have hT := Mx.of_bx HT.out
              go_wp2_with fail
              refine wp_region_T (Bx wd118 []) 12 (by kernel_rfl) (by rfl) ((hT.keep (List.nil_sublist _)).drew) (fun wq119 hbq => ?_)
              have hB801 := hT.next hbq
              clear hT hbq
              refine wpAnyT_go (Bx.grows _ _) (hB801.keep (List.nil_sublist _)) [0, 1, 2, 3, 5, 6] 6 (by kernel_rfl) ?_
              apply Exists.intro
              refine ⟨fun G hG hN => ?_, ?_⟩
              · simp only [pickOps, List.getElem?_toArray, List.getElem?_cons_zero, List.getElem?_cons_succ]
                repeat (first | go_big_quiet_step (fail) | quiet_step (fail))
                exact wpQuiet_nil rfl
              refine wpAnyT_all (rs := [4, 7]) (by kernel_rfl) (by simp) (fun wa120 hwa120 hRwa120 i hi => ?_)
              have hB802 := hB801.next hwa120
              clear hB801 hwa120 hRwa120
              rcases List.mem_cons.1 hi with rfl | hi
              · refine wpOp_step rfl (fun Kc hKc => ?_)
                have c_tw := fun j => cell_of_row _ _ j _ _ _ (hB802.get 0 rfl)
                have z_tw := hB802.lt 0 rfl
                go_simp
                refine hKc _ _ ⟨(hB802.keep (List.nil_sublist _)), ?_⟩
                clear hKc Kc
                clear c_tw z_tw
                refine wpAnyT_all (rs := [7]) (by kernel_rfl) (by simp) (fun wa121 hwa121 hRwa121 i hi => ?_)
                have hB803 := hB802.next hwa121
                clear hB802 hwa121 hRwa121
                obtain rfl := List.mem_singleton.1 hi
                refine wpOp_step rfl (fun Kc hKc => ?_)
                have c_tw := fun j => cell_of_row _ _ j _ _ _ (hB803.get 0 rfl)
                have z_tw := hB803.lt 0 rfl
                go_simp
                refine hKc _ _ ⟨(hB803.keep (List.nil_sublist _)), ?_⟩
                clear hKc Kc
                clear c_tw z_tw
                refine wpAnyT_go (Bx.grows _ _) (hB803.keep (List.nil_sublist _)) [8] 3 (by kernel_rfl) ?_
                apply Exists.intro
                refine ⟨fun G hG hN => ?_, ?_⟩
                · simp only [pickOps, List.getElem?_toArray, List.getElem?_cons_zero, List.getElem?_cons_succ]
                  repeat (first | go_big_quiet_step (fail) | quiet_step (fail))
                  exact wpQuiet_nil rfl
                refine wpAnyT_all (rs := [9]) (by kernel_rfl) (by simp) (fun wa122 hwa122 hRwa122 i hi => ?_)
                have hB804 := hB803.next hwa122
                clear hB803 hwa122 hRwa122
                obtain rfl := List.mem_singleton.1 hi
                refine wpOp_step rfl (fun Kc hKc => ?_)
                have c_tw := fun j => cell_of_row _ _ j _ _ _ (hB804.get 0 rfl)
                have z_tw := hB804.lt 0 rfl
                have f_tw := fun j => frozen_of_row _ _ j _ _ (hB804.get 0 rfl)
                go_simp
                have hB805 := ((hB804.set 0 rfl 0 (.int .i64 2)).set 0 rfl 1 (.slice (some ⟨h2, 0, none⟩) 3 3)).set 0 rfl 2 (.slice (some ⟨h3, 0, none⟩) 2 2)
                refine hKc _ _ ⟨(hB805.keep (List.nil_sublist _)), ?_⟩
                clear c_tw z_tw f_tw hKc Kc hB804
                generalize ((wa122.setCell _ _).setCell _ _).setCell _ _ = wb123 at *
                refine wpAnyT_go (Bx.grows _ _) (hB805.keep (List.nil_sublist _)) [10] 1 (by kernel_rfl) ?_
                apply Exists.intro
                refine ⟨fun G hG hN => ?_, ?_⟩
                · simp only [pickOps, List.getElem?_toArray, List.getElem?_cons_zero, List.getElem?_cons_succ]
                  repeat (first | go_big_quiet_step (fail) | quiet_step (fail))
                  exact wpQuiet_nil rfl
                refine wpAnyT_all (rs := [11]) (by kernel_rfl) (by simp) (fun wa124 hwa124 hRwa124 i hi => ?_)
                have hB806 := hB805.next hwa124
                clear hB805 hwa124 hRwa124
                obtain rfl := List.mem_singleton.1 hi
                refine wpOp_step rfl (fun Kc hKc => ?_)
                have c_tw := fun j => cell_of_row _ _ j _ _ _ (hB806.get 0 rfl)
                have z_tw := hB806.lt 0 rfl
                have f_tw := fun j => frozen_of_row _ _ j _ _ (hB806.get 0 rfl)
                go_simp
                have hB807 := ((hB806.set 0 rfl 3 (.int .i64 2)).set 0 rfl 4 (.slice (some ⟨h0, 0, none⟩) 2 2)).set 0 rfl 5 (.slice (some ⟨h1, 0, none⟩) 1 1)
                refine hKc _ _ ⟨(hB807.keep (List.nil_sublist _)), ?_⟩
                clear c_tw z_tw f_tw hKc Kc hB806
                generalize ((wa124.setCell _ _).setCell _ _).setCell _ _ = wb125 at *
                refine wpAnyT_done (by kernel_rfl) (fun wd126 hwd126 hRwd126 => ?_) _
                refine NoPanic.normal ?_
                have hB808 := hB807.next hwd126
                clear hB807 hwd126 hRwd126
                have HM := Lib.hid hB808.bx
                clear hB808
                go_wp2_with fail
                go_meet
                exact HM.out
              · obtain rfl := List.mem_singleton.1 hi
                refine wpOp_step rfl (fun Kc hKc => ?_)
                have c_tw := fun j => cell_of_row _ _ j _ _ _ (hB802.get 0 rfl)
                have z_tw := hB802.lt 0 rfl
                go_simp
                refine hKc _ _ ⟨(hB802.keep (List.nil_sublist _)), ?_⟩
                clear hKc Kc
                clear c_tw z_tw
                refine wpAnyT_all (rs := [4]) (by kernel_rfl) (by simp) (fun wa127 hwa127 hRwa127 i hi => ?_)
                have hB803 := hB802.next hwa127
                clear hB802 hwa127 hRwa127
                obtain rfl := List.mem_singleton.1 hi
                refine wpOp_step rfl (fun Kc hKc => ?_)
                have c_tw := fun j => cell_of_row _ _ j _ _ _ (hB803.get 0 rfl)
                have z_tw := hB803.lt 0 rfl
                go_simp
                refine hKc _ _ ⟨(hB803.keep (List.nil_sublist _)), ?_⟩
                clear hKc Kc
                clear c_tw z_tw
                refine wpAnyT_go (Bx.grows _ _) (hB803.keep (List.nil_sublist _)) [8] 3 (by kernel_rfl) ?_
                apply Exists.intro
                refine ⟨fun G hG hN => ?_, ?_⟩
                · simp only [pickOps, List.getElem?_toArray, List.getElem?_cons_zero, List.getElem?_cons_succ]
                  repeat (first | go_big_quiet_step (fail) | quiet_step (fail))
                  exact wpQuiet_nil rfl
                refine wpAnyT_all (rs := [9]) (by kernel_rfl) (by simp) (fun wa128 hwa128 hRwa128 i hi => ?_)
                have hB804 := hB803.next hwa128
                clear hB803 hwa128 hRwa128
                obtain rfl := List.mem_singleton.1 hi
                refine wpOp_step rfl (fun Kc hKc => ?_)
                have c_tw := fun j => cell_of_row _ _ j _ _ _ (hB804.get 0 rfl)
                have z_tw := hB804.lt 0 rfl
                have f_tw := fun j => frozen_of_row _ _ j _ _ (hB804.get 0 rfl)
                go_simp
                have hB805 := ((hB804.set 0 rfl 0 (.int .i64 2)).set 0 rfl 1 (.slice (some ⟨h2, 0, none⟩) 3 3)).set 0 rfl 2 (.slice (some ⟨h3, 0, none⟩) 2 2)
                refine hKc _ _ ⟨(hB805.keep (List.nil_sublist _)), ?_⟩
                clear c_tw z_tw f_tw hKc Kc hB804
                generalize ((wa128.setCell _ _).setCell _ _).setCell _ _ = wb129 at *
                refine wpAnyT_go (Bx.grows _ _) (hB805.keep (List.nil_sublist _)) [10] 1 (by kernel_rfl) ?_
                apply Exists.intro
                refine ⟨fun G hG hN => ?_, ?_⟩
                · simp only [pickOps, List.getElem?_toArray, List.getElem?_cons_zero, List.getElem?_cons_succ]
                  repeat (first | go_big_quiet_step (fail) | quiet_step (fail))
                  exact wpQuiet_nil rfl
                refine wpAnyT_all (rs := [11]) (by kernel_rfl) (by simp) (fun wa130 hwa130 hRwa130 i hi => ?_)
                have hB806 := hB805.next hwa130
                clear hB805 hwa130 hRwa130
                obtain rfl := List.mem_singleton.1 hi
                refine wpOp_step rfl (fun Kc hKc => ?_)
                have c_tw := fun j => cell_of_row _ _ j _ _ _ (hB806.get 0 rfl)
                have z_tw := hB806.lt 0 rfl
                have f_tw := fun j => frozen_of_row _ _ j _ _ (hB806.get 0 rfl)
                go_simp
                have hB807 := ((hB806.set 0 rfl 3 (.int .i64 2)).set 0 rfl 4 (.slice (some ⟨h0, 0, none⟩) 2 2)).set 0 rfl 5 (.slice (some ⟨h1, 0, none⟩) 1 1)
                refine hKc _ _ ⟨(hB807.keep (List.nil_sublist _)), ?_⟩
                clear c_tw z_tw f_tw hKc Kc hB806
                generalize ((wa130.setCell _ _).setCell _ _).setCell _ _ = wb131 at *
                refine wpAnyT_done (by kernel_rfl) (fun wd132 hwd132 hRwd132 => ?_) _
                refine NoPanic.normal ?_
                have hB808 := hB807.next hwd132
                clear hB807 hwd132 hRwd132
                have HM := Lib.hid hB808.bx
                clear hB808
                go_wp2_with fail
                go_meet
                exact HM.out
          case rest =>
            as_aux_lemma =>
              have hW := hcut
              generalize wc = w9 at *
              have HB9 := Lib.hid hW.below
              have hkc : CsIn w9.heap.size w9 (some ⟨h4, 0, none⟩) 2 kcT := cs_two (hW.get 0 rfl) ⟨rfl, rfl, rfl⟩ ⟨rfl, rfl, rfl⟩ (two_k1 (hW.get 2 rfl) (hW.get 1 rfl)) (two_k0 (hW.get 4 rfl) (hW.get 3 rfl))
              clear hcut hW HB8 HT
              have HB79 := Lib.hid (bcall HLW.out HLW.out.size HB9.out)
              clear HB9
              have h_b := HA7.out _ HB79.out
              have c_b := fun j => cell_of_row _ _ j _ _ _ h_b
              have z_b := lt_some h_b
              go_wp2_with fail
              refine (al_replay2 _ _ S2 d2 _ hkc (HL7.out _ HB79.out)).mono ?_
              rintro e w10 ⟨rfl, hb⟩
              have HB10 := Lib.hid (bcall HB79.out HB79.out.size hb)
              clear hb c_b z_b h_b hkc HB79
              have HAX := Lib.hid (fun (V : World) (hV : Below w10.heap.size w10 V) => HA7.out V (bcall HB10.out HB10.out.size hV))
              have HPX := Lib.hid (fun (V : World) (hV : Below w10.heap.size w10 V) => HP7.out V (bcall HB10.out HB10.out.size hV))
              have HQX := Lib.hid (fun (V : World) (hV : Below w10.heap.size w10 V) => HQ7.out V (bcall HB10.out HB10.out.size hV))
              have HC := Lib.hid (fun (g : Int) (hg : cnt lg2 g = 1) (V : World) (hV : Below w10.heap.size w10 V) => al_count S2 d2 g hg V (HL7.out V (bcall HB10.out HB10.out.size hV)))
              have HBX := Lib.hid (bcall HB7.out HB7.out.size HB10.out)
              clear HA7 HP7 HQ7 HL7 HB7 HB10 HLW
              have hX := Mx.of_bx (Bx.start w10)
              go_wp2_with fail
              refine wp_region_T (Bx w10 []) 71 (by kernel_rfl) (by rfl) ((hX.keep (List.nil_sublist _)).drew) (fun wq133 hbq => ?_)
              have hB951 := hX.next hbq
              clear hX hbq
              refine wpAnyT_go (Bx.grows _ _) (hB951.keep (List.nil_sublist _)) [0, 1, 2, 3, 4, 5, 6, 7, 8, 9, 10, 11, 12, 13, 14, 15, 16, 17, 18, 19, 20, 21, 22, 23, 24, 25, 26, 27, 28, 29, 30, 31, 32, 33, 34, 35, 36, 37, 38, 39, 40, 41, 42, 43, 44, 45, 46, 47, 48, 49, 50, 51, 52, 53, 54, 55, 56, 57, 58, 59, 60, 61, 62, 63, 64, 65, 66, 67, 68, 69, 70] 0 (by kernel_rfl) ?_
              apply Exists.intro
              refine ⟨fun G hG hN => ?_, ?_⟩
              · have c_b := fun (e : GE (Bx w10 []) G) j => cell_of_row e.w _ j _ _ _ (HAX.out e.w (GE.h e).below)
                have z_b := fun (e : GE (Bx w10 []) G) => lt_some (HAX.out e.w (GE.h e).below)
                have c_p := fun (e : GE (Bx w10 []) G) j => cell_of_row e.w _ j _ _ _ (HPX.out e.w (GE.h e).below)
                have z_p := fun (e : GE (Bx w10 []) G) => lt_some (HPX.out e.w (GE.h e).below)
                have c_q := fun (e : GE (Bx w10 []) G) j => cell_of_row e.w _ j _ _ _ (HQX.out e.w (GE.h e).below)
                have z_q := fun (e : GE (Bx w10 []) G) => lt_some (HQX.out e.w (GE.h e).below)
                simp only [pickOps, List.getElem?_toArray, List.getElem?_cons_zero, List.getElem?_cons_succ]
                repeat (first | go_big_quiet_step ((first | (go_at_call 48; exact calls_ge (Bx.grows _ _) hG (lof4_any _ _)) | (go_at_call 53; exact calls_ge (Bx.grows _ _) hG (HC.out _ (by first | exact al8.1 | exact al8.2) _ (Bx.below (GE.h _)))))) | quiet_step ((first | (go_at_call 48; exact calls_ge (Bx.grows _ _) hG (lof4_any _ _)) | (go_at_call 53; exact calls_ge (Bx.grows _ _) hG (HC.out _ (by first | exact al8.1 | exact al8.2) _ (Bx.below (GE.h _)))))))
                exact wpQuiet_nil rfl
              refine wpAnyT_done (by kernel_rfl) (fun wd134 hwd134 hRwd134 => ?_) _
              refine NoPanic.normal ?_
              have hB952 := hB951.next hwd134
              clear hB951 hwd134 hRwd134
              have HE := Lib.hid (bcall HBX.out HBX.out.size hB952.below)
              clear hB952
              go_wp2_with fail
              go_ret
              exact ⟨rfl, HE.out⟩
end Go.Proofs.Ytgcbmnohhbcfiaa
