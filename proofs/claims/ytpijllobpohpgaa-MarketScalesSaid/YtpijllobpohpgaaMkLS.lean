/- MarketScales returns true. -/
import Derived.Test.YtpijllobpohpgaaMkEx
import Derived.Test.YtpijllobpohpgaaMkSc
import Derived.Test.YtpijllobpohpgaaMa6
import Derived.Test.YtpijllobpohpgaaFlowT
namespace Go.Proofs.Ytpijllobpohpgaa
open Go.RowKit Go.Deep
set_option linter.unusedVariables false
set_option linter.unusedSimpArgs false

theorem Mx.perm {w W : World} {L L' : List (Nat × Obj)} {R R' : List Rw} (h : Mx w L R W) (hL : L.Perm L') (hR : R.Perm R') : Mx w L' R' W :=
  ⟨h.bx.perm hL, fun r hr => h.own r (hR.mem_iff.2 hr), fun r hr g hg hm => h.apart r (hR.mem_iff.2 hr) g hg ((hL.map _).mem_iff.2 hm), (hR.filterMap _).nodup_iff.1 h.nd⟩
/-- Goods whose two rows were made since. -/
theorem gd_own {w : World} {g n : Nat} {u v : Addr} {c0 c1 : Nat} {bs : List (List Int)} (h2 : bs.length = 2) (h3 : w.heap[g]? = some (.cells #[.slice (some u) n c0, .slice (some v) n c1] 40)) (l0 : (gr bs 0).length = n) (l1 : (gr bs 1).length = n)
    (i0 : Ints w.heap.size w (some u) (gr bs 0)) (i1 : Ints w.heap.size w (some v) (gr bs 1)) (a0 : n ≤ c0) (b0 : c0 ≤ maxLen) (a1 : n ≤ c1) (b1 : c1 ≤ maxLen) : GIn w.heap.size w (some ⟨g, 0, none⟩) 2 bs := by
  refine ⟨fun _ => ⟨_, rfl, lt_some h3, fun i hi => ?_⟩, by omega, by unfold maxLen; omega⟩
  match i, (show i < 2 by omega) with
  | 0, _ => exact ⟨_, c0, by rw [add_mk, cell_of_row _ _ _ _ _ _ h3, l0]; rfl, by omega, b0, i0⟩
  | 1, _ => exact ⟨_, c1, by rw [add_mk, cell_of_row _ _ _ _ _ _ h3, l1]; rfl, by omega, b1, i1⟩
theorem list_of_gi {l m : List Int} (hl : l.length = m.length) (h : ∀ j, j < m.length → gi l j = gi m j) : l = m := by
  refine List.ext_getElem hl fun j h1 h2 => ?_
  have := h j h2
  rwa [gi_get h1, gi_get h2] at this
set_option maxRecDepth 100000 in
set_option maxHeartbeats 64000000 in
theorem scales_walk (bs : List (List Int)) (A : Option Addr) (c : Nat) (i t : Int) (w : World) (h : GIn w.heap.size w A c bs) :
    Calls Try.prog 8 #[gV A c bs, .int .i64 i, .int .i64 t] w fun e w' => e = .returned (.bool true) ∧ Below w.heap.size w w' := by
  obtain ⟨i0, hi0, hz0, hz1, hz2⟩ := info_parts info3
  have hB0 : Bx w [(w.heap.size, gB A c bs)] (w.alloc (gB A c bs)) := (Bx.start w).new rfl _
  have H0 := Lib.hid (fun (W : World) (hW : Below w.heap.size w W) => fmcheck_any bs A c W (h.next hW))
  have HG := Lib.hid h
  clear h
  go_enter Try.func8, Try.ntmps8
  try dsimp only [List.append]
  go_upto_region 1 with fail
  generalize w.alloc (gB A c bs) = w0 at *
  have c_G := fun j => cell_of_row _ _ j _ _ _ (hB0.get 0 rfl)
  have z_G := hB0.lt 0 rfl
  go_wp2_with fail
  refine (malive_any _).mono ?_
  rintro e w1 ⟨rfl, hb⟩
  have hB1 := hB0.next hb
  clear c_G z_G hb hB0
  by_cases hc : mkCode bs = 0
  rotate_left
  · have c_G := fun j => cell_of_row _ _ j _ _ _ (hB1.get 0 rfl)
    have z_G := hB1.lt 0 rfl
    have q : (mkCode bs != 0) = true := bneT hc
    clear hc
    generalize mkCode bs = kc at *
    go_wp2_with fail
    refine (H0.out _ hB1.below).mono ?_
    rintro e w2 ⟨rfl, hb⟩
    have hB2 := hB1.next hb
    clear c_G z_G hb hB1
    have HE := Lib.hid hB2.below
    clear hB2
    go_wp2_with fail
    go_ret
    exact ⟨rfl, HE.out⟩
  have HC := Lib.hid hc
  have q : ((0 : Int) != 0) = false := rfl
  rw [hc] at H0
  clear hc
  by_cases hg : i < 0
  · have g0 : decide (i < 0) = true := decide_eq_true hg
    clear hg
    have c_G := fun j => cell_of_row _ _ j _ _ _ (hB1.get 0 rfl)
    have z_G := hB1.lt 0 rfl
    go_wp2_with fail
    refine (H0.out _ hB1.below).mono ?_
    rintro e w2 ⟨rfl, hb⟩
    have hB2 := hB1.next hb
    clear c_G z_G hb hB1
    have HE := Lib.hid hB2.below
    clear hB2
    go_wp2_with fail
    go_ret
    exact ⟨rfl, HE.out⟩
  have g0 : decide (i < 0) = false := decide_eq_false hg
  have hg0 := hg
  clear hg
  by_cases hg : 1 < i
  · have g1 : decide ((1 : Int) < i) = true := decide_eq_true hg
    clear hg
    have c_G := fun j => cell_of_row _ _ j _ _ _ (hB1.get 0 rfl)
    have z_G := hB1.lt 0 rfl
    go_wp2_with fail
    refine (H0.out _ hB1.below).mono ?_
    rintro e w2 ⟨rfl, hb⟩
    have hB2 := hB1.next hb
    clear c_G z_G hb hB1
    have HE := Lib.hid hB2.below
    clear hB2
    go_wp2_with fail
    go_ret
    exact ⟨rfl, HE.out⟩
  have g1 : decide ((1 : Int) < i) = false := decide_eq_false hg
  have hg1 := hg
  clear hg
  by_cases hg : t < 1
  · have g2 : decide (t < 1) = true := decide_eq_true hg
    clear hg
    have c_G := fun j => cell_of_row _ _ j _ _ _ (hB1.get 0 rfl)
    have z_G := hB1.lt 0 rfl
    go_wp2_with fail
    refine (H0.out _ hB1.below).mono ?_
    rintro e w2 ⟨rfl, hb⟩
    have hB2 := hB1.next hb
    clear c_G z_G hb hB1
    have HE := Lib.hid hB2.below
    clear hB2
    go_wp2_with fail
    go_ret
    exact ⟨rfl, HE.out⟩
  have g2 : decide (t < 1) = false := decide_eq_false hg
  have hg2 := hg
  clear hg
  by_cases hg : 1000 < t
  · have g3 : decide ((1000 : Int) < t) = true := decide_eq_true hg
    clear hg
    have c_G := fun j => cell_of_row _ _ j _ _ _ (hB1.get 0 rfl)
    have z_G := hB1.lt 0 rfl
    go_wp2_with fail
    refine (H0.out _ hB1.below).mono ?_
    rintro e w2 ⟨rfl, hb⟩
    have hB2 := hB1.next hb
    clear c_G z_G hb hB1
    have HE := Lib.hid hB2.below
    clear hB2
    go_wp2_with fail
    go_ret
    exact ⟨rfl, HE.out⟩
  have g3 : decide ((1000 : Int) < t) = false := decide_eq_false hg
  have hg3 := hg
  clear hg
  have c_G := fun j => cell_of_row _ _ j _ _ _ (hB1.get 0 rfl)
  have z_G := hB1.lt 0 rfl
  go_wp2_with fail
  refine (H0.out _ hB1.below).mono ?_
  rintro e w2 ⟨rfl, hb⟩
  have hB2 := hB1.next hb
  clear c_G z_G hb hB1
  obtain ⟨ni, rfl, hni⟩ : ∃ n : Nat, i = n ∧ n < 2 := ⟨i.toNat, by omega, by omega⟩
  have HI := Lib.hid hni
  have HT := Lib.hid (show 0 < t ∧ t ≤ 1000 by omega)
  have HMO := Lib.hid (mk_ok HC.out).2
  have H22 := Lib.hid (mk_ok HC.out).1
  have HN := Lib.hid (show (gr bs 0).length ≤ 10 ∧ 0 < (gr bs 0).length from ⟨(mk_ok HC.out).2.n10, (mk_ok HC.out).2.n0⟩)
  have HLB := Lib.hid (show (gr bs 1).length = (gr bs 0).length from (mk_ok HC.out).2.lb)
  obtain ⟨ad, R0, c0, R1, c1, xa, ya, rfl, hvl⟩ := HG.out.vals HC.out
  have HVL := Lib.hid (fun (V : World) (hB : Below w.heap.size w V) => hvl.next hB)
  obtain rfl := hvl.e0
  obtain rfl := hvl.e1
  clear hvl hni hg0 hg1 hg2 hg3
  have z0 : (0 : Int) < (bs.length : Int) := by rw [H22.out]; decide
  have z1 : (1 : Int) < (bs.length : Int) := by rw [H22.out]; decide
  go_upto_region 4 with fail
  clear g0 g1 g2 g3 q H0
  have hM4 := Mx.of_bx hB2
  clear hB2
  go_cut [8] (fun s wx => ∃ gW gL u v cu cv, s = .pointer (some ⟨gW, 0, none⟩) ∧ (gr bs 0).length ≤ cu ∧ cu ≤ maxLen ∧ (gr bs 0).length ≤ cv ∧ cv ≤ maxLen ∧ Mx w [(gW, .cells #[.slice (some ⟨gL, 0, none⟩) 2 2] 24), (gL, .cells #[.slice (some ⟨u, 0, none⟩) (gr bs 0).length cu, .slice (some ⟨v, 0, none⟩) (gr bs 0).length cv] 40), (w.heap.size, gB (some ad) c bs)] [⟨.slice (some ⟨u, 0, none⟩) (gr bs 0).length cu, 3, 1, (gr bs 0).length, intsV (gr bs 0)⟩, ⟨.slice (some ⟨v, 0, none⟩) (gr bs 0).length cv, 3, 1, (gr bs 0).length, intsV (gr bs 1)⟩] wx)
  case first =>
    as_aux_lemma =>
      refine wp_region_T (Bx w [(w.heap.size, gB (some ad) c bs)]) 16 (by kernel_rfl) (by rfl) ((hM4.keep (List.Sublist.cons_cons _ (List.nil_sublist _))).drew) (fun wq1 hbq => ?_)
      have hB41 := hM4.next hbq
      clear hM4 hbq
      refine wpAnyT_go (Bx.grows _ _) (hB41.keep (List.Sublist.cons_cons _ (List.nil_sublist _))) [1, 2, 3, 4, 7, 8, 9, 10] 8 (by kernel_rfl) ?_
      apply Exists.intro
      refine ⟨fun G hG hN => ?_, ?_⟩
      · have c_G := fun (e : GE (Bx w [(w.heap.size, gB (some ad) c bs)]) G) j => cell_of_row e.w _ j _ _ _ ((GE.h e).get 0 rfl)
        have z_G := fun (e : GE (Bx w [(w.heap.size, gB (some ad) c bs)]) G) => (GE.h e).lt 0 rfl
        have t_r0 := fun (e : GE (Bx w [(w.heap.size, gB (some ad) c bs)]) G) => (HVL.out _ (GE.h e).below).two.r0
        have t_r1 := fun (e : GE (Bx w [(w.heap.size, gB (some ad) c bs)]) G) => (HVL.out _ (GE.h e).below).two.r1
        have t_b := fun (e : GE (Bx w [(w.heap.size, gB (some ad) c bs)]) G) => (HVL.out _ (GE.h e).below).two.bl
        simp only [pickOps, List.getElem?_toArray, List.getElem?_cons_zero, List.getElem?_cons_succ]
        repeat (first | go_big_quiet_step (fail) | quiet_step (fail))
        exact wpQuiet_nil rfl
      refine wpAnyT_all (rs := [0, 6, 14]) (by kernel_rfl) (by simp) (fun wa2 hwa2 hRwa2 i hi => ?_)
      have hB42 := hB41.next hwa2
      clear hB41 hwa2 hRwa2
      rcases List.mem_cons.1 hi with rfl | hi
      · refine wpOp_step rfl (fun Kc hKc => ?_)
        go_simp
        have hB43 := hB42.addR (one_alloc wa2 (.cells #[] 3)) ⟨.slice (some ⟨wa2.heap.size, 0, none⟩) 0 0, 3, 1, 0, []⟩ (World.ownsRow_lit wa2 #[] 0 (Nat.le_refl _) (by unfold maxLen; omega) rfl)
        refine hKc _ _ ⟨(hB43.keep (List.Sublist.cons_cons _ (List.nil_sublist _))), ?_⟩
        clear hKc Kc hB42
        generalize wa2.heap.size = g1 at *
        generalize wa2.alloc _ = wb3 at *
        refine wpAnyT_all (rs := [5, 6, 14]) (by kernel_rfl) (by simp) (fun wa4 hwa4 hRwa4 i hi => ?_)
        have hB44 := hB43.next hwa4
        clear hB43 hwa4 hRwa4
        rcases List.mem_cons.1 hi with rfl | hi
        · refine wpOp_step rfl (fun Kc hKc => ?_)
          refine step_append_any _ rfl (.tmp 51) (.tmp 55) 40 rfl w.heap.size 3 i0 (.int .i64 0) 1 8 Try.underlying40 hi0 hz0 hz1 hz2 rfl (by omega) (.slice (some ⟨g1, 0, none⟩) 0 0) 0 [] rfl (hB44.row 0 rfl) _ (some xa) (gr bs 0).length c0 (intsV (gr bs 0)) rfl (HVL.out _ hB44.below).two.i0.reads (one_cells _) (by have := HN.out; unfold maxLen; omega) (by have := HN.out; omega) hB44.below.size ?_
          intro v1 wb5 hown hgr hat
          have hB45 := hB44.grow 0 rfl hgr hown hat
          refine hKc _ _ ⟨(hB45.keep (List.Sublist.cons_cons _ (List.nil_sublist _))), ?_⟩
          clear hKc Kc hB44 hown hgr hat
          refine wpAnyT_all (rs := [6, 14]) (by kernel_rfl) (by simp) (fun wa6 hwa6 hRwa6 i hi => ?_)
          have hB46 := hB45.next hwa6
          clear hB45 hwa6 hRwa6
          rcases List.mem_cons.1 hi with rfl | hi
          · refine wpOp_step rfl (fun Kc hKc => ?_)
            go_simp
            have hB47 := hB46.addR (one_alloc wa6 (.cells #[] 3)) ⟨.slice (some ⟨wa6.heap.size, 0, none⟩) 0 0, 3, 1, 0, []⟩ (World.ownsRow_lit wa6 #[] 0 (Nat.le_refl _) (by unfold maxLen; omega) rfl)
            refine hKc _ _ ⟨(hB47.keep (List.Sublist.cons_cons _ (List.nil_sublist _))), ?_⟩
            clear hKc Kc hB46
            generalize wa6.heap.size = g2 at *
            generalize wa6.alloc _ = wb7 at *
            refine wpAnyT_all (rs := [11, 14]) (by kernel_rfl) (by simp) (fun wa8 hwa8 hRwa8 i hi => ?_)
            have hB48 := hB47.next hwa8
            clear hB47 hwa8 hRwa8
            rcases List.mem_cons.1 hi with rfl | hi
            · refine wpOp_step rfl (fun Kc hKc => ?_)
              refine step_append_any _ rfl (.tmp 57) (.tmp 61) 40 rfl w.heap.size 3 i0 (.int .i64 0) 1 8 Try.underlying40 hi0 hz0 hz1 hz2 rfl (by omega) (.slice (some ⟨g2, 0, none⟩) 0 0) 0 [] rfl (hB48.row 0 rfl) _ (some ya) (gr bs 1).length c1 (intsV (gr bs 1)) rfl (HVL.out _ hB48.below).two.i1.reads (one_cells _) (by have := HN.out; have := HLB.out; unfold maxLen; omega) (by have := HN.out; have := HLB.out; omega) hB48.below.size ?_
              intro v2 wb9 hown hgr hat
              have hB49 := hB48.grow 0 rfl hgr hown hat
              refine hKc _ _ ⟨(hB49.keep (List.Sublist.cons_cons _ (List.nil_sublist _))), ?_⟩
              clear hKc Kc hB48 hown hgr hat
              refine wpAnyT_all (rs := [12, 14]) (by kernel_rfl) (by simp) (fun wa10 hwa10 hRwa10 i hi => ?_)
              have hB50 := hB49.next hwa10
              clear hB49 hwa10 hRwa10
              rcases List.mem_cons.1 hi with rfl | hi
              · refine wpOp_step rfl (fun Kc hKc => ?_)
                obtain ⟨A1, c1, e1, a1, b1⟩ := own_nil_len (hB50.row 1 rfl)
                simp only [Nat.zero_add] at e1 a1
                subst e1
                have o1 := hB50.row 1 rfl
                simp only [Nat.zero_add] at o1
                obtain ⟨u1, rfl⟩ := own_some o1 (by first | exact HN.out.2 | (rw [HLB.out]; exact HN.out.2))
                clear o1
                obtain ⟨A2, c2, e2, a2, b2⟩ := own_nil_len (hB50.row 0 rfl)
                simp only [Nat.zero_add] at e2 a2
                subst e2
                have o2 := hB50.row 0 rfl
                simp only [Nat.zero_add] at o2
                obtain ⟨u2, rfl⟩ := own_some o2 (by first | exact HN.out.2 | (rw [HLB.out]; exact HN.out.2))
                clear o2
                go_simp
                have hB51 := hB50.new (g := wa10.heap.size) rfl (.cells #[.slice (some ⟨u1, 0, none⟩) (gr bs 0).length c1, .slice (some ⟨u2, 0, none⟩) (gr bs 1).length c2] 40)
                refine hKc _ _ ⟨(hB51.keep (List.Sublist.cons _ (List.Sublist.cons_cons _ (List.nil_sublist _)))), ?_⟩
                clear hKc Kc hB50
                generalize wa10.heap.size = gL at *
                generalize wa10.alloc _ = wb11 at *
                refine wpAnyT_go (Bx.grows _ _) (hB51.keep (List.Sublist.cons _ (List.Sublist.cons_cons _ (List.nil_sublist _)))) [13] 2 (by kernel_rfl) ?_
                apply Exists.intro
                refine ⟨fun G hG hN => ?_, ?_⟩
                · have c_G := fun (e : GE (Bx w [(w.heap.size, gB (some ad) c bs)]) G) j => cell_of_row e.w _ j _ _ _ ((GE.h e).get 0 rfl)
                  have z_G := fun (e : GE (Bx w [(w.heap.size, gB (some ad) c bs)]) G) => (GE.h e).lt 0 rfl
                  have t_r0 := fun (e : GE (Bx w [(w.heap.size, gB (some ad) c bs)]) G) => (HVL.out _ (GE.h e).below).two.r0
                  have t_r1 := fun (e : GE (Bx w [(w.heap.size, gB (some ad) c bs)]) G) => (HVL.out _ (GE.h e).below).two.r1
                  have t_b := fun (e : GE (Bx w [(w.heap.size, gB (some ad) c bs)]) G) => (HVL.out _ (GE.h e).below).two.bl
                  simp only [pickOps, List.getElem?_toArray, List.getElem?_cons_zero, List.getElem?_cons_succ]
                  repeat (first | go_big_quiet_step (fail) | quiet_step (fail))
                  exact wpQuiet_nil rfl
                refine wpAnyT_all (rs := [14]) (by kernel_rfl) (by simp) (fun wa12 hwa12 hRwa12 i hi => ?_)
                have hB52 := hB51.next hwa12
                clear hB51 hwa12 hRwa12
                obtain rfl := List.mem_singleton.1 hi
                refine wpOp_step rfl (fun Kc hKc => ?_)
                go_simp
                have hB53 := hB52.new (g := wa12.heap.size) rfl (.cells #[.slice none 0 0] 24)
                refine hKc _ _ ⟨(hB53.keep (List.Sublist.cons _ (List.Sublist.cons _ (List.Sublist.cons_cons _ (List.nil_sublist _))))), ?_⟩
                clear hKc Kc hB52
                generalize wa12.heap.size = gW at *
                generalize wa12.alloc _ = wb13 at *
                refine wpAnyT_all (rs := [15]) (by kernel_rfl) (by simp) (fun wa14 hwa14 hRwa14 i hi => ?_)
                have hB54 := hB53.next hwa14
                clear hB53 hwa14 hRwa14
                obtain rfl := List.mem_singleton.1 hi
                refine wpOp_step rfl (fun Kc hKc => ?_)
                have c_W := fun j => cell_of_row _ _ j _ _ _ (hB54.get 0 rfl)
                have z_W := hB54.lt 0 rfl
                have f_W := fun j => frozen_of_row _ _ j _ _ (hB54.get 0 rfl)
                go_simp
                have hB55 := hB54.set 0 rfl 0 (.slice (some ⟨gL, 0, none⟩) 2 2)
                refine hKc _ _ ⟨(hB55.keep (List.Sublist.cons _ (List.Sublist.cons _ (List.Sublist.cons_cons _ (List.nil_sublist _))))), ?_⟩
                clear c_W z_W f_W hKc Kc hB54
                generalize wa14.setCell _ _ = wb15 at *
                refine wpAnyT_done (by kernel_rfl) (fun wd16 hwd16 hRwd16 => ?_) _
                refine NoPanic.normal ?_
                have hB56 := hB55.next hwd16
                clear hB55 hwd16 hRwd16
                have HZ := hB56.perm (List.Perm.refl _) (List.Perm.swap _ _ _)
                simp only [Nat.zero_add, List.nil_append] at HZ
                rw [HLB.out] at HZ
                have HZ := Lib.hid HZ
                have HCC := Lib.hid (And.intro a1 (And.intro b1 (And.intro (show (gr bs 0).length ≤ c2 by have := HLB.out; omega) b2)))
                clear hB56 a1 b1 a2 b2
                go_wp2_with fail
                go_meet
                exact ⟨gW, gL, u1, u2, c1, c2, rfl, HCC.out.1, HCC.out.2.1, HCC.out.2.2.1, HCC.out.2.2.2, HZ.out⟩
              · obtain rfl := List.mem_singleton.1 hi
                refine wpOp_step rfl (fun Kc hKc => ?_)
                go_simp
                have hB51 := hB50.new (g := wa10.heap.size) rfl (.cells #[.slice none 0 0] 24)
                refine hKc _ _ ⟨(hB51.keep (List.Sublist.cons _ (List.Sublist.cons_cons _ (List.nil_sublist _)))), ?_⟩
                clear hKc Kc hB50
                generalize wa10.heap.size = gW at *
                generalize wa10.alloc _ = wb17 at *
                refine wpAnyT_all (rs := [12]) (by kernel_rfl) (by simp) (fun wa18 hwa18 hRwa18 i hi => ?_)
                have hB52 := hB51.next hwa18
                clear hB51 hwa18 hRwa18
                obtain rfl := List.mem_singleton.1 hi
                refine wpOp_step rfl (fun Kc hKc => ?_)
                obtain ⟨A1, c1, e1, a1, b1⟩ := own_nil_len (hB52.row 1 rfl)
                simp only [Nat.zero_add] at e1 a1
                subst e1
                have o1 := hB52.row 1 rfl
                simp only [Nat.zero_add] at o1
                obtain ⟨u1, rfl⟩ := own_some o1 (by first | exact HN.out.2 | (rw [HLB.out]; exact HN.out.2))
                clear o1
                obtain ⟨A2, c2, e2, a2, b2⟩ := own_nil_len (hB52.row 0 rfl)
                simp only [Nat.zero_add] at e2 a2
                subst e2
                have o2 := hB52.row 0 rfl
                simp only [Nat.zero_add] at o2
                obtain ⟨u2, rfl⟩ := own_some o2 (by first | exact HN.out.2 | (rw [HLB.out]; exact HN.out.2))
                clear o2
                go_simp
                have hB53 := hB52.new (g := wa18.heap.size) rfl (.cells #[.slice (some ⟨u1, 0, none⟩) (gr bs 0).length c1, .slice (some ⟨u2, 0, none⟩) (gr bs 1).length c2] 40)
                refine hKc _ _ ⟨(hB53.keep (List.Sublist.cons _ (List.Sublist.cons _ (List.Sublist.cons_cons _ (List.nil_sublist _))))), ?_⟩
                clear hKc Kc hB52
                generalize wa18.heap.size = gL at *
                generalize wa18.alloc _ = wb19 at *
                refine wpAnyT_go (Bx.grows _ _) (hB53.keep (List.Sublist.cons _ (List.Sublist.cons _ (List.Sublist.cons_cons _ (List.nil_sublist _))))) [13] 1 (by kernel_rfl) ?_
                apply Exists.intro
                refine ⟨fun G hG hN => ?_, ?_⟩
                · have c_G := fun (e : GE (Bx w [(w.heap.size, gB (some ad) c bs)]) G) j => cell_of_row e.w _ j _ _ _ ((GE.h e).get 0 rfl)
                  have z_G := fun (e : GE (Bx w [(w.heap.size, gB (some ad) c bs)]) G) => (GE.h e).lt 0 rfl
                  have t_r0 := fun (e : GE (Bx w [(w.heap.size, gB (some ad) c bs)]) G) => (HVL.out _ (GE.h e).below).two.r0
                  have t_r1 := fun (e : GE (Bx w [(w.heap.size, gB (some ad) c bs)]) G) => (HVL.out _ (GE.h e).below).two.r1
                  have t_b := fun (e : GE (Bx w [(w.heap.size, gB (some ad) c bs)]) G) => (HVL.out _ (GE.h e).below).two.bl
                  simp only [pickOps, List.getElem?_toArray, List.getElem?_cons_zero, List.getElem?_cons_succ]
                  repeat (first | go_big_quiet_step (fail) | quiet_step (fail))
                  exact wpQuiet_nil rfl
                refine wpAnyT_all (rs := [15]) (by kernel_rfl) (by simp) (fun wa20 hwa20 hRwa20 i hi => ?_)
                have hB54 := hB53.next hwa20
                clear hB53 hwa20 hRwa20
                obtain rfl := List.mem_singleton.1 hi
                refine wpOp_step rfl (fun Kc hKc => ?_)
                have c_W := fun j => cell_of_row _ _ j _ _ _ (hB54.get 1 rfl)
                have z_W := hB54.lt 1 rfl
                have f_W := fun j => frozen_of_row _ _ j _ _ (hB54.get 1 rfl)
                go_simp
                have hB55 := hB54.set 1 rfl 0 (.slice (some ⟨gL, 0, none⟩) 2 2)
                refine hKc _ _ ⟨(hB55.keep (List.Sublist.cons _ (List.Sublist.cons _ (List.Sublist.cons_cons _ (List.nil_sublist _))))), ?_⟩
                clear c_W z_W f_W hKc Kc hB54
                generalize wa20.setCell _ _ = wb21 at *
                refine wpAnyT_done (by kernel_rfl) (fun wd22 hwd22 hRwd22 => ?_) _
                refine NoPanic.normal ?_
                have hB56 := hB55.next hwd22
                clear hB55 hwd22 hRwd22
                have HZ := hB56.perm (List.Perm.swap _ _ _) (List.Perm.swap _ _ _)
                simp only [Nat.zero_add, List.nil_append] at HZ
                rw [HLB.out] at HZ
                have HZ := Lib.hid HZ
                have HCC := Lib.hid (And.intro a1 (And.intro b1 (And.intro (show (gr bs 0).length ≤ c2 by have := HLB.out; omega) b2)))
                clear hB56 a1 b1 a2 b2
                go_wp2_with fail
                go_meet
                exact ⟨gW, gL, u1, u2, c1, c2, rfl, HCC.out.1, HCC.out.2.1, HCC.out.2.2.1, HCC.out.2.2.2, HZ.out⟩
            · obtain rfl := List.mem_singleton.1 hi
              refine wpOp_step rfl (fun Kc hKc => ?_)
              go_simp
              have hB49 := hB48.new (g := wa8.heap.size) rfl (.cells #[.slice none 0 0] 24)
              refine hKc _ _ ⟨(hB49.keep (List.Sublist.cons _ (List.Sublist.cons_cons _ (List.nil_sublist _)))), ?_⟩
              clear hKc Kc hB48
              generalize wa8.heap.size = gW at *
              generalize wa8.alloc _ = wb23 at *
              refine wpAnyT_all (rs := [11]) (by kernel_rfl) (by simp) (fun wa24 hwa24 hRwa24 i hi => ?_)
              have hB50 := hB49.next hwa24
              clear hB49 hwa24 hRwa24
              obtain rfl := List.mem_singleton.1 hi
              refine wpOp_step rfl (fun Kc hKc => ?_)
              refine step_append_any _ rfl (.tmp 57) (.tmp 61) 40 rfl w.heap.size 3 i0 (.int .i64 0) 1 8 Try.underlying40 hi0 hz0 hz1 hz2 rfl (by omega) (.slice (some ⟨g2, 0, none⟩) 0 0) 0 [] rfl (hB50.row 0 rfl) _ (some ya) (gr bs 1).length c1 (intsV (gr bs 1)) rfl (HVL.out _ hB50.below).two.i1.reads (one_cells _) (by have := HN.out; have := HLB.out; unfold maxLen; omega) (by have := HN.out; have := HLB.out; omega) hB50.below.size ?_
              intro v2 wb25 hown hgr hat
              have hB51 := hB50.grow 0 rfl hgr hown hat
              refine hKc _ _ ⟨(hB51.keep (List.Sublist.cons _ (List.Sublist.cons_cons _ (List.nil_sublist _)))), ?_⟩
              clear hKc Kc hB50 hown hgr hat
              refine wpAnyT_all (rs := [12]) (by kernel_rfl) (by simp) (fun wa26 hwa26 hRwa26 i hi => ?_)
              have hB52 := hB51.next hwa26
              clear hB51 hwa26 hRwa26
              obtain rfl := List.mem_singleton.1 hi
              refine wpOp_step rfl (fun Kc hKc => ?_)
              obtain ⟨A1, c1, e1, a1, b1⟩ := own_nil_len (hB52.row 1 rfl)
              simp only [Nat.zero_add] at e1 a1
              subst e1
              have o1 := hB52.row 1 rfl
              simp only [Nat.zero_add] at o1
              obtain ⟨u1, rfl⟩ := own_some o1 (by first | exact HN.out.2 | (rw [HLB.out]; exact HN.out.2))
              clear o1
              obtain ⟨A2, c2, e2, a2, b2⟩ := own_nil_len (hB52.row 0 rfl)
              simp only [Nat.zero_add] at e2 a2
              subst e2
              have o2 := hB52.row 0 rfl
              simp only [Nat.zero_add] at o2
              obtain ⟨u2, rfl⟩ := own_some o2 (by first | exact HN.out.2 | (rw [HLB.out]; exact HN.out.2))
              clear o2
              go_simp
              have hB53 := hB52.new (g := wa26.heap.size) rfl (.cells #[.slice (some ⟨u1, 0, none⟩) (gr bs 0).length c1, .slice (some ⟨u2, 0, none⟩) (gr bs 1).length c2] 40)
              refine hKc _ _ ⟨(hB53.keep (List.Sublist.cons _ (List.Sublist.cons _ (List.Sublist.cons_cons _ (List.nil_sublist _))))), ?_⟩
              clear hKc Kc hB52
              generalize wa26.heap.size = gL at *
              generalize wa26.alloc _ = wb27 at *
              refine wpAnyT_go (Bx.grows _ _) (hB53.keep (List.Sublist.cons _ (List.Sublist.cons _ (List.Sublist.cons_cons _ (List.nil_sublist _))))) [13] 1 (by kernel_rfl) ?_
              apply Exists.intro
              refine ⟨fun G hG hN => ?_, ?_⟩
              · have c_G := fun (e : GE (Bx w [(w.heap.size, gB (some ad) c bs)]) G) j => cell_of_row e.w _ j _ _ _ ((GE.h e).get 0 rfl)
                have z_G := fun (e : GE (Bx w [(w.heap.size, gB (some ad) c bs)]) G) => (GE.h e).lt 0 rfl
                have t_r0 := fun (e : GE (Bx w [(w.heap.size, gB (some ad) c bs)]) G) => (HVL.out _ (GE.h e).below).two.r0
                have t_r1 := fun (e : GE (Bx w [(w.heap.size, gB (some ad) c bs)]) G) => (HVL.out _ (GE.h e).below).two.r1
                have t_b := fun (e : GE (Bx w [(w.heap.size, gB (some ad) c bs)]) G) => (HVL.out _ (GE.h e).below).two.bl
                simp only [pickOps, List.getElem?_toArray, List.getElem?_cons_zero, List.getElem?_cons_succ]
                repeat (first | go_big_quiet_step (fail) | quiet_step (fail))
                exact wpQuiet_nil rfl
              refine wpAnyT_all (rs := [15]) (by kernel_rfl) (by simp) (fun wa28 hwa28 hRwa28 i hi => ?_)
              have hB54 := hB53.next hwa28
              clear hB53 hwa28 hRwa28
              obtain rfl := List.mem_singleton.1 hi
              refine wpOp_step rfl (fun Kc hKc => ?_)
              have c_W := fun j => cell_of_row _ _ j _ _ _ (hB54.get 1 rfl)
              have z_W := hB54.lt 1 rfl
              have f_W := fun j => frozen_of_row _ _ j _ _ (hB54.get 1 rfl)
              go_simp
              have hB55 := hB54.set 1 rfl 0 (.slice (some ⟨gL, 0, none⟩) 2 2)
              refine hKc _ _ ⟨(hB55.keep (List.Sublist.cons _ (List.Sublist.cons _ (List.Sublist.cons_cons _ (List.nil_sublist _))))), ?_⟩
              clear c_W z_W f_W hKc Kc hB54
              generalize wa28.setCell _ _ = wb29 at *
              refine wpAnyT_done (by kernel_rfl) (fun wd30 hwd30 hRwd30 => ?_) _
              refine NoPanic.normal ?_
              have hB56 := hB55.next hwd30
              clear hB55 hwd30 hRwd30
              have HZ := hB56.perm (List.Perm.swap _ _ _) (List.Perm.swap _ _ _)
              simp only [Nat.zero_add, List.nil_append] at HZ
              rw [HLB.out] at HZ
              have HZ := Lib.hid HZ
              have HCC := Lib.hid (And.intro a1 (And.intro b1 (And.intro (show (gr bs 0).length ≤ c2 by have := HLB.out; omega) b2)))
              clear hB56 a1 b1 a2 b2
              go_wp2_with fail
              go_meet
              exact ⟨gW, gL, u1, u2, c1, c2, rfl, HCC.out.1, HCC.out.2.1, HCC.out.2.2.1, HCC.out.2.2.2, HZ.out⟩
          · obtain rfl := List.mem_singleton.1 hi
            refine wpOp_step rfl (fun Kc hKc => ?_)
            go_simp
            have hB47 := hB46.new (g := wa6.heap.size) rfl (.cells #[.slice none 0 0] 24)
            refine hKc _ _ ⟨(hB47.keep (List.Sublist.cons _ (List.Sublist.cons_cons _ (List.nil_sublist _)))), ?_⟩
            clear hKc Kc hB46
            generalize wa6.heap.size = gW at *
            generalize wa6.alloc _ = wb31 at *
            refine wpAnyT_all (rs := [6]) (by kernel_rfl) (by simp) (fun wa32 hwa32 hRwa32 i hi => ?_)
            have hB48 := hB47.next hwa32
            clear hB47 hwa32 hRwa32
            obtain rfl := List.mem_singleton.1 hi
            refine wpOp_step rfl (fun Kc hKc => ?_)
            go_simp
            have hB49 := hB48.addR (one_alloc wa32 (.cells #[] 3)) ⟨.slice (some ⟨wa32.heap.size, 0, none⟩) 0 0, 3, 1, 0, []⟩ (World.ownsRow_lit wa32 #[] 0 (Nat.le_refl _) (by unfold maxLen; omega) rfl)
            refine hKc _ _ ⟨(hB49.keep (List.Sublist.cons _ (List.Sublist.cons_cons _ (List.nil_sublist _)))), ?_⟩
            clear hKc Kc hB48
            generalize wa32.heap.size = g2 at *
            generalize wa32.alloc _ = wb33 at *
            refine wpAnyT_all (rs := [11]) (by kernel_rfl) (by simp) (fun wa34 hwa34 hRwa34 i hi => ?_)
            have hB50 := hB49.next hwa34
            clear hB49 hwa34 hRwa34
            obtain rfl := List.mem_singleton.1 hi
            refine wpOp_step rfl (fun Kc hKc => ?_)
            refine step_append_any _ rfl (.tmp 57) (.tmp 61) 40 rfl w.heap.size 3 i0 (.int .i64 0) 1 8 Try.underlying40 hi0 hz0 hz1 hz2 rfl (by omega) (.slice (some ⟨g2, 0, none⟩) 0 0) 0 [] rfl (hB50.row 0 rfl) _ (some ya) (gr bs 1).length c1 (intsV (gr bs 1)) rfl (HVL.out _ hB50.below).two.i1.reads (one_cells _) (by have := HN.out; have := HLB.out; unfold maxLen; omega) (by have := HN.out; have := HLB.out; omega) hB50.below.size ?_
            intro v2 wb35 hown hgr hat
            have hB51 := hB50.grow 0 rfl hgr hown hat
            refine hKc _ _ ⟨(hB51.keep (List.Sublist.cons _ (List.Sublist.cons_cons _ (List.nil_sublist _)))), ?_⟩
            clear hKc Kc hB50 hown hgr hat
            refine wpAnyT_all (rs := [12]) (by kernel_rfl) (by simp) (fun wa36 hwa36 hRwa36 i hi => ?_)
            have hB52 := hB51.next hwa36
            clear hB51 hwa36 hRwa36
            obtain rfl := List.mem_singleton.1 hi
            refine wpOp_step rfl (fun Kc hKc => ?_)
            obtain ⟨A1, c1, e1, a1, b1⟩ := own_nil_len (hB52.row 1 rfl)
            simp only [Nat.zero_add] at e1 a1
            subst e1
            have o1 := hB52.row 1 rfl
            simp only [Nat.zero_add] at o1
            obtain ⟨u1, rfl⟩ := own_some o1 (by first | exact HN.out.2 | (rw [HLB.out]; exact HN.out.2))
            clear o1
            obtain ⟨A2, c2, e2, a2, b2⟩ := own_nil_len (hB52.row 0 rfl)
            simp only [Nat.zero_add] at e2 a2
            subst e2
            have o2 := hB52.row 0 rfl
            simp only [Nat.zero_add] at o2
            obtain ⟨u2, rfl⟩ := own_some o2 (by first | exact HN.out.2 | (rw [HLB.out]; exact HN.out.2))
            clear o2
            go_simp
            have hB53 := hB52.new (g := wa36.heap.size) rfl (.cells #[.slice (some ⟨u1, 0, none⟩) (gr bs 0).length c1, .slice (some ⟨u2, 0, none⟩) (gr bs 1).length c2] 40)
            refine hKc _ _ ⟨(hB53.keep (List.Sublist.cons _ (List.Sublist.cons _ (List.Sublist.cons_cons _ (List.nil_sublist _))))), ?_⟩
            clear hKc Kc hB52
            generalize wa36.heap.size = gL at *
            generalize wa36.alloc _ = wb37 at *
            refine wpAnyT_go (Bx.grows _ _) (hB53.keep (List.Sublist.cons _ (List.Sublist.cons _ (List.Sublist.cons_cons _ (List.nil_sublist _))))) [13] 1 (by kernel_rfl) ?_
            apply Exists.intro
            refine ⟨fun G hG hN => ?_, ?_⟩
            · have c_G := fun (e : GE (Bx w [(w.heap.size, gB (some ad) c bs)]) G) j => cell_of_row e.w _ j _ _ _ ((GE.h e).get 0 rfl)
              have z_G := fun (e : GE (Bx w [(w.heap.size, gB (some ad) c bs)]) G) => (GE.h e).lt 0 rfl
              have t_r0 := fun (e : GE (Bx w [(w.heap.size, gB (some ad) c bs)]) G) => (HVL.out _ (GE.h e).below).two.r0
              have t_r1 := fun (e : GE (Bx w [(w.heap.size, gB (some ad) c bs)]) G) => (HVL.out _ (GE.h e).below).two.r1
              have t_b := fun (e : GE (Bx w [(w.heap.size, gB (some ad) c bs)]) G) => (HVL.out _ (GE.h e).below).two.bl
              simp only [pickOps, List.getElem?_toArray, List.getElem?_cons_zero, List.getElem?_cons_succ]
              repeat (first | go_big_quiet_step (fail) | quiet_step (fail))
              exact wpQuiet_nil rfl
            refine wpAnyT_all (rs := [15]) (by kernel_rfl) (by simp) (fun wa38 hwa38 hRwa38 i hi => ?_)
            have hB54 := hB53.next hwa38
            clear hB53 hwa38 hRwa38
            obtain rfl := List.mem_singleton.1 hi
            refine wpOp_step rfl (fun Kc hKc => ?_)
            have c_W := fun j => cell_of_row _ _ j _ _ _ (hB54.get 1 rfl)
            have z_W := hB54.lt 1 rfl
            have f_W := fun j => frozen_of_row _ _ j _ _ (hB54.get 1 rfl)
            go_simp
            have hB55 := hB54.set 1 rfl 0 (.slice (some ⟨gL, 0, none⟩) 2 2)
            refine hKc _ _ ⟨(hB55.keep (List.Sublist.cons _ (List.Sublist.cons _ (List.Sublist.cons_cons _ (List.nil_sublist _))))), ?_⟩
            clear c_W z_W f_W hKc Kc hB54
            generalize wa38.setCell _ _ = wb39 at *
            refine wpAnyT_done (by kernel_rfl) (fun wd40 hwd40 hRwd40 => ?_) _
            refine NoPanic.normal ?_
            have hB56 := hB55.next hwd40
            clear hB55 hwd40 hRwd40
            have HZ := hB56.perm (List.Perm.swap _ _ _) (List.Perm.swap _ _ _)
            simp only [Nat.zero_add, List.nil_append] at HZ
            rw [HLB.out] at HZ
            have HZ := Lib.hid HZ
            have HCC := Lib.hid (And.intro a1 (And.intro b1 (And.intro (show (gr bs 0).length ≤ c2 by have := HLB.out; omega) b2)))
            clear hB56 a1 b1 a2 b2
            go_wp2_with fail
            go_meet
            exact ⟨gW, gL, u1, u2, c1, c2, rfl, HCC.out.1, HCC.out.2.1, HCC.out.2.2.1, HCC.out.2.2.2, HZ.out⟩
        · rcases List.mem_cons.1 hi with rfl | hi
          · refine wpOp_step rfl (fun Kc hKc => ?_)
            go_simp
            have hB45 := hB44.addR (one_alloc wa4 (.cells #[] 3)) ⟨.slice (some ⟨wa4.heap.size, 0, none⟩) 0 0, 3, 1, 0, []⟩ (World.ownsRow_lit wa4 #[] 0 (Nat.le_refl _) (by unfold maxLen; omega) rfl)
            refine hKc _ _ ⟨(hB45.keep (List.Sublist.cons_cons _ (List.nil_sublist _))), ?_⟩
            clear hKc Kc hB44
            generalize wa4.heap.size = g2 at *
            generalize wa4.alloc _ = wb41 at *
            refine wpAnyT_all (rs := [5, 14]) (by kernel_rfl) (by simp) (fun wa42 hwa42 hRwa42 i hi => ?_)
            have hB46 := hB45.next hwa42
            clear hB45 hwa42 hRwa42
            rcases List.mem_cons.1 hi with rfl | hi
            · refine wpOp_step rfl (fun Kc hKc => ?_)
              refine step_append_any _ rfl (.tmp 51) (.tmp 55) 40 rfl w.heap.size 3 i0 (.int .i64 0) 1 8 Try.underlying40 hi0 hz0 hz1 hz2 rfl (by omega) (.slice (some ⟨g1, 0, none⟩) 0 0) 0 [] rfl (hB46.row 1 rfl) _ (some xa) (gr bs 0).length c0 (intsV (gr bs 0)) rfl (HVL.out _ hB46.below).two.i0.reads (one_cells _) (by have := HN.out; unfold maxLen; omega) (by have := HN.out; omega) hB46.below.size ?_
              intro v1 wb43 hown hgr hat
              have hB47 := hB46.grow 1 rfl hgr hown hat
              refine hKc _ _ ⟨(hB47.keep (List.Sublist.cons_cons _ (List.nil_sublist _))), ?_⟩
              clear hKc Kc hB46 hown hgr hat
              refine wpAnyT_all (rs := [11, 14]) (by kernel_rfl) (by simp) (fun wa44 hwa44 hRwa44 i hi => ?_)
              have hB48 := hB47.next hwa44
              clear hB47 hwa44 hRwa44
              rcases List.mem_cons.1 hi with rfl | hi
              · refine wpOp_step rfl (fun Kc hKc => ?_)
                refine step_append_any _ rfl (.tmp 57) (.tmp 61) 40 rfl w.heap.size 3 i0 (.int .i64 0) 1 8 Try.underlying40 hi0 hz0 hz1 hz2 rfl (by omega) (.slice (some ⟨g2, 0, none⟩) 0 0) 0 [] rfl (hB48.row 0 rfl) _ (some ya) (gr bs 1).length c1 (intsV (gr bs 1)) rfl (HVL.out _ hB48.below).two.i1.reads (one_cells _) (by have := HN.out; have := HLB.out; unfold maxLen; omega) (by have := HN.out; have := HLB.out; omega) hB48.below.size ?_
                intro v2 wb45 hown hgr hat
                have hB49 := hB48.grow 0 rfl hgr hown hat
                refine hKc _ _ ⟨(hB49.keep (List.Sublist.cons_cons _ (List.nil_sublist _))), ?_⟩
                clear hKc Kc hB48 hown hgr hat
                refine wpAnyT_all (rs := [12, 14]) (by kernel_rfl) (by simp) (fun wa46 hwa46 hRwa46 i hi => ?_)
                have hB50 := hB49.next hwa46
                clear hB49 hwa46 hRwa46
                rcases List.mem_cons.1 hi with rfl | hi
                · refine wpOp_step rfl (fun Kc hKc => ?_)
                  obtain ⟨A1, c1, e1, a1, b1⟩ := own_nil_len (hB50.row 1 rfl)
                  simp only [Nat.zero_add] at e1 a1
                  subst e1
                  have o1 := hB50.row 1 rfl
                  simp only [Nat.zero_add] at o1
                  obtain ⟨u1, rfl⟩ := own_some o1 (by first | exact HN.out.2 | (rw [HLB.out]; exact HN.out.2))
                  clear o1
                  obtain ⟨A2, c2, e2, a2, b2⟩ := own_nil_len (hB50.row 0 rfl)
                  simp only [Nat.zero_add] at e2 a2
                  subst e2
                  have o2 := hB50.row 0 rfl
                  simp only [Nat.zero_add] at o2
                  obtain ⟨u2, rfl⟩ := own_some o2 (by first | exact HN.out.2 | (rw [HLB.out]; exact HN.out.2))
                  clear o2
                  go_simp
                  have hB51 := hB50.new (g := wa46.heap.size) rfl (.cells #[.slice (some ⟨u1, 0, none⟩) (gr bs 0).length c1, .slice (some ⟨u2, 0, none⟩) (gr bs 1).length c2] 40)
                  refine hKc _ _ ⟨(hB51.keep (List.Sublist.cons _ (List.Sublist.cons_cons _ (List.nil_sublist _)))), ?_⟩
                  clear hKc Kc hB50
                  generalize wa46.heap.size = gL at *
                  generalize wa46.alloc _ = wb47 at *
                  refine wpAnyT_go (Bx.grows _ _) (hB51.keep (List.Sublist.cons _ (List.Sublist.cons_cons _ (List.nil_sublist _)))) [13] 2 (by kernel_rfl) ?_
                  apply Exists.intro
                  refine ⟨fun G hG hN => ?_, ?_⟩
                  · have c_G := fun (e : GE (Bx w [(w.heap.size, gB (some ad) c bs)]) G) j => cell_of_row e.w _ j _ _ _ ((GE.h e).get 0 rfl)
                    have z_G := fun (e : GE (Bx w [(w.heap.size, gB (some ad) c bs)]) G) => (GE.h e).lt 0 rfl
                    have t_r0 := fun (e : GE (Bx w [(w.heap.size, gB (some ad) c bs)]) G) => (HVL.out _ (GE.h e).below).two.r0
                    have t_r1 := fun (e : GE (Bx w [(w.heap.size, gB (some ad) c bs)]) G) => (HVL.out _ (GE.h e).below).two.r1
                    have t_b := fun (e : GE (Bx w [(w.heap.size, gB (some ad) c bs)]) G) => (HVL.out _ (GE.h e).below).two.bl
                    simp only [pickOps, List.getElem?_toArray, List.getElem?_cons_zero, List.getElem?_cons_succ]
                    repeat (first | go_big_quiet_step (fail) | quiet_step (fail))
                    exact wpQuiet_nil rfl
                  refine wpAnyT_all (rs := [14]) (by kernel_rfl) (by simp) (fun wa48 hwa48 hRwa48 i hi => ?_)
                  have hB52 := hB51.next hwa48
                  clear hB51 hwa48 hRwa48
                  obtain rfl := List.mem_singleton.1 hi
                  refine wpOp_step rfl (fun Kc hKc => ?_)
                  go_simp
                  have hB53 := hB52.new (g := wa48.heap.size) rfl (.cells #[.slice none 0 0] 24)
                  refine hKc _ _ ⟨(hB53.keep (List.Sublist.cons _ (List.Sublist.cons _ (List.Sublist.cons_cons _ (List.nil_sublist _))))), ?_⟩
                  clear hKc Kc hB52
                  generalize wa48.heap.size = gW at *
                  generalize wa48.alloc _ = wb49 at *
                  refine wpAnyT_all (rs := [15]) (by kernel_rfl) (by simp) (fun wa50 hwa50 hRwa50 i hi => ?_)
                  have hB54 := hB53.next hwa50
                  clear hB53 hwa50 hRwa50
                  obtain rfl := List.mem_singleton.1 hi
                  refine wpOp_step rfl (fun Kc hKc => ?_)
                  have c_W := fun j => cell_of_row _ _ j _ _ _ (hB54.get 0 rfl)
                  have z_W := hB54.lt 0 rfl
                  have f_W := fun j => frozen_of_row _ _ j _ _ (hB54.get 0 rfl)
                  go_simp
                  have hB55 := hB54.set 0 rfl 0 (.slice (some ⟨gL, 0, none⟩) 2 2)
                  refine hKc _ _ ⟨(hB55.keep (List.Sublist.cons _ (List.Sublist.cons _ (List.Sublist.cons_cons _ (List.nil_sublist _))))), ?_⟩
                  clear c_W z_W f_W hKc Kc hB54
                  generalize wa50.setCell _ _ = wb51 at *
                  refine wpAnyT_done (by kernel_rfl) (fun wd52 hwd52 hRwd52 => ?_) _
                  refine NoPanic.normal ?_
                  have hB56 := hB55.next hwd52
                  clear hB55 hwd52 hRwd52
                  have HZ := hB56.perm (List.Perm.refl _) (List.Perm.swap _ _ _)
                  simp only [Nat.zero_add, List.nil_append] at HZ
                  rw [HLB.out] at HZ
                  have HZ := Lib.hid HZ
                  have HCC := Lib.hid (And.intro a1 (And.intro b1 (And.intro (show (gr bs 0).length ≤ c2 by have := HLB.out; omega) b2)))
                  clear hB56 a1 b1 a2 b2
                  go_wp2_with fail
                  go_meet
                  exact ⟨gW, gL, u1, u2, c1, c2, rfl, HCC.out.1, HCC.out.2.1, HCC.out.2.2.1, HCC.out.2.2.2, HZ.out⟩
                · obtain rfl := List.mem_singleton.1 hi
                  refine wpOp_step rfl (fun Kc hKc => ?_)
                  go_simp
                  have hB51 := hB50.new (g := wa46.heap.size) rfl (.cells #[.slice none 0 0] 24)
                  refine hKc _ _ ⟨(hB51.keep (List.Sublist.cons _ (List.Sublist.cons_cons _ (List.nil_sublist _)))), ?_⟩
                  clear hKc Kc hB50
                  generalize wa46.heap.size = gW at *
                  generalize wa46.alloc _ = wb53 at *
                  refine wpAnyT_all (rs := [12]) (by kernel_rfl) (by simp) (fun wa54 hwa54 hRwa54 i hi => ?_)
                  have hB52 := hB51.next hwa54
                  clear hB51 hwa54 hRwa54
                  obtain rfl := List.mem_singleton.1 hi
                  refine wpOp_step rfl (fun Kc hKc => ?_)
                  obtain ⟨A1, c1, e1, a1, b1⟩ := own_nil_len (hB52.row 1 rfl)
                  simp only [Nat.zero_add] at e1 a1
                  subst e1
                  have o1 := hB52.row 1 rfl
                  simp only [Nat.zero_add] at o1
                  obtain ⟨u1, rfl⟩ := own_some o1 (by first | exact HN.out.2 | (rw [HLB.out]; exact HN.out.2))
                  clear o1
                  obtain ⟨A2, c2, e2, a2, b2⟩ := own_nil_len (hB52.row 0 rfl)
                  simp only [Nat.zero_add] at e2 a2
                  subst e2
                  have o2 := hB52.row 0 rfl
                  simp only [Nat.zero_add] at o2
                  obtain ⟨u2, rfl⟩ := own_some o2 (by first | exact HN.out.2 | (rw [HLB.out]; exact HN.out.2))
                  clear o2
                  go_simp
                  have hB53 := hB52.new (g := wa54.heap.size) rfl (.cells #[.slice (some ⟨u1, 0, none⟩) (gr bs 0).length c1, .slice (some ⟨u2, 0, none⟩) (gr bs 1).length c2] 40)
                  refine hKc _ _ ⟨(hB53.keep (List.Sublist.cons _ (List.Sublist.cons _ (List.Sublist.cons_cons _ (List.nil_sublist _))))), ?_⟩
                  clear hKc Kc hB52
                  generalize wa54.heap.size = gL at *
                  generalize wa54.alloc _ = wb55 at *
                  refine wpAnyT_go (Bx.grows _ _) (hB53.keep (List.Sublist.cons _ (List.Sublist.cons _ (List.Sublist.cons_cons _ (List.nil_sublist _))))) [13] 1 (by kernel_rfl) ?_
                  apply Exists.intro
                  refine ⟨fun G hG hN => ?_, ?_⟩
                  · have c_G := fun (e : GE (Bx w [(w.heap.size, gB (some ad) c bs)]) G) j => cell_of_row e.w _ j _ _ _ ((GE.h e).get 0 rfl)
                    have z_G := fun (e : GE (Bx w [(w.heap.size, gB (some ad) c bs)]) G) => (GE.h e).lt 0 rfl
                    have t_r0 := fun (e : GE (Bx w [(w.heap.size, gB (some ad) c bs)]) G) => (HVL.out _ (GE.h e).below).two.r0
                    have t_r1 := fun (e : GE (Bx w [(w.heap.size, gB (some ad) c bs)]) G) => (HVL.out _ (GE.h e).below).two.r1
                    have t_b := fun (e : GE (Bx w [(w.heap.size, gB (some ad) c bs)]) G) => (HVL.out _ (GE.h e).below).two.bl
                    simp only [pickOps, List.getElem?_toArray, List.getElem?_cons_zero, List.getElem?_cons_succ]
                    repeat (first | go_big_quiet_step (fail) | quiet_step (fail))
                    exact wpQuiet_nil rfl
                  refine wpAnyT_all (rs := [15]) (by kernel_rfl) (by simp) (fun wa56 hwa56 hRwa56 i hi => ?_)
                  have hB54 := hB53.next hwa56
                  clear hB53 hwa56 hRwa56
                  obtain rfl := List.mem_singleton.1 hi
                  refine wpOp_step rfl (fun Kc hKc => ?_)
                  have c_W := fun j => cell_of_row _ _ j _ _ _ (hB54.get 1 rfl)
                  have z_W := hB54.lt 1 rfl
                  have f_W := fun j => frozen_of_row _ _ j _ _ (hB54.get 1 rfl)
                  go_simp
                  have hB55 := hB54.set 1 rfl 0 (.slice (some ⟨gL, 0, none⟩) 2 2)
                  refine hKc _ _ ⟨(hB55.keep (List.Sublist.cons _ (List.Sublist.cons _ (List.Sublist.cons_cons _ (List.nil_sublist _))))), ?_⟩
                  clear c_W z_W f_W hKc Kc hB54
                  generalize wa56.setCell _ _ = wb57 at *
                  refine wpAnyT_done (by kernel_rfl) (fun wd58 hwd58 hRwd58 => ?_) _
                  refine NoPanic.normal ?_
                  have hB56 := hB55.next hwd58
                  clear hB55 hwd58 hRwd58
                  have HZ := hB56.perm (List.Perm.swap _ _ _) (List.Perm.swap _ _ _)
                  simp only [Nat.zero_add, List.nil_append] at HZ
                  rw [HLB.out] at HZ
                  have HZ := Lib.hid HZ
                  have HCC := Lib.hid (And.intro a1 (And.intro b1 (And.intro (show (gr bs 0).length ≤ c2 by have := HLB.out; omega) b2)))
                  clear hB56 a1 b1 a2 b2
                  go_wp2_with fail
                  go_meet
                  exact ⟨gW, gL, u1, u2, c1, c2, rfl, HCC.out.1, HCC.out.2.1, HCC.out.2.2.1, HCC.out.2.2.2, HZ.out⟩
              · obtain rfl := List.mem_singleton.1 hi
                refine wpOp_step rfl (fun Kc hKc => ?_)
                go_simp
                have hB49 := hB48.new (g := wa44.heap.size) rfl (.cells #[.slice none 0 0] 24)
                refine hKc _ _ ⟨(hB49.keep (List.Sublist.cons _ (List.Sublist.cons_cons _ (List.nil_sublist _)))), ?_⟩
                clear hKc Kc hB48
                generalize wa44.heap.size = gW at *
                generalize wa44.alloc _ = wb59 at *
                refine wpAnyT_all (rs := [11]) (by kernel_rfl) (by simp) (fun wa60 hwa60 hRwa60 i hi => ?_)
                have hB50 := hB49.next hwa60
                clear hB49 hwa60 hRwa60
                obtain rfl := List.mem_singleton.1 hi
                refine wpOp_step rfl (fun Kc hKc => ?_)
                refine step_append_any _ rfl (.tmp 57) (.tmp 61) 40 rfl w.heap.size 3 i0 (.int .i64 0) 1 8 Try.underlying40 hi0 hz0 hz1 hz2 rfl (by omega) (.slice (some ⟨g2, 0, none⟩) 0 0) 0 [] rfl (hB50.row 0 rfl) _ (some ya) (gr bs 1).length c1 (intsV (gr bs 1)) rfl (HVL.out _ hB50.below).two.i1.reads (one_cells _) (by have := HN.out; have := HLB.out; unfold maxLen; omega) (by have := HN.out; have := HLB.out; omega) hB50.below.size ?_
                intro v2 wb61 hown hgr hat
                have hB51 := hB50.grow 0 rfl hgr hown hat
                refine hKc _ _ ⟨(hB51.keep (List.Sublist.cons _ (List.Sublist.cons_cons _ (List.nil_sublist _)))), ?_⟩
                clear hKc Kc hB50 hown hgr hat
                refine wpAnyT_all (rs := [12]) (by kernel_rfl) (by simp) (fun wa62 hwa62 hRwa62 i hi => ?_)
                have hB52 := hB51.next hwa62
                clear hB51 hwa62 hRwa62
                obtain rfl := List.mem_singleton.1 hi
                refine wpOp_step rfl (fun Kc hKc => ?_)
                obtain ⟨A1, c1, e1, a1, b1⟩ := own_nil_len (hB52.row 1 rfl)
                simp only [Nat.zero_add] at e1 a1
                subst e1
                have o1 := hB52.row 1 rfl
                simp only [Nat.zero_add] at o1
                obtain ⟨u1, rfl⟩ := own_some o1 (by first | exact HN.out.2 | (rw [HLB.out]; exact HN.out.2))
                clear o1
                obtain ⟨A2, c2, e2, a2, b2⟩ := own_nil_len (hB52.row 0 rfl)
                simp only [Nat.zero_add] at e2 a2
                subst e2
                have o2 := hB52.row 0 rfl
                simp only [Nat.zero_add] at o2
                obtain ⟨u2, rfl⟩ := own_some o2 (by first | exact HN.out.2 | (rw [HLB.out]; exact HN.out.2))
                clear o2
                go_simp
                have hB53 := hB52.new (g := wa62.heap.size) rfl (.cells #[.slice (some ⟨u1, 0, none⟩) (gr bs 0).length c1, .slice (some ⟨u2, 0, none⟩) (gr bs 1).length c2] 40)
                refine hKc _ _ ⟨(hB53.keep (List.Sublist.cons _ (List.Sublist.cons _ (List.Sublist.cons_cons _ (List.nil_sublist _))))), ?_⟩
                clear hKc Kc hB52
                generalize wa62.heap.size = gL at *
                generalize wa62.alloc _ = wb63 at *
                refine wpAnyT_go (Bx.grows _ _) (hB53.keep (List.Sublist.cons _ (List.Sublist.cons _ (List.Sublist.cons_cons _ (List.nil_sublist _))))) [13] 1 (by kernel_rfl) ?_
                apply Exists.intro
                refine ⟨fun G hG hN => ?_, ?_⟩
                · have c_G := fun (e : GE (Bx w [(w.heap.size, gB (some ad) c bs)]) G) j => cell_of_row e.w _ j _ _ _ ((GE.h e).get 0 rfl)
                  have z_G := fun (e : GE (Bx w [(w.heap.size, gB (some ad) c bs)]) G) => (GE.h e).lt 0 rfl
                  have t_r0 := fun (e : GE (Bx w [(w.heap.size, gB (some ad) c bs)]) G) => (HVL.out _ (GE.h e).below).two.r0
                  have t_r1 := fun (e : GE (Bx w [(w.heap.size, gB (some ad) c bs)]) G) => (HVL.out _ (GE.h e).below).two.r1
                  have t_b := fun (e : GE (Bx w [(w.heap.size, gB (some ad) c bs)]) G) => (HVL.out _ (GE.h e).below).two.bl
                  simp only [pickOps, List.getElem?_toArray, List.getElem?_cons_zero, List.getElem?_cons_succ]
                  repeat (first | go_big_quiet_step (fail) | quiet_step (fail))
                  exact wpQuiet_nil rfl
                refine wpAnyT_all (rs := [15]) (by kernel_rfl) (by simp) (fun wa64 hwa64 hRwa64 i hi => ?_)
                have hB54 := hB53.next hwa64
                clear hB53 hwa64 hRwa64
                obtain rfl := List.mem_singleton.1 hi
                refine wpOp_step rfl (fun Kc hKc => ?_)
                have c_W := fun j => cell_of_row _ _ j _ _ _ (hB54.get 1 rfl)
                have z_W := hB54.lt 1 rfl
                have f_W := fun j => frozen_of_row _ _ j _ _ (hB54.get 1 rfl)
                go_simp
                have hB55 := hB54.set 1 rfl 0 (.slice (some ⟨gL, 0, none⟩) 2 2)
                refine hKc _ _ ⟨(hB55.keep (List.Sublist.cons _ (List.Sublist.cons _ (List.Sublist.cons_cons _ (List.nil_sublist _))))), ?_⟩
                clear c_W z_W f_W hKc Kc hB54
                generalize wa64.setCell _ _ = wb65 at *
                refine wpAnyT_done (by kernel_rfl) (fun wd66 hwd66 hRwd66 => ?_) _
                refine NoPanic.normal ?_
                have hB56 := hB55.next hwd66
                clear hB55 hwd66 hRwd66
                have HZ := hB56.perm (List.Perm.swap _ _ _) (List.Perm.swap _ _ _)
                simp only [Nat.zero_add, List.nil_append] at HZ
                rw [HLB.out] at HZ
                have HZ := Lib.hid HZ
                have HCC := Lib.hid (And.intro a1 (And.intro b1 (And.intro (show (gr bs 0).length ≤ c2 by have := HLB.out; omega) b2)))
                clear hB56 a1 b1 a2 b2
                go_wp2_with fail
                go_meet
                exact ⟨gW, gL, u1, u2, c1, c2, rfl, HCC.out.1, HCC.out.2.1, HCC.out.2.2.1, HCC.out.2.2.2, HZ.out⟩
            · obtain rfl := List.mem_singleton.1 hi
              refine wpOp_step rfl (fun Kc hKc => ?_)
              go_simp
              have hB47 := hB46.new (g := wa42.heap.size) rfl (.cells #[.slice none 0 0] 24)
              refine hKc _ _ ⟨(hB47.keep (List.Sublist.cons _ (List.Sublist.cons_cons _ (List.nil_sublist _)))), ?_⟩
              clear hKc Kc hB46
              generalize wa42.heap.size = gW at *
              generalize wa42.alloc _ = wb67 at *
              refine wpAnyT_all (rs := [5]) (by kernel_rfl) (by simp) (fun wa68 hwa68 hRwa68 i hi => ?_)
              have hB48 := hB47.next hwa68
              clear hB47 hwa68 hRwa68
              obtain rfl := List.mem_singleton.1 hi
              refine wpOp_step rfl (fun Kc hKc => ?_)
              refine step_append_any _ rfl (.tmp 51) (.tmp 55) 40 rfl w.heap.size 3 i0 (.int .i64 0) 1 8 Try.underlying40 hi0 hz0 hz1 hz2 rfl (by omega) (.slice (some ⟨g1, 0, none⟩) 0 0) 0 [] rfl (hB48.row 1 rfl) _ (some xa) (gr bs 0).length c0 (intsV (gr bs 0)) rfl (HVL.out _ hB48.below).two.i0.reads (one_cells _) (by have := HN.out; unfold maxLen; omega) (by have := HN.out; omega) hB48.below.size ?_
              intro v1 wb69 hown hgr hat
              have hB49 := hB48.grow 1 rfl hgr hown hat
              refine hKc _ _ ⟨(hB49.keep (List.Sublist.cons _ (List.Sublist.cons_cons _ (List.nil_sublist _)))), ?_⟩
              clear hKc Kc hB48 hown hgr hat
              refine wpAnyT_all (rs := [11]) (by kernel_rfl) (by simp) (fun wa70 hwa70 hRwa70 i hi => ?_)
              have hB50 := hB49.next hwa70
              clear hB49 hwa70 hRwa70
              obtain rfl := List.mem_singleton.1 hi
              refine wpOp_step rfl (fun Kc hKc => ?_)
              refine step_append_any _ rfl (.tmp 57) (.tmp 61) 40 rfl w.heap.size 3 i0 (.int .i64 0) 1 8 Try.underlying40 hi0 hz0 hz1 hz2 rfl (by omega) (.slice (some ⟨g2, 0, none⟩) 0 0) 0 [] rfl (hB50.row 0 rfl) _ (some ya) (gr bs 1).length c1 (intsV (gr bs 1)) rfl (HVL.out _ hB50.below).two.i1.reads (one_cells _) (by have := HN.out; have := HLB.out; unfold maxLen; omega) (by have := HN.out; have := HLB.out; omega) hB50.below.size ?_
              intro v2 wb71 hown hgr hat
              have hB51 := hB50.grow 0 rfl hgr hown hat
              refine hKc _ _ ⟨(hB51.keep (List.Sublist.cons _ (List.Sublist.cons_cons _ (List.nil_sublist _)))), ?_⟩
              clear hKc Kc hB50 hown hgr hat
              refine wpAnyT_all (rs := [12]) (by kernel_rfl) (by simp) (fun wa72 hwa72 hRwa72 i hi => ?_)
              have hB52 := hB51.next hwa72
              clear hB51 hwa72 hRwa72
              obtain rfl := List.mem_singleton.1 hi
              refine wpOp_step rfl (fun Kc hKc => ?_)
              obtain ⟨A1, c1, e1, a1, b1⟩ := own_nil_len (hB52.row 1 rfl)
              simp only [Nat.zero_add] at e1 a1
              subst e1
              have o1 := hB52.row 1 rfl
              simp only [Nat.zero_add] at o1
              obtain ⟨u1, rfl⟩ := own_some o1 (by first | exact HN.out.2 | (rw [HLB.out]; exact HN.out.2))
              clear o1
              obtain ⟨A2, c2, e2, a2, b2⟩ := own_nil_len (hB52.row 0 rfl)
              simp only [Nat.zero_add] at e2 a2
              subst e2
              have o2 := hB52.row 0 rfl
              simp only [Nat.zero_add] at o2
              obtain ⟨u2, rfl⟩ := own_some o2 (by first | exact HN.out.2 | (rw [HLB.out]; exact HN.out.2))
              clear o2
              go_simp
              have hB53 := hB52.new (g := wa72.heap.size) rfl (.cells #[.slice (some ⟨u1, 0, none⟩) (gr bs 0).length c1, .slice (some ⟨u2, 0, none⟩) (gr bs 1).length c2] 40)
              refine hKc _ _ ⟨(hB53.keep (List.Sublist.cons _ (List.Sublist.cons _ (List.Sublist.cons_cons _ (List.nil_sublist _))))), ?_⟩
              clear hKc Kc hB52
              generalize wa72.heap.size = gL at *
              generalize wa72.alloc _ = wb73 at *
              refine wpAnyT_go (Bx.grows _ _) (hB53.keep (List.Sublist.cons _ (List.Sublist.cons _ (List.Sublist.cons_cons _ (List.nil_sublist _))))) [13] 1 (by kernel_rfl) ?_
              apply Exists.intro
              refine ⟨fun G hG hN => ?_, ?_⟩
              · have c_G := fun (e : GE (Bx w [(w.heap.size, gB (some ad) c bs)]) G) j => cell_of_row e.w _ j _ _ _ ((GE.h e).get 0 rfl)
                have z_G := fun (e : GE (Bx w [(w.heap.size, gB (some ad) c bs)]) G) => (GE.h e).lt 0 rfl
                have t_r0 := fun (e : GE (Bx w [(w.heap.size, gB (some ad) c bs)]) G) => (HVL.out _ (GE.h e).below).two.r0
                have t_r1 := fun (e : GE (Bx w [(w.heap.size, gB (some ad) c bs)]) G) => (HVL.out _ (GE.h e).below).two.r1
                have t_b := fun (e : GE (Bx w [(w.heap.size, gB (some ad) c bs)]) G) => (HVL.out _ (GE.h e).below).two.bl
                simp only [pickOps, List.getElem?_toArray, List.getElem?_cons_zero, List.getElem?_cons_succ]
                repeat (first | go_big_quiet_step (fail) | quiet_step (fail))
                exact wpQuiet_nil rfl
              refine wpAnyT_all (rs := [15]) (by kernel_rfl) (by simp) (fun wa74 hwa74 hRwa74 i hi => ?_)
              have hB54 := hB53.next hwa74
              clear hB53 hwa74 hRwa74
              obtain rfl := List.mem_singleton.1 hi
              refine wpOp_step rfl (fun Kc hKc => ?_)
              have c_W := fun j => cell_of_row _ _ j _ _ _ (hB54.get 1 rfl)
              have z_W := hB54.lt 1 rfl
              have f_W := fun j => frozen_of_row _ _ j _ _ (hB54.get 1 rfl)
              go_simp
              have hB55 := hB54.set 1 rfl 0 (.slice (some ⟨gL, 0, none⟩) 2 2)
              refine hKc _ _ ⟨(hB55.keep (List.Sublist.cons _ (List.Sublist.cons _ (List.Sublist.cons_cons _ (List.nil_sublist _))))), ?_⟩
              clear c_W z_W f_W hKc Kc hB54
              generalize wa74.setCell _ _ = wb75 at *
              refine wpAnyT_done (by kernel_rfl) (fun wd76 hwd76 hRwd76 => ?_) _
              refine NoPanic.normal ?_
              have hB56 := hB55.next hwd76
              clear hB55 hwd76 hRwd76
              have HZ := hB56.perm (List.Perm.swap _ _ _) (List.Perm.swap _ _ _)
              simp only [Nat.zero_add, List.nil_append] at HZ
              rw [HLB.out] at HZ
              have HZ := Lib.hid HZ
              have HCC := Lib.hid (And.intro a1 (And.intro b1 (And.intro (show (gr bs 0).length ≤ c2 by have := HLB.out; omega) b2)))
              clear hB56 a1 b1 a2 b2
              go_wp2_with fail
              go_meet
              exact ⟨gW, gL, u1, u2, c1, c2, rfl, HCC.out.1, HCC.out.2.1, HCC.out.2.2.1, HCC.out.2.2.2, HZ.out⟩
          · obtain rfl := List.mem_singleton.1 hi
            refine wpOp_step rfl (fun Kc hKc => ?_)
            go_simp
            have hB45 := hB44.new (g := wa4.heap.size) rfl (.cells #[.slice none 0 0] 24)
            refine hKc _ _ ⟨(hB45.keep (List.Sublist.cons _ (List.Sublist.cons_cons _ (List.nil_sublist _)))), ?_⟩
            clear hKc Kc hB44
            generalize wa4.heap.size = gW at *
            generalize wa4.alloc _ = wb77 at *
            refine wpAnyT_all (rs := [5, 6]) (by kernel_rfl) (by simp) (fun wa78 hwa78 hRwa78 i hi => ?_)
            have hB46 := hB45.next hwa78
            clear hB45 hwa78 hRwa78
            rcases List.mem_cons.1 hi with rfl | hi
            · refine wpOp_step rfl (fun Kc hKc => ?_)
              refine step_append_any _ rfl (.tmp 51) (.tmp 55) 40 rfl w.heap.size 3 i0 (.int .i64 0) 1 8 Try.underlying40 hi0 hz0 hz1 hz2 rfl (by omega) (.slice (some ⟨g1, 0, none⟩) 0 0) 0 [] rfl (hB46.row 0 rfl) _ (some xa) (gr bs 0).length c0 (intsV (gr bs 0)) rfl (HVL.out _ hB46.below).two.i0.reads (one_cells _) (by have := HN.out; unfold maxLen; omega) (by have := HN.out; omega) hB46.below.size ?_
              intro v1 wb79 hown hgr hat
              have hB47 := hB46.grow 0 rfl hgr hown hat
              refine hKc _ _ ⟨(hB47.keep (List.Sublist.cons _ (List.Sublist.cons_cons _ (List.nil_sublist _)))), ?_⟩
              clear hKc Kc hB46 hown hgr hat
              refine wpAnyT_all (rs := [6]) (by kernel_rfl) (by simp) (fun wa80 hwa80 hRwa80 i hi => ?_)
              have hB48 := hB47.next hwa80
              clear hB47 hwa80 hRwa80
              obtain rfl := List.mem_singleton.1 hi
              refine wpOp_step rfl (fun Kc hKc => ?_)
              go_simp
              have hB49 := hB48.addR (one_alloc wa80 (.cells #[] 3)) ⟨.slice (some ⟨wa80.heap.size, 0, none⟩) 0 0, 3, 1, 0, []⟩ (World.ownsRow_lit wa80 #[] 0 (Nat.le_refl _) (by unfold maxLen; omega) rfl)
              refine hKc _ _ ⟨(hB49.keep (List.Sublist.cons _ (List.Sublist.cons_cons _ (List.nil_sublist _)))), ?_⟩
              clear hKc Kc hB48
              generalize wa80.heap.size = g2 at *
              generalize wa80.alloc _ = wb81 at *
              refine wpAnyT_all (rs := [11]) (by kernel_rfl) (by simp) (fun wa82 hwa82 hRwa82 i hi => ?_)
              have hB50 := hB49.next hwa82
              clear hB49 hwa82 hRwa82
              obtain rfl := List.mem_singleton.1 hi
              refine wpOp_step rfl (fun Kc hKc => ?_)
              refine step_append_any _ rfl (.tmp 57) (.tmp 61) 40 rfl w.heap.size 3 i0 (.int .i64 0) 1 8 Try.underlying40 hi0 hz0 hz1 hz2 rfl (by omega) (.slice (some ⟨g2, 0, none⟩) 0 0) 0 [] rfl (hB50.row 0 rfl) _ (some ya) (gr bs 1).length c1 (intsV (gr bs 1)) rfl (HVL.out _ hB50.below).two.i1.reads (one_cells _) (by have := HN.out; have := HLB.out; unfold maxLen; omega) (by have := HN.out; have := HLB.out; omega) hB50.below.size ?_
              intro v2 wb83 hown hgr hat
              have hB51 := hB50.grow 0 rfl hgr hown hat
              refine hKc _ _ ⟨(hB51.keep (List.Sublist.cons _ (List.Sublist.cons_cons _ (List.nil_sublist _)))), ?_⟩
              clear hKc Kc hB50 hown hgr hat
              refine wpAnyT_all (rs := [12]) (by kernel_rfl) (by simp) (fun wa84 hwa84 hRwa84 i hi => ?_)
              have hB52 := hB51.next hwa84
              clear hB51 hwa84 hRwa84
              obtain rfl := List.mem_singleton.1 hi
              refine wpOp_step rfl (fun Kc hKc => ?_)
              obtain ⟨A1, c1, e1, a1, b1⟩ := own_nil_len (hB52.row 1 rfl)
              simp only [Nat.zero_add] at e1 a1
              subst e1
              have o1 := hB52.row 1 rfl
              simp only [Nat.zero_add] at o1
              obtain ⟨u1, rfl⟩ := own_some o1 (by first | exact HN.out.2 | (rw [HLB.out]; exact HN.out.2))
              clear o1
              obtain ⟨A2, c2, e2, a2, b2⟩ := own_nil_len (hB52.row 0 rfl)
              simp only [Nat.zero_add] at e2 a2
              subst e2
              have o2 := hB52.row 0 rfl
              simp only [Nat.zero_add] at o2
              obtain ⟨u2, rfl⟩ := own_some o2 (by first | exact HN.out.2 | (rw [HLB.out]; exact HN.out.2))
              clear o2
              go_simp
              have hB53 := hB52.new (g := wa84.heap.size) rfl (.cells #[.slice (some ⟨u1, 0, none⟩) (gr bs 0).length c1, .slice (some ⟨u2, 0, none⟩) (gr bs 1).length c2] 40)
              refine hKc _ _ ⟨(hB53.keep (List.Sublist.cons _ (List.Sublist.cons _ (List.Sublist.cons_cons _ (List.nil_sublist _))))), ?_⟩
              clear hKc Kc hB52
              generalize wa84.heap.size = gL at *
              generalize wa84.alloc _ = wb85 at *
              refine wpAnyT_go (Bx.grows _ _) (hB53.keep (List.Sublist.cons _ (List.Sublist.cons _ (List.Sublist.cons_cons _ (List.nil_sublist _))))) [13] 1 (by kernel_rfl) ?_
              apply Exists.intro
              refine ⟨fun G hG hN => ?_, ?_⟩
              · have c_G := fun (e : GE (Bx w [(w.heap.size, gB (some ad) c bs)]) G) j => cell_of_row e.w _ j _ _ _ ((GE.h e).get 0 rfl)
                have z_G := fun (e : GE (Bx w [(w.heap.size, gB (some ad) c bs)]) G) => (GE.h e).lt 0 rfl
                have t_r0 := fun (e : GE (Bx w [(w.heap.size, gB (some ad) c bs)]) G) => (HVL.out _ (GE.h e).below).two.r0
                have t_r1 := fun (e : GE (Bx w [(w.heap.size, gB (some ad) c bs)]) G) => (HVL.out _ (GE.h e).below).two.r1
                have t_b := fun (e : GE (Bx w [(w.heap.size, gB (some ad) c bs)]) G) => (HVL.out _ (GE.h e).below).two.bl
                simp only [pickOps, List.getElem?_toArray, List.getElem?_cons_zero, List.getElem?_cons_succ]
                repeat (first | go_big_quiet_step (fail) | quiet_step (fail))
                exact wpQuiet_nil rfl
              refine wpAnyT_all (rs := [15]) (by kernel_rfl) (by simp) (fun wa86 hwa86 hRwa86 i hi => ?_)
              have hB54 := hB53.next hwa86
              clear hB53 hwa86 hRwa86
              obtain rfl := List.mem_singleton.1 hi
              refine wpOp_step rfl (fun Kc hKc => ?_)
              have c_W := fun j => cell_of_row _ _ j _ _ _ (hB54.get 1 rfl)
              have z_W := hB54.lt 1 rfl
              have f_W := fun j => frozen_of_row _ _ j _ _ (hB54.get 1 rfl)
              go_simp
              have hB55 := hB54.set 1 rfl 0 (.slice (some ⟨gL, 0, none⟩) 2 2)
              refine hKc _ _ ⟨(hB55.keep (List.Sublist.cons _ (List.Sublist.cons _ (List.Sublist.cons_cons _ (List.nil_sublist _))))), ?_⟩
              clear c_W z_W f_W hKc Kc hB54
              generalize wa86.setCell _ _ = wb87 at *
              refine wpAnyT_done (by kernel_rfl) (fun wd88 hwd88 hRwd88 => ?_) _
              refine NoPanic.normal ?_
              have hB56 := hB55.next hwd88
              clear hB55 hwd88 hRwd88
              have HZ := hB56.perm (List.Perm.swap _ _ _) (List.Perm.swap _ _ _)
              simp only [Nat.zero_add, List.nil_append] at HZ
              rw [HLB.out] at HZ
              have HZ := Lib.hid HZ
              have HCC := Lib.hid (And.intro a1 (And.intro b1 (And.intro (show (gr bs 0).length ≤ c2 by have := HLB.out; omega) b2)))
              clear hB56 a1 b1 a2 b2
              go_wp2_with fail
              go_meet
              exact ⟨gW, gL, u1, u2, c1, c2, rfl, HCC.out.1, HCC.out.2.1, HCC.out.2.2.1, HCC.out.2.2.2, HZ.out⟩
            · obtain rfl := List.mem_singleton.1 hi
              refine wpOp_step rfl (fun Kc hKc => ?_)
              go_simp
              have hB47 := hB46.addR (one_alloc wa78 (.cells #[] 3)) ⟨.slice (some ⟨wa78.heap.size, 0, none⟩) 0 0, 3, 1, 0, []⟩ (World.ownsRow_lit wa78 #[] 0 (Nat.le_refl _) (by unfold maxLen; omega) rfl)
              refine hKc _ _ ⟨(hB47.keep (List.Sublist.cons _ (List.Sublist.cons_cons _ (List.nil_sublist _)))), ?_⟩
              clear hKc Kc hB46
              generalize wa78.heap.size = g2 at *
              generalize wa78.alloc _ = wb89 at *
              refine wpAnyT_all (rs := [5]) (by kernel_rfl) (by simp) (fun wa90 hwa90 hRwa90 i hi => ?_)
              have hB48 := hB47.next hwa90
              clear hB47 hwa90 hRwa90
              obtain rfl := List.mem_singleton.1 hi
              refine wpOp_step rfl (fun Kc hKc => ?_)
              refine step_append_any _ rfl (.tmp 51) (.tmp 55) 40 rfl w.heap.size 3 i0 (.int .i64 0) 1 8 Try.underlying40 hi0 hz0 hz1 hz2 rfl (by omega) (.slice (some ⟨g1, 0, none⟩) 0 0) 0 [] rfl (hB48.row 1 rfl) _ (some xa) (gr bs 0).length c0 (intsV (gr bs 0)) rfl (HVL.out _ hB48.below).two.i0.reads (one_cells _) (by have := HN.out; unfold maxLen; omega) (by have := HN.out; omega) hB48.below.size ?_
              intro v1 wb91 hown hgr hat
              have hB49 := hB48.grow 1 rfl hgr hown hat
              refine hKc _ _ ⟨(hB49.keep (List.Sublist.cons _ (List.Sublist.cons_cons _ (List.nil_sublist _)))), ?_⟩
              clear hKc Kc hB48 hown hgr hat
              refine wpAnyT_all (rs := [11]) (by kernel_rfl) (by simp) (fun wa92 hwa92 hRwa92 i hi => ?_)
              have hB50 := hB49.next hwa92
              clear hB49 hwa92 hRwa92
              obtain rfl := List.mem_singleton.1 hi
              refine wpOp_step rfl (fun Kc hKc => ?_)
              refine step_append_any _ rfl (.tmp 57) (.tmp 61) 40 rfl w.heap.size 3 i0 (.int .i64 0) 1 8 Try.underlying40 hi0 hz0 hz1 hz2 rfl (by omega) (.slice (some ⟨g2, 0, none⟩) 0 0) 0 [] rfl (hB50.row 0 rfl) _ (some ya) (gr bs 1).length c1 (intsV (gr bs 1)) rfl (HVL.out _ hB50.below).two.i1.reads (one_cells _) (by have := HN.out; have := HLB.out; unfold maxLen; omega) (by have := HN.out; have := HLB.out; omega) hB50.below.size ?_
              intro v2 wb93 hown hgr hat
              have hB51 := hB50.grow 0 rfl hgr hown hat
              refine hKc _ _ ⟨(hB51.keep (List.Sublist.cons _ (List.Sublist.cons_cons _ (List.nil_sublist _)))), ?_⟩
              clear hKc Kc hB50 hown hgr hat
              refine wpAnyT_all (rs := [12]) (by kernel_rfl) (by simp) (fun wa94 hwa94 hRwa94 i hi => ?_)
              have hB52 := hB51.next hwa94
              clear hB51 hwa94 hRwa94
              obtain rfl := List.mem_singleton.1 hi
              refine wpOp_step rfl (fun Kc hKc => ?_)
              obtain ⟨A1, c1, e1, a1, b1⟩ := own_nil_len (hB52.row 1 rfl)
              simp only [Nat.zero_add] at e1 a1
              subst e1
              have o1 := hB52.row 1 rfl
              simp only [Nat.zero_add] at o1
              obtain ⟨u1, rfl⟩ := own_some o1 (by first | exact HN.out.2 | (rw [HLB.out]; exact HN.out.2))
              clear o1
              obtain ⟨A2, c2, e2, a2, b2⟩ := own_nil_len (hB52.row 0 rfl)
              simp only [Nat.zero_add] at e2 a2
              subst e2
              have o2 := hB52.row 0 rfl
              simp only [Nat.zero_add] at o2
              obtain ⟨u2, rfl⟩ := own_some o2 (by first | exact HN.out.2 | (rw [HLB.out]; exact HN.out.2))
              clear o2
              go_simp
              have hB53 := hB52.new (g := wa94.heap.size) rfl (.cells #[.slice (some ⟨u1, 0, none⟩) (gr bs 0).length c1, .slice (some ⟨u2, 0, none⟩) (gr bs 1).length c2] 40)
              refine hKc _ _ ⟨(hB53.keep (List.Sublist.cons _ (List.Sublist.cons _ (List.Sublist.cons_cons _ (List.nil_sublist _))))), ?_⟩
              clear hKc Kc hB52
              generalize wa94.heap.size = gL at *
              generalize wa94.alloc _ = wb95 at *
              refine wpAnyT_go (Bx.grows _ _) (hB53.keep (List.Sublist.cons _ (List.Sublist.cons _ (List.Sublist.cons_cons _ (List.nil_sublist _))))) [13] 1 (by kernel_rfl) ?_
              apply Exists.intro
              refine ⟨fun G hG hN => ?_, ?_⟩
              · have c_G := fun (e : GE (Bx w [(w.heap.size, gB (some ad) c bs)]) G) j => cell_of_row e.w _ j _ _ _ ((GE.h e).get 0 rfl)
                have z_G := fun (e : GE (Bx w [(w.heap.size, gB (some ad) c bs)]) G) => (GE.h e).lt 0 rfl
                have t_r0 := fun (e : GE (Bx w [(w.heap.size, gB (some ad) c bs)]) G) => (HVL.out _ (GE.h e).below).two.r0
                have t_r1 := fun (e : GE (Bx w [(w.heap.size, gB (some ad) c bs)]) G) => (HVL.out _ (GE.h e).below).two.r1
                have t_b := fun (e : GE (Bx w [(w.heap.size, gB (some ad) c bs)]) G) => (HVL.out _ (GE.h e).below).two.bl
                simp only [pickOps, List.getElem?_toArray, List.getElem?_cons_zero, List.getElem?_cons_succ]
                repeat (first | go_big_quiet_step (fail) | quiet_step (fail))
                exact wpQuiet_nil rfl
              refine wpAnyT_all (rs := [15]) (by kernel_rfl) (by simp) (fun wa96 hwa96 hRwa96 i hi => ?_)
              have hB54 := hB53.next hwa96
              clear hB53 hwa96 hRwa96
              obtain rfl := List.mem_singleton.1 hi
              refine wpOp_step rfl (fun Kc hKc => ?_)
              have c_W := fun j => cell_of_row _ _ j _ _ _ (hB54.get 1 rfl)
              have z_W := hB54.lt 1 rfl
              have f_W := fun j => frozen_of_row _ _ j _ _ (hB54.get 1 rfl)
              go_simp
              have hB55 := hB54.set 1 rfl 0 (.slice (some ⟨gL, 0, none⟩) 2 2)
              refine hKc _ _ ⟨(hB55.keep (List.Sublist.cons _ (List.Sublist.cons _ (List.Sublist.cons_cons _ (List.nil_sublist _))))), ?_⟩
              clear c_W z_W f_W hKc Kc hB54
              generalize wa96.setCell _ _ = wb97 at *
              refine wpAnyT_done (by kernel_rfl) (fun wd98 hwd98 hRwd98 => ?_) _
              refine NoPanic.normal ?_
              have hB56 := hB55.next hwd98
              clear hB55 hwd98 hRwd98
              have HZ := hB56.perm (List.Perm.swap _ _ _) (List.Perm.swap _ _ _)
              simp only [Nat.zero_add, List.nil_append] at HZ
              rw [HLB.out] at HZ
              have HZ := Lib.hid HZ
              have HCC := Lib.hid (And.intro a1 (And.intro b1 (And.intro (show (gr bs 0).length ≤ c2 by have := HLB.out; omega) b2)))
              clear hB56 a1 b1 a2 b2
              go_wp2_with fail
              go_meet
              exact ⟨gW, gL, u1, u2, c1, c2, rfl, HCC.out.1, HCC.out.2.1, HCC.out.2.2.1, HCC.out.2.2.2, HZ.out⟩
      · rcases List.mem_cons.1 hi with rfl | hi
        · refine wpOp_step rfl (fun Kc hKc => ?_)
          go_simp
          have hB43 := hB42.addR (one_alloc wa2 (.cells #[] 3)) ⟨.slice (some ⟨wa2.heap.size, 0, none⟩) 0 0, 3, 1, 0, []⟩ (World.ownsRow_lit wa2 #[] 0 (Nat.le_refl _) (by unfold maxLen; omega) rfl)
          refine hKc _ _ ⟨(hB43.keep (List.Sublist.cons_cons _ (List.nil_sublist _))), ?_⟩
          clear hKc Kc hB42
          generalize wa2.heap.size = g2 at *
          generalize wa2.alloc _ = wb99 at *
          refine wpAnyT_all (rs := [0, 14]) (by kernel_rfl) (by simp) (fun wa100 hwa100 hRwa100 i hi => ?_)
          have hB44 := hB43.next hwa100
          clear hB43 hwa100 hRwa100
          rcases List.mem_cons.1 hi with rfl | hi
          · refine wpOp_step rfl (fun Kc hKc => ?_)
            go_simp
            have hB45 := hB44.addR (one_alloc wa100 (.cells #[] 3)) ⟨.slice (some ⟨wa100.heap.size, 0, none⟩) 0 0, 3, 1, 0, []⟩ (World.ownsRow_lit wa100 #[] 0 (Nat.le_refl _) (by unfold maxLen; omega) rfl)
            refine hKc _ _ ⟨(hB45.keep (List.Sublist.cons_cons _ (List.nil_sublist _))), ?_⟩
            clear hKc Kc hB44
            generalize wa100.heap.size = g1 at *
            generalize wa100.alloc _ = wb101 at *
            refine wpAnyT_all (rs := [5, 14]) (by kernel_rfl) (by simp) (fun wa102 hwa102 hRwa102 i hi => ?_)
            have hB46 := hB45.next hwa102
            clear hB45 hwa102 hRwa102
            rcases List.mem_cons.1 hi with rfl | hi
            · refine wpOp_step rfl (fun Kc hKc => ?_)
              refine step_append_any _ rfl (.tmp 51) (.tmp 55) 40 rfl w.heap.size 3 i0 (.int .i64 0) 1 8 Try.underlying40 hi0 hz0 hz1 hz2 rfl (by omega) (.slice (some ⟨g1, 0, none⟩) 0 0) 0 [] rfl (hB46.row 0 rfl) _ (some xa) (gr bs 0).length c0 (intsV (gr bs 0)) rfl (HVL.out _ hB46.below).two.i0.reads (one_cells _) (by have := HN.out; unfold maxLen; omega) (by have := HN.out; omega) hB46.below.size ?_
              intro v1 wb103 hown hgr hat
              have hB47 := hB46.grow 0 rfl hgr hown hat
              refine hKc _ _ ⟨(hB47.keep (List.Sublist.cons_cons _ (List.nil_sublist _))), ?_⟩
              clear hKc Kc hB46 hown hgr hat
              refine wpAnyT_all (rs := [11, 14]) (by kernel_rfl) (by simp) (fun wa104 hwa104 hRwa104 i hi => ?_)
              have hB48 := hB47.next hwa104
              clear hB47 hwa104 hRwa104
              rcases List.mem_cons.1 hi with rfl | hi
              · refine wpOp_step rfl (fun Kc hKc => ?_)
                refine step_append_any _ rfl (.tmp 57) (.tmp 61) 40 rfl w.heap.size 3 i0 (.int .i64 0) 1 8 Try.underlying40 hi0 hz0 hz1 hz2 rfl (by omega) (.slice (some ⟨g2, 0, none⟩) 0 0) 0 [] rfl (hB48.row 1 rfl) _ (some ya) (gr bs 1).length c1 (intsV (gr bs 1)) rfl (HVL.out _ hB48.below).two.i1.reads (one_cells _) (by have := HN.out; have := HLB.out; unfold maxLen; omega) (by have := HN.out; have := HLB.out; omega) hB48.below.size ?_
                intro v2 wb105 hown hgr hat
                have hB49 := hB48.grow 1 rfl hgr hown hat
                refine hKc _ _ ⟨(hB49.keep (List.Sublist.cons_cons _ (List.nil_sublist _))), ?_⟩
                clear hKc Kc hB48 hown hgr hat
                refine wpAnyT_all (rs := [12, 14]) (by kernel_rfl) (by simp) (fun wa106 hwa106 hRwa106 i hi => ?_)
                have hB50 := hB49.next hwa106
                clear hB49 hwa106 hRwa106
                rcases List.mem_cons.1 hi with rfl | hi
                · refine wpOp_step rfl (fun Kc hKc => ?_)
                  obtain ⟨A1, c1, e1, a1, b1⟩ := own_nil_len (hB50.row 0 rfl)
                  simp only [Nat.zero_add] at e1 a1
                  subst e1
                  have o1 := hB50.row 0 rfl
                  simp only [Nat.zero_add] at o1
                  obtain ⟨u1, rfl⟩ := own_some o1 (by first | exact HN.out.2 | (rw [HLB.out]; exact HN.out.2))
                  clear o1
                  obtain ⟨A2, c2, e2, a2, b2⟩ := own_nil_len (hB50.row 1 rfl)
                  simp only [Nat.zero_add] at e2 a2
                  subst e2
                  have o2 := hB50.row 1 rfl
                  simp only [Nat.zero_add] at o2
                  obtain ⟨u2, rfl⟩ := own_some o2 (by first | exact HN.out.2 | (rw [HLB.out]; exact HN.out.2))
                  clear o2
                  go_simp
                  have hB51 := hB50.new (g := wa106.heap.size) rfl (.cells #[.slice (some ⟨u1, 0, none⟩) (gr bs 0).length c1, .slice (some ⟨u2, 0, none⟩) (gr bs 1).length c2] 40)
                  refine hKc _ _ ⟨(hB51.keep (List.Sublist.cons _ (List.Sublist.cons_cons _ (List.nil_sublist _)))), ?_⟩
                  clear hKc Kc hB50
                  generalize wa106.heap.size = gL at *
                  generalize wa106.alloc _ = wb107 at *
                  refine wpAnyT_go (Bx.grows _ _) (hB51.keep (List.Sublist.cons _ (List.Sublist.cons_cons _ (List.nil_sublist _)))) [13] 2 (by kernel_rfl) ?_
                  apply Exists.intro
                  refine ⟨fun G hG hN => ?_, ?_⟩
                  · have c_G := fun (e : GE (Bx w [(w.heap.size, gB (some ad) c bs)]) G) j => cell_of_row e.w _ j _ _ _ ((GE.h e).get 0 rfl)
                    have z_G := fun (e : GE (Bx w [(w.heap.size, gB (some ad) c bs)]) G) => (GE.h e).lt 0 rfl
                    have t_r0 := fun (e : GE (Bx w [(w.heap.size, gB (some ad) c bs)]) G) => (HVL.out _ (GE.h e).below).two.r0
                    have t_r1 := fun (e : GE (Bx w [(w.heap.size, gB (some ad) c bs)]) G) => (HVL.out _ (GE.h e).below).two.r1
                    have t_b := fun (e : GE (Bx w [(w.heap.size, gB (some ad) c bs)]) G) => (HVL.out _ (GE.h e).below).two.bl
                    simp only [pickOps, List.getElem?_toArray, List.getElem?_cons_zero, List.getElem?_cons_succ]
                    repeat (first | go_big_quiet_step (fail) | quiet_step (fail))
                    exact wpQuiet_nil rfl
                  refine wpAnyT_all (rs := [14]) (by kernel_rfl) (by simp) (fun wa108 hwa108 hRwa108 i hi => ?_)
                  have hB52 := hB51.next hwa108
                  clear hB51 hwa108 hRwa108
                  obtain rfl := List.mem_singleton.1 hi
                  refine wpOp_step rfl (fun Kc hKc => ?_)
                  go_simp
                  have hB53 := hB52.new (g := wa108.heap.size) rfl (.cells #[.slice none 0 0] 24)
                  refine hKc _ _ ⟨(hB53.keep (List.Sublist.cons _ (List.Sublist.cons _ (List.Sublist.cons_cons _ (List.nil_sublist _))))), ?_⟩
                  clear hKc Kc hB52
                  generalize wa108.heap.size = gW at *
                  generalize wa108.alloc _ = wb109 at *
                  refine wpAnyT_all (rs := [15]) (by kernel_rfl) (by simp) (fun wa110 hwa110 hRwa110 i hi => ?_)
                  have hB54 := hB53.next hwa110
                  clear hB53 hwa110 hRwa110
                  obtain rfl := List.mem_singleton.1 hi
                  refine wpOp_step rfl (fun Kc hKc => ?_)
                  have c_W := fun j => cell_of_row _ _ j _ _ _ (hB54.get 0 rfl)
                  have z_W := hB54.lt 0 rfl
                  have f_W := fun j => frozen_of_row _ _ j _ _ (hB54.get 0 rfl)
                  go_simp
                  have hB55 := hB54.set 0 rfl 0 (.slice (some ⟨gL, 0, none⟩) 2 2)
                  refine hKc _ _ ⟨(hB55.keep (List.Sublist.cons _ (List.Sublist.cons _ (List.Sublist.cons_cons _ (List.nil_sublist _))))), ?_⟩
                  clear c_W z_W f_W hKc Kc hB54
                  generalize wa110.setCell _ _ = wb111 at *
                  refine wpAnyT_done (by kernel_rfl) (fun wd112 hwd112 hRwd112 => ?_) _
                  refine NoPanic.normal ?_
                  have hB56 := hB55.next hwd112
                  clear hB55 hwd112 hRwd112
                  have HZ := hB56.perm (List.Perm.refl _) (List.Perm.refl _)
                  simp only [Nat.zero_add, List.nil_append] at HZ
                  rw [HLB.out] at HZ
                  have HZ := Lib.hid HZ
                  have HCC := Lib.hid (And.intro a1 (And.intro b1 (And.intro (show (gr bs 0).length ≤ c2 by have := HLB.out; omega) b2)))
                  clear hB56 a1 b1 a2 b2
                  go_wp2_with fail
                  go_meet
                  exact ⟨gW, gL, u1, u2, c1, c2, rfl, HCC.out.1, HCC.out.2.1, HCC.out.2.2.1, HCC.out.2.2.2, HZ.out⟩
                · obtain rfl := List.mem_singleton.1 hi
                  refine wpOp_step rfl (fun Kc hKc => ?_)
                  go_simp
                  have hB51 := hB50.new (g := wa106.heap.size) rfl (.cells #[.slice none 0 0] 24)
                  refine hKc _ _ ⟨(hB51.keep (List.Sublist.cons _ (List.Sublist.cons_cons _ (List.nil_sublist _)))), ?_⟩
                  clear hKc Kc hB50
                  generalize wa106.heap.size = gW at *
                  generalize wa106.alloc _ = wb113 at *
                  refine wpAnyT_all (rs := [12]) (by kernel_rfl) (by simp) (fun wa114 hwa114 hRwa114 i hi => ?_)
                  have hB52 := hB51.next hwa114
                  clear hB51 hwa114 hRwa114
                  obtain rfl := List.mem_singleton.1 hi
                  refine wpOp_step rfl (fun Kc hKc => ?_)
                  obtain ⟨A1, c1, e1, a1, b1⟩ := own_nil_len (hB52.row 0 rfl)
                  simp only [Nat.zero_add] at e1 a1
                  subst e1
                  have o1 := hB52.row 0 rfl
                  simp only [Nat.zero_add] at o1
                  obtain ⟨u1, rfl⟩ := own_some o1 (by first | exact HN.out.2 | (rw [HLB.out]; exact HN.out.2))
                  clear o1
                  obtain ⟨A2, c2, e2, a2, b2⟩ := own_nil_len (hB52.row 1 rfl)
                  simp only [Nat.zero_add] at e2 a2
                  subst e2
                  have o2 := hB52.row 1 rfl
                  simp only [Nat.zero_add] at o2
                  obtain ⟨u2, rfl⟩ := own_some o2 (by first | exact HN.out.2 | (rw [HLB.out]; exact HN.out.2))
                  clear o2
                  go_simp
                  have hB53 := hB52.new (g := wa114.heap.size) rfl (.cells #[.slice (some ⟨u1, 0, none⟩) (gr bs 0).length c1, .slice (some ⟨u2, 0, none⟩) (gr bs 1).length c2] 40)
                  refine hKc _ _ ⟨(hB53.keep (List.Sublist.cons _ (List.Sublist.cons _ (List.Sublist.cons_cons _ (List.nil_sublist _))))), ?_⟩
                  clear hKc Kc hB52
                  generalize wa114.heap.size = gL at *
                  generalize wa114.alloc _ = wb115 at *
                  refine wpAnyT_go (Bx.grows _ _) (hB53.keep (List.Sublist.cons _ (List.Sublist.cons _ (List.Sublist.cons_cons _ (List.nil_sublist _))))) [13] 1 (by kernel_rfl) ?_
                  apply Exists.intro
                  refine ⟨fun G hG hN => ?_, ?_⟩
                  · have c_G := fun (e : GE (Bx w [(w.heap.size, gB (some ad) c bs)]) G) j => cell_of_row e.w _ j _ _ _ ((GE.h e).get 0 rfl)
                    have z_G := fun (e : GE (Bx w [(w.heap.size, gB (some ad) c bs)]) G) => (GE.h e).lt 0 rfl
                    have t_r0 := fun (e : GE (Bx w [(w.heap.size, gB (some ad) c bs)]) G) => (HVL.out _ (GE.h e).below).two.r0
                    have t_r1 := fun (e : GE (Bx w [(w.heap.size, gB (some ad) c bs)]) G) => (HVL.out _ (GE.h e).below).two.r1
                    have t_b := fun (e : GE (Bx w [(w.heap.size, gB (some ad) c bs)]) G) => (HVL.out _ (GE.h e).below).two.bl
                    simp only [pickOps, List.getElem?_toArray, List.getElem?_cons_zero, List.getElem?_cons_succ]
                    repeat (first | go_big_quiet_step (fail) | quiet_step (fail))
                    exact wpQuiet_nil rfl
                  refine wpAnyT_all (rs := [15]) (by kernel_rfl) (by simp) (fun wa116 hwa116 hRwa116 i hi => ?_)
                  have hB54 := hB53.next hwa116
                  clear hB53 hwa116 hRwa116
                  obtain rfl := List.mem_singleton.1 hi
                  refine wpOp_step rfl (fun Kc hKc => ?_)
                  have c_W := fun j => cell_of_row _ _ j _ _ _ (hB54.get 1 rfl)
                  have z_W := hB54.lt 1 rfl
                  have f_W := fun j => frozen_of_row _ _ j _ _ (hB54.get 1 rfl)
                  go_simp
                  have hB55 := hB54.set 1 rfl 0 (.slice (some ⟨gL, 0, none⟩) 2 2)
                  refine hKc _ _ ⟨(hB55.keep (List.Sublist.cons _ (List.Sublist.cons _ (List.Sublist.cons_cons _ (List.nil_sublist _))))), ?_⟩
                  clear c_W z_W f_W hKc Kc hB54
                  generalize wa116.setCell _ _ = wb117 at *
                  refine wpAnyT_done (by kernel_rfl) (fun wd118 hwd118 hRwd118 => ?_) _
                  refine NoPanic.normal ?_
                  have hB56 := hB55.next hwd118
                  clear hB55 hwd118 hRwd118
                  have HZ := hB56.perm (List.Perm.swap _ _ _) (List.Perm.refl _)
                  simp only [Nat.zero_add, List.nil_append] at HZ
                  rw [HLB.out] at HZ
                  have HZ := Lib.hid HZ
                  have HCC := Lib.hid (And.intro a1 (And.intro b1 (And.intro (show (gr bs 0).length ≤ c2 by have := HLB.out; omega) b2)))
                  clear hB56 a1 b1 a2 b2
                  go_wp2_with fail
                  go_meet
                  exact ⟨gW, gL, u1, u2, c1, c2, rfl, HCC.out.1, HCC.out.2.1, HCC.out.2.2.1, HCC.out.2.2.2, HZ.out⟩
              · obtain rfl := List.mem_singleton.1 hi
                refine wpOp_step rfl (fun Kc hKc => ?_)
                go_simp
                have hB49 := hB48.new (g := wa104.heap.size) rfl (.cells #[.slice none 0 0] 24)
                refine hKc _ _ ⟨(hB49.keep (List.Sublist.cons _ (List.Sublist.cons_cons _ (List.nil_sublist _)))), ?_⟩
                clear hKc Kc hB48
                generalize wa104.heap.size = gW at *
                generalize wa104.alloc _ = wb119 at *
                refine wpAnyT_all (rs := [11]) (by kernel_rfl) (by simp) (fun wa120 hwa120 hRwa120 i hi => ?_)
                have hB50 := hB49.next hwa120
                clear hB49 hwa120 hRwa120
                obtain rfl := List.mem_singleton.1 hi
                refine wpOp_step rfl (fun Kc hKc => ?_)
                refine step_append_any _ rfl (.tmp 57) (.tmp 61) 40 rfl w.heap.size 3 i0 (.int .i64 0) 1 8 Try.underlying40 hi0 hz0 hz1 hz2 rfl (by omega) (.slice (some ⟨g2, 0, none⟩) 0 0) 0 [] rfl (hB50.row 1 rfl) _ (some ya) (gr bs 1).length c1 (intsV (gr bs 1)) rfl (HVL.out _ hB50.below).two.i1.reads (one_cells _) (by have := HN.out; have := HLB.out; unfold maxLen; omega) (by have := HN.out; have := HLB.out; omega) hB50.below.size ?_
                intro v2 wb121 hown hgr hat
                have hB51 := hB50.grow 1 rfl hgr hown hat
                refine hKc _ _ ⟨(hB51.keep (List.Sublist.cons _ (List.Sublist.cons_cons _ (List.nil_sublist _)))), ?_⟩
                clear hKc Kc hB50 hown hgr hat
                refine wpAnyT_all (rs := [12]) (by kernel_rfl) (by simp) (fun wa122 hwa122 hRwa122 i hi => ?_)
                have hB52 := hB51.next hwa122
                clear hB51 hwa122 hRwa122
                obtain rfl := List.mem_singleton.1 hi
                refine wpOp_step rfl (fun Kc hKc => ?_)
                obtain ⟨A1, c1, e1, a1, b1⟩ := own_nil_len (hB52.row 0 rfl)
                simp only [Nat.zero_add] at e1 a1
                subst e1
                have o1 := hB52.row 0 rfl
                simp only [Nat.zero_add] at o1
                obtain ⟨u1, rfl⟩ := own_some o1 (by first | exact HN.out.2 | (rw [HLB.out]; exact HN.out.2))
                clear o1
                obtain ⟨A2, c2, e2, a2, b2⟩ := own_nil_len (hB52.row 1 rfl)
                simp only [Nat.zero_add] at e2 a2
                subst e2
                have o2 := hB52.row 1 rfl
                simp only [Nat.zero_add] at o2
                obtain ⟨u2, rfl⟩ := own_some o2 (by first | exact HN.out.2 | (rw [HLB.out]; exact HN.out.2))
                clear o2
                go_simp
                have hB53 := hB52.new (g := wa122.heap.size) rfl (.cells #[.slice (some ⟨u1, 0, none⟩) (gr bs 0).length c1, .slice (some ⟨u2, 0, none⟩) (gr bs 1).length c2] 40)
                refine hKc _ _ ⟨(hB53.keep (List.Sublist.cons _ (List.Sublist.cons _ (List.Sublist.cons_cons _ (List.nil_sublist _))))), ?_⟩
                clear hKc Kc hB52
                generalize wa122.heap.size = gL at *
                generalize wa122.alloc _ = wb123 at *
                refine wpAnyT_go (Bx.grows _ _) (hB53.keep (List.Sublist.cons _ (List.Sublist.cons _ (List.Sublist.cons_cons _ (List.nil_sublist _))))) [13] 1 (by kernel_rfl) ?_
                apply Exists.intro
                refine ⟨fun G hG hN => ?_, ?_⟩
                · have c_G := fun (e : GE (Bx w [(w.heap.size, gB (some ad) c bs)]) G) j => cell_of_row e.w _ j _ _ _ ((GE.h e).get 0 rfl)
                  have z_G := fun (e : GE (Bx w [(w.heap.size, gB (some ad) c bs)]) G) => (GE.h e).lt 0 rfl
                  have t_r0 := fun (e : GE (Bx w [(w.heap.size, gB (some ad) c bs)]) G) => (HVL.out _ (GE.h e).below).two.r0
                  have t_r1 := fun (e : GE (Bx w [(w.heap.size, gB (some ad) c bs)]) G) => (HVL.out _ (GE.h e).below).two.r1
                  have t_b := fun (e : GE (Bx w [(w.heap.size, gB (some ad) c bs)]) G) => (HVL.out _ (GE.h e).below).two.bl
                  simp only [pickOps, List.getElem?_toArray, List.getElem?_cons_zero, List.getElem?_cons_succ]
                  repeat (first | go_big_quiet_step (fail) | quiet_step (fail))
                  exact wpQuiet_nil rfl
                refine wpAnyT_all (rs := [15]) (by kernel_rfl) (by simp) (fun wa124 hwa124 hRwa124 i hi => ?_)
                have hB54 := hB53.next hwa124
                clear hB53 hwa124 hRwa124
                obtain rfl := List.mem_singleton.1 hi
                refine wpOp_step rfl (fun Kc hKc => ?_)
                have c_W := fun j => cell_of_row _ _ j _ _ _ (hB54.get 1 rfl)
                have z_W := hB54.lt 1 rfl
                have f_W := fun j => frozen_of_row _ _ j _ _ (hB54.get 1 rfl)
                go_simp
                have hB55 := hB54.set 1 rfl 0 (.slice (some ⟨gL, 0, none⟩) 2 2)
                refine hKc _ _ ⟨(hB55.keep (List.Sublist.cons _ (List.Sublist.cons _ (List.Sublist.cons_cons _ (List.nil_sublist _))))), ?_⟩
                clear c_W z_W f_W hKc Kc hB54
                generalize wa124.setCell _ _ = wb125 at *
                refine wpAnyT_done (by kernel_rfl) (fun wd126 hwd126 hRwd126 => ?_) _
                refine NoPanic.normal ?_
                have hB56 := hB55.next hwd126
                clear hB55 hwd126 hRwd126
                have HZ := hB56.perm (List.Perm.swap _ _ _) (List.Perm.refl _)
                simp only [Nat.zero_add, List.nil_append] at HZ
                rw [HLB.out] at HZ
                have HZ := Lib.hid HZ
                have HCC := Lib.hid (And.intro a1 (And.intro b1 (And.intro (show (gr bs 0).length ≤ c2 by have := HLB.out; omega) b2)))
                clear hB56 a1 b1 a2 b2
                go_wp2_with fail
                go_meet
                exact ⟨gW, gL, u1, u2, c1, c2, rfl, HCC.out.1, HCC.out.2.1, HCC.out.2.2.1, HCC.out.2.2.2, HZ.out⟩
            · obtain rfl := List.mem_singleton.1 hi
              refine wpOp_step rfl (fun Kc hKc => ?_)
              go_simp
              have hB47 := hB46.new (g := wa102.heap.size) rfl (.cells #[.slice none 0 0] 24)
              refine hKc _ _ ⟨(hB47.keep (List.Sublist.cons _ (List.Sublist.cons_cons _ (List.nil_sublist _)))), ?_⟩
              clear hKc Kc hB46
              generalize wa102.heap.size = gW at *
              generalize wa102.alloc _ = wb127 at *
              refine wpAnyT_all (rs := [5]) (by kernel_rfl) (by simp) (fun wa128 hwa128 hRwa128 i hi => ?_)
              have hB48 := hB47.next hwa128
              clear hB47 hwa128 hRwa128
              obtain rfl := List.mem_singleton.1 hi
              refine wpOp_step rfl (fun Kc hKc => ?_)
              refine step_append_any _ rfl (.tmp 51) (.tmp 55) 40 rfl w.heap.size 3 i0 (.int .i64 0) 1 8 Try.underlying40 hi0 hz0 hz1 hz2 rfl (by omega) (.slice (some ⟨g1, 0, none⟩) 0 0) 0 [] rfl (hB48.row 0 rfl) _ (some xa) (gr bs 0).length c0 (intsV (gr bs 0)) rfl (HVL.out _ hB48.below).two.i0.reads (one_cells _) (by have := HN.out; unfold maxLen; omega) (by have := HN.out; omega) hB48.below.size ?_
              intro v1 wb129 hown hgr hat
              have hB49 := hB48.grow 0 rfl hgr hown hat
              refine hKc _ _ ⟨(hB49.keep (List.Sublist.cons _ (List.Sublist.cons_cons _ (List.nil_sublist _)))), ?_⟩
              clear hKc Kc hB48 hown hgr hat
              refine wpAnyT_all (rs := [11]) (by kernel_rfl) (by simp) (fun wa130 hwa130 hRwa130 i hi => ?_)
              have hB50 := hB49.next hwa130
              clear hB49 hwa130 hRwa130
              obtain rfl := List.mem_singleton.1 hi
              refine wpOp_step rfl (fun Kc hKc => ?_)
              refine step_append_any _ rfl (.tmp 57) (.tmp 61) 40 rfl w.heap.size 3 i0 (.int .i64 0) 1 8 Try.underlying40 hi0 hz0 hz1 hz2 rfl (by omega) (.slice (some ⟨g2, 0, none⟩) 0 0) 0 [] rfl (hB50.row 1 rfl) _ (some ya) (gr bs 1).length c1 (intsV (gr bs 1)) rfl (HVL.out _ hB50.below).two.i1.reads (one_cells _) (by have := HN.out; have := HLB.out; unfold maxLen; omega) (by have := HN.out; have := HLB.out; omega) hB50.below.size ?_
              intro v2 wb131 hown hgr hat
              have hB51 := hB50.grow 1 rfl hgr hown hat
              refine hKc _ _ ⟨(hB51.keep (List.Sublist.cons _ (List.Sublist.cons_cons _ (List.nil_sublist _)))), ?_⟩
              clear hKc Kc hB50 hown hgr hat
              refine wpAnyT_all (rs := [12]) (by kernel_rfl) (by simp) (fun wa132 hwa132 hRwa132 i hi => ?_)
              have hB52 := hB51.next hwa132
              clear hB51 hwa132 hRwa132
              obtain rfl := List.mem_singleton.1 hi
              refine wpOp_step rfl (fun Kc hKc => ?_)
              obtain ⟨A1, c1, e1, a1, b1⟩ := own_nil_len (hB52.row 0 rfl)
              simp only [Nat.zero_add] at e1 a1
              subst e1
              have o1 := hB52.row 0 rfl
              simp only [Nat.zero_add] at o1
              obtain ⟨u1, rfl⟩ := own_some o1 (by first | exact HN.out.2 | (rw [HLB.out]; exact HN.out.2))
              clear o1
              obtain ⟨A2, c2, e2, a2, b2⟩ := own_nil_len (hB52.row 1 rfl)
              simp only [Nat.zero_add] at e2 a2
              subst e2
              have o2 := hB52.row 1 rfl
              simp only [Nat.zero_add] at o2
              obtain ⟨u2, rfl⟩ := own_some o2 (by first | exact HN.out.2 | (rw [HLB.out]; exact HN.out.2))
              clear o2
              go_simp
              have hB53 := hB52.new (g := wa132.heap.size) rfl (.cells #[.slice (some ⟨u1, 0, none⟩) (gr bs 0).length c1, .slice (some ⟨u2, 0, none⟩) (gr bs 1).length c2] 40)
              refine hKc _ _ ⟨(hB53.keep (List.Sublist.cons _ (List.Sublist.cons _ (List.Sublist.cons_cons _ (List.nil_sublist _))))), ?_⟩
              clear hKc Kc hB52
              generalize wa132.heap.size = gL at *
              generalize wa132.alloc _ = wb133 at *
              refine wpAnyT_go (Bx.grows _ _) (hB53.keep (List.Sublist.cons _ (List.Sublist.cons _ (List.Sublist.cons_cons _ (List.nil_sublist _))))) [13] 1 (by kernel_rfl) ?_
              apply Exists.intro
              refine ⟨fun G hG hN => ?_, ?_⟩
              · have c_G := fun (e : GE (Bx w [(w.heap.size, gB (some ad) c bs)]) G) j => cell_of_row e.w _ j _ _ _ ((GE.h e).get 0 rfl)
                have z_G := fun (e : GE (Bx w [(w.heap.size, gB (some ad) c bs)]) G) => (GE.h e).lt 0 rfl
                have t_r0 := fun (e : GE (Bx w [(w.heap.size, gB (some ad) c bs)]) G) => (HVL.out _ (GE.h e).below).two.r0
                have t_r1 := fun (e : GE (Bx w [(w.heap.size, gB (some ad) c bs)]) G) => (HVL.out _ (GE.h e).below).two.r1
                have t_b := fun (e : GE (Bx w [(w.heap.size, gB (some ad) c bs)]) G) => (HVL.out _ (GE.h e).below).two.bl
                simp only [pickOps, List.getElem?_toArray, List.getElem?_cons_zero, List.getElem?_cons_succ]
                repeat (first | go_big_quiet_step (fail) | quiet_step (fail))
                exact wpQuiet_nil rfl
              refine wpAnyT_all (rs := [15]) (by kernel_rfl) (by simp) (fun wa134 hwa134 hRwa134 i hi => ?_)
              have hB54 := hB53.next hwa134
              clear hB53 hwa134 hRwa134
              obtain rfl := List.mem_singleton.1 hi
              refine wpOp_step rfl (fun Kc hKc => ?_)
              have c_W := fun j => cell_of_row _ _ j _ _ _ (hB54.get 1 rfl)
              have z_W := hB54.lt 1 rfl
              have f_W := fun j => frozen_of_row _ _ j _ _ (hB54.get 1 rfl)
              go_simp
              have hB55 := hB54.set 1 rfl 0 (.slice (some ⟨gL, 0, none⟩) 2 2)
              refine hKc _ _ ⟨(hB55.keep (List.Sublist.cons _ (List.Sublist.cons _ (List.Sublist.cons_cons _ (List.nil_sublist _))))), ?_⟩
              clear c_W z_W f_W hKc Kc hB54
              generalize wa134.setCell _ _ = wb135 at *
              refine wpAnyT_done (by kernel_rfl) (fun wd136 hwd136 hRwd136 => ?_) _
              refine NoPanic.normal ?_
              have hB56 := hB55.next hwd136
              clear hB55 hwd136 hRwd136
              have HZ := hB56.perm (List.Perm.swap _ _ _) (List.Perm.refl _)
              simp only [Nat.zero_add, List.nil_append] at HZ
              rw [HLB.out] at HZ
              have HZ := Lib.hid HZ
              have HCC := Lib.hid (And.intro a1 (And.intro b1 (And.intro (show (gr bs 0).length ≤ c2 by have := HLB.out; omega) b2)))
              clear hB56 a1 b1 a2 b2
              go_wp2_with fail
              go_meet
              exact ⟨gW, gL, u1, u2, c1, c2, rfl, HCC.out.1, HCC.out.2.1, HCC.out.2.2.1, HCC.out.2.2.2, HZ.out⟩
          · obtain rfl := List.mem_singleton.1 hi
            refine wpOp_step rfl (fun Kc hKc => ?_)
            go_simp
            have hB45 := hB44.new (g := wa100.heap.size) rfl (.cells #[.slice none 0 0] 24)
            refine hKc _ _ ⟨(hB45.keep (List.Sublist.cons _ (List.Sublist.cons_cons _ (List.nil_sublist _)))), ?_⟩
            clear hKc Kc hB44
            generalize wa100.heap.size = gW at *
            generalize wa100.alloc _ = wb137 at *
            refine wpAnyT_all (rs := [0]) (by kernel_rfl) (by simp) (fun wa138 hwa138 hRwa138 i hi => ?_)
            have hB46 := hB45.next hwa138
            clear hB45 hwa138 hRwa138
            obtain rfl := List.mem_singleton.1 hi
            refine wpOp_step rfl (fun Kc hKc => ?_)
            go_simp
            have hB47 := hB46.addR (one_alloc wa138 (.cells #[] 3)) ⟨.slice (some ⟨wa138.heap.size, 0, none⟩) 0 0, 3, 1, 0, []⟩ (World.ownsRow_lit wa138 #[] 0 (Nat.le_refl _) (by unfold maxLen; omega) rfl)
            refine hKc _ _ ⟨(hB47.keep (List.Sublist.cons _ (List.Sublist.cons_cons _ (List.nil_sublist _)))), ?_⟩
            clear hKc Kc hB46
            generalize wa138.heap.size = g1 at *
            generalize wa138.alloc _ = wb139 at *
            refine wpAnyT_all (rs := [5]) (by kernel_rfl) (by simp) (fun wa140 hwa140 hRwa140 i hi => ?_)
            have hB48 := hB47.next hwa140
            clear hB47 hwa140 hRwa140
            obtain rfl := List.mem_singleton.1 hi
            refine wpOp_step rfl (fun Kc hKc => ?_)
            refine step_append_any _ rfl (.tmp 51) (.tmp 55) 40 rfl w.heap.size 3 i0 (.int .i64 0) 1 8 Try.underlying40 hi0 hz0 hz1 hz2 rfl (by omega) (.slice (some ⟨g1, 0, none⟩) 0 0) 0 [] rfl (hB48.row 0 rfl) _ (some xa) (gr bs 0).length c0 (intsV (gr bs 0)) rfl (HVL.out _ hB48.below).two.i0.reads (one_cells _) (by have := HN.out; unfold maxLen; omega) (by have := HN.out; omega) hB48.below.size ?_
            intro v1 wb141 hown hgr hat
            have hB49 := hB48.grow 0 rfl hgr hown hat
            refine hKc _ _ ⟨(hB49.keep (List.Sublist.cons _ (List.Sublist.cons_cons _ (List.nil_sublist _)))), ?_⟩
            clear hKc Kc hB48 hown hgr hat
            refine wpAnyT_all (rs := [11]) (by kernel_rfl) (by simp) (fun wa142 hwa142 hRwa142 i hi => ?_)
            have hB50 := hB49.next hwa142
            clear hB49 hwa142 hRwa142
            obtain rfl := List.mem_singleton.1 hi
            refine wpOp_step rfl (fun Kc hKc => ?_)
            refine step_append_any _ rfl (.tmp 57) (.tmp 61) 40 rfl w.heap.size 3 i0 (.int .i64 0) 1 8 Try.underlying40 hi0 hz0 hz1 hz2 rfl (by omega) (.slice (some ⟨g2, 0, none⟩) 0 0) 0 [] rfl (hB50.row 1 rfl) _ (some ya) (gr bs 1).length c1 (intsV (gr bs 1)) rfl (HVL.out _ hB50.below).two.i1.reads (one_cells _) (by have := HN.out; have := HLB.out; unfold maxLen; omega) (by have := HN.out; have := HLB.out; omega) hB50.below.size ?_
            intro v2 wb143 hown hgr hat
            have hB51 := hB50.grow 1 rfl hgr hown hat
            refine hKc _ _ ⟨(hB51.keep (List.Sublist.cons _ (List.Sublist.cons_cons _ (List.nil_sublist _)))), ?_⟩
            clear hKc Kc hB50 hown hgr hat
            refine wpAnyT_all (rs := [12]) (by kernel_rfl) (by simp) (fun wa144 hwa144 hRwa144 i hi => ?_)
            have hB52 := hB51.next hwa144
            clear hB51 hwa144 hRwa144
            obtain rfl := List.mem_singleton.1 hi
            refine wpOp_step rfl (fun Kc hKc => ?_)
            obtain ⟨A1, c1, e1, a1, b1⟩ := own_nil_len (hB52.row 0 rfl)
            simp only [Nat.zero_add] at e1 a1
            subst e1
            have o1 := hB52.row 0 rfl
            simp only [Nat.zero_add] at o1
            obtain ⟨u1, rfl⟩ := own_some o1 (by first | exact HN.out.2 | (rw [HLB.out]; exact HN.out.2))
            clear o1
            obtain ⟨A2, c2, e2, a2, b2⟩ := own_nil_len (hB52.row 1 rfl)
            simp only [Nat.zero_add] at e2 a2
            subst e2
            have o2 := hB52.row 1 rfl
            simp only [Nat.zero_add] at o2
            obtain ⟨u2, rfl⟩ := own_some o2 (by first | exact HN.out.2 | (rw [HLB.out]; exact HN.out.2))
            clear o2
            go_simp
            have hB53 := hB52.new (g := wa144.heap.size) rfl (.cells #[.slice (some ⟨u1, 0, none⟩) (gr bs 0).length c1, .slice (some ⟨u2, 0, none⟩) (gr bs 1).length c2] 40)
            refine hKc _ _ ⟨(hB53.keep (List.Sublist.cons _ (List.Sublist.cons _ (List.Sublist.cons_cons _ (List.nil_sublist _))))), ?_⟩
            clear hKc Kc hB52
            generalize wa144.heap.size = gL at *
            generalize wa144.alloc _ = wb145 at *
            refine wpAnyT_go (Bx.grows _ _) (hB53.keep (List.Sublist.cons _ (List.Sublist.cons _ (List.Sublist.cons_cons _ (List.nil_sublist _))))) [13] 1 (by kernel_rfl) ?_
            apply Exists.intro
            refine ⟨fun G hG hN => ?_, ?_⟩
            · have c_G := fun (e : GE (Bx w [(w.heap.size, gB (some ad) c bs)]) G) j => cell_of_row e.w _ j _ _ _ ((GE.h e).get 0 rfl)
              have z_G := fun (e : GE (Bx w [(w.heap.size, gB (some ad) c bs)]) G) => (GE.h e).lt 0 rfl
              have t_r0 := fun (e : GE (Bx w [(w.heap.size, gB (some ad) c bs)]) G) => (HVL.out _ (GE.h e).below).two.r0
              have t_r1 := fun (e : GE (Bx w [(w.heap.size, gB (some ad) c bs)]) G) => (HVL.out _ (GE.h e).below).two.r1
              have t_b := fun (e : GE (Bx w [(w.heap.size, gB (some ad) c bs)]) G) => (HVL.out _ (GE.h e).below).two.bl
              simp only [pickOps, List.getElem?_toArray, List.getElem?_cons_zero, List.getElem?_cons_succ]
              repeat (first | go_big_quiet_step (fail) | quiet_step (fail))
              exact wpQuiet_nil rfl
            refine wpAnyT_all (rs := [15]) (by kernel_rfl) (by simp) (fun wa146 hwa146 hRwa146 i hi => ?_)
            have hB54 := hB53.next hwa146
            clear hB53 hwa146 hRwa146
            obtain rfl := List.mem_singleton.1 hi
            refine wpOp_step rfl (fun Kc hKc => ?_)
            have c_W := fun j => cell_of_row _ _ j _ _ _ (hB54.get 1 rfl)
            have z_W := hB54.lt 1 rfl
            have f_W := fun j => frozen_of_row _ _ j _ _ (hB54.get 1 rfl)
            go_simp
            have hB55 := hB54.set 1 rfl 0 (.slice (some ⟨gL, 0, none⟩) 2 2)
            refine hKc _ _ ⟨(hB55.keep (List.Sublist.cons _ (List.Sublist.cons _ (List.Sublist.cons_cons _ (List.nil_sublist _))))), ?_⟩
            clear c_W z_W f_W hKc Kc hB54
            generalize wa146.setCell _ _ = wb147 at *
            refine wpAnyT_done (by kernel_rfl) (fun wd148 hwd148 hRwd148 => ?_) _
            refine NoPanic.normal ?_
            have hB56 := hB55.next hwd148
            clear hB55 hwd148 hRwd148
            have HZ := hB56.perm (List.Perm.swap _ _ _) (List.Perm.refl _)
            simp only [Nat.zero_add, List.nil_append] at HZ
            rw [HLB.out] at HZ
            have HZ := Lib.hid HZ
            have HCC := Lib.hid (And.intro a1 (And.intro b1 (And.intro (show (gr bs 0).length ≤ c2 by have := HLB.out; omega) b2)))
            clear hB56 a1 b1 a2 b2
            go_wp2_with fail
            go_meet
            exact ⟨gW, gL, u1, u2, c1, c2, rfl, HCC.out.1, HCC.out.2.1, HCC.out.2.2.1, HCC.out.2.2.2, HZ.out⟩
        · obtain rfl := List.mem_singleton.1 hi
          refine wpOp_step rfl (fun Kc hKc => ?_)
          go_simp
          have hB43 := hB42.new (g := wa2.heap.size) rfl (.cells #[.slice none 0 0] 24)
          refine hKc _ _ ⟨(hB43.keep (List.Sublist.cons _ (List.Sublist.cons_cons _ (List.nil_sublist _)))), ?_⟩
          clear hKc Kc hB42
          generalize wa2.heap.size = gW at *
          generalize wa2.alloc _ = wb149 at *
          refine wpAnyT_all (rs := [0, 6]) (by kernel_rfl) (by simp) (fun wa150 hwa150 hRwa150 i hi => ?_)
          have hB44 := hB43.next hwa150
          clear hB43 hwa150 hRwa150
          rcases List.mem_cons.1 hi with rfl | hi
          · refine wpOp_step rfl (fun Kc hKc => ?_)
            go_simp
            have hB45 := hB44.addR (one_alloc wa150 (.cells #[] 3)) ⟨.slice (some ⟨wa150.heap.size, 0, none⟩) 0 0, 3, 1, 0, []⟩ (World.ownsRow_lit wa150 #[] 0 (Nat.le_refl _) (by unfold maxLen; omega) rfl)
            refine hKc _ _ ⟨(hB45.keep (List.Sublist.cons _ (List.Sublist.cons_cons _ (List.nil_sublist _)))), ?_⟩
            clear hKc Kc hB44
            generalize wa150.heap.size = g1 at *
            generalize wa150.alloc _ = wb151 at *
            refine wpAnyT_all (rs := [5, 6]) (by kernel_rfl) (by simp) (fun wa152 hwa152 hRwa152 i hi => ?_)
            have hB46 := hB45.next hwa152
            clear hB45 hwa152 hRwa152
            rcases List.mem_cons.1 hi with rfl | hi
            · refine wpOp_step rfl (fun Kc hKc => ?_)
              refine step_append_any _ rfl (.tmp 51) (.tmp 55) 40 rfl w.heap.size 3 i0 (.int .i64 0) 1 8 Try.underlying40 hi0 hz0 hz1 hz2 rfl (by omega) (.slice (some ⟨g1, 0, none⟩) 0 0) 0 [] rfl (hB46.row 0 rfl) _ (some xa) (gr bs 0).length c0 (intsV (gr bs 0)) rfl (HVL.out _ hB46.below).two.i0.reads (one_cells _) (by have := HN.out; unfold maxLen; omega) (by have := HN.out; omega) hB46.below.size ?_
              intro v1 wb153 hown hgr hat
              have hB47 := hB46.grow 0 rfl hgr hown hat
              refine hKc _ _ ⟨(hB47.keep (List.Sublist.cons _ (List.Sublist.cons_cons _ (List.nil_sublist _)))), ?_⟩
              clear hKc Kc hB46 hown hgr hat
              refine wpAnyT_all (rs := [6]) (by kernel_rfl) (by simp) (fun wa154 hwa154 hRwa154 i hi => ?_)
              have hB48 := hB47.next hwa154
              clear hB47 hwa154 hRwa154
              obtain rfl := List.mem_singleton.1 hi
              refine wpOp_step rfl (fun Kc hKc => ?_)
              go_simp
              have hB49 := hB48.addR (one_alloc wa154 (.cells #[] 3)) ⟨.slice (some ⟨wa154.heap.size, 0, none⟩) 0 0, 3, 1, 0, []⟩ (World.ownsRow_lit wa154 #[] 0 (Nat.le_refl _) (by unfold maxLen; omega) rfl)
              refine hKc _ _ ⟨(hB49.keep (List.Sublist.cons _ (List.Sublist.cons_cons _ (List.nil_sublist _)))), ?_⟩
              clear hKc Kc hB48
              generalize wa154.heap.size = g2 at *
              generalize wa154.alloc _ = wb155 at *
              refine wpAnyT_all (rs := [11]) (by kernel_rfl) (by simp) (fun wa156 hwa156 hRwa156 i hi => ?_)
              have hB50 := hB49.next hwa156
              clear hB49 hwa156 hRwa156
              obtain rfl := List.mem_singleton.1 hi
              refine wpOp_step rfl (fun Kc hKc => ?_)
              refine step_append_any _ rfl (.tmp 57) (.tmp 61) 40 rfl w.heap.size 3 i0 (.int .i64 0) 1 8 Try.underlying40 hi0 hz0 hz1 hz2 rfl (by omega) (.slice (some ⟨g2, 0, none⟩) 0 0) 0 [] rfl (hB50.row 0 rfl) _ (some ya) (gr bs 1).length c1 (intsV (gr bs 1)) rfl (HVL.out _ hB50.below).two.i1.reads (one_cells _) (by have := HN.out; have := HLB.out; unfold maxLen; omega) (by have := HN.out; have := HLB.out; omega) hB50.below.size ?_
              intro v2 wb157 hown hgr hat
              have hB51 := hB50.grow 0 rfl hgr hown hat
              refine hKc _ _ ⟨(hB51.keep (List.Sublist.cons _ (List.Sublist.cons_cons _ (List.nil_sublist _)))), ?_⟩
              clear hKc Kc hB50 hown hgr hat
              refine wpAnyT_all (rs := [12]) (by kernel_rfl) (by simp) (fun wa158 hwa158 hRwa158 i hi => ?_)
              have hB52 := hB51.next hwa158
              clear hB51 hwa158 hRwa158
              obtain rfl := List.mem_singleton.1 hi
              refine wpOp_step rfl (fun Kc hKc => ?_)
              obtain ⟨A1, c1, e1, a1, b1⟩ := own_nil_len (hB52.row 1 rfl)
              simp only [Nat.zero_add] at e1 a1
              subst e1
              have o1 := hB52.row 1 rfl
              simp only [Nat.zero_add] at o1
              obtain ⟨u1, rfl⟩ := own_some o1 (by first | exact HN.out.2 | (rw [HLB.out]; exact HN.out.2))
              clear o1
              obtain ⟨A2, c2, e2, a2, b2⟩ := own_nil_len (hB52.row 0 rfl)
              simp only [Nat.zero_add] at e2 a2
              subst e2
              have o2 := hB52.row 0 rfl
              simp only [Nat.zero_add] at o2
              obtain ⟨u2, rfl⟩ := own_some o2 (by first | exact HN.out.2 | (rw [HLB.out]; exact HN.out.2))
              clear o2
              go_simp
              have hB53 := hB52.new (g := wa158.heap.size) rfl (.cells #[.slice (some ⟨u1, 0, none⟩) (gr bs 0).length c1, .slice (some ⟨u2, 0, none⟩) (gr bs 1).length c2] 40)
              refine hKc _ _ ⟨(hB53.keep (List.Sublist.cons _ (List.Sublist.cons _ (List.Sublist.cons_cons _ (List.nil_sublist _))))), ?_⟩
              clear hKc Kc hB52
              generalize wa158.heap.size = gL at *
              generalize wa158.alloc _ = wb159 at *
              refine wpAnyT_go (Bx.grows _ _) (hB53.keep (List.Sublist.cons _ (List.Sublist.cons _ (List.Sublist.cons_cons _ (List.nil_sublist _))))) [13] 1 (by kernel_rfl) ?_
              apply Exists.intro
              refine ⟨fun G hG hN => ?_, ?_⟩
              · have c_G := fun (e : GE (Bx w [(w.heap.size, gB (some ad) c bs)]) G) j => cell_of_row e.w _ j _ _ _ ((GE.h e).get 0 rfl)
                have z_G := fun (e : GE (Bx w [(w.heap.size, gB (some ad) c bs)]) G) => (GE.h e).lt 0 rfl
                have t_r0 := fun (e : GE (Bx w [(w.heap.size, gB (some ad) c bs)]) G) => (HVL.out _ (GE.h e).below).two.r0
                have t_r1 := fun (e : GE (Bx w [(w.heap.size, gB (some ad) c bs)]) G) => (HVL.out _ (GE.h e).below).two.r1
                have t_b := fun (e : GE (Bx w [(w.heap.size, gB (some ad) c bs)]) G) => (HVL.out _ (GE.h e).below).two.bl
                simp only [pickOps, List.getElem?_toArray, List.getElem?_cons_zero, List.getElem?_cons_succ]
                repeat (first | go_big_quiet_step (fail) | quiet_step (fail))
                exact wpQuiet_nil rfl
              refine wpAnyT_all (rs := [15]) (by kernel_rfl) (by simp) (fun wa160 hwa160 hRwa160 i hi => ?_)
              have hB54 := hB53.next hwa160
              clear hB53 hwa160 hRwa160
              obtain rfl := List.mem_singleton.1 hi
              refine wpOp_step rfl (fun Kc hKc => ?_)
              have c_W := fun j => cell_of_row _ _ j _ _ _ (hB54.get 1 rfl)
              have z_W := hB54.lt 1 rfl
              have f_W := fun j => frozen_of_row _ _ j _ _ (hB54.get 1 rfl)
              go_simp
              have hB55 := hB54.set 1 rfl 0 (.slice (some ⟨gL, 0, none⟩) 2 2)
              refine hKc _ _ ⟨(hB55.keep (List.Sublist.cons _ (List.Sublist.cons _ (List.Sublist.cons_cons _ (List.nil_sublist _))))), ?_⟩
              clear c_W z_W f_W hKc Kc hB54
              generalize wa160.setCell _ _ = wb161 at *
              refine wpAnyT_done (by kernel_rfl) (fun wd162 hwd162 hRwd162 => ?_) _
              refine NoPanic.normal ?_
              have hB56 := hB55.next hwd162
              clear hB55 hwd162 hRwd162
              have HZ := hB56.perm (List.Perm.swap _ _ _) (List.Perm.swap _ _ _)
              simp only [Nat.zero_add, List.nil_append] at HZ
              rw [HLB.out] at HZ
              have HZ := Lib.hid HZ
              have HCC := Lib.hid (And.intro a1 (And.intro b1 (And.intro (show (gr bs 0).length ≤ c2 by have := HLB.out; omega) b2)))
              clear hB56 a1 b1 a2 b2
              go_wp2_with fail
              go_meet
              exact ⟨gW, gL, u1, u2, c1, c2, rfl, HCC.out.1, HCC.out.2.1, HCC.out.2.2.1, HCC.out.2.2.2, HZ.out⟩
            · obtain rfl := List.mem_singleton.1 hi
              refine wpOp_step rfl (fun Kc hKc => ?_)
              go_simp
              have hB47 := hB46.addR (one_alloc wa152 (.cells #[] 3)) ⟨.slice (some ⟨wa152.heap.size, 0, none⟩) 0 0, 3, 1, 0, []⟩ (World.ownsRow_lit wa152 #[] 0 (Nat.le_refl _) (by unfold maxLen; omega) rfl)
              refine hKc _ _ ⟨(hB47.keep (List.Sublist.cons _ (List.Sublist.cons_cons _ (List.nil_sublist _)))), ?_⟩
              clear hKc Kc hB46
              generalize wa152.heap.size = g2 at *
              generalize wa152.alloc _ = wb163 at *
              refine wpAnyT_all (rs := [5]) (by kernel_rfl) (by simp) (fun wa164 hwa164 hRwa164 i hi => ?_)
              have hB48 := hB47.next hwa164
              clear hB47 hwa164 hRwa164
              obtain rfl := List.mem_singleton.1 hi
              refine wpOp_step rfl (fun Kc hKc => ?_)
              refine step_append_any _ rfl (.tmp 51) (.tmp 55) 40 rfl w.heap.size 3 i0 (.int .i64 0) 1 8 Try.underlying40 hi0 hz0 hz1 hz2 rfl (by omega) (.slice (some ⟨g1, 0, none⟩) 0 0) 0 [] rfl (hB48.row 1 rfl) _ (some xa) (gr bs 0).length c0 (intsV (gr bs 0)) rfl (HVL.out _ hB48.below).two.i0.reads (one_cells _) (by have := HN.out; unfold maxLen; omega) (by have := HN.out; omega) hB48.below.size ?_
              intro v1 wb165 hown hgr hat
              have hB49 := hB48.grow 1 rfl hgr hown hat
              refine hKc _ _ ⟨(hB49.keep (List.Sublist.cons _ (List.Sublist.cons_cons _ (List.nil_sublist _)))), ?_⟩
              clear hKc Kc hB48 hown hgr hat
              refine wpAnyT_all (rs := [11]) (by kernel_rfl) (by simp) (fun wa166 hwa166 hRwa166 i hi => ?_)
              have hB50 := hB49.next hwa166
              clear hB49 hwa166 hRwa166
              obtain rfl := List.mem_singleton.1 hi
              refine wpOp_step rfl (fun Kc hKc => ?_)
              refine step_append_any _ rfl (.tmp 57) (.tmp 61) 40 rfl w.heap.size 3 i0 (.int .i64 0) 1 8 Try.underlying40 hi0 hz0 hz1 hz2 rfl (by omega) (.slice (some ⟨g2, 0, none⟩) 0 0) 0 [] rfl (hB50.row 0 rfl) _ (some ya) (gr bs 1).length c1 (intsV (gr bs 1)) rfl (HVL.out _ hB50.below).two.i1.reads (one_cells _) (by have := HN.out; have := HLB.out; unfold maxLen; omega) (by have := HN.out; have := HLB.out; omega) hB50.below.size ?_
              intro v2 wb167 hown hgr hat
              have hB51 := hB50.grow 0 rfl hgr hown hat
              refine hKc _ _ ⟨(hB51.keep (List.Sublist.cons _ (List.Sublist.cons_cons _ (List.nil_sublist _)))), ?_⟩
              clear hKc Kc hB50 hown hgr hat
              refine wpAnyT_all (rs := [12]) (by kernel_rfl) (by simp) (fun wa168 hwa168 hRwa168 i hi => ?_)
              have hB52 := hB51.next hwa168
              clear hB51 hwa168 hRwa168
              obtain rfl := List.mem_singleton.1 hi
              refine wpOp_step rfl (fun Kc hKc => ?_)
              obtain ⟨A1, c1, e1, a1, b1⟩ := own_nil_len (hB52.row 1 rfl)
              simp only [Nat.zero_add] at e1 a1
              subst e1
              have o1 := hB52.row 1 rfl
              simp only [Nat.zero_add] at o1
              obtain ⟨u1, rfl⟩ := own_some o1 (by first | exact HN.out.2 | (rw [HLB.out]; exact HN.out.2))
              clear o1
              obtain ⟨A2, c2, e2, a2, b2⟩ := own_nil_len (hB52.row 0 rfl)
              simp only [Nat.zero_add] at e2 a2
              subst e2
              have o2 := hB52.row 0 rfl
              simp only [Nat.zero_add] at o2
              obtain ⟨u2, rfl⟩ := own_some o2 (by first | exact HN.out.2 | (rw [HLB.out]; exact HN.out.2))
              clear o2
              go_simp
              have hB53 := hB52.new (g := wa168.heap.size) rfl (.cells #[.slice (some ⟨u1, 0, none⟩) (gr bs 0).length c1, .slice (some ⟨u2, 0, none⟩) (gr bs 1).length c2] 40)
              refine hKc _ _ ⟨(hB53.keep (List.Sublist.cons _ (List.Sublist.cons _ (List.Sublist.cons_cons _ (List.nil_sublist _))))), ?_⟩
              clear hKc Kc hB52
              generalize wa168.heap.size = gL at *
              generalize wa168.alloc _ = wb169 at *
              refine wpAnyT_go (Bx.grows _ _) (hB53.keep (List.Sublist.cons _ (List.Sublist.cons _ (List.Sublist.cons_cons _ (List.nil_sublist _))))) [13] 1 (by kernel_rfl) ?_
              apply Exists.intro
              refine ⟨fun G hG hN => ?_, ?_⟩
              · have c_G := fun (e : GE (Bx w [(w.heap.size, gB (some ad) c bs)]) G) j => cell_of_row e.w _ j _ _ _ ((GE.h e).get 0 rfl)
                have z_G := fun (e : GE (Bx w [(w.heap.size, gB (some ad) c bs)]) G) => (GE.h e).lt 0 rfl
                have t_r0 := fun (e : GE (Bx w [(w.heap.size, gB (some ad) c bs)]) G) => (HVL.out _ (GE.h e).below).two.r0
                have t_r1 := fun (e : GE (Bx w [(w.heap.size, gB (some ad) c bs)]) G) => (HVL.out _ (GE.h e).below).two.r1
                have t_b := fun (e : GE (Bx w [(w.heap.size, gB (some ad) c bs)]) G) => (HVL.out _ (GE.h e).below).two.bl
                simp only [pickOps, List.getElem?_toArray, List.getElem?_cons_zero, List.getElem?_cons_succ]
                repeat (first | go_big_quiet_step (fail) | quiet_step (fail))
                exact wpQuiet_nil rfl
              refine wpAnyT_all (rs := [15]) (by kernel_rfl) (by simp) (fun wa170 hwa170 hRwa170 i hi => ?_)
              have hB54 := hB53.next hwa170
              clear hB53 hwa170 hRwa170
              obtain rfl := List.mem_singleton.1 hi
              refine wpOp_step rfl (fun Kc hKc => ?_)
              have c_W := fun j => cell_of_row _ _ j _ _ _ (hB54.get 1 rfl)
              have z_W := hB54.lt 1 rfl
              have f_W := fun j => frozen_of_row _ _ j _ _ (hB54.get 1 rfl)
              go_simp
              have hB55 := hB54.set 1 rfl 0 (.slice (some ⟨gL, 0, none⟩) 2 2)
              refine hKc _ _ ⟨(hB55.keep (List.Sublist.cons _ (List.Sublist.cons _ (List.Sublist.cons_cons _ (List.nil_sublist _))))), ?_⟩
              clear c_W z_W f_W hKc Kc hB54
              generalize wa170.setCell _ _ = wb171 at *
              refine wpAnyT_done (by kernel_rfl) (fun wd172 hwd172 hRwd172 => ?_) _
              refine NoPanic.normal ?_
              have hB56 := hB55.next hwd172
              clear hB55 hwd172 hRwd172
              have HZ := hB56.perm (List.Perm.swap _ _ _) (List.Perm.swap _ _ _)
              simp only [Nat.zero_add, List.nil_append] at HZ
              rw [HLB.out] at HZ
              have HZ := Lib.hid HZ
              have HCC := Lib.hid (And.intro a1 (And.intro b1 (And.intro (show (gr bs 0).length ≤ c2 by have := HLB.out; omega) b2)))
              clear hB56 a1 b1 a2 b2
              go_wp2_with fail
              go_meet
              exact ⟨gW, gL, u1, u2, c1, c2, rfl, HCC.out.1, HCC.out.2.1, HCC.out.2.2.1, HCC.out.2.2.2, HZ.out⟩
          · obtain rfl := List.mem_singleton.1 hi
            refine wpOp_step rfl (fun Kc hKc => ?_)
            go_simp
            have hB45 := hB44.addR (one_alloc wa150 (.cells #[] 3)) ⟨.slice (some ⟨wa150.heap.size, 0, none⟩) 0 0, 3, 1, 0, []⟩ (World.ownsRow_lit wa150 #[] 0 (Nat.le_refl _) (by unfold maxLen; omega) rfl)
            refine hKc _ _ ⟨(hB45.keep (List.Sublist.cons _ (List.Sublist.cons_cons _ (List.nil_sublist _)))), ?_⟩
            clear hKc Kc hB44
            generalize wa150.heap.size = g2 at *
            generalize wa150.alloc _ = wb173 at *
            refine wpAnyT_all (rs := [0]) (by kernel_rfl) (by simp) (fun wa174 hwa174 hRwa174 i hi => ?_)
            have hB46 := hB45.next hwa174
            clear hB45 hwa174 hRwa174
            obtain rfl := List.mem_singleton.1 hi
            refine wpOp_step rfl (fun Kc hKc => ?_)
            go_simp
            have hB47 := hB46.addR (one_alloc wa174 (.cells #[] 3)) ⟨.slice (some ⟨wa174.heap.size, 0, none⟩) 0 0, 3, 1, 0, []⟩ (World.ownsRow_lit wa174 #[] 0 (Nat.le_refl _) (by unfold maxLen; omega) rfl)
            refine hKc _ _ ⟨(hB47.keep (List.Sublist.cons _ (List.Sublist.cons_cons _ (List.nil_sublist _)))), ?_⟩
            clear hKc Kc hB46
            generalize wa174.heap.size = g1 at *
            generalize wa174.alloc _ = wb175 at *
            refine wpAnyT_all (rs := [5]) (by kernel_rfl) (by simp) (fun wa176 hwa176 hRwa176 i hi => ?_)
            have hB48 := hB47.next hwa176
            clear hB47 hwa176 hRwa176
            obtain rfl := List.mem_singleton.1 hi
            refine wpOp_step rfl (fun Kc hKc => ?_)
            refine step_append_any _ rfl (.tmp 51) (.tmp 55) 40 rfl w.heap.size 3 i0 (.int .i64 0) 1 8 Try.underlying40 hi0 hz0 hz1 hz2 rfl (by omega) (.slice (some ⟨g1, 0, none⟩) 0 0) 0 [] rfl (hB48.row 0 rfl) _ (some xa) (gr bs 0).length c0 (intsV (gr bs 0)) rfl (HVL.out _ hB48.below).two.i0.reads (one_cells _) (by have := HN.out; unfold maxLen; omega) (by have := HN.out; omega) hB48.below.size ?_
            intro v1 wb177 hown hgr hat
            have hB49 := hB48.grow 0 rfl hgr hown hat
            refine hKc _ _ ⟨(hB49.keep (List.Sublist.cons _ (List.Sublist.cons_cons _ (List.nil_sublist _)))), ?_⟩
            clear hKc Kc hB48 hown hgr hat
            refine wpAnyT_all (rs := [11]) (by kernel_rfl) (by simp) (fun wa178 hwa178 hRwa178 i hi => ?_)
            have hB50 := hB49.next hwa178
            clear hB49 hwa178 hRwa178
            obtain rfl := List.mem_singleton.1 hi
            refine wpOp_step rfl (fun Kc hKc => ?_)
            refine step_append_any _ rfl (.tmp 57) (.tmp 61) 40 rfl w.heap.size 3 i0 (.int .i64 0) 1 8 Try.underlying40 hi0 hz0 hz1 hz2 rfl (by omega) (.slice (some ⟨g2, 0, none⟩) 0 0) 0 [] rfl (hB50.row 1 rfl) _ (some ya) (gr bs 1).length c1 (intsV (gr bs 1)) rfl (HVL.out _ hB50.below).two.i1.reads (one_cells _) (by have := HN.out; have := HLB.out; unfold maxLen; omega) (by have := HN.out; have := HLB.out; omega) hB50.below.size ?_
            intro v2 wb179 hown hgr hat
            have hB51 := hB50.grow 1 rfl hgr hown hat
            refine hKc _ _ ⟨(hB51.keep (List.Sublist.cons _ (List.Sublist.cons_cons _ (List.nil_sublist _)))), ?_⟩
            clear hKc Kc hB50 hown hgr hat
            refine wpAnyT_all (rs := [12]) (by kernel_rfl) (by simp) (fun wa180 hwa180 hRwa180 i hi => ?_)
            have hB52 := hB51.next hwa180
            clear hB51 hwa180 hRwa180
            obtain rfl := List.mem_singleton.1 hi
            refine wpOp_step rfl (fun Kc hKc => ?_)
            obtain ⟨A1, c1, e1, a1, b1⟩ := own_nil_len (hB52.row 0 rfl)
            simp only [Nat.zero_add] at e1 a1
            subst e1
            have o1 := hB52.row 0 rfl
            simp only [Nat.zero_add] at o1
            obtain ⟨u1, rfl⟩ := own_some o1 (by first | exact HN.out.2 | (rw [HLB.out]; exact HN.out.2))
            clear o1
            obtain ⟨A2, c2, e2, a2, b2⟩ := own_nil_len (hB52.row 1 rfl)
            simp only [Nat.zero_add] at e2 a2
            subst e2
            have o2 := hB52.row 1 rfl
            simp only [Nat.zero_add] at o2
            obtain ⟨u2, rfl⟩ := own_some o2 (by first | exact HN.out.2 | (rw [HLB.out]; exact HN.out.2))
            clear o2
            go_simp
            have hB53 := hB52.new (g := wa180.heap.size) rfl (.cells #[.slice (some ⟨u1, 0, none⟩) (gr bs 0).length c1, .slice (some ⟨u2, 0, none⟩) (gr bs 1).length c2] 40)
            refine hKc _ _ ⟨(hB53.keep (List.Sublist.cons _ (List.Sublist.cons _ (List.Sublist.cons_cons _ (List.nil_sublist _))))), ?_⟩
            clear hKc Kc hB52
            generalize wa180.heap.size = gL at *
            generalize wa180.alloc _ = wb181 at *
            refine wpAnyT_go (Bx.grows _ _) (hB53.keep (List.Sublist.cons _ (List.Sublist.cons _ (List.Sublist.cons_cons _ (List.nil_sublist _))))) [13] 1 (by kernel_rfl) ?_
            apply Exists.intro
            refine ⟨fun G hG hN => ?_, ?_⟩
            · have c_G := fun (e : GE (Bx w [(w.heap.size, gB (some ad) c bs)]) G) j => cell_of_row e.w _ j _ _ _ ((GE.h e).get 0 rfl)
              have z_G := fun (e : GE (Bx w [(w.heap.size, gB (some ad) c bs)]) G) => (GE.h e).lt 0 rfl
              have t_r0 := fun (e : GE (Bx w [(w.heap.size, gB (some ad) c bs)]) G) => (HVL.out _ (GE.h e).below).two.r0
              have t_r1 := fun (e : GE (Bx w [(w.heap.size, gB (some ad) c bs)]) G) => (HVL.out _ (GE.h e).below).two.r1
              have t_b := fun (e : GE (Bx w [(w.heap.size, gB (some ad) c bs)]) G) => (HVL.out _ (GE.h e).below).two.bl
              simp only [pickOps, List.getElem?_toArray, List.getElem?_cons_zero, List.getElem?_cons_succ]
              repeat (first | go_big_quiet_step (fail) | quiet_step (fail))
              exact wpQuiet_nil rfl
            refine wpAnyT_all (rs := [15]) (by kernel_rfl) (by simp) (fun wa182 hwa182 hRwa182 i hi => ?_)
            have hB54 := hB53.next hwa182
            clear hB53 hwa182 hRwa182
            obtain rfl := List.mem_singleton.1 hi
            refine wpOp_step rfl (fun Kc hKc => ?_)
            have c_W := fun j => cell_of_row _ _ j _ _ _ (hB54.get 1 rfl)
            have z_W := hB54.lt 1 rfl
            have f_W := fun j => frozen_of_row _ _ j _ _ (hB54.get 1 rfl)
            go_simp
            have hB55 := hB54.set 1 rfl 0 (.slice (some ⟨gL, 0, none⟩) 2 2)
            refine hKc _ _ ⟨(hB55.keep (List.Sublist.cons _ (List.Sublist.cons _ (List.Sublist.cons_cons _ (List.nil_sublist _))))), ?_⟩
            clear c_W z_W f_W hKc Kc hB54
            generalize wa182.setCell _ _ = wb183 at *
            refine wpAnyT_done (by kernel_rfl) (fun wd184 hwd184 hRwd184 => ?_) _
            refine NoPanic.normal ?_
            have hB56 := hB55.next hwd184
            clear hB55 hwd184 hRwd184
            have HZ := hB56.perm (List.Perm.swap _ _ _) (List.Perm.refl _)
            simp only [Nat.zero_add, List.nil_append] at HZ
            rw [HLB.out] at HZ
            have HZ := Lib.hid HZ
            have HCC := Lib.hid (And.intro a1 (And.intro b1 (And.intro (show (gr bs 0).length ≤ c2 by have := HLB.out; omega) b2)))
            clear hB56 a1 b1 a2 b2
            go_wp2_with fail
            go_meet
            exact ⟨gW, gL, u1, u2, c1, c2, rfl, HCC.out.1, HCC.out.2.1, HCC.out.2.2.1, HCC.out.2.2.2, HZ.out⟩
  case rest =>
    obtain ⟨gW, gL, u, v, cu, cv, rfl, u0, u1, v0, v1, hM5⟩ := hcut
    have HCV := Lib.hid (And.intro u0 (And.intro u1 (And.intro v0 v1)))
    have HM5 := Lib.hid hM5
    clear u0 u1 v0 v1 hM5
    obtain ⟨nn, hnn⟩ : ∃ x : Nat, x = (gr bs 0).length := ⟨_, rfl⟩
    have HNN := Lib.hid hnn
    clear hnn
    go_wp2_with fail
    go_loopw [9] (fun s wr => ∃ (k : Nat) (l m : List Int), k ≤ (gr bs 0).length ∧ s = .int .i64 k ∧ l.length = (gr bs 0).length ∧ m.length = (gr bs 0).length ∧ (∀ j, j < (gr bs 0).length → gi l j = if ni = 0 ∧ j < k then gi (gr bs 0) j * t else gi (gr bs 0) j) ∧ (∀ j, j < (gr bs 0).length → gi m j = if ni = 1 ∧ j < k then gi (gr bs 1) j * t else gi (gr bs 1) j) ∧ Mx w [(gW, .cells #[.slice (some ⟨gL, 0, none⟩) 2 2] 24), (gL, .cells #[.slice (some ⟨u, 0, none⟩) (gr bs 0).length cu, .slice (some ⟨v, 0, none⟩) (gr bs 0).length cv] 40), (w.heap.size, gB (some ad) c bs)] [⟨.slice (some ⟨u, 0, none⟩) (gr bs 0).length cu, 3, 1, (gr bs 0).length, intsV l⟩, ⟨.slice (some ⟨v, 0, none⟩) (gr bs 0).length cv, 3, 1, (gr bs 0).length, intsV m⟩] wr) (fun s _ => (gr bs 0).length - (intOf s).toNat)
    case atStart => exact ⟨0, _, _, Nat.zero_le _, rfl, rfl, HLB.out, fun j hj => by rw [if_neg (by omega)], fun j hj => by rw [if_neg (by omega)], HM5.out⟩
    case round =>
      as_aux_lemma =>
        obtain ⟨k, l, m, hk, rfl, hl, hm, hlv, hmv, hMr⟩ := hrel
        clear HM5
        by_cases hlt : k < (gr bs 0).length
        rotate_left
        · obtain rfl : k = (gr bs 0).length := by omega
          have HSC := Lib.hid (show [l, m] = sclB bs ni t by
            unfold sclB
            split
            · rename_i e
              have e : ni = 0 := by omega
              rw [list_of_gi (l := l) (m := (gr bs 0).map (· * t)) (by simpa using hl) (fun j hj => by rw [hlv j (by simpa using hj), if_pos ⟨e, by simpa using hj⟩, gi_scl]), list_of_gi (l := m) (m := gr bs 1) (by rw [hm, HLB.out]) (fun j hj => by rw [hmv j (by rw [← HLB.out]; exact hj), if_neg (by omega)])]
            · rename_i e
              have e : ni = 1 := by have := HI.out; omega
              rw [list_of_gi (l := l) (m := gr bs 0) hl (fun j hj => by rw [hlv j hj, if_neg (by omega)]), list_of_gi (l := m) (m := (gr bs 1).map (· * t)) (by simp [hm, HLB.out]) (fun j hj => by rw [hmv j (by rw [← HLB.out]; simpa using hj), if_pos ⟨e, by rw [← HLB.out]; simpa using hj⟩, gi_scl])])
          have HLM := Lib.hid (And.intro hl hm)
          have q : decide (((gr bs 0).length : Int) < ((gr bs 0).length : Int)) = false := decide_eq_false (by omega)
          clear hlv hmv hl hm hlt hk
          have c_W := fun j => cell_of_row _ _ j _ _ _ (hMr.get 0 rfl)
          have z_W := hMr.lt 0 rfl
          have c_L := fun j => cell_of_row _ _ j _ _ _ (hMr.get 1 rfl)
          have z_L := hMr.lt 1 rfl
          go_upto_region 9 with fail
          clear q
          clear c_W z_W c_L z_L
          go_cut [10] (fun s wx => ∃ gT gM, s = .pointer (some ⟨gT, 0, none⟩) ∧ Mx w [(gT, .cells #[.slice (some ⟨gM, 0, none⟩) 2 2] 24), (gM, .cells #[.slice (some ya) (gr bs 1).length c1, .slice (some xa) (gr bs 0).length c0] 40), (gW, .cells #[.slice (some ⟨gL, 0, none⟩) 2 2] 24), (gL, .cells #[.slice (some ⟨u, 0, none⟩) (gr bs 0).length cu, .slice (some ⟨v, 0, none⟩) (gr bs 0).length cv] 40), (w.heap.size, gB (some ad) c bs)] [⟨.slice (some ⟨u, 0, none⟩) (gr bs 0).length cu, 3, 1, (gr bs 0).length, intsV l⟩, ⟨.slice (some ⟨v, 0, none⟩) (gr bs 0).length cv, 3, 1, (gr bs 0).length, intsV m⟩] wx)
          case first =>
            refine wp_region_T (Bx w [(w.heap.size, gB (some ad) c bs)]) 12 (by kernel_rfl) (by rfl) ((hMr.keep (List.Sublist.cons _ (List.Sublist.cons _ (List.Sublist.cons_cons _ (List.nil_sublist _))))).drew) (fun wq185 hbq => ?_)
            have hB441 := hMr.next hbq
            clear hMr hbq
            refine wpAnyT_go (Bx.grows _ _) (hB441.keep (List.Sublist.cons _ (List.Sublist.cons _ (List.Sublist.cons_cons _ (List.nil_sublist _))))) [0, 1, 2, 3, 4, 5, 6, 7] 4 (by kernel_rfl) ?_
            apply Exists.intro
            refine ⟨fun G hG hN => ?_, ?_⟩
            · have c_G := fun (e : GE (Bx w [(w.heap.size, gB (some ad) c bs)]) G) j => cell_of_row e.w _ j _ _ _ ((GE.h e).get 0 rfl)
              have z_G := fun (e : GE (Bx w [(w.heap.size, gB (some ad) c bs)]) G) => (GE.h e).lt 0 rfl
              have t_r0 := fun (e : GE (Bx w [(w.heap.size, gB (some ad) c bs)]) G) => (HVL.out _ (GE.h e).below).two.r0
              have t_r1 := fun (e : GE (Bx w [(w.heap.size, gB (some ad) c bs)]) G) => (HVL.out _ (GE.h e).below).two.r1
              have t_b := fun (e : GE (Bx w [(w.heap.size, gB (some ad) c bs)]) G) => (HVL.out _ (GE.h e).below).two.bl
              simp only [pickOps, List.getElem?_toArray, List.getElem?_cons_zero, List.getElem?_cons_succ]
              repeat (first | go_big_quiet_step (fail) | quiet_step (fail))
              exact wpQuiet_nil rfl
            refine wpAnyT_all (rs := [8, 10]) (by kernel_rfl) (by simp) (fun wa186 hwa186 hRwa186 i hi => ?_)
            have hB442 := hB441.next hwa186
            clear hB441 hwa186 hRwa186
            rcases List.mem_cons.1 hi with rfl | hi
            · refine wpOp_step rfl (fun Kc hKc => ?_)
              go_simp
              have hB443 := hB442.new (g := wa186.heap.size) rfl (.cells #[.slice (some ya) (gr bs 1).length c1, .slice (some xa) (gr bs 0).length c0] 40)
              refine hKc _ _ ⟨(hB443.keep (List.Sublist.cons _ (List.Sublist.cons _ (List.Sublist.cons _ (List.Sublist.cons_cons _ (List.nil_sublist _)))))), ?_⟩
              clear hKc Kc hB442
              generalize wa186.heap.size = gM at *
              generalize wa186.alloc _ = wb187 at *
              refine wpAnyT_go (Bx.grows _ _) (hB443.keep (List.Sublist.cons _ (List.Sublist.cons _ (List.Sublist.cons _ (List.Sublist.cons_cons _ (List.nil_sublist _)))))) [9] 2 (by kernel_rfl) ?_
              apply Exists.intro
              refine ⟨fun G hG hN => ?_, ?_⟩
              · have c_G := fun (e : GE (Bx w [(w.heap.size, gB (some ad) c bs)]) G) j => cell_of_row e.w _ j _ _ _ ((GE.h e).get 0 rfl)
                have z_G := fun (e : GE (Bx w [(w.heap.size, gB (some ad) c bs)]) G) => (GE.h e).lt 0 rfl
                have t_r0 := fun (e : GE (Bx w [(w.heap.size, gB (some ad) c bs)]) G) => (HVL.out _ (GE.h e).below).two.r0
                have t_r1 := fun (e : GE (Bx w [(w.heap.size, gB (some ad) c bs)]) G) => (HVL.out _ (GE.h e).below).two.r1
                have t_b := fun (e : GE (Bx w [(w.heap.size, gB (some ad) c bs)]) G) => (HVL.out _ (GE.h e).below).two.bl
                simp only [pickOps, List.getElem?_toArray, List.getElem?_cons_zero, List.getElem?_cons_succ]
                repeat (first | go_big_quiet_step (fail) | quiet_step (fail))
                exact wpQuiet_nil rfl
              refine wpAnyT_all (rs := [10]) (by kernel_rfl) (by simp) (fun wa188 hwa188 hRwa188 i hi => ?_)
              have hB444 := hB443.next hwa188
              clear hB443 hwa188 hRwa188
              obtain rfl := List.mem_singleton.1 hi
              refine wpOp_step rfl (fun Kc hKc => ?_)
              go_simp
              have hB445 := hB444.new (g := wa188.heap.size) rfl (.cells #[.slice none 0 0] 24)
              refine hKc _ _ ⟨(hB445.keep (List.Sublist.cons _ (List.Sublist.cons _ (List.Sublist.cons _ (List.Sublist.cons _ (List.Sublist.cons_cons _ (List.nil_sublist _))))))), ?_⟩
              clear hKc Kc hB444
              generalize wa188.heap.size = gT at *
              generalize wa188.alloc _ = wb189 at *
              refine wpAnyT_all (rs := [11]) (by kernel_rfl) (by simp) (fun wa190 hwa190 hRwa190 i hi => ?_)
              have hB446 := hB445.next hwa190
              clear hB445 hwa190 hRwa190
              obtain rfl := List.mem_singleton.1 hi
              refine wpOp_step rfl (fun Kc hKc => ?_)
              have c_T := fun j => cell_of_row _ _ j _ _ _ (hB446.get 0 rfl)
              have z_T := hB446.lt 0 rfl
              have f_T := fun j => frozen_of_row _ _ j _ _ (hB446.get 0 rfl)
              go_simp
              have hB447 := hB446.set 0 rfl 0 (.slice (some ⟨gM, 0, none⟩) 2 2)
              refine hKc _ _ ⟨(hB447.keep (List.Sublist.cons _ (List.Sublist.cons _ (List.Sublist.cons _ (List.Sublist.cons _ (List.Sublist.cons_cons _ (List.nil_sublist _))))))), ?_⟩
              clear c_T z_T f_T hKc Kc hB446
              generalize wa190.setCell _ _ = wb191 at *
              refine wpAnyT_done (by kernel_rfl) (fun wd192 hwd192 hRwd192 => ?_) _
              refine NoPanic.normal ?_
              have hB448 := hB447.next hwd192
              clear hB447 hwd192 hRwd192
              have HZ := Lib.hid (hB448.perm (List.Perm.refl _) (List.Perm.refl _))
              clear hB448
              go_wp2_with fail
              go_meet
              exact ⟨gT, gM, rfl, HZ.out⟩
            · obtain rfl := List.mem_singleton.1 hi
              refine wpOp_step rfl (fun Kc hKc => ?_)
              go_simp
              have hB443 := hB442.new (g := wa186.heap.size) rfl (.cells #[.slice none 0 0] 24)
              refine hKc _ _ ⟨(hB443.keep (List.Sublist.cons _ (List.Sublist.cons _ (List.Sublist.cons _ (List.Sublist.cons_cons _ (List.nil_sublist _)))))), ?_⟩
              clear hKc Kc hB442
              generalize wa186.heap.size = gT at *
              generalize wa186.alloc _ = wb193 at *
              refine wpAnyT_all (rs := [8]) (by kernel_rfl) (by simp) (fun wa194 hwa194 hRwa194 i hi => ?_)
              have hB444 := hB443.next hwa194
              clear hB443 hwa194 hRwa194
              obtain rfl := List.mem_singleton.1 hi
              refine wpOp_step rfl (fun Kc hKc => ?_)
              go_simp
              have hB445 := hB444.new (g := wa194.heap.size) rfl (.cells #[.slice (some ya) (gr bs 1).length c1, .slice (some xa) (gr bs 0).length c0] 40)
              refine hKc _ _ ⟨(hB445.keep (List.Sublist.cons _ (List.Sublist.cons _ (List.Sublist.cons _ (List.Sublist.cons _ (List.Sublist.cons_cons _ (List.nil_sublist _))))))), ?_⟩
              clear hKc Kc hB444
              generalize wa194.heap.size = gM at *
              generalize wa194.alloc _ = wb195 at *
              refine wpAnyT_go (Bx.grows _ _) (hB445.keep (List.Sublist.cons _ (List.Sublist.cons _ (List.Sublist.cons _ (List.Sublist.cons _ (List.Sublist.cons_cons _ (List.nil_sublist _))))))) [9] 1 (by kernel_rfl) ?_
              apply Exists.intro
              refine ⟨fun G hG hN => ?_, ?_⟩
              · have c_G := fun (e : GE (Bx w [(w.heap.size, gB (some ad) c bs)]) G) j => cell_of_row e.w _ j _ _ _ ((GE.h e).get 0 rfl)
                have z_G := fun (e : GE (Bx w [(w.heap.size, gB (some ad) c bs)]) G) => (GE.h e).lt 0 rfl
                have t_r0 := fun (e : GE (Bx w [(w.heap.size, gB (some ad) c bs)]) G) => (HVL.out _ (GE.h e).below).two.r0
                have t_r1 := fun (e : GE (Bx w [(w.heap.size, gB (some ad) c bs)]) G) => (HVL.out _ (GE.h e).below).two.r1
                have t_b := fun (e : GE (Bx w [(w.heap.size, gB (some ad) c bs)]) G) => (HVL.out _ (GE.h e).below).two.bl
                simp only [pickOps, List.getElem?_toArray, List.getElem?_cons_zero, List.getElem?_cons_succ]
                repeat (first | go_big_quiet_step (fail) | quiet_step (fail))
                exact wpQuiet_nil rfl
              refine wpAnyT_all (rs := [11]) (by kernel_rfl) (by simp) (fun wa196 hwa196 hRwa196 i hi => ?_)
              have hB446 := hB445.next hwa196
              clear hB445 hwa196 hRwa196
              obtain rfl := List.mem_singleton.1 hi
              refine wpOp_step rfl (fun Kc hKc => ?_)
              have c_T := fun j => cell_of_row _ _ j _ _ _ (hB446.get 1 rfl)
              have z_T := hB446.lt 1 rfl
              have f_T := fun j => frozen_of_row _ _ j _ _ (hB446.get 1 rfl)
              go_simp
              have hB447 := hB446.set 1 rfl 0 (.slice (some ⟨gM, 0, none⟩) 2 2)
              refine hKc _ _ ⟨(hB447.keep (List.Sublist.cons _ (List.Sublist.cons _ (List.Sublist.cons _ (List.Sublist.cons _ (List.Sublist.cons_cons _ (List.nil_sublist _))))))), ?_⟩
              clear c_T z_T f_T hKc Kc hB446
              generalize wa196.setCell _ _ = wb197 at *
              refine wpAnyT_done (by kernel_rfl) (fun wd198 hwd198 hRwd198 => ?_) _
              refine NoPanic.normal ?_
              have hB448 := hB447.next hwd198
              clear hB447 hwd198 hRwd198
              have HZ := Lib.hid (hB448.perm (List.Perm.swap _ _ _) (List.Perm.refl _))
              clear hB448
              go_wp2_with fail
              go_meet
              exact ⟨gT, gM, rfl, HZ.out⟩
          case rest =>
            obtain ⟨gT, gM, rfl, hMx⟩ := hcut
            clear hMr
            have HVX := Lib.hid (HVL.out _ hMx.below)
            have HGT := Lib.hid (show GIn wc.heap.size wc (some ⟨gM, 0, none⟩) 2 [gr bs 1, gr bs 0] from gd_own (n := (gr bs 0).length) rfl (by have hx := hMx.get 1 rfl; simp only at hx; rw [HLB.out] at hx; exact hx) HLB.out rfl HVX.out.two.i1 HVX.out.two.i0 (by have := HVX.out.two.l1; have := HLB.out; omega) HVX.out.two.m1 HVX.out.two.l0 HVX.out.two.m0)
            have HGW := Lib.hid (show GIn wc.heap.size wc (some ⟨gL, 0, none⟩) 2 (sclB bs ni t) from by
              rw [← HSC.out]
              have i0 : Ints wc.heap.size wc (some ⟨u, 0, none⟩) l := (Ints.of_own (hMx.row 0 rfl)).1
              have i1 : Ints wc.heap.size wc (some ⟨v, 0, none⟩) m := (Ints.of_own (hMx.row 1 rfl)).1
              exact gd_own (n := (gr bs 0).length) rfl (hMx.get 3 rfl) HLM.out.1 HLM.out.2 i0 i1 HCV.out.1 HCV.out.2.1 HCV.out.2.2.1 HCV.out.2.2.2)
            have hBx : Bx w [(gT, gB (some ⟨gM, 0, none⟩) 2 [gr bs 1, gr bs 0]), (gW, gB (some ⟨gL, 0, none⟩) 2 (sclB bs ni t)), (w.heap.size, gB (some ad) c bs)] wc := by
              have k := hMx.keep (M := [(gT, .cells #[.slice (some ⟨gM, 0, none⟩) 2 2] 24), (gW, .cells #[.slice (some ⟨gL, 0, none⟩) 2 2] 24), (w.heap.size, gB (some ad) c bs)]) (List.Sublist.cons_cons _ (List.Sublist.cons _ (List.Sublist.cons_cons _ (List.Sublist.cons _ (List.Sublist.cons_cons _ (List.nil_sublist _))))))
              show Bx w [(gT, .cells #[.slice (some ⟨gM, 0, none⟩) 2 2] 24), (gW, .cells #[.slice (some ⟨gL, 0, none⟩) (sclB bs ni t).length 2] 24), (w.heap.size, gB (some ad) c bs)] wc
              rw [sclB_two]
              exact k
            have hbc := Below.refl wc.heap.size wc
            have HTL := Lib.hid (turned_law HC.out)
            have HSL := Lib.hid (fun (h' : mkCode (sclB bs ni t) = 0) => scales_law HC.out HI.out HT.out.1 h' HT.out.2)
            clear hMx HSC HLM
            have HF1 := Lib.hid (fun (V : World) (hV : Below w.heap.size w V) => show Calls Try.prog 12 #[gV (some ad) c bs] V fun e w' => ∃ P cp B cb, e = .returned (.tuple #[.slice P (mPs (gr bs 0) (gr bs 1) (gr bs 0).length).length cp, .slice B (mSh (gr bs 0) (gr bs 1) (gr bs 0).length).length cb, .int .i64 0]) ∧ QIn w'.heap.size w' P cp (mPs (gr bs 0) (gr bs 1) (gr bs 0).length) ∧ QIn w'.heap.size w' B cb (mSh (gr bs 0) (gr bs 1) (gr bs 0).length) ∧ Below V.heap.size V w' by
              have k := mfind_any bs (some ad) c V (HG.out.next hV)
              rwa [show findP bs = (mPs (gr bs 0) (gr bs 1) (gr bs 0).length) by (unfold findP; rw [if_pos HC.out]), show findS bs = (mSh (gr bs 0) (gr bs 1) (gr bs 0).length) by (unfold findS; rw [if_pos HC.out]), HC.out] at k)
            have HTC := Lib.hid (show (findS [gr bs 1, gr bs 0]).length = (gr bs 0).length ∧ findP [gr bs 1, gr bs 0] = (mPs (gr bs 0) (gr bs 1) (gr bs 0).length) by
              unfold findS findP
              rw [if_pos HTL.out.1, if_pos HTL.out.1, HTL.out.2]
              exact ⟨by rw [sh_len]; exact HLB.out, rfl⟩)
            have HF2 := Lib.hid (fun (V : World) (hV : Below wc.heap.size wc V) => show Calls Try.prog 12 #[gV (some ⟨gM, 0, none⟩) 2 [gr bs 1, gr bs 0]] V fun e w' => ∃ P cp B cb, e = .returned (.tuple #[.slice P (mPs (gr bs 0) (gr bs 1) (gr bs 0).length).length cp, .slice B (gr bs 0).length cb, .int .i64 0]) ∧ QIn w'.heap.size w' P cp (mPs (gr bs 0) (gr bs 1) (gr bs 0).length) ∧ QIn w'.heap.size w' B cb (findS [gr bs 1, gr bs 0]) ∧ Below V.heap.size V w' by
              have k := mfind_any [gr bs 1, gr bs 0] (some ⟨gM, 0, none⟩) 2 V (HGT.out.next hV)
              rwa [HTC.out.2, HTC.out.1, HTL.out.1] at k)
            have c_G := fun j => cell_of_row _ _ j _ _ _ (hBx.get 2 rfl)
            have z_G := hBx.lt 2 rfl
            go_wp2_with fail
            refine (HF1.out _ hBx.below).mono ?_
            rintro e2 w601 ⟨P, cP, S, cS, rfl, hP, hS, hb⟩
            have hB601 := hBx.next hb
            have hbc := bcall hbc hbc.size hb
            have HP := Lib.hid (fun (V : World) (hV : Below w601.heap.size w601 V) => hP.next hV)
            have HS := Lib.hid (fun (V : World) (hV : Below w601.heap.size w601 V) => hS.next hV)
            clear hP hS
            clear c_G z_G hBx
            have hb1 := Below.refl w601.heap.size w601
            clear hb
            have c_T := fun j => cell_of_row _ _ j _ _ _ (hB601.get 0 rfl)
            have z_T := hB601.lt 0 rfl
            go_wp2_with fail
            refine (HF2.out _ hbc).mono ?_
            rintro e2 w602 ⟨Q, cQ, T2, cT2, rfl, hQ, hT2, hb⟩
            have hB602 := hB601.next hb
            have hbc := bcall hbc hbc.size hb
            have HQ := Lib.hid (fun (V : World) (hV : Below w602.heap.size w602 V) => hQ.next hV)
            have HT2 := Lib.hid (fun (V : World) (hV : Below w602.heap.size w602 V) => hT2.next hV)
            clear hQ hT2
            clear c_T z_T hB601
            have hb1 := bcall hb1 hb1.size hb
            clear hb
            have HPQ := Lib.hid (fun (V : World) (hV : Below w602.heap.size w602 V) => show Calls Try.prog 21 #[.slice P (mPs (gr bs 0) (gr bs 1) (gr bs 0).length).length cP, .slice Q (mPs (gr bs 0) (gr bs 1) (gr bs 0).length).length cQ] V fun e w' => e = .returned (.bool true) ∧ Below V.heap.size V w' by
              have k := qsame_any (mPs (gr bs 0) (gr bs 1) (gr bs 0).length) (mPs (gr bs 0) (gr bs 1) (gr bs 0).length) P cP Q cQ V (HP.out _ (bcall hb1 hb1.size hV)) (HQ.out _ hV)
              rwa [show sameR (mPs (gr bs 0) (gr bs 1) (gr bs 0).length) (mPs (gr bs 0) (gr bs 1) (gr bs 0).length) = true from decide_eq_true rfl] at k)
            have e1 : (((mSh (gr bs 0) (gr bs 1) (gr bs 0).length).length : Int) != ((gr bs 0).length : Int)) = false := by rw [sh_len]; simp
            have e2 : ((mSh (gr bs 0) (gr bs 1) (gr bs 0).length).length != (gr bs 0).length) = false := by rw [sh_len]; simp
            clear HQ HT2 HTC HF1 HF2
            go_wp2_with fail
            refine (HPQ.out _ (Below.refl _ _)).mono ?_
            rintro e w603 ⟨rfl, hb⟩
            have hB603 := hB602.next hb
            have hbc := bcall hbc hbc.size hb
            have hb1 := bcall hb1 hb1.size hb
            clear hb HPQ hB602
            have c_W := fun j => cell_of_row _ _ j _ _ _ (hB603.get 1 rfl)
            have z_W := hB603.lt 1 rfl
            have HCW := Lib.hid (fun (V : World) (hV : Below wc.heap.size wc V) => fmcheck_any (sclB bs ni t) (some ⟨gL, 0, none⟩) 2 V (HGW.out.next hV))
            go_wp2_with fail
            refine (HCW.out _ hbc).mono ?_
            rintro e w604 ⟨rfl, hb⟩
            have hB604 := hB603.next hb
            have hbc := bcall hbc hbc.size hb
            have hb1 := bcall hb1 hb1.size hb
            clear c_W z_W hb HCW e1 e2 hB603
            by_cases hw : mkCode (sclB bs ni t) = 0
            rotate_left
            · have q : (mkCode (sclB bs ni t) != 0) = true := bneT hw
              clear hw HSL
              generalize mkCode (sclB bs ni t) = kw at *
              have HE := Lib.hid hB604.below
              clear hB604
              go_wp2_with fail
              go_ret
              exact ⟨rfl, HE.out⟩
            have HW0 := Lib.hid hw
            rw [hw]
            clear hw
            have HLW := Lib.hid (HSL.out HW0.out)
            have HFW := Lib.hid (fun (V : World) (hV : Below wc.heap.size wc V) => show Calls Try.prog 12 #[gV (some ⟨gL, 0, none⟩) 2 (sclB bs ni t)] V fun e w' => ∃ P cp B cb, e = .returned (.tuple #[.slice P (mPs (gr bs 0) (gr bs 1) (gr bs 0).length).length cp, .slice B (mSh (gr bs 0) (gr bs 1) (gr bs 0).length).length cb, .int .i64 0]) ∧ QIn w'.heap.size w' P cp (mPs (gr bs 0) (gr bs 1) (gr bs 0).length) ∧ QIn w'.heap.size w' B cb (mSh (gr bs 0) (gr bs 1) (gr bs 0).length) ∧ Below V.heap.size V w' by
              have k := mfind_any (sclB bs ni t) (some ⟨gL, 0, none⟩) 2 V (HGW.out.next hV)
              rwa [show findP (sclB bs ni t) = (mPs (gr bs 0) (gr bs 1) (gr bs 0).length) by (unfold findP; rw [if_pos HW0.out]; exact HLW.out.1), show findS (sclB bs ni t) = (mSh (gr bs 0) (gr bs 1) (gr bs 0).length) by (unfold findS; rw [if_pos HW0.out]; exact HLW.out.2.1), HW0.out] at k)
            have c_W := fun j => cell_of_row _ _ j _ _ _ (hB604.get 1 rfl)
            have z_W := hB604.lt 1 rfl
            go_wp2_with fail
            refine (HFW.out _ hbc).mono ?_
            rintro e2 w605 ⟨R, cR, U, cU, rfl, hR, hU, hb⟩
            have hB605 := hB604.next hb
            have hbc := bcall hbc hbc.size hb
            have HR := Lib.hid (fun (V : World) (hV : Below w605.heap.size w605 V) => hR.next hV)
            have HU := Lib.hid (fun (V : World) (hV : Below w605.heap.size w605 V) => hU.next hV)
            clear hR hU
            clear c_W z_W hB604
            have hb1 := bcall hb1 hb1.size hb
            have hb2 := Below.refl w605.heap.size w605
            clear hb HFW
            have HPR := Lib.hid (fun (V : World) (hV : Below w605.heap.size w605 V) => show Calls Try.prog 21 #[.slice P (mPs (gr bs 0) (gr bs 1) (gr bs 0).length).length cP, .slice R (mPs (gr bs 0) (gr bs 1) (gr bs 0).length).length cR] V fun e w' => e = .returned (.bool true) ∧ Below V.heap.size V w' by
              have k := qsame_any (mPs (gr bs 0) (gr bs 1) (gr bs 0).length) (mPs (gr bs 0) (gr bs 1) (gr bs 0).length) P cP R cR V (HP.out _ (bcall hb1 hb1.size hV)) (HR.out _ hV)
              rwa [show sameR (mPs (gr bs 0) (gr bs 1) (gr bs 0).length) (mPs (gr bs 0) (gr bs 1) (gr bs 0).length) = true from decide_eq_true rfl] at k)
            have HSU := Lib.hid (fun (V : World) (hV : Below w605.heap.size w605 V) => show Calls Try.prog 21 #[.slice S (mSh (gr bs 0) (gr bs 1) (gr bs 0).length).length cS, .slice U (mSh (gr bs 0) (gr bs 1) (gr bs 0).length).length cU] V fun e w' => e = .returned (.bool true) ∧ Below V.heap.size V w' by
              have k := qsame_any (mSh (gr bs 0) (gr bs 1) (gr bs 0).length) (mSh (gr bs 0) (gr bs 1) (gr bs 0).length) S cS U cU V (HS.out _ (bcall hb1 hb1.size hV)) (HU.out _ hV)
              rwa [show sameR (mSh (gr bs 0) (gr bs 1) (gr bs 0).length) (mSh (gr bs 0) (gr bs 1) (gr bs 0).length) = true from decide_eq_true rfl] at k)
            have HXV := Lib.hid (fun (V : World) (hV : Below w605.heap.size w605 V) (hB : Below w.heap.size w V) => show Calls Try.prog 18 #[gV (some ad) c bs, .slice S (mSh (gr bs 0) (gr bs 1) (gr bs 0).length).length cS, .int .i64 ni] V fun e w' => e = .returned (.tuple #[rV (mkR (mU (gr bs 0) (gr bs 1) (gr bs 0).length ni)), .int .i64 0]) ∧ Below V.heap.size V w' by
              have k := mworthE_any bs (some ad) c (mSh (gr bs 0) (gr bs 1) (gr bs 0).length) S cS ni V (HG.out.next hB) (HS.out _ (bcall hb1 hb1.size hV))
              rwa [(worth_sh HC.out HI.out).1, (worth_sh HC.out HI.out).2] at k)
            have HYV := Lib.hid (fun (V : World) (hV : Below w605.heap.size w605 V) => show Calls Try.prog 18 #[gV (some ⟨gL, 0, none⟩) 2 (sclB bs ni t), .slice U (mSh (gr bs 0) (gr bs 1) (gr bs 0).length).length cU, .int .i64 ni] V fun e w' => e = .returned (.tuple #[rV (mulR (mkR (mU (gr bs 0) (gr bs 1) (gr bs 0).length ni)) ⟨t, 1⟩), .int .i64 0]) ∧ Below V.heap.size V w' by
              have e := HLW.out.2.1
              have k := mworthE_any (sclB bs ni t) (some ⟨gL, 0, none⟩) 2 (mSh (gr bs 0) (gr bs 1) (gr bs 0).length) U cU ni V (HGW.out.next (bcall hbc hbc.size hV)) (HU.out _ hV)
              have q := worth_sh HW0.out HI.out
              rw [e] at q
              rwa [q.1, q.2, ← HLW.out.2.2.2] at k)
            have HMV := Lib.hid (fun (V : World) => show Calls Try.prog 20 #[rV (mkR (mU (gr bs 0) (gr bs 1) (gr bs 0).length ni)), rV ⟨t, 1⟩] V fun e w' => e = .returned (.tuple #[rV (mulR (mkR (mU (gr bs 0) (gr bs 1) (gr bs 0).length ni)) ⟨t, 1⟩), .int .i64 0]) ∧ Below V.heap.size V w' by
              have k := fmul_any (mkR (mU (gr bs 0) (gr bs 1) (gr bs 0).length ni)) ⟨t, 1⟩ (mkR_wf _) (whole_ok (by have := HT.out; omega) (by have := HT.out; omega)).wf V
              rwa [HLW.out.2.2.1] at k)
            clear HP HS HR HU HLW HSL
            generalize mkR (mU (gr bs 0) (gr bs 1) (gr bs 0).length ni) = xr at *
            generalize mulR xr ⟨t, 1⟩ = yr at *
            go_wp2_with fail
            refine (HPR.out _ hb2).mono ?_
            rintro e w606 ⟨rfl, hb⟩
            have hB606 := hB605.next hb
            have hb2 := bcall hb2 hb2.size hb
            clear hb hB605
            go_wp2_with fail
            refine (HSU.out _ hb2).mono ?_
            rintro e w607 ⟨rfl, hb⟩
            have hB607 := hB606.next hb
            have hb2 := bcall hb2 hb2.size hb
            clear hb hB606
            clear HPR HSU hbc hb1
            have c_G := fun j => cell_of_row _ _ j _ _ _ (hB607.get 2 rfl)
            have z_G := hB607.lt 2 rfl
            go_wp2_with fail
            refine (HXV.out _ hb2 hB607.below).mono ?_
            rintro e w608 ⟨rfl, hb⟩
            have hB608 := hB607.next hb
            have hb2 := bcall hb2 hb2.size hb
            clear c_G z_G hb hB607
            have hb2 := hb2.alloc hb2.size (rB xr)
            clear HXV
            go_upto_region 20 with fail
            have hB609 := hB608.new rfl (rB xr)
            clear hB608
            generalize w608.heap.size = gX at *
            generalize w608.alloc _ = w609 at *
            have c_W := fun j => cell_of_row _ _ j _ _ _ (hB609.get 2 rfl)
            have z_W := hB609.lt 2 rfl
            go_wp2_with fail
            refine (HYV.out _ hb2).mono ?_
            rintro e w610 ⟨rfl, hb⟩
            have hB610 := hB609.next hb
            have hb2 := bcall hb2 hb2.size hb
            clear c_W z_W hb hB609
            have hb2 := hb2.alloc hb2.size (rB yr)
            clear HYV
            go_upto_region 21 with fail
            have hB611 := hB610.new rfl (rB yr)
            clear hB610
            generalize w610.heap.size = gY at *
            generalize w610.alloc _ = w611 at *
            have hM21 := Mx.of_bx hB611
            clear hB611 hb2
            refine wp_region_T (Bx w [(gX, rB xr)]) 10 (by kernel_rfl) (by rfl) ((hM21.keep (List.Sublist.cons _ (List.Sublist.cons_cons _ (List.nil_sublist _)))).drew) (fun wq199 hbq => ?_)
            have hB701 := hM21.next hbq
            clear hM21 hbq
            refine wpAnyT_go (Bx.grows _ _) (hB701.keep (List.Sublist.cons _ (List.Sublist.cons_cons _ (List.nil_sublist _)))) [0, 1, 2, 3, 4, 5, 6] 3 (by kernel_rfl) ?_
            apply Exists.intro
            refine ⟨fun G hG hN => ?_, ?_⟩
            · have c_x := fun (e : GE (Bx w [(gX, rB xr)]) G) j => cell_of_row e.w _ j _ _ _ ((GE.h e).get 0 rfl)
              have z_x := fun (e : GE (Bx w [(gX, rB xr)]) G) => (GE.h e).lt 0 rfl
              simp only [pickOps, List.getElem?_toArray, List.getElem?_cons_zero, List.getElem?_cons_succ]
              repeat (first | go_big_quiet_step ((first | (go_at_call 17; exact calls_ge (Bx.grows _ _) hG (lof_any _ _ _)) | (go_at_call 20; exact calls_ge (Bx.grows _ _) hG (HMV.out _)))) | quiet_step ((first | (go_at_call 17; exact calls_ge (Bx.grows _ _) hG (lof_any _ _ _)) | (go_at_call 20; exact calls_ge (Bx.grows _ _) hG (HMV.out _)))))
              exact wpQuiet_nil rfl
            refine wpAnyT_all (rs := [7]) (by kernel_rfl) (by simp) (fun wa200 hwa200 hRwa200 i hi => ?_)
            have hB702 := hB701.next hwa200
            clear hB701 hwa200 hRwa200
            obtain rfl := List.mem_singleton.1 hi
            refine wpOp_step rfl (fun Kc hKc => ?_)
            go_simp
            have hB703 := hB702.new (g := wa200.heap.size) rfl (rB ⟨0, 0⟩)
            refine hKc _ _ ⟨(hB703.keep (List.Sublist.cons _ (List.Sublist.cons _ (List.Sublist.cons_cons _ (List.nil_sublist _))))), ?_⟩
            clear hKc Kc hB702
            generalize wa200.heap.size = gZ at *
            generalize wa200.alloc _ = wb201 at *
            refine wpAnyT_all (rs := [8]) (by kernel_rfl) (by simp) (fun wa202 hwa202 hRwa202 i hi => ?_)
            have hB704 := hB703.next hwa202
            clear hB703 hwa202 hRwa202
            obtain rfl := List.mem_singleton.1 hi
            refine wpOp_step rfl (fun Kc hKc => ?_)
            have c_zz := fun j => cell_of_row _ _ j _ _ _ (hB704.get 0 rfl)
            have z_zz := hB704.lt 0 rfl
            have f_zz := fun j => frozen_of_row _ _ j _ _ (hB704.get 0 rfl)
            go_simp
            have hB705 := hB704.put 0 rfl (yr)
            refine hKc _ _ ⟨(hB705.keep (List.Sublist.cons _ (List.Sublist.cons _ (List.Sublist.cons_cons _ (List.nil_sublist _))))), ?_⟩
            clear c_zz z_zz f_zz hKc Kc hB704
            generalize (wa202.setCell _ _).setCell _ _ = wb203 at *
            refine wpAnyT_go (Bx.grows _ _) (hB705.keep (List.Sublist.cons _ (List.Sublist.cons _ (List.Sublist.cons_cons _ (List.nil_sublist _))))) [9] 0 (by kernel_rfl) ?_
            apply Exists.intro
            refine ⟨fun G hG hN => ?_, ?_⟩
            · have c_x := fun (e : GE (Bx w [(gX, rB xr)]) G) j => cell_of_row e.w _ j _ _ _ ((GE.h e).get 0 rfl)
              have z_x := fun (e : GE (Bx w [(gX, rB xr)]) G) => (GE.h e).lt 0 rfl
              simp only [pickOps, List.getElem?_toArray, List.getElem?_cons_zero, List.getElem?_cons_succ]
              repeat (first | go_big_quiet_step ((first | (go_at_call 17; exact calls_ge (Bx.grows _ _) hG (lof_any _ _ _)) | (go_at_call 20; exact calls_ge (Bx.grows _ _) hG (HMV.out _)))) | quiet_step ((first | (go_at_call 17; exact calls_ge (Bx.grows _ _) hG (lof_any _ _ _)) | (go_at_call 20; exact calls_ge (Bx.grows _ _) hG (HMV.out _)))))
              exact wpQuiet_nil rfl
            refine wpAnyT_done (by kernel_rfl) (fun wd204 hwd204 hRwd204 => ?_) _
            refine NoPanic.normal ?_
            have hB706 := hB705.next hwd204
            clear hB705 hwd204 hRwd204
            have c_zz := fun j => cell_of_row _ _ j _ _ _ (hB706.get 0 rfl)
            have z_zz := hB706.lt 0 rfl
            have c_y := fun j => cell_of_row _ _ j _ _ _ (hB706.get 1 rfl)
            have z_y := hB706.lt 1 rfl
            have t1 : (yr.n == yr.n) = true := by simp
            have t2 : (yr.d == yr.d) = true := by simp
            have HE := Lib.hid hB706.below
            clear hB706
            go_wp2_with fail
            go_ret
            exact ⟨rfl, HE.out⟩
        have HL1 := Lib.hid (And.intro hl (And.intro hm (And.intro hlv hmv)))
        have hMr0 := hMr
        have va := HMO.out.a0 k hlt
        have vb := HMO.out.b0 k hlt
        have HV := Lib.hid (show (gi l k = gi (gr bs 0) k ∧ 0 ≤ gi l k * t ∧ gi l k * t ≤ 1000 * 1000) ∧ (gi m k = gi (gr bs 1) k ∧ 0 ≤ gi m k * t ∧ gi m k * t ≤ 1000 * 1000) by
          have e1 : gi l k = gi (gr bs 0) k := by rw [hlv k hlt, if_neg (by omega)]
          have e2 : gi m k = gi (gr bs 1) k := by rw [hmv k hlt, if_neg (by omega)]
          have T := HT.out
          rw [e1, e2]
          exact ⟨⟨rfl, prod_le va.1 va.2 (by omega) T.2⟩, ⟨rfl, prod_le vb.1 vb.2 (by omega) T.2⟩⟩)
        have HME := Lib.hid (And.intro (Nat.succ_le_of_lt hlt) (Nat.sub_lt_sub_left hlt (Nat.lt_succ_self k)))
        have HKL := Lib.hid hlt
        have q : decide ((k : Int) < ((gr bs 0).length : Int)) = true := decide_eq_true (by omega)
        have q2 : decide (k < (gr bs 0).length) = true := decide_eq_true hlt
        have y1 : (k : Int) < ((gr bs 0).length : Int) := by omega
        have y2 : (0 : Int) ≤ (k : Int) := by omega
        have HKB := Lib.hid (show (k : Int) ≤ 10 by have := HN.out; omega)
        clear va vb hlv hmv hl hm hlt hk hMr0
        rcases (show ni = 0 ∨ ni = 1 by have := HI.out; omega) with rfl | rfl
        · have ra := hMr.rowAt 0 rfl
          have s0 := ra.1 k _ (by have := HKL.out; omega) (intsV_at (l := l) (by have := HL1.out; have := HKL.out; omega))
          have sf := ra.2.1
          have sg := ra.2.2
          clear ra
          have HYY := Lib.hid (show (wrap64 (gi l k * t) = gi l k * t ∧ IntKind.i64.wrap (gi l k * t) = gi l k * t) ∧ (wrap64 ((k : Int) + 1) = (k : Int) + 1 ∧ IntKind.i64.wrap ((k : Int) + 1) = (k : Int) + 1) from ⟨⟨IntWalk.wrap64_in _ (by have := HV.out; omega), IntWalk.i64_in _ (by have := HV.out; omega)⟩, ⟨IntWalk.wrap64_in _ (by have := HKB.out; omega), IntWalk.i64_in _ (by have := HKB.out; omega)⟩⟩)
          have HNX := Lib.hid (show (l.set k (gi l k * t)).length = (gr bs 0).length ∧ ∀ j, j < (gr bs 0).length → gi (l.set k (gi l k * t)) j = if 0 = 0 ∧ j < k + 1 then gi (gr bs 0) j * t else gi (gr bs 0) j by
            have h := HL1.out
            refine ⟨by rw [List.length_set]; omega, fun j hj => ?_⟩
            rw [gi_set (by have := HKL.out; omega)]
            by_cases q : j = k
            · subst q
              rw [if_pos rfl, if_pos ⟨rfl, by omega⟩, HV.out.1.1]
            · rw [if_neg q, h.2.2.1 j hj]
              by_cases q2 : j < k
              · rw [if_pos ⟨rfl, q2⟩, if_pos ⟨rfl, by omega⟩]
              · rw [if_neg (fun x => q2 x.2), if_neg (fun x => by omega)])
          have HOT := Lib.hid (show ∀ j, j < (gr bs 0).length → gi m j = if 0 = 1 ∧ j < k + 1 then gi (gr bs 1) j * t else gi (gr bs 1) j from fun j hj => by rw [HL1.out.2.2.2 j hj, if_neg (by omega), if_neg (by omega)])
          obtain ⟨⟨a1, a2⟩, ⟨a3, a4⟩⟩ := HYY.out
          clear HYY
          have c_W := fun j => cell_of_row _ _ j _ _ _ (hMr.get 0 rfl)
          have z_W := hMr.lt 0 rfl
          have c_L := fun j => cell_of_row _ _ j _ _ _ (hMr.get 1 rfl)
          have z_L := hMr.lt 1 rfl
          go_upto_region 7 with fail
          have hN := hMr.setRow 0 rfl k (.int .i64 (gi l k * t))
          rw [intsV_set] at hN
          generalize World.setCell _ _ _ = w2 at *
          have HZ := Lib.hid hN
          clear hN hMr s0 sf sg q q2
          clear c_W z_W c_L z_L
          go_wp2_with fail
          exact ⟨⟨k + 1, _, m, HME.out.1, by go_num, HNX.out.1, HL1.out.2.1, (by simpa using HNX.out.2), (by simpa using HOT.out), HZ.out⟩, by simpa [intOf] using HME.out.2⟩
        · have ra := hMr.rowAt 1 rfl
          have s0 := ra.1 k _ (by have := HKL.out; omega) (intsV_at (l := m) (by have := HL1.out; have := HKL.out; omega))
          have sf := ra.2.1
          have sg := ra.2.2
          clear ra
          have HYY := Lib.hid (show (wrap64 (gi m k * t) = gi m k * t ∧ IntKind.i64.wrap (gi m k * t) = gi m k * t) ∧ (wrap64 ((k : Int) + 1) = (k : Int) + 1 ∧ IntKind.i64.wrap ((k : Int) + 1) = (k : Int) + 1) from ⟨⟨IntWalk.wrap64_in _ (by have := HV.out; omega), IntWalk.i64_in _ (by have := HV.out; omega)⟩, ⟨IntWalk.wrap64_in _ (by have := HKB.out; omega), IntWalk.i64_in _ (by have := HKB.out; omega)⟩⟩)
          have HNX := Lib.hid (show (m.set k (gi m k * t)).length = (gr bs 0).length ∧ ∀ j, j < (gr bs 0).length → gi (m.set k (gi m k * t)) j = if 1 = 1 ∧ j < k + 1 then gi (gr bs 1) j * t else gi (gr bs 1) j by
            have h := HL1.out
            refine ⟨by rw [List.length_set]; omega, fun j hj => ?_⟩
            rw [gi_set (by have := HKL.out; omega)]
            by_cases q : j = k
            · subst q
              rw [if_pos rfl, if_pos ⟨rfl, by omega⟩, HV.out.2.1]
            · rw [if_neg q, h.2.2.2 j hj]
              by_cases q2 : j < k
              · rw [if_pos ⟨rfl, q2⟩, if_pos ⟨rfl, by omega⟩]
              · rw [if_neg (fun x => q2 x.2), if_neg (fun x => by omega)])
          have HOT := Lib.hid (show ∀ j, j < (gr bs 0).length → gi l j = if 1 = 0 ∧ j < k + 1 then gi (gr bs 0) j * t else gi (gr bs 0) j from fun j hj => by rw [HL1.out.2.2.1 j hj, if_neg (by omega), if_neg (by omega)])
          obtain ⟨⟨a1, a2⟩, ⟨a3, a4⟩⟩ := HYY.out
          clear HYY
          have c_W := fun j => cell_of_row _ _ j _ _ _ (hMr.get 0 rfl)
          have z_W := hMr.lt 0 rfl
          have c_L := fun j => cell_of_row _ _ j _ _ _ (hMr.get 1 rfl)
          have z_L := hMr.lt 1 rfl
          go_upto_region 7 with fail
          have hN := hMr.setRow 1 rfl k (.int .i64 (gi m k * t))
          rw [intsV_set] at hN
          generalize World.setCell _ _ _ = w2 at *
          have HZ := Lib.hid hN
          clear hN hMr s0 sf sg q q2
          clear c_W z_W c_L z_L
          go_wp2_with fail
          exact ⟨⟨k + 1, l, _, HME.out.1, by go_num, HL1.out.1, HNX.out.1, (by simpa using HOT.out), (by simpa using HNX.out.2), HZ.out⟩, by simpa [intOf] using HME.out.2⟩
end Go.Proofs.Ytpijllobpohpgaa
