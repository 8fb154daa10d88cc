/- Meetings are copied. -/
import Derived.Test.YtgcbmnohhbcfiaaAgA
import Derived.Test.YtgcbmnohhbcfiaaCm13
namespace Go.Proofs.Ytgcbmnohhbcfiaa
open Go.RowKit Go.Deep
set_option linter.unusedVariables false
set_option linter.unusedSimpArgs false

set_option maxRecDepth 100000 in
set_option maxHeartbeats 16000000 in
theorem agtwin_any (K : Ck) (A : Option Addr) (c : Nat) (R : Option Addr) (d : Nat) (w : World) (h : CIn w.heap.size w A c R d K) (hm : K.big = false) :
    Calls Try.prog 123 #[cV A c R d K] w fun e w' => ∃ u v, e = .returned (kV K.len u v) ∧ KOwn w.heap.size w' u v K ∧ Below w.heap.size w w' := by
  obtain ⟨i0, hi0, hz0, hz1, hz2⟩ := info_parts info3
  have hb : K.cuts.length ≤ 60 ∧ K.dens.length ≤ 60 := by
    unfold Ck.big at hm; simp at hm; omega
  have l1 := hb.1
  have l2 := hb.2
  have HH := Lib.hid h
  have hM0 : Mx w [(w.heap.size + 1, kO 0 (.slice none 0 0) (.slice none 0 0)), (w.heap.size, cB A c R d K)] [] ((w.alloc (cB A c R d K)).alloc (kO 0 (.slice none 0 0) (.slice none 0 0))) :=
    ((Mx.of_bx (Bx.start w)).new rfl _).new (by simp) _
  clear h hb hm
  go_enter Try.func123, Try.ntmps123
  go_upto_region 1 with fail
  generalize hw0 : (w.alloc (cB A c R d K)).alloc (kO 0 (.slice none 0 0) (.slice none 0 0)) = w0 at *
  clear hw0
  generalize w.heap.size + 1 = gO at *
  go_wp2_with fail
  refine wp_region_R (Bx w [(w.heap.size, cB A c R d K)]) 12 (by kernel_rfl) (by rfl) ((hM0.keep (List.Sublist.cons _ (List.Sublist.cons_cons _ (List.nil_sublist _)))).drew) (fun wq1 hbq => ?_)
  have hB1 := hM0.next hbq
  clear hM0 hbq
  refine wpAnyE_goR (Bx.grows _ _) (hB1.keep (List.Sublist.cons _ (List.Sublist.cons_cons _ (List.nil_sublist _)))) [0, 1, 3, 4, 7, 8] 6 (by kernel_rfl) ?_
  apply Exists.intro
  refine ⟨fun G hG hN => ?_, ?_⟩
  · have c_K := fun (e : GE (Bx w [(w.heap.size, cB A c R d K)]) G) j => cell_of_row e.w _ j _ _ _ ((GE.h e).get 0 rfl)
    have z_K := fun (e : GE (Bx w [(w.heap.size, cB A c R d K)]) G) => (GE.h e).lt 0 rfl
    simp only [pickOps, List.getElem?_toArray, List.getElem?_cons_zero, List.getElem?_cons_succ]
    repeat (first | go_big_quiet_step (fail) | quiet_step (fail))
    exact wpQuiet_nil rfl
  refine wpAnyE_all (rs := [2, 6]) (by kernel_rfl) (by simp) (fun wa2 hwa2 hRwa2 i hi => ?_)
  have hB2 := hB1.next hwa2
  clear hB1 hwa2 hRwa2
  rcases List.mem_cons.1 hi with rfl | hi
  · refine wpOp_step rfl (fun Kc hKc => ?_)
    go_simp
    have hB3 := hB2.addR (one_alloc wa2 (.cells #[] 3)) ⟨.slice (some ⟨wa2.heap.size, 0, none⟩) 0 0, 3, 1, 0, []⟩ (World.ownsRow_lit wa2 #[] 0 (Nat.le_refl _) (by unfold maxLen; omega) rfl)
    refine hKc _ _ ⟨(hB3.keep (List.Sublist.cons _ (List.Sublist.cons_cons _ (List.nil_sublist _)))), ?_⟩
    clear hKc Kc hB2
    generalize wa2.heap.size = g1 at *
    generalize wa2.alloc _ = wb3 at *
    refine wpAnyE_all (rs := [5, 6]) (by kernel_rfl) (by simp) (fun wa4 hwa4 hRwa4 i hi => ?_)
    have hB4 := hB3.next hwa4
    clear hB3 hwa4 hRwa4
    rcases List.mem_cons.1 hi with rfl | hi
    · refine wpOp_step rfl (fun Kc hKc => ?_)
      refine step_append_any _ rfl (.tmp 5) (.tmp 7) 22 rfl w.heap.size 3 i0 (.int .i64 0) 1 8 Try.underlying22 hi0 hz0 hz1 hz2 rfl (by omega) (.slice (some ⟨g1, 0, none⟩) 0 0) 0 [] rfl (hB4.row 0 rfl) _ A K.cuts.length c (intsV K.cuts) rfl (HH.out.next hB4.below).cuts.reads (one_cells _) (by unfold maxLen; omega) (by omega) hB4.below.size ?_
      intro v1 wb5 hown hgr hat
      have hB5 := hB4.grow 0 rfl hgr hown hat
      refine hKc _ _ ⟨(hB5.keep (List.Sublist.cons _ (List.Sublist.cons_cons _ (List.nil_sublist _)))), ?_⟩
      clear hKc Kc hB4 hown hgr hat
      refine wpAnyE_all (rs := [6]) (by kernel_rfl) (by simp) (fun wa6 hwa6 hRwa6 i hi => ?_)
      have hB6 := hB5.next hwa6
      clear hB5 hwa6 hRwa6
      obtain rfl := List.mem_singleton.1 hi
      refine wpOp_step rfl (fun Kc hKc => ?_)
      go_simp
      have hB7 := hB6.addR (one_alloc wa6 (.cells #[] 3)) ⟨.slice (some ⟨wa6.heap.size, 0, none⟩) 0 0, 3, 1, 0, []⟩ (World.ownsRow_lit wa6 #[] 0 (Nat.le_refl _) (by unfold maxLen; omega) rfl)
      refine hKc _ _ ⟨(hB7.keep (List.Sublist.cons _ (List.Sublist.cons_cons _ (List.nil_sublist _)))), ?_⟩
      clear hKc Kc hB6
      generalize wa6.heap.size = g2 at *
      generalize wa6.alloc _ = wb7 at *
      refine wpAnyE_all (rs := [9]) (by kernel_rfl) (by simp) (fun wa8 hwa8 hRwa8 i hi => ?_)
      have hB8 := hB7.next hwa8
      clear hB7 hwa8 hRwa8
      obtain rfl := List.mem_singleton.1 hi
      refine wpOp_step rfl (fun Kc hKc => ?_)
      refine step_append_any _ rfl (.tmp 9) (.tmp 11) 22 rfl w.heap.size 3 i0 (.int .i64 0) 1 8 Try.underlying22 hi0 hz0 hz1 hz2 rfl (by omega) (.slice (some ⟨g2, 0, none⟩) 0 0) 0 [] rfl (hB8.row 0 rfl) _ R K.dens.length d (intsV K.dens) rfl (HH.out.next hB8.below).dens.reads (one_cells _) (by unfold maxLen; omega) (by omega) hB8.below.size ?_
      intro v2 wb9 hown hgr hat
      have hB9 := hB8.grow 0 rfl hgr hown hat
      refine hKc _ _ ⟨(hB9.keep (List.Sublist.cons _ (List.Sublist.cons_cons _ (List.nil_sublist _)))), ?_⟩
      clear hKc Kc hB8 hown hgr hat
      refine wpAnyE_all (rs := [10]) (by kernel_rfl) (by simp) (fun wa10 hwa10 hRwa10 i hi => ?_)
      have hB10 := hB9.next hwa10
      clear hB9 hwa10 hRwa10
      obtain rfl := List.mem_singleton.1 hi
      refine wpOp_step rfl (fun Kc hKc => ?_)
      obtain ⟨A1, c1, e1, _, _⟩ := own_nil_len (hB10.row 1 rfl)
      simp only at e1
      subst e1
      obtain ⟨A2, c2, e2, _, _⟩ := own_nil_len (hB10.row 0 rfl)
      simp only at e2
      subst e2
      go_simp
      refine hKc _ _ ⟨(hB10.keep (List.Sublist.cons _ (List.Sublist.cons_cons _ (List.nil_sublist _)))), ?_⟩
      clear hKc Kc
      refine wpAnyE_all (rs := [11]) (by kernel_rfl) (by simp) (fun wa11 hwa11 hRwa11 i hi => ?_)
      have hB11 := hB10.next hwa11
      clear hB10 hwa11 hRwa11
      obtain rfl := List.mem_singleton.1 hi
      refine wpOp_step rfl (fun Kc hKc => ?_)
      have c_out := fun j => cell_of_row _ _ j _ _ _ (hB11.get 0 rfl)
      have z_out := hB11.lt 0 rfl
      have f_out := fun j => frozen_of_row _ _ j _ _ (hB11.get 0 rfl)
      go_simp
      have hB12 := hB11.put3 0 rfl (.int .i64 K.len) (.slice A1 K.cuts.length c1) (.slice A2 K.dens.length c2)
      refine hKc _ _ ⟨(hB12.keep (List.Sublist.cons _ (List.Sublist.cons_cons _ (List.nil_sublist _)))), ?_⟩
      clear c_out z_out f_out hKc Kc hB11
      generalize ((wa11.setCell _ _).setCell _ _).setCell _ _ = wb12 at *
      refine wpAnyE_done (by kernel_rfl) (fun wd13 hwd13 hRwd13 => ?_) _
      refine NoPanic.normal ?_
      have hB13 := hB12.next hwd13
      clear hB12 hwd13 hRwd13
      have HO1 := hB13.row 1 rfl
      have HO2 := hB13.row 0 rfl
      simp only [Nat.zero_add, List.nil_append] at HO1 HO2
      have HE := Lib.hid (show KOwn w.heap.size _ (.slice A1 K.cuts.length c1) (.slice A2 K.dens.length c2) K from ⟨HO1, HO2, HH.out.w0, HH.out.w1⟩)
      have HBw := Lib.hid hB13.below
      clear HO1 HO2
      have c_out := fun j => cell_of_row _ _ j _ _ _ (hB13.get 0 rfl)
      have z_out := hB13.lt 0 rfl
      have f_out := fun j => frozen_of_row _ _ j _ _ (hB13.get 0 rfl)
      clear hB13
      go_wp2_with fail
      refine bodyPost_ret (v := kV K.len (.slice A1 K.cuts.length c1) (.slice A2 K.dens.length c2)) (by simp [results, Try.results123, go_sem, c_out, f_out, z_out]) rfl ?_
      exact ⟨_, _, rfl, HE.out, HBw.out⟩
    · obtain rfl := List.mem_singleton.1 hi
      refine wpOp_step rfl (fun Kc hKc => ?_)
      go_simp
      have hB5 := hB4.addR (one_alloc wa4 (.cells #[] 3)) ⟨.slice (some ⟨wa4.heap.size, 0, none⟩) 0 0, 3, 1, 0, []⟩ (World.ownsRow_lit wa4 #[] 0 (Nat.le_refl _) (by unfold maxLen; omega) rfl)
      refine hKc _ _ ⟨(hB5.keep (List.Sublist.cons _ (List.Sublist.cons_cons _ (List.nil_sublist _)))), ?_⟩
      clear hKc Kc hB4
      generalize wa4.heap.size = g2 at *
      generalize wa4.alloc _ = wb14 at *
      refine wpAnyE_all (rs := [5]) (by kernel_rfl) (by simp) (fun wa15 hwa15 hRwa15 i hi => ?_)
      have hB6 := hB5.next hwa15
      clear hB5 hwa15 hRwa15
      obtain rfl := List.mem_singleton.1 hi
      refine wpOp_step rfl (fun Kc hKc => ?_)
      refine step_append_any _ rfl (.tmp 5) (.tmp 7) 22 rfl w.heap.size 3 i0 (.int .i64 0) 1 8 Try.underlying22 hi0 hz0 hz1 hz2 rfl (by omega) (.slice (some ⟨g1, 0, none⟩) 0 0) 0 [] rfl (hB6.row 1 rfl) _ A K.cuts.length c (intsV K.cuts) rfl (HH.out.next hB6.below).cuts.reads (one_cells _) (by unfold maxLen; omega) (by omega) hB6.below.size ?_
      intro v1 wb16 hown hgr hat
      have hB7 := hB6.grow 1 rfl hgr hown hat
      refine hKc _ _ ⟨(hB7.keep (List.Sublist.cons _ (List.Sublist.cons_cons _ (List.nil_sublist _)))), ?_⟩
      clear hKc Kc hB6 hown hgr hat
      refine wpAnyE_all (rs := [9]) (by kernel_rfl) (by simp) (fun wa17 hwa17 hRwa17 i hi => ?_)
      have hB8 := hB7.next hwa17
      clear hB7 hwa17 hRwa17
      obtain rfl := List.mem_singleton.1 hi
      refine wpOp_step rfl (fun Kc hKc => ?_)
      refine step_append_any _ rfl (.tmp 9) (.tmp 11) 22 rfl w.heap.size 3 i0 (.int .i64 0) 1 8 Try.underlying22 hi0 hz0 hz1 hz2 rfl (by omega) (.slice (some ⟨g2, 0, none⟩) 0 0) 0 [] rfl (hB8.row 0 rfl) _ R K.dens.length d (intsV K.dens) rfl (HH.out.next hB8.below).dens.reads (one_cells _) (by unfold maxLen; omega) (by omega) hB8.below.size ?_
      intro v2 wb18 hown hgr hat
      have hB9 := hB8.grow 0 rfl hgr hown hat
      refine hKc _ _ ⟨(hB9.keep (List.Sublist.cons _ (List.Sublist.cons_cons _ (List.nil_sublist _)))), ?_⟩
      clear hKc Kc hB8 hown hgr hat
      refine wpAnyE_all (rs := [10]) (by kernel_rfl) (by simp) (fun wa19 hwa19 hRwa19 i hi => ?_)
      have hB10 := hB9.next hwa19
      clear hB9 hwa19 hRwa19
      obtain rfl := List.mem_singleton.1 hi
      refine wpOp_step rfl (fun Kc hKc => ?_)
      obtain ⟨A1, c1, e1, _, _⟩ := own_nil_len (hB10.row 1 rfl)
      simp only at e1
      subst e1
      obtain ⟨A2, c2, e2, _, _⟩ := own_nil_len (hB10.row 0 rfl)
      simp only at e2
      subst e2
      go_simp
      refine hKc _ _ ⟨(hB10.keep (List.Sublist.cons _ (List.Sublist.cons_cons _ (List.nil_sublist _)))), ?_⟩
      clear hKc Kc
      refine wpAnyE_all (rs := [11]) (by kernel_rfl) (by simp) (fun wa20 hwa20 hRwa20 i hi => ?_)
      have hB11 := hB10.next hwa20
      clear hB10 hwa20 hRwa20
      obtain rfl := List.mem_singleton.1 hi
      refine wpOp_step rfl (fun Kc hKc => ?_)
      have c_out := fun j => cell_of_row _ _ j _ _ _ (hB11.get 0 rfl)
      have z_out := hB11.lt 0 rfl
      have f_out := fun j => frozen_of_row _ _ j _ _ (hB11.get 0 rfl)
      go_simp
      have hB12 := hB11.put3 0 rfl (.int .i64 K.len) (.slice A1 K.cuts.length c1) (.slice A2 K.dens.length c2)
      refine hKc _ _ ⟨(hB12.keep (List.Sublist.cons _ (List.Sublist.cons_cons _ (List.nil_sublist _)))), ?_⟩
      clear c_out z_out f_out hKc Kc hB11
      generalize ((wa20.setCell _ _).setCell _ _).setCell _ _ = wb21 at *
      refine wpAnyE_done (by kernel_rfl) (fun wd22 hwd22 hRwd22 => ?_) _
      refine NoPanic.normal ?_
      have hB13 := hB12.next hwd22
      clear hB12 hwd22 hRwd22
      have HO1 := hB13.row 1 rfl
      have HO2 := hB13.row 0 rfl
      simp only [Nat.zero_add, List.nil_append] at HO1 HO2
      have HE := Lib.hid (show KOwn w.heap.size _ (.slice A1 K.cuts.length c1) (.slice A2 K.dens.length c2) K from ⟨HO1, HO2, HH.out.w0, HH.out.w1⟩)
      have HBw := Lib.hid hB13.below
      clear HO1 HO2
      have c_out := fun j => cell_of_row _ _ j _ _ _ (hB13.get 0 rfl)
      have z_out := hB13.lt 0 rfl
      have f_out := fun j => frozen_of_row _ _ j _ _ (hB13.get 0 rfl)
      clear hB13
      go_wp2_with fail
      refine bodyPost_ret (v := kV K.len (.slice A1 K.cuts.length c1) (.slice A2 K.dens.length c2)) (by simp [results, Try.results123, go_sem, c_out, f_out, z_out]) rfl ?_
      exact ⟨_, _, rfl, HE.out, HBw.out⟩
  · obtain rfl := List.mem_singleton.1 hi
    refine wpOp_step rfl (fun Kc hKc => ?_)
    go_simp
    have hB3 := hB2.addR (one_alloc wa2 (.cells #[] 3)) ⟨.slice (some ⟨wa2.heap.size, 0, none⟩) 0 0, 3, 1, 0, []⟩ (World.ownsRow_lit wa2 #[] 0 (Nat.le_refl _) (by unfold maxLen; omega) rfl)
    refine hKc _ _ ⟨(hB3.keep (List.Sublist.cons _ (List.Sublist.cons_cons _ (List.nil_sublist _)))), ?_⟩
    clear hKc Kc hB2
    generalize wa2.heap.size = g2 at *
    generalize wa2.alloc _ = wb23 at *
    refine wpAnyE_all (rs := [2]) (by kernel_rfl) (by simp) (fun wa24 hwa24 hRwa24 i hi => ?_)
    have hB4 := hB3.next hwa24
    clear hB3 hwa24 hRwa24
    obtain rfl := List.mem_singleton.1 hi
    refine wpOp_step rfl (fun Kc hKc => ?_)
    go_simp
    have hB5 := hB4.addR (one_alloc wa24 (.cells #[] 3)) ⟨.slice (some ⟨wa24.heap.size, 0, none⟩) 0 0, 3, 1, 0, []⟩ (World.ownsRow_lit wa24 #[] 0 (Nat.le_refl _) (by unfold maxLen; omega) rfl)
    refine hKc _ _ ⟨(hB5.keep (List.Sublist.cons _ (List.Sublist.cons_cons _ (List.nil_sublist _)))), ?_⟩
    clear hKc Kc hB4
    generalize wa24.heap.size = g1 at *
    generalize wa24.alloc _ = wb25 at *
    refine wpAnyE_all (rs := [5]) (by kernel_rfl) (by simp) (fun wa26 hwa26 hRwa26 i hi => ?_)
    have hB6 := hB5.next hwa26
    clear hB5 hwa26 hRwa26
    obtain rfl := List.mem_singleton.1 hi
    refine wpOp_step rfl (fun Kc hKc => ?_)
    refine step_append_any _ rfl (.tmp 5) (.tmp 7) 22 rfl w.heap.size 3 i0 (.int .i64 0) 1 8 Try.underlying22 hi0 hz0 hz1 hz2 rfl (by omega) (.slice (some ⟨g1, 0, none⟩) 0 0) 0 [] rfl (hB6.row 0 rfl) _ A K.cuts.length c (intsV K.cuts) rfl (HH.out.next hB6.below).cuts.reads (one_cells _) (by unfold maxLen; omega) (by omega) hB6.below.size ?_
    intro v1 wb27 hown hgr hat
    have hB7 := hB6.grow 0 rfl hgr hown hat
    refine hKc _ _ ⟨(hB7.keep (List.Sublist.cons _ (List.Sublist.cons_cons _ (List.nil_sublist _)))), ?_⟩
    clear hKc Kc hB6 hown hgr hat
    refine wpAnyE_all (rs := [9]) (by kernel_rfl) (by simp) (fun wa28 hwa28 hRwa28 i hi => ?_)
    have hB8 := hB7.next hwa28
    clear hB7 hwa28 hRwa28
    obtain rfl := List.mem_singleton.1 hi
    refine wpOp_step rfl (fun Kc hKc => ?_)
    refine step_append_any _ rfl (.tmp 9) (.tmp 11) 22 rfl w.heap.size 3 i0 (.int .i64 0) 1 8 Try.underlying22 hi0 hz0 hz1 hz2 rfl (by omega) (.slice (some ⟨g2, 0, none⟩) 0 0) 0 [] rfl (hB8.row 1 rfl) _ R K.dens.length d (intsV K.dens) rfl (HH.out.next hB8.below).dens.reads (one_cells _) (by unfold maxLen; omega) (by omega) hB8.below.size ?_
    intro v2 wb29 hown hgr hat
    have hB9 := hB8.grow 1 rfl hgr hown hat
    refine hKc _ _ ⟨(hB9.keep (List.Sublist.cons _ (List.Sublist.cons_cons _ (List.nil_sublist _)))), ?_⟩
    clear hKc Kc hB8 hown hgr hat
    refine wpAnyE_all (rs := [10]) (by kernel_rfl) (by simp) (fun wa30 hwa30 hRwa30 i hi => ?_)
    have hB10 := hB9.next hwa30
    clear hB9 hwa30 hRwa30
    obtain rfl := List.mem_singleton.1 hi
    refine wpOp_step rfl (fun Kc hKc => ?_)
    obtain ⟨A1, c1, e1, _, _⟩ := own_nil_len (hB10.row 0 rfl)
    simp only at e1
    subst e1
    obtain ⟨A2, c2, e2, _, _⟩ := own_nil_len (hB10.row 1 rfl)
    simp only at e2
    subst e2
    go_simp
    refine hKc _ _ ⟨(hB10.keep (List.Sublist.cons _ (List.Sublist.cons_cons _ (List.nil_sublist _)))), ?_⟩
    clear hKc Kc
    refine wpAnyE_all (rs := [11]) (by kernel_rfl) (by simp) (fun wa31 hwa31 hRwa31 i hi => ?_)
    have hB11 := hB10.next hwa31
    clear hB10 hwa31 hRwa31
    obtain rfl := List.mem_singleton.1 hi
    refine wpOp_step rfl (fun Kc hKc => ?_)
    have c_out := fun j => cell_of_row _ _ j _ _ _ (hB11.get 0 rfl)
    have z_out := hB11.lt 0 rfl
    have f_out := fun j => frozen_of_row _ _ j _ _ (hB11.get 0 rfl)
    go_simp
    have hB12 := hB11.put3 0 rfl (.int .i64 K.len) (.slice A1 K.cuts.length c1) (.slice A2 K.dens.length c2)
    refine hKc _ _ ⟨(hB12.keep (List.Sublist.cons _ (List.Sublist.cons_cons _ (List.nil_sublist _)))), ?_⟩
    clear c_out z_out f_out hKc Kc hB11
    generalize ((wa31.setCell _ _).setCell _ _).setCell _ _ = wb32 at *
    refine wpAnyE_done (by kernel_rfl) (fun wd33 hwd33 hRwd33 => ?_) _
    refine NoPanic.normal ?_
    have hB13 := hB12.next hwd33
    clear hB12 hwd33 hRwd33
    have HO1 := hB13.row 0 rfl
    have HO2 := hB13.row 1 rfl
    simp only [Nat.zero_add, List.nil_append] at HO1 HO2
    have HE := Lib.hid (show KOwn w.heap.size _ (.slice A1 K.cuts.length c1) (.slice A2 K.dens.length c2) K from ⟨HO1, HO2, HH.out.w0, HH.out.w1⟩)
    have HBw := Lib.hid hB13.below
    clear HO1 HO2
    have c_out := fun j => cell_of_row _ _ j _ _ _ (hB13.get 0 rfl)
    have z_out := hB13.lt 0 rfl
    have f_out := fun j => frozen_of_row _ _ j _ _ (hB13.get 0 rfl)
    clear hB13
    go_wp2_with fail
    refine bodyPost_ret (v := kV K.len (.slice A1 K.cuts.length c1) (.slice A2 K.dens.length c2)) (by simp [results, Try.results123, go_sem, c_out, f_out, z_out]) rfl ?_
    exact ⟨_, _, rfl, HE.out, HBw.out⟩
theorem Mx.swapR {w W : World} {L : List (Nat × Obj)} {p q : Rw} (h : Mx w L [p, q] W) : Mx w L [q, p] W := by
  have e : List.Perm [q, p] [p, q] := List.Perm.swap _ _ _
  exact ⟨h.bx, fun r hr => h.own r (e.mem_iff.1 hr), fun r hr => h.apart r (e.mem_iff.1 hr), (e.filterMap _).nodup_iff.2 h.nd⟩
theorem Ms.swapR {F : World → Prop} {w W : World} {L : List (Nat × Obj)} {p q : Rw} (h : Ms F w L [p, q] W) : Ms F w L [q, p] W := by
  have e : List.Perm [q, p] [p, q] := List.Perm.swap _ _ _
  refine ⟨h.mx.swapR, h.sep.less (fun m hm => ?_)⟩
  rcases List.mem_append.1 hm with u | u
  · exact List.mem_append_left _ u
  · exact List.mem_append_right _ ((e.filterMap _).mem_iff.1 u)
/-- What one more cake leaves. -/
def CkAt (K : Ck) (u v : Value) (V : World) : Prop := ∃ A c R d, u = .slice A K.cuts.length c ∧ v = .slice R K.dens.length d ∧ CIn V.heap.size V A c R d K ∧ Unf K R V
theorem KOwn.unf {B : Nat} {w : World} {u : Value} {K : Ck} {R : Option Addr} {d : Nat} (h : KOwn B w u (.slice R K.dens.length d) K) : Fresh B w (Unf K R) := by
  intro V h1 h2 ad e k hk
  have o := h.de
  obtain ⟨g, hg⟩ := own_someA o (by omega)
  rw [e] at hg
  obtain rfl := Option.some.inj hg
  rw [e] at o
  have f := o.frozenAt k
  have q := own_ge' o g rfl
  rw [add_mk, Nat.zero_add]
  have hb : V.heap[g]? = w.heap[g]? := h2 g q.1 q.2
  rw [frozen_block (V := w) hb]
  exact f
theorem KOwn.at_ {B : Nat} {w : World} {u v : Value} {K : Ck} (h : KOwn B w u v K) : Fresh B w (CkAt K u v) := by
  obtain ⟨A, c, R, d, rfl, rfl⟩ := h.shape
  exact fun V h1 h2 => ⟨A, c, R, d, rfl, rfl, h.fresh V h1 h2, h.unf V h1 h2⟩
/-- A meeting of sizes that are copied. -/
structure Small (acs : List Ac) (n : Nat) : Prop where
  m : acs.length ≤ 10
  n : n ≤ 2010
  own : ∀ (i : Nat) (a : Ac), acs[i]? = some a → a.own.big = false
  told : ∀ (i : Nat) (a : Ac), acs[i]? = some a → a.told.big = false
theorem code_big {K : Ck} (h : K.code = 0) : K.big = false := by
  have := Ck.ok_code h; have n2 := this.n2; have nc := this.nc
  unfold Ck.big; rw [decide_eq_false (by omega), decide_eq_false (by omega)]; rfl
theorem MeetOk.small {acs : List Ac} {l : List Qy} (h : MeetOk acs l) : Small acs l.length := ⟨by have := h.m; omega, by have := h.q; omega, fun i a hi => code_big (Ac.code_zero.1 (h.ok i a hi)).1, fun i a hi => code_big (Ac.code_zero.1 (h.ok i a hi)).2⟩
theorem small_big {ks : List Ck} (h : greatK ks = false) (i : Nat) (K : Ck) (hi : ks[i]? = some K) : K.big = false := by
  cases e : K.big with
  | false => rfl
  | true => rw [any_big hi e] at h; cases h
theorem greatM_small {acs : List Ac} {n : Nat} (h : greatM acs n = false) : Small acs n ∧ (n ≤ 30 ∨ 2000 < n) := by
  unfold greatM greatA at h
  simp only [Bool.or_eq_false_iff, Bool.and_eq_false_iff, decide_eq_false_iff_not] at h
  obtain ⟨⟨⟨⟨h1, h2⟩, h3⟩, h4⟩, h5⟩ := h
  exact ⟨⟨by omega, by omega, fun i a hi => small_big h2 i _ (cksOf_at (t := false) hi), fun i a hi => small_big h3 i _ (cksOf_at (t := true) hi)⟩, by omega⟩
theorem lay_more {V : World} {acs : List Ac} {xs : List Value} {k : Nat} {a : Ac} {u v u' v' : Value} (h : Lay kAcU V (acs.take k) xs) (hx : xs.length = (acs.take k).length * 8) (ha : acs[k]? = some a) (hw : a.wf) (h1 : CkAt a.own u v V) (h2 : CkAt a.told u' v' V) :
    Lay kAcU V (acs.take (k + 1)) (xs ++ [.int .i64 a.own.len, u, v, .int .i64 a.told.len, u', v', .int .i64 a.after, .int .i64 a.asked]) := by
  obtain ⟨A, c, R, d, rfl, rfl, hC, hU⟩ := h1
  obtain ⟨A', c', R', d', rfl, rfl, hC', _⟩ := h2
  rw [take_next ha]
  exact h.add hx ⟨A, c, R, d, A', c', R', d', rfl, hC, hC', hw, hU⟩
set_option maxRecDepth 100000 in
set_option maxHeartbeats 32000000 in
theorem begin_any (acs : List Ac) (S : Option Addr) (s : Nat) (l : List Qy) (B : Option Addr) (dl : Nat) (w : World) (h : AsIn w.heap.size w S s acs) (hl : LgIn w.heap.size w B dl l) (hsm : Small acs l.length) :
    Calls Try.prog 107 #[mV S s acs B dl l] w fun e w' => ∃ g va vl, e = .returned (.pointer (some ⟨g, 0, none⟩)) ∧ MtOwn w va vl ⟨acs, l⟩ [(g, .cells #[va, vl] 147)] w' := by
  obtain ⟨i0, hi0, hz0, hz1, hz2⟩ := info_parts infoAc
  obtain ⟨j0, hj0, hy0, hy1, hy2⟩ := info_parts infoQy
  have hm := hsm.m
  have hn := hsm.n
  have HSM := Lib.hid hsm
  have HWF := Lib.hid hl.wf
  have HH := Lib.hid (fun (W : World) (hW : Below w.heap.size w W) => h.next hW)
  have HLG := Lib.hid (fun (W : World) (hW : Below w.heap.size w W) => hl.next hW)
  have hM0 : Ms (fun V => Lay kAcU V (acs.take 0) []) w [(w.heap.size + 1, .cells #[.slice none 0 0, .slice none 0 0] 147), (w.heap.size, mB S s acs B dl l)] [⟨.slice none 0 0, 116, 8, (acs.take 0).length, []⟩] ((w.alloc (mB S s acs B dl l)).alloc (.cells #[.slice none 0 0, .slice none 0 0] 147)) :=
    (Ms.of_mx (((Mx.of_bx (Bx.start w)).new rfl _).new (by simp) _) (fun V => Lay.nil _ _)).nil _ _
  clear h hl hsm
  go_enter Try.func107, Try.ntmps107
  go_upto_region 2 with fail
  generalize hw0 : (w.alloc (mB S s acs B dl l)).alloc (.cells #[.slice none 0 0, .slice none 0 0] 147) = w0 at *
  clear hw0
  generalize w.heap.size + 1 = gO at *
  have c_m := fun j => cell_of_row _ _ j _ _ _ (hM0.get 1 rfl)
  have z_m := hM0.lt 1 rfl
  go_wp2_with fail
  clear c_m z_m
  go_loopw [11] (fun s4 wr => ∃ (k : Nat) (va : Value) (xs : List Value), k ≤ acs.length ∧ s4 = .int .i64 k ∧ Ms (fun V => Lay kAcU V (acs.take k) xs) w [(gO, .cells #[va, .slice none 0 0] 147), (w.heap.size, mB S s acs B dl l)] [⟨va, 116, 8, (acs.take k).length, xs⟩] wr) (fun s4 _ => acs.length - (intOf s4).toNat)
  case atStart => exact ⟨0, _, [], Nat.zero_le _, rfl, hM0⟩
  case round =>
    clear hM0
    obtain ⟨k, va, xs, hk, rfl, hMr⟩ := hrel
    by_cases hlt : k < acs.length
    rotate_left
    · obtain rfl : k = acs.length := by omega
      rw [List.take_length] at hMr
      obtain ⟨A9, c9, rfl, _, _⟩ := own_nil_len (v := va) (n := acs.length) (hMr.row 0 rfl)
      clear hk hlt HH HSM
      have hMl := (hMr.nil 84 8)
      clear hMr
      go_wp2_with fail
      refine wp_region_T (Bx w [(w.heap.size, mB S s acs B dl l)]) 13 (by kernel_rfl) (by rfl) ((hMl.keep (List.Sublist.cons _ (List.Sublist.cons_cons _ (List.nil_sublist _)))).drew) (fun wq1 hbq => ?_)
      have hB1 := hMl.next hbq
      clear hMl hbq
      refine wpAnyT_go (Bx.grows _ _) (hB1.keep (List.Sublist.cons _ (List.Sublist.cons_cons _ (List.nil_sublist _)))) [0, 1, 2, 3, 4, 6, 7] 6 (by kernel_rfl) ?_
      apply Exists.intro
      refine ⟨fun G hG hN => ?_, ?_⟩
      · have c_m := fun (e : GE (Bx w [(w.heap.size, mB S s acs B dl l)]) G) j => cell_of_row e.w _ j _ _ _ ((GE.h e).get 0 rfl)
        have z_m := fun (e : GE (Bx w [(w.heap.size, mB S s acs B dl l)]) G) => (GE.h e).lt 0 rfl
        simp only [pickOps, List.getElem?_toArray, List.getElem?_cons_zero, List.getElem?_cons_succ]
        repeat (first | go_big_quiet_step (fail) | quiet_step (fail))
        exact wpQuiet_nil rfl
      refine wpAnyT_all (rs := [5]) (by kernel_rfl) (by simp) (fun wa2 hwa2 hRwa2 i hi => ?_)
      have hB2 := hB1.next hwa2
      clear hB1 hwa2 hRwa2
      obtain rfl := List.mem_singleton.1 hi
      refine wpOp_step rfl (fun Kc hKc => ?_)
      have c_out := fun j => cell_of_row _ _ j _ _ _ (hB2.get 0 rfl)
      have z_out := hB2.lt 0 rfl
      go_simp
      refine hKc _ _ ⟨(hB2.keep (List.Sublist.cons _ (List.Sublist.cons_cons _ (List.nil_sublist _)))), ?_⟩
      clear hKc Kc
      clear c_out z_out
      refine wpAnyT_all (rs := [8]) (by kernel_rfl) (by simp) (fun wa3 hwa3 hRwa3 i hi => ?_)
      have hB3 := hB2.next hwa3
      clear hB2 hwa3 hRwa3
      obtain rfl := List.mem_singleton.1 hi
      refine wpOp_step rfl (fun Kc hKc => ?_)
      refine step_append_any _ rfl (.tmp 41) (.tmp 43) 59 rfl w.heap.size 84 j0 (.agg #[.int .i64 0, .int .u8 0, .int .i64 0, .int .i64 0, .int .i64 0, .int .i64 0, .int .i64 0, .int .i64 0]) 8 64 Try.underlying59 hj0 hy0 hy1 hy2 rfl (by omega) (.slice none 0 0) 0 [] rfl (hB3.row 0 rfl) _ B l.length dl (lgV l) rfl (LgIn.reads (HLG.out _ hB3.below)) (lgV_cells _) (by unfold maxLen; omega) (by omega) hB3.below.size ?_
      intro v8 wb4 hown hgr hat
      simp only [Nat.zero_add, List.nil_append] at hown
      obtain ⟨A8, c8, rfl, _, _⟩ := own_nil_len hown
      have hB4 := hB3.grow 0 rfl hgr hown hat
      refine hKc _ _ ⟨(hB4.keep (List.Sublist.cons _ (List.Sublist.cons_cons _ (List.nil_sublist _)))), ?_⟩
      clear hKc Kc hB3 hown hgr hat
      refine wpAnyT_go (Bx.grows _ _) (hB4.keep (List.Sublist.cons _ (List.Sublist.cons_cons _ (List.nil_sublist _)))) [9, 10, 11] 1 (by kernel_rfl) ?_
      apply Exists.intro
      refine ⟨fun G hG hN => ?_, ?_⟩
      · have c_m := fun (e : GE (Bx w [(w.heap.size, mB S s acs B dl l)]) G) j => cell_of_row e.w _ j _ _ _ ((GE.h e).get 0 rfl)
        have z_m := fun (e : GE (Bx w [(w.heap.size, mB S s acs B dl l)]) G) => (GE.h e).lt 0 rfl
        simp only [pickOps, List.getElem?_toArray, List.getElem?_cons_zero, List.getElem?_cons_succ]
        repeat (first | go_big_quiet_step (fail) | quiet_step (fail))
        exact wpQuiet_nil rfl
      refine wpAnyT_all (rs := [12]) (by kernel_rfl) (by simp) (fun wa5 hwa5 hRwa5 i hi => ?_)
      have hB5 := hB4.next hwa5
      clear hB4 hwa5 hRwa5
      obtain rfl := List.mem_singleton.1 hi
      refine wpOp_step rfl (fun Kc hKc => ?_)
      have c_out := fun j => cell_of_row _ _ j _ _ _ (hB5.get 0 rfl)
      have z_out := hB5.lt 0 rfl
      have f_out := fun j => frozen_of_row _ _ j _ _ (hB5.get 0 rfl)
      go_simp
      have hB6 := hB5.set 0 rfl 1 (.slice A8 l.length c8)
      refine hKc _ _ ⟨(hB6.keep (List.Sublist.cons _ (List.Sublist.cons_cons _ (List.nil_sublist _)))), ?_⟩
      clear c_out z_out f_out hKc Kc hB5
      generalize wa5.setCell _ _ = wb6 at *
      refine wpAnyT_done (by kernel_rfl) (fun wd7 hwd7 hRwd7 => ?_) _
      refine NoPanic.normal ?_
      have hB7 := hB6.next hwd7
      clear hB6 hwd7 hRwd7
      have HE := Lib.hid (show MtOwn w (.slice A9 acs.length c9) (.slice A8 l.length c8) ⟨acs, l⟩ [(gO, .cells #[.slice A9 acs.length c9, .slice A8 l.length c8] 147)] wd7 from ⟨⟨xs, (hB7.swapR).subl (List.Sublist.cons_cons _ (List.nil_sublist _))⟩, HWF.out⟩)
      clear hB7
      go_wp2_with fail
      go_ret
      exact ⟨_, _, _, rfl, HE.out⟩
    obtain ⟨a, ha⟩ : ∃ a, acs[k]? = some a := ⟨_, List.getElem?_eq_getElem hlt⟩
    obtain ⟨ad, A, c, R, d, A', c', R', d', rfl, hb0, hC, hC', hwf, hat0⟩ := (HH.out _ (Below.refl _ _)).actor ha
    have hat := hat0.next hb0 hMr.below
    have hb := Nat.lt_of_lt_of_le hb0 hMr.below.size
    have HCI := Lib.hid (fun (W : World) (hW : Below w.heap.size w W) => And.intro (hC.next hW) (hC'.next hW))
    have HBG := Lib.hid (And.intro (HSM.out.own k a ha) (HSM.out.told k a ha))
    obtain ⟨z1, z2, z3, z4⟩ := idx_facts hlt (by omega)
    obtain ⟨c0, c1, c2, c3, c4, c5, c6, c7⟩ := hat
    have HLE := Lib.hid (And.intro (Nat.succ_le_of_lt hlt) (Nat.sub_lt_sub_left hlt (Nat.lt_succ_self k)))
    obtain ⟨nk, hnk⟩ : ∃ x, x = (acs.take k).length := ⟨_, rfl⟩
    rw [← hnk] at hMr
    have HNK := Lib.hid hnk
    have HLK := Lib.hid (show nk ≤ 10 by rw [hnk, List.length_take]; exact Nat.le_trans (Nat.min_le_right _ _) hm)
    have HT := Lib.hid (And.intro ha hwf)
    have HTL := Lib.hid (show (acs.take (k + 1)).length = nk + 1 by rw [hnk, take_next ha, List.length_append]; rfl)
    have HX := Lib.hid (show xs.length = (acs.take k).length * 8 by rw [← hnk]; exact (hMr.row 0 rfl).1)
    obtain ⟨A9, c9, rfl, _, _⟩ := own_nil_len (v := va) (n := nk) (hMr.row 0 rfl)
    clear hnk hk hlt ha hC hC' hwf HH HSM HLG hat0 hb0
    have c_m := fun j => cell_of_row _ _ j _ _ _ (hMr.get 1 rfl)
    have z_m := hMr.lt 1 rfl
    go_upto_region 5 with fail
    have hB21 := hMr.new rfl (acB a A c R d A' c' R' d')
    clear c_m z_m hMr c0 c1 c2 c3 c4 c5 c6 c7 hb
    generalize wr.heap.size = gA at *
    generalize wr.alloc _ = wa at *
    go_cut [] (fun wx => ∃ A7 c7_ R7 d7_ A6 c6_ R6 d6_, Ms (fun V => (Lay kAcU V (acs.take k) xs ∧ CkAt a.own (.slice A7 a.own.cuts.length c7_) (.slice R7 a.own.dens.length d7_) V) ∧ CkAt a.told (.slice A6 a.told.cuts.length c6_) (.slice R6 a.told.dens.length d6_) V) w [(gA, .cells #[.int .i64 a.own.len, .slice A7 a.own.cuts.length c7_, .slice R7 a.own.dens.length d7_, .int .i64 a.told.len, .slice A6 a.told.cuts.length c6_, .slice R6 a.told.dens.length d6_, .int .i64 a.after, .int .i64 a.asked] 116), (gO, .cells #[.slice A9 nk c9, .slice none 0 0] 147), (w.heap.size, mB (some ad) s acs B dl l)] [⟨.slice A9 nk c9, 116, 8, nk, xs⟩] wx)
    case first =>
      go_wp2_with fail
      refine wp_region_T (Bx w []) 10 (by kernel_rfl) (by rfl) ((hB21.keep (List.nil_sublist _)).drew) (fun wq8 hbq => ?_)
      have hB22 := hB21.next hbq
      clear hB21 hbq
      refine wpAnyT_go (Bx.grows _ _) (hB22.keep (List.nil_sublist _)) [0, 3] 8 (by kernel_rfl) ?_
      apply Exists.intro
      refine ⟨fun G hG hN => ?_, ?_⟩
      · simp only [pickOps, List.getElem?_toArray, List.getElem?_cons_zero, List.getElem?_cons_succ]
        repeat (first | go_big_quiet_step (fail) | quiet_step (fail))
        exact wpQuiet_nil rfl
      refine wpAnyT_all (rs := [1, 4]) (by kernel_rfl) (by simp) (fun wa9 hwa9 hRwa9 i hi => ?_)
      have hB23 := hB22.next hwa9
      clear hB22 hwa9 hRwa9
      rcases List.mem_cons.1 hi with rfl | hi
      · refine wpOp_step rfl (fun Kc hKc => ?_)
        have c_a := fun j => cell_of_row _ _ j _ _ _ (hB23.get 0 rfl)
        have z_a := hB23.lt 0 rfl
        go_simp
        refine hKc _ _ ⟨(hB23.keep (List.nil_sublist _)), ?_⟩
        clear hKc Kc
        clear c_a z_a
        refine wpAnyT_all (rs := [2, 4]) (by kernel_rfl) (by simp) (fun wa10 hwa10 hRwa10 i hi => ?_)
        have hB24 := hB23.next hwa10
        clear hB23 hwa10 hRwa10
        rcases List.mem_cons.1 hi with rfl | hi
        · refine wpOp_step rfl (fun Kc hKc => ?_)
          go_simp
          refine Calls.mono (agtwin_any a.own A c R d _ (HCI.out _ hB24.below).1 HBG.out.1) ?_
          rintro e wv11 ⟨u7, t7, rfl, hk7, hb⟩
          obtain ⟨A7, c7_, R7, d7_, rfl, rfl⟩ := hk7.shape
          have hB25 := hB24.call hb hk7.at_
          clear hb hk7
          refine hKc _ _ ⟨(hB25.keep (List.nil_sublist _)), ?_⟩
          clear hKc Kc hB24
          refine wpAnyT_all (rs := [4]) (by kernel_rfl) (by simp) (fun wa12 hwa12 hRwa12 i hi => ?_)
          have hB26 := hB25.next hwa12
          clear hB25 hwa12 hRwa12
          obtain rfl := List.mem_singleton.1 hi
          refine wpOp_step rfl (fun Kc hKc => ?_)
          have c_a := fun j => cell_of_row _ _ j _ _ _ (hB26.get 0 rfl)
          have z_a := hB26.lt 0 rfl
          go_simp
          refine hKc _ _ ⟨(hB26.keep (List.nil_sublist _)), ?_⟩
          clear hKc Kc
          clear c_a z_a
          refine wpAnyT_go (Bx.grows _ _) (hB26.keep (List.nil_sublist _)) [6] 4 (by kernel_rfl) ?_
          apply Exists.intro
          refine ⟨fun G hG hN => ?_, ?_⟩
          · simp only [pickOps, List.getElem?_toArray, List.getElem?_cons_zero, List.getElem?_cons_succ]
            repeat (first | go_big_quiet_step (fail) | quiet_step (fail))
            exact wpQuiet_nil rfl
          refine wpAnyT_all (rs := [5]) (by kernel_rfl) (by simp) (fun wa13 hwa13 hRwa13 i hi => ?_)
          have hB27 := hB26.next hwa13
          clear hB26 hwa13 hRwa13
          obtain rfl := List.mem_singleton.1 hi
          refine wpOp_step rfl (fun Kc hKc => ?_)
          go_simp
          refine Calls.mono (agtwin_any a.told A' c' R' d' _ (HCI.out _ hB27.below).2 HBG.out.2) ?_
          rintro e wv14 ⟨u6, t6, rfl, hk6, hb⟩
          obtain ⟨A6, c6_, R6, d6_, rfl, rfl⟩ := hk6.shape
          have hB28 := hB27.call hb hk6.at_
          clear hb hk6
          refine hKc _ _ ⟨(hB28.keep (List.nil_sublist _)), ?_⟩
          clear hKc Kc hB27
          refine wpAnyT_all (rs := [7]) (by kernel_rfl) (by simp) (fun wa15 hwa15 hRwa15 i hi => ?_)
          have hB29 := hB28.next hwa15
          clear hB28 hwa15 hRwa15
          obtain rfl := List.mem_singleton.1 hi
          refine wpOp_step rfl (fun Kc hKc => ?_)
          have c_a := fun j => cell_of_row _ _ j _ _ _ (hB29.get 0 rfl)
          have z_a := hB29.lt 0 rfl
          have f_a := fun j => frozen_of_row _ _ j _ _ (hB29.get 0 rfl)
          go_simp
          have hB30 := hB29.put3 0 rfl 0 (.int .i64 a.own.len) (.slice A7 a.own.cuts.length c7_) (.slice R7 a.own.dens.length d7_)
          refine hKc _ _ ⟨(hB30.keep (List.nil_sublist _)), ?_⟩
          clear c_a z_a f_a hKc Kc hB29
          generalize ((wa15.setCell _ _).setCell _ _).setCell _ _ = wb16 at *
          refine wpAnyT_go (Bx.grows _ _) (hB30.keep (List.nil_sublist _)) [8] 1 (by kernel_rfl) ?_
          apply Exists.intro
          refine ⟨fun G hG hN => ?_, ?_⟩
          · simp only [pickOps, List.getElem?_toArray, List.getElem?_cons_zero, List.getElem?_cons_succ]
            repeat (first | go_big_quiet_step (fail) | quiet_step (fail))
            exact wpQuiet_nil rfl
          refine wpAnyT_all (rs := [9]) (by kernel_rfl) (by simp) (fun wa17 hwa17 hRwa17 i hi => ?_)
          have hB31 := hB30.next hwa17
          clear hB30 hwa17 hRwa17
          obtain rfl := List.mem_singleton.1 hi
          refine wpOp_step rfl (fun Kc hKc => ?_)
          have c_a := fun j => cell_of_row _ _ j _ _ _ (hB31.get 0 rfl)
          have z_a := hB31.lt 0 rfl
          have f_a := fun j => frozen_of_row _ _ j _ _ (hB31.get 0 rfl)
          go_simp
          have hB32 := hB31.put3 0 rfl 3 (.int .i64 a.told.len) (.slice A6 a.told.cuts.length c6_) (.slice R6 a.told.dens.length d6_)
          refine hKc _ _ ⟨(hB32.keep (List.nil_sublist _)), ?_⟩
          clear c_a z_a f_a hKc Kc hB31
          generalize ((wa17.setCell _ _).setCell _ _).setCell _ _ = wb18 at *
          refine wpAnyT_done (by kernel_rfl) (fun wd19 hwd19 hRwd19 => ?_) _
          refine NoPanic.normal ?_
          have hB33 := hB32.next hwd19
          clear hB32 hwd19 hRwd19
          have HM := Lib.hid (show Ms (fun V => (Lay kAcU V (acs.take k) xs ∧ CkAt a.own (.slice A7 a.own.cuts.length c7_) (.slice R7 a.own.dens.length d7_) V) ∧ CkAt a.told (.slice A6 a.told.cuts.length c6_) (.slice R6 a.told.dens.length d6_) V) w [(gA, .cells #[.int .i64 a.own.len, .slice A7 a.own.cuts.length c7_, .slice R7 a.own.dens.length d7_, .int .i64 a.told.len, .slice A6 a.told.cuts.length c6_, .slice R6 a.told.dens.length d6_, .int .i64 a.after, .int .i64 a.asked] 116), (gO, .cells #[.slice A9 nk c9, .slice none 0 0] 147), (w.heap.size, mB (some ad) s acs B dl l)] [⟨.slice A9 nk c9, 116, 8, nk, xs⟩] wd19 from hB33)
          clear hB33
          go_wp2_with fail
          go_meet
          exact ⟨_, _, _, _, _, _, _, _, HM.out⟩
        · obtain rfl := List.mem_singleton.1 hi
          refine wpOp_step rfl (fun Kc hKc => ?_)
          have c_a := fun j => cell_of_row _ _ j _ _ _ (hB24.get 0 rfl)
          have z_a := hB24.lt 0 rfl
          go_simp
          refine hKc _ _ ⟨(hB24.keep (List.nil_sublist _)), ?_⟩
          clear hKc Kc
          clear c_a z_a
          refine wpAnyT_all (rs := [2]) (by kernel_rfl) (by simp) (fun wa20 hwa20 hRwa20 i hi => ?_)
          have hB25 := hB24.next hwa20
          clear hB24 hwa20 hRwa20
          obtain rfl := List.mem_singleton.1 hi
          refine wpOp_step rfl (fun Kc hKc => ?_)
          go_simp
          refine Calls.mono (agtwin_any a.own A c R d _ (HCI.out _ hB25.below).1 HBG.out.1) ?_
          rintro e wv21 ⟨u7, t7, rfl, hk7, hb⟩
          obtain ⟨A7, c7_, R7, d7_, rfl, rfl⟩ := hk7.shape
          have hB26 := hB25.call hb hk7.at_
          clear hb hk7
          refine hKc _ _ ⟨(hB26.keep (List.nil_sublist _)), ?_⟩
          clear hKc Kc hB25
          refine wpAnyT_go (Bx.grows _ _) (hB26.keep (List.nil_sublist _)) [6] 4 (by kernel_rfl) ?_
          apply Exists.intro
          refine ⟨fun G hG hN => ?_, ?_⟩
          · simp only [pickOps, List.getElem?_toArray, List.getElem?_cons_zero, List.getElem?_cons_succ]
            repeat (first | go_big_quiet_step (fail) | quiet_step (fail))
            exact wpQuiet_nil rfl
          refine wpAnyT_all (rs := [5]) (by kernel_rfl) (by simp) (fun wa22 hwa22 hRwa22 i hi => ?_)
          have hB27 := hB26.next hwa22
          clear hB26 hwa22 hRwa22
          obtain rfl := List.mem_singleton.1 hi
          refine wpOp_step rfl (fun Kc hKc => ?_)
          go_simp
          refine Calls.mono (agtwin_any a.told A' c' R' d' _ (HCI.out _ hB27.below).2 HBG.out.2) ?_
          rintro e wv23 ⟨u6, t6, rfl, hk6, hb⟩
          obtain ⟨A6, c6_, R6, d6_, rfl, rfl⟩ := hk6.shape
          have hB28 := hB27.call hb hk6.at_
          clear hb hk6
          refine hKc _ _ ⟨(hB28.keep (List.nil_sublist _)), ?_⟩
          clear hKc Kc hB27
          refine wpAnyT_all (rs := [7]) (by kernel_rfl) (by simp) (fun wa24 hwa24 hRwa24 i hi => ?_)
          have hB29 := hB28.next hwa24
          clear hB28 hwa24 hRwa24
          obtain rfl := List.mem_singleton.1 hi
          refine wpOp_step rfl (fun Kc hKc => ?_)
          have c_a := fun j => cell_of_row _ _ j _ _ _ (hB29.get 0 rfl)
          have z_a := hB29.lt 0 rfl
          have f_a := fun j => frozen_of_row _ _ j _ _ (hB29.get 0 rfl)
          go_simp
          have hB30 := hB29.put3 0 rfl 0 (.int .i64 a.own.len) (.slice A7 a.own.cuts.length c7_) (.slice R7 a.own.dens.length d7_)
          refine hKc _ _ ⟨(hB30.keep (List.nil_sublist _)), ?_⟩
          clear c_a z_a f_a hKc Kc hB29
          generalize ((wa24.setCell _ _).setCell _ _).setCell _ _ = wb25 at *
          refine wpAnyT_go (Bx.grows _ _) (hB30.keep (List.nil_sublist _)) [8] 1 (by kernel_rfl) ?_
          apply Exists.intro
          refine ⟨fun G hG hN => ?_, ?_⟩
          · simp only [pickOps, List.getElem?_toArray, List.getElem?_cons_zero, List.getElem?_cons_succ]
            repeat (first | go_big_quiet_step (fail) | quiet_step (fail))
            exact wpQuiet_nil rfl
          refine wpAnyT_all (rs := [9]) (by kernel_rfl) (by simp) (fun wa26 hwa26 hRwa26 i hi => ?_)
          have hB31 := hB30.next hwa26
          clear hB30 hwa26 hRwa26
          obtain rfl := List.mem_singleton.1 hi
          refine wpOp_step rfl (fun Kc hKc => ?_)
          have c_a := fun j => cell_of_row _ _ j _ _ _ (hB31.get 0 rfl)
          have z_a := hB31.lt 0 rfl
          have f_a := fun j => frozen_of_row _ _ j _ _ (hB31.get 0 rfl)
          go_simp
          have hB32 := hB31.put3 0 rfl 3 (.int .i64 a.told.len) (.slice A6 a.told.cuts.length c6_) (.slice R6 a.told.dens.length d6_)
          refine hKc _ _ ⟨(hB32.keep (List.nil_sublist _)), ?_⟩
          clear c_a z_a f_a hKc Kc hB31
          generalize ((wa26.setCell _ _).setCell _ _).setCell _ _ = wb27 at *
          refine wpAnyT_done (by kernel_rfl) (fun wd28 hwd28 hRwd28 => ?_) _
          refine NoPanic.normal ?_
          have hB33 := hB32.next hwd28
          clear hB32 hwd28 hRwd28
          have HM := Lib.hid (show Ms (fun V => (Lay kAcU V (acs.take k) xs ∧ CkAt a.own (.slice A7 a.own.cuts.length c7_) (.slice R7 a.own.dens.length d7_) V) ∧ CkAt a.told (.slice A6 a.told.cuts.length c6_) (.slice R6 a.told.dens.length d6_) V) w [(gA, .cells #[.int .i64 a.own.len, .slice A7 a.own.cuts.length c7_, .slice R7 a.own.dens.length d7_, .int .i64 a.told.len, .slice A6 a.told.cuts.length c6_, .slice R6 a.told.dens.length d6_, .int .i64 a.after, .int .i64 a.asked] 116), (gO, .cells #[.slice A9 nk c9, .slice none 0 0] 147), (w.heap.size, mB (some ad) s acs B dl l)] [⟨.slice A9 nk c9, 116, 8, nk, xs⟩] wd28 from hB33)
          clear hB33
          go_wp2_with fail
          go_meet
          exact ⟨_, _, _, _, _, _, _, _, HM.out⟩
      · obtain rfl := List.mem_singleton.1 hi
        refine wpOp_step rfl (fun Kc hKc => ?_)
        have c_a := fun j => cell_of_row _ _ j _ _ _ (hB23.get 0 rfl)
        have z_a := hB23.lt 0 rfl
        go_simp
        refine hKc _ _ ⟨(hB23.keep (List.nil_sublist _)), ?_⟩
        clear hKc Kc
        clear c_a z_a
        refine wpAnyT_all (rs := [1]) (by kernel_rfl) (by simp) (fun wa29 hwa29 hRwa29 i hi => ?_)
        have hB24 := hB23.next hwa29
        clear hB23 hwa29 hRwa29
        obtain rfl := List.mem_singleton.1 hi
        refine wpOp_step rfl (fun Kc hKc => ?_)
        have c_a := fun j => cell_of_row _ _ j _ _ _ (hB24.get 0 rfl)
        have z_a := hB24.lt 0 rfl
        go_simp
        refine hKc _ _ ⟨(hB24.keep (List.nil_sublist _)), ?_⟩
        clear hKc Kc
        clear c_a z_a
        refine wpAnyT_all (rs := [2]) (by kernel_rfl) (by simp) (fun wa30 hwa30 hRwa30 i hi => ?_)
        have hB25 := hB24.next hwa30
        clear hB24 hwa30 hRwa30
        obtain rfl := List.mem_singleton.1 hi
        refine wpOp_step rfl (fun Kc hKc => ?_)
        go_simp
        refine Calls.mono (agtwin_any a.own A c R d _ (HCI.out _ hB25.below).1 HBG.out.1) ?_
        rintro e wv31 ⟨u7, t7, rfl, hk7, hb⟩
        obtain ⟨A7, c7_, R7, d7_, rfl, rfl⟩ := hk7.shape
        have hB26 := hB25.call hb hk7.at_
        clear hb hk7
        refine hKc _ _ ⟨(hB26.keep (List.nil_sublist _)), ?_⟩
        clear hKc Kc hB25
        refine wpAnyT_go (Bx.grows _ _) (hB26.keep (List.nil_sublist _)) [6] 4 (by kernel_rfl) ?_
        apply Exists.intro
        refine ⟨fun G hG hN => ?_, ?_⟩
        · simp only [pickOps, List.getElem?_toArray, List.getElem?_cons_zero, List.getElem?_cons_succ]
          repeat (first | go_big_quiet_step (fail) | quiet_step (fail))
          exact wpQuiet_nil rfl
        refine wpAnyT_all (rs := [5]) (by kernel_rfl) (by simp) (fun wa32 hwa32 hRwa32 i hi => ?_)
        have hB27 := hB26.next hwa32
        clear hB26 hwa32 hRwa32
        obtain rfl := List.mem_singleton.1 hi
        refine wpOp_step rfl (fun Kc hKc => ?_)
        go_simp
        refine Calls.mono (agtwin_any a.told A' c' R' d' _ (HCI.out _ hB27.below).2 HBG.out.2) ?_
        rintro e wv33 ⟨u6, t6, rfl, hk6, hb⟩
        obtain ⟨A6, c6_, R6, d6_, rfl, rfl⟩ := hk6.shape
        have hB28 := hB27.call hb hk6.at_
        clear hb hk6
        refine hKc _ _ ⟨(hB28.keep (List.nil_sublist _)), ?_⟩
        clear hKc Kc hB27
        refine wpAnyT_all (rs := [7]) (by kernel_rfl) (by simp) (fun wa34 hwa34 hRwa34 i hi => ?_)
        have hB29 := hB28.next hwa34
        clear hB28 hwa34 hRwa34
        obtain rfl := List.mem_singleton.1 hi
        refine wpOp_step rfl (fun Kc hKc => ?_)
        have c_a := fun j => cell_of_row _ _ j _ _ _ (hB29.get 0 rfl)
        have z_a := hB29.lt 0 rfl
        have f_a := fun j => frozen_of_row _ _ j _ _ (hB29.get 0 rfl)
        go_simp
        have hB30 := hB29.put3 0 rfl 0 (.int .i64 a.own.len) (.slice A7 a.own.cuts.length c7_) (.slice R7 a.own.dens.length d7_)
        refine hKc _ _ ⟨(hB30.keep (List.nil_sublist _)), ?_⟩
        clear c_a z_a f_a hKc Kc hB29
        generalize ((wa34.setCell _ _).setCell _ _).setCell _ _ = wb35 at *
        refine wpAnyT_go (Bx.grows _ _) (hB30.keep (List.nil_sublist _)) [8] 1 (by kernel_rfl) ?_
        apply Exists.intro
        refine ⟨fun G hG hN => ?_, ?_⟩
        · simp only [pickOps, List.getElem?_toArray, List.getElem?_cons_zero, List.getElem?_cons_succ]
          repeat (first | go_big_quiet_step (fail) | quiet_step (fail))
          exact wpQuiet_nil rfl
        refine wpAnyT_all (rs := [9]) (by kernel_rfl) (by simp) (fun wa36 hwa36 hRwa36 i hi => ?_)
        have hB31 := hB30.next hwa36
        clear hB30 hwa36 hRwa36
        obtain rfl := List.mem_singleton.1 hi
        refine wpOp_step rfl (fun Kc hKc => ?_)
        have c_a := fun j => cell_of_row _ _ j _ _ _ (hB31.get 0 rfl)
        have z_a := hB31.lt 0 rfl
        have f_a := fun j => frozen_of_row _ _ j _ _ (hB31.get 0 rfl)
        go_simp
        have hB32 := hB31.put3 0 rfl 3 (.int .i64 a.told.len) (.slice A6 a.told.cuts.length c6_) (.slice R6 a.told.dens.length d6_)
        refine hKc _ _ ⟨(hB32.keep (List.nil_sublist _)), ?_⟩
        clear c_a z_a f_a hKc Kc hB31
        generalize ((wa36.setCell _ _).setCell _ _).setCell _ _ = wb37 at *
        refine wpAnyT_done (by kernel_rfl) (fun wd38 hwd38 hRwd38 => ?_) _
        refine NoPanic.normal ?_
        have hB33 := hB32.next hwd38
        clear hB32 hwd38 hRwd38
        have HM := Lib.hid (show Ms (fun V => (Lay kAcU V (acs.take k) xs ∧ CkAt a.own (.slice A7 a.own.cuts.length c7_) (.slice R7 a.own.dens.length d7_) V) ∧ CkAt a.told (.slice A6 a.told.cuts.length c6_) (.slice R6 a.told.dens.length d6_) V) w [(gA, .cells #[.int .i64 a.own.len, .slice A7 a.own.cuts.length c7_, .slice R7 a.own.dens.length d7_, .int .i64 a.told.len, .slice A6 a.told.cuts.length c6_, .slice R6 a.told.dens.length d6_, .int .i64 a.after, .int .i64 a.asked] 116), (gO, .cells #[.slice A9 nk c9, .slice none 0 0] 147), (w.heap.size, mB (some ad) s acs B dl l)] [⟨.slice A9 nk c9, 116, 8, nk, xs⟩] wd38 from hB33)
        clear hB33
        go_wp2_with fail
        go_meet
        exact ⟨_, _, _, _, _, _, _, _, HM.out⟩
    case rest =>
      obtain ⟨A7, c7_, R7, d7_, A6, c6_, R6, d6_, hMc⟩ := hcut
      generalize wc = wb at *
      clear hB21
      go_wp2_with fail
      refine wp_region_T (Bx w [(gA, .cells #[.int .i64 a.own.len, .slice A7 a.own.cuts.length c7_, .slice R7 a.own.dens.length d7_, .int .i64 a.told.len, .slice A6 a.told.cuts.length c6_, .slice R6 a.told.dens.length d6_, .int .i64 a.after, .int .i64 a.asked] 116)]) 13 (by kernel_rfl) (by rfl) ((hMc.keep (List.Sublist.cons_cons _ (List.nil_sublist _))).drew) (fun wq39 hbq => ?_)
      have hB22 := hMc.next hbq
      clear hMc hbq
      refine wpAnyT_go (Bx.grows _ _) (hB22.keep (List.Sublist.cons_cons _ (List.nil_sublist _))) [0, 1, 2, 3, 4, 6] 7 (by kernel_rfl) ?_
      apply Exists.intro
      refine ⟨fun G hG hN => ?_, ?_⟩
      · have c_a := fun (e : GE (Bx w [(gA, .cells #[.int .i64 a.own.len, .slice A7 a.own.cuts.length c7_, .slice R7 a.own.dens.length d7_, .int .i64 a.told.len, .slice A6 a.told.cuts.length c6_, .slice R6 a.told.dens.length d6_, .int .i64 a.after, .int .i64 a.asked] 116)]) G) j => cell_of_row e.w _ j _ _ _ ((GE.h e).get 0 rfl)
        have z_a := fun (e : GE (Bx w [(gA, .cells #[.int .i64 a.own.len, .slice A7 a.own.cuts.length c7_, .slice R7 a.own.dens.length d7_, .int .i64 a.told.len, .slice A6 a.told.cuts.length c6_, .slice R6 a.told.dens.length d6_, .int .i64 a.after, .int .i64 a.asked] 116)]) G) => (GE.h e).lt 0 rfl
        simp only [pickOps, List.getElem?_toArray, List.getElem?_cons_zero, List.getElem?_cons_succ]
        repeat (first | go_big_quiet_step (fail) | quiet_step (fail))
        exact wpQuiet_nil rfl
      refine wpAnyT_all (rs := [5, 7]) (by kernel_rfl) (by simp) (fun wa40 hwa40 hRwa40 i hi => ?_)
      have hB23 := hB22.next hwa40
      clear hB22 hwa40 hRwa40
      rcases List.mem_cons.1 hi with rfl | hi
      · refine wpOp_step rfl (fun Kc hKc => ?_)
        have c_out := fun j => cell_of_row _ _ j _ _ _ (hB23.get 1 rfl)
        have z_out := hB23.lt 1 rfl
        go_simp
        refine hKc _ _ ⟨(hB23.keep (List.Sublist.cons_cons _ (List.nil_sublist _))), ?_⟩
        clear hKc Kc
        clear c_out z_out
        refine wpAnyT_all (rs := [7]) (by kernel_rfl) (by simp) (fun wa41 hwa41 hRwa41 i hi => ?_)
        have hB24 := hB23.next hwa41
        clear hB23 hwa41 hRwa41
        obtain rfl := List.mem_singleton.1 hi
        refine wpOp_step rfl (fun Kc hKc => ?_)
        go_simp
        have hB25 := hB24.new (g := wa41.heap.size) rfl (.cells #[.int .i64 a.own.len, .slice A7 a.own.cuts.length c7_, .slice R7 a.own.dens.length d7_, .int .i64 a.told.len, .slice A6 a.told.cuts.length c6_, .slice R6 a.told.dens.length d6_, .int .i64 a.after, .int .i64 a.asked] 116)
        refine hKc _ _ ⟨(hB25.keep (List.Sublist.cons _ (List.Sublist.cons_cons _ (List.nil_sublist _)))), ?_⟩
        clear hKc Kc hB24
        generalize wa41.heap.size = gl at *
        generalize wa41.alloc _ = wb42 at *
        refine wpAnyT_all (rs := [8]) (by kernel_rfl) (by simp) (fun wa43 hwa43 hRwa43 i hi => ?_)
        have hB26 := hB25.next hwa43
        clear hB25 hwa43 hRwa43
        obtain rfl := List.mem_singleton.1 hi
        refine wpOp_step rfl (fun Kc hKc => ?_)
        refine step_append_any _ rfl (.tmp 28) (.tmp 30) 58 rfl w.heap.size 116 i0 (.agg #[.int .i64 0, .slice none 0 0, .slice none 0 0, .int .i64 0, .slice none 0 0, .slice none 0 0, .int .i64 0, .int .i64 0]) 8 128 Try.underlying58 hi0 hz0 hz1 hz2 rfl (by omega) (.slice A9 nk c9) nk xs rfl (hB26.row 0 rfl) _ (some ⟨gl, 0, none⟩) 1 1 [.int .i64 a.own.len, .slice A7 a.own.cuts.length c7_, .slice R7 a.own.dens.length d7_, .int .i64 a.told.len, .slice A6 a.told.cuts.length c6_, .slice R6 a.told.dens.length d6_, .int .i64 a.after, .int .i64 a.asked] rfl (reads_lit (n := 1) (s := 8) (hB26.get 0 rfl) rfl) (by intro u hu; simp at hu; rcases hu with rfl | rfl | rfl | rfl | rfl | rfl | rfl | rfl <;> rfl) (by have := HLK.out; unfold maxLen; omega) (by have := HLK.out; omega) hB26.below.size ?_
        intro v8 wb44 hown hgr hat
        obtain ⟨A8, c8, rfl, _, _⟩ := own_nil_len hown
        have hB27 := hB26.grow 0 rfl hgr hown hat
        refine hKc _ _ ⟨(hB27.keep (List.Sublist.cons _ (List.Sublist.cons_cons _ (List.nil_sublist _)))), ?_⟩
        clear hKc Kc hB26 hown hgr hat
        refine wpAnyT_go (Bx.grows _ _) (hB27.keep (List.Sublist.cons _ (List.Sublist.cons_cons _ (List.nil_sublist _)))) [9, 10, 11] 1 (by kernel_rfl) ?_
        apply Exists.intro
        refine ⟨fun G hG hN => ?_, ?_⟩
        · have c_a := fun (e : GE (Bx w [(gA, .cells #[.int .i64 a.own.len, .slice A7 a.own.cuts.length c7_, .slice R7 a.own.dens.length d7_, .int .i64 a.told.len, .slice A6 a.told.cuts.length c6_, .slice R6 a.told.dens.length d6_, .int .i64 a.after, .int .i64 a.asked] 116)]) G) j => cell_of_row e.w _ j _ _ _ ((GE.h e).get 0 rfl)
          have z_a := fun (e : GE (Bx w [(gA, .cells #[.int .i64 a.own.len, .slice A7 a.own.cuts.length c7_, .slice R7 a.own.dens.length d7_, .int .i64 a.told.len, .slice A6 a.told.cuts.length c6_, .slice R6 a.told.dens.length d6_, .int .i64 a.after, .int .i64 a.asked] 116)]) G) => (GE.h e).lt 0 rfl
          simp only [pickOps, List.getElem?_toArray, List.getElem?_cons_zero, List.getElem?_cons_succ]
          repeat (first | go_big_quiet_step (fail) | quiet_step (fail))
          exact wpQuiet_nil rfl
        refine wpAnyT_all (rs := [12]) (by kernel_rfl) (by simp) (fun wa45 hwa45 hRwa45 i hi => ?_)
        have hB28 := hB27.next hwa45
        clear hB27 hwa45 hRwa45
        obtain rfl := List.mem_singleton.1 hi
        refine wpOp_step rfl (fun Kc hKc => ?_)
        have c_out := fun j => cell_of_row _ _ j _ _ _ (hB28.get 2 rfl)
        have z_out := hB28.lt 2 rfl
        have f_out := fun j => frozen_of_row _ _ j _ _ (hB28.get 2 rfl)
        go_simp
        have hB29 := hB28.set 2 rfl 0 (.slice A8 (nk + 1) c8)
        refine hKc _ _ ⟨(hB29.keep (List.Sublist.cons _ (List.Sublist.cons_cons _ (List.nil_sublist _)))), ?_⟩
        clear c_out z_out f_out hKc Kc hB28
        generalize wa45.setCell _ _ = wb46 at *
        refine wpAnyT_done (by kernel_rfl) (fun wd47 hwd47 hRwd47 => ?_) _
        refine NoPanic.normal ?_
        have hB30 := hB29.next hwd47
        clear hB29 hwd47 hRwd47
        have HN := Lib.hid (show Ms (fun V => Lay kAcU V (acs.take (k + 1)) (xs ++ [.int .i64 a.own.len, .slice A7 a.own.cuts.length c7_, .slice R7 a.own.dens.length d7_, .int .i64 a.told.len, .slice A6 a.told.cuts.length c6_, .slice R6 a.told.dens.length d6_, .int .i64 a.after, .int .i64 a.asked])) w [(gO, .cells #[.slice A8 (nk + 1) c8, .slice none 0 0] 147), (w.heap.size, mB (some ad) s acs B dl l)] [⟨.slice A8 (nk + 1) c8, 116, 8, (acs.take (k + 1)).length, xs ++ [.int .i64 a.own.len, .slice A7 a.own.cuts.length c7_, .slice R7 a.own.dens.length d7_, .int .i64 a.told.len, .slice A6 a.told.cuts.length c6_, .slice R6 a.told.dens.length d6_, .int .i64 a.after, .int .i64 a.asked]⟩] wd47 by rw [HTL.out]; exact (hB30.imp (fun V q => lay_more q.1.1 HX.out HT.out.1 HT.out.2 q.1.2 q.2)).subl (List.Sublist.cons _ (List.Sublist.cons _ (List.Sublist.refl _))))
        clear hB30
        go_wp2_with fail
        exact ⟨⟨k + 1, _, _, HLE.out.1, by go_num, HN.out⟩, by simpa [intOf] using HLE.out.2⟩
      · obtain rfl := List.mem_singleton.1 hi
        refine wpOp_step rfl (fun Kc hKc => ?_)
        go_simp
        have hB24 := hB23.new (g := wa40.heap.size) rfl (.cells #[.int .i64 a.own.len, .slice A7 a.own.cuts.length c7_, .slice R7 a.own.dens.length d7_, .int .i64 a.told.len, .slice A6 a.told.cuts.length c6_, .slice R6 a.told.dens.length d6_, .int .i64 a.after, .int .i64 a.asked] 116)
        refine hKc _ _ ⟨(hB24.keep (List.Sublist.cons _ (List.Sublist.cons_cons _ (List.nil_sublist _)))), ?_⟩
        clear hKc Kc hB23
        generalize wa40.heap.size = gl at *
        generalize wa40.alloc _ = wb48 at *
        refine wpAnyT_all (rs := [5]) (by kernel_rfl) (by simp) (fun wa49 hwa49 hRwa49 i hi => ?_)
        have hB25 := hB24.next hwa49
        clear hB24 hwa49 hRwa49
        obtain rfl := List.mem_singleton.1 hi
        refine wpOp_step rfl (fun Kc hKc => ?_)
        have c_out := fun j => cell_of_row _ _ j _ _ _ (hB25.get 2 rfl)
        have z_out := hB25.lt 2 rfl
        go_simp
        refine hKc _ _ ⟨(hB25.keep (List.Sublist.cons _ (List.Sublist.cons_cons _ (List.nil_sublist _)))), ?_⟩
        clear hKc Kc
        clear c_out z_out
        refine wpAnyT_all (rs := [8]) (by kernel_rfl) (by simp) (fun wa50 hwa50 hRwa50 i hi => ?_)
        have hB26 := hB25.next hwa50
        clear hB25 hwa50 hRwa50
        obtain rfl := List.mem_singleton.1 hi
        refine wpOp_step rfl (fun Kc hKc => ?_)
        refine step_append_any _ rfl (.tmp 28) (.tmp 30) 58 rfl w.heap.size 116 i0 (.agg #[.int .i64 0, .slice none 0 0, .slice none 0 0, .int .i64 0, .slice none 0 0, .slice none 0 0, .int .i64 0, .int .i64 0]) 8 128 Try.underlying58 hi0 hz0 hz1 hz2 rfl (by omega) (.slice A9 nk c9) nk xs rfl (hB26.row 0 rfl) _ (some ⟨gl, 0, none⟩) 1 1 [.int .i64 a.own.len, .slice A7 a.own.cuts.length c7_, .slice R7 a.own.dens.length d7_, .int .i64 a.told.len, .slice A6 a.told.cuts.length c6_, .slice R6 a.told.dens.length d6_, .int .i64 a.after, .int .i64 a.asked] rfl (reads_lit (n := 1) (s := 8) (hB26.get 0 rfl) rfl) (by intro u hu; simp at hu; rcases hu with rfl | rfl | rfl | rfl | rfl | rfl | rfl | rfl <;> rfl) (by have := HLK.out; unfold maxLen; omega) (by have := HLK.out; omega) hB26.below.size ?_
        intro v8 wb51 hown hgr hat
        obtain ⟨A8, c8, rfl, _, _⟩ := own_nil_len hown
        have hB27 := hB26.grow 0 rfl hgr hown hat
        refine hKc _ _ ⟨(hB27.keep (List.Sublist.cons _ (List.Sublist.cons_cons _ (List.nil_sublist _)))), ?_⟩
        clear hKc Kc hB26 hown hgr hat
        refine wpAnyT_go (Bx.grows _ _) (hB27.keep (List.Sublist.cons _ (List.Sublist.cons_cons _ (List.nil_sublist _)))) [9, 10, 11] 1 (by kernel_rfl) ?_
        apply Exists.intro
        refine ⟨fun G hG hN => ?_, ?_⟩
        · have c_a := fun (e : GE (Bx w [(gA, .cells #[.int .i64 a.own.len, .slice A7 a.own.cuts.length c7_, .slice R7 a.own.dens.length d7_, .int .i64 a.told.len, .slice A6 a.told.cuts.length c6_, .slice R6 a.told.dens.length d6_, .int .i64 a.after, .int .i64 a.asked] 116)]) G) j => cell_of_row e.w _ j _ _ _ ((GE.h e).get 0 rfl)
          have z_a := fun (e : GE (Bx w [(gA, .cells #[.int .i64 a.own.len, .slice A7 a.own.cuts.length c7_, .slice R7 a.own.dens.length d7_, .int .i64 a.told.len, .slice A6 a.told.cuts.length c6_, .slice R6 a.told.dens.length d6_, .int .i64 a.after, .int .i64 a.asked] 116)]) G) => (GE.h e).lt 0 rfl
          simp only [pickOps, List.getElem?_toArray, List.getElem?_cons_zero, List.getElem?_cons_succ]
          repeat (first | go_big_quiet_step (fail) | quiet_step (fail))
          exact wpQuiet_nil rfl
        refine wpAnyT_all (rs := [12]) (by kernel_rfl) (by simp) (fun wa52 hwa52 hRwa52 i hi => ?_)
        have hB28 := hB27.next hwa52
        clear hB27 hwa52 hRwa52
        obtain rfl := List.mem_singleton.1 hi
        refine wpOp_step rfl (fun Kc hKc => ?_)
        have c_out := fun j => cell_of_row _ _ j _ _ _ (hB28.get 2 rfl)
        have z_out := hB28.lt 2 rfl
        have f_out := fun j => frozen_of_row _ _ j _ _ (hB28.get 2 rfl)
        go_simp
        have hB29 := hB28.set 2 rfl 0 (.slice A8 (nk + 1) c8)
        refine hKc _ _ ⟨(hB29.keep (List.Sublist.cons _ (List.Sublist.cons_cons _ (List.nil_sublist _)))), ?_⟩
        clear c_out z_out f_out hKc Kc hB28
        generalize wa52.setCell _ _ = wb53 at *
        refine wpAnyT_done (by kernel_rfl) (fun wd54 hwd54 hRwd54 => ?_) _
        refine NoPanic.normal ?_
        have hB30 := hB29.next hwd54
        clear hB29 hwd54 hRwd54
        have HN := Lib.hid (show Ms (fun V => Lay kAcU V (acs.take (k + 1)) (xs ++ [.int .i64 a.own.len, .slice A7 a.own.cuts.length c7_, .slice R7 a.own.dens.length d7_, .int .i64 a.told.len, .slice A6 a.told.cuts.length c6_, .slice R6 a.told.dens.length d6_, .int .i64 a.after, .int .i64 a.asked])) w [(gO, .cells #[.slice A8 (nk + 1) c8, .slice none 0 0] 147), (w.heap.size, mB (some ad) s acs B dl l)] [⟨.slice A8 (nk + 1) c8, 116, 8, (acs.take (k + 1)).length, xs ++ [.int .i64 a.own.len, .slice A7 a.own.cuts.length c7_, .slice R7 a.own.dens.length d7_, .int .i64 a.told.len, .slice A6 a.told.cuts.length c6_, .slice R6 a.told.dens.length d6_, .int .i64 a.after, .int .i64 a.asked]⟩] wd54 by rw [HTL.out]; exact (hB30.imp (fun V q => lay_more q.1.1 HX.out HT.out.1 HT.out.2 q.1.2 q.2)).subl (List.Sublist.cons _ (List.Sublist.cons _ (List.Sublist.refl _))))
        clear hB30
        go_wp2_with fail
        exact ⟨⟨k + 1, _, _, HLE.out.1, by go_num, HN.out⟩, by simpa [intOf] using HLE.out.2⟩
set_option maxRecDepth 100000 in
set_option maxHeartbeats 32000000 in
theorem fmtwin_any (acs : List Ac) (S : Option Addr) (s : Nat) (l : List Qy) (B : Option Addr) (dl : Nat) (w : World) (h : AsIn w.heap.size w S s acs) (hl : LgIn w.heap.size w B dl l) (hsm : Small acs l.length) :
    Calls Try.prog 62 #[mV S s acs B dl l] w fun e w' => ∃ va vl, e = .returned (.agg #[va, vl]) ∧ MtOwn w va vl ⟨acs, l⟩ [] w' := by
  obtain ⟨i0, hi0, hz0, hz1, hz2⟩ := info_parts infoAc
  obtain ⟨j0, hj0, hy0, hy1, hy2⟩ := info_parts infoQy
  have hm := hsm.m
  have hn := hsm.n
  have HSM := Lib.hid hsm
  have HWF := Lib.hid hl.wf
  have HH := Lib.hid (fun (W : World) (hW : Below w.heap.size w W) => h.next hW)
  have HLG := Lib.hid (fun (W : World) (hW : Below w.heap.size w W) => hl.next hW)
  have hM0 : Ms (fun V => Lay kAcU V (acs.take 0) []) w [(w.heap.size + 1 + 1, .cells #[.slice none 0 0, .slice none 0 0] 61), (w.heap.size + 1, .cells #[.slice none 0 0, .slice none 0 0] 61), (w.heap.size, mB S s acs B dl l)] [⟨.slice none 0 0, 116, 8, (acs.take 0).length, []⟩] (((w.alloc (mB S s acs B dl l)).alloc (.cells #[.slice none 0 0, .slice none 0 0] 61)).alloc (.cells #[.slice none 0 0, .slice none 0 0] 61)) :=
    (Ms.of_mx ((((Mx.of_bx (Bx.start w)).new rfl _).new (by simp) _).new (by simp) _) (fun V => Lay.nil _ _)).nil _ _
  clear h hl hsm
  go_enter Try.func62, Try.ntmps62
  go_upto_region 2 with fail
  generalize hw0 : ((w.alloc (mB S s acs B dl l)).alloc (.cells #[.slice none 0 0, .slice none 0 0] 61)).alloc (.cells #[.slice none 0 0, .slice none 0 0] 61) = w0 at *
  clear hw0
  generalize w.heap.size + 1 + 1 = gO at *
  generalize w.heap.size + 1 = gR at *
  have c_m := fun j => cell_of_row _ _ j _ _ _ (hM0.get 2 rfl)
  have z_m := hM0.lt 2 rfl
  go_wp2_with fail
  clear c_m z_m
  go_loopw [4] (fun s4 wr => ∃ (k : Nat) (va : Value) (xs : List Value), k ≤ acs.length ∧ s4 = .int .i64 k ∧ Ms (fun V => Lay kAcU V (acs.take k) xs) w [(gO, .cells #[va, .slice none 0 0] 61), (gR, .cells #[.slice none 0 0, .slice none 0 0] 61), (w.heap.size, mB S s acs B dl l)] [⟨va, 116, 8, (acs.take k).length, xs⟩] wr) (fun s4 _ => acs.length - (intOf s4).toNat)
  case atStart => exact ⟨0, _, [], Nat.zero_le _, rfl, hM0⟩
  case round =>
    clear hM0
    obtain ⟨k, va, xs, hk, rfl, hMr⟩ := hrel
    by_cases hlt : k < acs.length
    rotate_left
    · obtain rfl : k = acs.length := by omega
      rw [List.take_length] at hMr
      obtain ⟨A9, c9, rfl, _, _⟩ := own_nil_len (v := va) (n := acs.length) (hMr.row 0 rfl)
      clear hk hlt HH HSM
      have hMl := (hMr.nil 84 8)
      clear hMr
      have c_out := fun j => cell_of_row _ _ j _ _ _ (hMl.get 0 rfl)
      have z_out := hMl.lt 0 rfl
      have f_out := fun j => frozen_of_row _ _ j _ _ (hMl.get 0 rfl)
      have c_res := fun j => cell_of_row _ _ j _ _ _ (hMl.get 1 rfl)
      have z_res := hMl.lt 1 rfl
      have f_res := fun j => frozen_of_row _ _ j _ _ (hMl.get 1 rfl)
      have c_m := fun j => cell_of_row _ _ j _ _ _ (hMl.get 2 rfl)
      have z_m := hMl.lt 2 rfl
      go_upto_region 8 with (at_builtin; refine wpList_append_any _ rfl (.tmp 35) (.tmp 37) 59 rfl w.heap.size 84 j0 (.agg #[.int .i64 0, .int .u8 0, .int .i64 0, .int .i64 0, .int .i64 0, .int .i64 0, .int .i64 0, .int .i64 0]) 8 64 Try.underlying59 hj0 hy0 hy1 hy2 rfl (by omega) (.slice none 0 0) 0 [] rfl (hMl.row 0 rfl) _ B l.length dl (lgV l) rfl (LgIn.reads (HLG.out _ hMl.below)) (lgV_cells _) (by unfold maxLen; omega) (by omega) hMl.below.size ?_; intro v8 W8 hown hgr hat; simp only [Nat.zero_add, List.nil_append] at hown; obtain ⟨A8, c8, rfl, _, _⟩ := own_nil_len hown; have hG := hMl.grow 0 rfl hgr hown hat; have c_out2 := fun j => cell_of_row _ _ j _ _ _ (hG.get 0 rfl); have f_out2 := fun j => frozen_of_row _ _ j _ _ (hG.get 0 rfl); have z_out2 := hG.lt 0 rfl)
      have hS := hG.set 0 rfl 1 (.slice A8 l.length c8)
      clear hG hMl hown hgr hat c_out2 f_out2 z_out2 c_out z_out f_out c_m z_m c_res z_res f_res
      generalize W8.setCell _ _ = W9 at *
      have HN := hS.mx.ne 0 1 rfl rfl (by decide)
      simp only at HN
      have c_out := fun j => cell_of_row _ _ j _ _ _ (hS.get 0 rfl)
      have z_out := hS.lt 0 rfl
      have c_res := fun j => cell_of_row _ _ j _ _ _ (hS.get 1 rfl)
      have z_res := hS.lt 1 rfl
      have f_res := fun j => frozen_of_row _ _ j _ _ (hS.get 1 rfl)
      go_wp2_with fail
      have hE := hS.put2 1 rfl (.slice A9 acs.length c9) (.slice A8 l.length c8)
      clear c_out z_out c_res z_res f_res hS
      generalize (W9.setCell _ _).setCell _ _ = wE at *
      have c_res := fun j => cell_of_row _ _ j _ _ _ (hE.get 1 rfl)
      have z_res := hE.lt 1 rfl
      refine bodyPost_ret (v := .agg #[.slice A9 acs.length c9, .slice A8 l.length c8]) (by simp [results, Try.results62, go_sem, c_res, z_res]) rfl ?_
      exact ⟨_, _, rfl, ⟨⟨xs, (hE.swapR).subl (List.nil_sublist _)⟩, HWF.out⟩⟩
    obtain ⟨a, ha⟩ : ∃ a, acs[k]? = some a := ⟨_, List.getElem?_eq_getElem hlt⟩
    obtain ⟨ad, A, c, R, d, A', c', R', d', rfl, hb0, hC, hC', hwf, hat0⟩ := (HH.out _ (Below.refl _ _)).actor ha
    have hat := hat0.next hb0 hMr.below
    have hb := Nat.lt_of_lt_of_le hb0 hMr.below.size
    have HCI := Lib.hid (fun (W : World) (hW : Below w.heap.size w W) => And.intro (hC.next hW) (hC'.next hW))
    have HBG := Lib.hid (And.intro (HSM.out.own k a ha) (HSM.out.told k a ha))
    obtain ⟨z1, z2, z3, z4⟩ := idx_facts hlt (by omega)
    obtain ⟨c0, c1, c2, c3, c4, c5, c6, c7⟩ := hat
    have HLE := Lib.hid (And.intro (Nat.succ_le_of_lt hlt) (Nat.sub_lt_sub_left hlt (Nat.lt_succ_self k)))
    obtain ⟨nk, hnk⟩ : ∃ x, x = (acs.take k).length := ⟨_, rfl⟩
    rw [← hnk] at hMr
    have HNK := Lib.hid hnk
    have HLK := Lib.hid (show nk ≤ 10 by rw [hnk, List.length_take]; exact Nat.le_trans (Nat.min_le_right _ _) hm)
    have HT := Lib.hid (And.intro ha hwf)
    have HTL := Lib.hid (show (acs.take (k + 1)).length = nk + 1 by rw [hnk, take_next ha, List.length_append]; rfl)
    have HX := Lib.hid (show xs.length = (acs.take k).length * 8 by rw [← hnk]; exact (hMr.row 0 rfl).1)
    obtain ⟨A9, c9, rfl, _, _⟩ := own_nil_len (v := va) (n := nk) (hMr.row 0 rfl)
    clear hnk hk hlt ha hC hC' hwf HH HSM HLG hat0 hb0
    have c_m := fun j => cell_of_row _ _ j _ _ _ (hMr.get 2 rfl)
    have z_m := hMr.lt 2 rfl
    go_upto_region 6 with fail
    have hB21 := hMr.new rfl (acB a A c R d A' c' R' d')
    clear c_m z_m hMr c0 c1 c2 c3 c4 c5 c6 c7 hb
    generalize wr.heap.size = gA at *
    generalize wr.alloc _ = wa at *
    go_wp2_with fail
    refine wp_region_T (Bx w [(gA, acB a A c R d A' c' R' d')]) 17 (by kernel_rfl) (by rfl) ((hB21.keep (List.Sublist.cons_cons _ (List.nil_sublist _))).drew) (fun wq55 hbq => ?_)
    have hB22 := hB21.next hbq
    clear hB21 hbq
    refine wpAnyT_go (Bx.grows _ _) (hB22.keep (List.Sublist.cons_cons _ (List.nil_sublist _))) [0, 2, 3, 5, 6, 8, 9, 10, 11] 8 (by kernel_rfl) ?_
    apply Exists.intro
    refine ⟨fun G hG hN => ?_, ?_⟩
    · have c_a := fun (e : GE (Bx w [(gA, acB a A c R d A' c' R' d')]) G) j => cell_of_row e.w _ j _ _ _ ((GE.h e).get 0 rfl)
      have z_a := fun (e : GE (Bx w [(gA, acB a A c R d A' c' R' d')]) G) => (GE.h e).lt 0 rfl
      simp only [pickOps, List.getElem?_toArray, List.getElem?_cons_zero, List.getElem?_cons_succ]
      repeat (first | go_big_quiet_step (fail) | quiet_step (fail))
      exact wpQuiet_nil rfl
    refine wpAnyT_all (rs := [1, 4]) (by kernel_rfl) (by simp) (fun wa56 hwa56 hRwa56 i hi => ?_)
    have hB23 := hB22.next hwa56
    clear hB22 hwa56 hRwa56
    rcases List.mem_cons.1 hi with rfl | hi
    · refine wpOp_step rfl (fun Kc hKc => ?_)
      have c_out := fun j => cell_of_row _ _ j _ _ _ (hB23.get 1 rfl)
      have z_out := hB23.lt 1 rfl
      go_simp
      refine hKc _ _ ⟨(hB23.keep (List.Sublist.cons_cons _ (List.nil_sublist _))), ?_⟩
      clear hKc Kc
      clear c_out z_out
      refine wpAnyT_all (rs := [4]) (by kernel_rfl) (by simp) (fun wa57 hwa57 hRwa57 i hi => ?_)
      have hB24 := hB23.next hwa57
      clear hB23 hwa57 hRwa57
      obtain rfl := List.mem_singleton.1 hi
      refine wpOp_step rfl (fun Kc hKc => ?_)
      go_simp
      refine Calls.mono (ctwin_any a.own A c R d _ (HCI.out _ hB24.below).1 HBG.out.1) ?_
      rintro e wv58 ⟨u7, t7, rfl, hk7, hb⟩
      obtain ⟨A7, c7_, R7, d7_, rfl, rfl⟩ := hk7.shape
      have hB25 := hB24.call hb hk7.at_
      clear hb hk7
      refine hKc _ _ ⟨(hB25.keep (List.Sublist.cons_cons _ (List.nil_sublist _))), ?_⟩
      clear hKc Kc hB24
      refine wpAnyT_all (rs := [7]) (by kernel_rfl) (by simp) (fun wa59 hwa59 hRwa59 i hi => ?_)
      have hB26 := hB25.next hwa59
      clear hB25 hwa59 hRwa59
      obtain rfl := List.mem_singleton.1 hi
      refine wpOp_step rfl (fun Kc hKc => ?_)
      go_simp
      refine Calls.mono (ctwin_any a.told A' c' R' d' _ (HCI.out _ hB26.below).2 HBG.out.2) ?_
      rintro e wv60 ⟨u6, t6, rfl, hk6, hb⟩
      obtain ⟨A6, c6_, R6, d6_, rfl, rfl⟩ := hk6.shape
      have hB27 := hB26.call hb hk6.at_
      clear hb hk6
      refine hKc _ _ ⟨(hB27.keep (List.Sublist.cons_cons _ (List.nil_sublist _))), ?_⟩
      clear hKc Kc hB26
      refine wpAnyT_go (Bx.grows _ _) (hB27.keep (List.Sublist.cons_cons _ (List.nil_sublist _))) [12] 4 (by kernel_rfl) ?_
      apply Exists.intro
      refine ⟨fun G hG hN => ?_, ?_⟩
      · have c_a := fun (e : GE (Bx w [(gA, acB a A c R d A' c' R' d')]) G) j => cell_of_row e.w _ j _ _ _ ((GE.h e).get 0 rfl)
        have z_a := fun (e : GE (Bx w [(gA, acB a A c R d A' c' R' d')]) G) => (GE.h e).lt 0 rfl
        simp only [pickOps, List.getElem?_toArray, List.getElem?_cons_zero, List.getElem?_cons_succ]
        repeat (first | go_big_quiet_step (fail) | quiet_step (fail))
        exact wpQuiet_nil rfl
      refine wpAnyT_all (rs := [13]) (by kernel_rfl) (by simp) (fun wa61 hwa61 hRwa61 i hi => ?_)
      have hB28 := hB27.next hwa61
      clear hB27 hwa61 hRwa61
      obtain rfl := List.mem_singleton.1 hi
      refine wpOp_step rfl (fun Kc hKc => ?_)
      go_simp
      have hB29 := hB28.new (g := wa61.heap.size) rfl (.cells #[.int .i64 a.own.len, .slice A7 a.own.cuts.length c7_, .slice R7 a.own.dens.length d7_, .int .i64 a.told.len, .slice A6 a.told.cuts.length c6_, .slice R6 a.told.dens.length d6_, .int .i64 a.after, .int .i64 a.asked] 116)
      refine hKc _ _ ⟨(hB29.keep (List.Sublist.cons _ (List.Sublist.cons_cons _ (List.nil_sublist _)))), ?_⟩
      clear hKc Kc hB28
      generalize wa61.heap.size = gl at *
      generalize wa61.alloc _ = wb62 at *
      refine wpAnyT_all (rs := [14]) (by kernel_rfl) (by simp) (fun wa63 hwa63 hRwa63 i hi => ?_)
      have hB30 := hB29.next hwa63
      clear hB29 hwa63 hRwa63
      obtain rfl := List.mem_singleton.1 hi
      refine wpOp_step rfl (fun Kc hKc => ?_)
      refine step_append_any _ rfl (.tmp 19) (.tmp 31) 58 rfl w.heap.size 116 i0 (.agg #[.int .i64 0, .slice none 0 0, .slice none 0 0, .int .i64 0, .slice none 0 0, .slice none 0 0, .int .i64 0, .int .i64 0]) 8 128 Try.underlying58 hi0 hz0 hz1 hz2 rfl (by omega) (.slice A9 nk c9) nk xs rfl (hB30.row 0 rfl) _ (some ⟨gl, 0, none⟩) 1 1 [.int .i64 a.own.len, .slice A7 a.own.cuts.length c7_, .slice R7 a.own.dens.length d7_, .int .i64 a.told.len, .slice A6 a.told.cuts.length c6_, .slice R6 a.told.dens.length d6_, .int .i64 a.after, .int .i64 a.asked] rfl (reads_lit (n := 1) (s := 8) (hB30.get 0 rfl) rfl) (by intro u hu; simp at hu; rcases hu with rfl | rfl | rfl | rfl | rfl | rfl | rfl | rfl <;> rfl) (by have := HLK.out; unfold maxLen; omega) (by have := HLK.out; omega) hB30.below.size ?_
      intro v8 wb64 hown hgr hat
      obtain ⟨A8, c8, rfl, _, _⟩ := own_nil_len hown
      have hB31 := hB30.grow 0 rfl hgr hown hat
      refine hKc _ _ ⟨(hB31.keep (List.Sublist.cons _ (List.Sublist.cons_cons _ (List.nil_sublist _)))), ?_⟩
      clear hKc Kc hB30 hown hgr hat
      refine wpAnyT_go (Bx.grows _ _) (hB31.keep (List.Sublist.cons _ (List.Sublist.cons_cons _ (List.nil_sublist _)))) [15] 1 (by kernel_rfl) ?_
      apply Exists.intro
      refine ⟨fun G hG hN => ?_, ?_⟩
      · have c_a := fun (e : GE (Bx w [(gA, acB a A c R d A' c' R' d')]) G) j => cell_of_row e.w _ j _ _ _ ((GE.h e).get 0 rfl)
        have z_a := fun (e : GE (Bx w [(gA, acB a A c R d A' c' R' d')]) G) => (GE.h e).lt 0 rfl
        simp only [pickOps, List.getElem?_toArray, List.getElem?_cons_zero, List.getElem?_cons_succ]
        repeat (first | go_big_quiet_step (fail) | quiet_step (fail))
        exact wpQuiet_nil rfl
      refine wpAnyT_all (rs := [16]) (by kernel_rfl) (by simp) (fun wa65 hwa65 hRwa65 i hi => ?_)
      have hB32 := hB31.next hwa65
      clear hB31 hwa65 hRwa65
      obtain rfl := List.mem_singleton.1 hi
      refine wpOp_step rfl (fun Kc hKc => ?_)
      have c_out := fun j => cell_of_row _ _ j _ _ _ (hB32.get 2 rfl)
      have z_out := hB32.lt 2 rfl
      have f_out := fun j => frozen_of_row _ _ j _ _ (hB32.get 2 rfl)
      go_simp
      have hB33 := hB32.set 2 rfl 0 (.slice A8 (nk + 1) c8)
      refine hKc _ _ ⟨(hB33.keep (List.Sublist.cons _ (List.Sublist.cons_cons _ (List.nil_sublist _)))), ?_⟩
      clear c_out z_out f_out hKc Kc hB32
      generalize wa65.setCell _ _ = wb66 at *
      refine wpAnyT_done (by kernel_rfl) (fun wd67 hwd67 hRwd67 => ?_) _
      refine NoPanic.normal ?_
      have hB34 := hB33.next hwd67
      clear hB33 hwd67 hRwd67
      have HN := Lib.hid (show Ms (fun V => Lay kAcU V (acs.take (k + 1)) (xs ++ [.int .i64 a.own.len, .slice A7 a.own.cuts.length c7_, .slice R7 a.own.dens.length d7_, .int .i64 a.told.len, .slice A6 a.told.cuts.length c6_, .slice R6 a.told.dens.length d6_, .int .i64 a.after, .int .i64 a.asked])) w [(gO, .cells #[.slice A8 (nk + 1) c8, .slice none 0 0] 61), (gR, .cells #[.slice none 0 0, .slice none 0 0] 61), (w.heap.size, mB (some ad) s acs B dl l)] [⟨.slice A8 (nk + 1) c8, 116, 8, (acs.take (k + 1)).length, xs ++ [.int .i64 a.own.len, .slice A7 a.own.cuts.length c7_, .slice R7 a.own.dens.length d7_, .int .i64 a.told.len, .slice A6 a.told.cuts.length c6_, .slice R6 a.told.dens.length d6_, .int .i64 a.after, .int .i64 a.asked]⟩] wd67 by rw [HTL.out]; exact (hB34.imp (fun V q => lay_more q.1.1 HX.out HT.out.1 HT.out.2 q.1.2 q.2)).subl (List.Sublist.cons _ (List.Sublist.cons _ (List.Sublist.refl _))))
      clear hB34
      go_wp2_with fail
      exact ⟨⟨k + 1, _, _, HLE.out.1, by go_num, HN.out⟩, by simpa [intOf] using HLE.out.2⟩
    · obtain rfl := List.mem_singleton.1 hi
      refine wpOp_step rfl (fun Kc hKc => ?_)
      go_simp
      refine Calls.mono (ctwin_any a.own A c R d _ (HCI.out _ hB23.below).1 HBG.out.1) ?_
      rintro e wv68 ⟨u7, t7, rfl, hk7, hb⟩
      obtain ⟨A7, c7_, R7, d7_, rfl, rfl⟩ := hk7.shape
      have hB24 := hB23.call hb hk7.at_
      clear hb hk7
      refine hKc _ _ ⟨(hB24.keep (List.Sublist.cons_cons _ (List.nil_sublist _))), ?_⟩
      clear hKc Kc hB23
      refine wpAnyT_all (rs := [1, 7]) (by kernel_rfl) (by simp) (fun wa69 hwa69 hRwa69 i hi => ?_)
      have hB25 := hB24.next hwa69
      clear hB24 hwa69 hRwa69
      rcases List.mem_cons.1 hi with rfl | hi
      · refine wpOp_step rfl (fun Kc hKc => ?_)
        have c_out := fun j => cell_of_row _ _ j _ _ _ (hB25.get 1 rfl)
        have z_out := hB25.lt 1 rfl
        go_simp
        refine hKc _ _ ⟨(hB25.keep (List.Sublist.cons_cons _ (List.nil_sublist _))), ?_⟩
        clear hKc Kc
        clear c_out z_out
        refine wpAnyT_all (rs := [7]) (by kernel_rfl) (by simp) (fun wa70 hwa70 hRwa70 i hi => ?_)
        have hB26 := hB25.next hwa70
        clear hB25 hwa70 hRwa70
        obtain rfl := List.mem_singleton.1 hi
        refine wpOp_step rfl (fun Kc hKc => ?_)
        go_simp
        refine Calls.mono (ctwin_any a.told A' c' R' d' _ (HCI.out _ hB26.below).2 HBG.out.2) ?_
        rintro e wv71 ⟨u6, t6, rfl, hk6, hb⟩
        obtain ⟨A6, c6_, R6, d6_, rfl, rfl⟩ := hk6.shape
        have hB27 := hB26.call hb hk6.at_
        clear hb hk6
        refine hKc _ _ ⟨(hB27.keep (List.Sublist.cons_cons _ (List.nil_sublist _))), ?_⟩
        clear hKc Kc hB26
        refine wpAnyT_go (Bx.grows _ _) (hB27.keep (List.Sublist.cons_cons _ (List.nil_sublist _))) [12] 4 (by kernel_rfl) ?_
        apply Exists.intro
        refine ⟨fun G hG hN => ?_, ?_⟩
        · have c_a := fun (e : GE (Bx w [(gA, acB a A c R d A' c' R' d')]) G) j => cell_of_row e.w _ j _ _ _ ((GE.h e).get 0 rfl)
          have z_a := fun (e : GE (Bx w [(gA, acB a A c R d A' c' R' d')]) G) => (GE.h e).lt 0 rfl
          simp only [pickOps, List.getElem?_toArray, List.getElem?_cons_zero, List.getElem?_cons_succ]
          repeat (first | go_big_quiet_step (fail) | quiet_step (fail))
          exact wpQuiet_nil rfl
        refine wpAnyT_all (rs := [13]) (by kernel_rfl) (by simp) (fun wa72 hwa72 hRwa72 i hi => ?_)
        have hB28 := hB27.next hwa72
        clear hB27 hwa72 hRwa72
        obtain rfl := List.mem_singleton.1 hi
        refine wpOp_step rfl (fun Kc hKc => ?_)
        go_simp
        have hB29 := hB28.new (g := wa72.heap.size) rfl (.cells #[.int .i64 a.own.len, .slice A7 a.own.cuts.length c7_, .slice R7 a.own.dens.length d7_, .int .i64 a.told.len, .slice A6 a.told.cuts.length c6_, .slice R6 a.told.dens.length d6_, .int .i64 a.after, .int .i64 a.asked] 116)
        refine hKc _ _ ⟨(hB29.keep (List.Sublist.cons _ (List.Sublist.cons_cons _ (List.nil_sublist _)))), ?_⟩
        clear hKc Kc hB28
        generalize wa72.heap.size = gl at *
        generalize wa72.alloc _ = wb73 at *
        refine wpAnyT_all (rs := [14]) (by kernel_rfl) (by simp) (fun wa74 hwa74 hRwa74 i hi => ?_)
        have hB30 := hB29.next hwa74
        clear hB29 hwa74 hRwa74
        obtain rfl := List.mem_singleton.1 hi
        refine wpOp_step rfl (fun Kc hKc => ?_)
        refine step_append_any _ rfl (.tmp 19) (.tmp 31) 58 rfl w.heap.size 116 i0 (.agg #[.int .i64 0, .slice none 0 0, .slice none 0 0, .int .i64 0, .slice none 0 0, .slice none 0 0, .int .i64 0, .int .i64 0]) 8 128 Try.underlying58 hi0 hz0 hz1 hz2 rfl (by omega) (.slice A9 nk c9) nk xs rfl (hB30.row 0 rfl) _ (some ⟨gl, 0, none⟩) 1 1 [.int .i64 a.own.len, .slice A7 a.own.cuts.length c7_, .slice R7 a.own.dens.length d7_, .int .i64 a.told.len, .slice A6 a.told.cuts.length c6_, .slice R6 a.told.dens.length d6_, .int .i64 a.after, .int .i64 a.asked] rfl (reads_lit (n := 1) (s := 8) (hB30.get 0 rfl) rfl) (by intro u hu; simp at hu; rcases hu with rfl | rfl | rfl | rfl | rfl | rfl | rfl | rfl <;> rfl) (by have := HLK.out; unfold maxLen; omega) (by have := HLK.out; omega) hB30.below.size ?_
        intro v8 wb75 hown hgr hat
        obtain ⟨A8, c8, rfl, _, _⟩ := own_nil_len hown
        have hB31 := hB30.grow 0 rfl hgr hown hat
        refine hKc _ _ ⟨(hB31.keep (List.Sublist.cons _ (List.Sublist.cons_cons _ (List.nil_sublist _)))), ?_⟩
        clear hKc Kc hB30 hown hgr hat
        refine wpAnyT_go (Bx.grows _ _) (hB31.keep (List.Sublist.cons _ (List.Sublist.cons_cons _ (List.nil_sublist _)))) [15] 1 (by kernel_rfl) ?_
        apply Exists.intro
        refine ⟨fun G hG hN => ?_, ?_⟩
        · have c_a := fun (e : GE (Bx w [(gA, acB a A c R d A' c' R' d')]) G) j => cell_of_row e.w _ j _ _ _ ((GE.h e).get 0 rfl)
          have z_a := fun (e : GE (Bx w [(gA, acB a A c R d A' c' R' d')]) G) => (GE.h e).lt 0 rfl
          simp only [pickOps, List.getElem?_toArray, List.getElem?_cons_zero, List.getElem?_cons_succ]
          repeat (first | go_big_quiet_step (fail) | quiet_step (fail))
          exact wpQuiet_nil rfl
        refine wpAnyT_all (rs := [16]) (by kernel_rfl) (by simp) (fun wa76 hwa76 hRwa76 i hi => ?_)
        have hB32 := hB31.next hwa76
        clear hB31 hwa76 hRwa76
        obtain rfl := List.mem_singleton.1 hi
        refine wpOp_step rfl (fun Kc hKc => ?_)
        have c_out := fun j => cell_of_row _ _ j _ _ _ (hB32.get 2 rfl)
        have z_out := hB32.lt 2 rfl
        have f_out := fun j => frozen_of_row _ _ j _ _ (hB32.get 2 rfl)
        go_simp
        have hB33 := hB32.set 2 rfl 0 (.slice A8 (nk + 1) c8)
        refine hKc _ _ ⟨(hB33.keep (List.Sublist.cons _ (List.Sublist.cons_cons _ (List.nil_sublist _)))), ?_⟩
        clear c_out z_out f_out hKc Kc hB32
        generalize wa76.setCell _ _ = wb77 at *
        refine wpAnyT_done (by kernel_rfl) (fun wd78 hwd78 hRwd78 => ?_) _
        refine NoPanic.normal ?_
        have hB34 := hB33.next hwd78
        clear hB33 hwd78 hRwd78
        have HN := Lib.hid (show Ms (fun V => Lay kAcU V (acs.take (k + 1)) (xs ++ [.int .i64 a.own.len, .slice A7 a.own.cuts.length c7_, .slice R7 a.own.dens.length d7_, .int .i64 a.told.len, .slice A6 a.told.cuts.length c6_, .slice R6 a.told.dens.length d6_, .int .i64 a.after, .int .i64 a.asked])) w [(gO, .cells #[.slice A8 (nk + 1) c8, .slice none 0 0] 61), (gR, .cells #[.slice none 0 0, .slice none 0 0] 61), (w.heap.size, mB (some ad) s acs B dl l)] [⟨.slice A8 (nk + 1) c8, 116, 8, (acs.take (k + 1)).length, xs ++ [.int .i64 a.own.len, .slice A7 a.own.cuts.length c7_, .slice R7 a.own.dens.length d7_, .int .i64 a.told.len, .slice A6 a.told.cuts.length c6_, .slice R6 a.told.dens.length d6_, .int .i64 a.after, .int .i64 a.asked]⟩] wd78 by rw [HTL.out]; exact (hB34.imp (fun V q => lay_more q.1.1 HX.out HT.out.1 HT.out.2 q.1.2 q.2)).subl (List.Sublist.cons _ (List.Sublist.cons _ (List.Sublist.refl _))))
        clear hB34
        go_wp2_with fail
        exact ⟨⟨k + 1, _, _, HLE.out.1, by go_num, HN.out⟩, by simpa [intOf] using HLE.out.2⟩
      · obtain rfl := List.mem_singleton.1 hi
        refine wpOp_step rfl (fun Kc hKc => ?_)
        go_simp
        refine Calls.mono (ctwin_any a.told A' c' R' d' _ (HCI.out _ hB25.below).2 HBG.out.2) ?_
        rintro e wv79 ⟨u6, t6, rfl, hk6, hb⟩
        obtain ⟨A6, c6_, R6, d6_, rfl, rfl⟩ := hk6.shape
        have hB26 := hB25.call hb hk6.at_
        clear hb hk6
        refine hKc _ _ ⟨(hB26.keep (List.Sublist.cons_cons _ (List.nil_sublist _))), ?_⟩
        clear hKc Kc hB25
        refine wpAnyT_go (Bx.grows _ _) (hB26.keep (List.Sublist.cons_cons _ (List.nil_sublist _))) [12] 5 (by kernel_rfl) ?_
        apply Exists.intro
        refine ⟨fun G hG hN => ?_, ?_⟩
        · have c_a := fun (e : GE (Bx w [(gA, acB a A c R d A' c' R' d')]) G) j => cell_of_row e.w _ j _ _ _ ((GE.h e).get 0 rfl)
          have z_a := fun (e : GE (Bx w [(gA, acB a A c R d A' c' R' d')]) G) => (GE.h e).lt 0 rfl
          simp only [pickOps, List.getElem?_toArray, List.getElem?_cons_zero, List.getElem?_cons_succ]
          repeat (first | go_big_quiet_step (fail) | quiet_step (fail))
          exact wpQuiet_nil rfl
        refine wpAnyT_all (rs := [1, 13]) (by kernel_rfl) (by simp) (fun wa80 hwa80 hRwa80 i hi => ?_)
        have hB27 := hB26.next hwa80
        clear hB26 hwa80 hRwa80
        rcases List.mem_cons.1 hi with rfl | hi
        · refine wpOp_step rfl (fun Kc hKc => ?_)
          have c_out := fun j => cell_of_row _ _ j _ _ _ (hB27.get 1 rfl)
          have z_out := hB27.lt 1 rfl
          go_simp
          refine hKc _ _ ⟨(hB27.keep (List.Sublist.cons_cons _ (List.nil_sublist _))), ?_⟩
          clear hKc Kc
          clear c_out z_out
          refine wpAnyT_all (rs := [13]) (by kernel_rfl) (by simp) (fun wa81 hwa81 hRwa81 i hi => ?_)
          have hB28 := hB27.next hwa81
          clear hB27 hwa81 hRwa81
          obtain rfl := List.mem_singleton.1 hi
          refine wpOp_step rfl (fun Kc hKc => ?_)
          go_simp
          have hB29 := hB28.new (g := wa81.heap.size) rfl (.cells #[.int .i64 a.own.len, .slice A7 a.own.cuts.length c7_, .slice R7 a.own.dens.length d7_, .int .i64 a.told.len, .slice A6 a.told.cuts.length c6_, .slice R6 a.told.dens.length d6_, .int .i64 a.after, .int .i64 a.asked] 116)
          refine hKc _ _ ⟨(hB29.keep (List.Sublist.cons _ (List.Sublist.cons_cons _ (List.nil_sublist _)))), ?_⟩
          clear hKc Kc hB28
          generalize wa81.heap.size = gl at *
          generalize wa81.alloc _ = wb82 at *
          refine wpAnyT_all (rs := [14]) (by kernel_rfl) (by simp) (fun wa83 hwa83 hRwa83 i hi => ?_)
          have hB30 := hB29.next hwa83
          clear hB29 hwa83 hRwa83
          obtain rfl := List.mem_singleton.1 hi
          refine wpOp_step rfl (fun Kc hKc => ?_)
          refine step_append_any _ rfl (.tmp 19) (.tmp 31) 58 rfl w.heap.size 116 i0 (.agg #[.int .i64 0, .slice none 0 0, .slice none 0 0, .int .i64 0, .slice none 0 0, .slice none 0 0, .int .i64 0, .int .i64 0]) 8 128 Try.underlying58 hi0 hz0 hz1 hz2 rfl (by omega) (.slice A9 nk c9) nk xs rfl (hB30.row 0 rfl) _ (some ⟨gl, 0, none⟩) 1 1 [.int .i64 a.own.len, .slice A7 a.own.cuts.length c7_, .slice R7 a.own.dens.length d7_, .int .i64 a.told.len, .slice A6 a.told.cuts.length c6_, .slice R6 a.told.dens.length d6_, .int .i64 a.after, .int .i64 a.asked] rfl (reads_lit (n := 1) (s := 8) (hB30.get 0 rfl) rfl) (by intro u hu; simp at hu; rcases hu with rfl | rfl | rfl | rfl | rfl | rfl | rfl | rfl <;> rfl) (by have := HLK.out; unfold maxLen; omega) (by have := HLK.out; omega) hB30.below.size ?_
          intro v8 wb84 hown hgr hat
          obtain ⟨A8, c8, rfl, _, _⟩ := own_nil_len hown
          have hB31 := hB30.grow 0 rfl hgr hown hat
          refine hKc _ _ ⟨(hB31.keep (List.Sublist.cons _ (List.Sublist.cons_cons _ (List.nil_sublist _)))), ?_⟩
          clear hKc Kc hB30 hown hgr hat
          refine wpAnyT_go (Bx.grows _ _) (hB31.keep (List.Sublist.cons _ (List.Sublist.cons_cons _ (List.nil_sublist _)))) [15] 1 (by kernel_rfl) ?_
          apply Exists.intro
          refine ⟨fun G hG hN => ?_, ?_⟩
          · have c_a := fun (e : GE (Bx w [(gA, acB a A c R d A' c' R' d')]) G) j => cell_of_row e.w _ j _ _ _ ((GE.h e).get 0 rfl)
            have z_a := fun (e : GE (Bx w [(gA, acB a A c R d A' c' R' d')]) G) => (GE.h e).lt 0 rfl
            simp only [pickOps, List.getElem?_toArray, List.getElem?_cons_zero, List.getElem?_cons_succ]
            repeat (first | go_big_quiet_step (fail) | quiet_step (fail))
            exact wpQuiet_nil rfl
          refine wpAnyT_all (rs := [16]) (by kernel_rfl) (by simp) (fun wa85 hwa85 hRwa85 i hi => ?_)
          have hB32 := hB31.next hwa85
          clear hB31 hwa85 hRwa85
          obtain rfl := List.mem_singleton.1 hi
          refine wpOp_step rfl (fun Kc hKc => ?_)
          have c_out := fun j => cell_of_row _ _ j _ _ _ (hB32.get 2 rfl)
          have z_out := hB32.lt 2 rfl
          have f_out := fun j => frozen_of_row _ _ j _ _ (hB32.get 2 rfl)
          go_simp
          have hB33 := hB32.set 2 rfl 0 (.slice A8 (nk + 1) c8)
          refine hKc _ _ ⟨(hB33.keep (List.Sublist.cons _ (List.Sublist.cons_cons _ (List.nil_sublist _)))), ?_⟩
          clear c_out z_out f_out hKc Kc hB32
          generalize wa85.setCell _ _ = wb86 at *
          refine wpAnyT_done (by kernel_rfl) (fun wd87 hwd87 hRwd87 => ?_) _
          refine NoPanic.normal ?_
          have hB34 := hB33.next hwd87
          clear hB33 hwd87 hRwd87
          have HN := Lib.hid (show Ms (fun V => Lay kAcU V (acs.take (k + 1)) (xs ++ [.int .i64 a.own.len, .slice A7 a.own.cuts.length c7_, .slice R7 a.own.dens.length d7_, .int .i64 a.told.len, .slice A6 a.told.cuts.length c6_, .slice R6 a.told.dens.length d6_, .int .i64 a.after, .int .i64 a.asked])) w [(gO, .cells #[.slice A8 (nk + 1) c8, .slice none 0 0] 61), (gR, .cells #[.slice none 0 0, .slice none 0 0] 61), (w.heap.size, mB (some ad) s acs B dl l)] [⟨.slice A8 (nk + 1) c8, 116, 8, (acs.take (k + 1)).length, xs ++ [.int .i64 a.own.len, .slice A7 a.own.cuts.length c7_, .slice R7 a.own.dens.length d7_, .int .i64 a.told.len, .slice A6 a.told.cuts.length c6_, .slice R6 a.told.dens.length d6_, .int .i64 a.after, .int .i64 a.asked]⟩] wd87 by rw [HTL.out]; exact (hB34.imp (fun V q => lay_more q.1.1 HX.out HT.out.1 HT.out.2 q.1.2 q.2)).subl (List.Sublist.cons _ (List.Sublist.cons _ (List.Sublist.refl _))))
          clear hB34
          go_wp2_with fail
          exact ⟨⟨k + 1, _, _, HLE.out.1, by go_num, HN.out⟩, by simpa [intOf] using HLE.out.2⟩
        · obtain rfl := List.mem_singleton.1 hi
          refine wpOp_step rfl (fun Kc hKc => ?_)
          go_simp
          have hB28 := hB27.new (g := wa80.heap.size) rfl (.cells #[.int .i64 a.own.len, .slice A7 a.own.cuts.length c7_, .slice R7 a.own.dens.length d7_, .int .i64 a.told.len, .slice A6 a.told.cuts.length c6_, .slice R6 a.told.dens.length d6_, .int .i64 a.after, .int .i64 a.asked] 116)
          refine hKc _ _ ⟨(hB28.keep (List.Sublist.cons _ (List.Sublist.cons_cons _ (List.nil_sublist _)))), ?_⟩
          clear hKc Kc hB27
          generalize wa80.heap.size = gl at *
          generalize wa80.alloc _ = wb88 at *
          refine wpAnyT_all (rs := [1]) (by kernel_rfl) (by simp) (fun wa89 hwa89 hRwa89 i hi => ?_)
          have hB29 := hB28.next hwa89
          clear hB28 hwa89 hRwa89
          obtain rfl := List.mem_singleton.1 hi
          refine wpOp_step rfl (fun Kc hKc => ?_)
          have c_out := fun j => cell_of_row _ _ j _ _ _ (hB29.get 2 rfl)
          have z_out := hB29.lt 2 rfl
          go_simp
          refine hKc _ _ ⟨(hB29.keep (List.Sublist.cons _ (List.Sublist.cons_cons _ (List.nil_sublist _)))), ?_⟩
          clear hKc Kc
          clear c_out z_out
          refine wpAnyT_all (rs := [14]) (by kernel_rfl) (by simp) (fun wa90 hwa90 hRwa90 i hi => ?_)
          have hB30 := hB29.next hwa90
          clear hB29 hwa90 hRwa90
          obtain rfl := List.mem_singleton.1 hi
          refine wpOp_step rfl (fun Kc hKc => ?_)
          refine step_append_any _ rfl (.tmp 19) (.tmp 31) 58 rfl w.heap.size 116 i0 (.agg #[.int .i64 0, .slice none 0 0, .slice none 0 0, .int .i64 0, .slice none 0 0, .slice none 0 0, .int .i64 0, .int .i64 0]) 8 128 Try.underlying58 hi0 hz0 hz1 hz2 rfl (by omega) (.slice A9 nk c9) nk xs rfl (hB30.row 0 rfl) _ (some ⟨gl, 0, none⟩) 1 1 [.int .i64 a.own.len, .slice A7 a.own.cuts.length c7_, .slice R7 a.own.dens.length d7_, .int .i64 a.told.len, .slice A6 a.told.cuts.length c6_, .slice R6 a.told.dens.length d6_, .int .i64 a.after, .int .i64 a.asked] rfl (reads_lit (n := 1) (s := 8) (hB30.get 0 rfl) rfl) (by intro u hu; simp at hu; rcases hu with rfl | rfl | rfl | rfl | rfl | rfl | rfl | rfl <;> rfl) (by have := HLK.out; unfold maxLen; omega) (by have := HLK.out; omega) hB30.below.size ?_
          intro v8 wb91 hown hgr hat
          obtain ⟨A8, c8, rfl, _, _⟩ := own_nil_len hown
          have hB31 := hB30.grow 0 rfl hgr hown hat
          refine hKc _ _ ⟨(hB31.keep (List.Sublist.cons _ (List.Sublist.cons_cons _ (List.nil_sublist _)))), ?_⟩
          clear hKc Kc hB30 hown hgr hat
          refine wpAnyT_go (Bx.grows _ _) (hB31.keep (List.Sublist.cons _ (List.Sublist.cons_cons _ (List.nil_sublist _)))) [15] 1 (by kernel_rfl) ?_
          apply Exists.intro
          refine ⟨fun G hG hN => ?_, ?_⟩
          · have c_a := fun (e : GE (Bx w [(gA, acB a A c R d A' c' R' d')]) G) j => cell_of_row e.w _ j _ _ _ ((GE.h e).get 0 rfl)
            have z_a := fun (e : GE (Bx w [(gA, acB a A c R d A' c' R' d')]) G) => (GE.h e).lt 0 rfl
            simp only [pickOps, List.getElem?_toArray, List.getElem?_cons_zero, List.getElem?_cons_succ]
            repeat (first | go_big_quiet_step (fail) | quiet_step (fail))
            exact wpQuiet_nil rfl
          refine wpAnyT_all (rs := [16]) (by kernel_rfl) (by simp) (fun wa92 hwa92 hRwa92 i hi => ?_)
          have hB32 := hB31.next hwa92
          clear hB31 hwa92 hRwa92
          obtain rfl := List.mem_singleton.1 hi
          refine wpOp_step rfl (fun Kc hKc => ?_)
          have c_out := fun j => cell_of_row _ _ j _ _ _ (hB32.get 2 rfl)
          have z_out := hB32.lt 2 rfl
          have f_out := fun j => frozen_of_row _ _ j _ _ (hB32.get 2 rfl)
          go_simp
          have hB33 := hB32.set 2 rfl 0 (.slice A8 (nk + 1) c8)
          refine hKc _ _ ⟨(hB33.keep (List.Sublist.cons _ (List.Sublist.cons_cons _ (List.nil_sublist _)))), ?_⟩
          clear c_out z_out f_out hKc Kc hB32
          generalize wa92.setCell _ _ = wb93 at *
          refine wpAnyT_done (by kernel_rfl) (fun wd94 hwd94 hRwd94 => ?_) _
          refine NoPanic.normal ?_
          have hB34 := hB33.next hwd94
          clear hB33 hwd94 hRwd94
          have HN := Lib.hid (show Ms (fun V => Lay kAcU V (acs.take (k + 1)) (xs ++ [.int .i64 a.own.len, .slice A7 a.own.cuts.length c7_, .slice R7 a.own.dens.length d7_, .int .i64 a.told.len, .slice A6 a.told.cuts.length c6_, .slice R6 a.told.dens.length d6_, .int .i64 a.after, .int .i64 a.asked])) w [(gO, .cells #[.slice A8 (nk + 1) c8, .slice none 0 0] 61), (gR, .cells #[.slice none 0 0, .slice none 0 0] 61), (w.heap.size, mB (some ad) s acs B dl l)] [⟨.slice A8 (nk + 1) c8, 116, 8, (acs.take (k + 1)).length, xs ++ [.int .i64 a.own.len, .slice A7 a.own.cuts.length c7_, .slice R7 a.own.dens.length d7_, .int .i64 a.told.len, .slice A6 a.told.cuts.length c6_, .slice R6 a.told.dens.length d6_, .int .i64 a.after, .int .i64 a.asked]⟩] wd94 by rw [HTL.out]; exact (hB34.imp (fun V q => lay_more q.1.1 HX.out HT.out.1 HT.out.2 q.1.2 q.2)).subl (List.Sublist.cons _ (List.Sublist.cons _ (List.Sublist.refl _))))
          clear hB34
          go_wp2_with fail
          exact ⟨⟨k + 1, _, _, HLE.out.1, by go_num, HN.out⟩, by simpa [intOf] using HLE.out.2⟩
end Go.Proofs.Ytgcbmnohhbcfiaa
