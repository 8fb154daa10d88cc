/- Normal of cakes, the program's. -/
import Derived.Test.YtgcbmnohhbcfiaaCompact
namespace Go.Proofs.Ytgcbmnohhbcfiaa
open Go.RowKit Go.Deep
set_option linter.unusedVariables false
set_option linter.unusedSimpArgs false

/-- A cake of the call's own, and a code. -/
def KRes (N : Ck) (x : Int) (w : World) (e : Ending) (w' : World) : Prop := ∃ u v, e = .returned (.tuple #[kV N.len u v, .int .i64 x]) ∧ KOwn w.heap.size w' u v N ∧ Below w.heap.size w w'
theorem KOwn.zero (B : Nat) (w : World) : KOwn B w (.slice none 0 0) (.slice none 0 0) Ck.zero := ⟨World.ownsRow_nil _ _ _ _, World.ownsRow_nil _ _ _ _, by decide, by decide⟩
set_option maxRecDepth 100000 in
set_option maxHeartbeats 16000000 in
theorem cnormal_any (K : Ck) (A : Option Addr) (c : Nat) (R : Option Addr) (d : Nat) (w : World) (h : CIn w.heap.size w A c R d K) :
    Calls Try.prog 17 #[cV A c R d K] w (KRes K.norm? K.code w) := by
  obtain ⟨i0, hi0, hz0, hz1, hz2⟩ := info_parts info3
  have hM0 : Mx w [(w.heap.size + 1, kO 0 (.slice none 0 0) (.slice none 0 0)), (w.heap.size, cB A c R d K)] [] ((w.alloc (cB A c R d K)).alloc (kO 0 (.slice none 0 0) (.slice none 0 0))) :=
    ((Mx.of_bx (Bx.start w)).new rfl _).new (by simp) _
  have HH := Lib.hid h
  have HC := Lib.hid (fun (W : World) (hW : Below w.heap.size w W) => ccheck_any K A c R d W (h.next hW))
  clear h
  unfold KRes
  go_enter Try.func17, Try.ntmps17
  go_upto_region 1 with fail
  generalize hw0 : (w.alloc (cB A c R d K)).alloc (kO 0 (.slice none 0 0) (.slice none 0 0)) = w0 at *
  clear hw0
  generalize w.heap.size + 1 = gO at *
  have c_K := fun j => cell_of_row _ _ j _ _ _ (hM0.get 1 rfl)
  have z_K := hM0.lt 1 rfl
  by_cases hc : K.code = 0
  rotate_left
  · have q : (K.code != 0) = true := by simpa using hc
    obtain ⟨code, hco⟩ : ∃ x, x = K.code := ⟨_, rfl⟩
    have HCO := Lib.hid hco
    have HN := Lib.hid (show K.norm? = Ck.zero by unfold Ck.norm?; rw [if_neg hc])
    rw [← hco] at HC q
    clear hc hco
    go_wp2_with fail
    refine (HC.out _ hM0.below).mono ?_
    rintro e w1 ⟨rfl, hb⟩
    have hB1 := hM0.next hb
    clear c_K z_K hb hM0
    have c_out := fun j => cell_of_row _ _ j _ _ _ (hB1.get 0 rfl)
    have z_out := hB1.lt 0 rfl
    have f_out := fun j => frozen_of_row _ _ j _ _ (hB1.get 0 rfl)
    have HE := Lib.hid (hB1.put3 0 rfl (.int .i64 0) (.slice none 0 0) (.slice none 0 0)).below
    clear hB1
    go_wp2_with fail
    refine bodyPost_ret (v := .tuple #[kV 0 (.slice none 0 0) (.slice none 0 0), .int .i64 code]) (by simp [results, Try.results17, go_sem, c_out, f_out, z_out]) rfl ?_
    exact ⟨(.slice none 0 0), (.slice none 0 0), by rw [HN.out, ← HCO.out]; rfl, by rw [HN.out]; exact KOwn.zero _ _, HE.out⟩
  have q : (K.code != 0) = false := by simpa using hc
  have HK := Lib.hid (Ck.ok_code hc)
  have HN := Lib.hid (show K.norm? = K.norm by unfold Ck.norm?; rw [if_pos hc])
  have HCZ := Lib.hid hc
  rw [hc] at HC q
  clear hc
  go_wp2_with fail
  refine (HC.out _ hM0.below).mono ?_
  rintro e w1 ⟨rfl, hb⟩
  have hB1 := hM0.next hb
  clear c_K z_K hb hM0
  go_upto_region 4 with fail
  go_cut [5] (fun s5 wx => ∃ (g5 : Nat) (A1 : Option Addr) (c1 : Nat), s5 = .pointer (some ⟨g5, 0, none⟩) ∧ Mx w [(g5, kO K.len (.slice none 0 0) (.slice A1 (nDens K K.dens.length).length c1)), (gO, kO 0 (.slice none 0 0) (.slice none 0 0)), (w.heap.size, cB A c R d K)] [iR (.slice A1 (nDens K K.dens.length).length c1) (nDens K K.dens.length)] wx)
  case first =>
    refine wp_region_R (Bx w [(w.heap.size, cB A c R d K)]) 9 (by kernel_rfl) (by rfl) ((hB1.keep (List.Sublist.cons _ (List.Sublist.cons_cons _ (List.nil_sublist _)))).drew) (fun wq1 hbq => ?_)
    have hB2 := hB1.next hbq
    clear hB1 hbq
    refine wpAnyE_goR (Bx.grows _ _) (hB2.keep (List.Sublist.cons _ (List.Sublist.cons_cons _ (List.nil_sublist _)))) [0, 1, 2, 3] 5 (by kernel_rfl) ?_
    apply Exists.intro
    refine ⟨fun G hG hN => ?_, ?_⟩
    · have c_K := fun (e : GE (Bx w [(w.heap.size, cB A c R d K)]) G) j => cell_of_row e.w _ j _ _ _ ((GE.h e).get 0 rfl)
      have z_K := fun (e : GE (Bx w [(w.heap.size, cB A c R d K)]) G) => (GE.h e).lt 0 rfl
      simp only [pickOps, List.getElem?_toArray, List.getElem?_cons_zero, List.getElem?_cons_succ]
      repeat (first | go_big_quiet_step (fail) | quiet_step (fail))
      exact wpQuiet_nil rfl
    refine wpAnyE_all (rs := [4, 7]) (by kernel_rfl) (by simp) (fun wa2 hwa2 hRwa2 i hi => ?_)
    have hB3 := hB2.next hwa2
    clear hB2 hwa2 hRwa2
    rcases List.mem_cons.1 hi with rfl | hi
    · refine wpOp_step rfl (fun Kc hKc => ?_)
      go_simp
      refine Calls.mono (clone_any R d K.dens _ ((HH.out.next hB3.below).dens) (by have := HK.out.n2; omega)) ?_
      rintro e wv3 ⟨v0, rfl, hown, hb⟩
      have hB4 := hB3.addI hb hown
      clear hown hb
      refine hKc _ _ ⟨(hB4.keep (List.Sublist.cons _ (List.Sublist.cons_cons _ (List.nil_sublist _)))), ?_⟩
      clear hKc Kc hB3
      refine wpAnyE_all (rs := [5, 7]) (by kernel_rfl) (by simp) (fun wa4 hwa4 hRwa4 i hi => ?_)
      have hB5 := hB4.next hwa4
      clear hB4 hwa4 hRwa4
      rcases List.mem_cons.1 hi with rfl | hi
      · refine wpOp_step rfl (fun Kc hKc => ?_)
        go_simp
        refine Calls.mono (compact_any v0 K.dens _ w.heap.size (hB5.row 0 rfl) (by have := HK.out.n2; omega)) ?_
        rintro e wv5 ⟨v1, rfl, hown, hgr, hat⟩
        rw [compact_dens] at hown
        have hB6g := hB5.grow 0 rfl hgr hown (Or.inl hat)
        obtain ⟨A1, c1, rfl, _, _⟩ := own_nil_len hown
        have hB6 : Mx w _ [iR (.slice A1 (nDens K K.dens.length).length c1) (nDens K K.dens.length)] _ := hB6g
        clear hown hgr hat hB6g
        refine hKc _ _ ⟨(hB6.keep (List.Sublist.cons _ (List.Sublist.cons_cons _ (List.nil_sublist _)))), ?_⟩
        clear hKc Kc hB5
        refine wpAnyE_goR (Bx.grows _ _) (hB6.keep (List.Sublist.cons _ (List.Sublist.cons_cons _ (List.nil_sublist _)))) [6] 2 (by kernel_rfl) ?_
        apply Exists.intro
        refine ⟨fun G hG hN => ?_, ?_⟩
        · have c_K := fun (e : GE (Bx w [(w.heap.size, cB A c R d K)]) G) j => cell_of_row e.w _ j _ _ _ ((GE.h e).get 0 rfl)
          have z_K := fun (e : GE (Bx w [(w.heap.size, cB A c R d K)]) G) => (GE.h e).lt 0 rfl
          simp only [pickOps, List.getElem?_toArray, List.getElem?_cons_zero, List.getElem?_cons_succ]
          repeat (first | go_big_quiet_step (fail) | quiet_step (fail))
          exact wpQuiet_nil rfl
        refine wpAnyE_all (rs := [7]) (by kernel_rfl) (by simp) (fun wa6 hwa6 hRwa6 i hi => ?_)
        have hB7 := hB6.next hwa6
        clear hB6 hwa6 hRwa6
        obtain rfl := List.mem_singleton.1 hi
        refine wpOp_step rfl (fun Kc hKc => ?_)
        go_simp
        have hB8 := hB7.new (g := wa6.heap.size) rfl (kO 0 (.slice none 0 0) (.slice none 0 0))
        refine hKc _ _ ⟨(hB8.keep (List.Sublist.cons _ (List.Sublist.cons _ (List.Sublist.cons_cons _ (List.nil_sublist _))))), ?_⟩
        clear hKc Kc hB7
        generalize wa6.heap.size = g5 at *
        generalize wa6.alloc _ = wb7 at *
        refine wpAnyE_all (rs := [8]) (by kernel_rfl) (by simp) (fun wa8 hwa8 hRwa8 i hi => ?_)
        have hB9 := hB8.next hwa8
        clear hB8 hwa8 hRwa8
        obtain rfl := List.mem_singleton.1 hi
        refine wpOp_step rfl (fun Kc hKc => ?_)
        have c_o5 := fun j => cell_of_row _ _ j _ _ _ (hB9.get 0 rfl)
        have z_o5 := hB9.lt 0 rfl
        have f_o5 := fun j => frozen_of_row _ _ j _ _ (hB9.get 0 rfl)
        go_simp
        have hB10 := hB9.put3 0 rfl (.int .i64 K.len) ((.slice none 0 0)) ((.slice A1 (nDens K K.dens.length).length c1))
        refine hKc _ _ ⟨(hB10.keep (List.Sublist.cons _ (List.Sublist.cons _ (List.Sublist.cons_cons _ (List.nil_sublist _))))), ?_⟩
        clear c_o5 z_o5 f_o5 hKc Kc hB9
        generalize ((wa8.setCell _ _).setCell _ _).setCell _ _ = wb9 at *
        refine wpAnyE_done (by kernel_rfl) (fun wd10 hwd10 hRwd10 => ?_) _
        refine NoPanic.normal ?_
        have hB11 := hB10.next hwd10
        clear hB10 hwd10 hRwd10
        go_wp2_with fail
        go_meet
        exact ⟨g5, A1, c1, rfl, hB11⟩
      · obtain rfl := List.mem_singleton.1 hi
        refine wpOp_step rfl (fun Kc hKc => ?_)
        go_simp
        have hB6 := hB5.new (g := wa4.heap.size) rfl (kO 0 (.slice none 0 0) (.slice none 0 0))
        refine hKc _ _ ⟨(hB6.keep (List.Sublist.cons _ (List.Sublist.cons _ (List.Sublist.cons_cons _ (List.nil_sublist _))))), ?_⟩
        clear hKc Kc hB5
        generalize wa4.heap.size = g5 at *
        generalize wa4.alloc _ = wb11 at *
        refine wpAnyE_all (rs := [5]) (by kernel_rfl) (by simp) (fun wa12 hwa12 hRwa12 i hi => ?_)
        have hB7 := hB6.next hwa12
        clear hB6 hwa12 hRwa12
        obtain rfl := List.mem_singleton.1 hi
        refine wpOp_step rfl (fun Kc hKc => ?_)
        go_simp
        refine Calls.mono (compact_any v0 K.dens _ w.heap.size (hB7.row 0 rfl) (by have := HK.out.n2; omega)) ?_
        rintro e wv13 ⟨v1, rfl, hown, hgr, hat⟩
        rw [compact_dens] at hown
        have hB8g := hB7.grow 0 rfl hgr hown (Or.inl hat)
        obtain ⟨A1, c1, rfl, _, _⟩ := own_nil_len hown
        have hB8 : Mx w _ [iR (.slice A1 (nDens K K.dens.length).length c1) (nDens K K.dens.length)] _ := hB8g
        clear hown hgr hat hB8g
        refine hKc _ _ ⟨(hB8.keep (List.Sublist.cons _ (List.Sublist.cons _ (List.Sublist.cons_cons _ (List.nil_sublist _))))), ?_⟩
        clear hKc Kc hB7
        refine wpAnyE_goR (Bx.grows _ _) (hB8.keep (List.Sublist.cons _ (List.Sublist.cons _ (List.Sublist.cons_cons _ (List.nil_sublist _))))) [6] 1 (by kernel_rfl) ?_
        apply Exists.intro
        refine ⟨fun G hG hN => ?_, ?_⟩
        · have c_K := fun (e : GE (Bx w [(w.heap.size, cB A c R d K)]) G) j => cell_of_row e.w _ j _ _ _ ((GE.h e).get 0 rfl)
          have z_K := fun (e : GE (Bx w [(w.heap.size, cB A c R d K)]) G) => (GE.h e).lt 0 rfl
          simp only [pickOps, List.getElem?_toArray, List.getElem?_cons_zero, List.getElem?_cons_succ]
          repeat (first | go_big_quiet_step (fail) | quiet_step (fail))
          exact wpQuiet_nil rfl
        refine wpAnyE_all (rs := [8]) (by kernel_rfl) (by simp) (fun wa14 hwa14 hRwa14 i hi => ?_)
        have hB9 := hB8.next hwa14
        clear hB8 hwa14 hRwa14
        obtain rfl := List.mem_singleton.1 hi
        refine wpOp_step rfl (fun Kc hKc => ?_)
        have c_o5 := fun j => cell_of_row _ _ j _ _ _ (hB9.get 0 rfl)
        have z_o5 := hB9.lt 0 rfl
        have f_o5 := fun j => frozen_of_row _ _ j _ _ (hB9.get 0 rfl)
        go_simp
        have hB10 := hB9.put3 0 rfl (.int .i64 K.len) ((.slice none 0 0)) ((.slice A1 (nDens K K.dens.length).length c1))
        refine hKc _ _ ⟨(hB10.keep (List.Sublist.cons _ (List.Sublist.cons _ (List.Sublist.cons_cons _ (List.nil_sublist _))))), ?_⟩
        clear c_o5 z_o5 f_o5 hKc Kc hB9
        generalize ((wa14.setCell _ _).setCell _ _).setCell _ _ = wb15 at *
        refine wpAnyE_done (by kernel_rfl) (fun wd16 hwd16 hRwd16 => ?_) _
        refine NoPanic.normal ?_
        have hB11 := hB10.next hwd16
        clear hB10 hwd16 hRwd16
        go_wp2_with fail
        go_meet
        exact ⟨g5, A1, c1, rfl, hB11⟩
    · obtain rfl := List.mem_singleton.1 hi
      refine wpOp_step rfl (fun Kc hKc => ?_)
      go_simp
      have hB4 := hB3.new (g := wa2.heap.size) rfl (kO 0 (.slice none 0 0) (.slice none 0 0))
      refine hKc _ _ ⟨(hB4.keep (List.Sublist.cons _ (List.Sublist.cons _ (List.Sublist.cons_cons _ (List.nil_sublist _))))), ?_⟩
      clear hKc Kc hB3
      generalize wa2.heap.size = g5 at *
      generalize wa2.alloc _ = wb17 at *
      refine wpAnyE_all (rs := [4]) (by kernel_rfl) (by simp) (fun wa18 hwa18 hRwa18 i hi => ?_)
      have hB5 := hB4.next hwa18
      clear hB4 hwa18 hRwa18
      obtain rfl := List.mem_singleton.1 hi
      refine wpOp_step rfl (fun Kc hKc => ?_)
      go_simp
      refine Calls.mono (clone_any R d K.dens _ ((HH.out.next hB5.below).dens) (by have := HK.out.n2; omega)) ?_
      rintro e wv19 ⟨v0, rfl, hown, hb⟩
      have hB6 := hB5.addI hb hown
      clear hown hb
      refine hKc _ _ ⟨(hB6.keep (List.Sublist.cons _ (List.Sublist.cons _ (List.Sublist.cons_cons _ (List.nil_sublist _))))), ?_⟩
      clear hKc Kc hB5
      refine wpAnyE_all (rs := [5]) (by kernel_rfl) (by simp) (fun wa20 hwa20 hRwa20 i hi => ?_)
      have hB7 := hB6.next hwa20
      clear hB6 hwa20 hRwa20
      obtain rfl := List.mem_singleton.1 hi
      refine wpOp_step rfl (fun Kc hKc => ?_)
      go_simp
      refine Calls.mono (compact_any v0 K.dens _ w.heap.size (hB7.row 0 rfl) (by have := HK.out.n2; omega)) ?_
      rintro e wv21 ⟨v1, rfl, hown, hgr, hat⟩
      rw [compact_dens] at hown
      have hB8g := hB7.grow 0 rfl hgr hown (Or.inl hat)
      obtain ⟨A1, c1, rfl, _, _⟩ := own_nil_len hown
      have hB8 : Mx w _ [iR (.slice A1 (nDens K K.dens.length).length c1) (nDens K K.dens.length)] _ := hB8g
      clear hown hgr hat hB8g
      refine hKc _ _ ⟨(hB8.keep (List.Sublist.cons _ (List.Sublist.cons _ (List.Sublist.cons_cons _ (List.nil_sublist _))))), ?_⟩
      clear hKc Kc hB7
      refine wpAnyE_goR (Bx.grows _ _) (hB8.keep (List.Sublist.cons _ (List.Sublist.cons _ (List.Sublist.cons_cons _ (List.nil_sublist _))))) [6] 1 (by kernel_rfl) ?_
      apply Exists.intro
      refine ⟨fun G hG hN => ?_, ?_⟩
      · have c_K := fun (e : GE (Bx w [(w.heap.size, cB A c R d K)]) G) j => cell_of_row e.w _ j _ _ _ ((GE.h e).get 0 rfl)
        have z_K := fun (e : GE (Bx w [(w.heap.size, cB A c R d K)]) G) => (GE.h e).lt 0 rfl
        simp only [pickOps, List.getElem?_toArray, List.getElem?_cons_zero, List.getElem?_cons_succ]
        repeat (first | go_big_quiet_step (fail) | quiet_step (fail))
        exact wpQuiet_nil rfl
      refine wpAnyE_all (rs := [8]) (by kernel_rfl) (by simp) (fun wa22 hwa22 hRwa22 i hi => ?_)
      have hB9 := hB8.next hwa22
      clear hB8 hwa22 hRwa22
      obtain rfl := List.mem_singleton.1 hi
      refine wpOp_step rfl (fun Kc hKc => ?_)
      have c_o5 := fun j => cell_of_row _ _ j _ _ _ (hB9.get 0 rfl)
      have z_o5 := hB9.lt 0 rfl
      have f_o5 := fun j => frozen_of_row _ _ j _ _ (hB9.get 0 rfl)
      go_simp
      have hB10 := hB9.put3 0 rfl (.int .i64 K.len) ((.slice none 0 0)) ((.slice A1 (nDens K K.dens.length).length c1))
      refine hKc _ _ ⟨(hB10.keep (List.Sublist.cons _ (List.Sublist.cons _ (List.Sublist.cons_cons _ (List.nil_sublist _))))), ?_⟩
      clear c_o5 z_o5 f_o5 hKc Kc hB9
      generalize ((wa22.setCell _ _).setCell _ _).setCell _ _ = wb23 at *
      refine wpAnyE_done (by kernel_rfl) (fun wd24 hwd24 hRwd24 => ?_) _
      refine NoPanic.normal ?_
      have hB11 := hB10.next hwd24
      clear hB10 hwd24 hRwd24
      go_wp2_with fail
      go_meet
      exact ⟨g5, A1, c1, rfl, hB11⟩
  case rest =>
    obtain ⟨g5, A1, c1, rfl, hM4⟩ := hcut
    clear hB1
    have c_K := fun j => cell_of_row _ _ j _ _ _ (hM4.get 2 rfl)
    have z_K := hM4.lt 2 rfl
    go_wp2_with fail
    clear c_K z_K
    have HM4 := Lib.hid hM4
    clear hM4
    go_loopw [6, 23] (fun _ s23 wr => ∃ (k : Nat) (vc : Value), k ≤ K.dens.length ∧ s23 = .int .i64 k ∧ Mx w [(g5, kO K.len vc (.slice A1 (nDens K K.dens.length).length c1)), (gO, kO 0 (.slice none 0 0) (.slice none 0 0)), (w.heap.size, cB A c R d K)] [iR vc (nCuts K k), iR (.slice A1 (nDens K K.dens.length).length c1) (nDens K K.dens.length)] wr) (fun _ s23 _ => K.dens.length - (intOf s23).toNat)
    case atStart => exact ⟨0, (.slice none 0 0), Nat.zero_le _, rfl, HM4.out.nil 3 1⟩
    case round =>
      obtain ⟨k, vc, hk, rfl, hMr⟩ := hrel
      by_cases hlt : k < K.dens.length
      rotate_left
      · obtain rfl : k = K.dens.length := by omega
        have c_o5 := fun j => cell_of_row _ _ j _ _ _ (hMr.get 0 rfl)
        have z_o5 := hMr.lt 0 rfl
        have c_K := fun j => cell_of_row _ _ j _ _ _ (hMr.get 2 rfl)
        have z_K := hMr.lt 2 rfl
        have HNL := Lib.hid (show (nCuts K K.dens.length).length ≤ 39 by have := HK.out.n2; have := nLen_le K K.dens.length; have := nLen K K.dens.length; omega)
        have hB61n := hMr.new rfl ((.cells #[.int .i64 K.len] 3))
        go_upto_region 12 with (at_builtin; refine wpList_append_any _ rfl (.tmp 54) (.tmp 57) 22 rfl w.heap.size 3 i0 (.int .i64 0) 1 8 Try.underlying22 hi0 hz0 hz1 hz2 rfl (by omega) vc (nCuts K K.dens.length).length (intsV (nCuts K K.dens.length)) rfl (hB61n.row 0 rfl) _ (some ⟨wr.heap.size, 0, none⟩) 1 1 [.int .i64 K.len] rfl (reads_one (hB61n.get 0 rfl)) (one_one _) (by have := HNL.out; unfold maxLen; omega) (by have := HNL.out; omega) hB61n.below.size ?_; intro v2 wb25 hown hgr hat; obtain ⟨A2, c2, rfl, _, _⟩ := own_nil_len hown; have hB61g := hB61n.grow 0 rfl hgr hown hat; have c_o52 := fun j => cell_of_row _ _ j _ _ _ (hB61g.get 1 rfl); have f_o52 := fun j => frozen_of_row _ _ j _ _ (hB61g.get 1 rfl); have z_o52 := hB61g.lt 1 rfl)
        have hB61 := (hB61g.set 1 rfl 1 (.slice A2 ((nCuts K K.dens.length).length + 1) c2)).drop
        clear c_o5 z_o5 c_K z_K hB61n hB61g hMr hown hgr hat c_o52 f_o52 z_o52
        generalize wb25.setCell _ _ = wb26 at *
        have HR1 := hB61.row 0 rfl
        have HR2 := hB61.row 1 rfl
        simp only [intsV_append] at HR1
        have HE := Lib.hid (show KOwn w.heap.size wb26 (.slice A2 ((nCuts K K.dens.length).length + 1) c2) (.slice A1 (nDens K K.dens.length).length c1) K.norm from ⟨by simpa [Ck.norm] using HR1, HR2, HH.out.w0, HH.out.w1⟩)
        clear HR1 HR2
        have c_o5 := fun j => cell_of_row _ _ j _ _ _ (hB61.get 0 rfl)
        have z_o5 := hB61.lt 0 rfl
        have c_out := fun j => cell_of_row _ _ j _ _ _ (hB61.get 1 rfl)
        have z_out := hB61.lt 1 rfl
        have f_out := fun j => frozen_of_row _ _ j _ _ (hB61.get 1 rfl)
        have HB := Lib.hid (hB61.put3 1 rfl (.int .i64 K.len) (.slice A2 ((nCuts K K.dens.length).length + 1) c2) (.slice A1 (nDens K K.dens.length).length c1)).below
        have HE2 := Lib.hid ((hB61.put3 1 rfl (.int .i64 K.len) (.slice A2 ((nCuts K K.dens.length).length + 1) c2) (.slice A1 (nDens K K.dens.length).length c1)).row 0 rfl)
        have HE3 := Lib.hid ((hB61.put3 1 rfl (.int .i64 K.len) (.slice A2 ((nCuts K K.dens.length).length + 1) c2) (.slice A1 (nDens K K.dens.length).length c1)).row 1 rfl)
        clear hB61
        go_wp2_with fail
        refine bodyPost_ret (v := .tuple #[kV K.len (.slice A2 ((nCuts K K.dens.length).length + 1) c2) (.slice A1 (nDens K K.dens.length).length c1), .int .i64 0]) (by simp [results, Try.results17, go_sem, c_out, f_out, z_out]) rfl ?_
        refine ⟨_, _, by rw [HN.out, HCZ.out]; rfl, ?_, HB.out⟩
        rw [HN.out]
        exact ⟨by simpa [Ck.norm] using HE2.out, HE3.out, HH.out.w0, HH.out.w1⟩
      have n1 := HK.out.n1
      have n2 := HK.out.n2
      have nc := HK.out.nc
      obtain ⟨ad, rfl, hb1, hc1⟩ := HH.out.cuts.at_ (show k < K.cuts.length by omega)
      obtain ⟨rd, rfl, hb2, hc2⟩ := HH.out.dens.at_ hlt
      obtain ⟨re, e3, hb3, hc3⟩ := HH.out.dens.at_ (show k - 1 < K.dens.length by omega)
      obtain rfl : rd = re := by simpa using e3
      have HF := Lib.hid (fun (W : World) (hW : Below w.heap.size w W) => show W.cell? (ad.add k) = some (.int .i64 (gi K.cuts k)) ∧ W.cell? (rd.add k) = some (.int .i64 (gi K.dens k)) ∧ W.cell? (rd.add (k - 1)) = some (.int .i64 (gi K.dens (k - 1))) from
        ⟨(hW.cell (by rw [block_add]; exact hb1)).trans hc1, (hW.cell (by rw [block_add]; exact hb2)).trans hc2, (hW.cell (by rw [block_add]; exact hb3)).trans hc3⟩)
      clear hb1 hc1 hb2 hc2 hb3 hc3 e3
      have z1 : (k : Int) < (K.dens.length : Int) := by omega
      have z2 : (k : Int) < (K.cuts.length : Int) := by omega
      have z3 : (0 : Int) ≤ (k : Int) := by omega
      have y1 : IntKind.i64.wrap ((k : Int) + 1) = (k : Int) + 1 := IntWalk.i64_in _ (by omega)
      have y1' : wrap64 ((k : Int) + 1) = (k : Int) + 1 := IntWalk.wrap64_in _ (by omega)
      have HLE := Lib.hid (show k + 1 ≤ K.dens.length by omega)
      have HME := Lib.hid (show K.dens.length - (k + 1) < K.dens.length - k by omega)
      have HNL := Lib.hid (show (nCuts K k).length ≤ k ∧ k ≤ 39 by have := nLen_le K k; have := nLen K k; omega)
      clear n1 n2 nc
      have HKP := Lib.hid (show keepI K.dens k = decide (k = 0 ∨ gi K.dens k ≠ gi K.dens (k - 1)) from rfl)
      by_cases hk0 : k = 0
      · have q0 : ((k : Int) == 0) = true := by simp; omega
        have HT := Lib.hid (show keepI K.dens k = true by rw [HKP.out]; exact decide_eq_true (Or.inl hk0))
        clear hk0
        go_wp2_with fail
        refine wp_region_R (Bx w [(g5, kO K.len vc (.slice A1 (nDens K K.dens.length).length c1)), (gO, kO 0 (.slice none 0 0) (.slice none 0 0)), (w.heap.size, cB (some ad) c (some rd) d K)]) 16 (by kernel_rfl) (by rfl) ((hMr.keep (List.Sublist.cons_cons _ (List.Sublist.cons_cons _ (List.Sublist.cons_cons _ (List.nil_sublist _))))).drew) (fun wq27 hbq => ?_)
        have hB61 := hMr.next hbq
        clear hMr hbq
        refine wpAnyE_goR (Bx.grows _ _) (hB61.keep (List.Sublist.cons_cons _ (List.Sublist.cons_cons _ (List.Sublist.cons_cons _ (List.nil_sublist _))))) [0, 1, 2, 3, 4, 5, 6, 7, 8, 9, 10, 11, 12, 13, 14, 15] 0 (by kernel_rfl) ?_
        apply Exists.intro
        refine ⟨fun G hG hN => ?_, ?_⟩
        · have c_o5 := fun (e : GE (Bx w [(g5, kO K.len vc (.slice A1 (nDens K K.dens.length).length c1)), (gO, kO 0 (.slice none 0 0) (.slice none 0 0)), (w.heap.size, cB (some ad) c (some rd) d K)]) G) j => cell_of_row e.w _ j _ _ _ ((GE.h e).get 0 rfl)
          have z_o5 := fun (e : GE (Bx w [(g5, kO K.len vc (.slice A1 (nDens K K.dens.length).length c1)), (gO, kO 0 (.slice none 0 0) (.slice none 0 0)), (w.heap.size, cB (some ad) c (some rd) d K)]) G) => (GE.h e).lt 0 rfl
          have c_out := fun (e : GE (Bx w [(g5, kO K.len vc (.slice A1 (nDens K K.dens.length).length c1)), (gO, kO 0 (.slice none 0 0) (.slice none 0 0)), (w.heap.size, cB (some ad) c (some rd) d K)]) G) j => cell_of_row e.w _ j _ _ _ ((GE.h e).get 1 rfl)
          have z_out := fun (e : GE (Bx w [(g5, kO K.len vc (.slice A1 (nDens K K.dens.length).length c1)), (gO, kO 0 (.slice none 0 0) (.slice none 0 0)), (w.heap.size, cB (some ad) c (some rd) d K)]) G) => (GE.h e).lt 1 rfl
          have c_K := fun (e : GE (Bx w [(g5, kO K.len vc (.slice A1 (nDens K K.dens.length).length c1)), (gO, kO 0 (.slice none 0 0) (.slice none 0 0)), (w.heap.size, cB (some ad) c (some rd) d K)]) G) j => cell_of_row e.w _ j _ _ _ ((GE.h e).get 2 rfl)
          have z_K := fun (e : GE (Bx w [(g5, kO K.len vc (.slice A1 (nDens K K.dens.length).length c1)), (gO, kO 0 (.slice none 0 0) (.slice none 0 0)), (w.heap.size, cB (some ad) c (some rd) d K)]) G) => (GE.h e).lt 2 rfl
          have fc := fun (e : GE (Bx w [(g5, kO K.len vc (.slice A1 (nDens K K.dens.length).length c1)), (gO, kO 0 (.slice none 0 0) (.slice none 0 0)), (w.heap.size, cB (some ad) c (some rd) d K)]) G) => (HF.out e.w (GE.h e).below).1
          have fd := fun (e : GE (Bx w [(g5, kO K.len vc (.slice A1 (nDens K K.dens.length).length c1)), (gO, kO 0 (.slice none 0 0) (.slice none 0 0)), (w.heap.size, cB (some ad) c (some rd) d K)]) G) => (HF.out e.w (GE.h e).below).2.1
          have fe := fun (e : GE (Bx w [(g5, kO K.len vc (.slice A1 (nDens K K.dens.length).length c1)), (gO, kO 0 (.slice none 0 0) (.slice none 0 0)), (w.heap.size, cB (some ad) c (some rd) d K)]) G) => (HF.out e.w (GE.h e).below).2.2
          simp only [pickOps, List.getElem?_toArray, List.getElem?_cons_zero, List.getElem?_cons_succ]
          repeat (first | go_big_quiet_step (fail) | quiet_step (fail))
          exact wpQuiet_nil rfl
        refine wpAnyE_done (by kernel_rfl) (fun wd28 hwd28 hRwd28 => ?_) _
        refine NoPanic.normal ?_
        have hB62 := hB61.next hwd28
        clear hB61 hwd28 hRwd28
        have HY := Lib.hid (nCuts_yes (K := K) (k := k) HT.out)
        go_wp2_with fail
        refine wp_region_R (Bx w [(gO, kO 0 (.slice none 0 0) (.slice none 0 0)), (w.heap.size, cB (some ad) c (some rd) d K)]) 11 (by kernel_rfl) (by rfl) ((hB62.keep (List.Sublist.cons _ (List.Sublist.cons_cons _ (List.Sublist.cons_cons _ (List.nil_sublist _))))).drew) (fun wq29 hbq => ?_)
        have hB63 := hB62.next hbq
        clear hB62 hbq
        refine wpAnyE_goR (Bx.grows _ _) (hB63.keep (List.Sublist.cons _ (List.Sublist.cons_cons _ (List.Sublist.cons_cons _ (List.nil_sublist _))))) [0, 2, 3, 4, 5, 6] 5 (by kernel_rfl) ?_
        apply Exists.intro
        refine ⟨fun G hG hN => ?_, ?_⟩
        · have c_out := fun (e : GE (Bx w [(gO, kO 0 (.slice none 0 0) (.slice none 0 0)), (w.heap.size, cB (some ad) c (some rd) d K)]) G) j => cell_of_row e.w _ j _ _ _ ((GE.h e).get 0 rfl)
          have z_out := fun (e : GE (Bx w [(gO, kO 0 (.slice none 0 0) (.slice none 0 0)), (w.heap.size, cB (some ad) c (some rd) d K)]) G) => (GE.h e).lt 0 rfl
          have c_K := fun (e : GE (Bx w [(gO, kO 0 (.slice none 0 0) (.slice none 0 0)), (w.heap.size, cB (some ad) c (some rd) d K)]) G) j => cell_of_row e.w _ j _ _ _ ((GE.h e).get 1 rfl)
          have z_K := fun (e : GE (Bx w [(gO, kO 0 (.slice none 0 0) (.slice none 0 0)), (w.heap.size, cB (some ad) c (some rd) d K)]) G) => (GE.h e).lt 1 rfl
          have fc := fun (e : GE (Bx w [(gO, kO 0 (.slice none 0 0) (.slice none 0 0)), (w.heap.size, cB (some ad) c (some rd) d K)]) G) => (HF.out e.w (GE.h e).below).1
          have fd := fun (e : GE (Bx w [(gO, kO 0 (.slice none 0 0) (.slice none 0 0)), (w.heap.size, cB (some ad) c (some rd) d K)]) G) => (HF.out e.w (GE.h e).below).2.1
          have fe := fun (e : GE (Bx w [(gO, kO 0 (.slice none 0 0) (.slice none 0 0)), (w.heap.size, cB (some ad) c (some rd) d K)]) G) => (HF.out e.w (GE.h e).below).2.2
          simp only [pickOps, List.getElem?_toArray, List.getElem?_cons_zero, List.getElem?_cons_succ]
          repeat (first | go_big_quiet_step (fail) | quiet_step (fail))
          exact wpQuiet_nil rfl
        refine wpAnyE_all (rs := [1, 7]) (by kernel_rfl) (by simp) (fun wa30 hwa30 hRwa30 i hi => ?_)
        have hB64 := hB63.next hwa30
        clear hB63 hwa30 hRwa30
        rcases List.mem_cons.1 hi with rfl | hi
        · refine wpOp_step rfl (fun Kc hKc => ?_)
          have c_o5 := fun j => cell_of_row _ _ j _ _ _ (hB64.get 0 rfl)
          have z_o5 := hB64.lt 0 rfl
          go_simp
          refine hKc _ _ ⟨(hB64.keep (List.Sublist.cons _ (List.Sublist.cons_cons _ (List.Sublist.cons_cons _ (List.nil_sublist _))))), ?_⟩
          clear hKc Kc
          clear c_o5 z_o5
          refine wpAnyE_all (rs := [7]) (by kernel_rfl) (by simp) (fun wa31 hwa31 hRwa31 i hi => ?_)
          have hB65 := hB64.next hwa31
          clear hB64 hwa31 hRwa31
          obtain rfl := List.mem_singleton.1 hi
          refine wpOp_step rfl (fun Kc hKc => ?_)
          go_simp
          have hB66 := hB65.new (g := wa31.heap.size) rfl (.cells #[.int .i64 (gi K.cuts k)] 3)
          refine hKc _ _ ⟨(hB66.keep (List.Sublist.cons _ (List.Sublist.cons _ (List.Sublist.cons_cons _ (List.Sublist.cons_cons _ (List.nil_sublist _)))))), ?_⟩
          clear hKc Kc hB65
          generalize wa31.heap.size = gl at *
          generalize wa31.alloc _ = wb32 at *
          refine wpAnyE_all (rs := [8]) (by kernel_rfl) (by simp) (fun wa33 hwa33 hRwa33 i hi => ?_)
          have hB67 := hB66.next hwa33
          clear hB66 hwa33 hRwa33
          obtain rfl := List.mem_singleton.1 hi
          refine wpOp_step rfl (fun Kc hKc => ?_)
          refine step_append_any _ rfl (.tmp 43) (.tmp 49) 22 rfl w.heap.size 3 i0 (.int .i64 0) 1 8 Try.underlying22 hi0 hz0 hz1 hz2 rfl (by omega) vc (nCuts K k).length (intsV (nCuts K k)) rfl (hB67.row 0 rfl) _ (some ⟨gl, 0, none⟩) 1 1 [.int .i64 (gi K.cuts k)] rfl (reads_one (hB67.get 0 rfl)) (one_one _) (by have := HNL.out; unfold maxLen; omega) (by have := HNL.out; omega) hB67.below.size ?_
          intro v2 wb34 hown hgr hat
          obtain ⟨A2, c2, rfl, _, _⟩ := own_nil_len hown
          have hB68 := hB67.grow 0 rfl hgr hown hat
          refine hKc _ _ ⟨(hB68.keep (List.Sublist.cons _ (List.Sublist.cons _ (List.Sublist.cons_cons _ (List.Sublist.cons_cons _ (List.nil_sublist _)))))), ?_⟩
          clear hKc Kc hB67 hown hgr hat
          refine wpAnyE_goR (Bx.grows _ _) (hB68.keep (List.Sublist.cons _ (List.Sublist.cons _ (List.Sublist.cons_cons _ (List.Sublist.cons_cons _ (List.nil_sublist _)))))) [9] 1 (by kernel_rfl) ?_
          apply Exists.intro
          refine ⟨fun G hG hN => ?_, ?_⟩
          · have c_out := fun (e : GE (Bx w [(gO, kO 0 (.slice none 0 0) (.slice none 0 0)), (w.heap.size, cB (some ad) c (some rd) d K)]) G) j => cell_of_row e.w _ j _ _ _ ((GE.h e).get 0 rfl)
            have z_out := fun (e : GE (Bx w [(gO, kO 0 (.slice none 0 0) (.slice none 0 0)), (w.heap.size, cB (some ad) c (some rd) d K)]) G) => (GE.h e).lt 0 rfl
            have c_K := fun (e : GE (Bx w [(gO, kO 0 (.slice none 0 0) (.slice none 0 0)), (w.heap.size, cB (some ad) c (some rd) d K)]) G) j => cell_of_row e.w _ j _ _ _ ((GE.h e).get 1 rfl)
            have z_K := fun (e : GE (Bx w [(gO, kO 0 (.slice none 0 0) (.slice none 0 0)), (w.heap.size, cB (some ad) c (some rd) d K)]) G) => (GE.h e).lt 1 rfl
            have fc := fun (e : GE (Bx w [(gO, kO 0 (.slice none 0 0) (.slice none 0 0)), (w.heap.size, cB (some ad) c (some rd) d K)]) G) => (HF.out e.w (GE.h e).below).1
            have fd := fun (e : GE (Bx w [(gO, kO 0 (.slice none 0 0) (.slice none 0 0)), (w.heap.size, cB (some ad) c (some rd) d K)]) G) => (HF.out e.w (GE.h e).below).2.1
            have fe := fun (e : GE (Bx w [(gO, kO 0 (.slice none 0 0) (.slice none 0 0)), (w.heap.size, cB (some ad) c (some rd) d K)]) G) => (HF.out e.w (GE.h e).below).2.2
            simp only [pickOps, List.getElem?_toArray, List.getElem?_cons_zero, List.getElem?_cons_succ]
            repeat (first | go_big_quiet_step (fail) | quiet_step (fail))
            exact wpQuiet_nil rfl
          refine wpAnyE_all (rs := [10]) (by kernel_rfl) (by simp) (fun wa35 hwa35 hRwa35 i hi => ?_)
          have hB69 := hB68.next hwa35
          clear hB68 hwa35 hRwa35
          obtain rfl := List.mem_singleton.1 hi
          refine wpOp_step rfl (fun Kc hKc => ?_)
          have c_o5 := fun j => cell_of_row _ _ j _ _ _ (hB69.get 1 rfl)
          have z_o5 := hB69.lt 1 rfl
          have f_o5 := fun j => frozen_of_row _ _ j _ _ (hB69.get 1 rfl)
          go_simp
          have hB70 := hB69.set 1 rfl 1 ((.slice A2 ((nCuts K k).length + 1) c2))
          refine hKc _ _ ⟨(hB70.keep (List.Sublist.cons _ (List.Sublist.cons _ (List.Sublist.cons_cons _ (List.Sublist.cons_cons _ (List.nil_sublist _)))))), ?_⟩
          clear c_o5 z_o5 f_o5 hKc Kc hB69
          generalize wa35.setCell _ _ = wb36 at *
          refine wpAnyE_done (by kernel_rfl) (fun wd37 hwd37 hRwd37 => ?_) _
          refine NoPanic.normal ?_
          have hB71 := hB70.next hwd37
          clear hB70 hwd37 hRwd37
          have HZ := Lib.hid (show Mx w [(g5, kO K.len (.slice A2 ((nCuts K k).length + 1) c2) (.slice A1 (nDens K K.dens.length).length c1)), (gO, kO 0 (.slice none 0 0) (.slice none 0 0)), (w.heap.size, cB (some ad) c (some rd) d K)] [iR (.slice A2 ((nCuts K k).length + 1) c2) (nCuts K k ++ [gi K.cuts k]), iR (.slice A1 (nDens K K.dens.length).length c1) (nDens K K.dens.length)] _ by
            have hz := hB71.drop
            have e : iR (.slice A2 ((nCuts K k).length + 1) c2) (nCuts K k ++ [gi K.cuts k]) = ⟨(.slice A2 ((nCuts K k).length + 1) c2), 3, 1, (nCuts K k).length + 1, intsV (nCuts K k) ++ [.int .i64 (gi K.cuts k)]⟩ := by simp
            rw [e]; exact hz)
          clear hB71
          go_wp2_with fail
          exact ⟨⟨k + 1, (.slice A2 ((nCuts K k).length + 1) c2), HLE.out, by go_num, by rw [HY.out]; exact HZ.out⟩, by simpa [intOf] using HME.out⟩
        · obtain rfl := List.mem_singleton.1 hi
          refine wpOp_step rfl (fun Kc hKc => ?_)
          go_simp
          have hB65 := hB64.new (g := wa30.heap.size) rfl (.cells #[.int .i64 (gi K.cuts k)] 3)
          refine hKc _ _ ⟨(hB65.keep (List.Sublist.cons _ (List.Sublist.cons _ (List.Sublist.cons_cons _ (List.Sublist.cons_cons _ (List.nil_sublist _)))))), ?_⟩
          clear hKc Kc hB64
          generalize wa30.heap.size = gl at *
          generalize wa30.alloc _ = wb38 at *
          refine wpAnyE_all (rs := [1]) (by kernel_rfl) (by simp) (fun wa39 hwa39 hRwa39 i hi => ?_)
          have hB66 := hB65.next hwa39
          clear hB65 hwa39 hRwa39
          obtain rfl := List.mem_singleton.1 hi
          refine wpOp_step rfl (fun Kc hKc => ?_)
          have c_o5 := fun j => cell_of_row _ _ j _ _ _ (hB66.get 1 rfl)
          have z_o5 := hB66.lt 1 rfl
          go_simp
          refine hKc _ _ ⟨(hB66.keep (List.Sublist.cons _ (List.Sublist.cons _ (List.Sublist.cons_cons _ (List.Sublist.cons_cons _ (List.nil_sublist _)))))), ?_⟩
          clear hKc Kc
          clear c_o5 z_o5
          refine wpAnyE_all (rs := [8]) (by kernel_rfl) (by simp) (fun wa40 hwa40 hRwa40 i hi => ?_)
          have hB67 := hB66.next hwa40
          clear hB66 hwa40 hRwa40
          obtain rfl := List.mem_singleton.1 hi
          refine wpOp_step rfl (fun Kc hKc => ?_)
          refine step_append_any _ rfl (.tmp 43) (.tmp 49) 22 rfl w.heap.size 3 i0 (.int .i64 0) 1 8 Try.underlying22 hi0 hz0 hz1 hz2 rfl (by omega) vc (nCuts K k).length (intsV (nCuts K k)) rfl (hB67.row 0 rfl) _ (some ⟨gl, 0, none⟩) 1 1 [.int .i64 (gi K.cuts k)] rfl (reads_one (hB67.get 0 rfl)) (one_one _) (by have := HNL.out; unfold maxLen; omega) (by have := HNL.out; omega) hB67.below.size ?_
          intro v2 wb41 hown hgr hat
          obtain ⟨A2, c2, rfl, _, _⟩ := own_nil_len hown
          have hB68 := hB67.grow 0 rfl hgr hown hat
          refine hKc _ _ ⟨(hB68.keep (List.Sublist.cons _ (List.Sublist.cons _ (List.Sublist.cons_cons _ (List.Sublist.cons_cons _ (List.nil_sublist _)))))), ?_⟩
          clear hKc Kc hB67 hown hgr hat
          refine wpAnyE_goR (Bx.grows _ _) (hB68.keep (List.Sublist.cons _ (List.Sublist.cons _ (List.Sublist.cons_cons _ (List.Sublist.cons_cons _ (List.nil_sublist _)))))) [9] 1 (by kernel_rfl) ?_
          apply Exists.intro
          refine ⟨fun G hG hN => ?_, ?_⟩
          · have c_out := fun (e : GE (Bx w [(gO, kO 0 (.slice none 0 0) (.slice none 0 0)), (w.heap.size, cB (some ad) c (some rd) d K)]) G) j => cell_of_row e.w _ j _ _ _ ((GE.h e).get 0 rfl)
            have z_out := fun (e : GE (Bx w [(gO, kO 0 (.slice none 0 0) (.slice none 0 0)), (w.heap.size, cB (some ad) c (some rd) d K)]) G) => (GE.h e).lt 0 rfl
            have c_K := fun (e : GE (Bx w [(gO, kO 0 (.slice none 0 0) (.slice none 0 0)), (w.heap.size, cB (some ad) c (some rd) d K)]) G) j => cell_of_row e.w _ j _ _ _ ((GE.h e).get 1 rfl)
            have z_K := fun (e : GE (Bx w [(gO, kO 0 (.slice none 0 0) (.slice none 0 0)), (w.heap.size, cB (some ad) c (some rd) d K)]) G) => (GE.h e).lt 1 rfl
            have fc := fun (e : GE (Bx w [(gO, kO 0 (.slice none 0 0) (.slice none 0 0)), (w.heap.size, cB (some ad) c (some rd) d K)]) G) => (HF.out e.w (GE.h e).below).1
            have fd := fun (e : GE (Bx w [(gO, kO 0 (.slice none 0 0) (.slice none 0 0)), (w.heap.size, cB (some ad) c (some rd) d K)]) G) => (HF.out e.w (GE.h e).below).2.1
            have fe := fun (e : GE (Bx w [(gO, kO 0 (.slice none 0 0) (.slice none 0 0)), (w.heap.size, cB (some ad) c (some rd) d K)]) G) => (HF.out e.w (GE.h e).below).2.2
            simp only [pickOps, List.getElem?_toArray, List.getElem?_cons_zero, List.getElem?_cons_succ]
            repeat (first | go_big_quiet_step (fail) | quiet_step (fail))
            exact wpQuiet_nil rfl
          refine wpAnyE_all (rs := [10]) (by kernel_rfl) (by simp) (fun wa42 hwa42 hRwa42 i hi => ?_)
          have hB69 := hB68.next hwa42
          clear hB68 hwa42 hRwa42
          obtain rfl := List.mem_singleton.1 hi
          refine wpOp_step rfl (fun Kc hKc => ?_)
          have c_o5 := fun j => cell_of_row _ _ j _ _ _ (hB69.get 1 rfl)
          have z_o5 := hB69.lt 1 rfl
          have f_o5 := fun j => frozen_of_row _ _ j _ _ (hB69.get 1 rfl)
          go_simp
          have hB70 := hB69.set 1 rfl 1 ((.slice A2 ((nCuts K k).length + 1) c2))
          refine hKc _ _ ⟨(hB70.keep (List.Sublist.cons _ (List.Sublist.cons _ (List.Sublist.cons_cons _ (List.Sublist.cons_cons _ (List.nil_sublist _)))))), ?_⟩
          clear c_o5 z_o5 f_o5 hKc Kc hB69
          generalize wa42.setCell _ _ = wb43 at *
          refine wpAnyE_done (by kernel_rfl) (fun wd44 hwd44 hRwd44 => ?_) _
          refine NoPanic.normal ?_
          have hB71 := hB70.next hwd44
          clear hB70 hwd44 hRwd44
          have HZ := Lib.hid (show Mx w [(g5, kO K.len (.slice A2 ((nCuts K k).length + 1) c2) (.slice A1 (nDens K K.dens.length).length c1)), (gO, kO 0 (.slice none 0 0) (.slice none 0 0)), (w.heap.size, cB (some ad) c (some rd) d K)] [iR (.slice A2 ((nCuts K k).length + 1) c2) (nCuts K k ++ [gi K.cuts k]), iR (.slice A1 (nDens K K.dens.length).length c1) (nDens K K.dens.length)] _ by
            have hz := hB71.drop
            have e : iR (.slice A2 ((nCuts K k).length + 1) c2) (nCuts K k ++ [gi K.cuts k]) = ⟨(.slice A2 ((nCuts K k).length + 1) c2), 3, 1, (nCuts K k).length + 1, intsV (nCuts K k) ++ [.int .i64 (gi K.cuts k)]⟩ := by simp
            rw [e]; exact hz)
          clear hB71
          go_wp2_with fail
          exact ⟨⟨k + 1, (.slice A2 ((nCuts K k).length + 1) c2), HLE.out, by go_num, by rw [HY.out]; exact HZ.out⟩, by simpa [intOf] using HME.out⟩
      have q0 : ((k : Int) == 0) = false := by simp; omega
      have z4 : (0 : Int) ≤ (k : Int) - 1 := by omega
      have z5 : (k : Int) - 1 < (K.dens.length : Int) := by omega
      have z6 : ((k : Int) - 1).toNat = k - 1 := by omega
      have y2 : IntKind.i64.wrap ((k : Int) - 1) = (k : Int) - 1 := IntWalk.i64_in _ (by have := HNL.out; omega)
      have y2' : wrap64 ((k : Int) - 1) = (k : Int) - 1 := IntWalk.wrap64_in _ (by have := HNL.out; omega)
      by_cases hd : gi K.dens k ≠ gi K.dens (k - 1)
      · have q1 : (gi K.dens k != gi K.dens (k - 1)) = true := by simpa using hd
        have HT := Lib.hid (show keepI K.dens k = true by rw [HKP.out]; exact decide_eq_true (Or.inr hd))
        clear hd hk0
        go_wp2_with fail
        refine wp_region_R (Bx w [(g5, kO K.len vc (.slice A1 (nDens K K.dens.length).length c1)), (gO, kO 0 (.slice none 0 0) (.slice none 0 0)), (w.heap.size, cB (some ad) c (some rd) d K)]) 16 (by kernel_rfl) (by rfl) ((hMr.keep (List.Sublist.cons_cons _ (List.Sublist.cons_cons _ (List.Sublist.cons_cons _ (List.nil_sublist _))))).drew) (fun wq45 hbq => ?_)
        have hB61 := hMr.next hbq
        clear hMr hbq
        refine wpAnyE_goR (Bx.grows _ _) (hB61.keep (List.Sublist.cons_cons _ (List.Sublist.cons_cons _ (List.Sublist.cons_cons _ (List.nil_sublist _))))) [0, 1, 2, 3, 4, 5, 6, 7, 8, 9, 10, 11, 12, 13, 14, 15] 0 (by kernel_rfl) ?_
        apply Exists.intro
        refine ⟨fun G hG hN => ?_, ?_⟩
        · have c_o5 := fun (e : GE (Bx w [(g5, kO K.len vc (.slice A1 (nDens K K.dens.length).length c1)), (gO, kO 0 (.slice none 0 0) (.slice none 0 0)), (w.heap.size, cB (some ad) c (some rd) d K)]) G) j => cell_of_row e.w _ j _ _ _ ((GE.h e).get 0 rfl)
          have z_o5 := fun (e : GE (Bx w [(g5, kO K.len vc (.slice A1 (nDens K K.dens.length).length c1)), (gO, kO 0 (.slice none 0 0) (.slice none 0 0)), (w.heap.size, cB (some ad) c (some rd) d K)]) G) => (GE.h e).lt 0 rfl
          have c_out := fun (e : GE (Bx w [(g5, kO K.len vc (.slice A1 (nDens K K.dens.length).length c1)), (gO, kO 0 (.slice none 0 0) (.slice none 0 0)), (w.heap.size, cB (some ad) c (some rd) d K)]) G) j => cell_of_row e.w _ j _ _ _ ((GE.h e).get 1 rfl)
          have z_out := fun (e : GE (Bx w [(g5, kO K.len vc (.slice A1 (nDens K K.dens.length).length c1)), (gO, kO 0 (.slice none 0 0) (.slice none 0 0)), (w.heap.size, cB (some ad) c (some rd) d K)]) G) => (GE.h e).lt 1 rfl
          have c_K := fun (e : GE (Bx w [(g5, kO K.len vc (.slice A1 (nDens K K.dens.length).length c1)), (gO, kO 0 (.slice none 0 0) (.slice none 0 0)), (w.heap.size, cB (some ad) c (some rd) d K)]) G) j => cell_of_row e.w _ j _ _ _ ((GE.h e).get 2 rfl)
          have z_K := fun (e : GE (Bx w [(g5, kO K.len vc (.slice A1 (nDens K K.dens.length).length c1)), (gO, kO 0 (.slice none 0 0) (.slice none 0 0)), (w.heap.size, cB (some ad) c (some rd) d K)]) G) => (GE.h e).lt 2 rfl
          have fc := fun (e : GE (Bx w [(g5, kO K.len vc (.slice A1 (nDens K K.dens.length).length c1)), (gO, kO 0 (.slice none 0 0) (.slice none 0 0)), (w.heap.size, cB (some ad) c (some rd) d K)]) G) => (HF.out e.w (GE.h e).below).1
          have fd := fun (e : GE (Bx w [(g5, kO K.len vc (.slice A1 (nDens K K.dens.length).length c1)), (gO, kO 0 (.slice none 0 0) (.slice none 0 0)), (w.heap.size, cB (some ad) c (some rd) d K)]) G) => (HF.out e.w (GE.h e).below).2.1
          have fe := fun (e : GE (Bx w [(g5, kO K.len vc (.slice A1 (nDens K K.dens.length).length c1)), (gO, kO 0 (.slice none 0 0) (.slice none 0 0)), (w.heap.size, cB (some ad) c (some rd) d K)]) G) => (HF.out e.w (GE.h e).below).2.2
          simp only [pickOps, List.getElem?_toArray, List.getElem?_cons_zero, List.getElem?_cons_succ]
          repeat (first | go_big_quiet_step (fail) | quiet_step (fail))
          exact wpQuiet_nil rfl
        refine wpAnyE_done (by kernel_rfl) (fun wd46 hwd46 hRwd46 => ?_) _
        refine NoPanic.normal ?_
        have hB62 := hB61.next hwd46
        clear hB61 hwd46 hRwd46
        have HY := Lib.hid (nCuts_yes (K := K) (k := k) HT.out)
        go_wp2_with fail
        refine wp_region_R (Bx w [(gO, kO 0 (.slice none 0 0) (.slice none 0 0)), (w.heap.size, cB (some ad) c (some rd) d K)]) 11 (by kernel_rfl) (by rfl) ((hB62.keep (List.Sublist.cons _ (List.Sublist.cons_cons _ (List.Sublist.cons_cons _ (List.nil_sublist _))))).drew) (fun wq47 hbq => ?_)
        have hB63 := hB62.next hbq
        clear hB62 hbq
        refine wpAnyE_goR (Bx.grows _ _) (hB63.keep (List.Sublist.cons _ (List.Sublist.cons_cons _ (List.Sublist.cons_cons _ (List.nil_sublist _))))) [0, 2, 3, 4, 5, 6] 5 (by kernel_rfl) ?_
        apply Exists.intro
        refine ⟨fun G hG hN => ?_, ?_⟩
        · have c_out := fun (e : GE (Bx w [(gO, kO 0 (.slice none 0 0) (.slice none 0 0)), (w.heap.size, cB (some ad) c (some rd) d K)]) G) j => cell_of_row e.w _ j _ _ _ ((GE.h e).get 0 rfl)
          have z_out := fun (e : GE (Bx w [(gO, kO 0 (.slice none 0 0) (.slice none 0 0)), (w.heap.size, cB (some ad) c (some rd) d K)]) G) => (GE.h e).lt 0 rfl
          have c_K := fun (e : GE (Bx w [(gO, kO 0 (.slice none 0 0) (.slice none 0 0)), (w.heap.size, cB (some ad) c (some rd) d K)]) G) j => cell_of_row e.w _ j _ _ _ ((GE.h e).get 1 rfl)
          have z_K := fun (e : GE (Bx w [(gO, kO 0 (.slice none 0 0) (.slice none 0 0)), (w.heap.size, cB (some ad) c (some rd) d K)]) G) => (GE.h e).lt 1 rfl
          have fc := fun (e : GE (Bx w [(gO, kO 0 (.slice none 0 0) (.slice none 0 0)), (w.heap.size, cB (some ad) c (some rd) d K)]) G) => (HF.out e.w (GE.h e).below).1
          have fd := fun (e : GE (Bx w [(gO, kO 0 (.slice none 0 0) (.slice none 0 0)), (w.heap.size, cB (some ad) c (some rd) d K)]) G) => (HF.out e.w (GE.h e).below).2.1
          have fe := fun (e : GE (Bx w [(gO, kO 0 (.slice none 0 0) (.slice none 0 0)), (w.heap.size, cB (some ad) c (some rd) d K)]) G) => (HF.out e.w (GE.h e).below).2.2
          simp only [pickOps, List.getElem?_toArray, List.getElem?_cons_zero, List.getElem?_cons_succ]
          repeat (first | go_big_quiet_step (fail) | quiet_step (fail))
          exact wpQuiet_nil rfl
        refine wpAnyE_all (rs := [1, 7]) (by kernel_rfl) (by simp) (fun wa48 hwa48 hRwa48 i hi => ?_)
        have hB64 := hB63.next hwa48
        clear hB63 hwa48 hRwa48
        rcases List.mem_cons.1 hi with rfl | hi
        · refine wpOp_step rfl (fun Kc hKc => ?_)
          have c_o5 := fun j => cell_of_row _ _ j _ _ _ (hB64.get 0 rfl)
          have z_o5 := hB64.lt 0 rfl
          go_simp
          refine hKc _ _ ⟨(hB64.keep (List.Sublist.cons _ (List.Sublist.cons_cons _ (List.Sublist.cons_cons _ (List.nil_sublist _))))), ?_⟩
          clear hKc Kc
          clear c_o5 z_o5
          refine wpAnyE_all (rs := [7]) (by kernel_rfl) (by simp) (fun wa49 hwa49 hRwa49 i hi => ?_)
          have hB65 := hB64.next hwa49
          clear hB64 hwa49 hRwa49
          obtain rfl := List.mem_singleton.1 hi
          refine wpOp_step rfl (fun Kc hKc => ?_)
          go_simp
          have hB66 := hB65.new (g := wa49.heap.size) rfl (.cells #[.int .i64 (gi K.cuts k)] 3)
          refine hKc _ _ ⟨(hB66.keep (List.Sublist.cons _ (List.Sublist.cons _ (List.Sublist.cons_cons _ (List.Sublist.cons_cons _ (List.nil_sublist _)))))), ?_⟩
          clear hKc Kc hB65
          generalize wa49.heap.size = gl at *
          generalize wa49.alloc _ = wb50 at *
          refine wpAnyE_all (rs := [8]) (by kernel_rfl) (by simp) (fun wa51 hwa51 hRwa51 i hi => ?_)
          have hB67 := hB66.next hwa51
          clear hB66 hwa51 hRwa51
          obtain rfl := List.mem_singleton.1 hi
          refine wpOp_step rfl (fun Kc hKc => ?_)
          refine step_append_any _ rfl (.tmp 43) (.tmp 49) 22 rfl w.heap.size 3 i0 (.int .i64 0) 1 8 Try.underlying22 hi0 hz0 hz1 hz2 rfl (by omega) vc (nCuts K k).length (intsV (nCuts K k)) rfl (hB67.row 0 rfl) _ (some ⟨gl, 0, none⟩) 1 1 [.int .i64 (gi K.cuts k)] rfl (reads_one (hB67.get 0 rfl)) (one_one _) (by have := HNL.out; unfold maxLen; omega) (by have := HNL.out; omega) hB67.below.size ?_
          intro v2 wb52 hown hgr hat
          obtain ⟨A2, c2, rfl, _, _⟩ := own_nil_len hown
          have hB68 := hB67.grow 0 rfl hgr hown hat
          refine hKc _ _ ⟨(hB68.keep (List.Sublist.cons _ (List.Sublist.cons _ (List.Sublist.cons_cons _ (List.Sublist.cons_cons _ (List.nil_sublist _)))))), ?_⟩
          clear hKc Kc hB67 hown hgr hat
          refine wpAnyE_goR (Bx.grows _ _) (hB68.keep (List.Sublist.cons _ (List.Sublist.cons _ (List.Sublist.cons_cons _ (List.Sublist.cons_cons _ (List.nil_sublist _)))))) [9] 1 (by kernel_rfl) ?_
          apply Exists.intro
          refine ⟨fun G hG hN => ?_, ?_⟩
          · have c_out := fun (e : GE (Bx w [(gO, kO 0 (.slice none 0 0) (.slice none 0 0)), (w.heap.size, cB (some ad) c (some rd) d K)]) G) j => cell_of_row e.w _ j _ _ _ ((GE.h e).get 0 rfl)
            have z_out := fun (e : GE (Bx w [(gO, kO 0 (.slice none 0 0) (.slice none 0 0)), (w.heap.size, cB (some ad) c (some rd) d K)]) G) => (GE.h e).lt 0 rfl
            have c_K := fun (e : GE (Bx w [(gO, kO 0 (.slice none 0 0) (.slice none 0 0)), (w.heap.size, cB (some ad) c (some rd) d K)]) G) j => cell_of_row e.w _ j _ _ _ ((GE.h e).get 1 rfl)
            have z_K := fun (e : GE (Bx w [(gO, kO 0 (.slice none 0 0) (.slice none 0 0)), (w.heap.size, cB (some ad) c (some rd) d K)]) G) => (GE.h e).lt 1 rfl
            have fc := fun (e : GE (Bx w [(gO, kO 0 (.slice none 0 0) (.slice none 0 0)), (w.heap.size, cB (some ad) c (some rd) d K)]) G) => (HF.out e.w (GE.h e).below).1
            have fd := fun (e : GE (Bx w [(gO, kO 0 (.slice none 0 0) (.slice none 0 0)), (w.heap.size, cB (some ad) c (some rd) d K)]) G) => (HF.out e.w (GE.h e).below).2.1
            have fe := fun (e : GE (Bx w [(gO, kO 0 (.slice none 0 0) (.slice none 0 0)), (w.heap.size, cB (some ad) c (some rd) d K)]) G) => (HF.out e.w (GE.h e).below).2.2
            simp only [pickOps, List.getElem?_toArray, List.getElem?_cons_zero, List.getElem?_cons_succ]
            repeat (first | go_big_quiet_step (fail) | quiet_step (fail))
            exact wpQuiet_nil rfl
          refine wpAnyE_all (rs := [10]) (by kernel_rfl) (by simp) (fun wa53 hwa53 hRwa53 i hi => ?_)
          have hB69 := hB68.next hwa53
          clear hB68 hwa53 hRwa53
          obtain rfl := List.mem_singleton.1 hi
          refine wpOp_step rfl (fun Kc hKc => ?_)
          have c_o5 := fun j => cell_of_row _ _ j _ _ _ (hB69.get 1 rfl)
          have z_o5 := hB69.lt 1 rfl
          have f_o5 := fun j => frozen_of_row _ _ j _ _ (hB69.get 1 rfl)
          go_simp
          have hB70 := hB69.set 1 rfl 1 ((.slice A2 ((nCuts K k).length + 1) c2))
          refine hKc _ _ ⟨(hB70.keep (List.Sublist.cons _ (List.Sublist.cons _ (List.Sublist.cons_cons _ (List.Sublist.cons_cons _ (List.nil_sublist _)))))), ?_⟩
          clear c_o5 z_o5 f_o5 hKc Kc hB69
          generalize wa53.setCell _ _ = wb54 at *
          refine wpAnyE_done (by kernel_rfl) (fun wd55 hwd55 hRwd55 => ?_) _
          refine NoPanic.normal ?_
          have hB71 := hB70.next hwd55
          clear hB70 hwd55 hRwd55
          have HZ := Lib.hid (show Mx w [(g5, kO K.len (.slice A2 ((nCuts K k).length + 1) c2) (.slice A1 (nDens K K.dens.length).length c1)), (gO, kO 0 (.slice none 0 0) (.slice none 0 0)), (w.heap.size, cB (some ad) c (some rd) d K)] [iR (.slice A2 ((nCuts K k).length + 1) c2) (nCuts K k ++ [gi K.cuts k]), iR (.slice A1 (nDens K K.dens.length).length c1) (nDens K K.dens.length)] _ by
            have hz := hB71.drop
            have e : iR (.slice A2 ((nCuts K k).length + 1) c2) (nCuts K k ++ [gi K.cuts k]) = ⟨(.slice A2 ((nCuts K k).length + 1) c2), 3, 1, (nCuts K k).length + 1, intsV (nCuts K k) ++ [.int .i64 (gi K.cuts k)]⟩ := by simp
            rw [e]; exact hz)
          clear hB71
          go_wp2_with fail
          exact ⟨⟨k + 1, (.slice A2 ((nCuts K k).length + 1) c2), HLE.out, by go_num, by rw [HY.out]; exact HZ.out⟩, by simpa [intOf] using HME.out⟩
        · obtain rfl := List.mem_singleton.1 hi
          refine wpOp_step rfl (fun Kc hKc => ?_)
          go_simp
          have hB65 := hB64.new (g := wa48.heap.size) rfl (.cells #[.int .i64 (gi K.cuts k)] 3)
          refine hKc _ _ ⟨(hB65.keep (List.Sublist.cons _ (List.Sublist.cons _ (List.Sublist.cons_cons _ (List.Sublist.cons_cons _ (List.nil_sublist _)))))), ?_⟩
          clear hKc Kc hB64
          generalize wa48.heap.size = gl at *
          generalize wa48.alloc _ = wb56 at *
          refine wpAnyE_all (rs := [1]) (by kernel_rfl) (by simp) (fun wa57 hwa57 hRwa57 i hi => ?_)
          have hB66 := hB65.next hwa57
          clear hB65 hwa57 hRwa57
          obtain rfl := List.mem_singleton.1 hi
          refine wpOp_step rfl (fun Kc hKc => ?_)
          have c_o5 := fun j => cell_of_row _ _ j _ _ _ (hB66.get 1 rfl)
          have z_o5 := hB66.lt 1 rfl
          go_simp
          refine hKc _ _ ⟨(hB66.keep (List.Sublist.cons _ (List.Sublist.cons _ (List.Sublist.cons_cons _ (List.Sublist.cons_cons _ (List.nil_sublist _)))))), ?_⟩
          clear hKc Kc
          clear c_o5 z_o5
          refine wpAnyE_all (rs := [8]) (by kernel_rfl) (by simp) (fun wa58 hwa58 hRwa58 i hi => ?_)
          have hB67 := hB66.next hwa58
          clear hB66 hwa58 hRwa58
          obtain rfl := List.mem_singleton.1 hi
          refine wpOp_step rfl (fun Kc hKc => ?_)
          refine step_append_any _ rfl (.tmp 43) (.tmp 49) 22 rfl w.heap.size 3 i0 (.int .i64 0) 1 8 Try.underlying22 hi0 hz0 hz1 hz2 rfl (by omega) vc (nCuts K k).length (intsV (nCuts K k)) rfl (hB67.row 0 rfl) _ (some ⟨gl, 0, none⟩) 1 1 [.int .i64 (gi K.cuts k)] rfl (reads_one (hB67.get 0 rfl)) (one_one _) (by have := HNL.out; unfold maxLen; omega) (by have := HNL.out; omega) hB67.below.size ?_
          intro v2 wb59 hown hgr hat
          obtain ⟨A2, c2, rfl, _, _⟩ := own_nil_len hown
          have hB68 := hB67.grow 0 rfl hgr hown hat
          refine hKc _ _ ⟨(hB68.keep (List.Sublist.cons _ (List.Sublist.cons _ (List.Sublist.cons_cons _ (List.Sublist.cons_cons _ (List.nil_sublist _)))))), ?_⟩
          clear hKc Kc hB67 hown hgr hat
          refine wpAnyE_goR (Bx.grows _ _) (hB68.keep (List.Sublist.cons _ (List.Sublist.cons _ (List.Sublist.cons_cons _ (List.Sublist.cons_cons _ (List.nil_sublist _)))))) [9] 1 (by kernel_rfl) ?_
          apply Exists.intro
          refine ⟨fun G hG hN => ?_, ?_⟩
          · have c_out := fun (e : GE (Bx w [(gO, kO 0 (.slice none 0 0) (.slice none 0 0)), (w.heap.size, cB (some ad) c (some rd) d K)]) G) j => cell_of_row e.w _ j _ _ _ ((GE.h e).get 0 rfl)
            have z_out := fun (e : GE (Bx w [(gO, kO 0 (.slice none 0 0) (.slice none 0 0)), (w.heap.size, cB (some ad) c (some rd) d K)]) G) => (GE.h e).lt 0 rfl
            have c_K := fun (e : GE (Bx w [(gO, kO 0 (.slice none 0 0) (.slice none 0 0)), (w.heap.size, cB (some ad) c (some rd) d K)]) G) j => cell_of_row e.w _ j _ _ _ ((GE.h e).get 1 rfl)
            have z_K := fun (e : GE (Bx w [(gO, kO 0 (.slice none 0 0) (.slice none 0 0)), (w.heap.size, cB (some ad) c (some rd) d K)]) G) => (GE.h e).lt 1 rfl
            have fc := fun (e : GE (Bx w [(gO, kO 0 (.slice none 0 0) (.slice none 0 0)), (w.heap.size, cB (some ad) c (some rd) d K)]) G) => (HF.out e.w (GE.h e).below).1
            have fd := fun (e : GE (Bx w [(gO, kO 0 (.slice none 0 0) (.slice none 0 0)), (w.heap.size, cB (some ad) c (some rd) d K)]) G) => (HF.out e.w (GE.h e).below).2.1
            have fe := fun (e : GE (Bx w [(gO, kO 0 (.slice none 0 0) (.slice none 0 0)), (w.heap.size, cB (some ad) c (some rd) d K)]) G) => (HF.out e.w (GE.h e).below).2.2
            simp only [pickOps, List.getElem?_toArray, List.getElem?_cons_zero, List.getElem?_cons_succ]
            repeat (first | go_big_quiet_step (fail) | quiet_step (fail))
            exact wpQuiet_nil rfl
          refine wpAnyE_all (rs := [10]) (by kernel_rfl) (by simp) (fun wa60 hwa60 hRwa60 i hi => ?_)
          have hB69 := hB68.next hwa60
          clear hB68 hwa60 hRwa60
          obtain rfl := List.mem_singleton.1 hi
          refine wpOp_step rfl (fun Kc hKc => ?_)
          have c_o5 := fun j => cell_of_row _ _ j _ _ _ (hB69.get 1 rfl)
          have z_o5 := hB69.lt 1 rfl
          have f_o5 := fun j => frozen_of_row _ _ j _ _ (hB69.get 1 rfl)
          go_simp
          have hB70 := hB69.set 1 rfl 1 ((.slice A2 ((nCuts K k).length + 1) c2))
          refine hKc _ _ ⟨(hB70.keep (List.Sublist.cons _ (List.Sublist.cons _ (List.Sublist.cons_cons _ (List.Sublist.cons_cons _ (List.nil_sublist _)))))), ?_⟩
          clear c_o5 z_o5 f_o5 hKc Kc hB69
          generalize wa60.setCell _ _ = wb61 at *
          refine wpAnyE_done (by kernel_rfl) (fun wd62 hwd62 hRwd62 => ?_) _
          refine NoPanic.normal ?_
          have hB71 := hB70.next hwd62
          clear hB70 hwd62 hRwd62
          have HZ := Lib.hid (show Mx w [(g5, kO K.len (.slice A2 ((nCuts K k).length + 1) c2) (.slice A1 (nDens K K.dens.length).length c1)), (gO, kO 0 (.slice none 0 0) (.slice none 0 0)), (w.heap.size, cB (some ad) c (some rd) d K)] [iR (.slice A2 ((nCuts K k).length + 1) c2) (nCuts K k ++ [gi K.cuts k]), iR (.slice A1 (nDens K K.dens.length).length c1) (nDens K K.dens.length)] _ by
            have hz := hB71.drop
            have e : iR (.slice A2 ((nCuts K k).length + 1) c2) (nCuts K k ++ [gi K.cuts k]) = ⟨(.slice A2 ((nCuts K k).length + 1) c2), 3, 1, (nCuts K k).length + 1, intsV (nCuts K k) ++ [.int .i64 (gi K.cuts k)]⟩ := by simp
            rw [e]; exact hz)
          clear hB71
          go_wp2_with fail
          exact ⟨⟨k + 1, (.slice A2 ((nCuts K k).length + 1) c2), HLE.out, by go_num, by rw [HY.out]; exact HZ.out⟩, by simpa [intOf] using HME.out⟩
      have q1 : (gi K.dens k != gi K.dens (k - 1)) = false := by simpa using hd
      have HT := Lib.hid (show keepI K.dens k = false by rw [HKP.out]; exact decide_eq_false (fun e => e.elim hk0 hd))
      have HY := Lib.hid (nCuts_no (K := K) (k := k) HT.out)
      clear hd hk0
      go_wp2_with fail
      refine wp_region_R (Bx w [(g5, kO K.len vc (.slice A1 (nDens K K.dens.length).length c1)), (gO, kO 0 (.slice none 0 0) (.slice none 0 0)), (w.heap.size, cB (some ad) c (some rd) d K)]) 16 (by kernel_rfl) (by rfl) ((hMr.keep (List.Sublist.cons_cons _ (List.Sublist.cons_cons _ (List.Sublist.cons_cons _ (List.nil_sublist _))))).drew) (fun wq63 hbq => ?_)
      have hB61 := hMr.next hbq
      clear hMr hbq
      refine wpAnyE_goR (Bx.grows _ _) (hB61.keep (List.Sublist.cons_cons _ (List.Sublist.cons_cons _ (List.Sublist.cons_cons _ (List.nil_sublist _))))) [0, 1, 2, 3, 4, 5, 6, 7, 8, 9, 10, 11, 12, 13, 14, 15] 0 (by kernel_rfl) ?_
      apply Exists.intro
      refine ⟨fun G hG hN => ?_, ?_⟩
      · have c_o5 := fun (e : GE (Bx w [(g5, kO K.len vc (.slice A1 (nDens K K.dens.length).length c1)), (gO, kO 0 (.slice none 0 0) (.slice none 0 0)), (w.heap.size, cB (some ad) c (some rd) d K)]) G) j => cell_of_row e.w _ j _ _ _ ((GE.h e).get 0 rfl)
        have z_o5 := fun (e : GE (Bx w [(g5, kO K.len vc (.slice A1 (nDens K K.dens.length).length c1)), (gO, kO 0 (.slice none 0 0) (.slice none 0 0)), (w.heap.size, cB (some ad) c (some rd) d K)]) G) => (GE.h e).lt 0 rfl
        have c_out := fun (e : GE (Bx w [(g5, kO K.len vc (.slice A1 (nDens K K.dens.length).length c1)), (gO, kO 0 (.slice none 0 0) (.slice none 0 0)), (w.heap.size, cB (some ad) c (some rd) d K)]) G) j => cell_of_row e.w _ j _ _ _ ((GE.h e).get 1 rfl)
        have z_out := fun (e : GE (Bx w [(g5, kO K.len vc (.slice A1 (nDens K K.dens.length).length c1)), (gO, kO 0 (.slice none 0 0) (.slice none 0 0)), (w.heap.size, cB (some ad) c (some rd) d K)]) G) => (GE.h e).lt 1 rfl
        have c_K := fun (e : GE (Bx w [(g5, kO K.len vc (.slice A1 (nDens K K.dens.length).length c1)), (gO, kO 0 (.slice none 0 0) (.slice none 0 0)), (w.heap.size, cB (some ad) c (some rd) d K)]) G) j => cell_of_row e.w _ j _ _ _ ((GE.h e).get 2 rfl)
        have z_K := fun (e : GE (Bx w [(g5, kO K.len vc (.slice A1 (nDens K K.dens.length).length c1)), (gO, kO 0 (.slice none 0 0) (.slice none 0 0)), (w.heap.size, cB (some ad) c (some rd) d K)]) G) => (GE.h e).lt 2 rfl
        have fc := fun (e : GE (Bx w [(g5, kO K.len vc (.slice A1 (nDens K K.dens.length).length c1)), (gO, kO 0 (.slice none 0 0) (.slice none 0 0)), (w.heap.size, cB (some ad) c (some rd) d K)]) G) => (HF.out e.w (GE.h e).below).1
        have fd := fun (e : GE (Bx w [(g5, kO K.len vc (.slice A1 (nDens K K.dens.length).length c1)), (gO, kO 0 (.slice none 0 0) (.slice none 0 0)), (w.heap.size, cB (some ad) c (some rd) d K)]) G) => (HF.out e.w (GE.h e).below).2.1
        have fe := fun (e : GE (Bx w [(g5, kO K.len vc (.slice A1 (nDens K K.dens.length).length c1)), (gO, kO 0 (.slice none 0 0) (.slice none 0 0)), (w.heap.size, cB (some ad) c (some rd) d K)]) G) => (HF.out e.w (GE.h e).below).2.2
        simp only [pickOps, List.getElem?_toArray, List.getElem?_cons_zero, List.getElem?_cons_succ]
        repeat (first | go_big_quiet_step (fail) | quiet_step (fail))
        exact wpQuiet_nil rfl
      refine wpAnyE_done (by kernel_rfl) (fun wd64 hwd64 hRwd64 => ?_) _
      refine NoPanic.normal ?_
      have hB62 := hB61.next hwd64
      clear hB61 hwd64 hRwd64
      have HZ := Lib.hid hB62
      clear hB62
      go_wp2_with fail
      exact ⟨⟨k + 1, vc, HLE.out, by go_num, by rw [HY.out]; exact HZ.out⟩, by simpa [intOf] using HME.out⟩
end Go.Proofs.Ytgcbmnohhbcfiaa
