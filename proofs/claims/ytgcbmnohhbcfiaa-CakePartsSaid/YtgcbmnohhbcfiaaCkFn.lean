/- Normal of cakes, the reference's. -/
import Derived.Test.YtgcbmnohhbcfiaaCkNm
import Derived.Test.YtgcbmnohhbcfiaaCkD
namespace Go.Proofs.Ytgcbmnohhbcfiaa
open Go.RowKit Go.Deep
set_option linter.unusedVariables false
set_option linter.unusedSimpArgs false

/-- The cuts that the reference has at hand. -/
def rCuts (K : Ck) : Nat → List Int
  | 0 => [0]
  | k + 1 => if keepI K.dens k = true ∧ 0 < k then rCuts K k ++ [gi K.cuts k] else rCuts K k
theorem rCuts_n {K : Ck} (h : gi K.cuts 0 = 0) : ∀ k, 0 < k → rCuts K k = nCuts K k
  | 0, h0 => by omega
  | k + 1, _ => by
    rcases Nat.eq_zero_or_pos k with e | e
    · subst e; simp [rCuts, nCuts, keepI, h]
    · have ih := rCuts_n h k e
      cases q : keepI K.dens k with
      | true => rw [nCuts_yes q, rCuts, if_pos ⟨q, e⟩, ih]
      | false => rw [nCuts_no q, rCuts, if_neg (by rw [q]; simp), ih]
theorem rCuts_yes {K : Ck} {k : Nat} (h : keepI K.dens k = true) (h0 : 0 < k) : rCuts K (k + 1) = rCuts K k ++ [gi K.cuts k] ∧ rDens K (k + 1) = rDens K k ++ [gi K.dens (k - 1)] := by
  rw [rCuts, rDens, if_pos ⟨h, h0⟩, if_pos ⟨h, h0⟩]; exact ⟨rfl, rfl⟩
theorem rCuts_no {K : Ck} {k : Nat} (h : ¬ (keepI K.dens k = true ∧ 0 < k)) : rCuts K (k + 1) = rCuts K k ∧ rDens K (k + 1) = rDens K k := by
  rw [rCuts, rDens, if_neg h, if_neg h]; exact ⟨rfl, rfl⟩
theorem rLen (K : Ck) : ∀ k, (rCuts K k).length = (rDens K k).length + 1 ∧ (rDens K k).length ≤ k
  | 0 => ⟨rfl, Nat.le_refl _⟩
  | k + 1 => by
    have := rLen K k
    by_cases h : keepI K.dens k = true ∧ 0 < k
    · rw [(rCuts_yes h.1 h.2).1, (rCuts_yes h.1 h.2).2]; simp; omega
    · rw [(rCuts_no h).1, (rCuts_no h).2]; omega
theorem rNorm {K : Ck} (h : K.Ok) : (⟨K.len, rCuts K K.dens.length ++ [K.len], rDens K K.dens.length ++ [gi K.dens (K.dens.length - 1)]⟩ : Ck) = K.norm := by
  have n1 := h.n1
  refine Ck.ext_ rfl ?_ ?_
  · show rCuts K K.dens.length ++ [K.len] = nCuts K K.dens.length ++ [K.len]
    rw [rCuts_n h.c0 _ (by omega)]
  · exact (rDens_last K _ (by omega)).symm
set_option maxRecDepth 100000 in
set_option maxHeartbeats 16000000 in
theorem fnormal_any (K : Ck) (A : Option Addr) (c : Nat) (R : Option Addr) (d : Nat) (w : World) (h : CIn w.heap.size w A c R d K) :
    Calls Try.prog 18 #[cV A c R d K] w (KRes K.norm? K.code w) := by
  obtain ⟨i0, hi0, hz0, hz1, hz2⟩ := info_parts info3
  have hM0 : Mx w [(w.heap.size + 1, kO 0 (.slice none 0 0) (.slice none 0 0)), (w.heap.size, cB A c R d K)] [] ((w.alloc (cB A c R d K)).alloc (kO 0 (.slice none 0 0) (.slice none 0 0))) :=
    ((Mx.of_bx (Bx.start w)).new rfl _).new (by simp) _
  have HH := Lib.hid h
  have HC := Lib.hid (fun (W : World) (hW : Below w.heap.size w W) => fckcheck_any K A c R d W (h.next hW))
  clear h
  unfold KRes
  go_enter Try.func18, Try.ntmps18
  go_upto_region 1 with fail
  generalize hw0 : (w.alloc (cB A c R d K)).alloc (kO 0 (.slice none 0 0) (.slice none 0 0)) = w0 at *
  clear hw0
  generalize w.heap.size + 1 = gO at *
  have c_K := fun j => cell_of_row _ _ j _ _ _ (hM0.get 1 rfl)
  have z_K := hM0.lt 1 rfl
  by_cases hc : K.code = 0
  rotate_left
  · have q : (K.code != 0) = true := by simpa using hc
    obtain ⟨code, hco⟩ : ∃ x, x = K.code := ⟨_, rfl⟩
    have HCO := Lib.hid hco
    have HN := Lib.hid (show K.norm? = Ck.zero by unfold Ck.norm?; rw [if_neg hc])
    rw [← hco] at HC q
    clear hc hco
    go_wp2_with fail
    refine (HC.out _ hM0.below).mono ?_
    rintro e w1 ⟨rfl, hb⟩
    have hB1 := hM0.next hb
    clear c_K z_K hb hM0
    have c_K := fun j => cell_of_row _ _ j _ _ _ (hB1.get 1 rfl)
    have z_K := hB1.lt 1 rfl
    go_wp2_with fail
    refine (HC.out _ hB1.below).mono ?_
    rintro e w2 ⟨rfl, hb⟩
    have hB2 := hB1.next hb
    clear c_K z_K hb hB1
    have c_out := fun j => cell_of_row _ _ j _ _ _ (hB2.get 0 rfl)
    have z_out := hB2.lt 0 rfl
    have f_out := fun j => frozen_of_row _ _ j _ _ (hB2.get 0 rfl)
    have HE := Lib.hid (hB2.put3 0 rfl (.int .i64 0) (.slice none 0 0) (.slice none 0 0)).below
    clear hB2
    go_wp2_with fail
    refine bodyPost_ret (v := .tuple #[kV 0 (.slice none 0 0) (.slice none 0 0), .int .i64 code]) (by simp [results, Try.results18, go_sem, c_out, f_out, z_out]) rfl ?_
    exact ⟨(.slice none 0 0), (.slice none 0 0), by rw [HN.out, ← HCO.out]; rfl, by rw [HN.out]; exact KOwn.zero _ _, HE.out⟩
  have q : (K.code != 0) = false := by simpa using hc
  have HK := Lib.hid (Ck.ok_code hc)
  have HN := Lib.hid (show K.norm? = K.norm by unfold Ck.norm?; rw [if_pos hc])
  have HCZ := Lib.hid hc
  have HRN := Lib.hid (rNorm (Ck.ok_code hc))
  rw [hc] at HC q
  clear hc
  go_wp2_with fail
  refine (HC.out _ hM0.below).mono ?_
  rintro e w1 ⟨rfl, hb⟩
  have hB1 := hM0.next hb
  clear c_K z_K hb hM0
  have c_K := fun j => cell_of_row _ _ j _ _ _ (hB1.get 1 rfl)
  have z_K := hB1.lt 1 rfl
  go_upto_region 4 with fail
  have hB2a := hB1.addR (one_alloc w1 (.cells #[.int .i64 0] 3)) ⟨(.slice (some ⟨w1.heap.size, 0, none⟩) 1 1), 3, 1, 1, [.int .i64 0]⟩ (World.ownsRow_lit w1 #[.int .i64 0] 1 (Nat.le_refl _) (by unfold maxLen; omega) rfl)
  have hB2 := hB2a.new (g := w1.heap.size + 1) (by simp) (kO K.len (.slice (some ⟨w1.heap.size, 0, none⟩) 1 1) (.slice none 0 0))
  clear c_K z_K hB1 hB2a
  generalize w1.heap.size + 1 = g4 at *
  generalize w1.heap.size = g0 at *
  generalize (w1.alloc (.cells #[.int .i64 0] 3)).alloc _ = w4 at *
  have c_K := fun j => cell_of_row _ _ j _ _ _ (hB2.get 2 rfl)
  have z_K := hB2.lt 2 rfl
  go_wp2_with fail
  clear c_K z_K
  have HM4 := Lib.hid hB2
  clear hB2
  go_loopw [5] (fun s5 wr => ∃ (k : Nat) (vc vd : Value), k ≤ K.dens.length ∧ s5 = .int .i64 k ∧ Mx w [(g4, kO K.len vc vd), (gO, kO 0 (.slice none 0 0) (.slice none 0 0)), (w.heap.size, cB A c R d K)] [iR vd (rDens K k), iR vc (rCuts K k)] wr) (fun s5 _ => K.dens.length - (intOf s5).toNat)
  case atStart => exact ⟨0, _, _, Nat.zero_le _, rfl, HM4.out.nil 3 1⟩
  case round =>
    obtain ⟨k, vc, vd, hk, rfl, hMr⟩ := hrel
    clear HM4
    by_cases hlt : k < K.dens.length
    rotate_left
    · obtain rfl : k = K.dens.length := by omega
      have HNL := Lib.hid (show (rCuts K K.dens.length).length ≤ 41 ∧ (rDens K K.dens.length).length ≤ 40 by have := HK.out.n2; have := rLen K K.dens.length; omega)
      have HB1 := Lib.hid (show (rCuts K K.dens.length).length + 1 ≤ maxLen ∧ ((rCuts K K.dens.length).length + 1) * 8 ≤ 140737488355328 by have := HNL.out; unfold maxLen; omega)
      have HB2 := Lib.hid (show (rDens K K.dens.length).length + 1 ≤ maxLen ∧ ((rDens K K.dens.length).length + 1) * 8 ≤ 140737488355328 by have := HNL.out; unfold maxLen; omega)
      clear hlt hk
      have c_o4 := fun j => cell_of_row _ _ j _ _ _ (hMr.get 0 rfl)
      have z_o4 := hMr.lt 0 rfl
      have c_K := fun j => cell_of_row _ _ j _ _ _ (hMr.get 2 rfl)
      have z_K := hMr.lt 2 rfl
      have hB61n := hMr.new rfl ((.cells #[.int .i64 K.len] 3))
      go_upto_region 11 with (at_builtin; refine wpList_append_any _ rfl (.tmp 61) (.tmp 64) 22 rfl w.heap.size 3 i0 (.int .i64 0) 1 8 Try.underlying22 hi0 hz0 hz1 hz2 rfl (by omega) vc (rCuts K K.dens.length).length (intsV (rCuts K K.dens.length)) rfl (hB61n.row 1 rfl) _ (some ⟨wr.heap.size, 0, none⟩) 1 1 [.int .i64 K.len] rfl (reads_one (hB61n.get 0 rfl)) (one_one _) HB1.out.1 HB1.out.2 hB61n.below.size ?_; intro v2 wb1 hown hgr hat; obtain ⟨A2, c2, rfl, _, _⟩ := own_nil_len hown; have hB61g := hB61n.grow 1 rfl hgr hown hat; have c_o42 := fun j => cell_of_row _ _ j _ _ _ (hB61g.get 1 rfl); have f_o42 := fun j => frozen_of_row _ _ j _ _ (hB61g.get 1 rfl); have z_o42 := hB61g.lt 1 rfl)
      have hB61 := (hB61g.set 1 rfl 1 ((.slice A2 ((rCuts K K.dens.length).length + 1) c2))).drop
      clear c_o4 z_o4 c_K z_K hB61n hB61g hMr hown hgr hat c_o42 f_o42 z_o42
      generalize wb1.setCell _ _ = wb2 at *
      obtain ⟨re, rfl, hb3, hc3⟩ := HH.out.dens.at_ (show K.dens.length - 1 < K.dens.length by have := HK.out.n1; omega)
      have HF := Lib.hid (fun (W : World) (hW : Below w.heap.size w W) => show W.cell? (re.add (K.dens.length - 1)) = some (.int .i64 (gi K.dens (K.dens.length - 1))) from (hW.cell (by rw [block_add]; exact hb3)).trans hc3)
      clear hb3 hc3
      have z1 : (0 : Int) ≤ (K.dens.length : Int) - 1 := by have := HK.out.n1; omega
      have z2 : (K.dens.length : Int) - 1 < (K.dens.length : Int) := by omega
      have z3 : ((K.dens.length : Int) - 1).toNat = K.dens.length - 1 := by omega
      have y2 : IntKind.i64.wrap ((K.dens.length : Int) - 1) = (K.dens.length : Int) - 1 := IntWalk.i64_in _ (by have := HK.out.n2; omega)
      have y2' : wrap64 ((K.dens.length : Int) - 1) = (K.dens.length : Int) - 1 := IntWalk.wrap64_in _ (by have := HK.out.n2; omega)
      go_wp2_with fail
      refine wp_region_R (Bx w [(gO, kO 0 (.slice none 0 0) (.slice none 0 0)), (w.heap.size, cB A c (some re) d K)]) 14 (by kernel_rfl) (by rfl) ((hB61.keep (List.Sublist.cons _ (List.Sublist.cons_cons _ (List.Sublist.cons_cons _ (List.nil_sublist _))))).drew) (fun wq3 hbq => ?_)
      have hB62 := hB61.next hbq
      clear hB61 hbq
      refine wpAnyE_goR (Bx.grows _ _) (hB62.keep (List.Sublist.cons _ (List.Sublist.cons_cons _ (List.Sublist.cons_cons _ (List.nil_sublist _))))) [0, 2, 3, 4, 5, 6, 7, 8, 9] 5 (by kernel_rfl) ?_
      apply Exists.intro
      refine ⟨fun G hG hN => ?_, ?_⟩
      · have c_out := fun (e : GE (Bx w [(gO, kO 0 (.slice none 0 0) (.slice none 0 0)), (w.heap.size, cB A c (some re) d K)]) G) j => cell_of_row e.w _ j _ _ _ ((GE.h e).get 0 rfl)
        have z_out := fun (e : GE (Bx w [(gO, kO 0 (.slice none 0 0) (.slice none 0 0)), (w.heap.size, cB A c (some re) d K)]) G) => (GE.h e).lt 0 rfl
        have c_K := fun (e : GE (Bx w [(gO, kO 0 (.slice none 0 0) (.slice none 0 0)), (w.heap.size, cB A c (some re) d K)]) G) j => cell_of_row e.w _ j _ _ _ ((GE.h e).get 1 rfl)
        have z_K := fun (e : GE (Bx w [(gO, kO 0 (.slice none 0 0) (.slice none 0 0)), (w.heap.size, cB A c (some re) d K)]) G) => (GE.h e).lt 1 rfl
        have fe := fun (e : GE (Bx w [(gO, kO 0 (.slice none 0 0) (.slice none 0 0)), (w.heap.size, cB A c (some re) d K)]) G) => (HF.out e.w (GE.h e).below)
        simp only [pickOps, List.getElem?_toArray, List.getElem?_cons_zero, List.getElem?_cons_succ]
        repeat (first | go_big_quiet_step (fail) | quiet_step (fail))
        exact wpQuiet_nil rfl
      refine wpAnyE_all (rs := [1, 10]) (by kernel_rfl) (by simp) (fun wa4 hwa4 hRwa4 i hi => ?_)
      have hB63 := hB62.next hwa4
      clear hB62 hwa4 hRwa4
      rcases List.mem_cons.1 hi with rfl | hi
      · refine wpOp_step rfl (fun Kc hKc => ?_)
        have c_o4 := fun j => cell_of_row _ _ j _ _ _ (hB63.get 0 rfl)
        have z_o4 := hB63.lt 0 rfl
        go_simp
        refine hKc _ _ ⟨(hB63.keep (List.Sublist.cons _ (List.Sublist.cons_cons _ (List.Sublist.cons_cons _ (List.nil_sublist _))))), ?_⟩
        clear hKc Kc
        clear c_o4 z_o4
        refine wpAnyE_all (rs := [10]) (by kernel_rfl) (by simp) (fun wa5 hwa5 hRwa5 i hi => ?_)
        have hB64 := hB63.next hwa5
        clear hB63 hwa5 hRwa5
        obtain rfl := List.mem_singleton.1 hi
        refine wpOp_step rfl (fun Kc hKc => ?_)
        go_simp
        have hB65 := hB64.new (g := wa5.heap.size) rfl (.cells #[.int .i64 (gi K.dens (K.dens.length - 1))] 3)
        refine hKc _ _ ⟨(hB65.keep (List.Sublist.cons _ (List.Sublist.cons _ (List.Sublist.cons_cons _ (List.Sublist.cons_cons _ (List.nil_sublist _)))))), ?_⟩
        clear hKc Kc hB64
        generalize wa5.heap.size = gl at *
        generalize wa5.alloc _ = wb6 at *
        refine wpAnyE_all (rs := [11]) (by kernel_rfl) (by simp) (fun wa7 hwa7 hRwa7 i hi => ?_)
        have hB66 := hB65.next hwa7
        clear hB65 hwa7 hRwa7
        obtain rfl := List.mem_singleton.1 hi
        refine wpOp_step rfl (fun Kc hKc => ?_)
        refine step_append_any _ rfl (.tmp 68) (.tmp 77) 22 rfl w.heap.size 3 i0 (.int .i64 0) 1 8 Try.underlying22 hi0 hz0 hz1 hz2 rfl (by omega) vd (rDens K K.dens.length).length (intsV (rDens K K.dens.length)) rfl (hB66.row 0 rfl) _ (some ⟨gl, 0, none⟩) 1 1 [.int .i64 (gi K.dens (K.dens.length - 1))] rfl (reads_one (hB66.get 0 rfl)) (one_one _) HB2.out.1 HB2.out.2 hB66.below.size ?_
        intro v3 wb8 hown hgr hat
        obtain ⟨A3, c3, rfl, _, _⟩ := own_nil_len hown
        have hB67 := hB66.grow 0 rfl hgr hown hat
        refine hKc _ _ ⟨(hB67.keep (List.Sublist.cons _ (List.Sublist.cons _ (List.Sublist.cons_cons _ (List.Sublist.cons_cons _ (List.nil_sublist _)))))), ?_⟩
        clear hKc Kc hB66 hown hgr hat
        refine wpAnyE_goR (Bx.grows _ _) (hB67.keep (List.Sublist.cons _ (List.Sublist.cons _ (List.Sublist.cons_cons _ (List.Sublist.cons_cons _ (List.nil_sublist _)))))) [12] 1 (by kernel_rfl) ?_
        apply Exists.intro
        refine ⟨fun G hG hN => ?_, ?_⟩
        · have c_out := fun (e : GE (Bx w [(gO, kO 0 (.slice none 0 0) (.slice none 0 0)), (w.heap.size, cB A c (some re) d K)]) G) j => cell_of_row e.w _ j _ _ _ ((GE.h e).get 0 rfl)
          have z_out := fun (e : GE (Bx w [(gO, kO 0 (.slice none 0 0) (.slice none 0 0)), (w.heap.size, cB A c (some re) d K)]) G) => (GE.h e).lt 0 rfl
          have c_K := fun (e : GE (Bx w [(gO, kO 0 (.slice none 0 0) (.slice none 0 0)), (w.heap.size, cB A c (some re) d K)]) G) j => cell_of_row e.w _ j _ _ _ ((GE.h e).get 1 rfl)
          have z_K := fun (e : GE (Bx w [(gO, kO 0 (.slice none 0 0) (.slice none 0 0)), (w.heap.size, cB A c (some re) d K)]) G) => (GE.h e).lt 1 rfl
          have fe := fun (e : GE (Bx w [(gO, kO 0 (.slice none 0 0) (.slice none 0 0)), (w.heap.size, cB A c (some re) d K)]) G) => (HF.out e.w (GE.h e).below)
          simp only [pickOps, List.getElem?_toArray, List.getElem?_cons_zero, List.getElem?_cons_succ]
          repeat (first | go_big_quiet_step (fail) | quiet_step (fail))
          exact wpQuiet_nil rfl
        refine wpAnyE_all (rs := [13]) (by kernel_rfl) (by simp) (fun wa9 hwa9 hRwa9 i hi => ?_)
        have hB68 := hB67.next hwa9
        clear hB67 hwa9 hRwa9
        obtain rfl := List.mem_singleton.1 hi
        refine wpOp_step rfl (fun Kc hKc => ?_)
        have c_o4 := fun j => cell_of_row _ _ j _ _ _ (hB68.get 1 rfl)
        have z_o4 := hB68.lt 1 rfl
        have f_o4 := fun j => frozen_of_row _ _ j _ _ (hB68.get 1 rfl)
        go_simp
        have hB69 := hB68.set 1 rfl 2 ((.slice A3 ((rDens K K.dens.length).length + 1) c3))
        refine hKc _ _ ⟨(hB69.keep (List.Sublist.cons _ (List.Sublist.cons _ (List.Sublist.cons_cons _ (List.Sublist.cons_cons _ (List.nil_sublist _)))))), ?_⟩
        clear c_o4 z_o4 f_o4 hKc Kc hB68
        generalize wa9.setCell _ _ = wb10 at *
        refine wpAnyE_done (by kernel_rfl) (fun wd11 hwd11 hRwd11 => ?_) _
        refine NoPanic.normal ?_
        have hB70 := hB69.next hwd11
        clear hB69 hwd11 hRwd11
        have HZ := Lib.hid (show Mx w [(g4, kO K.len (.slice A2 ((rCuts K K.dens.length).length + 1) c2) (.slice A3 ((rDens K K.dens.length).length + 1) c3)), (gO, kO 0 (.slice none 0 0) (.slice none 0 0)), (w.heap.size, cB A c (some re) d K)] [iR (.slice A3 ((rDens K K.dens.length).length + 1) c3) (rDens K K.dens.length ++ [gi K.dens (K.dens.length - 1)]), iR (.slice A2 ((rCuts K K.dens.length).length + 1) c2) (rCuts K K.dens.length ++ [K.len])] _ by
          have hz := hB70.drop
          have e1 : iR (.slice A3 ((rDens K K.dens.length).length + 1) c3) (rDens K K.dens.length ++ [gi K.dens (K.dens.length - 1)]) = ⟨(.slice A3 ((rDens K K.dens.length).length + 1) c3), 3, 1, (rDens K K.dens.length).length + 1, intsV (rDens K K.dens.length) ++ [.int .i64 (gi K.dens (K.dens.length - 1))]⟩ := by simp
          have e2 : iR (.slice A2 ((rCuts K K.dens.length).length + 1) c2) (rCuts K K.dens.length ++ [K.len]) = ⟨(.slice A2 ((rCuts K K.dens.length).length + 1) c2), 3, 1, (rCuts K K.dens.length).length + 1, intsV (rCuts K K.dens.length) ++ [.int .i64 K.len]⟩ := by simp
          rw [e1, e2]; exact hz)
        clear hB70
        have hZ := HZ.out
        have c_o4 := fun j => cell_of_row _ _ j _ _ _ (hZ.get 0 rfl)
        have z_o4 := hZ.lt 0 rfl
        have c_out := fun j => cell_of_row _ _ j _ _ _ (hZ.get 1 rfl)
        have z_out := hZ.lt 1 rfl
        have f_out := fun j => frozen_of_row _ _ j _ _ (hZ.get 1 rfl)
        have HP := Lib.hid (hZ.put3 1 rfl (.int .i64 K.len) (.slice A2 ((rCuts K K.dens.length).length + 1) c2) (.slice A3 ((rDens K K.dens.length).length + 1) c3))
        clear hZ HZ
        go_wp2_with fail
        refine bodyPost_ret (v := .tuple #[kV K.len (.slice A2 ((rCuts K K.dens.length).length + 1) c2) (.slice A3 ((rDens K K.dens.length).length + 1) c3), .int .i64 0]) (by simp [results, Try.results18, go_sem, c_out, f_out, z_out]) rfl ?_
        refine ⟨_, _, by rw [HN.out, HCZ.out]; rfl, ?_, HP.out.below⟩
        rw [HN.out, ← HRN.out]
        exact ⟨HP.out.row 1 rfl, HP.out.row 0 rfl, HH.out.w0, HH.out.w1⟩
      · obtain rfl := List.mem_singleton.1 hi
        refine wpOp_step rfl (fun Kc hKc => ?_)
        go_simp
        have hB64 := hB63.new (g := wa4.heap.size) rfl (.cells #[.int .i64 (gi K.dens (K.dens.length - 1))] 3)
        refine hKc _ _ ⟨(hB64.keep (List.Sublist.cons _ (List.Sublist.cons _ (List.Sublist.cons_cons _ (List.Sublist.cons_cons _ (List.nil_sublist _)))))), ?_⟩
        clear hKc Kc hB63
        generalize wa4.heap.size = gl at *
        generalize wa4.alloc _ = wb12 at *
        refine wpAnyE_all (rs := [1]) (by kernel_rfl) (by simp) (fun wa13 hwa13 hRwa13 i hi => ?_)
        have hB65 := hB64.next hwa13
        clear hB64 hwa13 hRwa13
        obtain rfl := List.mem_singleton.1 hi
        refine wpOp_step rfl (fun Kc hKc => ?_)
        have c_o4 := fun j => cell_of_row _ _ j _ _ _ (hB65.get 1 rfl)
        have z_o4 := hB65.lt 1 rfl
        go_simp
        refine hKc _ _ ⟨(hB65.keep (List.Sublist.cons _ (List.Sublist.cons _ (List.Sublist.cons_cons _ (List.Sublist.cons_cons _ (List.nil_sublist _)))))), ?_⟩
        clear hKc Kc
        clear c_o4 z_o4
        refine wpAnyE_all (rs := [11]) (by kernel_rfl) (by simp) (fun wa14 hwa14 hRwa14 i hi => ?_)
        have hB66 := hB65.next hwa14
        clear hB65 hwa14 hRwa14
        obtain rfl := List.mem_singleton.1 hi
        refine wpOp_step rfl (fun Kc hKc => ?_)
        refine step_append_any _ rfl (.tmp 68) (.tmp 77) 22 rfl w.heap.size 3 i0 (.int .i64 0) 1 8 Try.underlying22 hi0 hz0 hz1 hz2 rfl (by omega) vd (rDens K K.dens.length).length (intsV (rDens K K.dens.length)) rfl (hB66.row 0 rfl) _ (some ⟨gl, 0, none⟩) 1 1 [.int .i64 (gi K.dens (K.dens.length - 1))] rfl (reads_one (hB66.get 0 rfl)) (one_one _) HB2.out.1 HB2.out.2 hB66.below.size ?_
        intro v3 wb15 hown hgr hat
        obtain ⟨A3, c3, rfl, _, _⟩ := own_nil_len hown
        have hB67 := hB66.grow 0 rfl hgr hown hat
        refine hKc _ _ ⟨(hB67.keep (List.Sublist.cons _ (List.Sublist.cons _ (List.Sublist.cons_cons _ (List.Sublist.cons_cons _ (List.nil_sublist _)))))), ?_⟩
        clear hKc Kc hB66 hown hgr hat
        refine wpAnyE_goR (Bx.grows _ _) (hB67.keep (List.Sublist.cons _ (List.Sublist.cons _ (List.Sublist.cons_cons _ (List.Sublist.cons_cons _ (List.nil_sublist _)))))) [12] 1 (by kernel_rfl) ?_
        apply Exists.intro
        refine ⟨fun G hG hN => ?_, ?_⟩
        · have c_out := fun (e : GE (Bx w [(gO, kO 0 (.slice none 0 0) (.slice none 0 0)), (w.heap.size, cB A c (some re) d K)]) G) j => cell_of_row e.w _ j _ _ _ ((GE.h e).get 0 rfl)
          have z_out := fun (e : GE (Bx w [(gO, kO 0 (.slice none 0 0) (.slice none 0 0)), (w.heap.size, cB A c (some re) d K)]) G) => (GE.h e).lt 0 rfl
          have c_K := fun (e : GE (Bx w [(gO, kO 0 (.slice none 0 0) (.slice none 0 0)), (w.heap.size, cB A c (some re) d K)]) G) j => cell_of_row e.w _ j _ _ _ ((GE.h e).get 1 rfl)
          have z_K := fun (e : GE (Bx w [(gO, kO 0 (.slice none 0 0) (.slice none 0 0)), (w.heap.size, cB A c (some re) d K)]) G) => (GE.h e).lt 1 rfl
          have fe := fun (e : GE (Bx w [(gO, kO 0 (.slice none 0 0) (.slice none 0 0)), (w.heap.size, cB A c (some re) d K)]) G) => (HF.out e.w (GE.h e).below)
          simp only [pickOps, List.getElem?_toArray, List.getElem?_cons_zero, List.getElem?_cons_succ]
          repeat (first | go_big_quiet_step (fail) | quiet_step (fail))
          exact wpQuiet_nil rfl
        refine wpAnyE_all (rs := [13]) (by kernel_rfl) (by simp) (fun wa16 hwa16 hRwa16 i hi => ?_)
        have hB68 := hB67.next hwa16
        clear hB67 hwa16 hRwa16
        obtain rfl := List.mem_singleton.1 hi
        refine wpOp_step rfl (fun Kc hKc => ?_)
        have c_o4 := fun j => cell_of_row _ _ j _ _ _ (hB68.get 1 rfl)
        have z_o4 := hB68.lt 1 rfl
        have f_o4 := fun j => frozen_of_row _ _ j _ _ (hB68.get 1 rfl)
        go_simp
        have hB69 := hB68.set 1 rfl 2 ((.slice A3 ((rDens K K.dens.length).length + 1) c3))
        refine hKc _ _ ⟨(hB69.keep (List.Sublist.cons _ (List.Sublist.cons _ (List.Sublist.cons_cons _ (List.Sublist.cons_cons _ (List.nil_sublist _)))))), ?_⟩
        clear c_o4 z_o4 f_o4 hKc Kc hB68
        generalize wa16.setCell _ _ = wb17 at *
        refine wpAnyE_done (by kernel_rfl) (fun wd18 hwd18 hRwd18 => ?_) _
        refine NoPanic.normal ?_
        have hB70 := hB69.next hwd18
        clear hB69 hwd18 hRwd18
        have HZ := Lib.hid (show Mx w [(g4, kO K.len (.slice A2 ((rCuts K K.dens.length).length + 1) c2) (.slice A3 ((rDens K K.dens.length).length + 1) c3)), (gO, kO 0 (.slice none 0 0) (.slice none 0 0)), (w.heap.size, cB A c (some re) d K)] [iR (.slice A3 ((rDens K K.dens.length).length + 1) c3) (rDens K K.dens.length ++ [gi K.dens (K.dens.length - 1)]), iR (.slice A2 ((rCuts K K.dens.length).length + 1) c2) (rCuts K K.dens.length ++ [K.len])] _ by
          have hz := hB70.drop
          have e1 : iR (.slice A3 ((rDens K K.dens.length).length + 1) c3) (rDens K K.dens.length ++ [gi K.dens (K.dens.length - 1)]) = ⟨(.slice A3 ((rDens K K.dens.length).length + 1) c3), 3, 1, (rDens K K.dens.length).length + 1, intsV (rDens K K.dens.length) ++ [.int .i64 (gi K.dens (K.dens.length - 1))]⟩ := by simp
          have e2 : iR (.slice A2 ((rCuts K K.dens.length).length + 1) c2) (rCuts K K.dens.length ++ [K.len]) = ⟨(.slice A2 ((rCuts K K.dens.length).length + 1) c2), 3, 1, (rCuts K K.dens.length).length + 1, intsV (rCuts K K.dens.length) ++ [.int .i64 K.len]⟩ := by simp
          rw [e1, e2]; exact hz)
        clear hB70
        have hZ := HZ.out
        have c_o4 := fun j => cell_of_row _ _ j _ _ _ (hZ.get 0 rfl)
        have z_o4 := hZ.lt 0 rfl
        have c_out := fun j => cell_of_row _ _ j _ _ _ (hZ.get 1 rfl)
        have z_out := hZ.lt 1 rfl
        have f_out := fun j => frozen_of_row _ _ j _ _ (hZ.get 1 rfl)
        have HP := Lib.hid (hZ.put3 1 rfl (.int .i64 K.len) (.slice A2 ((rCuts K K.dens.length).length + 1) c2) (.slice A3 ((rDens K K.dens.length).length + 1) c3))
        clear hZ HZ
        go_wp2_with fail
        refine bodyPost_ret (v := .tuple #[kV K.len (.slice A2 ((rCuts K K.dens.length).length + 1) c2) (.slice A3 ((rDens K K.dens.length).length + 1) c3), .int .i64 0]) (by simp [results, Try.results18, go_sem, c_out, f_out, z_out]) rfl ?_
        refine ⟨_, _, by rw [HN.out, HCZ.out]; rfl, ?_, HP.out.below⟩
        rw [HN.out, ← HRN.out]
        exact ⟨HP.out.row 1 rfl, HP.out.row 0 rfl, HH.out.w0, HH.out.w1⟩
    have n1 := HK.out.n1
    have n2 := HK.out.n2
    have nc := HK.out.nc
    obtain ⟨ad, rfl, hb1, hc1⟩ := HH.out.cuts.at_ (show k < K.cuts.length by omega)
    obtain ⟨rd, rfl, hb2, hc2⟩ := HH.out.dens.at_ hlt
    obtain ⟨re, e3, hb3, hc3⟩ := HH.out.dens.at_ (show k - 1 < K.dens.length by omega)
    obtain rfl : rd = re := by simpa using e3
    have HF := Lib.hid (fun (W : World) (hW : Below w.heap.size w W) => show W.cell? (ad.add k) = some (.int .i64 (gi K.cuts k)) ∧ W.cell? (rd.add k) = some (.int .i64 (gi K.dens k)) ∧ W.cell? (rd.add (k - 1)) = some (.int .i64 (gi K.dens (k - 1))) from
      ⟨(hW.cell (by rw [block_add]; exact hb1)).trans hc1, (hW.cell (by rw [block_add]; exact hb2)).trans hc2, (hW.cell (by rw [block_add]; exact hb3)).trans hc3⟩)
    clear hb1 hc1 hb2 hc2 hb3 hc3 e3
    have z1 : (k : Int) < (K.dens.length : Int) := by omega
    have z2 : (k : Int) < (K.cuts.length : Int) := by omega
    have z3 : (0 : Int) ≤ (k : Int) := by omega
    have y1 : IntKind.i64.wrap ((k : Int) + 1) = (k : Int) + 1 := IntWalk.i64_in _ (by omega)
    have y1' : wrap64 ((k : Int) + 1) = (k : Int) + 1 := IntWalk.wrap64_in _ (by omega)
    have HLE := Lib.hid (show k + 1 ≤ K.dens.length by omega)
    have HME := Lib.hid (show K.dens.length - (k + 1) < K.dens.length - k by omega)
    have HNL := Lib.hid (show (rCuts K k).length ≤ 41 ∧ (rDens K k).length ≤ 40 ∧ k ≤ 39 by have := rLen K k; omega)
    have HB1 := Lib.hid (show (rCuts K k).length + 1 ≤ maxLen ∧ ((rCuts K k).length + 1) * 8 ≤ 140737488355328 by have := HNL.out; unfold maxLen; omega)
    have HB2 := Lib.hid (show (rDens K k).length + 1 ≤ maxLen ∧ ((rDens K k).length + 1) * 8 ≤ 140737488355328 by have := HNL.out; unfold maxLen; omega)
    clear n1 n2 nc
    have HKP := Lib.hid (show keepI K.dens k = decide (k = 0 ∨ gi K.dens k ≠ gi K.dens (k - 1)) from rfl)
    by_cases hk0 : k = 0
    · have q0 : decide (0 < k) = false := by simp; omega
      have HY := Lib.hid (rCuts_no (K := K) (k := k) (fun h => by omega))
      clear hk0
      have c_o4 := fun j => cell_of_row _ _ j _ _ _ (hMr.get 0 rfl)
      have z_o4 := hMr.lt 0 rfl
      have c_K := fun j => cell_of_row _ _ j _ _ _ (hMr.get 2 rfl)
      have z_K := hMr.lt 2 rfl
      go_upto_region 7 with fail
      clear c_o4 z_o4 c_K z_K
      refine wp_region_R (Bx w [(gO, kO 0 (.slice none 0 0) (.slice none 0 0)), (w.heap.size, cB (some ad) c (some rd) d K)]) 16 (by kernel_rfl) (by rfl) ((hMr.keep (List.Sublist.cons _ (List.Sublist.cons_cons _ (List.Sublist.cons_cons _ (List.nil_sublist _))))).drew) (fun wq19 hbq => ?_)
      have hB61 := hMr.next hbq
      clear hMr hbq
      refine wpAnyE_goR (Bx.grows _ _) (hB61.keep (List.Sublist.cons _ (List.Sublist.cons_cons _ (List.Sublist.cons_cons _ (List.nil_sublist _))))) [0, 1, 2, 3, 4, 5, 6, 7, 8, 9, 10, 11, 12, 13, 14, 15] 0 (by kernel_rfl) ?_
      apply Exists.intro
      refine ⟨fun G hG hN => ?_, ?_⟩
      · have c_out := fun (e : GE (Bx w [(gO, kO 0 (.slice none 0 0) (.slice none 0 0)), (w.heap.size, cB (some ad) c (some rd) d K)]) G) j => cell_of_row e.w _ j _ _ _ ((GE.h e).get 0 rfl)
        have z_out := fun (e : GE (Bx w [(gO, kO 0 (.slice none 0 0) (.slice none 0 0)), (w.heap.size, cB (some ad) c (some rd) d K)]) G) => (GE.h e).lt 0 rfl
        have c_K := fun (e : GE (Bx w [(gO, kO 0 (.slice none 0 0) (.slice none 0 0)), (w.heap.size, cB (some ad) c (some rd) d K)]) G) j => cell_of_row e.w _ j _ _ _ ((GE.h e).get 1 rfl)
        have z_K := fun (e : GE (Bx w [(gO, kO 0 (.slice none 0 0) (.slice none 0 0)), (w.heap.size, cB (some ad) c (some rd) d K)]) G) => (GE.h e).lt 1 rfl
        have fc := fun (e : GE (Bx w [(gO, kO 0 (.slice none 0 0) (.slice none 0 0)), (w.heap.size, cB (some ad) c (some rd) d K)]) G) => (HF.out e.w (GE.h e).below).1
        have fd := fun (e : GE (Bx w [(gO, kO 0 (.slice none 0 0) (.slice none 0 0)), (w.heap.size, cB (some ad) c (some rd) d K)]) G) => (HF.out e.w (GE.h e).below).2.1
        have fe := fun (e : GE (Bx w [(gO, kO 0 (.slice none 0 0) (.slice none 0 0)), (w.heap.size, cB (some ad) c (some rd) d K)]) G) => (HF.out e.w (GE.h e).below).2.2
        simp only [pickOps, List.getElem?_toArray, List.getElem?_cons_zero, List.getElem?_cons_succ]
        repeat (first | go_big_quiet_step (fail) | quiet_step (fail))
        exact wpQuiet_nil rfl
      refine wpAnyE_done (by kernel_rfl) (fun wd20 hwd20 hRwd20 => ?_) _
      refine NoPanic.normal ?_
      have hB62 := hB61.next hwd20
      clear hB61 hwd20 hRwd20
      have HZ := Lib.hid hB62
      clear hB62
      go_wp2_with fail
      exact ⟨⟨k + 1, vc, vd, HLE.out, by go_num, by rw [HY.out.1, HY.out.2]; exact HZ.out⟩, by simpa [intOf] using HME.out⟩
    have q0 : decide (0 < k) = true := by simp; omega
    have z4 : (0 : Int) ≤ (k : Int) - 1 := by omega
    have z5 : (k : Int) - 1 < (K.dens.length : Int) := by omega
    have z6 : ((k : Int) - 1).toNat = k - 1 := by omega
    have y2 : IntKind.i64.wrap ((k : Int) - 1) = (k : Int) - 1 := IntWalk.i64_in _ (by have := HNL.out; omega)
    have y2' : wrap64 ((k : Int) - 1) = (k : Int) - 1 := IntWalk.wrap64_in _ (by have := HNL.out; omega)
    by_cases hd : gi K.dens k ≠ gi K.dens (k - 1)
    · have q1 : (gi K.dens k != gi K.dens (k - 1)) = true := by simpa using hd
      have HY := Lib.hid (rCuts_yes (K := K) (k := k) (by rw [HKP.out]; exact decide_eq_true (Or.inr hd)) (by omega))
      clear hd hk0
      have c_o4 := fun j => cell_of_row _ _ j _ _ _ (hMr.get 0 rfl)
      have z_o4 := hMr.lt 0 rfl
      have c_K := fun j => cell_of_row _ _ j _ _ _ (hMr.get 2 rfl)
      have z_K := hMr.lt 2 rfl
      go_upto_region 7 with fail
      clear c_o4 z_o4 c_K z_K
      refine wp_region_R (Bx w [(gO, kO 0 (.slice none 0 0) (.slice none 0 0)), (w.heap.size, cB (some ad) c (some rd) d K)]) 16 (by kernel_rfl) (by rfl) ((hMr.keep (List.Sublist.cons _ (List.Sublist.cons_cons _ (List.Sublist.cons_cons _ (List.nil_sublist _))))).drew) (fun wq21 hbq => ?_)
      have hB61 := hMr.next hbq
      clear hMr hbq
      refine wpAnyE_goR (Bx.grows _ _) (hB61.keep (List.Sublist.cons _ (List.Sublist.cons_cons _ (List.Sublist.cons_cons _ (List.nil_sublist _))))) [0, 1, 2, 3, 4, 5, 6, 7, 8, 9, 10, 11, 12, 13, 14, 15] 0 (by kernel_rfl) ?_
      apply Exists.intro
      refine ⟨fun G hG hN => ?_, ?_⟩
      · have c_out := fun (e : GE (Bx w [(gO, kO 0 (.slice none 0 0) (.slice none 0 0)), (w.heap.size, cB (some ad) c (some rd) d K)]) G) j => cell_of_row e.w _ j _ _ _ ((GE.h e).get 0 rfl)
        have z_out := fun (e : GE (Bx w [(gO, kO 0 (.slice none 0 0) (.slice none 0 0)), (w.heap.size, cB (some ad) c (some rd) d K)]) G) => (GE.h e).lt 0 rfl
        have c_K := fun (e : GE (Bx w [(gO, kO 0 (.slice none 0 0) (.slice none 0 0)), (w.heap.size, cB (some ad) c (some rd) d K)]) G) j => cell_of_row e.w _ j _ _ _ ((GE.h e).get 1 rfl)
        have z_K := fun (e : GE (Bx w [(gO, kO 0 (.slice none 0 0) (.slice none 0 0)), (w.heap.size, cB (some ad) c (some rd) d K)]) G) => (GE.h e).lt 1 rfl
        have fc := fun (e : GE (Bx w [(gO, kO 0 (.slice none 0 0) (.slice none 0 0)), (w.heap.size, cB (some ad) c (some rd) d K)]) G) => (HF.out e.w (GE.h e).below).1
        have fd := fun (e : GE (Bx w [(gO, kO 0 (.slice none 0 0) (.slice none 0 0)), (w.heap.size, cB (some ad) c (some rd) d K)]) G) => (HF.out e.w (GE.h e).below).2.1
        have fe := fun (e : GE (Bx w [(gO, kO 0 (.slice none 0 0) (.slice none 0 0)), (w.heap.size, cB (some ad) c (some rd) d K)]) G) => (HF.out e.w (GE.h e).below).2.2
        simp only [pickOps, List.getElem?_toArray, List.getElem?_cons_zero, List.getElem?_cons_succ]
        repeat (first | go_big_quiet_step (fail) | quiet_step (fail))
        exact wpQuiet_nil rfl
      refine wpAnyE_done (by kernel_rfl) (fun wd22 hwd22 hRwd22 => ?_) _
      refine NoPanic.normal ?_
      have hB62 := hB61.next hwd22
      clear hB61 hwd22 hRwd22
      go_wp2_with fail
      refine wp_region_R (Bx w [(gO, kO 0 (.slice none 0 0) (.slice none 0 0)), (w.heap.size, cB (some ad) c (some rd) d K)]) 11 (by kernel_rfl) (by rfl) ((hB62.keep (List.Sublist.cons _ (List.Sublist.cons_cons _ (List.Sublist.cons_cons _ (List.nil_sublist _))))).drew) (fun wq23 hbq => ?_)
      have hB63 := hB62.next hbq
      clear hB62 hbq
      refine wpAnyE_goR (Bx.grows _ _) (hB63.keep (List.Sublist.cons _ (List.Sublist.cons_cons _ (List.Sublist.cons_cons _ (List.nil_sublist _))))) [0, 2, 3, 4, 5, 6] 5 (by kernel_rfl) ?_
      apply Exists.intro
      refine ⟨fun G hG hN => ?_, ?_⟩
      · have c_out := fun (e : GE (Bx w [(gO, kO 0 (.slice none 0 0) (.slice none 0 0)), (w.heap.size, cB (some ad) c (some rd) d K)]) G) j => cell_of_row e.w _ j _ _ _ ((GE.h e).get 0 rfl)
        have z_out := fun (e : GE (Bx w [(gO, kO 0 (.slice none 0 0) (.slice none 0 0)), (w.heap.size, cB (some ad) c (some rd) d K)]) G) => (GE.h e).lt 0 rfl
        have c_K := fun (e : GE (Bx w [(gO, kO 0 (.slice none 0 0) (.slice none 0 0)), (w.heap.size, cB (some ad) c (some rd) d K)]) G) j => cell_of_row e.w _ j _ _ _ ((GE.h e).get 1 rfl)
        have z_K := fun (e : GE (Bx w [(gO, kO 0 (.slice none 0 0) (.slice none 0 0)), (w.heap.size, cB (some ad) c (some rd) d K)]) G) => (GE.h e).lt 1 rfl
        have fc := fun (e : GE (Bx w [(gO, kO 0 (.slice none 0 0) (.slice none 0 0)), (w.heap.size, cB (some ad) c (some rd) d K)]) G) => (HF.out e.w (GE.h e).below).1
        have fd := fun (e : GE (Bx w [(gO, kO 0 (.slice none 0 0) (.slice none 0 0)), (w.heap.size, cB (some ad) c (some rd) d K)]) G) => (HF.out e.w (GE.h e).below).2.1
        have fe := fun (e : GE (Bx w [(gO, kO 0 (.slice none 0 0) (.slice none 0 0)), (w.heap.size, cB (some ad) c (some rd) d K)]) G) => (HF.out e.w (GE.h e).below).2.2
        simp only [pickOps, List.getElem?_toArray, List.getElem?_cons_zero, List.getElem?_cons_succ]
        repeat (first | go_big_quiet_step (fail) | quiet_step (fail))
        exact wpQuiet_nil rfl
      refine wpAnyE_all (rs := [1, 7]) (by kernel_rfl) (by simp) (fun wa24 hwa24 hRwa24 i hi => ?_)
      have hB64 := hB63.next hwa24
      clear hB63 hwa24 hRwa24
      rcases List.mem_cons.1 hi with rfl | hi
      · refine wpOp_step rfl (fun Kc hKc => ?_)
        have c_o4 := fun j => cell_of_row _ _ j _ _ _ (hB64.get 0 rfl)
        have z_o4 := hB64.lt 0 rfl
        go_simp
        refine hKc _ _ ⟨(hB64.keep (List.Sublist.cons _ (List.Sublist.cons_cons _ (List.Sublist.cons_cons _ (List.nil_sublist _))))), ?_⟩
        clear hKc Kc
        clear c_o4 z_o4
        refine wpAnyE_all (rs := [7]) (by kernel_rfl) (by simp) (fun wa25 hwa25 hRwa25 i hi => ?_)
        have hB65 := hB64.next hwa25
        clear hB64 hwa25 hRwa25
        obtain rfl := List.mem_singleton.1 hi
        refine wpOp_step rfl (fun Kc hKc => ?_)
        go_simp
        have hB66 := hB65.new (g := wa25.heap.size) rfl (.cells #[.int .i64 (gi K.cuts k)] 3)
        refine hKc _ _ ⟨(hB66.keep (List.Sublist.cons _ (List.Sublist.cons _ (List.Sublist.cons_cons _ (List.Sublist.cons_cons _ (List.nil_sublist _)))))), ?_⟩
        clear hKc Kc hB65
        generalize wa25.heap.size = gl at *
        generalize wa25.alloc _ = wb26 at *
        refine wpAnyE_all (rs := [8]) (by kernel_rfl) (by simp) (fun wa27 hwa27 hRwa27 i hi => ?_)
        have hB67 := hB66.next hwa27
        clear hB66 hwa27 hRwa27
        obtain rfl := List.mem_singleton.1 hi
        refine wpOp_step rfl (fun Kc hKc => ?_)
        refine step_append_any _ rfl (.tmp 40) (.tmp 46) 22 rfl w.heap.size 3 i0 (.int .i64 0) 1 8 Try.underlying22 hi0 hz0 hz1 hz2 rfl (by omega) vc (rCuts K k).length (intsV (rCuts K k)) rfl (hB67.row 1 rfl) _ (some ⟨gl, 0, none⟩) 1 1 [.int .i64 (gi K.cuts k)] rfl (reads_one (hB67.get 0 rfl)) (one_one _) HB1.out.1 HB1.out.2 hB67.below.size ?_
        intro v2 wb28 hown hgr hat
        obtain ⟨A2, c2, rfl, _, _⟩ := own_nil_len hown
        have hB68 := hB67.grow 1 rfl hgr hown hat
        refine hKc _ _ ⟨(hB68.keep (List.Sublist.cons _ (List.Sublist.cons _ (List.Sublist.cons_cons _ (List.Sublist.cons_cons _ (List.nil_sublist _)))))), ?_⟩
        clear hKc Kc hB67 hown hgr hat
        refine wpAnyE_goR (Bx.grows _ _) (hB68.keep (List.Sublist.cons _ (List.Sublist.cons _ (List.Sublist.cons_cons _ (List.Sublist.cons_cons _ (List.nil_sublist _)))))) [9] 1 (by kernel_rfl) ?_
        apply Exists.intro
        refine ⟨fun G hG hN => ?_, ?_⟩
        · have c_out := fun (e : GE (Bx w [(gO, kO 0 (.slice none 0 0) (.slice none 0 0)), (w.heap.size, cB (some ad) c (some rd) d K)]) G) j => cell_of_row e.w _ j _ _ _ ((GE.h e).get 0 rfl)
          have z_out := fun (e : GE (Bx w [(gO, kO 0 (.slice none 0 0) (.slice none 0 0)), (w.heap.size, cB (some ad) c (some rd) d K)]) G) => (GE.h e).lt 0 rfl
          have c_K := fun (e : GE (Bx w [(gO, kO 0 (.slice none 0 0) (.slice none 0 0)), (w.heap.size, cB (some ad) c (some rd) d K)]) G) j => cell_of_row e.w _ j _ _ _ ((GE.h e).get 1 rfl)
          have z_K := fun (e : GE (Bx w [(gO, kO 0 (.slice none 0 0) (.slice none 0 0)), (w.heap.size, cB (some ad) c (some rd) d K)]) G) => (GE.h e).lt 1 rfl
          have fc := fun (e : GE (Bx w [(gO, kO 0 (.slice none 0 0) (.slice none 0 0)), (w.heap.size, cB (some ad) c (some rd) d K)]) G) => (HF.out e.w (GE.h e).below).1
          have fd := fun (e : GE (Bx w [(gO, kO 0 (.slice none 0 0) (.slice none 0 0)), (w.heap.size, cB (some ad) c (some rd) d K)]) G) => (HF.out e.w (GE.h e).below).2.1
          have fe := fun (e : GE (Bx w [(gO, kO 0 (.slice none 0 0) (.slice none 0 0)), (w.heap.size, cB (some ad) c (some rd) d K)]) G) => (HF.out e.w (GE.h e).below).2.2
          simp only [pickOps, List.getElem?_toArray, List.getElem?_cons_zero, List.getElem?_cons_succ]
          repeat (first | go_big_quiet_step (fail) | quiet_step (fail))
          exact wpQuiet_nil rfl
        refine wpAnyE_all (rs := [10]) (by kernel_rfl) (by simp) (fun wa29 hwa29 hRwa29 i hi => ?_)
        have hB69 := hB68.next hwa29
        clear hB68 hwa29 hRwa29
        obtain rfl := List.mem_singleton.1 hi
        refine wpOp_step rfl (fun Kc hKc => ?_)
        have c_o4 := fun j => cell_of_row _ _ j _ _ _ (hB69.get 1 rfl)
        have z_o4 := hB69.lt 1 rfl
        have f_o4 := fun j => frozen_of_row _ _ j _ _ (hB69.get 1 rfl)
        go_simp
        have hB70 := hB69.set 1 rfl 1 ((.slice A2 ((rCuts K k).length + 1) c2))
        refine hKc _ _ ⟨(hB70.keep (List.Sublist.cons _ (List.Sublist.cons _ (List.Sublist.cons_cons _ (List.Sublist.cons_cons _ (List.nil_sublist _)))))), ?_⟩
        clear c_o4 z_o4 f_o4 hKc Kc hB69
        generalize wa29.setCell _ _ = wb30 at *
        refine wpAnyE_done (by kernel_rfl) (fun wd31 hwd31 hRwd31 => ?_) _
        refine NoPanic.normal ?_
        have hB71 := hB70.next hwd31
        clear hB70 hwd31 hRwd31
        have hZ : Mx w [(g4, kO K.len (.slice A2 ((rCuts K k).length + 1) c2) vd), (gO, kO 0 (.slice none 0 0) (.slice none 0 0)), (w.heap.size, cB (some ad) c (some rd) d K)] [iR vd (rDens K k), iR (.slice A2 ((rCuts K k).length + 1) c2) (rCuts K k ++ [gi K.cuts k])] wd31 := by
          have hz := hB71.drop
          have e : iR (.slice A2 ((rCuts K k).length + 1) c2) (rCuts K k ++ [gi K.cuts k]) = ⟨(.slice A2 ((rCuts K k).length + 1) c2), 3, 1, (rCuts K k).length + 1, intsV (rCuts K k) ++ [.int .i64 (gi K.cuts k)]⟩ := by simp
          rw [e]; exact hz
        clear hB71
        go_wp2_with fail
        refine wp_region_R (Bx w [(gO, kO 0 (.slice none 0 0) (.slice none 0 0)), (w.heap.size, cB (some ad) c (some rd) d K)]) 12 (by kernel_rfl) (by rfl) ((hZ.keep (List.Sublist.cons _ (List.Sublist.cons_cons _ (List.Sublist.cons_cons _ (List.nil_sublist _))))).drew) (fun wq32 hbq => ?_)
        have hB81 := hZ.next hbq
        clear hZ hbq
        refine wpAnyE_goR (Bx.grows _ _) (hB81.keep (List.Sublist.cons _ (List.Sublist.cons_cons _ (List.Sublist.cons_cons _ (List.nil_sublist _))))) [0, 2, 3, 4, 5, 6, 7] 5 (by kernel_rfl) ?_
        apply Exists.intro
        refine ⟨fun G hG hN => ?_, ?_⟩
        · have c_out := fun (e : GE (Bx w [(gO, kO 0 (.slice none 0 0) (.slice none 0 0)), (w.heap.size, cB (some ad) c (some rd) d K)]) G) j => cell_of_row e.w _ j _ _ _ ((GE.h e).get 0 rfl)
          have z_out := fun (e : GE (Bx w [(gO, kO 0 (.slice none 0 0) (.slice none 0 0)), (w.heap.size, cB (some ad) c (some rd) d K)]) G) => (GE.h e).lt 0 rfl
          have c_K := fun (e : GE (Bx w [(gO, kO 0 (.slice none 0 0) (.slice none 0 0)), (w.heap.size, cB (some ad) c (some rd) d K)]) G) j => cell_of_row e.w _ j _ _ _ ((GE.h e).get 1 rfl)
          have z_K := fun (e : GE (Bx w [(gO, kO 0 (.slice none 0 0) (.slice none 0 0)), (w.heap.size, cB (some ad) c (some rd) d K)]) G) => (GE.h e).lt 1 rfl
          have fc := fun (e : GE (Bx w [(gO, kO 0 (.slice none 0 0) (.slice none 0 0)), (w.heap.size, cB (some ad) c (some rd) d K)]) G) => (HF.out e.w (GE.h e).below).1
          have fd := fun (e : GE (Bx w [(gO, kO 0 (.slice none 0 0) (.slice none 0 0)), (w.heap.size, cB (some ad) c (some rd) d K)]) G) => (HF.out e.w (GE.h e).below).2.1
          have fe := fun (e : GE (Bx w [(gO, kO 0 (.slice none 0 0) (.slice none 0 0)), (w.heap.size, cB (some ad) c (some rd) d K)]) G) => (HF.out e.w (GE.h e).below).2.2
          simp only [pickOps, List.getElem?_toArray, List.getElem?_cons_zero, List.getElem?_cons_succ]
          repeat (first | go_big_quiet_step (fail) | quiet_step (fail))
          exact wpQuiet_nil rfl
        refine wpAnyE_all (rs := [1, 8]) (by kernel_rfl) (by simp) (fun wa33 hwa33 hRwa33 i hi => ?_)
        have hB82 := hB81.next hwa33
        clear hB81 hwa33 hRwa33
        rcases List.mem_cons.1 hi with rfl | hi
        · refine wpOp_step rfl (fun Kc hKc => ?_)
          have c_o4 := fun j => cell_of_row _ _ j _ _ _ (hB82.get 0 rfl)
          have z_o4 := hB82.lt 0 rfl
          go_simp
          refine hKc _ _ ⟨(hB82.keep (List.Sublist.cons _ (List.Sublist.cons_cons _ (List.Sublist.cons_cons _ (List.nil_sublist _))))), ?_⟩
          clear hKc Kc
          clear c_o4 z_o4
          refine wpAnyE_all (rs := [8]) (by kernel_rfl) (by simp) (fun wa34 hwa34 hRwa34 i hi => ?_)
          have hB83 := hB82.next hwa34
          clear hB82 hwa34 hRwa34
          obtain rfl := List.mem_singleton.1 hi
          refine wpOp_step rfl (fun Kc hKc => ?_)
          go_simp
          have hB84 := hB83.new (g := wa34.heap.size) rfl (.cells #[.int .i64 (gi K.dens (k - 1))] 3)
          refine hKc _ _ ⟨(hB84.keep (List.Sublist.cons _ (List.Sublist.cons _ (List.Sublist.cons_cons _ (List.Sublist.cons_cons _ (List.nil_sublist _)))))), ?_⟩
          clear hKc Kc hB83
          generalize wa34.heap.size = gm at *
          generalize wa34.alloc _ = wb35 at *
          refine wpAnyE_all (rs := [9]) (by kernel_rfl) (by simp) (fun wa36 hwa36 hRwa36 i hi => ?_)
          have hB85 := hB84.next hwa36
          clear hB84 hwa36 hRwa36
          obtain rfl := List.mem_singleton.1 hi
          refine wpOp_step rfl (fun Kc hKc => ?_)
          refine step_append_any _ rfl (.tmp 50) (.tmp 57) 22 rfl w.heap.size 3 i0 (.int .i64 0) 1 8 Try.underlying22 hi0 hz0 hz1 hz2 rfl (by omega) vd (rDens K k).length (intsV (rDens K k)) rfl (hB85.row 0 rfl) _ (some ⟨gm, 0, none⟩) 1 1 [.int .i64 (gi K.dens (k - 1))] rfl (reads_one (hB85.get 0 rfl)) (one_one _) HB2.out.1 HB2.out.2 hB85.below.size ?_
          intro v3 wb37 hown hgr hat
          obtain ⟨A3, c3, rfl, _, _⟩ := own_nil_len hown
          have hB86 := hB85.grow 0 rfl hgr hown hat
          refine hKc _ _ ⟨(hB86.keep (List.Sublist.cons _ (List.Sublist.cons _ (List.Sublist.cons_cons _ (List.Sublist.cons_cons _ (List.nil_sublist _)))))), ?_⟩
          clear hKc Kc hB85 hown hgr hat
          refine wpAnyE_goR (Bx.grows _ _) (hB86.keep (List.Sublist.cons _ (List.Sublist.cons _ (List.Sublist.cons_cons _ (List.Sublist.cons_cons _ (List.nil_sublist _)))))) [10] 1 (by kernel_rfl) ?_
          apply Exists.intro
          refine ⟨fun G hG hN => ?_, ?_⟩
          · have c_out := fun (e : GE (Bx w [(gO, kO 0 (.slice none 0 0) (.slice none 0 0)), (w.heap.size, cB (some ad) c (some rd) d K)]) G) j => cell_of_row e.w _ j _ _ _ ((GE.h e).get 0 rfl)
            have z_out := fun (e : GE (Bx w [(gO, kO 0 (.slice none 0 0) (.slice none 0 0)), (w.heap.size, cB (some ad) c (some rd) d K)]) G) => (GE.h e).lt 0 rfl
            have c_K := fun (e : GE (Bx w [(gO, kO 0 (.slice none 0 0) (.slice none 0 0)), (w.heap.size, cB (some ad) c (some rd) d K)]) G) j => cell_of_row e.w _ j _ _ _ ((GE.h e).get 1 rfl)
            have z_K := fun (e : GE (Bx w [(gO, kO 0 (.slice none 0 0) (.slice none 0 0)), (w.heap.size, cB (some ad) c (some rd) d K)]) G) => (GE.h e).lt 1 rfl
            have fc := fun (e : GE (Bx w [(gO, kO 0 (.slice none 0 0) (.slice none 0 0)), (w.heap.size, cB (some ad) c (some rd) d K)]) G) => (HF.out e.w (GE.h e).below).1
            have fd := fun (e : GE (Bx w [(gO, kO 0 (.slice none 0 0) (.slice none 0 0)), (w.heap.size, cB (some ad) c (some rd) d K)]) G) => (HF.out e.w (GE.h e).below).2.1
            have fe := fun (e : GE (Bx w [(gO, kO 0 (.slice none 0 0) (.slice none 0 0)), (w.heap.size, cB (some ad) c (some rd) d K)]) G) => (HF.out e.w (GE.h e).below).2.2
            simp only [pickOps, List.getElem?_toArray, List.getElem?_cons_zero, List.getElem?_cons_succ]
            repeat (first | go_big_quiet_step (fail) | quiet_step (fail))
            exact wpQuiet_nil rfl
          refine wpAnyE_all (rs := [11]) (by kernel_rfl) (by simp) (fun wa38 hwa38 hRwa38 i hi => ?_)
          have hB87 := hB86.next hwa38
          clear hB86 hwa38 hRwa38
          obtain rfl := List.mem_singleton.1 hi
          refine wpOp_step rfl (fun Kc hKc => ?_)
          have c_o4 := fun j => cell_of_row _ _ j _ _ _ (hB87.get 1 rfl)
          have z_o4 := hB87.lt 1 rfl
          have f_o4 := fun j => frozen_of_row _ _ j _ _ (hB87.get 1 rfl)
          go_simp
          have hB88 := hB87.set 1 rfl 2 ((.slice A3 ((rDens K k).length + 1) c3))
          refine hKc _ _ ⟨(hB88.keep (List.Sublist.cons _ (List.Sublist.cons _ (List.Sublist.cons_cons _ (List.Sublist.cons_cons _ (List.nil_sublist _)))))), ?_⟩
          clear c_o4 z_o4 f_o4 hKc Kc hB87
          generalize wa38.setCell _ _ = wb39 at *
          refine wpAnyE_done (by kernel_rfl) (fun wd40 hwd40 hRwd40 => ?_) _
          refine NoPanic.normal ?_
          have hB89 := hB88.next hwd40
          clear hB88 hwd40 hRwd40
          have HZ := Lib.hid (show Mx w [(g4, kO K.len (.slice A2 ((rCuts K k).length + 1) c2) (.slice A3 ((rDens K k).length + 1) c3)), (gO, kO 0 (.slice none 0 0) (.slice none 0 0)), (w.heap.size, cB (some ad) c (some rd) d K)] [iR (.slice A3 ((rDens K k).length + 1) c3) (rDens K k ++ [gi K.dens (k - 1)]), iR (.slice A2 ((rCuts K k).length + 1) c2) (rCuts K k ++ [gi K.cuts k])] _ by
            have hz := hB89.drop
            have e : iR (.slice A3 ((rDens K k).length + 1) c3) (rDens K k ++ [gi K.dens (k - 1)]) = ⟨(.slice A3 ((rDens K k).length + 1) c3), 3, 1, (rDens K k).length + 1, intsV (rDens K k) ++ [.int .i64 (gi K.dens (k - 1))]⟩ := by simp
            rw [e]; exact hz)
          clear hB89
          go_wp2_with fail
          exact ⟨⟨k + 1, (.slice A2 ((rCuts K k).length + 1) c2), (.slice A3 ((rDens K k).length + 1) c3), HLE.out, by go_num, by rw [HY.out.1, HY.out.2]; exact HZ.out⟩, by simpa [intOf] using HME.out⟩
        · obtain rfl := List.mem_singleton.1 hi
          refine wpOp_step rfl (fun Kc hKc => ?_)
          go_simp
          have hB83 := hB82.new (g := wa33.heap.size) rfl (.cells #[.int .i64 (gi K.dens (k - 1))] 3)
          refine hKc _ _ ⟨(hB83.keep (List.Sublist.cons _ (List.Sublist.cons _ (List.Sublist.cons_cons _ (List.Sublist.cons_cons _ (List.nil_sublist _)))))), ?_⟩
          clear hKc Kc hB82
          generalize wa33.heap.size = gm at *
          generalize wa33.alloc _ = wb41 at *
          refine wpAnyE_all (rs := [1]) (by kernel_rfl) (by simp) (fun wa42 hwa42 hRwa42 i hi => ?_)
          have hB84 := hB83.next hwa42
          clear hB83 hwa42 hRwa42
          obtain rfl := List.mem_singleton.1 hi
          refine wpOp_step rfl (fun Kc hKc => ?_)
          have c_o4 := fun j => cell_of_row _ _ j _ _ _ (hB84.get 1 rfl)
          have z_o4 := hB84.lt 1 rfl
          go_simp
          refine hKc _ _ ⟨(hB84.keep (List.Sublist.cons _ (List.Sublist.cons _ (List.Sublist.cons_cons _ (List.Sublist.cons_cons _ (List.nil_sublist _)))))), ?_⟩
          clear hKc Kc
          clear c_o4 z_o4
          refine wpAnyE_all (rs := [9]) (by kernel_rfl) (by simp) (fun wa43 hwa43 hRwa43 i hi => ?_)
          have hB85 := hB84.next hwa43
          clear hB84 hwa43 hRwa43
          obtain rfl := List.mem_singleton.1 hi
          refine wpOp_step rfl (fun Kc hKc => ?_)
          refine step_append_any _ rfl (.tmp 50) (.tmp 57) 22 rfl w.heap.size 3 i0 (.int .i64 0) 1 8 Try.underlying22 hi0 hz0 hz1 hz2 rfl (by omega) vd (rDens K k).length (intsV (rDens K k)) rfl (hB85.row 0 rfl) _ (some ⟨gm, 0, none⟩) 1 1 [.int .i64 (gi K.dens (k - 1))] rfl (reads_one (hB85.get 0 rfl)) (one_one _) HB2.out.1 HB2.out.2 hB85.below.size ?_
          intro v3 wb44 hown hgr hat
          obtain ⟨A3, c3, rfl, _, _⟩ := own_nil_len hown
          have hB86 := hB85.grow 0 rfl hgr hown hat
          refine hKc _ _ ⟨(hB86.keep (List.Sublist.cons _ (List.Sublist.cons _ (List.Sublist.cons_cons _ (List.Sublist.cons_cons _ (List.nil_sublist _)))))), ?_⟩
          clear hKc Kc hB85 hown hgr hat
          refine wpAnyE_goR (Bx.grows _ _) (hB86.keep (List.Sublist.cons _ (List.Sublist.cons _ (List.Sublist.cons_cons _ (List.Sublist.cons_cons _ (List.nil_sublist _)))))) [10] 1 (by kernel_rfl) ?_
          apply Exists.intro
          refine ⟨fun G hG hN => ?_, ?_⟩
          · have c_out := fun (e : GE (Bx w [(gO, kO 0 (.slice none 0 0) (.slice none 0 0)), (w.heap.size, cB (some ad) c (some rd) d K)]) G) j => cell_of_row e.w _ j _ _ _ ((GE.h e).get 0 rfl)
            have z_out := fun (e : GE (Bx w [(gO, kO 0 (.slice none 0 0) (.slice none 0 0)), (w.heap.size, cB (some ad) c (some rd) d K)]) G) => (GE.h e).lt 0 rfl
            have c_K := fun (e : GE (Bx w [(gO, kO 0 (.slice none 0 0) (.slice none 0 0)), (w.heap.size, cB (some ad) c (some rd) d K)]) G) j => cell_of_row e.w _ j _ _ _ ((GE.h e).get 1 rfl)
            have z_K := fun (e : GE (Bx w [(gO, kO 0 (.slice none 0 0) (.slice none 0 0)), (w.heap.size, cB (some ad) c (some rd) d K)]) G) => (GE.h e).lt 1 rfl
            have fc := fun (e : GE (Bx w [(gO, kO 0 (.slice none 0 0) (.slice none 0 0)), (w.heap.size, cB (some ad) c (some rd) d K)]) G) => (HF.out e.w (GE.h e).below).1
            have fd := fun (e : GE (Bx w [(gO, kO 0 (.slice none 0 0) (.slice none 0 0)), (w.heap.size, cB (some ad) c (some rd) d K)]) G) => (HF.out e.w (GE.h e).below).2.1
            have fe := fun (e : GE (Bx w [(gO, kO 0 (.slice none 0 0) (.slice none 0 0)), (w.heap.size, cB (some ad) c (some rd) d K)]) G) => (HF.out e.w (GE.h e).below).2.2
            simp only [pickOps, List.getElem?_toArray, List.getElem?_cons_zero, List.getElem?_cons_succ]
            repeat (first | go_big_quiet_step (fail) | quiet_step (fail))
            exact wpQuiet_nil rfl
          refine wpAnyE_all (rs := [11]) (by kernel_rfl) (by simp) (fun wa45 hwa45 hRwa45 i hi => ?_)
          have hB87 := hB86.next hwa45
          clear hB86 hwa45 hRwa45
          obtain rfl := List.mem_singleton.1 hi
          refine wpOp_step rfl (fun Kc hKc => ?_)
          have c_o4 := fun j => cell_of_row _ _ j _ _ _ (hB87.get 1 rfl)
          have z_o4 := hB87.lt 1 rfl
          have f_o4 := fun j => frozen_of_row _ _ j _ _ (hB87.get 1 rfl)
          go_simp
          have hB88 := hB87.set 1 rfl 2 ((.slice A3 ((rDens K k).length + 1) c3))
          refine hKc _ _ ⟨(hB88.keep (List.Sublist.cons _ (List.Sublist.cons _ (List.Sublist.cons_cons _ (List.Sublist.cons_cons _ (List.nil_sublist _)))))), ?_⟩
          clear c_o4 z_o4 f_o4 hKc Kc hB87
          generalize wa45.setCell _ _ = wb46 at *
          refine wpAnyE_done (by kernel_rfl) (fun wd47 hwd47 hRwd47 => ?_) _
          refine NoPanic.normal ?_
          have hB89 := hB88.next hwd47
          clear hB88 hwd47 hRwd47
          have HZ := Lib.hid (show Mx w [(g4, kO K.len (.slice A2 ((rCuts K k).length + 1) c2) (.slice A3 ((rDens K k).length + 1) c3)), (gO, kO 0 (.slice none 0 0) (.slice none 0 0)), (w.heap.size, cB (some ad) c (some rd) d K)] [iR (.slice A3 ((rDens K k).length + 1) c3) (rDens K k ++ [gi K.dens (k - 1)]), iR (.slice A2 ((rCuts K k).length + 1) c2) (rCuts K k ++ [gi K.cuts k])] _ by
            have hz := hB89.drop
            have e : iR (.slice A3 ((rDens K k).length + 1) c3) (rDens K k ++ [gi K.dens (k - 1)]) = ⟨(.slice A3 ((rDens K k).length + 1) c3), 3, 1, (rDens K k).length + 1, intsV (rDens K k) ++ [.int .i64 (gi K.dens (k - 1))]⟩ := by simp
            rw [e]; exact hz)
          clear hB89
          go_wp2_with fail
          exact ⟨⟨k + 1, (.slice A2 ((rCuts K k).length + 1) c2), (.slice A3 ((rDens K k).length + 1) c3), HLE.out, by go_num, by rw [HY.out.1, HY.out.2]; exact HZ.out⟩, by simpa [intOf] using HME.out⟩
      · obtain rfl := List.mem_singleton.1 hi
        refine wpOp_step rfl (fun Kc hKc => ?_)
        go_simp
        have hB65 := hB64.new (g := wa24.heap.size) rfl (.cells #[.int .i64 (gi K.cuts k)] 3)
        refine hKc _ _ ⟨(hB65.keep (List.Sublist.cons _ (List.Sublist.cons _ (List.Sublist.cons_cons _ (List.Sublist.cons_cons _ (List.nil_sublist _)))))), ?_⟩
        clear hKc Kc hB64
        generalize wa24.heap.size = gl at *
        generalize wa24.alloc _ = wb48 at *
        refine wpAnyE_all (rs := [1]) (by kernel_rfl) (by simp) (fun wa49 hwa49 hRwa49 i hi => ?_)
        have hB66 := hB65.next hwa49
        clear hB65 hwa49 hRwa49
        obtain rfl := List.mem_singleton.1 hi
        refine wpOp_step rfl (fun Kc hKc => ?_)
        have c_o4 := fun j => cell_of_row _ _ j _ _ _ (hB66.get 1 rfl)
        have z_o4 := hB66.lt 1 rfl
        go_simp
        refine hKc _ _ ⟨(hB66.keep (List.Sublist.cons _ (List.Sublist.cons _ (List.Sublist.cons_cons _ (List.Sublist.cons_cons _ (List.nil_sublist _)))))), ?_⟩
        clear hKc Kc
        clear c_o4 z_o4
        refine wpAnyE_all (rs := [8]) (by kernel_rfl) (by simp) (fun wa50 hwa50 hRwa50 i hi => ?_)
        have hB67 := hB66.next hwa50
        clear hB66 hwa50 hRwa50
        obtain rfl := List.mem_singleton.1 hi
        refine wpOp_step rfl (fun Kc hKc => ?_)
        refine step_append_any _ rfl (.tmp 40) (.tmp 46) 22 rfl w.heap.size 3 i0 (.int .i64 0) 1 8 Try.underlying22 hi0 hz0 hz1 hz2 rfl (by omega) vc (rCuts K k).length (intsV (rCuts K k)) rfl (hB67.row 1 rfl) _ (some ⟨gl, 0, none⟩) 1 1 [.int .i64 (gi K.cuts k)] rfl (reads_one (hB67.get 0 rfl)) (one_one _) HB1.out.1 HB1.out.2 hB67.below.size ?_
        intro v2 wb51 hown hgr hat
        obtain ⟨A2, c2, rfl, _, _⟩ := own_nil_len hown
        have hB68 := hB67.grow 1 rfl hgr hown hat
        refine hKc _ _ ⟨(hB68.keep (List.Sublist.cons _ (List.Sublist.cons _ (List.Sublist.cons_cons _ (List.Sublist.cons_cons _ (List.nil_sublist _)))))), ?_⟩
        clear hKc Kc hB67 hown hgr hat
        refine wpAnyE_goR (Bx.grows _ _) (hB68.keep (List.Sublist.cons _ (List.Sublist.cons _ (List.Sublist.cons_cons _ (List.Sublist.cons_cons _ (List.nil_sublist _)))))) [9] 1 (by kernel_rfl) ?_
        apply Exists.intro
        refine ⟨fun G hG hN => ?_, ?_⟩
        · have c_out := fun (e : GE (Bx w [(gO, kO 0 (.slice none 0 0) (.slice none 0 0)), (w.heap.size, cB (some ad) c (some rd) d K)]) G) j => cell_of_row e.w _ j _ _ _ ((GE.h e).get 0 rfl)
          have z_out := fun (e : GE (Bx w [(gO, kO 0 (.slice none 0 0) (.slice none 0 0)), (w.heap.size, cB (some ad) c (some rd) d K)]) G) => (GE.h e).lt 0 rfl
          have c_K := fun (e : GE (Bx w [(gO, kO 0 (.slice none 0 0) (.slice none 0 0)), (w.heap.size, cB (some ad) c (some rd) d K)]) G) j => cell_of_row e.w _ j _ _ _ ((GE.h e).get 1 rfl)
          have z_K := fun (e : GE (Bx w [(gO, kO 0 (.slice none 0 0) (.slice none 0 0)), (w.heap.size, cB (some ad) c (some rd) d K)]) G) => (GE.h e).lt 1 rfl
          have fc := fun (e : GE (Bx w [(gO, kO 0 (.slice none 0 0) (.slice none 0 0)), (w.heap.size, cB (some ad) c (some rd) d K)]) G) => (HF.out e.w (GE.h e).below).1
          have fd := fun (e : GE (Bx w [(gO, kO 0 (.slice none 0 0) (.slice none 0 0)), (w.heap.size, cB (some ad) c (some rd) d K)]) G) => (HF.out e.w (GE.h e).below).2.1
          have fe := fun (e : GE (Bx w [(gO, kO 0 (.slice none 0 0) (.slice none 0 0)), (w.heap.size, cB (some ad) c (some rd) d K)]) G) => (HF.out e.w (GE.h e).below).2.2
          simp only [pickOps, List.getElem?_toArray, List.getElem?_cons_zero, List.getElem?_cons_succ]
          repeat (first | go_big_quiet_step (fail) | quiet_step (fail))
          exact wpQuiet_nil rfl
        refine wpAnyE_all (rs := [10]) (by kernel_rfl) (by simp) (fun wa52 hwa52 hRwa52 i hi => ?_)
        have hB69 := hB68.next hwa52
        clear hB68 hwa52 hRwa52
        obtain rfl := List.mem_singleton.1 hi
        refine wpOp_step rfl (fun Kc hKc => ?_)
        have c_o4 := fun j => cell_of_row _ _ j _ _ _ (hB69.get 1 rfl)
        have z_o4 := hB69.lt 1 rfl
        have f_o4 := fun j => frozen_of_row _ _ j _ _ (hB69.get 1 rfl)
        go_simp
        have hB70 := hB69.set 1 rfl 1 ((.slice A2 ((rCuts K k).length + 1) c2))
        refine hKc _ _ ⟨(hB70.keep (List.Sublist.cons _ (List.Sublist.cons _ (List.Sublist.cons_cons _ (List.Sublist.cons_cons _ (List.nil_sublist _)))))), ?_⟩
        clear c_o4 z_o4 f_o4 hKc Kc hB69
        generalize wa52.setCell _ _ = wb53 at *
        refine wpAnyE_done (by kernel_rfl) (fun wd54 hwd54 hRwd54 => ?_) _
        refine NoPanic.normal ?_
        have hB71 := hB70.next hwd54
        clear hB70 hwd54 hRwd54
        have hZ : Mx w [(g4, kO K.len (.slice A2 ((rCuts K k).length + 1) c2) vd), (gO, kO 0 (.slice none 0 0) (.slice none 0 0)), (w.heap.size, cB (some ad) c (some rd) d K)] [iR vd (rDens K k), iR (.slice A2 ((rCuts K k).length + 1) c2) (rCuts K k ++ [gi K.cuts k])] wd54 := by
          have hz := hB71.drop
          have e : iR (.slice A2 ((rCuts K k).length + 1) c2) (rCuts K k ++ [gi K.cuts k]) = ⟨(.slice A2 ((rCuts K k).length + 1) c2), 3, 1, (rCuts K k).length + 1, intsV (rCuts K k) ++ [.int .i64 (gi K.cuts k)]⟩ := by simp
          rw [e]; exact hz
        clear hB71
        go_wp2_with fail
        refine wp_region_R (Bx w [(gO, kO 0 (.slice none 0 0) (.slice none 0 0)), (w.heap.size, cB (some ad) c (some rd) d K)]) 12 (by kernel_rfl) (by rfl) ((hZ.keep (List.Sublist.cons _ (List.Sublist.cons_cons _ (List.Sublist.cons_cons _ (List.nil_sublist _))))).drew) (fun wq55 hbq => ?_)
        have hB81 := hZ.next hbq
        clear hZ hbq
        refine wpAnyE_goR (Bx.grows _ _) (hB81.keep (List.Sublist.cons _ (List.Sublist.cons_cons _ (List.Sublist.cons_cons _ (List.nil_sublist _))))) [0, 2, 3, 4, 5, 6, 7] 5 (by kernel_rfl) ?_
        apply Exists.intro
        refine ⟨fun G hG hN => ?_, ?_⟩
        · have c_out := fun (e : GE (Bx w [(gO, kO 0 (.slice none 0 0) (.slice none 0 0)), (w.heap.size, cB (some ad) c (some rd) d K)]) G) j => cell_of_row e.w _ j _ _ _ ((GE.h e).get 0 rfl)
          have z_out := fun (e : GE (Bx w [(gO, kO 0 (.slice none 0 0) (.slice none 0 0)), (w.heap.size, cB (some ad) c (some rd) d K)]) G) => (GE.h e).lt 0 rfl
          have c_K := fun (e : GE (Bx w [(gO, kO 0 (.slice none 0 0) (.slice none 0 0)), (w.heap.size, cB (some ad) c (some rd) d K)]) G) j => cell_of_row e.w _ j _ _ _ ((GE.h e).get 1 rfl)
          have z_K := fun (e : GE (Bx w [(gO, kO 0 (.slice none 0 0) (.slice none 0 0)), (w.heap.size, cB (some ad) c (some rd) d K)]) G) => (GE.h e).lt 1 rfl
          have fc := fun (e : GE (Bx w [(gO, kO 0 (.slice none 0 0) (.slice none 0 0)), (w.heap.size, cB (some ad) c (some rd) d K)]) G) => (HF.out e.w (GE.h e).below).1
          have fd := fun (e : GE (Bx w [(gO, kO 0 (.slice none 0 0) (.slice none 0 0)), (w.heap.size, cB (some ad) c (some rd) d K)]) G) => (HF.out e.w (GE.h e).below).2.1
          have fe := fun (e : GE (Bx w [(gO, kO 0 (.slice none 0 0) (.slice none 0 0)), (w.heap.size, cB (some ad) c (some rd) d K)]) G) => (HF.out e.w (GE.h e).below).2.2
          simp only [pickOps, List.getElem?_toArray, List.getElem?_cons_zero, List.getElem?_cons_succ]
          repeat (first | go_big_quiet_step (fail) | quiet_step (fail))
          exact wpQuiet_nil rfl
        refine wpAnyE_all (rs := [1, 8]) (by kernel_rfl) (by simp) (fun wa56 hwa56 hRwa56 i hi => ?_)
        have hB82 := hB81.next hwa56
        clear hB81 hwa56 hRwa56
        rcases List.mem_cons.1 hi with rfl | hi
        · refine wpOp_step rfl (fun Kc hKc => ?_)
          have c_o4 := fun j => cell_of_row _ _ j _ _ _ (hB82.get 0 rfl)
          have z_o4 := hB82.lt 0 rfl
          go_simp
          refine hKc _ _ ⟨(hB82.keep (List.Sublist.cons _ (List.Sublist.cons_cons _ (List.Sublist.cons_cons _ (List.nil_sublist _))))), ?_⟩
          clear hKc Kc
          clear c_o4 z_o4
          refine wpAnyE_all (rs := [8]) (by kernel_rfl) (by simp) (fun wa57 hwa57 hRwa57 i hi => ?_)
          have hB83 := hB82.next hwa57
          clear hB82 hwa57 hRwa57
          obtain rfl := List.mem_singleton.1 hi
          refine wpOp_step rfl (fun Kc hKc => ?_)
          go_simp
          have hB84 := hB83.new (g := wa57.heap.size) rfl (.cells #[.int .i64 (gi K.dens (k - 1))] 3)
          refine hKc _ _ ⟨(hB84.keep (List.Sublist.cons _ (List.Sublist.cons _ (List.Sublist.cons_cons _ (List.Sublist.cons_cons _ (List.nil_sublist _)))))), ?_⟩
          clear hKc Kc hB83
          generalize wa57.heap.size = gm at *
          generalize wa57.alloc _ = wb58 at *
          refine wpAnyE_all (rs := [9]) (by kernel_rfl) (by simp) (fun wa59 hwa59 hRwa59 i hi => ?_)
          have hB85 := hB84.next hwa59
          clear hB84 hwa59 hRwa59
          obtain rfl := List.mem_singleton.1 hi
          refine wpOp_step rfl (fun Kc hKc => ?_)
          refine step_append_any _ rfl (.tmp 50) (.tmp 57) 22 rfl w.heap.size 3 i0 (.int .i64 0) 1 8 Try.underlying22 hi0 hz0 hz1 hz2 rfl (by omega) vd (rDens K k).length (intsV (rDens K k)) rfl (hB85.row 0 rfl) _ (some ⟨gm, 0, none⟩) 1 1 [.int .i64 (gi K.dens (k - 1))] rfl (reads_one (hB85.get 0 rfl)) (one_one _) HB2.out.1 HB2.out.2 hB85.below.size ?_
          intro v3 wb60 hown hgr hat
          obtain ⟨A3, c3, rfl, _, _⟩ := own_nil_len hown
          have hB86 := hB85.grow 0 rfl hgr hown hat
          refine hKc _ _ ⟨(hB86.keep (List.Sublist.cons _ (List.Sublist.cons _ (List.Sublist.cons_cons _ (List.Sublist.cons_cons _ (List.nil_sublist _)))))), ?_⟩
          clear hKc Kc hB85 hown hgr hat
          refine wpAnyE_goR (Bx.grows _ _) (hB86.keep (List.Sublist.cons _ (List.Sublist.cons _ (List.Sublist.cons_cons _ (List.Sublist.cons_cons _ (List.nil_sublist _)))))) [10] 1 (by kernel_rfl) ?_
          apply Exists.intro
          refine ⟨fun G hG hN => ?_, ?_⟩
          · have c_out := fun (e : GE (Bx w [(gO, kO 0 (.slice none 0 0) (.slice none 0 0)), (w.heap.size, cB (some ad) c (some rd) d K)]) G) j => cell_of_row e.w _ j _ _ _ ((GE.h e).get 0 rfl)
            have z_out := fun (e : GE (Bx w [(gO, kO 0 (.slice none 0 0) (.slice none 0 0)), (w.heap.size, cB (some ad) c (some rd) d K)]) G) => (GE.h e).lt 0 rfl
            have c_K := fun (e : GE (Bx w [(gO, kO 0 (.slice none 0 0) (.slice none 0 0)), (w.heap.size, cB (some ad) c (some rd) d K)]) G) j => cell_of_row e.w _ j _ _ _ ((GE.h e).get 1 rfl)
            have z_K := fun (e : GE (Bx w [(gO, kO 0 (.slice none 0 0) (.slice none 0 0)), (w.heap.size, cB (some ad) c (some rd) d K)]) G) => (GE.h e).lt 1 rfl
            have fc := fun (e : GE (Bx w [(gO, kO 0 (.slice none 0 0) (.slice none 0 0)), (w.heap.size, cB (some ad) c (some rd) d K)]) G) => (HF.out e.w (GE.h e).below).1
            have fd := fun (e : GE (Bx w [(gO, kO 0 (.slice none 0 0) (.slice none 0 0)), (w.heap.size, cB (some ad) c (some rd) d K)]) G) => (HF.out e.w (GE.h e).below).2.1
            have fe := fun (e : GE (Bx w [(gO, kO 0 (.slice none 0 0) (.slice none 0 0)), (w.heap.size, cB (some ad) c (some rd) d K)]) G) => (HF.out e.w (GE.h e).below).2.2
            simp only [pickOps, List.getElem?_toArray, List.getElem?_cons_zero, List.getElem?_cons_succ]
            repeat (first | go_big_quiet_step (fail) | quiet_step (fail))
            exact wpQuiet_nil rfl
          refine wpAnyE_all (rs := [11]) (by kernel_rfl) (by simp) (fun wa61 hwa61 hRwa61 i hi => ?_)
          have hB87 := hB86.next hwa61
          clear hB86 hwa61 hRwa61
          obtain rfl := List.mem_singleton.1 hi
          refine wpOp_step rfl (fun Kc hKc => ?_)
          have c_o4 := fun j => cell_of_row _ _ j _ _ _ (hB87.get 1 rfl)
          have z_o4 := hB87.lt 1 rfl
          have f_o4 := fun j => frozen_of_row _ _ j _ _ (hB87.get 1 rfl)
          go_simp
          have hB88 := hB87.set 1 rfl 2 ((.slice A3 ((rDens K k).length + 1) c3))
          refine hKc _ _ ⟨(hB88.keep (List.Sublist.cons _ (List.Sublist.cons _ (List.Sublist.cons_cons _ (List.Sublist.cons_cons _ (List.nil_sublist _)))))), ?_⟩
          clear c_o4 z_o4 f_o4 hKc Kc hB87
          generalize wa61.setCell _ _ = wb62 at *
          refine wpAnyE_done (by kernel_rfl) (fun wd63 hwd63 hRwd63 => ?_) _
          refine NoPanic.normal ?_
          have hB89 := hB88.next hwd63
          clear hB88 hwd63 hRwd63
          have HZ := Lib.hid (show Mx w [(g4, kO K.len (.slice A2 ((rCuts K k).length + 1) c2) (.slice A3 ((rDens K k).length + 1) c3)), (gO, kO 0 (.slice none 0 0) (.slice none 0 0)), (w.heap.size, cB (some ad) c (some rd) d K)] [iR (.slice A3 ((rDens K k).length + 1) c3) (rDens K k ++ [gi K.dens (k - 1)]), iR (.slice A2 ((rCuts K k).length + 1) c2) (rCuts K k ++ [gi K.cuts k])] _ by
            have hz := hB89.drop
            have e : iR (.slice A3 ((rDens K k).length + 1) c3) (rDens K k ++ [gi K.dens (k - 1)]) = ⟨(.slice A3 ((rDens K k).length + 1) c3), 3, 1, (rDens K k).length + 1, intsV (rDens K k) ++ [.int .i64 (gi K.dens (k - 1))]⟩ := by simp
            rw [e]; exact hz)
          clear hB89
          go_wp2_with fail
          exact ⟨⟨k + 1, (.slice A2 ((rCuts K k).length + 1) c2), (.slice A3 ((rDens K k).length + 1) c3), HLE.out, by go_num, by rw [HY.out.1, HY.out.2]; exact HZ.out⟩, by simpa [intOf] using HME.out⟩
        · obtain rfl := List.mem_singleton.1 hi
          refine wpOp_step rfl (fun Kc hKc => ?_)
          go_simp
          have hB83 := hB82.new (g := wa56.heap.size) rfl (.cells #[.int .i64 (gi K.dens (k - 1))] 3)
          refine hKc _ _ ⟨(hB83.keep (List.Sublist.cons _ (List.Sublist.cons _ (List.Sublist.cons_cons _ (List.Sublist.cons_cons _ (List.nil_sublist _)))))), ?_⟩
          clear hKc Kc hB82
          generalize wa56.heap.size = gm at *
          generalize wa56.alloc _ = wb64 at *
          refine wpAnyE_all (rs := [1]) (by kernel_rfl) (by simp) (fun wa65 hwa65 hRwa65 i hi => ?_)
          have hB84 := hB83.next hwa65
          clear hB83 hwa65 hRwa65
          obtain rfl := List.mem_singleton.1 hi
          refine wpOp_step rfl (fun Kc hKc => ?_)
          have c_o4 := fun j => cell_of_row _ _ j _ _ _ (hB84.get 1 rfl)
          have z_o4 := hB84.lt 1 rfl
          go_simp
          refine hKc _ _ ⟨(hB84.keep (List.Sublist.cons _ (List.Sublist.cons _ (List.Sublist.cons_cons _ (List.Sublist.cons_cons _ (List.nil_sublist _)))))), ?_⟩
          clear hKc Kc
          clear c_o4 z_o4
          refine wpAnyE_all (rs := [9]) (by kernel_rfl) (by simp) (fun wa66 hwa66 hRwa66 i hi => ?_)
          have hB85 := hB84.next hwa66
          clear hB84 hwa66 hRwa66
          obtain rfl := List.mem_singleton.1 hi
          refine wpOp_step rfl (fun Kc hKc => ?_)
          refine step_append_any _ rfl (.tmp 50) (.tmp 57) 22 rfl w.heap.size 3 i0 (.int .i64 0) 1 8 Try.underlying22 hi0 hz0 hz1 hz2 rfl (by omega) vd (rDens K k).length (intsV (rDens K k)) rfl (hB85.row 0 rfl) _ (some ⟨gm, 0, none⟩) 1 1 [.int .i64 (gi K.dens (k - 1))] rfl (reads_one (hB85.get 0 rfl)) (one_one _) HB2.out.1 HB2.out.2 hB85.below.size ?_
          intro v3 wb67 hown hgr hat
          obtain ⟨A3, c3, rfl, _, _⟩ := own_nil_len hown
          have hB86 := hB85.grow 0 rfl hgr hown hat
          refine hKc _ _ ⟨(hB86.keep (List.Sublist.cons _ (List.Sublist.cons _ (List.Sublist.cons_cons _ (List.Sublist.cons_cons _ (List.nil_sublist _)))))), ?_⟩
          clear hKc Kc hB85 hown hgr hat
          refine wpAnyE_goR (Bx.grows _ _) (hB86.keep (List.Sublist.cons _ (List.Sublist.cons _ (List.Sublist.cons_cons _ (List.Sublist.cons_cons _ (List.nil_sublist _)))))) [10] 1 (by kernel_rfl) ?_
          apply Exists.intro
          refine ⟨fun G hG hN => ?_, ?_⟩
          · have c_out := fun (e : GE (Bx w [(gO, kO 0 (.slice none 0 0) (.slice none 0 0)), (w.heap.size, cB (some ad) c (some rd) d K)]) G) j => cell_of_row e.w _ j _ _ _ ((GE.h e).get 0 rfl)
            have z_out := fun (e : GE (Bx w [(gO, kO 0 (.slice none 0 0) (.slice none 0 0)), (w.heap.size, cB (some ad) c (some rd) d K)]) G) => (GE.h e).lt 0 rfl
            have c_K := fun (e : GE (Bx w [(gO, kO 0 (.slice none 0 0) (.slice none 0 0)), (w.heap.size, cB (some ad) c (some rd) d K)]) G) j => cell_of_row e.w _ j _ _ _ ((GE.h e).get 1 rfl)
            have z_K := fun (e : GE (Bx w [(gO, kO 0 (.slice none 0 0) (.slice none 0 0)), (w.heap.size, cB (some ad) c (some rd) d K)]) G) => (GE.h e).lt 1 rfl
            have fc := fun (e : GE (Bx w [(gO, kO 0 (.slice none 0 0) (.slice none 0 0)), (w.heap.size, cB (some ad) c (some rd) d K)]) G) => (HF.out e.w (GE.h e).below).1
            have fd := fun (e : GE (Bx w [(gO, kO 0 (.slice none 0 0) (.slice none 0 0)), (w.heap.size, cB (some ad) c (some rd) d K)]) G) => (HF.out e.w (GE.h e).below).2.1
            have fe := fun (e : GE (Bx w [(gO, kO 0 (.slice none 0 0) (.slice none 0 0)), (w.heap.size, cB (some ad) c (some rd) d K)]) G) => (HF.out e.w (GE.h e).below).2.2
            simp only [pickOps, List.getElem?_toArray, List.getElem?_cons_zero, List.getElem?_cons_succ]
            repeat (first | go_big_quiet_step (fail) | quiet_step (fail))
            exact wpQuiet_nil rfl
          refine wpAnyE_all (rs := [11]) (by kernel_rfl) (by simp) (fun wa68 hwa68 hRwa68 i hi => ?_)
          have hB87 := hB86.next hwa68
          clear hB86 hwa68 hRwa68
          obtain rfl := List.mem_singleton.1 hi
          refine wpOp_step rfl (fun Kc hKc => ?_)
          have c_o4 := fun j => cell_of_row _ _ j _ _ _ (hB87.get 1 rfl)
          have z_o4 := hB87.lt 1 rfl
          have f_o4 := fun j => frozen_of_row _ _ j _ _ (hB87.get 1 rfl)
          go_simp
          have hB88 := hB87.set 1 rfl 2 ((.slice A3 ((rDens K k).length + 1) c3))
          refine hKc _ _ ⟨(hB88.keep (List.Sublist.cons _ (List.Sublist.cons _ (List.Sublist.cons_cons _ (List.Sublist.cons_cons _ (List.nil_sublist _)))))), ?_⟩
          clear c_o4 z_o4 f_o4 hKc Kc hB87
          generalize wa68.setCell _ _ = wb69 at *
          refine wpAnyE_done (by kernel_rfl) (fun wd70 hwd70 hRwd70 => ?_) _
          refine NoPanic.normal ?_
          have hB89 := hB88.next hwd70
          clear hB88 hwd70 hRwd70
          have HZ := Lib.hid (show Mx w [(g4, kO K.len (.slice A2 ((rCuts K k).length + 1) c2) (.slice A3 ((rDens K k).length + 1) c3)), (gO, kO 0 (.slice none 0 0) (.slice none 0 0)), (w.heap.size, cB (some ad) c (some rd) d K)] [iR (.slice A3 ((rDens K k).length + 1) c3) (rDens K k ++ [gi K.dens (k - 1)]), iR (.slice A2 ((rCuts K k).length + 1) c2) (rCuts K k ++ [gi K.cuts k])] _ by
            have hz := hB89.drop
            have e : iR (.slice A3 ((rDens K k).length + 1) c3) (rDens K k ++ [gi K.dens (k - 1)]) = ⟨(.slice A3 ((rDens K k).length + 1) c3), 3, 1, (rDens K k).length + 1, intsV (rDens K k) ++ [.int .i64 (gi K.dens (k - 1))]⟩ := by simp
            rw [e]; exact hz)
          clear hB89
          go_wp2_with fail
          exact ⟨⟨k + 1, (.slice A2 ((rCuts K k).length + 1) c2), (.slice A3 ((rDens K k).length + 1) c3), HLE.out, by go_num, by rw [HY.out.1, HY.out.2]; exact HZ.out⟩, by simpa [intOf] using HME.out⟩
    have q1 : (gi K.dens k != gi K.dens (k - 1)) = false := by simpa using hd
    have HY := Lib.hid (rCuts_no (K := K) (k := k) (fun h => by have := h.1; rw [HKP.out] at this; exact (of_decide_eq_true this).elim hk0 hd))
    clear hd hk0
    have c_o4 := fun j => cell_of_row _ _ j _ _ _ (hMr.get 0 rfl)
    have z_o4 := hMr.lt 0 rfl
    have c_K := fun j => cell_of_row _ _ j _ _ _ (hMr.get 2 rfl)
    have z_K := hMr.lt 2 rfl
    go_upto_region 7 with fail
    clear c_o4 z_o4 c_K z_K
    refine wp_region_R (Bx w [(gO, kO 0 (.slice none 0 0) (.slice none 0 0)), (w.heap.size, cB (some ad) c (some rd) d K)]) 16 (by kernel_rfl) (by rfl) ((hMr.keep (List.Sublist.cons _ (List.Sublist.cons_cons _ (List.Sublist.cons_cons _ (List.nil_sublist _))))).drew) (fun wq71 hbq => ?_)
    have hB61 := hMr.next hbq
    clear hMr hbq
    refine wpAnyE_goR (Bx.grows _ _) (hB61.keep (List.Sublist.cons _ (List.Sublist.cons_cons _ (List.Sublist.cons_cons _ (List.nil_sublist _))))) [0, 1, 2, 3, 4, 5, 6, 7, 8, 9, 10, 11, 12, 13, 14, 15] 0 (by kernel_rfl) ?_
    apply Exists.intro
    refine ⟨fun G hG hN => ?_, ?_⟩
    · have c_out := fun (e : GE (Bx w [(gO, kO 0 (.slice none 0 0) (.slice none 0 0)), (w.heap.size, cB (some ad) c (some rd) d K)]) G) j => cell_of_row e.w _ j _ _ _ ((GE.h e).get 0 rfl)
      have z_out := fun (e : GE (Bx w [(gO, kO 0 (.slice none 0 0) (.slice none 0 0)), (w.heap.size, cB (some ad) c (some rd) d K)]) G) => (GE.h e).lt 0 rfl
      have c_K := fun (e : GE (Bx w [(gO, kO 0 (.slice none 0 0) (.slice none 0 0)), (w.heap.size, cB (some ad) c (some rd) d K)]) G) j => cell_of_row e.w _ j _ _ _ ((GE.h e).get 1 rfl)
      have z_K := fun (e : GE (Bx w [(gO, kO 0 (.slice none 0 0) (.slice none 0 0)), (w.heap.size, cB (some ad) c (some rd) d K)]) G) => (GE.h e).lt 1 rfl
      have fc := fun (e : GE (Bx w [(gO, kO 0 (.slice none 0 0) (.slice none 0 0)), (w.heap.size, cB (some ad) c (some rd) d K)]) G) => (HF.out e.w (GE.h e).below).1
      have fd := fun (e : GE (Bx w [(gO, kO 0 (.slice none 0 0) (.slice none 0 0)), (w.heap.size, cB (some ad) c (some rd) d K)]) G) => (HF.out e.w (GE.h e).below).2.1
      have fe := fun (e : GE (Bx w [(gO, kO 0 (.slice none 0 0) (.slice none 0 0)), (w.heap.size, cB (some ad) c (some rd) d K)]) G) => (HF.out e.w (GE.h e).below).2.2
      simp only [pickOps, List.getElem?_toArray, List.getElem?_cons_zero, List.getElem?_cons_succ]
      repeat (first | go_big_quiet_step (fail) | quiet_step (fail))
      exact wpQuiet_nil rfl
    refine wpAnyE_done (by kernel_rfl) (fun wd72 hwd72 hRwd72 => ?_) _
    refine NoPanic.normal ?_
    have hB62 := hB61.next hwd72
    clear hB61 hwd72 hRwd72
    have HZ := Lib.hid hB62
    clear hB62
    go_wp2_with fail
    exact ⟨⟨k + 1, vc, vd, HLE.out, by go_num, by rw [HY.out.1, HY.out.2]; exact HZ.out⟩, by simpa [intOf] using HME.out⟩
end Go.Proofs.Ytgcbmnohhbcfiaa
