/- A cake is copied. -/
import Derived.Test.YtgcbmnohhbcfiaaCkG
import Derived.Test.YtgcbmnohhbcfiaaFlowR
import Derived.Test.YtgcbmnohhbcfiaaCkR
namespace Go.Proofs.Ytgcbmnohhbcfiaa
open Go.RowKit Go.Deep
set_option linter.unusedVariables false
set_option linter.unusedSimpArgs false

abbrev kO (n : Int) (u v : Value) : Obj := .cells #[.int .i64 n, u, v] 24
abbrev kV (n : Int) (u v : Value) : Value := .agg #[.int .i64 n, u, v]
abbrev iR (v : Value) (l : List Int) : Rw := ⟨v, 3, 1, l.length, intsV l⟩
/-- The cake of two rows of the call's own. -/
structure KOwn (B : Nat) (w : World) (u v : Value) (K : Ck) : Prop where
  cu : w.ownsRow B 3 1 u K.cuts.length (intsV K.cuts)
  de : w.ownsRow B 3 1 v K.dens.length (intsV K.dens)
  w0 : -9223372036854775808 ≤ K.len
  w1 : K.len ≤ 9223372036854775807
theorem Mx.addI {w W W0 : World} {L : List (Nat × Obj)} {R : List Rw} (h : Mx w L R W0) (hb : Below W0.heap.size W0 W) {v : Value} {l : List Int} (ho : W.ownsRow W0.heap.size 3 1 v l.length (intsV l)) : Mx w L (iR v l :: R) W := h.addR hb (iR v l) ho
theorem own_nil_len {B : Nat} {w : World} {e : TypeId} {v : Value} {n size : Nat} {xs : List Value} (h : w.ownsRow B e size v n xs) : ∃ A c, v = .slice A n c ∧ n ≤ c ∧ c ≤ maxLen := by
  rcases h.2 with ⟨rfl, rfl⟩ | ⟨g, cap, cur, rfl, _, _, h1, h2, _⟩
  · exact ⟨none, 0, rfl, Nat.le_refl _, by unfold maxLen; omega⟩
  · exact ⟨_, cap, rfl, h1, h2⟩
theorem Ints.of_ownB {B : Nat} {w W : World} {A : Option Addr} {c : Nat} {l : List Int} (h : w.ownsRow B 3 1 (.slice A l.length c) l.length (intsV l)) (hs : w.heap.size ≤ W.heap.size) (hk : ∀ g, B ≤ g → g < w.heap.size → W.heap[g]? = w.heap[g]?) : Ints W.heap.size W A l := by
  have hW : W.ownsRow B 3 1 (.slice A l.length c) l.length (intsV l) := ownsRow_block h (fun g e => hk g (own_ge' h g e).1 (own_ge' h g e).2)
  exact (Ints.of_own hW).1
theorem KOwn.fresh {B : Nat} {w : World} {A R : Option Addr} {c d : Nat} {K : Ck} (h : KOwn B w (.slice A K.cuts.length c) (.slice R K.dens.length d) K) : Fresh B w (fun W => CIn W.heap.size W A c R d K) := fun W hs hk => by
  obtain ⟨_, _, e1, a1, a2⟩ := own_nil_len h.cu
  obtain ⟨_, _, e2, b1, b2⟩ := own_nil_len h.de
  obtain ⟨rfl, _, rfl⟩ := Value.slice.inj e1
  obtain ⟨rfl, _, rfl⟩ := Value.slice.inj e2
  exact ⟨Ints.of_ownB h.cu hs hk, Ints.of_ownB h.de hs hk, a1, a2, b1, b2, h.w0, h.w1⟩
theorem KOwn.shape {B : Nat} {w : World} {u v : Value} {K : Ck} (h : KOwn B w u v K) : ∃ A c R d, u = .slice A K.cuts.length c ∧ v = .slice R K.dens.length d := by
  obtain ⟨A, c, e1, _⟩ := own_nil_len h.cu
  obtain ⟨R, d, e2, _⟩ := own_nil_len h.de
  exact ⟨A, c, R, d, e1, e2⟩
set_option maxRecDepth 100000 in
set_option maxHeartbeats 16000000 in
theorem ctwin_any (K : Ck) (A : Option Addr) (c : Nat) (R : Option Addr) (d : Nat) (w : World) (h : CIn w.heap.size w A c R d K) (hm : K.big = false) :
    Calls Try.prog 16 #[cV A c R d K] w fun e w' => ∃ u v, e = .returned (kV K.len u v) ∧ KOwn w.heap.size w' u v K ∧ Below w.heap.size w w' := by
  obtain ⟨i0, hi0, hz0, hz1, hz2⟩ := info_parts info3
  have hb : K.cuts.length ≤ 60 ∧ K.dens.length ≤ 60 := by
    unfold Ck.big at hm; simp at hm; omega
  have l1 := hb.1
  have l2 := hb.2
  have HH := Lib.hid h
  have hM0 : Mx w [(w.heap.size + 1, kO 0 (.slice none 0 0) (.slice none 0 0)), (w.heap.size, cB A c R d K)] [] ((w.alloc (cB A c R d K)).alloc (kO 0 (.slice none 0 0) (.slice none 0 0))) :=
    ((Mx.of_bx (Bx.start w)).new rfl _).new (by simp) _
  clear h hb hm
  go_enter Try.func16, Try.ntmps16
  go_upto_region 1 with fail
  generalize hw0 : (w.alloc (cB A c R d K)).alloc (kO 0 (.slice none 0 0) (.slice none 0 0)) = w0 at *
  clear hw0
  generalize w.heap.size + 1 = gO at *
  go_wp2_with fail
  refine wp_region_R (Bx w [(w.heap.size, cB A c R d K)]) 12 (by kernel_rfl) (by rfl) ((hM0.keep (List.Sublist.cons _ (List.Sublist.cons_cons _ (List.nil_sublist _)))).drew) (fun wq1 hbq => ?_)
  have hB1 := hM0.next hbq
  clear hM0 hbq
  refine wpAnyE_goR (Bx.grows _ _) (hB1.keep (List.Sublist.cons _ (List.Sublist.cons_cons _ (List.nil_sublist _)))) [0, 1, 3, 4, 7, 8] 6 (by kernel_rfl) ?_
  apply Exists.intro
  refine ⟨fun G hG hN => ?_, ?_⟩
  · have c_K := fun (e : GE (Bx w [(w.heap.size, cB A c R d K)]) G) j => cell_of_row e.w _ j _ _ _ ((GE.h e).get 0 rfl)
    have z_K := fun (e : GE (Bx w [(w.heap.size, cB A c R d K)]) G) => (GE.h e).lt 0 rfl
    simp only [pickOps, List.getElem?_toArray, List.getElem?_cons_zero, List.getElem?_cons_succ]
    repeat (first | go_big_quiet_step (fail) | quiet_step (fail))
    exact wpQuiet_nil rfl
  refine wpAnyE_all (rs := [2, 6]) (by kernel_rfl) (by simp) (fun wa2 hwa2 hRwa2 i hi => ?_)
  have hB2 := hB1.next hwa2
  clear hB1 hwa2 hRwa2
  rcases List.mem_cons.1 hi with rfl | hi
  · refine wpOp_step rfl (fun Kc hKc => ?_)
    go_simp
    have hB3 := hB2.addR (one_alloc wa2 (.cells #[] 3)) ⟨.slice (some ⟨wa2.heap.size, 0, none⟩) 0 0, 3, 1, 0, []⟩ (World.ownsRow_lit wa2 #[] 0 (Nat.le_refl _) (by unfold maxLen; omega) rfl)
    refine hKc _ _ ⟨(hB3.keep (List.Sublist.cons _ (List.Sublist.cons_cons _ (List.nil_sublist _)))), ?_⟩
    clear hKc Kc hB2
    generalize wa2.heap.size = g1 at *
    generalize wa2.alloc _ = wb3 at *
    refine wpAnyE_all (rs := [5, 6]) (by kernel_rfl) (by simp) (fun wa4 hwa4 hRwa4 i hi => ?_)
    have hB4 := hB3.next hwa4
    clear hB3 hwa4 hRwa4
    rcases List.mem_cons.1 hi with rfl | hi
    · refine wpOp_step rfl (fun Kc hKc => ?_)
      refine step_append_any _ rfl (.tmp 5) (.tmp 7) 22 rfl w.heap.size 3 i0 (.int .i64 0) 1 8 Try.underlying22 hi0 hz0 hz1 hz2 rfl (by omega) (.slice (some ⟨g1, 0, none⟩) 0 0) 0 [] rfl (hB4.row 0 rfl) _ A K.cuts.length c (intsV K.cuts) rfl (HH.out.next hB4.below).cuts.reads (one_cells _) (by unfold maxLen; omega) (by omega) hB4.below.size ?_
      intro v1 wb5 hown hgr hat
      have hB5 := hB4.grow 0 rfl hgr hown hat
      refine hKc _ _ ⟨(hB5.keep (List.Sublist.cons _ (List.Sublist.cons_cons _ (List.nil_sublist _)))), ?_⟩
      clear hKc Kc hB4 hown hgr hat
      refine wpAnyE_all (rs := [6]) (by kernel_rfl) (by simp) (fun wa6 hwa6 hRwa6 i hi => ?_)
      have hB6 := hB5.next hwa6
      clear hB5 hwa6 hRwa6
      obtain rfl := List.mem_singleton.1 hi
      refine wpOp_step rfl (fun Kc hKc => ?_)
      go_simp
      have hB7 := hB6.addR (one_alloc wa6 (.cells #[] 3)) ⟨.slice (some ⟨wa6.heap.size, 0, none⟩) 0 0, 3, 1, 0, []⟩ (World.ownsRow_lit wa6 #[] 0 (Nat.le_refl _) (by unfold maxLen; omega) rfl)
      refine hKc _ _ ⟨(hB7.keep (List.Sublist.cons _ (List.Sublist.cons_cons _ (List.nil_sublist _)))), ?_⟩
      clear hKc Kc hB6
      generalize wa6.heap.size = g2 at *
      generalize wa6.alloc _ = wb7 at *
      refine wpAnyE_all (rs := [9]) (by kernel_rfl) (by simp) (fun wa8 hwa8 hRwa8 i hi => ?_)
      have hB8 := hB7.next hwa8
      clear hB7 hwa8 hRwa8
      obtain rfl := List.mem_singleton.1 hi
      refine wpOp_step rfl (fun Kc hKc => ?_)
      refine step_append_any _ rfl (.tmp 9) (.tmp 11) 22 rfl w.heap.size 3 i0 (.int .i64 0) 1 8 Try.underlying22 hi0 hz0 hz1 hz2 rfl (by omega) (.slice (some ⟨g2, 0, none⟩) 0 0) 0 [] rfl (hB8.row 0 rfl) _ R K.dens.length d (intsV K.dens) rfl (HH.out.next hB8.below).dens.reads (one_cells _) (by unfold maxLen; omega) (by omega) hB8.below.size ?_
      intro v2 wb9 hown hgr hat
      have hB9 := hB8.grow 0 rfl hgr hown hat
      refine hKc _ _ ⟨(hB9.keep (List.Sublist.cons _ (List.Sublist.cons_cons _ (List.nil_sublist _)))), ?_⟩
      clear hKc Kc hB8 hown hgr hat
      refine wpAnyE_all (rs := [10]) (by kernel_rfl) (by simp) (fun wa10 hwa10 hRwa10 i hi => ?_)
      have hB10 := hB9.next hwa10
      clear hB9 hwa10 hRwa10
      obtain rfl := List.mem_singleton.1 hi
      refine wpOp_step rfl (fun Kc hKc => ?_)
      obtain ⟨A1, c1, e1, _, _⟩ := own_nil_len (hB10.row 1 rfl)
      simp only at e1
      subst e1
      obtain ⟨A2, c2, e2, _, _⟩ := own_nil_len (hB10.row 0 rfl)
      simp only at e2
      subst e2
      go_simp
      refine hKc _ _ ⟨(hB10.keep (List.Sublist.cons _ (List.Sublist.cons_cons _ (List.nil_sublist _)))), ?_⟩
      clear hKc Kc
      refine wpAnyE_all (rs := [11]) (by kernel_rfl) (by simp) (fun wa11 hwa11 hRwa11 i hi => ?_)
      have hB11 := hB10.next hwa11
      clear hB10 hwa11 hRwa11
      obtain rfl := List.mem_singleton.1 hi
      refine wpOp_step rfl (fun Kc hKc => ?_)
      have c_out := fun j => cell_of_row _ _ j _ _ _ (hB11.get 0 rfl)
      have z_out := hB11.lt 0 rfl
      have f_out := fun j => frozen_of_row _ _ j _ _ (hB11.get 0 rfl)
      go_simp
      have hB12 := hB11.put3 0 rfl (.int .i64 K.len) (.slice A1 K.cuts.length c1) (.slice A2 K.dens.length c2)
      refine hKc _ _ ⟨(hB12.keep (List.Sublist.cons _ (List.Sublist.cons_cons _ (List.nil_sublist _)))), ?_⟩
      clear c_out z_out f_out hKc Kc hB11
      generalize ((wa11.setCell _ _).setCell _ _).setCell _ _ = wb12 at *
      refine wpAnyE_done (by kernel_rfl) (fun wd13 hwd13 hRwd13 => ?_) _
      refine NoPanic.normal ?_
      have hB13 := hB12.next hwd13
      clear hB12 hwd13 hRwd13
      have HO1 := hB13.row 1 rfl
      have HO2 := hB13.row 0 rfl
      simp only [Nat.zero_add, List.nil_append] at HO1 HO2
      have HE := Lib.hid (show KOwn w.heap.size _ (.slice A1 K.cuts.length c1) (.slice A2 K.dens.length c2) K from ⟨HO1, HO2, HH.out.w0, HH.out.w1⟩)
      have HBw := Lib.hid hB13.below
      clear HO1 HO2
      have c_out := fun j => cell_of_row _ _ j _ _ _ (hB13.get 0 rfl)
      have z_out := hB13.lt 0 rfl
      have f_out := fun j => frozen_of_row _ _ j _ _ (hB13.get 0 rfl)
      clear hB13
      go_wp2_with fail
      refine bodyPost_ret (v := kV K.len (.slice A1 K.cuts.length c1) (.slice A2 K.dens.length c2)) (by simp [results, Try.results16, go_sem, c_out, f_out, z_out]) rfl ?_
      exact ⟨_, _, rfl, HE.out, HBw.out⟩
    · obtain rfl := List.mem_singleton.1 hi
      refine wpOp_step rfl (fun Kc hKc => ?_)
      go_simp
      have hB5 := hB4.addR (one_alloc wa4 (.cells #[] 3)) ⟨.slice (some ⟨wa4.heap.size, 0, none⟩) 0 0, 3, 1, 0, []⟩ (World.ownsRow_lit wa4 #[] 0 (Nat.le_refl _) (by unfold maxLen; omega) rfl)
      refine hKc _ _ ⟨(hB5.keep (List.Sublist.cons _ (List.Sublist.cons_cons _ (List.nil_sublist _)))), ?_⟩
      clear hKc Kc hB4
      generalize wa4.heap.size = g2 at *
      generalize wa4.alloc _ = wb14 at *
      refine wpAnyE_all (rs := [5]) (by kernel_rfl) (by simp) (fun wa15 hwa15 hRwa15 i hi => ?_)
      have hB6 := hB5.next hwa15
      clear hB5 hwa15 hRwa15
      obtain rfl := List.mem_singleton.1 hi
      refine wpOp_step rfl (fun Kc hKc => ?_)
      refine step_append_any _ rfl (.tmp 5) (.tmp 7) 22 rfl w.heap.size 3 i0 (.int .i64 0) 1 8 Try.underlying22 hi0 hz0 hz1 hz2 rfl (by omega) (.slice (some ⟨g1, 0, none⟩) 0 0) 0 [] rfl (hB6.row 1 rfl) _ A K.cuts.length c (intsV K.cuts) rfl (HH.out.next hB6.below).cuts.reads (one_cells _) (by unfold maxLen; omega) (by omega) hB6.below.size ?_
      intro v1 wb16 hown hgr hat
      have hB7 := hB6.grow 1 rfl hgr hown hat
      refine hKc _ _ ⟨(hB7.keep (List.Sublist.cons _ (List.Sublist.cons_cons _ (List.nil_sublist _)))), ?_⟩
      clear hKc Kc hB6 hown hgr hat
      refine wpAnyE_all (rs := [9]) (by kernel_rfl) (by simp) (fun wa17 hwa17 hRwa17 i hi => ?_)
      have hB8 := hB7.next hwa17
      clear hB7 hwa17 hRwa17
      obtain rfl := List.mem_singleton.1 hi
      refine wpOp_step rfl (fun Kc hKc => ?_)
      refine step_append_any _ rfl (.tmp 9) (.tmp 11) 22 rfl w.heap.size 3 i0 (.int .i64 0) 1 8 Try.underlying22 hi0 hz0 hz1 hz2 rfl (by omega) (.slice (some ⟨g2, 0, none⟩) 0 0) 0 [] rfl (hB8.row 0 rfl) _ R K.dens.length d (intsV K.dens) rfl (HH.out.next hB8.below).dens.reads (one_cells _) (by unfold maxLen; omega) (by omega) hB8.below.size ?_
      intro v2 wb18 hown hgr hat
      have hB9 := hB8.grow 0 rfl hgr hown hat
      refine hKc _ _ ⟨(hB9.keep (List.Sublist.cons _ (List.Sublist.cons_cons _ (List.nil_sublist _)))), ?_⟩
      clear hKc Kc hB8 hown hgr hat
      refine wpAnyE_all (rs := [10]) (by kernel_rfl) (by simp) (fun wa19 hwa19 hRwa19 i hi => ?_)
      have hB10 := hB9.next hwa19
      clear hB9 hwa19 hRwa19
      obtain rfl := List.mem_singleton.1 hi
      refine wpOp_step rfl (fun Kc hKc => ?_)
      obtain ⟨A1, c1, e1, _, _⟩ := own_nil_len (hB10.row 1 rfl)
      simp only at e1
      subst e1
      obtain ⟨A2, c2, e2, _, _⟩ := own_nil_len (hB10.row 0 rfl)
      simp only at e2
      subst e2
      go_simp
      refine hKc _ _ ⟨(hB10.keep (List.Sublist.cons _ (List.Sublist.cons_cons _ (List.nil_sublist _)))), ?_⟩
      clear hKc Kc
      refine wpAnyE_all (rs := [11]) (by kernel_rfl) (by simp) (fun wa20 hwa20 hRwa20 i hi => ?_)
      have hB11 := hB10.next hwa20
      clear hB10 hwa20 hRwa20
      obtain rfl := List.mem_singleton.1 hi
      refine wpOp_step rfl (fun Kc hKc => ?_)
      have c_out := fun j => cell_of_row _ _ j _ _ _ (hB11.get 0 rfl)
      have z_out := hB11.lt 0 rfl
      have f_out := fun j => frozen_of_row _ _ j _ _ (hB11.get 0 rfl)
      go_simp
      have hB12 := hB11.put3 0 rfl (.int .i64 K.len) (.slice A1 K.cuts.length c1) (.slice A2 K.dens.length c2)
      refine hKc _ _ ⟨(hB12.keep (List.Sublist.cons _ (List.Sublist.cons_cons _ (List.nil_sublist _)))), ?_⟩
      clear c_out z_out f_out hKc Kc hB11
      generalize ((wa20.setCell _ _).setCell _ _).setCell _ _ = wb21 at *
      refine wpAnyE_done (by kernel_rfl) (fun wd22 hwd22 hRwd22 => ?_) _
      refine NoPanic.normal ?_
      have hB13 := hB12.next hwd22
      clear hB12 hwd22 hRwd22
      have HO1 := hB13.row 1 rfl
      have HO2 := hB13.row 0 rfl
      simp only [Nat.zero_add, List.nil_append] at HO1 HO2
      have HE := Lib.hid (show KOwn w.heap.size _ (.slice A1 K.cuts.length c1) (.slice A2 K.dens.length c2) K from ⟨HO1, HO2, HH.out.w0, HH.out.w1⟩)
      have HBw := Lib.hid hB13.below
      clear HO1 HO2
      have c_out := fun j => cell_of_row _ _ j _ _ _ (hB13.get 0 rfl)
      have z_out := hB13.lt 0 rfl
      have f_out := fun j => frozen_of_row _ _ j _ _ (hB13.get 0 rfl)
      clear hB13
      go_wp2_with fail
      refine bodyPost_ret (v := kV K.len (.slice A1 K.cuts.length c1) (.slice A2 K.dens.length c2)) (by simp [results, Try.results16, go_sem, c_out, f_out, z_out]) rfl ?_
      exact ⟨_, _, rfl, HE.out, HBw.out⟩
  · obtain rfl := List.mem_singleton.1 hi
    refine wpOp_step rfl (fun Kc hKc => ?_)
    go_simp
    have hB3 := hB2.addR (one_alloc wa2 (.cells #[] 3)) ⟨.slice (some ⟨wa2.heap.size, 0, none⟩) 0 0, 3, 1, 0, []⟩ (World.ownsRow_lit wa2 #[] 0 (Nat.le_refl _) (by unfold maxLen; omega) rfl)
    refine hKc _ _ ⟨(hB3.keep (List.Sublist.cons _ (List.Sublist.cons_cons _ (List.nil_sublist _)))), ?_⟩
    clear hKc Kc hB2
    generalize wa2.heap.size = g2 at *
    generalize wa2.alloc _ = wb23 at *
    refine wpAnyE_all (rs := [2]) (by kernel_rfl) (by simp) (fun wa24 hwa24 hRwa24 i hi => ?_)
    have hB4 := hB3.next hwa24
    clear hB3 hwa24 hRwa24
    obtain rfl := List.mem_singleton.1 hi
    refine wpOp_step rfl (fun Kc hKc => ?_)
    go_simp
    have hB5 := hB4.addR (one_alloc wa24 (.cells #[] 3)) ⟨.slice (some ⟨wa24.heap.size, 0, none⟩) 0 0, 3, 1, 0, []⟩ (World.ownsRow_lit wa24 #[] 0 (Nat.le_refl _) (by unfold maxLen; omega) rfl)
    refine hKc _ _ ⟨(hB5.keep (List.Sublist.cons _ (List.Sublist.cons_cons _ (List.nil_sublist _)))), ?_⟩
    clear hKc Kc hB4
    generalize wa24.heap.size = g1 at *
    generalize wa24.alloc _ = wb25 at *
    refine wpAnyE_all (rs := [5]) (by kernel_rfl) (by simp) (fun wa26 hwa26 hRwa26 i hi => ?_)
    have hB6 := hB5.next hwa26
    clear hB5 hwa26 hRwa26
    obtain rfl := List.mem_singleton.1 hi
    refine wpOp_step rfl (fun Kc hKc => ?_)
    refine step_append_any _ rfl (.tmp 5) (.tmp 7) 22 rfl w.heap.size 3 i0 (.int .i64 0) 1 8 Try.underlying22 hi0 hz0 hz1 hz2 rfl (by omega) (.slice (some ⟨g1, 0, none⟩) 0 0) 0 [] rfl (hB6.row 0 rfl) _ A K.cuts.length c (intsV K.cuts) rfl (HH.out.next hB6.below).cuts.reads (one_cells _) (by unfold maxLen; omega) (by omega) hB6.below.size ?_
    intro v1 wb27 hown hgr hat
    have hB7 := hB6.grow 0 rfl hgr hown hat
    refine hKc _ _ ⟨(hB7.keep (List.Sublist.cons _ (List.Sublist.cons_cons _ (List.nil_sublist _)))), ?_⟩
    clear hKc Kc hB6 hown hgr hat
    refine wpAnyE_all (rs := [9]) (by kernel_rfl) (by simp) (fun wa28 hwa28 hRwa28 i hi => ?_)
    have hB8 := hB7.next hwa28
    clear hB7 hwa28 hRwa28
    obtain rfl := List.mem_singleton.1 hi
    refine wpOp_step rfl (fun Kc hKc => ?_)
    refine step_append_any _ rfl (.tmp 9) (.tmp 11) 22 rfl w.heap.size 3 i0 (.int .i64 0) 1 8 Try.underlying22 hi0 hz0 hz1 hz2 rfl (by omega) (.slice (some ⟨g2, 0, none⟩) 0 0) 0 [] rfl (hB8.row 1 rfl) _ R K.dens.length d (intsV K.dens) rfl (HH.out.next hB8.below).dens.reads (one_cells _) (by unfold maxLen; omega) (by omega) hB8.below.size ?_
    intro v2 wb29 hown hgr hat
    have hB9 := hB8.grow 1 rfl hgr hown hat
    refine hKc _ _ ⟨(hB9.keep (List.Sublist.cons _ (List.Sublist.cons_cons _ (List.nil_sublist _)))), ?_⟩
    clear hKc Kc hB8 hown hgr hat
    refine wpAnyE_all (rs := [10]) (by kernel_rfl) (by simp) (fun wa30 hwa30 hRwa30 i hi => ?_)
    have hB10 := hB9.next hwa30
    clear hB9 hwa30 hRwa30
    obtain rfl := List.mem_singleton.1 hi
    refine wpOp_step rfl (fun Kc hKc => ?_)
    obtain ⟨A1, c1, e1, _, _⟩ := own_nil_len (hB10.row 0 rfl)
    simp only at e1
    subst e1
    obtain ⟨A2, c2, e2, _, _⟩ := own_nil_len (hB10.row 1 rfl)
    simp only at e2
    subst e2
    go_simp
    refine hKc _ _ ⟨(hB10.keep (List.Sublist.cons _ (List.Sublist.cons_cons _ (List.nil_sublist _)))), ?_⟩
    clear hKc Kc
    refine wpAnyE_all (rs := [11]) (by kernel_rfl) (by simp) (fun wa31 hwa31 hRwa31 i hi => ?_)
    have hB11 := hB10.next hwa31
    clear hB10 hwa31 hRwa31
    obtain rfl := List.mem_singleton.1 hi
    refine wpOp_step rfl (fun Kc hKc => ?_)
    have c_out := fun j => cell_of_row _ _ j _ _ _ (hB11.get 0 rfl)
    have z_out := hB11.lt 0 rfl
    have f_out := fun j => frozen_of_row _ _ j _ _ (hB11.get 0 rfl)
    go_simp
    have hB12 := hB11.put3 0 rfl (.int .i64 K.len) (.slice A1 K.cuts.length c1) (.slice A2 K.dens.length c2)
    refine hKc _ _ ⟨(hB12.keep (List.Sublist.cons _ (List.Sublist.cons_cons _ (List.nil_sublist _)))), ?_⟩
    clear c_out z_out f_out hKc Kc hB11
    generalize ((wa31.setCell _ _).setCell _ _).setCell _ _ = wb32 at *
    refine wpAnyE_done (by kernel_rfl) (fun wd33 hwd33 hRwd33 => ?_) _
    refine NoPanic.normal ?_
    have hB13 := hB12.next hwd33
    clear hB12 hwd33 hRwd33
    have HO1 := hB13.row 0 rfl
    have HO2 := hB13.row 1 rfl
    simp only [Nat.zero_add, List.nil_append] at HO1 HO2
    have HE := Lib.hid (show KOwn w.heap.size _ (.slice A1 K.cuts.length c1) (.slice A2 K.dens.length c2) K from ⟨HO1, HO2, HH.out.w0, HH.out.w1⟩)
    have HBw := Lib.hid hB13.below
    clear HO1 HO2
    have c_out := fun j => cell_of_row _ _ j _ _ _ (hB13.get 0 rfl)
    have z_out := hB13.lt 0 rfl
    have f_out := fun j => frozen_of_row _ _ j _ _ (hB13.get 0 rfl)
    clear hB13
    go_wp2_with fail
    refine bodyPost_ret (v := kV K.len (.slice A1 K.cuts.length c1) (.slice A2 K.dens.length c2)) (by simp [results, Try.results16, go_sem, c_out, f_out, z_out]) rfl ?_
    exact ⟨_, _, rfl, HE.out, HBw.out⟩
end Go.Proofs.Ytgcbmnohhbcfiaa
