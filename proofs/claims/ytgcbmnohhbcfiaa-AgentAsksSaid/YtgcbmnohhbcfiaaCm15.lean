/- An agent of a desk is asked. -/
import Derived.Test.YtgcbmnohhbcfiaaCn1
import Derived.Test.YtgcbmnohhbcfiaaCkX
import Derived.Test.YtgcbmnohhbcfiaaCm12
namespace Go.Proofs.Ytgcbmnohhbcfiaa
open Go.RowKit Go.Deep
set_option linter.unusedVariables false
set_option linter.unusedSimpArgs false

abbrev oB (A : Option Addr) (c : Nat) (ks : List Ck) (B : Option Addr) (d : Nat) (l : List Qy) : Obj := .cells #[.slice A ks.length c, .slice B l.length d] 149
set_option maxRecDepth 100000 in
set_option maxHeartbeats 16000000 in
theorem ovalue_any (ks : List Ck) (A : Option Addr) (c : Nat) (l : List Qy) (B : Option Addr) (d : Nat) (k : Nat) (K : Ck) (hK : ks[k]? = some K) (a b : Rt) (ha : a.wf) (hb : b.wf) (w : World) (h : CsIn w.heap.size w A c ks) :
    Calls Try.prog 110 #[dV A c ks B d l, .int .i64 k, rV a, rV b] w fun e w' => e = .returned (.tuple #[rV (K.val a b), .int .i64 (K.valC a b)]) ∧ Below w.heap.size w w' := by
  have hM0 : Mx w [(w.heap.size + 1 + 1 + 1, rB ⟨0, 0⟩), (w.heap.size + 1 + 1, rB b), (w.heap.size + 1, rB a), (w.heap.size, oB A c ks B d l)] [] ((((w.alloc (oB A c ks B d l)).alloc (rB a)).alloc (rB b)).alloc (rB ⟨0, 0⟩)) :=
    ((((Mx.of_bx (Bx.start w)).new rfl _).new (by simp) _).new (by simp) _).new (by simp) _
  have hlt : k < ks.length := by
    rcases Nat.lt_or_ge k ks.length with q | q
    · exact q
    · rw [List.getElem?_eq_none q] at hK; cases hK
  have hm := Nat.le_trans h.len h.cap
  unfold maxLen at hm
  obtain ⟨z1, z2, z3, z4⟩ := idx_facts hlt hm
  obtain ⟨ad, P, p, R, r, rfl, hbA, hC, d0, d1, d2⟩ := h.cake hK
  have hb1 : (ad.add (k * 3)).block < w.heap.size := by rw [block_add]; exact hbA
  have HC := Lib.hid (fun (W : World) (hW : Below w.heap.size w W) => cvalue_any K P p R r a b ha hb W (hC.next hW))
  have HF := Lib.hid (fun (W : World) (hW : Below w.heap.size w W) => show W.cell? (ad.add (k * 3)) = some (.int .i64 K.len) ∧ W.cell? ⟨(ad.add (k * 3)).block, (ad.add (k * 3)).off + 1, none⟩ = some (.slice P K.cuts.length p) ∧ W.cell? ⟨(ad.add (k * 3)).block, (ad.add (k * 3)).off + 2, none⟩ = some (.slice R K.dens.length r) from
    ⟨(hW.cell hb1).trans d0, (hW.cell (p := ⟨(ad.add (k * 3)).block, (ad.add (k * 3)).off + 1, none⟩) hb1).trans d1, (hW.cell (p := ⟨(ad.add (k * 3)).block, (ad.add (k * 3)).off + 2, none⟩) hb1).trans d2⟩)
  obtain ⟨v, hv⟩ : ∃ v, v = K.val a b := ⟨_, rfl⟩
  obtain ⟨x, hx⟩ : ∃ x, x = K.valC a b := ⟨_, rfl⟩
  rw [← hv, ← hx] at HC
  rw [← hv, ← hx]
  clear hlt hm z3 z4 hbA hC d0 d1 d2 hb1 h ha hb hK hv hx
  go_enter Try.func110, Try.ntmps110
  go_upto_region 1 with fail
  generalize hw0 : (((w.alloc (oB (some ad) c ks B d l)).alloc (rB a)).alloc (rB b)).alloc (rB ⟨0, 0⟩) = w0 at *
  clear hw0
  generalize w.heap.size + 1 + 1 + 1 = gO at *
  generalize w.heap.size + 1 + 1 = gB at *
  generalize w.heap.size + 1 = gA at *
  refine wp_region_T (Bx w [(gB, rB b), (gA, rB a), (w.heap.size, oB (some ad) c ks B d l)]) 13 (by kernel_rfl) (by rfl) ((hM0.keep (List.Sublist.cons _ (List.Sublist.cons_cons _ (List.Sublist.cons_cons _ (List.Sublist.cons_cons _ (List.nil_sublist _)))))).drew) (fun wq1 hbq => ?_)
  have hB1 := hM0.next hbq
  clear hM0 hbq
  refine wpAnyT_go (Bx.grows _ _) (hB1.keep (List.Sublist.cons _ (List.Sublist.cons_cons _ (List.Sublist.cons_cons _ (List.Sublist.cons_cons _ (List.nil_sublist _)))))) [0, 1, 2, 3, 4, 5, 6, 7, 8, 9, 10] 2 (by kernel_rfl) ?_
  apply Exists.intro
  refine ⟨fun G hG hN => ?_, ?_⟩
  · have c_b := fun (e : GE (Bx w [(gB, rB b), (gA, rB a), (w.heap.size, oB (some ad) c ks B d l)]) G) j => cell_of_row e.w _ j _ _ _ ((GE.h e).get 0 rfl)
    have z_b := fun (e : GE (Bx w [(gB, rB b), (gA, rB a), (w.heap.size, oB (some ad) c ks B d l)]) G) => (GE.h e).lt 0 rfl
    have c_a := fun (e : GE (Bx w [(gB, rB b), (gA, rB a), (w.heap.size, oB (some ad) c ks B d l)]) G) j => cell_of_row e.w _ j _ _ _ ((GE.h e).get 1 rfl)
    have z_a := fun (e : GE (Bx w [(gB, rB b), (gA, rB a), (w.heap.size, oB (some ad) c ks B d l)]) G) => (GE.h e).lt 1 rfl
    have c_o := fun (e : GE (Bx w [(gB, rB b), (gA, rB a), (w.heap.size, oB (some ad) c ks B d l)]) G) j => cell_of_row e.w _ j _ _ _ ((GE.h e).get 2 rfl)
    have z_o := fun (e : GE (Bx w [(gB, rB b), (gA, rB a), (w.heap.size, oB (some ad) c ks B d l)]) G) => (GE.h e).lt 2 rfl
    have fc := fun (e : GE (Bx w [(gB, rB b), (gA, rB a), (w.heap.size, oB (some ad) c ks B d l)]) G) => (HF.out e.w (GE.h e).below).1
    have fd := fun (e : GE (Bx w [(gB, rB b), (gA, rB a), (w.heap.size, oB (some ad) c ks B d l)]) G) => (HF.out e.w (GE.h e).below).2.1
    have fe := fun (e : GE (Bx w [(gB, rB b), (gA, rB a), (w.heap.size, oB (some ad) c ks B d l)]) G) => (HF.out e.w (GE.h e).below).2.2
    simp only [pickOps, List.getElem?_toArray, List.getElem?_cons_zero, List.getElem?_cons_succ]
    repeat (first | go_big_quiet_step ((first | (go_at_call 33; exact calls_ge (Bx.grows _ _) hG (HC.out _ (Bx.below (GE.h _)))))) | quiet_step ((first | (go_at_call 33; exact calls_ge (Bx.grows _ _) hG (HC.out _ (Bx.below (GE.h _)))))))
    exact wpQuiet_nil rfl
  refine wpAnyT_all (rs := [11]) (by kernel_rfl) (by simp) (fun wa2 hwa2 hRwa2 i hi => ?_)
  have hB2 := hB1.next hwa2
  clear hB1 hwa2 hRwa2
  obtain rfl := List.mem_singleton.1 hi
  refine wpOp_step rfl (fun Kc hKc => ?_)
  have c_out := fun j => cell_of_row _ _ j _ _ _ (hB2.get 0 rfl)
  have z_out := hB2.lt 0 rfl
  have f_out := fun j => frozen_of_row _ _ j _ _ (hB2.get 0 rfl)
  go_simp
  have hB3 := hB2.put 0 rfl (v)
  refine hKc _ _ ⟨(hB3.keep (List.Sublist.cons _ (List.Sublist.cons_cons _ (List.Sublist.cons_cons _ (List.Sublist.cons_cons _ (List.nil_sublist _)))))), ?_⟩
  clear c_out z_out f_out hKc Kc hB2
  generalize (wa2.setCell _ _).setCell _ _ = wb3 at *
  refine wpAnyT_go (Bx.grows _ _) (hB3.keep (List.Sublist.cons _ (List.Sublist.cons_cons _ (List.Sublist.cons_cons _ (List.Sublist.cons_cons _ (List.nil_sublist _)))))) [12] 0 (by kernel_rfl) ?_
  apply Exists.intro
  refine ⟨fun G hG hN => ?_, ?_⟩
  · have c_b := fun (e : GE (Bx w [(gB, rB b), (gA, rB a), (w.heap.size, oB (some ad) c ks B d l)]) G) j => cell_of_row e.w _ j _ _ _ ((GE.h e).get 0 rfl)
    have z_b := fun (e : GE (Bx w [(gB, rB b), (gA, rB a), (w.heap.size, oB (some ad) c ks B d l)]) G) => (GE.h e).lt 0 rfl
    have c_a := fun (e : GE (Bx w [(gB, rB b), (gA, rB a), (w.heap.size, oB (some ad) c ks B d l)]) G) j => cell_of_row e.w _ j _ _ _ ((GE.h e).get 1 rfl)
    have z_a := fun (e : GE (Bx w [(gB, rB b), (gA, rB a), (w.heap.size, oB (some ad) c ks B d l)]) G) => (GE.h e).lt 1 rfl
    have c_o := fun (e : GE (Bx w [(gB, rB b), (gA, rB a), (w.heap.size, oB (some ad) c ks B d l)]) G) j => cell_of_row e.w _ j _ _ _ ((GE.h e).get 2 rfl)
    have z_o := fun (e : GE (Bx w [(gB, rB b), (gA, rB a), (w.heap.size, oB (some ad) c ks B d l)]) G) => (GE.h e).lt 2 rfl
    have fc := fun (e : GE (Bx w [(gB, rB b), (gA, rB a), (w.heap.size, oB (some ad) c ks B d l)]) G) => (HF.out e.w (GE.h e).below).1
    have fd := fun (e : GE (Bx w [(gB, rB b), (gA, rB a), (w.heap.size, oB (some ad) c ks B d l)]) G) => (HF.out e.w (GE.h e).below).2.1
    have fe := fun (e : GE (Bx w [(gB, rB b), (gA, rB a), (w.heap.size, oB (some ad) c ks B d l)]) G) => (HF.out e.w (GE.h e).below).2.2
    simp only [pickOps, List.getElem?_toArray, List.getElem?_cons_zero, List.getElem?_cons_succ]
    repeat (first | go_big_quiet_step ((first | (go_at_call 33; exact calls_ge (Bx.grows _ _) hG (HC.out _ (Bx.below (GE.h _)))))) | quiet_step ((first | (go_at_call 33; exact calls_ge (Bx.grows _ _) hG (HC.out _ (Bx.below (GE.h _)))))))
    exact wpQuiet_nil rfl
  refine wpAnyT_done (by kernel_rfl) (fun wd4 hwd4 hRwd4 => ?_) _
  refine NoPanic.normal ?_
  have hB4 := hB3.next hwd4
  clear hB3 hwd4 hRwd4
  have c_out := fun j => cell_of_row _ _ j _ _ _ (hB4.get 0 rfl)
  have z_out := hB4.lt 0 rfl
  have f_out := fun j => frozen_of_row _ _ j _ _ (hB4.get 0 rfl)
  have HB := Lib.hid hB4.below
  clear hB4
  go_wp2_with fail
  refine bodyPost_ret (v := .tuple #[rV v, .int .i64 x]) (by simp [results, Try.results110, go_sem, c_out, f_out, z_out]) rfl ?_
  exact ⟨rfl, HB.out⟩
set_option maxRecDepth 100000 in
set_option maxHeartbeats 16000000 in
theorem omark_any (ks : List Ck) (A : Option Addr) (c : Nat) (l : List Qy) (B : Option Addr) (d : Nat) (k : Nat) (K : Ck) (hK : ks[k]? = some K) (a b : Rt) (ha : a.wf) (hb : b.wf) (w : World) (h : CsIn w.heap.size w A c ks) :
    Calls Try.prog 111 #[dV A c ks B d l, .int .i64 k, rV a, rV b] w fun e w' => e = .returned (.tuple #[rV (K.mark a b), .int .i64 (K.markC a b)]) ∧ Below w.heap.size w w' := by
  have hM0 : Mx w [(w.heap.size + 1 + 1 + 1, rB ⟨0, 0⟩), (w.heap.size + 1 + 1, rB b), (w.heap.size + 1, rB a), (w.heap.size, oB A c ks B d l)] [] ((((w.alloc (oB A c ks B d l)).alloc (rB a)).alloc (rB b)).alloc (rB ⟨0, 0⟩)) :=
    ((((Mx.of_bx (Bx.start w)).new rfl _).new (by simp) _).new (by simp) _).new (by simp) _
  have hlt : k < ks.length := by
    rcases Nat.lt_or_ge k ks.length with q | q
    · exact q
    · rw [List.getElem?_eq_none q] at hK; cases hK
  have hm := Nat.le_trans h.len h.cap
  unfold maxLen at hm
  obtain ⟨z1, z2, z3, z4⟩ := idx_facts hlt hm
  obtain ⟨ad, P, p, R, r, rfl, hbA, hC, d0, d1, d2⟩ := h.cake hK
  have hb1 : (ad.add (k * 3)).block < w.heap.size := by rw [block_add]; exact hbA
  have HC := Lib.hid (fun (W : World) (hW : Below w.heap.size w W) => cmark_any K P p R r a b ha hb W (hC.next hW))
  have HF := Lib.hid (fun (W : World) (hW : Below w.heap.size w W) => show W.cell? (ad.add (k * 3)) = some (.int .i64 K.len) ∧ W.cell? ⟨(ad.add (k * 3)).block, (ad.add (k * 3)).off + 1, none⟩ = some (.slice P K.cuts.length p) ∧ W.cell? ⟨(ad.add (k * 3)).block, (ad.add (k * 3)).off + 2, none⟩ = some (.slice R K.dens.length r) from
    ⟨(hW.cell hb1).trans d0, (hW.cell (p := ⟨(ad.add (k * 3)).block, (ad.add (k * 3)).off + 1, none⟩) hb1).trans d1, (hW.cell (p := ⟨(ad.add (k * 3)).block, (ad.add (k * 3)).off + 2, none⟩) hb1).trans d2⟩)
  obtain ⟨v, hv⟩ : ∃ v, v = K.mark a b := ⟨_, rfl⟩
  obtain ⟨x, hx⟩ : ∃ x, x = K.markC a b := ⟨_, rfl⟩
  rw [← hv, ← hx] at HC
  rw [← hv, ← hx]
  clear hlt hm z3 z4 hbA hC d0 d1 d2 hb1 h ha hb hK hv hx
  go_enter Try.func111, Try.ntmps111
  go_upto_region 1 with fail
  generalize hw0 : (((w.alloc (oB (some ad) c ks B d l)).alloc (rB a)).alloc (rB b)).alloc (rB ⟨0, 0⟩) = w0 at *
  clear hw0
  generalize w.heap.size + 1 + 1 + 1 = gO at *
  generalize w.heap.size + 1 + 1 = gB at *
  generalize w.heap.size + 1 = gA at *
  refine wp_region_T (Bx w [(gB, rB b), (gA, rB a), (w.heap.size, oB (some ad) c ks B d l)]) 13 (by kernel_rfl) (by rfl) ((hM0.keep (List.Sublist.cons _ (List.Sublist.cons_cons _ (List.Sublist.cons_cons _ (List.Sublist.cons_cons _ (List.nil_sublist _)))))).drew) (fun wq5 hbq => ?_)
  have hB1 := hM0.next hbq
  clear hM0 hbq
  refine wpAnyT_go (Bx.grows _ _) (hB1.keep (List.Sublist.cons _ (List.Sublist.cons_cons _ (List.Sublist.cons_cons _ (List.Sublist.cons_cons _ (List.nil_sublist _)))))) [0, 1, 2, 3, 4, 5, 6, 7, 8, 9, 10] 2 (by kernel_rfl) ?_
  apply Exists.intro
  refine ⟨fun G hG hN => ?_, ?_⟩
  · have c_b := fun (e : GE (Bx w [(gB, rB b), (gA, rB a), (w.heap.size, oB (some ad) c ks B d l)]) G) j => cell_of_row e.w _ j _ _ _ ((GE.h e).get 0 rfl)
    have z_b := fun (e : GE (Bx w [(gB, rB b), (gA, rB a), (w.heap.size, oB (some ad) c ks B d l)]) G) => (GE.h e).lt 0 rfl
    have c_a := fun (e : GE (Bx w [(gB, rB b), (gA, rB a), (w.heap.size, oB (some ad) c ks B d l)]) G) j => cell_of_row e.w _ j _ _ _ ((GE.h e).get 1 rfl)
    have z_a := fun (e : GE (Bx w [(gB, rB b), (gA, rB a), (w.heap.size, oB (some ad) c ks B d l)]) G) => (GE.h e).lt 1 rfl
    have c_o := fun (e : GE (Bx w [(gB, rB b), (gA, rB a), (w.heap.size, oB (some ad) c ks B d l)]) G) j => cell_of_row e.w _ j _ _ _ ((GE.h e).get 2 rfl)
    have z_o := fun (e : GE (Bx w [(gB, rB b), (gA, rB a), (w.heap.size, oB (some ad) c ks B d l)]) G) => (GE.h e).lt 2 rfl
    have fc := fun (e : GE (Bx w [(gB, rB b), (gA, rB a), (w.heap.size, oB (some ad) c ks B d l)]) G) => (HF.out e.w (GE.h e).below).1
    have fd := fun (e : GE (Bx w [(gB, rB b), (gA, rB a), (w.heap.size, oB (some ad) c ks B d l)]) G) => (HF.out e.w (GE.h e).below).2.1
    have fe := fun (e : GE (Bx w [(gB, rB b), (gA, rB a), (w.heap.size, oB (some ad) c ks B d l)]) G) => (HF.out e.w (GE.h e).below).2.2
    simp only [pickOps, List.getElem?_toArray, List.getElem?_cons_zero, List.getElem?_cons_succ]
    repeat (first | go_big_quiet_step ((first | (go_at_call 32; exact calls_ge (Bx.grows _ _) hG (HC.out _ (Bx.below (GE.h _)))))) | quiet_step ((first | (go_at_call 32; exact calls_ge (Bx.grows _ _) hG (HC.out _ (Bx.below (GE.h _)))))))
    exact wpQuiet_nil rfl
  refine wpAnyT_all (rs := [11]) (by kernel_rfl) (by simp) (fun wa6 hwa6 hRwa6 i hi => ?_)
  have hB2 := hB1.next hwa6
  clear hB1 hwa6 hRwa6
  obtain rfl := List.mem_singleton.1 hi
  refine wpOp_step rfl (fun Kc hKc => ?_)
  have c_out := fun j => cell_of_row _ _ j _ _ _ (hB2.get 0 rfl)
  have z_out := hB2.lt 0 rfl
  have f_out := fun j => frozen_of_row _ _ j _ _ (hB2.get 0 rfl)
  go_simp
  have hB3 := hB2.put 0 rfl (v)
  refine hKc _ _ ⟨(hB3.keep (List.Sublist.cons _ (List.Sublist.cons_cons _ (List.Sublist.cons_cons _ (List.Sublist.cons_cons _ (List.nil_sublist _)))))), ?_⟩
  clear c_out z_out f_out hKc Kc hB2
  generalize (wa6.setCell _ _).setCell _ _ = wb7 at *
  refine wpAnyT_go (Bx.grows _ _) (hB3.keep (List.Sublist.cons _ (List.Sublist.cons_cons _ (List.Sublist.cons_cons _ (List.Sublist.cons_cons _ (List.nil_sublist _)))))) [12] 0 (by kernel_rfl) ?_
  apply Exists.intro
  refine ⟨fun G hG hN => ?_, ?_⟩
  · have c_b := fun (e : GE (Bx w [(gB, rB b), (gA, rB a), (w.heap.size, oB (some ad) c ks B d l)]) G) j => cell_of_row e.w _ j _ _ _ ((GE.h e).get 0 rfl)
    have z_b := fun (e : GE (Bx w [(gB, rB b), (gA, rB a), (w.heap.size, oB (some ad) c ks B d l)]) G) => (GE.h e).lt 0 rfl
    have c_a := fun (e : GE (Bx w [(gB, rB b), (gA, rB a), (w.heap.size, oB (some ad) c ks B d l)]) G) j => cell_of_row e.w _ j _ _ _ ((GE.h e).get 1 rfl)
    have z_a := fun (e : GE (Bx w [(gB, rB b), (gA, rB a), (w.heap.size, oB (some ad) c ks B d l)]) G) => (GE.h e).lt 1 rfl
    have c_o := fun (e : GE (Bx w [(gB, rB b), (gA, rB a), (w.heap.size, oB (some ad) c ks B d l)]) G) j => cell_of_row e.w _ j _ _ _ ((GE.h e).get 2 rfl)
    have z_o := fun (e : GE (Bx w [(gB, rB b), (gA, rB a), (w.heap.size, oB (some ad) c ks B d l)]) G) => (GE.h e).lt 2 rfl
    have fc := fun (e : GE (Bx w [(gB, rB b), (gA, rB a), (w.heap.size, oB (some ad) c ks B d l)]) G) => (HF.out e.w (GE.h e).below).1
    have fd := fun (e : GE (Bx w [(gB, rB b), (gA, rB a), (w.heap.size, oB (some ad) c ks B d l)]) G) => (HF.out e.w (GE.h e).below).2.1
    have fe := fun (e : GE (Bx w [(gB, rB b), (gA, rB a), (w.heap.size, oB (some ad) c ks B d l)]) G) => (HF.out e.w (GE.h e).below).2.2
    simp only [pickOps, List.getElem?_toArray, List.getElem?_cons_zero, List.getElem?_cons_succ]
    repeat (first | go_big_quiet_step ((first | (go_at_call 32; exact calls_ge (Bx.grows _ _) hG (HC.out _ (Bx.below (GE.h _)))))) | quiet_step ((first | (go_at_call 32; exact calls_ge (Bx.grows _ _) hG (HC.out _ (Bx.below (GE.h _)))))))
    exact wpQuiet_nil rfl
  refine wpAnyT_done (by kernel_rfl) (fun wd8 hwd8 hRwd8 => ?_) _
  refine NoPanic.normal ?_
  have hB4 := hB3.next hwd8
  clear hB3 hwd8 hRwd8
  have c_out := fun j => cell_of_row _ _ j _ _ _ (hB4.get 0 rfl)
  have z_out := hB4.lt 0 rfl
  have f_out := fun j => frozen_of_row _ _ j _ _ (hB4.get 0 rfl)
  have HB := Lib.hid hB4.below
  clear hB4
  go_wp2_with fail
  refine bodyPost_ret (v := .tuple #[rV v, .int .i64 x]) (by simp [results, Try.results111, go_sem, c_out, f_out, z_out]) rfl ?_
  exact ⟨rfl, HB.out⟩
end Go.Proofs.Ytgcbmnohhbcfiaa
