/- The reference's value of cakes, walked. -/
import Derived.Test.YtgcbmnohhbcfiaaCkRw
import Derived.Test.YtgcbmnohhbcfiaaCm9
import Derived.Test.YtgcbmnohhbcfiaaRfG
import Derived.Test.YtgcbmnohhbcfiaaCm11
namespace Go.Proofs.Ytgcbmnohhbcfiaa
open Go.RowKit Go.Deep
set_option linter.unusedVariables false
set_option linter.unusedSimpArgs false

set_option maxRecDepth 100000 in
set_option maxHeartbeats 4000000 in
theorem flater_any (a b : Rt) (ha : a.Ok) (hb : b.Ok) (w : World) :
    Calls Try.prog 126 #[rV a, rV b] w fun e w' => e = .returned (rV (if ltB a b = true then b else a)) ∧ Below w.heap.size w w' := by
  have hB0 : Bx w [(w.heap.size + 1 + 1, rB ⟨0, 0⟩), (w.heap.size + 1, rB b), (w.heap.size, rB a)] (((w.alloc (rB a)).alloc (rB b)).alloc (rB ⟨0, 0⟩)) :=
    (((Bx.start w).new rfl _).new (by simp) _).new (by simp) _
  have HL := Lib.hid (fun (W : World) => flt_any a b ha hb W)
  obtain ⟨l, hl⟩ : ∃ x, x = ltB a b := ⟨_, rfl⟩
  obtain ⟨r, hr⟩ : ∃ x, x = (if l = true then b else a) := ⟨_, rfl⟩
  rw [← hl] at HL
  rw [← hl, ← hr]
  have HR := Lib.hid hr
  clear ha hb hl hr
  go_enter Try.func126, Try.ntmps126
  go_upto_region 1 with fail
  generalize hw0 : ((w.alloc (rB a)).alloc (rB b)).alloc (rB ⟨0, 0⟩) = w0 at *
  clear hw0
  generalize w.heap.size + 1 + 1 = gR at *
  generalize w.heap.size + 1 = gB at *
  have c_r := fun j => cell_of_row _ _ j _ _ _ (hB0.get 0 rfl)
  have z_r := hB0.lt 0 rfl
  have c_b := fun j => cell_of_row _ _ j _ _ _ (hB0.get 1 rfl)
  have z_b := hB0.lt 1 rfl
  have c_a := fun j => cell_of_row _ _ j _ _ _ (hB0.get 2 rfl)
  have z_a := hB0.lt 2 rfl
  go_wp2_with fail
  refine (HL.out _).mono ?_
  rintro e w1 ⟨rfl, hb⟩
  have hB1 := hB0.next hb
  clear c_r z_r c_b z_b c_a z_a hb hB0
  cases l with
  | true =>
    have c_r := fun j => cell_of_row _ _ j _ _ _ (hB1.get 0 rfl)
    have z_r := hB1.lt 0 rfl
    have f_r := fun j => frozen_of_row _ _ j _ _ (hB1.get 0 rfl)
    have c_b := fun j => cell_of_row _ _ j _ _ _ (hB1.get 1 rfl)
    have z_b := hB1.lt 1 rfl
    have c_a := fun j => cell_of_row _ _ j _ _ _ (hB1.get 2 rfl)
    have z_a := hB1.lt 2 rfl
    have HE := Lib.hid (hB1.put 0 rfl b).below
    clear hB1
    go_wp2_with fail
    refine bodyPost_ret (v := rV b) (by simp [results, Try.results126, go_sem, c_r, f_r, z_r]) rfl ?_
    exact ⟨by rw [HR.out]; rfl, HE.out⟩
  | false =>
    have c_r := fun j => cell_of_row _ _ j _ _ _ (hB1.get 0 rfl)
    have z_r := hB1.lt 0 rfl
    have f_r := fun j => frozen_of_row _ _ j _ _ (hB1.get 0 rfl)
    have c_b := fun j => cell_of_row _ _ j _ _ _ (hB1.get 1 rfl)
    have z_b := hB1.lt 1 rfl
    have c_a := fun j => cell_of_row _ _ j _ _ _ (hB1.get 2 rfl)
    have z_a := hB1.lt 2 rfl
    have HE := Lib.hid (hB1.put 0 rfl a).below
    clear hB1
    go_wp2_with fail
    refine bodyPost_ret (v := rV a) (by simp [results, Try.results126, go_sem, c_r, f_r, z_r]) rfl ?_
    exact ⟨by rw [HR.out]; rfl, HE.out⟩
set_option maxRecDepth 100000 in
set_option maxHeartbeats 4000000 in
theorem fsooner_any (a b : Rt) (ha : a.Ok) (hb : b.Ok) (w : World) :
    Calls Try.prog 134 #[rV a, rV b] w fun e w' => e = .returned (rV (if ltB a b = true then a else b)) ∧ Below w.heap.size w w' := by
  have hB0 : Bx w [(w.heap.size + 1 + 1, rB ⟨0, 0⟩), (w.heap.size + 1, rB b), (w.heap.size, rB a)] (((w.alloc (rB a)).alloc (rB b)).alloc (rB ⟨0, 0⟩)) :=
    (((Bx.start w).new rfl _).new (by simp) _).new (by simp) _
  have HL := Lib.hid (fun (W : World) => flt_any a b ha hb W)
  obtain ⟨l, hl⟩ : ∃ x, x = ltB a b := ⟨_, rfl⟩
  obtain ⟨r, hr⟩ : ∃ x, x = (if l = true then a else b) := ⟨_, rfl⟩
  rw [← hl] at HL
  rw [← hl, ← hr]
  have HR := Lib.hid hr
  clear ha hb hl hr
  go_enter Try.func134, Try.ntmps134
  go_upto_region 1 with fail
  generalize hw0 : ((w.alloc (rB a)).alloc (rB b)).alloc (rB ⟨0, 0⟩) = w0 at *
  clear hw0
  generalize w.heap.size + 1 + 1 = gR at *
  generalize w.heap.size + 1 = gB at *
  have c_r := fun j => cell_of_row _ _ j _ _ _ (hB0.get 0 rfl)
  have z_r := hB0.lt 0 rfl
  have c_b := fun j => cell_of_row _ _ j _ _ _ (hB0.get 1 rfl)
  have z_b := hB0.lt 1 rfl
  have c_a := fun j => cell_of_row _ _ j _ _ _ (hB0.get 2 rfl)
  have z_a := hB0.lt 2 rfl
  go_wp2_with fail
  refine (HL.out _).mono ?_
  rintro e w1 ⟨rfl, hb⟩
  have hB1 := hB0.next hb
  clear c_r z_r c_b z_b c_a z_a hb hB0
  cases l with
  | true =>
    have c_r := fun j => cell_of_row _ _ j _ _ _ (hB1.get 0 rfl)
    have z_r := hB1.lt 0 rfl
    have f_r := fun j => frozen_of_row _ _ j _ _ (hB1.get 0 rfl)
    have c_b := fun j => cell_of_row _ _ j _ _ _ (hB1.get 1 rfl)
    have z_b := hB1.lt 1 rfl
    have c_a := fun j => cell_of_row _ _ j _ _ _ (hB1.get 2 rfl)
    have z_a := hB1.lt 2 rfl
    have HE := Lib.hid (hB1.put 0 rfl a).below
    clear hB1
    go_wp2_with fail
    refine bodyPost_ret (v := rV a) (by simp [results, Try.results134, go_sem, c_r, f_r, z_r]) rfl ?_
    exact ⟨by rw [HR.out]; rfl, HE.out⟩
  | false =>
    have c_r := fun j => cell_of_row _ _ j _ _ _ (hB1.get 0 rfl)
    have z_r := hB1.lt 0 rfl
    have f_r := fun j => frozen_of_row _ _ j _ _ (hB1.get 0 rfl)
    have c_b := fun j => cell_of_row _ _ j _ _ _ (hB1.get 1 rfl)
    have z_b := hB1.lt 1 rfl
    have c_a := fun j => cell_of_row _ _ j _ _ _ (hB1.get 2 rfl)
    have z_a := hB1.lt 2 rfl
    have HE := Lib.hid (hB1.put 0 rfl b).below
    clear hB1
    go_wp2_with fail
    refine bodyPost_ret (v := rV b) (by simp [results, Try.results134, go_sem, c_r, f_r, z_r]) rfl ?_
    exact ⟨by rw [HR.out]; rfl, HE.out⟩
set_option maxRecDepth 100000 in
set_option maxHeartbeats 32000000 in
theorem fworth_any (K : Ck) (A : Option Addr) (c : Nat) (R : Option Addr) (d : Nat) (k : Nat) (a b : Rt) (hK : K.Ok) (hk : k < K.dens.length) (ha : a.Ok) (hb : b.Ok) (w : World) (h : CIn w.heap.size w A c R d K) :
    Calls Try.prog 124 #[cV A c R d K, .int .i64 (k : Int), rV a, rV b] w fun e w' => e = .returned (.tuple #[rV (K.wtR k a b), .int .i64 (K.wtC k a b)]) ∧ Below w.heap.size w w' := by
  obtain ⟨ad, rfl, _, _⟩ := h.cuts.at_ (show k + 1 < K.cuts.length by have := hK.nc; omega)
  obtain ⟨rd, rfl, _, _⟩ := h.dens.at_ hk
  have HH := Lib.hid h
  have HF := Lib.hid (fun (W : World) (hW : Below w.heap.size w W) => show (W.cell? (ad.add k) = some (.int .i64 (gi K.cuts k)) ∧ W.cell? ⟨ad.block, ad.off + (k + 1), none⟩ = some (.int .i64 (gi K.cuts (k + 1)))) ∧ W.cell? (rd.add k) = some (.int .i64 (gi K.dens k)) from by
    obtain ⟨ad', e0, hb0, hc0⟩ := h.cuts.at_ (show k < K.cuts.length by have := hK.nc; omega)
    obtain rfl := Option.some.inj e0
    obtain ⟨ad', e1, hb1, hc1⟩ := h.cuts.at_ (show k + 1 < K.cuts.length by have := hK.nc; omega)
    obtain rfl := Option.some.inj e1
    obtain ⟨rd', e2, hb2, hc2⟩ := h.dens.at_ hk
    obtain rfl := Option.some.inj e2
    exact ⟨⟨(hW.cell (by rw [block_add]; exact hb0)).trans hc0, (hW.cell (p := ad.add (k + 1)) (by rw [block_add]; exact hb1)).trans hc1⟩, (hW.cell (by rw [block_add]; exact hb2)).trans hc2⟩)
  have hB0 : Bx w [(w.heap.size + 1 + 1 + 1, rB ⟨0, 0⟩), (w.heap.size + 1 + 1, rB b), (w.heap.size + 1, rB a), (w.heap.size, cB (some ad) c (some rd) d K)] ((((w.alloc (cB (some ad) c (some rd) d K)).alloc (rB a)).alloc (rB b)).alloc (rB ⟨0, 0⟩)) :=
    ((((Bx.start w).new rfl _).new (by simp) _).new (by simp) _).new (by simp) _
  have n2 := hK.n2
  have nc := hK.nc
  have z1 : (k : Int) < (K.dens.length : Int) := by omega
  have z2 : (k : Int) < (K.cuts.length : Int) := by omega
  have z3 : (0 : Int) ≤ (k : Int) := by omega
  have z4 : (k : Int) + 1 < (K.cuts.length : Int) := by omega
  have z5 : (0 : Int) ≤ (k : Int) + 1 := by omega
  have z6 : ((k : Int) + 1).toNat = k + 1 := by omega
  have z7 : k < K.cuts.length := by omega
  have z8 : k + 1 < K.cuts.length := by omega
  have y1 : IntKind.i64.wrap ((k : Int) + 1) = (k : Int) + 1 := IntWalk.i64_in _ (by omega)
  have y1' : wrap64 ((k : Int) + 1) = (k : Int) + 1 := IntWalk.wrap64_in _ (by omega)
  have FK := hK.wFrom_ok ha (i := k) (by omega)
  have EK := hK.vEnd_ok hb hk
  have fit := hK.fit k hk
  have HLA := Lib.hid (fun (W : World) => flater_any a ⟨gi K.cuts k, 1⟩ ha (hK.cut_ok (by omega)) W)
  have HSO := Lib.hid (fun (W : World) => fsooner_any b ⟨gi K.cuts (k + 1), 1⟩ hb (hK.cut_ok (by omega)) W)
  have HZR := Lib.hid (fun (q : ltB (K.wFrom k a) (K.vEnd b k) = false ∨ gi K.dens k = 0) => wt_zero (K := K) (a := a) (b := b) (k := k) q)
  have HPC := Lib.hid (fun (q1 : ltB (K.wFrom k a) (K.vEnd b k) = true) (q2 : gi K.dens k ≠ 0) => show (subC (K.vEnd b k) (K.wFrom k a) ≠ 0 → K.wtC k a b = subC (K.vEnd b k) (K.wFrom k a) ∧ K.wtR k a b = ⟨0, 0⟩) ∧ (subC (K.vEnd b k) (K.wFrom k a) = 0 → K.wtC k a b = mulC (subR (K.vEnd b k) (K.wFrom k a)) ⟨gi K.dens k, 1⟩ ∧ K.wtR k a b = mulR (subR (K.vEnd b k) (K.wFrom k a)) ⟨gi K.dens k, 1⟩) by
    have n : ¬ (ltB (K.wFrom k a) (K.vEnd b k) = false ∨ gi K.dens k = 0) := by rw [q1]; simp; exact q2
    unfold Ck.wtC Ck.wtR pieceC pieceR
    rw [if_neg n, if_neg n]
    exact ⟨fun q => ⟨if_pos q, if_pos q⟩, fun q => ⟨if_neg (fun x => x q), if_neg (fun x => x q)⟩⟩)
  rw [show (if ltB a ⟨gi K.cuts k, 1⟩ = true then (⟨gi K.cuts k, 1⟩ : Rt) else a) = K.wFrom k a from rfl] at HLA
  rw [show (if ltB b ⟨gi K.cuts (k + 1), 1⟩ = true then b else (⟨gi K.cuts (k + 1), 1⟩ : Rt)) = K.vEnd b k from rfl] at HSO
  have HD := Lib.hid fit
  obtain ⟨fr, hfr⟩ : ∃ x, x = K.wFrom k a := ⟨_, rfl⟩
  obtain ⟨en, hen⟩ : ∃ x, x = K.vEnd b k := ⟨_, rfl⟩
  obtain ⟨wr, hwr⟩ : ∃ x, x = K.wtR k a b := ⟨_, rfl⟩
  obtain ⟨wcd, hwc⟩ : ∃ x, x = K.wtC k a b := ⟨_, rfl⟩
  rw [← hfr, ← hen, ← hwr, ← hwc] at HPC
  rw [← hfr, ← hen, ← hwr, ← hwc] at HZR
  rw [← hfr] at HLA FK
  rw [← hen] at HSO EK
  rw [← hwr, ← hwc]
  have FKO := Lib.hid FK.1
  have EKO := Lib.hid EK.1
  clear h hK hk ha hb n2 nc FK EK fit hfr hen hwr hwc
  go_enter Try.func124, Try.ntmps124
  go_upto_region 1 with fail
  generalize hw0 : (((w.alloc (cB (some ad) c (some rd) d K)).alloc (rB a)).alloc (rB b)).alloc (rB ⟨0, 0⟩) = w0 at *
  clear hw0
  generalize w.heap.size + 1 + 1 + 1 = gO at *
  generalize w.heap.size + 1 + 1 = gB at *
  generalize w.heap.size + 1 = gA at *
  go_cut [10, 11] (fun s10 s11 wx => ∃ gF gT, s10 = .pointer (some ⟨gF, 0, none⟩) ∧ s11 = .pointer (some ⟨gT, 0, none⟩) ∧ Bx w [(gT, rB en), (gF, rB fr), (gO, rB ⟨0, 0⟩), (gB, rB b), (gA, rB a), (w.heap.size, cB (some ad) c (some rd) d K)] wx)
  case first =>
    have hM0 := Mx.of_bx hB0
    clear hB0
    go_wp2_with fail
    refine wp_region_T (Bx w [(gB, rB b), (gA, rB a), (w.heap.size, cB (some ad) c (some rd) d K)]) 21 (by kernel_rfl) (by rfl) ((hM0.keep (List.Sublist.cons _ (List.Sublist.cons_cons _ (List.Sublist.cons_cons _ (List.Sublist.cons_cons _ (List.nil_sublist _)))))).drew) (fun wq1 hbq => ?_)
    have hB1 := hM0.next hbq
    clear hM0 hbq
    refine wpAnyT_go (Bx.grows _ _) (hB1.keep (List.Sublist.cons _ (List.Sublist.cons_cons _ (List.Sublist.cons_cons _ (List.Sublist.cons_cons _ (List.nil_sublist _)))))) [0, 1, 2, 3, 4, 5, 6, 7, 8, 9, 10, 11, 12, 13, 14, 15, 16] 4 (by kernel_rfl) ?_
    apply Exists.intro
    refine ⟨fun G hG hN => ?_, ?_⟩
    · have c_b := fun (e : GE (Bx w [(gB, rB b), (gA, rB a), (w.heap.size, cB (some ad) c (some rd) d K)]) G) j => cell_of_row e.w _ j _ _ _ ((GE.h e).get 0 rfl)
      have z_b := fun (e : GE (Bx w [(gB, rB b), (gA, rB a), (w.heap.size, cB (some ad) c (some rd) d K)]) G) => (GE.h e).lt 0 rfl
      have c_a := fun (e : GE (Bx w [(gB, rB b), (gA, rB a), (w.heap.size, cB (some ad) c (some rd) d K)]) G) j => cell_of_row e.w _ j _ _ _ ((GE.h e).get 1 rfl)
      have z_a := fun (e : GE (Bx w [(gB, rB b), (gA, rB a), (w.heap.size, cB (some ad) c (some rd) d K)]) G) => (GE.h e).lt 1 rfl
      have c_K := fun (e : GE (Bx w [(gB, rB b), (gA, rB a), (w.heap.size, cB (some ad) c (some rd) d K)]) G) j => cell_of_row e.w _ j _ _ _ ((GE.h e).get 2 rfl)
      have z_K := fun (e : GE (Bx w [(gB, rB b), (gA, rB a), (w.heap.size, cB (some ad) c (some rd) d K)]) G) => (GE.h e).lt 2 rfl
      have f1 := fun (e : GE (Bx w [(gB, rB b), (gA, rB a), (w.heap.size, cB (some ad) c (some rd) d K)]) G) => (HF.out e.w (GE.h e).below).1.1
      have f2 := fun (e : GE (Bx w [(gB, rB b), (gA, rB a), (w.heap.size, cB (some ad) c (some rd) d K)]) G) => (HF.out e.w (GE.h e).below).1.2
      simp only [pickOps, List.getElem?_toArray, List.getElem?_cons_zero, List.getElem?_cons_succ]
      repeat (first | go_big_quiet_step ((first | (go_at_call 73; exact calls_ge (Bx.grows _ _) hG (of_any _ _)) | (go_at_call 126; exact calls_ge (Bx.grows _ _) hG (HLA.out _)) | (go_at_call 134; exact calls_ge (Bx.grows _ _) hG (HSO.out _)))) | quiet_step ((first | (go_at_call 73; exact calls_ge (Bx.grows _ _) hG (of_any _ _)) | (go_at_call 126; exact calls_ge (Bx.grows _ _) hG (HLA.out _)) | (go_at_call 134; exact calls_ge (Bx.grows _ _) hG (HSO.out _)))))
      exact wpQuiet_nil rfl
    refine wpAnyT_two (i := 17) (j := 18) (oi := (rB ⟨0, 0⟩)) (oj := (rB ⟨0, 0⟩)) hB1 (fun _ k => k.keep (List.Sublist.cons _ (List.Sublist.cons_cons _ (List.Sublist.cons_cons _ (List.Sublist.cons_cons _ (List.nil_sublist _)))))) (by kernel_rfl) ?_
    apply Exists.intro
    apply Exists.intro
    apply Exists.intro
    refine ⟨?_, ?_, ?_, ?_, ?_⟩
    · intro g W K hg hK
      try dsimp only
      refine wpOp_step rfl (fun Kc hKc => ?_)
      go_simp
      try rw [hg]
      exact hKc _ _ hK
    · intro g0 g W K hg hK
      try dsimp only
      refine wpOp_step rfl (fun Kc hKc => ?_)
      go_simp
      try rw [hg]
      exact hKc _ _ hK
    · intro g W K hg hK
      try dsimp only
      refine wpOp_step rfl (fun Kc hKc => ?_)
      go_simp
      try rw [hg]
      exact hKc _ _ hK
    · intro g0 g W K hg hK
      try dsimp only
      refine wpOp_step rfl (fun Kc hKc => ?_)
      go_simp
      try rw [hg]
      exact hKc _ _ hK
    intro gF gT wt2 hB2
    try dsimp only
    refine wpAnyT_all (rs := [19]) (by kernel_rfl) (by simp) (fun wa3 hwa3 hRwa3 i hi => ?_)
    have hB3 := hB2.next hwa3
    clear hB2 hwa3 hRwa3
    obtain rfl := List.mem_singleton.1 hi
    refine wpOp_step rfl (fun Kc hKc => ?_)
    have c_from := fun j => cell_of_row _ _ j _ _ _ (hB3.get 1 rfl)
    have z_from := hB3.lt 1 rfl
    have f_from := fun j => frozen_of_row _ _ j _ _ (hB3.get 1 rfl)
    go_simp
    have hB4 := hB3.put 1 rfl (fr)
    refine hKc _ _ ⟨(hB4.keep (List.Sublist.cons _ (List.Sublist.cons _ (List.Sublist.cons _ (List.Sublist.cons_cons _ (List.Sublist.cons_cons _ (List.Sublist.cons_cons _ (List.nil_sublist _)))))))), ?_⟩
    clear c_from z_from f_from hKc Kc hB3
    generalize (wa3.setCell _ _).setCell _ _ = wb4 at *
    refine wpAnyT_all (rs := [20]) (by kernel_rfl) (by simp) (fun wa5 hwa5 hRwa5 i hi => ?_)
    have hB5 := hB4.next hwa5
    clear hB4 hwa5 hRwa5
    obtain rfl := List.mem_singleton.1 hi
    refine wpOp_step rfl (fun Kc hKc => ?_)
    have c_to := fun j => cell_of_row _ _ j _ _ _ (hB5.get 0 rfl)
    have z_to := hB5.lt 0 rfl
    have f_to := fun j => frozen_of_row _ _ j _ _ (hB5.get 0 rfl)
    go_simp
    have hB6 := hB5.put 0 rfl (en)
    refine hKc _ _ ⟨(hB6.keep (List.Sublist.cons _ (List.Sublist.cons _ (List.Sublist.cons _ (List.Sublist.cons_cons _ (List.Sublist.cons_cons _ (List.Sublist.cons_cons _ (List.nil_sublist _)))))))), ?_⟩
    clear c_to z_to f_to hKc Kc hB5
    generalize (wa5.setCell _ _).setCell _ _ = wb6 at *
    refine wpAnyT_done (by kernel_rfl) (fun wd7 hwd7 hRwd7 => ?_) _
    refine NoPanic.normal ?_
    have hB7 := hB6.next hwd7
    clear hB6 hwd7 hRwd7
    have HM := Lib.hid (hB7.bx)
    clear hB7
    go_wp2_with fail
    go_meet
    exact ⟨_, _, rfl, rfl, HM.out⟩
  case rest =>
    obtain ⟨gF, gT, rfl, rfl, hBc⟩ := hcut
    have HLT := Lib.hid (fun (W : World) => flt_any fr en FKO.out EKO.out W)
    obtain ⟨f1, f2⟩ := HF.out _ hBc.below
    clear f1 hB0 HLA HSO
    obtain ⟨lt, hlt⟩ : ∃ x, x = ltB fr en := ⟨_, rfl⟩
    rw [← hlt] at HLT HZR HPC
    clear hlt
    cases lt with
    | false =>
      have HX := Lib.hid (HZR.out (Or.inl rfl))
      clear HZR HPC
      have c_to := fun j => cell_of_row _ _ j _ _ _ (hBc.get 0 rfl)
      have z_to := hBc.lt 0 rfl
      have c_from := fun j => cell_of_row _ _ j _ _ _ (hBc.get 1 rfl)
      have z_from := hBc.lt 1 rfl
      have c_K := fun j => cell_of_row _ _ j _ _ _ (hBc.get 5 rfl)
      have z_K := hBc.lt 5 rfl
      go_wp2_with fail
      refine (HLT.out _).mono ?_
      rintro e w21 ⟨rfl, hb⟩
      have hB21 := hBc.next hb
      clear c_to z_to c_from z_from c_K z_K hb hBc
      clear f2
      obtain ⟨_, f2⟩ := HF.out _ hB21.below
      have c_r := fun j => cell_of_row _ _ j _ _ _ (hB21.get 2 rfl)
      have z_r := hB21.lt 2 rfl
      have f_r := fun j => frozen_of_row _ _ j _ _ (hB21.get 2 rfl)
      have c_K := fun j => cell_of_row _ _ j _ _ _ (hB21.get 5 rfl)
      have z_K := hB21.lt 5 rfl
      have HE := Lib.hid (hB21.put 2 rfl ⟨0, 1⟩).below
      clear hB21
      obtain ⟨e1, e2⟩ := HX.out
      subst e1 e2
      go_wp2_with fail
      refine bodyPost_ret (v := .tuple #[rV ⟨0, 1⟩, .int .i64 0]) (by simp [results, Try.results124, go_sem, c_r, f_r, z_r]) rfl ?_
      exact ⟨rfl, HE.out⟩
    | true =>
    by_cases hd : gi K.dens k = 0
    · have dq : (gi K.dens k == 0) = true := by simpa using hd
      have HX := Lib.hid (HZR.out (Or.inr hd))
      clear HZR HPC
      have c_to := fun j => cell_of_row _ _ j _ _ _ (hBc.get 0 rfl)
      have z_to := hBc.lt 0 rfl
      have c_from := fun j => cell_of_row _ _ j _ _ _ (hBc.get 1 rfl)
      have z_from := hBc.lt 1 rfl
      have c_K := fun j => cell_of_row _ _ j _ _ _ (hBc.get 5 rfl)
      have z_K := hBc.lt 5 rfl
      go_wp2_with fail
      refine (HLT.out _).mono ?_
      rintro e w21 ⟨rfl, hb⟩
      have hB21 := hBc.next hb
      clear c_to z_to c_from z_from c_K z_K hb hBc
      clear f2
      obtain ⟨_, f2⟩ := HF.out _ hB21.below
      have c_r := fun j => cell_of_row _ _ j _ _ _ (hB21.get 2 rfl)
      have z_r := hB21.lt 2 rfl
      have f_r := fun j => frozen_of_row _ _ j _ _ (hB21.get 2 rfl)
      have c_K := fun j => cell_of_row _ _ j _ _ _ (hB21.get 5 rfl)
      have z_K := hB21.lt 5 rfl
      have HE := Lib.hid (hB21.put 2 rfl ⟨0, 1⟩).below
      clear hB21
      obtain ⟨e1, e2⟩ := HX.out
      subst e1 e2
      go_wp2_with fail
      refine bodyPost_ret (v := .tuple #[rV ⟨0, 1⟩, .int .i64 0]) (by simp [results, Try.results124, go_sem, c_r, f_r, z_r]) rfl ?_
      exact ⟨rfl, HE.out⟩
    have dq : (gi K.dens k == 0) = false := by simpa using hd
    have HP := Lib.hid (HPC.out rfl hd)
    clear hd HZR HPC
    have c_to := fun j => cell_of_row _ _ j _ _ _ (hBc.get 0 rfl)
    have z_to := hBc.lt 0 rfl
    have c_from := fun j => cell_of_row _ _ j _ _ _ (hBc.get 1 rfl)
    have z_from := hBc.lt 1 rfl
    have c_K := fun j => cell_of_row _ _ j _ _ _ (hBc.get 5 rfl)
    have z_K := hBc.lt 5 rfl
    go_wp2_with fail
    refine (HLT.out _).mono ?_
    rintro e w21 ⟨rfl, hb⟩
    have hB21 := hBc.next hb
    clear c_to z_to c_from z_from c_K z_K hb hBc
    clear f2
    obtain ⟨_, f2⟩ := HF.out _ hB21.below
    have c_K := fun j => cell_of_row _ _ j _ _ _ (hB21.get 5 rfl)
    have z_K := hB21.lt 5 rfl
    have HSB := Lib.hid (fun (W : World) => fsub_any en fr EKO.out.wf FKO.out.wf W)
    have hss := sub_step EKO.out FKO.out
    obtain ⟨LL, hLL⟩ : ∃ x, x = subR en fr := ⟨_, rfl⟩
    obtain ⟨LC, hLC⟩ : ∃ x, x = subC en fr := ⟨_, rfl⟩
    rw [← hLL, ← hLC] at HSB hss HP
    clear hLL hLC
    have c_to := fun j => cell_of_row _ _ j _ _ _ (hB21.get 0 rfl)
    have z_to := hB21.lt 0 rfl
    have c_from := fun j => cell_of_row _ _ j _ _ _ (hB21.get 1 rfl)
    have z_from := hB21.lt 1 rfl
    go_wp2_with fail
    refine (HSB.out _).mono ?_
    rintro e w22 ⟨rfl, hb⟩
    have hB22 := hB21.next hb
    clear c_K z_K c_to z_to c_from z_from hb hB21
    clear f2
    go_upto_region 5 with fail
    have hB23 := hB22.new rfl (rB LL)
    clear hB22
    generalize w22.heap.size = gD at *
    generalize w22.alloc _ = w23 at *
    rcases hss with ⟨k1, k2, k3⟩ | k1
    rotate_left
    · have lq : (LC != 0) = true := by simp; omega
      obtain ⟨e1, e2⟩ := HP.out.1 (by omega)
      clear k1
      subst e1 e2
      have c_r := fun j => cell_of_row _ _ j _ _ _ (hB23.get 3 rfl)
      have z_r := hB23.lt 3 rfl
      have f_r := fun j => frozen_of_row _ _ j _ _ (hB23.get 3 rfl)
      have HE := Lib.hid (hB23.put 3 rfl ⟨0, 0⟩).below
      clear hB23
      go_wp2_with fail
      refine bodyPost_ret (v := .tuple #[rV ⟨0, 0⟩, .int .i64 wcd]) (by simp [results, Try.results124, go_sem, c_r, f_r, z_r]) rfl ?_
      exact ⟨rfl, HE.out⟩
    have lq : (LC != 0) = false := by rw [k1]; rfl
    obtain ⟨e1, e2⟩ := HP.out.2 k1
    have HMU := Lib.hid (fun (W : World) => fmul_any LL ⟨gi K.dens k, 1⟩ k2.wf (len_ok (n := gi K.dens k) (by have := HD.out; omega) (by have := HD.out; omega)).wf W)
    rw [← e1, ← e2] at HMU
    clear k1 k2 k3 e1 e2 HP HSB
    have hM := Mx.of_bx hB23
    clear hB23
    go_wp2_with fail
    refine wp_region_T (Bx w [(gD, rB LL), (w.heap.size, cB (some ad) c (some rd) d K)]) 12 (by kernel_rfl) (by rfl) ((hM.keep (List.Sublist.cons_cons _ (List.Sublist.cons _ (List.Sublist.cons _ (List.Sublist.cons _ (List.Sublist.cons _ (List.Sublist.cons _ (List.Sublist.cons_cons _ (List.nil_sublist _))))))))).drew) (fun wq8 hbq => ?_)
    have hB61 := hM.next hbq
    clear hM hbq
    refine wpAnyT_go (Bx.grows _ _) (hB61.keep (List.Sublist.cons_cons _ (List.Sublist.cons _ (List.Sublist.cons _ (List.Sublist.cons _ (List.Sublist.cons _ (List.Sublist.cons _ (List.Sublist.cons_cons _ (List.nil_sublist _))))))))) [0, 1, 2, 3, 4, 5, 6, 7, 8, 9] 2 (by kernel_rfl) ?_
    apply Exists.intro
    refine ⟨fun G hG hN => ?_, ?_⟩
    · have c_dd := fun (e : GE (Bx w [(gD, rB LL), (w.heap.size, cB (some ad) c (some rd) d K)]) G) j => cell_of_row e.w _ j _ _ _ ((GE.h e).get 0 rfl)
      have z_dd := fun (e : GE (Bx w [(gD, rB LL), (w.heap.size, cB (some ad) c (some rd) d K)]) G) => (GE.h e).lt 0 rfl
      have c_K := fun (e : GE (Bx w [(gD, rB LL), (w.heap.size, cB (some ad) c (some rd) d K)]) G) j => cell_of_row e.w _ j _ _ _ ((GE.h e).get 1 rfl)
      have z_K := fun (e : GE (Bx w [(gD, rB LL), (w.heap.size, cB (some ad) c (some rd) d K)]) G) => (GE.h e).lt 1 rfl
      have f2 := fun (e : GE (Bx w [(gD, rB LL), (w.heap.size, cB (some ad) c (some rd) d K)]) G) => (HF.out e.w (GE.h e).below).2
      simp only [pickOps, List.getElem?_toArray, List.getElem?_cons_zero, List.getElem?_cons_succ]
      repeat (first | go_big_quiet_step ((first | (go_at_call 73; exact calls_ge (Bx.grows _ _) hG (of_any _ _)) | (go_at_call 135; exact calls_ge (Bx.grows _ _) hG (HMU.out _)))) | quiet_step ((first | (go_at_call 73; exact calls_ge (Bx.grows _ _) hG (of_any _ _)) | (go_at_call 135; exact calls_ge (Bx.grows _ _) hG (HMU.out _)))))
      exact wpQuiet_nil rfl
    refine wpAnyT_all (rs := [10]) (by kernel_rfl) (by simp) (fun wa9 hwa9 hRwa9 i hi => ?_)
    have hB62 := hB61.next hwa9
    clear hB61 hwa9 hRwa9
    obtain rfl := List.mem_singleton.1 hi
    refine wpOp_step rfl (fun Kc hKc => ?_)
    have c_r := fun j => cell_of_row _ _ j _ _ _ (hB62.get 3 rfl)
    have z_r := hB62.lt 3 rfl
    have f_r := fun j => frozen_of_row _ _ j _ _ (hB62.get 3 rfl)
    go_simp
    have hB63 := hB62.put 3 rfl (wr)
    refine hKc _ _ ⟨(hB63.keep (List.Sublist.cons_cons _ (List.Sublist.cons _ (List.Sublist.cons _ (List.Sublist.cons _ (List.Sublist.cons _ (List.Sublist.cons _ (List.Sublist.cons_cons _ (List.nil_sublist _))))))))), ?_⟩
    clear c_r z_r f_r hKc Kc hB62
    generalize (wa9.setCell _ _).setCell _ _ = wb10 at *
    refine wpAnyT_go (Bx.grows _ _) (hB63.keep (List.Sublist.cons_cons _ (List.Sublist.cons _ (List.Sublist.cons _ (List.Sublist.cons _ (List.Sublist.cons _ (List.Sublist.cons _ (List.Sublist.cons_cons _ (List.nil_sublist _))))))))) [11] 0 (by kernel_rfl) ?_
    apply Exists.intro
    refine ⟨fun G hG hN => ?_, ?_⟩
    · have c_dd := fun (e : GE (Bx w [(gD, rB LL), (w.heap.size, cB (some ad) c (some rd) d K)]) G) j => cell_of_row e.w _ j _ _ _ ((GE.h e).get 0 rfl)
      have z_dd := fun (e : GE (Bx w [(gD, rB LL), (w.heap.size, cB (some ad) c (some rd) d K)]) G) => (GE.h e).lt 0 rfl
      have c_K := fun (e : GE (Bx w [(gD, rB LL), (w.heap.size, cB (some ad) c (some rd) d K)]) G) j => cell_of_row e.w _ j _ _ _ ((GE.h e).get 1 rfl)
      have z_K := fun (e : GE (Bx w [(gD, rB LL), (w.heap.size, cB (some ad) c (some rd) d K)]) G) => (GE.h e).lt 1 rfl
      have f2 := fun (e : GE (Bx w [(gD, rB LL), (w.heap.size, cB (some ad) c (some rd) d K)]) G) => (HF.out e.w (GE.h e).below).2
      simp only [pickOps, List.getElem?_toArray, List.getElem?_cons_zero, List.getElem?_cons_succ]
      repeat (first | go_big_quiet_step ((first | (go_at_call 73; exact calls_ge (Bx.grows _ _) hG (of_any _ _)) | (go_at_call 135; exact calls_ge (Bx.grows _ _) hG (HMU.out _)))) | quiet_step ((first | (go_at_call 73; exact calls_ge (Bx.grows _ _) hG (of_any _ _)) | (go_at_call 135; exact calls_ge (Bx.grows _ _) hG (HMU.out _)))))
      exact wpQuiet_nil rfl
    refine wpAnyT_done (by kernel_rfl) (fun wd11 hwd11 hRwd11 => ?_) _
    refine NoPanic.normal ?_
    have hB64 := hB63.next hwd11
    clear hB63 hwd11 hRwd11
    have c_r := fun j => cell_of_row _ _ j _ _ _ (hB64.get 3 rfl)
    have z_r := hB64.lt 3 rfl
    have HE := Lib.hid hB64.below
    clear hB64
    go_wp2_with fail
    refine bodyPost_ret (v := .tuple #[rV wr, .int .i64 wcd]) (by simp [results, Try.results124, go_sem, c_r, z_r]) rfl ?_
    exact ⟨rfl, HE.out⟩
end Go.Proofs.Ytgcbmnohhbcfiaa
