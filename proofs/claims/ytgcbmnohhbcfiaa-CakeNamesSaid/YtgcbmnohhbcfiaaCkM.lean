/- Mark of cakes, walked. -/
import Derived.Test.YtgcbmnohhbcfiaaCkZ
namespace Go.Proofs.Ytgcbmnohhbcfiaa
open Go.RowKit Go.Deep
set_option linter.unusedVariables false
set_option linter.unusedSimpArgs false

theorem Ck.mark_bad {K : Ck} {a v : Rt} {x : Int} (h : K.markC a v = x) (hx : x ≠ 0) : K.mark a v = ⟨0, 0⟩ := by unfold Ck.mark; rw [if_neg (by omega)]
theorem Ck.markC_run {K : Ck} {a v : Rt} (h : K.code = 0) (h1 : pointB K.len a = true) (h2 : v.code = 0) (h3 : 0 < v.n) : K.markC a v = (K.mTo a v K.dens.length).late := by
  unfold Ck.markC; rw [if_neg (by omega), if_pos ⟨h1, h2, by omega⟩, if_neg (by omega)]
theorem Ck.markC_arg {K : Ck} {a v : Rt} (h : K.code = 0) (h1 : ¬ (pointB K.len a = true ∧ v.code = 0 ∧ 0 ≤ v.n)) : K.markC a v = 2 := by
  unfold Ck.markC; rw [if_neg (by omega), if_neg h1]
theorem Ck.mark_zero {K : Ck} {a v : Rt} (h : K.code = 0) (h1 : pointB K.len a = true) (h2 : v.code = 0) (h3 : v.n = 0) : K.markC a v = 0 ∧ K.mark a v = a := by
  have e : K.markC a v = 0 := by unfold Ck.markC; rw [if_neg (by omega), if_pos ⟨h1, h2, by omega⟩, if_pos h3]
  exact ⟨e, by unfold Ck.mark; rw [if_pos e, if_pos h3]⟩

set_option maxRecDepth 100000 in
set_option maxHeartbeats 16000000 in
theorem cmark_any (K : Ck) (A : Option Addr) (c : Nat) (R : Option Addr) (d : Nat) (a v : Rt) (ha : a.wf) (hv : v.wf) (w : World) (h : CIn w.heap.size w A c R d K) :
    Calls Try.prog 32 #[cV A c R d K, rV a, rV v] w fun e w' => e = .returned (.tuple #[rV (K.mark a v), .int .i64 (K.markC a v)]) ∧ Below w.heap.size w w' := by
  have hB0 : Bx w [(w.heap.size + 1 + 1 + 1, rB ⟨0, 0⟩), (w.heap.size + 1 + 1, rB v), (w.heap.size + 1, rB a), (w.heap.size, cB A c R d K)] ((((w.alloc (cB A c R d K)).alloc (rB a)).alloc (rB v)).alloc (rB ⟨0, 0⟩)) :=
    ((((Bx.start w).new rfl _).new (by simp) _).new (by simp) _).new (by simp) _
  have HH := Lib.hid h
  have HA := Lib.hid ha
  have HV := Lib.hid hv
  have HC := Lib.hid (fun (W : World) (hW : Below w.heap.size w W) => ccheck_any K A c R d W (h.next hW))
  have HCV := Lib.hid (fun (W : World) => rcheck_any v hv W)
  have HVB := Lib.hid (fun (x : Int) (e : K.markC a v = x) (hx : x ≠ 0) => Ck.mark_bad e hx)
  clear h ha hv
  go_enter Try.func32, Try.ntmps32
  go_upto_region 1 with fail
  generalize hw0 : (((w.alloc (cB A c R d K)).alloc (rB a)).alloc (rB v)).alloc (rB ⟨0, 0⟩) = w0 at *
  clear hw0
  generalize w.heap.size + 1 + 1 + 1 = gO at *
  generalize w.heap.size + 1 + 1 = gV at *
  generalize w.heap.size + 1 = gA at *
  have c_K := fun j => cell_of_row _ _ j _ _ _ (hB0.get 3 rfl)
  have z_K := hB0.lt 3 rfl
  by_cases hc : K.code = 0
  rotate_left
  · have q : (K.code != 0) = true := by simpa using hc
    have HX := Lib.hid (show K.markC a v = K.code by unfold Ck.markC; rw [if_pos hc])
    have HNZ := Lib.hid hc
    generalize K.code = code at *
    clear hc
    go_wp2_with fail
    refine (HC.out _ hB0.below).mono ?_
    rintro e w1 ⟨rfl, hb⟩
    have hB1 := hB0.next hb
    clear c_K z_K hb hB0
    have c_out := fun j => cell_of_row _ _ j _ _ _ (hB1.get 0 rfl)
    have z_out := hB1.lt 0 rfl
    have f_out := fun j => frozen_of_row _ _ j _ _ (hB1.get 0 rfl)
    have c_v := fun j => cell_of_row _ _ j _ _ _ (hB1.get 1 rfl)
    have z_v := hB1.lt 1 rfl
    have c_a := fun j => cell_of_row _ _ j _ _ _ (hB1.get 2 rfl)
    have z_a := hB1.lt 2 rfl
    have c_K := fun j => cell_of_row _ _ j _ _ _ (hB1.get 3 rfl)
    have z_K := hB1.lt 3 rfl
    have HE := Lib.hid (hB1.put 0 rfl (⟨0, 0⟩)).below
    clear hB1
    go_wp2_with fail
    refine bodyPost_ret (v := .tuple #[rV (⟨0, 0⟩), .int .i64 (code)]) (by simp [results, Try.results32, go_sem, c_out, f_out, z_out]) rfl ?_
    exact ⟨by rw [HVB.out code HX.out HNZ.out, HX.out], HE.out⟩
  have HK := Lib.hid (Ck.ok_code hc)
  have HCZ := Lib.hid hc
  have l1 := HK.out.l1
  have l2 := HK.out.l2
  have HPA := Lib.hid (fun (W : World) => cpoint_any K A c R d a HA.out (by omega) l2 W)
  have HQA := Lib.hid (fun (h : pointB K.len a = true) => (point_q (by omega) l2).1 h)
  rw [hc] at HC
  clear hc l1 l2
  go_wp2_with fail
  refine (HC.out _ hB0.below).mono ?_
  rintro e w1 ⟨rfl, hb⟩
  have hB1 := hB0.next hb
  clear c_K z_K hb hB0
  cases hpa : pointB K.len a with
  | false =>
    have HX := Lib.hid (Ck.markC_arg (v := v) HCZ.out (fun q => by rw [hpa] at q; cases q.1))
    rw [hpa] at HPA
    clear hpa
    have c_out := fun j => cell_of_row _ _ j _ _ _ (hB1.get 0 rfl)
    have z_out := hB1.lt 0 rfl
    have c_v := fun j => cell_of_row _ _ j _ _ _ (hB1.get 1 rfl)
    have z_v := hB1.lt 1 rfl
    have c_a := fun j => cell_of_row _ _ j _ _ _ (hB1.get 2 rfl)
    have z_a := hB1.lt 2 rfl
    have c_K := fun j => cell_of_row _ _ j _ _ _ (hB1.get 3 rfl)
    have z_K := hB1.lt 3 rfl
    go_wp2_with fail
    refine (HPA.out _).mono ?_
    rintro e w2 ⟨rfl, hb⟩
    have hB2 := hB1.next hb
    clear c_out z_out c_v z_v c_a z_a c_K z_K hb hB1
    have c_out := fun j => cell_of_row _ _ j _ _ _ (hB2.get 0 rfl)
    have z_out := hB2.lt 0 rfl
    have f_out := fun j => frozen_of_row _ _ j _ _ (hB2.get 0 rfl)
    have c_v := fun j => cell_of_row _ _ j _ _ _ (hB2.get 1 rfl)
    have z_v := hB2.lt 1 rfl
    have c_a := fun j => cell_of_row _ _ j _ _ _ (hB2.get 2 rfl)
    have z_a := hB2.lt 2 rfl
    have c_K := fun j => cell_of_row _ _ j _ _ _ (hB2.get 3 rfl)
    have z_K := hB2.lt 3 rfl
    have HE := Lib.hid (hB2.put 0 rfl (⟨0, 0⟩)).below
    clear hB2
    go_wp2_with fail
    refine bodyPost_ret (v := .tuple #[rV (⟨0, 0⟩), .int .i64 (2)]) (by simp [results, Try.results32, go_sem, c_out, f_out, z_out]) rfl ?_
    exact ⟨by rw [HVB.out 2 HX.out (by decide), HX.out], HE.out⟩
  | true =>
  have HPa := Lib.hid hpa
  rw [hpa] at HPA
  clear hpa
  have c_out := fun j => cell_of_row _ _ j _ _ _ (hB1.get 0 rfl)
  have z_out := hB1.lt 0 rfl
  have c_v := fun j => cell_of_row _ _ j _ _ _ (hB1.get 1 rfl)
  have z_v := hB1.lt 1 rfl
  have c_a := fun j => cell_of_row _ _ j _ _ _ (hB1.get 2 rfl)
  have z_a := hB1.lt 2 rfl
  have c_K := fun j => cell_of_row _ _ j _ _ _ (hB1.get 3 rfl)
  have z_K := hB1.lt 3 rfl
  go_wp2_with fail
  refine (HPA.out _).mono ?_
  rintro e w2 ⟨rfl, hb⟩
  have hB2 := hB1.next hb
  clear c_out z_out c_v z_v c_a z_a c_K z_K hb hB1
  by_cases hcv : v.code = 0
  rotate_left
  · have q : (v.code != 0) = true := by simpa using hcv
    have HX := Lib.hid (Ck.markC_arg (a := a) (v := v) HCZ.out (fun q => hcv q.2.1))
    clear hcv
    generalize v.code = vc at *
    have c_out := fun j => cell_of_row _ _ j _ _ _ (hB2.get 0 rfl)
    have z_out := hB2.lt 0 rfl
    have c_v := fun j => cell_of_row _ _ j _ _ _ (hB2.get 1 rfl)
    have z_v := hB2.lt 1 rfl
    have c_a := fun j => cell_of_row _ _ j _ _ _ (hB2.get 2 rfl)
    have z_a := hB2.lt 2 rfl
    have c_K := fun j => cell_of_row _ _ j _ _ _ (hB2.get 3 rfl)
    have z_K := hB2.lt 3 rfl
    go_wp2_with fail
    refine (HCV.out _).mono ?_
    rintro e w3 ⟨rfl, hb⟩
    have hB3 := hB2.next hb
    clear c_out z_out c_v z_v c_a z_a c_K z_K hb hB2
    have c_out := fun j => cell_of_row _ _ j _ _ _ (hB3.get 0 rfl)
    have z_out := hB3.lt 0 rfl
    have f_out := fun j => frozen_of_row _ _ j _ _ (hB3.get 0 rfl)
    have c_v := fun j => cell_of_row _ _ j _ _ _ (hB3.get 1 rfl)
    have z_v := hB3.lt 1 rfl
    have c_a := fun j => cell_of_row _ _ j _ _ _ (hB3.get 2 rfl)
    have z_a := hB3.lt 2 rfl
    have c_K := fun j => cell_of_row _ _ j _ _ _ (hB3.get 3 rfl)
    have z_K := hB3.lt 3 rfl
    have HE := Lib.hid (hB3.put 0 rfl (⟨0, 0⟩)).below
    clear hB3
    go_wp2_with fail
    refine bodyPost_ret (v := .tuple #[rV (⟨0, 0⟩), .int .i64 (2)]) (by simp [results, Try.results32, go_sem, c_out, f_out, z_out]) rfl ?_
    exact ⟨by rw [HVB.out 2 HX.out (by decide), HX.out], HE.out⟩
  have HVO := Lib.hid (Rt.ok_code hcv)
  have HVC := Lib.hid hcv
  rw [hcv] at HCV
  clear hcv
  have c_out := fun j => cell_of_row _ _ j _ _ _ (hB2.get 0 rfl)
  have z_out := hB2.lt 0 rfl
  have c_v := fun j => cell_of_row _ _ j _ _ _ (hB2.get 1 rfl)
  have z_v := hB2.lt 1 rfl
  have c_a := fun j => cell_of_row _ _ j _ _ _ (hB2.get 2 rfl)
  have z_a := hB2.lt 2 rfl
  have c_K := fun j => cell_of_row _ _ j _ _ _ (hB2.get 3 rfl)
  have z_K := hB2.lt 3 rfl
  go_wp2_with fail
  refine (HCV.out _).mono ?_
  rintro e w3 ⟨rfl, hb⟩
  have hB3 := hB2.next hb
  clear c_out z_out c_v z_v c_a z_a c_K z_K hb hB2
  by_cases hn : v.n < 0
  · have q : decide (v.n < 0) = true := by simpa using hn
    have HX := Lib.hid (Ck.markC_arg (a := a) (v := v) HCZ.out (fun q => by have := q.2.2; omega))
    clear hn
    have c_out := fun j => cell_of_row _ _ j _ _ _ (hB3.get 0 rfl)
    have z_out := hB3.lt 0 rfl
    have f_out := fun j => frozen_of_row _ _ j _ _ (hB3.get 0 rfl)
    have c_v := fun j => cell_of_row _ _ j _ _ _ (hB3.get 1 rfl)
    have z_v := hB3.lt 1 rfl
    have c_a := fun j => cell_of_row _ _ j _ _ _ (hB3.get 2 rfl)
    have z_a := hB3.lt 2 rfl
    have c_K := fun j => cell_of_row _ _ j _ _ _ (hB3.get 3 rfl)
    have z_K := hB3.lt 3 rfl
    have HE := Lib.hid (hB3.put 0 rfl (⟨0, 0⟩)).below
    clear hB3
    go_wp2_with fail
    refine bodyPost_ret (v := .tuple #[rV (⟨0, 0⟩), .int .i64 (2)]) (by simp [results, Try.results32, go_sem, c_out, f_out, z_out]) rfl ?_
    exact ⟨by rw [HVB.out 2 HX.out (by decide), HX.out], HE.out⟩
  have q : decide (v.n < 0) = false := by simpa using hn
  by_cases hz : v.n = 0
  · have q2 : (v.n == 0) = true := by simpa using hz
    have HX := Lib.hid (Ck.mark_zero HCZ.out HPa.out HVC.out hz)
    clear hn hz
    have c_out := fun j => cell_of_row _ _ j _ _ _ (hB3.get 0 rfl)
    have z_out := hB3.lt 0 rfl
    have f_out := fun j => frozen_of_row _ _ j _ _ (hB3.get 0 rfl)
    have c_v := fun j => cell_of_row _ _ j _ _ _ (hB3.get 1 rfl)
    have z_v := hB3.lt 1 rfl
    have c_a := fun j => cell_of_row _ _ j _ _ _ (hB3.get 2 rfl)
    have z_a := hB3.lt 2 rfl
    have c_K := fun j => cell_of_row _ _ j _ _ _ (hB3.get 3 rfl)
    have z_K := hB3.lt 3 rfl
    have HE := Lib.hid (hB3.put 0 rfl (a)).below
    clear hB3
    go_wp2_with fail
    refine bodyPost_ret (v := .tuple #[rV (a), .int .i64 (0)]) (by simp [results, Try.results32, go_sem, c_out, f_out, z_out]) rfl ?_
    exact ⟨by rw [HX.out.1, HX.out.2], HE.out⟩
  have q2 : (v.n == 0) = false := by simpa using hz
  have HX := Lib.hid (Ck.markC_run HCZ.out HPa.out HVC.out (show 0 < v.n by omega))
  have HOK := Lib.hid (show K.markC a v = 0 → K.mark a v = (K.mTo a v K.dens.length).out from fun e => by unfold Ck.mark; rw [if_pos e, if_neg hz])
  have HVQ := Lib.hid ((num_q HVO.out).2.1 (show 0 < v.n by omega))
  clear hn hz
  have c_v := fun j => cell_of_row _ _ j _ _ _ (hB3.get 1 rfl)
  have z_v := hB3.lt 1 rfl
  go_upto_region 9 with fail
  have hB4 := hB3.new rfl (rB ⟨0, 0⟩)
  clear c_v z_v hB3
  generalize w3.heap.size = gU at *
  generalize w3.alloc _ = w4 at *
  go_upto_region 10 with fail
  have hB5 := hB4.new rfl (eB 6)
  clear hB4
  generalize w4.heap.size = gL at *
  generalize w4.alloc _ = w5 at *
  have hB6 := Bx.swap (P := [_, _, _]) (Q := [_]) hB5
  clear hB5
  have c_a := fun j => cell_of_row _ _ j _ _ _ (hB6.get 4 rfl)
  have z_a := hB6.lt 4 rfl
  have c_K := fun j => cell_of_row _ _ j _ _ _ (hB6.get 5 rfl)
  have z_K := hB6.lt 5 rfl
  go_wp2_with fail
  refine (cwalk_any K A c R d a v HK.out (HQA.out HPa.out).1 HVO.out (HQA.out HPa.out).2.1 HVQ.out gV gL gU _ w _ HH.out hB6).mono ?_
  rintro e w7 ⟨er, rfl, ⟨v', lt, ot, hB7, h1, h2⟩⟩
  clear c_a z_a c_K z_K hB6
  generalize K.mTo a v K.dens.length = ms at *
  have HX1 := Lib.hid h1
  have HX2 := Lib.hid h2
  clear h1 h2
  by_cases he : er ≠ 0
  · have eq : (er != 0) = true := by simpa using he
    have HNZ := Lib.hid he
    have HX3 := Lib.hid (show K.markC a v = er by rw [HX.out, ← HX1.out, if_pos he])
    clear he
    have c_lt := fun j => cell_of_row _ _ j _ _ _ (hB7.get 1 rfl)
    have z_lt := hB7.lt 1 rfl
    have f_lt := fun j => frozen_of_row _ _ j _ _ (hB7.get 1 rfl)
    go_upto_region 13 with fail
    have hB8 := hB7.putE 1 rfl (er)
    clear c_lt z_lt f_lt hB7
    generalize w7.setCell _ _ = w8 at *
    have c_lt := fun j => cell_of_row _ _ j _ _ _ (hB8.get 1 rfl)
    have z_lt := hB8.lt 1 rfl
    have c_out := fun j => cell_of_row _ _ j _ _ _ (hB8.get 3 rfl)
    have z_out := hB8.lt 3 rfl
    have f_out := fun j => frozen_of_row _ _ j _ _ (hB8.get 3 rfl)
    go_wp2_with fail
    clear c_lt z_lt c_out z_out f_out
    have n_lt := hB8.ne 1 3 rfl rfl (by decide)
    simp only at n_lt
    refine wp_region_flow_at w [gO] 4 (by kernel_rfl) (by rfl) hB8.below (fun wq hbq hbb => ?_)
    have hB9q := hB8.next hbq
    have hzg : w.heap.size ≤ gO := hB8.le 3 rfl
    clear hB8
    refine wpAnyE_go (w0 := w) (w1 := wq) (X := [gO]) (fun _ h => h) (RK.at0 hbb) [0, 1] 2 (by kernel_rfl) ?_
    apply Exists.intro
    refine ⟨fun G hG hN => ?_, ?_⟩
    · have c_lt := fun (e : GE (RK w wq [gO]) G) j => cell_of_row e.w _ j _ _ _ ((GE.h e).at (hB9q.get 1 rfl) (by simp [n_lt]))
      have z_lt := fun (e : GE (RK w wq [gO]) G) => lt_some ((GE.h e).at (hB9q.get 1 rfl) (by simp [n_lt]))
      simp only [pickOps, List.getElem?_toArray, List.getElem?_cons_zero, List.getElem?_cons_succ]
      repeat (first | go_big_quiet_step (fail) | quiet_step (fail))
      exact wpQuiet_nil rfl
    refine wpAnyE_all (rs := [2]) (by kernel_rfl) (by simp) (fun Wb hWb hRWb i hi => ?_)
    obtain rfl := List.mem_singleton.1 hi
    have hB9b := hB9q.next hWb
    clear hB9q
    have ck := fun j => cell_of_row _ _ j _ _ _ (hB9b.get 3 rfl)
    have fk := fun j => frozen_of_row _ _ j _ _ (hB9b.get 3 rfl)
    have zk := hB9b.lt 3 rfl
    refine wpOp_step rfl (fun K hK => ?_)
    go_simp
    refine hK _ _ ⟨(hRWb.set hzg (Or.inl (by simp))).set hzg (Or.inl (by simp)), ?_⟩
    clear hK K
    clear ck fk zk
    have hB9c := hB9b.put 3 rfl ((⟨0, 0⟩ : Rt))
    clear hB9b
    have hsc := (hRWb.set hzg (Or.inl (by simp)) (j := 0) (u := .int .i64 ((⟨0, 0⟩ : Rt)).n)).set hzg (Or.inl (by simp)) (j := 1) (u := .int .i64 ((⟨0, 0⟩ : Rt)).d)
    generalize (Wb.setCell _ _).setCell _ _ = Wd at *
    refine wpAnyE_go (w0 := w) (w1 := Wd) (X := [gO]) (RK.move hsc (by simp)) (RK.here hsc) [3] 0 (by kernel_rfl) ?_
    apply Exists.intro
    refine ⟨fun G hG hN => ?_, ?_⟩
    · simp only [pickOps, List.getElem?_toArray, List.getElem?_cons_zero, List.getElem?_cons_succ]
      repeat (first | go_big_quiet_step (fail) | quiet_step (fail))
      exact wpQuiet_nil rfl
    refine wpAnyE_done (by kernel_rfl) (fun Wc hWc hRWc => ?_) _
    refine NoPanic.normal ?_
    have hB9 := hB9c.next hWc
    clear hB9c hWb hWc hRWb hRWc hbq hbb hsc
    generalize Wc = w9 at *
    have c_out := fun j => cell_of_row _ _ j _ _ _ (hB9.get 3 rfl)
    have z_out := hB9.lt 3 rfl
    have f_out := fun j => frozen_of_row _ _ j _ _ (hB9.get 3 rfl)
    have HE := Lib.hid hB9.below
    clear hB9
    go_wp2_with fail
    refine bodyPost_ret (v := .tuple #[rV ⟨0, 0⟩, .int .i64 er]) (by simp [results, Try.results32, go_sem, c_out, f_out, z_out]) rfl ?_
    exact ⟨by rw [HVB.out er HX3.out HNZ.out, HX3.out], HE.out⟩
  have eq : (er != 0) = false := by simpa using he
  have HX3 := Lib.hid (show K.markC a v = lt by rw [HX.out, ← HX1.out, if_neg he])
  clear he
  by_cases hl : lt ≠ 0
  · have lq : (lt != 0) = true := by simpa using hl
    have HNZ := Lib.hid hl
    clear hl
    have c_lt := fun j => cell_of_row _ _ j _ _ _ (hB7.get 1 rfl)
    have z_lt := hB7.lt 1 rfl
    have c_out := fun j => cell_of_row _ _ j _ _ _ (hB7.get 3 rfl)
    have z_out := hB7.lt 3 rfl
    have f_out := fun j => frozen_of_row _ _ j _ _ (hB7.get 3 rfl)
    go_wp2_with fail
    clear c_lt z_lt c_out z_out f_out
    have n_lt := hB7.ne 1 3 rfl rfl (by decide)
    simp only at n_lt
    refine wp_region_flow_at w [gO] 4 (by kernel_rfl) (by rfl) hB7.below (fun wq hbq hbb => ?_)
    have hB8q := hB7.next hbq
    have hzg : w.heap.size ≤ gO := hB7.le 3 rfl
    clear hB7
    refine wpAnyE_go (w0 := w) (w1 := wq) (X := [gO]) (fun _ h => h) (RK.at0 hbb) [0, 1] 2 (by kernel_rfl) ?_
    apply Exists.intro
    refine ⟨fun G hG hN => ?_, ?_⟩
    · have c_lt := fun (e : GE (RK w wq [gO]) G) j => cell_of_row e.w _ j _ _ _ ((GE.h e).at (hB8q.get 1 rfl) (by simp [n_lt]))
      have z_lt := fun (e : GE (RK w wq [gO]) G) => lt_some ((GE.h e).at (hB8q.get 1 rfl) (by simp [n_lt]))
      simp only [pickOps, List.getElem?_toArray, List.getElem?_cons_zero, List.getElem?_cons_succ]
      repeat (first | go_big_quiet_step (fail) | quiet_step (fail))
      exact wpQuiet_nil rfl
    refine wpAnyE_all (rs := [2]) (by kernel_rfl) (by simp) (fun Wb hWb hRWb i hi => ?_)
    obtain rfl := List.mem_singleton.1 hi
    have hB8b := hB8q.next hWb
    clear hB8q
    have ck := fun j => cell_of_row _ _ j _ _ _ (hB8b.get 3 rfl)
    have fk := fun j => frozen_of_row _ _ j _ _ (hB8b.get 3 rfl)
    have zk := hB8b.lt 3 rfl
    refine wpOp_step rfl (fun K hK => ?_)
    go_simp
    refine hK _ _ ⟨(hRWb.set hzg (Or.inl (by simp))).set hzg (Or.inl (by simp)), ?_⟩
    clear hK K
    clear ck fk zk
    have hB8c := hB8b.put 3 rfl ((⟨0, 0⟩ : Rt))
    clear hB8b
    have hsc := (hRWb.set hzg (Or.inl (by simp)) (j := 0) (u := .int .i64 ((⟨0, 0⟩ : Rt)).n)).set hzg (Or.inl (by simp)) (j := 1) (u := .int .i64 ((⟨0, 0⟩ : Rt)).d)
    generalize (Wb.setCell _ _).setCell _ _ = Wd at *
    refine wpAnyE_go (w0 := w) (w1 := Wd) (X := [gO]) (RK.move hsc (by simp)) (RK.here hsc) [3] 0 (by kernel_rfl) ?_
    apply Exists.intro
    refine ⟨fun G hG hN => ?_, ?_⟩
    · simp only [pickOps, List.getElem?_toArray, List.getElem?_cons_zero, List.getElem?_cons_succ]
      repeat (first | go_big_quiet_step (fail) | quiet_step (fail))
      exact wpQuiet_nil rfl
    refine wpAnyE_done (by kernel_rfl) (fun Wc hWc hRWc => ?_) _
    refine NoPanic.normal ?_
    have hB8 := hB8c.next hWc
    clear hB8c hWb hWc hRWb hRWc hbq hbb hsc
    generalize Wc = w8 at *
    have c_out := fun j => cell_of_row _ _ j _ _ _ (hB8.get 3 rfl)
    have z_out := hB8.lt 3 rfl
    have f_out := fun j => frozen_of_row _ _ j _ _ (hB8.get 3 rfl)
    have HE := Lib.hid hB8.below
    clear hB8
    go_wp2_with fail
    refine bodyPost_ret (v := .tuple #[rV ⟨0, 0⟩, .int .i64 lt]) (by simp [results, Try.results32, go_sem, c_out, f_out, z_out]) rfl ?_
    exact ⟨by rw [HVB.out lt HX3.out HNZ.out, HX3.out], HE.out⟩
  have lq : (lt != 0) = false := by simpa using hl
  have HZ := Lib.hid (show K.markC a v = 0 by rw [HX3.out]; omega)
  have HU := Lib.hid (show K.mark a v = ot by rw [HOK.out HZ.out]; exact (HX2.out (by rw [← HX.out]; exact HZ.out)).symm)
  clear hl
  have c_v := fun j => cell_of_row _ _ j _ _ _ (hB7.get 0 rfl)
  have z_v := hB7.lt 0 rfl
  have c_lt := fun j => cell_of_row _ _ j _ _ _ (hB7.get 1 rfl)
  have z_lt := hB7.lt 1 rfl
  have c_ot := fun j => cell_of_row _ _ j _ _ _ (hB7.get 2 rfl)
  have z_ot := hB7.lt 2 rfl
  have c_out := fun j => cell_of_row _ _ j _ _ _ (hB7.get 3 rfl)
  have z_out := hB7.lt 3 rfl
  have f_out := fun j => frozen_of_row _ _ j _ _ (hB7.get 3 rfl)
  have c_a := fun j => cell_of_row _ _ j _ _ _ (hB7.get 4 rfl)
  have z_a := hB7.lt 4 rfl
  have c_K := fun j => cell_of_row _ _ j _ _ _ (hB7.get 5 rfl)
  have z_K := hB7.lt 5 rfl
  have HE := Lib.hid (hB7.put 3 rfl (ot)).below
  clear hB7
  go_wp2_with fail
  refine bodyPost_ret (v := .tuple #[rV (ot), .int .i64 (0)]) (by simp [results, Try.results32, go_sem, c_out, f_out, z_out]) rfl ?_
  exact ⟨by rw [HU.out, HZ.out], HE.out⟩
end Go.Proofs.Ytgcbmnohhbcfiaa
