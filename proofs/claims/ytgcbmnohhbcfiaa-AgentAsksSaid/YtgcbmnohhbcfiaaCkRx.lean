/- The reference's value of cakes, walked: Value. -/
import Derived.Test.YtgcbmnohhbcfiaaCkRv
namespace Go.Proofs.Ytgcbmnohhbcfiaa
open Go.RowKit Go.Deep
set_option linter.unusedVariables false
set_option linter.unusedSimpArgs false

set_option maxRecDepth 100000 in
set_option maxHeartbeats 32000000 in
theorem fvalue_any (K : Ck) (A : Option Addr) (c : Nat) (R : Option Addr) (d : Nat) (a b : Rt) (ha : a.wf) (hb : b.wf) (w : World) (h : CIn w.heap.size w A c R d K) :
    Calls Try.prog 115 #[cV A c R d K, rV a, rV b] w fun e w' => e = .returned (.tuple #[rV (K.val a b), .int .i64 (K.valC a b)]) ∧ Below w.heap.size w w' := by
  have hB0 : Bx w [(w.heap.size + 1 + 1 + 1, rB ⟨0, 0⟩), (w.heap.size + 1 + 1, rB b), (w.heap.size + 1, rB a), (w.heap.size, cB A c R d K)] ((((w.alloc (cB A c R d K)).alloc (rB a)).alloc (rB b)).alloc (rB ⟨0, 0⟩)) :=
    ((((Bx.start w).new rfl _).new (by simp) _).new (by simp) _).new (by simp) _
  have HH := Lib.hid h
  have HA := Lib.hid ha
  have HB := Lib.hid hb
  have HC := Lib.hid (fun (W : World) (hW : Below w.heap.size w W) => fckcheck_any K A c R d W (h.next hW))
  clear h ha hb
  go_enter Try.func115, Try.ntmps115
  go_upto_region 1 with fail
  generalize hw0 : (((w.alloc (cB A c R d K)).alloc (rB a)).alloc (rB b)).alloc (rB ⟨0, 0⟩) = w0 at *
  clear hw0
  generalize w.heap.size + 1 + 1 + 1 = gO at *
  generalize w.heap.size + 1 + 1 = gB at *
  generalize w.heap.size + 1 = gA at *
  have c_K := fun j => cell_of_row _ _ j _ _ _ (hB0.get 3 rfl)
  have z_K := hB0.lt 3 rfl
  by_cases hc : K.code = 0
  rotate_left
  · have q : (K.code != 0) = true := by simpa using hc
    have HV := Lib.hid (show K.valC a b = K.code ∧ K.val a b = ⟨0, 0⟩ by
      have e : K.valC a b = K.code := by unfold Ck.valC; rw [if_pos hc]
      exact ⟨e, by unfold Ck.val; rw [e, if_neg hc]⟩)
    generalize K.code = code at *
    clear hc
    go_wp2_with fail
    refine (HC.out _ hB0.below).mono ?_
    rintro e w1 ⟨rfl, hb⟩
    have hB1 := hB0.next hb
    clear c_K z_K hb hB0
    have c_out := fun j => cell_of_row _ _ j _ _ _ (hB1.get 0 rfl)
    have z_out := hB1.lt 0 rfl
    have c_b := fun j => cell_of_row _ _ j _ _ _ (hB1.get 1 rfl)
    have z_b := hB1.lt 1 rfl
    have c_a := fun j => cell_of_row _ _ j _ _ _ (hB1.get 2 rfl)
    have z_a := hB1.lt 2 rfl
    have c_K := fun j => cell_of_row _ _ j _ _ _ (hB1.get 3 rfl)
    have z_K := hB1.lt 3 rfl
    go_wp2_with fail
    refine (HC.out _ hB1.below).mono ?_
    rintro e w2 ⟨rfl, hb⟩
    have hB2 := hB1.next hb
    clear c_out z_out c_b z_b c_a z_a c_K z_K hb hB1
    have c_out := fun j => cell_of_row _ _ j _ _ _ (hB2.get 0 rfl)
    have z_out := hB2.lt 0 rfl
    have f_out := fun j => frozen_of_row _ _ j _ _ (hB2.get 0 rfl)
    have c_b := fun j => cell_of_row _ _ j _ _ _ (hB2.get 1 rfl)
    have z_b := hB2.lt 1 rfl
    have c_a := fun j => cell_of_row _ _ j _ _ _ (hB2.get 2 rfl)
    have z_a := hB2.lt 2 rfl
    have c_K := fun j => cell_of_row _ _ j _ _ _ (hB2.get 3 rfl)
    have z_K := hB2.lt 3 rfl
    have HE := Lib.hid (hB2.put 0 rfl ⟨0, 0⟩).below
    clear hB2
    go_wp2_with fail
    refine bodyPost_ret (v := .tuple #[rV ⟨0, 0⟩, .int .i64 (code)]) (by simp [results, Try.results115, go_sem, c_out, f_out, z_out]) rfl ?_
    exact ⟨by rw [HV.out.1, HV.out.2], HE.out⟩
  have HK := Lib.hid (Ck.ok_code hc)
  have HCZ := Lib.hid hc
  have l1 := HK.out.l1
  have l2 := HK.out.l2
  have HPA := Lib.hid (fun (W : World) => fpoint_any K.len a HA.out (by omega) l2 W)
  have HPB := Lib.hid (fun (W : World) => fpoint_any K.len b HB.out (by omega) l2 W)
  have HV0 := Lib.hid (show K.valC a b = if pointB K.len a = true ∧ pointB K.len b = true ∧ ltB b a = false then (K.vTo a b K.dens.length).e else 2 by unfold Ck.valC; rw [if_neg (by omega)])
  have HVB := Lib.hid (fun (x : Int) (e : K.valC a b = x) (hx : x ≠ 0) => Ck.val_bad e hx)
  rw [hc] at HC
  clear hc
  go_wp2_with fail
  refine (HC.out _ hB0.below).mono ?_
  rintro e w1 ⟨rfl, hb⟩
  have hB1 := hB0.next hb
  clear c_K z_K hb hB0
  have HQA := Lib.hid (fun (h : pointB K.len a = true) => (point_q (by omega) l2).1 h)
  have HQB := Lib.hid (fun (h : pointB K.len b = true) => (point_q (by omega) l2).1 h)
  cases hpa : pointB K.len a with
  | false =>
    have HX := Lib.hid (show K.valC a b = 2 by rw [HV0.out, if_neg (by rw [hpa]; simp)])
    rw [hpa] at HPA
    clear hpa
    have c_out := fun j => cell_of_row _ _ j _ _ _ (hB1.get 0 rfl)
    have z_out := hB1.lt 0 rfl
    have c_b := fun j => cell_of_row _ _ j _ _ _ (hB1.get 1 rfl)
    have z_b := hB1.lt 1 rfl
    have c_a := fun j => cell_of_row _ _ j _ _ _ (hB1.get 2 rfl)
    have z_a := hB1.lt 2 rfl
    have c_K := fun j => cell_of_row _ _ j _ _ _ (hB1.get 3 rfl)
    have z_K := hB1.lt 3 rfl
    go_wp2_with fail
    refine (HPA.out _).mono ?_
    rintro e w2 ⟨rfl, hb⟩
    have hB2 := hB1.next hb
    clear c_out z_out c_b z_b c_a z_a c_K z_K hb hB1
    have c_out := fun j => cell_of_row _ _ j _ _ _ (hB2.get 0 rfl)
    have z_out := hB2.lt 0 rfl
    have f_out := fun j => frozen_of_row _ _ j _ _ (hB2.get 0 rfl)
    have c_b := fun j => cell_of_row _ _ j _ _ _ (hB2.get 1 rfl)
    have z_b := hB2.lt 1 rfl
    have c_a := fun j => cell_of_row _ _ j _ _ _ (hB2.get 2 rfl)
    have z_a := hB2.lt 2 rfl
    have c_K := fun j => cell_of_row _ _ j _ _ _ (hB2.get 3 rfl)
    have z_K := hB2.lt 3 rfl
    have HE := Lib.hid (hB2.put 0 rfl ⟨0, 0⟩).below
    clear hB2
    go_wp2_with fail
    refine bodyPost_ret (v := .tuple #[rV ⟨0, 0⟩, .int .i64 (2)]) (by simp [results, Try.results115, go_sem, c_out, f_out, z_out]) rfl ?_
    exact ⟨by rw [HVB.out 2 HX.out (by decide), HX.out], HE.out⟩
  | true =>
  have HPa := Lib.hid hpa
  rw [hpa] at HPA
  clear hpa
  have c_out := fun j => cell_of_row _ _ j _ _ _ (hB1.get 0 rfl)
  have z_out := hB1.lt 0 rfl
  have c_b := fun j => cell_of_row _ _ j _ _ _ (hB1.get 1 rfl)
  have z_b := hB1.lt 1 rfl
  have c_a := fun j => cell_of_row _ _ j _ _ _ (hB1.get 2 rfl)
  have z_a := hB1.lt 2 rfl
  have c_K := fun j => cell_of_row _ _ j _ _ _ (hB1.get 3 rfl)
  have z_K := hB1.lt 3 rfl
  go_wp2_with fail
  refine (HPA.out _).mono ?_
  rintro e w2 ⟨rfl, hb⟩
  have hB2 := hB1.next hb
  clear c_out z_out c_b z_b c_a z_a c_K z_K hb hB1
  cases hpb : pointB K.len b with
  | false =>
    have HX := Lib.hid (show K.valC a b = 2 by rw [HV0.out, if_neg (by rw [hpb]; simp)])
    rw [hpb] at HPB
    clear hpb
    have c_out := fun j => cell_of_row _ _ j _ _ _ (hB2.get 0 rfl)
    have z_out := hB2.lt 0 rfl
    have c_b := fun j => cell_of_row _ _ j _ _ _ (hB2.get 1 rfl)
    have z_b := hB2.lt 1 rfl
    have c_a := fun j => cell_of_row _ _ j _ _ _ (hB2.get 2 rfl)
    have z_a := hB2.lt 2 rfl
    have c_K := fun j => cell_of_row _ _ j _ _ _ (hB2.get 3 rfl)
    have z_K := hB2.lt 3 rfl
    go_wp2_with fail
    refine (HPB.out _).mono ?_
    rintro e w3 ⟨rfl, hb⟩
    have hB3 := hB2.next hb
    clear c_out z_out c_b z_b c_a z_a c_K z_K hb hB2
    have c_out := fun j => cell_of_row _ _ j _ _ _ (hB3.get 0 rfl)
    have z_out := hB3.lt 0 rfl
    have f_out := fun j => frozen_of_row _ _ j _ _ (hB3.get 0 rfl)
    have c_b := fun j => cell_of_row _ _ j _ _ _ (hB3.get 1 rfl)
    have z_b := hB3.lt 1 rfl
    have c_a := fun j => cell_of_row _ _ j _ _ _ (hB3.get 2 rfl)
    have z_a := hB3.lt 2 rfl
    have c_K := fun j => cell_of_row _ _ j _ _ _ (hB3.get 3 rfl)
    have z_K := hB3.lt 3 rfl
    have HE := Lib.hid (hB3.put 0 rfl ⟨0, 0⟩).below
    clear hB3
    go_wp2_with fail
    refine bodyPost_ret (v := .tuple #[rV ⟨0, 0⟩, .int .i64 (2)]) (by simp [results, Try.results115, go_sem, c_out, f_out, z_out]) rfl ?_
    exact ⟨by rw [HVB.out 2 HX.out (by decide), HX.out], HE.out⟩
  | true =>
  have HPb := Lib.hid hpb
  rw [hpb] at HPB
  clear hpb
  have c_out := fun j => cell_of_row _ _ j _ _ _ (hB2.get 0 rfl)
  have z_out := hB2.lt 0 rfl
  have c_b := fun j => cell_of_row _ _ j _ _ _ (hB2.get 1 rfl)
  have z_b := hB2.lt 1 rfl
  have c_a := fun j => cell_of_row _ _ j _ _ _ (hB2.get 2 rfl)
  have z_a := hB2.lt 2 rfl
  have c_K := fun j => cell_of_row _ _ j _ _ _ (hB2.get 3 rfl)
  have z_K := hB2.lt 3 rfl
  go_wp2_with fail
  refine (HPB.out _).mono ?_
  rintro e w3 ⟨rfl, hb⟩
  have hB3 := hB2.next hb
  clear c_out z_out c_b z_b c_a z_a c_K z_K hb hB2
  have OA := Lib.hid (HQA.out HPa.out)
  have OB := Lib.hid (HQB.out HPb.out)
  have HLT := Lib.hid (fun (W : World) => flt_any b a OB.out.1 OA.out.1 W)
  clear HQA HQB HPA HPB
  cases hl : ltB b a with
  | true =>
    have HX := Lib.hid (show K.valC a b = 2 by rw [HV0.out, if_neg (by rw [hl]; simp)])
    rw [hl] at HLT
    clear hl
    have c_out := fun j => cell_of_row _ _ j _ _ _ (hB3.get 0 rfl)
    have z_out := hB3.lt 0 rfl
    have c_b := fun j => cell_of_row _ _ j _ _ _ (hB3.get 1 rfl)
    have z_b := hB3.lt 1 rfl
    have c_a := fun j => cell_of_row _ _ j _ _ _ (hB3.get 2 rfl)
    have z_a := hB3.lt 2 rfl
    have c_K := fun j => cell_of_row _ _ j _ _ _ (hB3.get 3 rfl)
    have z_K := hB3.lt 3 rfl
    go_wp2_with fail
    refine (HLT.out _).mono ?_
    rintro e w4 ⟨rfl, hb⟩
    have hB4 := hB3.next hb
    clear c_out z_out c_b z_b c_a z_a c_K z_K hb hB3
    have c_out := fun j => cell_of_row _ _ j _ _ _ (hB4.get 0 rfl)
    have z_out := hB4.lt 0 rfl
    have f_out := fun j => frozen_of_row _ _ j _ _ (hB4.get 0 rfl)
    have c_b := fun j => cell_of_row _ _ j _ _ _ (hB4.get 1 rfl)
    have z_b := hB4.lt 1 rfl
    have c_a := fun j => cell_of_row _ _ j _ _ _ (hB4.get 2 rfl)
    have z_a := hB4.lt 2 rfl
    have c_K := fun j => cell_of_row _ _ j _ _ _ (hB4.get 3 rfl)
    have z_K := hB4.lt 3 rfl
    have HE := Lib.hid (hB4.put 0 rfl ⟨0, 0⟩).below
    clear hB4
    go_wp2_with fail
    refine bodyPost_ret (v := .tuple #[rV ⟨0, 0⟩, .int .i64 (2)]) (by simp [results, Try.results115, go_sem, c_out, f_out, z_out]) rfl ?_
    exact ⟨by rw [HVB.out 2 HX.out (by decide), HX.out], HE.out⟩
  | false =>
  have HX := Lib.hid (Ck.valC_loop HCZ.out HPa.out HPb.out hl)
  rw [hl] at HLT
  have HAB := Lib.hid ((ltB_qf OB.out.1 OA.out.1).1 hl)
  clear hl
  have c_out := fun j => cell_of_row _ _ j _ _ _ (hB3.get 0 rfl)
  have z_out := hB3.lt 0 rfl
  have c_b := fun j => cell_of_row _ _ j _ _ _ (hB3.get 1 rfl)
  have z_b := hB3.lt 1 rfl
  have c_a := fun j => cell_of_row _ _ j _ _ _ (hB3.get 2 rfl)
  have z_a := hB3.lt 2 rfl
  have c_K := fun j => cell_of_row _ _ j _ _ _ (hB3.get 3 rfl)
  have z_K := hB3.lt 3 rfl
  go_wp2_with fail
  refine (HLT.out _).mono ?_
  rintro e w4 ⟨rfl, hb⟩
  have hB4 := hB3.next hb
  clear c_out z_out c_b z_b c_a z_a c_K z_K hb hB3
  go_upto_region 6 with fail
  have hB5 := hB4.new rfl (rB ⟨0, 1⟩)
  clear hB4
  generalize w4.heap.size = gS at *
  generalize w4.alloc _ = w5 at *
  have n1 := HK.out.n1
  have n2 := HK.out.n2
  go_wp2_with fail
  clear l1 l2
  have HB0 := Lib.hid hB5
  clear hB5
  go_loopw [9] (fun s9 wr => ∃ k : Nat, k ≤ K.dens.length ∧ s9 = .int .i64 k ∧ (K.vTo a b k).e = 0 ∧ Bx w [(gS, rB (K.vTo a b k).sum), (gO, rB ⟨0, 0⟩), (gB, rB b), (gA, rB a), (w.heap.size, cB A c R d K)] wr) (fun s9 _ => K.dens.length - (intOf s9).toNat)
  case atStart => exact ⟨0, Nat.zero_le _, rfl, rfl, HB0.out⟩
  case round =>
    obtain ⟨k, hk, rfl, he0, hBr⟩ := hrel
    by_cases hlt : k < K.dens.length
    rotate_left
    · obtain rfl : k = K.dens.length := by omega
      have HR := Lib.hid (show K.val a b = (K.vTo a b K.dens.length).sum ∧ K.valC a b = 0 by
        have e : K.valC a b = 0 := HX.out.trans he0
        exact ⟨by unfold Ck.val; rw [if_pos e], e⟩)
      generalize K.vTo a b K.dens.length = vs at *
      have c_sum := fun j => cell_of_row _ _ j _ _ _ (hBr.get 0 rfl)
      have z_sum := hBr.lt 0 rfl
      have c_out := fun j => cell_of_row _ _ j _ _ _ (hBr.get 1 rfl)
      have z_out := hBr.lt 1 rfl
      have f_out := fun j => frozen_of_row _ _ j _ _ (hBr.get 1 rfl)
      have c_K := fun j => cell_of_row _ _ j _ _ _ (hBr.get 4 rfl)
      have z_K := hBr.lt 4 rfl
      have HE := Lib.hid (hBr.put 1 rfl vs.sum).below
      clear hBr he0
      go_wp2_with fail
      refine bodyPost_ret (v := .tuple #[rV vs.sum, .int .i64 0]) (by simp [results, Try.results115, go_sem, c_out, f_out, z_out]) rfl ?_
      exact ⟨by rw [HR.out.1, HR.out.2], HE.out⟩
    have HVR := Lib.hid (vref HK.out OA.out.1 OB.out.1 HAB.out hlt (vTo_ok HK.out OA.out.1 OB.out.1 OA.out.2.1 HAB.out k hk) he0)
    have HSO := Lib.hid (vTo_ok HK.out OA.out.1 OB.out.1 OA.out.2.1 HAB.out k hk).sum
    have HWO := Lib.hid (wt_ok HK.out OA.out.1 OB.out.1 hlt)
    have HST := Lib.hid (show K.vTo a b (k + 1) = K.vStep b k (K.vTo a b k) from rfl)
    have HSY := Lib.hid (fun (h : (K.vTo a b (k + 1)).e ≠ 0) => vTo_stay h K.dens.length (by omega))
    have HW := Lib.hid (fun (W : World) (hW : Below w.heap.size w W) => fworth_any K A c R d k a b HK.out hlt OA.out.1 OB.out.1 W (HH.out.next hW))
    obtain ⟨s, hs⟩ : ∃ s, s = K.vTo a b k := ⟨_, rfl⟩
    rw [← hs] at HVR HSO HST hBr
    clear hs he0
    have z1 : (k : Int) < (K.dens.length : Int) := by omega
    have y1 : IntKind.i64.wrap ((k : Int) + 1) = (k : Int) + 1 := IntWalk.i64_in _ (by omega)
    have y1' : wrap64 ((k : Int) + 1) = (k : Int) + 1 := IntWalk.wrap64_in _ (by omega)
    have HLE := Lib.hid (show k + 1 ≤ K.dens.length by omega)
    have HME := Lib.hid (show K.dens.length - (k + 1) < K.dens.length - k by omega)
    obtain ⟨wv, hwv⟩ : ∃ x, x = K.wtR k a b := ⟨_, rfl⟩
    obtain ⟨wc, hwc⟩ : ∃ x, x = K.wtC k a b := ⟨_, rfl⟩
    obtain ⟨bad, sum_, go_⟩ := HVR.out
    rw [← hwv] at sum_ go_
    rw [← hwc] at sum_ go_ bad
    have HBAD := Lib.hid bad
    have HSUM := Lib.hid sum_
    have HGO := Lib.hid go_
    rw [← hwv, ← hwc] at HW HWO
    have hwo := HWO.out
    clear hwv hwc bad sum_ go_ HVR HWO n1 n2 hlt hk HB0
    have c_sum := fun j => cell_of_row _ _ j _ _ _ (hBr.get 0 rfl)
    have z_sum := hBr.lt 0 rfl
    have c_out := fun j => cell_of_row _ _ j _ _ _ (hBr.get 1 rfl)
    have z_out := hBr.lt 1 rfl
    have c_b := fun j => cell_of_row _ _ j _ _ _ (hBr.get 2 rfl)
    have z_b := hBr.lt 2 rfl
    have c_a := fun j => cell_of_row _ _ j _ _ _ (hBr.get 3 rfl)
    have z_a := hBr.lt 3 rfl
    have c_K := fun j => cell_of_row _ _ j _ _ _ (hBr.get 4 rfl)
    have z_K := hBr.lt 4 rfl
    go_wp2_with fail
    refine (HW.out _ hBr.below).mono ?_
    rintro e w21 ⟨rfl, hb⟩
    have hB21 := hBr.next hb
    clear c_sum z_sum c_out z_out c_b z_b c_a z_a c_K z_K hb hBr
    clear HW
    go_upto_region 10 with fail
    have hB22 := hB21.new rfl (rB wv)
    clear hB21
    generalize w21.heap.size = gW at *
    generalize w21.alloc _ = w22 at *
    rcases hwo with ⟨k1, k2⟩ | k1
    rotate_left
    · have lq : (wc != 0) = true := by rw [k1]; rfl
      have HNZ := Lib.hid (show wc ≠ 0 by omega)
      clear k1
      have HX2 := Lib.hid (show K.valC a b = wc by
        have e : (K.vTo a b (k + 1)).e = wc := by rw [HST.out, HBAD.out HNZ.out]
        rw [HX.out, HSY.out (by rw [e]; exact HNZ.out), e])
      have c_wt := fun j => cell_of_row _ _ j _ _ _ (hB22.get 0 rfl)
      have z_wt := hB22.lt 0 rfl
      have c_sum := fun j => cell_of_row _ _ j _ _ _ (hB22.get 1 rfl)
      have z_sum := hB22.lt 1 rfl
      have c_out := fun j => cell_of_row _ _ j _ _ _ (hB22.get 2 rfl)
      have z_out := hB22.lt 2 rfl
      have f_out := fun j => frozen_of_row _ _ j _ _ (hB22.get 2 rfl)
      have c_b := fun j => cell_of_row _ _ j _ _ _ (hB22.get 3 rfl)
      have z_b := hB22.lt 3 rfl
      have c_a := fun j => cell_of_row _ _ j _ _ _ (hB22.get 4 rfl)
      have z_a := hB22.lt 4 rfl
      have c_K := fun j => cell_of_row _ _ j _ _ _ (hB22.get 5 rfl)
      have z_K := hB22.lt 5 rfl
      have HE := Lib.hid (hB22.put 2 rfl ⟨0, 0⟩).below
      clear hB22
      go_wp2_with fail
      refine bodyPost_ret (v := .tuple #[rV ⟨0, 0⟩, .int .i64 wc]) (by simp [results, Try.results115, go_sem, c_out, f_out, z_out]) rfl ?_
      exact ⟨by rw [HVB.out wc HX2.out HNZ.out, HX2.out], HE.out⟩
    have lq : (wc != 0) = false := by rw [k1]; rfl
    have HAD := Lib.hid (fun (W : World) => fadd_any s.sum wv HSO.out.wf k2.wf W)
    have has := add_step HSO.out k2
    have HSUM2 := Lib.hid (HSUM.out k1)
    have HGO2 := Lib.hid (HGO.out k1)
    obtain ⟨S, hS⟩ : ∃ x, x = addR s.sum wv := ⟨_, rfl⟩
    obtain ⟨SC, hSC⟩ : ∃ x, x = addC s.sum wv := ⟨_, rfl⟩
    rw [← hSC] at HAD has HSUM2 HGO2
    rw [← hS] at HAD HGO2
    clear hS hSC k1 k2 HBAD HSUM HGO
    have c_wt := fun j => cell_of_row _ _ j _ _ _ (hB22.get 0 rfl)
    have z_wt := hB22.lt 0 rfl
    have c_sum := fun j => cell_of_row _ _ j _ _ _ (hB22.get 1 rfl)
    have z_sum := hB22.lt 1 rfl
    go_wp2_with fail
    refine (HAD.out _).mono ?_
    rintro e w23 ⟨rfl, hb⟩
    have hB23 := hB22.next hb
    clear c_wt z_wt c_sum z_sum hb hB22
    have c_sum := fun j => cell_of_row _ _ j _ _ _ (hB23.get 1 rfl)
    have z_sum := hB23.lt 1 rfl
    have f_sum := fun j => frozen_of_row _ _ j _ _ (hB23.get 1 rfl)
    go_upto_region 13 with fail
    have hB24 := hB23.put 1 rfl (S)
    clear c_sum z_sum f_sum hB23
    generalize (w23.setCell _ _).setCell _ _ = w24 at *
    rcases has with ⟨k1, k2, k3⟩ | k1
    rotate_left
    · have sq : (SC != 0) = true := by simp; omega
      have HNZ := Lib.hid (show SC ≠ 0 by omega)
      clear k1
      have HX2 := Lib.hid (show K.valC a b = SC by
        have e : (K.vTo a b (k + 1)).e = SC := by rw [HST.out, HSUM2.out HNZ.out]
        rw [HX.out, HSY.out (by rw [e]; exact HNZ.out), e])
      have c_wt := fun j => cell_of_row _ _ j _ _ _ (hB24.get 0 rfl)
      have z_wt := hB24.lt 0 rfl
      have c_sum := fun j => cell_of_row _ _ j _ _ _ (hB24.get 1 rfl)
      have z_sum := hB24.lt 1 rfl
      have c_out := fun j => cell_of_row _ _ j _ _ _ (hB24.get 2 rfl)
      have z_out := hB24.lt 2 rfl
      have f_out := fun j => frozen_of_row _ _ j _ _ (hB24.get 2 rfl)
      have c_b := fun j => cell_of_row _ _ j _ _ _ (hB24.get 3 rfl)
      have z_b := hB24.lt 3 rfl
      have c_a := fun j => cell_of_row _ _ j _ _ _ (hB24.get 4 rfl)
      have z_a := hB24.lt 4 rfl
      have c_K := fun j => cell_of_row _ _ j _ _ _ (hB24.get 5 rfl)
      have z_K := hB24.lt 5 rfl
      have HE := Lib.hid (hB24.put 2 rfl ⟨0, 0⟩).below
      clear hB24
      go_wp2_with fail
      refine bodyPost_ret (v := .tuple #[rV ⟨0, 0⟩, .int .i64 SC]) (by simp [results, Try.results115, go_sem, c_out, f_out, z_out]) rfl ?_
      exact ⟨by rw [HVB.out SC HX2.out HNZ.out, HX2.out], HE.out⟩
    have sq : (SC != 0) = false := by rw [k1]; rfl
    have HG := Lib.hid (HGO2.out k1)
    have HZ := Lib.hid hB24.drop
    clear k1 k2 k3 hB24
    go_wp2_with fail
    exact ⟨⟨k + 1, HLE.out, by go_num, by rw [HST.out]; exact HG.out.1, by rw [HST.out, HG.out.2]; exact HZ.out⟩, by simpa [intOf] using HME.out⟩
end Go.Proofs.Ytgcbmnohhbcfiaa
