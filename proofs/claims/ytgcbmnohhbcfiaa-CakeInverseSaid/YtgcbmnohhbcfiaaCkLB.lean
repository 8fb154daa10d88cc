/- CakeInverse returns true. -/
import Derived.Test.YtgcbmnohhbcfiaaCkLA
namespace Go.Proofs.Ytgcbmnohhbcfiaa
open Go.RowKit Go.Deep
set_option linter.unusedVariables false
set_option linter.unusedSimpArgs false

theorem q_le_int {p : Rt} {n : Int} (h : p.q ≤ (n : Rat)) : p.q ≤ (n : Rat) := h
set_option maxRecDepth 100000 in
set_option maxHeartbeats 32000000 in
theorem inverse_walk (K : Ck) (A : Option Addr) (c : Nat) (R : Option Addr) (d : Nat) (a b v f : Rt) (ha : a.wf) (hb : b.wf) (hv : v.wf) (hf : f.wf) (w : World) (h : CIn w.heap.size w A c R d K) :
    Calls Try.prog 5 #[cV A c R d K, rV a, rV b, rV v, rV f] w fun e w' => e = .returned (.bool true) ∧ Below w.heap.size w w' := by
  have hB0 : Bx w [(w.heap.size + 1 + 1 + 1 + 1, rB f), (w.heap.size + 1 + 1 + 1, rB v), (w.heap.size + 1 + 1, rB b), (w.heap.size + 1, rB a), (w.heap.size, cB A c R d K)] (((((w.alloc (cB A c R d K)).alloc (rB a)).alloc (rB b)).alloc (rB v)).alloc (rB f)) :=
    (((((Bx.start w).new rfl _).new (by simp) _).new (by simp) _).new (by simp) _).new (by simp) _
  have H1 := Lib.hid (fun (W : World) (hW : Below w.heap.size w W) => valid_any K A c R d a b ha hb W (h.next hW))
  have H2 := Lib.hid (fun (W : World) (hW : Below w.heap.size w W) => valid_any K A c R d a f ha hf W (h.next hW))
  have H3 := Lib.hid (fun (W : World) => fcheck_any v hv W)
  have HM := Lib.hid (fun (z : Rt) (hz : z.wf) (W : World) (hW : Below w.heap.size w W) => cmark_any K A c R d a z ha hz W (h.next hW))
  have HV := Lib.hid (fun (z : Rt) (hz : z.wf) (W : World) (hW : Below w.heap.size w W) => cvalue_any K A c R d a z ha hz W (h.next hW))
  clear h ha hb hf hv
  go_enter Try.func5, Try.ntmps5
  try dsimp only [List.append]
  go_upto_region 1 with fail
  generalize hw0 : ((((w.alloc (cB A c R d K)).alloc (rB a)).alloc (rB b)).alloc (rB v)).alloc (rB f) = w0 at *
  clear hw0
  generalize w.heap.size + 1 + 1 + 1 + 1 = gF at *
  generalize w.heap.size + 1 + 1 + 1 = gV at *
  generalize w.heap.size + 1 + 1 = gB at *
  generalize w.heap.size + 1 = gA at *
  have c_f := fun j => cell_of_row _ _ j _ _ _ (hB0.get 0 rfl)
  have z_f := hB0.lt 0 rfl
  have c_v := fun j => cell_of_row _ _ j _ _ _ (hB0.get 1 rfl)
  have z_v := hB0.lt 1 rfl
  have c_b := fun j => cell_of_row _ _ j _ _ _ (hB0.get 2 rfl)
  have z_b := hB0.lt 2 rfl
  have c_a := fun j => cell_of_row _ _ j _ _ _ (hB0.get 3 rfl)
  have z_a := hB0.lt 3 rfl
  have c_K := fun j => cell_of_row _ _ j _ _ _ (hB0.get 4 rfl)
  have z_K := hB0.lt 4 rfl
  cases hv : validB K a b with
  | false =>
    rw [hv] at H1
    clear hv
    go_wp2_with fail
    refine (H1.out _ hB0.below).mono ?_
    rintro e w1 ⟨rfl, hb⟩
    have hB1 := hB0.next hb
    clear c_f z_f c_v z_v c_b z_b c_a z_a c_K z_K hb hB0
    have c_f := fun j => cell_of_row _ _ j _ _ _ (hB1.get 0 rfl)
    have z_f := hB1.lt 0 rfl
    have c_v := fun j => cell_of_row _ _ j _ _ _ (hB1.get 1 rfl)
    have z_v := hB1.lt 1 rfl
    have c_b := fun j => cell_of_row _ _ j _ _ _ (hB1.get 2 rfl)
    have z_b := hB1.lt 2 rfl
    have c_a := fun j => cell_of_row _ _ j _ _ _ (hB1.get 3 rfl)
    have z_a := hB1.lt 3 rfl
    have c_K := fun j => cell_of_row _ _ j _ _ _ (hB1.get 4 rfl)
    have z_K := hB1.lt 4 rfl
    go_wp2_with fail
    refine (alive_any _).mono ?_
    rintro e w2 ⟨rfl, hb⟩
    have hB2 := hB1.next hb
    clear c_f z_f c_v z_v c_b z_b c_a z_a c_K z_K hb hB1
    have HE := Lib.hid hB2.below
    clear hB2
    go_wp2_with fail
    go_ret
    exact ⟨rfl, HE.out⟩
  | true =>
  have O := Lib.hid (validB_ok hv)
  rw [hv] at H1
  clear hv
  go_wp2_with fail
  refine (H1.out _ hB0.below).mono ?_
  rintro e w1 ⟨rfl, hb⟩
  have hB1 := hB0.next hb
  clear c_f z_f c_v z_v c_b z_b c_a z_a c_K z_K hb hB0
  have c_f := fun j => cell_of_row _ _ j _ _ _ (hB1.get 0 rfl)
  have z_f := hB1.lt 0 rfl
  have c_v := fun j => cell_of_row _ _ j _ _ _ (hB1.get 1 rfl)
  have z_v := hB1.lt 1 rfl
  have c_b := fun j => cell_of_row _ _ j _ _ _ (hB1.get 2 rfl)
  have z_b := hB1.lt 2 rfl
  have c_a := fun j => cell_of_row _ _ j _ _ _ (hB1.get 3 rfl)
  have z_a := hB1.lt 3 rfl
  have c_K := fun j => cell_of_row _ _ j _ _ _ (hB1.get 4 rfl)
  have z_K := hB1.lt 4 rfl
  by_cases hc : v.code = 0
  rotate_left
  · have q : (v.code != 0) = true := by simpa using hc
    clear hc
    generalize v.code = vc at *
    go_wp2_with fail
    refine (H3.out _).mono ?_
    rintro e w2 ⟨rfl, hb⟩
    have hB2 := hB1.next hb
    clear c_f z_f c_v z_v c_b z_b c_a z_a c_K z_K hb hB1
    have c_f := fun j => cell_of_row _ _ j _ _ _ (hB2.get 0 rfl)
    have z_f := hB2.lt 0 rfl
    have c_v := fun j => cell_of_row _ _ j _ _ _ (hB2.get 1 rfl)
    have z_v := hB2.lt 1 rfl
    have c_b := fun j => cell_of_row _ _ j _ _ _ (hB2.get 2 rfl)
    have z_b := hB2.lt 2 rfl
    have c_a := fun j => cell_of_row _ _ j _ _ _ (hB2.get 3 rfl)
    have z_a := hB2.lt 3 rfl
    have c_K := fun j => cell_of_row _ _ j _ _ _ (hB2.get 4 rfl)
    have z_K := hB2.lt 4 rfl
    go_wp2_with fail
    refine (alive_any _).mono ?_
    rintro e w3 ⟨rfl, hb⟩
    have hB3 := hB2.next hb
    clear c_f z_f c_v z_v c_b z_b c_a z_a c_K z_K hb hB2
    have HE := Lib.hid hB3.below
    clear hB3
    go_wp2_with fail
    go_ret
    exact ⟨rfl, HE.out⟩
  have OV := Lib.hid (Rt.ok_code hc)
  rw [hc] at H3
  clear hc
  go_wp2_with fail
  refine (H3.out _).mono ?_
  rintro e w2 ⟨rfl, hb⟩
  have hB2 := hB1.next hb
  clear c_f z_f c_v z_v c_b z_b c_a z_a c_K z_K hb hB1
  have c_f := fun j => cell_of_row _ _ j _ _ _ (hB2.get 0 rfl)
  have z_f := hB2.lt 0 rfl
  have c_v := fun j => cell_of_row _ _ j _ _ _ (hB2.get 1 rfl)
  have z_v := hB2.lt 1 rfl
  have c_b := fun j => cell_of_row _ _ j _ _ _ (hB2.get 2 rfl)
  have z_b := hB2.lt 2 rfl
  have c_a := fun j => cell_of_row _ _ j _ _ _ (hB2.get 3 rfl)
  have z_a := hB2.lt 3 rfl
  have c_K := fun j => cell_of_row _ _ j _ _ _ (hB2.get 4 rfl)
  have z_K := hB2.lt 4 rfl
  by_cases hn : v.n < 0
  · have q : decide (v.n < 0) = true := by simpa using hn
    clear hn
    go_wp2_with fail
    refine (alive_any _).mono ?_
    rintro e w3 ⟨rfl, hb⟩
    have hB3 := hB2.next hb
    clear c_f z_f c_v z_v c_b z_b c_a z_a c_K z_K hb hB2
    have HE := Lib.hid hB3.below
    clear hB3
    go_wp2_with fail
    go_ret
    exact ⟨rfl, HE.out⟩
  have q : decide (v.n < 0) = false := by simpa using hn
  have v0 := (num_q OV.out).1.1 (show 0 ≤ v.n by omega)
  clear hn
  have HK := Lib.hid O.out.1
  have oa := O.out.2.1
  have ob := O.out.2.2.1
  have qa := O.out.2.2.2.1
  have qab := O.out.2.2.2.2.1
  have qbl := O.out.2.2.2.2.2
  have al : a.q ≤ (K.len : Rat) := by grind
  have HL2 := Lib.hid HK.out.l2
  have HL1 := Lib.hid HK.out.l1
  have LW := Lib.hid (len_ok (n := K.len) (by have := HL1.out; omega) (by have := HL2.out; omega))
  have MC := Lib.hid (HK.out.mark_ok oa OV.out qa al v0).c
  have M1 := Lib.hid (fun h => mark_val HK.out oa OV.out qa al v0 h)
  have M2 := Lib.hid (fun h (of_ : f.Ok) h1 h2 h3 h4 => mark_before (p := f) HK.out oa OV.out of_ qa al v0 h h1 h2 h3 h4)
  have M3 := Lib.hid (fun h z => mark_none HK.out oa OV.out qa al v0 h z)
  have VL := Lib.hid (HK.out.val_ok (b := ⟨K.len, 1⟩) oa LW.out qa (by rw [whole_q]; exact al) (by rw [whole_q]; grind))
  have VC := Lib.hid (HK.out.val_ok oa ob qa qab qbl).c
  have VM := Lib.hid (fun z => val_mark HK.out oa ob qa qab qbl z)
  have VF := Lib.hid (fun (of_ : f.Ok) h1 h2 => HK.out.val_ok (b := f) oa of_ qa h1 h2)
  have VQ := Lib.hid (fun h => (HK.out.mark_ok oa (VM.out h).1 qa al (by have := (num_q (VM.out h).1).1.1 (val_nonneg HK.out oa ob qa qab qbl h); exact this)).m)
  have VQV := Lib.hid (fun h k => mark_val HK.out oa (VM.out h).1 qa al ((num_q (VM.out h).1).1.1 (val_nonneg HK.out oa ob qa qab qbl h)) k)
  have HMV := Lib.hid (fun (W : World) (hW : Below w.heap.size w W) => HM.out v OV.out.wf W hW)
  have HVB := Lib.hid (fun (W : World) (hW : Below w.heap.size w W) => HV.out b ob.wf W hW)
  have OA := Lib.hid oa
  have OB := Lib.hid ob
  clear oa ob qa qab qbl al v0
  obtain ⟨p, hp⟩ : ∃ t, t = K.mark a v := ⟨_, rfl⟩
  obtain ⟨pc, hpc⟩ : ∃ t, t = K.markC a v := ⟨_, rfl⟩
  rw [← hp, ← hpc] at HMV M1
  rw [← hpc] at MC M3
  rw [← hp, ← hpc] at M2
  clear hp hpc
  go_wp2_with fail
  refine (HMV.out _ hB2.below).mono ?_
  rintro e w3 ⟨rfl, hb⟩
  have hB3 := hB2.next hb
  clear c_f z_f c_v z_v c_b z_b c_a z_a c_K z_K hb hB2
  go_upto_region 4 with fail
  have hB4 := hB3.new rfl (rB p)
  clear hB3
  generalize w3.heap.size = gP at *
  generalize w3.alloc _ = w4 at *
  rcases MC.out with rfl | rfl | rfl
  · have MV := Lib.hid (M1.out rfl)
    have MB := Lib.hid (M2.out rfl)
    have HVP := Lib.hid (fun (W : World) (hW : Below w.heap.size w W) => HV.out p MV.out.1.wf W hW)
    have PT := Lib.hid (show pointB K.len p = true from (point_q (by have := HL1.out; omega) HL2.out).2 ⟨MV.out.1, by have := O.out.2.2.2.1; have := MV.out.2.1; grind, MV.out.2.2.1⟩)
    have HPT := Lib.hid (fun (W : World) => fpoint_any K.len p MV.out.1.wf (by have := HL1.out; omega) HL2.out W)
    rw [PT.out] at HPT
    have HLP := Lib.hid (fun (W : World) => flt_any p a MV.out.1 OA.out W)
    rw [(ltB_qf MV.out.1 OA.out).2 MV.out.2.1] at HLP
    obtain ⟨vv, hvv⟩ : ∃ t, t = K.val a p := ⟨_, rfl⟩
    obtain ⟨vc, hvc⟩ : ∃ t, t = K.valC a p := ⟨_, rfl⟩
    rw [← hvv, ← hvc] at HVP MV
    clear hvv hvc
    have c_p := fun j => cell_of_row _ _ j _ _ _ (hB4.get 0 rfl)
    have z_p := hB4.lt 0 rfl
    have c_a := fun j => cell_of_row _ _ j _ _ _ (hB4.get 4 rfl)
    have z_a := hB4.lt 4 rfl
    have c_K := fun j => cell_of_row _ _ j _ _ _ (hB4.get 5 rfl)
    have z_K := hB4.lt 5 rfl
    go_wp2_with fail
    refine (HVP.out _ hB4.below).mono ?_
    rintro e w5 ⟨rfl, hb⟩
    have hB5 := hB4.next hb
    clear c_p z_p c_a z_a c_K z_K hb hB4
    go_upto_region 6 with fail
    have hB6 := hB5.new rfl (rB vv)
    clear hB5
    generalize w5.heap.size = gV2 at *
    generalize w5.alloc _ = w6 at *
    rcases MV.out.2.2.2.1 with rfl | rfl
    · obtain rfl := (MV.out.2.2.2.2 rfl).symm
      have c_w := fun j => cell_of_row _ _ j _ _ _ (hB6.get 0 rfl)
      have z_w := hB6.lt 0 rfl
      have c_p := fun j => cell_of_row _ _ j _ _ _ (hB6.get 1 rfl)
      have z_p := hB6.lt 1 rfl
      have c_v := fun j => cell_of_row _ _ j _ _ _ (hB6.get 3 rfl)
      have z_v := hB6.lt 3 rfl
      have c_a := fun j => cell_of_row _ _ j _ _ _ (hB6.get 5 rfl)
      have z_a := hB6.lt 5 rfl
      have c_K := fun j => cell_of_row _ _ j _ _ _ (hB6.get 6 rfl)
      have z_K := hB6.lt 6 rfl
      go_wp2_with fail
      refine (HPT.out _).mono ?_
      rintro e w7 ⟨rfl, hb⟩
      have hB7 := hB6.next hb
      clear c_w z_w c_p z_p c_v z_v c_a z_a c_K z_K hb hB6
      have c_p := fun j => cell_of_row _ _ j _ _ _ (hB7.get 1 rfl)
      have z_p := hB7.lt 1 rfl
      have c_a := fun j => cell_of_row _ _ j _ _ _ (hB7.get 5 rfl)
      have z_a := hB7.lt 5 rfl
      go_wp2_with fail
      refine (HLP.out _).mono ?_
      rintro e w8 ⟨rfl, hb⟩
      have hB8 := hB7.next hb
      clear c_p z_p c_a z_a hb hB7
      have c_p := fun j => cell_of_row _ _ j _ _ _ (hB8.get 1 rfl)
      have z_p := hB8.lt 1 rfl
      have c_f := fun j => cell_of_row _ _ j _ _ _ (hB8.get 2 rfl)
      have z_f := hB8.lt 2 rfl
      have c_a := fun j => cell_of_row _ _ j _ _ _ (hB8.get 5 rfl)
      have z_a := hB8.lt 5 rfl
      have c_K := fun j => cell_of_row _ _ j _ _ _ (hB8.get 6 rfl)
      have z_K := hB8.lt 6 rfl
      cases hv : validB K a f with
      | false =>
        rw [hv] at H2
        clear hv
        go_wp2_with fail
        refine (H2.out _ hB8.below).mono ?_
        rintro e w9 ⟨rfl, hb⟩
        have hB9 := hB8.next hb
        clear c_p z_p c_f z_f c_a z_a c_K z_K hb hB8
        clear MV MB HVP PT HPT HLP
        clear M1 M2 M3 MC HMV VL VF
        have c_b := fun j => cell_of_row _ _ j _ _ _ (hB9.get 4 rfl)
        have z_b := hB9.lt 4 rfl
        have c_a := fun j => cell_of_row _ _ j _ _ _ (hB9.get 5 rfl)
        have z_a := hB9.lt 5 rfl
        have c_K := fun j => cell_of_row _ _ j _ _ _ (hB9.get 6 rfl)
        have z_K := hB9.lt 6 rfl
        obtain ⟨ww, hww⟩ : ∃ t, t = K.val a b := ⟨_, rfl⟩
        obtain ⟨wc, hwc⟩ : ∃ t, t = K.valC a b := ⟨_, rfl⟩
        rw [← hww, ← hwc] at HVB VM VQV VQ
        rw [← hwc] at VC
        clear hww hwc
        go_wp2_with fail
        refine (HVB.out _ hB9.below).mono ?_
        rintro e w10 ⟨rfl, hb⟩
        have hB10 := hB9.next hb
        clear c_b z_b c_a z_a c_K z_K hb hB9
        go_upto_region 19 with fail
        have hB11 := hB10.new rfl (rB ww)
        clear hB10
        generalize w10.heap.size = gW at *
        generalize w10.alloc _ = w11 at *
        rcases VC.out with rfl | rfl
        rotate_left
        · go_wp2_with fail
          refine (alive_any _).mono ?_
          rintro e w12 ⟨rfl, hb⟩
          have hB12 := hB11.next hb
          clear hb hB11
          have HE := Lib.hid hB12.below
          clear hB12
          go_wp2_with fail
          go_ret
          exact ⟨rfl, HE.out⟩
        have VM1 := Lib.hid (VM.out rfl)
        have VQ1 := Lib.hid (VQ.out rfl)
        have VV1 := Lib.hid (VQV.out rfl)
        clear VM VQ VQV
        have HMW := Lib.hid (fun (W : World) (hW : Below w.heap.size w W) => HM.out ww VM1.out.1.wf W hW)
        obtain ⟨q', hq'⟩ : ∃ t, t = K.mark a ww := ⟨_, rfl⟩
        obtain ⟨qc, hqc⟩ : ∃ t, t = K.markC a ww := ⟨_, rfl⟩
        rw [← hq', ← hqc] at HMW VM1 VQ1 VV1
        clear hq' hqc
        have c_w := fun j => cell_of_row _ _ j _ _ _ (hB11.get 0 rfl)
        have z_w := hB11.lt 0 rfl
        have c_a := fun j => cell_of_row _ _ j _ _ _ (hB11.get 6 rfl)
        have z_a := hB11.lt 6 rfl
        have c_K := fun j => cell_of_row _ _ j _ _ _ (hB11.get 7 rfl)
        have z_K := hB11.lt 7 rfl
        go_wp2_with fail
        refine (HMW.out _ hB11.below).mono ?_
        rintro e w12 ⟨rfl, hb⟩
        have hB12 := hB11.next hb
        clear c_w z_w c_a z_a c_K z_K hb hB11
        go_upto_region 22 with fail
        have hB13 := hB12.new rfl (rB q')
        clear hB12
        generalize w12.heap.size = gQ at *
        generalize w12.alloc _ = w13 at *
        rcases VM1.out.2.1 with rfl | rfl
        rotate_left
        · go_wp2_with fail
          refine (alive_any _).mono ?_
          rintro e w14 ⟨rfl, hb⟩
          have hB14 := hB13.next hb
          clear hb hB13
          have HE := Lib.hid hB14.below
          clear hB14
          go_wp2_with fail
          go_ret
          exact ⟨rfl, HE.out⟩
        have QO := Lib.hid (VQ1.out rfl).1
        have QL := Lib.hid (VM1.out.2.2 rfl)
        have QV := Lib.hid (VV1.out rfl).2.2.2
        have HVQ := Lib.hid (fun (W : World) (hW : Below w.heap.size w W) => HV.out q' QO.out.wf W hW)
        have HLT := Lib.hid (fun (W : World) => flt_any b q' OB.out QO.out W)
        rw [(ltB_qf OB.out QO.out).2 QL.out] at HLT
        obtain ⟨xx, hxx⟩ : ∃ t, t = K.val a q' := ⟨_, rfl⟩
        obtain ⟨xc, hxc⟩ : ∃ t, t = K.valC a q' := ⟨_, rfl⟩
        rw [← hxx, ← hxc] at HVQ QV
        clear hxx hxc VM1 VQ1 VV1
        have c_q := fun j => cell_of_row _ _ j _ _ _ (hB13.get 0 rfl)
        have z_q := hB13.lt 0 rfl
        have c_a := fun j => cell_of_row _ _ j _ _ _ (hB13.get 7 rfl)
        have z_a := hB13.lt 7 rfl
        have c_K := fun j => cell_of_row _ _ j _ _ _ (hB13.get 8 rfl)
        have z_K := hB13.lt 8 rfl
        go_wp2_with fail
        refine (HVQ.out _ hB13.below).mono ?_
        rintro e w14 ⟨rfl, hb⟩
        have hB14 := hB13.next hb
        clear c_q z_q c_a z_a c_K z_K hb hB13
        go_upto_region 25 with fail
        have hB15 := hB14.new rfl (rB xx)
        clear hB14
        generalize w14.heap.size = gX at *
        generalize w14.alloc _ = w15 at *
        have c_q := fun j => cell_of_row _ _ j _ _ _ (hB15.get 1 rfl)
        have z_q := hB15.lt 1 rfl
        have c_b := fun j => cell_of_row _ _ j _ _ _ (hB15.get 7 rfl)
        have z_b := hB15.lt 7 rfl
        go_wp2_with fail
        refine (HLT.out _).mono ?_
        rintro e w16 ⟨rfl, hb⟩
        have hB16 := hB15.next hb
        clear c_q z_q c_b z_b hb hB15
        rcases QV.out.1 with rfl | rfl
        · obtain rfl := QV.out.2 rfl
          have c_x := fun j => cell_of_row _ _ j _ _ _ (hB16.get 0 rfl)
          have z_x := hB16.lt 0 rfl
          have c_w := fun j => cell_of_row _ _ j _ _ _ (hB16.get 2 rfl)
          have z_w := hB16.lt 2 rfl
          go_wp2_with fail
          refine (alive_any _).mono ?_
          rintro e w17 ⟨rfl, hb⟩
          have hB17 := hB16.next hb
          clear c_x z_x c_w z_w hb hB16
          have HE := Lib.hid hB17.below
          clear hB17
          go_wp2_with fail
          go_ret
          exact ⟨rfl, HE.out⟩
        · have c_x := fun j => cell_of_row _ _ j _ _ _ (hB16.get 0 rfl)
          have z_x := hB16.lt 0 rfl
          have c_w := fun j => cell_of_row _ _ j _ _ _ (hB16.get 2 rfl)
          have z_w := hB16.lt 2 rfl
          go_wp2_with fail
          refine (alive_any _).mono ?_
          rintro e w17 ⟨rfl, hb⟩
          have hB17 := hB16.next hb
          clear c_x z_x c_w z_w hb hB16
          have HE := Lib.hid hB17.below
          clear hB17
          go_wp2_with fail
          go_ret
          exact ⟨rfl, HE.out⟩
      | true =>
      have OF := Lib.hid (validB_ok hv)
      rw [hv] at H2
      clear hv
      have HLF := Lib.hid (fun (W : World) => flt_any f p OF.out.2.2.1 MV.out.1 W)
      have HVF := Lib.hid (fun (W : World) (hW : Below w.heap.size w W) => HV.out f OF.out.2.2.1.wf W hW)
      have VFC := Lib.hid (VF.out OF.out.2.2.1 OF.out.2.2.2.2.1 OF.out.2.2.2.2.2)
      have MBF := Lib.hid (fun (h : f.q < p.q) => MB.out OF.out.2.2.1 OF.out.2.2.2.2.1 OF.out.2.2.2.2.2 h)
      go_wp2_with fail
      refine (H2.out _ hB8.below).mono ?_
      rintro e w9 ⟨rfl, hb⟩
      have hB9 := hB8.next hb
      clear c_p z_p c_f z_f c_a z_a c_K z_K hb hB8
      have c_p := fun j => cell_of_row _ _ j _ _ _ (hB9.get 1 rfl)
      have z_p := hB9.lt 1 rfl
      have c_f := fun j => cell_of_row _ _ j _ _ _ (hB9.get 2 rfl)
      have z_f := hB9.lt 2 rfl
      cases hl : ltB f p with
      | false =>
        rw [hl] at HLF
        clear hl
        go_wp2_with fail
        refine (HLF.out _).mono ?_
        rintro e w10 ⟨rfl, hb⟩
        have hB10 := hB9.next hb
        clear c_p z_p c_f z_f hb hB9
        clear MV MB HVP PT HPT HLP HVF VFC MBF HLF
        clear M1 M2 M3 MC HMV VL VF
        have c_b := fun j => cell_of_row _ _ j _ _ _ (hB10.get 4 rfl)
        have z_b := hB10.lt 4 rfl
        have c_a := fun j => cell_of_row _ _ j _ _ _ (hB10.get 5 rfl)
        have z_a := hB10.lt 5 rfl
        have c_K := fun j => cell_of_row _ _ j _ _ _ (hB10.get 6 rfl)
        have z_K := hB10.lt 6 rfl
        obtain ⟨ww, hww⟩ : ∃ t, t = K.val a b := ⟨_, rfl⟩
        obtain ⟨wc, hwc⟩ : ∃ t, t = K.valC a b := ⟨_, rfl⟩
        rw [← hww, ← hwc] at HVB VM VQV VQ
        rw [← hwc] at VC
        clear hww hwc
        go_wp2_with fail
        refine (HVB.out _ hB10.below).mono ?_
        rintro e w11 ⟨rfl, hb⟩
        have hB11 := hB10.next hb
        clear c_b z_b c_a z_a c_K z_K hb hB10
        go_upto_region 19 with fail
        have hB12 := hB11.new rfl (rB ww)
        clear hB11
        generalize w11.heap.size = gW at *
        generalize w11.alloc _ = w12 at *
        rcases VC.out with rfl | rfl
        rotate_left
        · go_wp2_with fail
          refine (alive_any _).mono ?_
          rintro e w13 ⟨rfl, hb⟩
          have hB13 := hB12.next hb
          clear hb hB12
          have HE := Lib.hid hB13.below
          clear hB13
          go_wp2_with fail
          go_ret
          exact ⟨rfl, HE.out⟩
        have VM1 := Lib.hid (VM.out rfl)
        have VQ1 := Lib.hid (VQ.out rfl)
        have VV1 := Lib.hid (VQV.out rfl)
        clear VM VQ VQV
        have HMW := Lib.hid (fun (W : World) (hW : Below w.heap.size w W) => HM.out ww VM1.out.1.wf W hW)
        obtain ⟨q', hq'⟩ : ∃ t, t = K.mark a ww := ⟨_, rfl⟩
        obtain ⟨qc, hqc⟩ : ∃ t, t = K.markC a ww := ⟨_, rfl⟩
        rw [← hq', ← hqc] at HMW VM1 VQ1 VV1
        clear hq' hqc
        have c_w := fun j => cell_of_row _ _ j _ _ _ (hB12.get 0 rfl)
        have z_w := hB12.lt 0 rfl
        have c_a := fun j => cell_of_row _ _ j _ _ _ (hB12.get 6 rfl)
        have z_a := hB12.lt 6 rfl
        have c_K := fun j => cell_of_row _ _ j _ _ _ (hB12.get 7 rfl)
        have z_K := hB12.lt 7 rfl
        go_wp2_with fail
        refine (HMW.out _ hB12.below).mono ?_
        rintro e w13 ⟨rfl, hb⟩
        have hB13 := hB12.next hb
        clear c_w z_w c_a z_a c_K z_K hb hB12
        go_upto_region 22 with fail
        have hB14 := hB13.new rfl (rB q')
        clear hB13
        generalize w13.heap.size = gQ at *
        generalize w13.alloc _ = w14 at *
        rcases VM1.out.2.1 with rfl | rfl
        rotate_left
        · go_wp2_with fail
          refine (alive_any _).mono ?_
          rintro e w15 ⟨rfl, hb⟩
          have hB15 := hB14.next hb
          clear hb hB14
          have HE := Lib.hid hB15.below
          clear hB15
          go_wp2_with fail
          go_ret
          exact ⟨rfl, HE.out⟩
        have QO := Lib.hid (VQ1.out rfl).1
        have QL := Lib.hid (VM1.out.2.2 rfl)
        have QV := Lib.hid (VV1.out rfl).2.2.2
        have HVQ := Lib.hid (fun (W : World) (hW : Below w.heap.size w W) => HV.out q' QO.out.wf W hW)
        have HLT := Lib.hid (fun (W : World) => flt_any b q' OB.out QO.out W)
        rw [(ltB_qf OB.out QO.out).2 QL.out] at HLT
        obtain ⟨xx, hxx⟩ : ∃ t, t = K.val a q' := ⟨_, rfl⟩
        obtain ⟨xc, hxc⟩ : ∃ t, t = K.valC a q' := ⟨_, rfl⟩
        rw [← hxx, ← hxc] at HVQ QV
        clear hxx hxc VM1 VQ1 VV1
        have c_q := fun j => cell_of_row _ _ j _ _ _ (hB14.get 0 rfl)
        have z_q := hB14.lt 0 rfl
        have c_a := fun j => cell_of_row _ _ j _ _ _ (hB14.get 7 rfl)
        have z_a := hB14.lt 7 rfl
        have c_K := fun j => cell_of_row _ _ j _ _ _ (hB14.get 8 rfl)
        have z_K := hB14.lt 8 rfl
        go_wp2_with fail
        refine (HVQ.out _ hB14.below).mono ?_
        rintro e w15 ⟨rfl, hb⟩
        have hB15 := hB14.next hb
        clear c_q z_q c_a z_a c_K z_K hb hB14
        go_upto_region 25 with fail
        have hB16 := hB15.new rfl (rB xx)
        clear hB15
        generalize w15.heap.size = gX at *
        generalize w15.alloc _ = w16 at *
        have c_q := fun j => cell_of_row _ _ j _ _ _ (hB16.get 1 rfl)
        have z_q := hB16.lt 1 rfl
        have c_b := fun j => cell_of_row _ _ j _ _ _ (hB16.get 7 rfl)
        have z_b := hB16.lt 7 rfl
        go_wp2_with fail
        refine (HLT.out _).mono ?_
        rintro e w17 ⟨rfl, hb⟩
        have hB17 := hB16.next hb
        clear c_q z_q c_b z_b hb hB16
        rcases QV.out.1 with rfl | rfl
        · obtain rfl := QV.out.2 rfl
          have c_x := fun j => cell_of_row _ _ j _ _ _ (hB17.get 0 rfl)
          have z_x := hB17.lt 0 rfl
          have c_w := fun j => cell_of_row _ _ j _ _ _ (hB17.get 2 rfl)
          have z_w := hB17.lt 2 rfl
          go_wp2_with fail
          refine (alive_any _).mono ?_
          rintro e w18 ⟨rfl, hb⟩
          have hB18 := hB17.next hb
          clear c_x z_x c_w z_w hb hB17
          have HE := Lib.hid hB18.below
          clear hB18
          go_wp2_with fail
          go_ret
          exact ⟨rfl, HE.out⟩
        · have c_x := fun j => cell_of_row _ _ j _ _ _ (hB17.get 0 rfl)
          have z_x := hB17.lt 0 rfl
          have c_w := fun j => cell_of_row _ _ j _ _ _ (hB17.get 2 rfl)
          have z_w := hB17.lt 2 rfl
          go_wp2_with fail
          refine (alive_any _).mono ?_
          rintro e w18 ⟨rfl, hb⟩
          have hB18 := hB17.next hb
          clear c_x z_x c_w z_w hb hB17
          have HE := Lib.hid hB18.below
          clear hB18
          go_wp2_with fail
          go_ret
          exact ⟨rfl, HE.out⟩
      | true =>
      have MBG := Lib.hid (MBF.out ((ltB_q OF.out.2.2.1 MV.out.1).1 hl))
      rw [hl] at HLF
      clear hl MBF
      have FV := Lib.hid (VFC.out.v)
      have FC := Lib.hid VFC.out.c
      obtain ⟨fv, hfv⟩ : ∃ t, t = K.val a f := ⟨_, rfl⟩
      obtain ⟨fc, hfc⟩ : ∃ t, t = K.valC a f := ⟨_, rfl⟩
      rw [← hfv, ← hfc] at HVF FV MBG
      rw [← hfc] at FC
      clear hfv hfc VFC
      go_wp2_with fail
      refine (HLF.out _).mono ?_
      rintro e w10 ⟨rfl, hb⟩
      have hB10 := hB9.next hb
      clear c_p z_p c_f z_f hb hB9
      have c_f := fun j => cell_of_row _ _ j _ _ _ (hB10.get 2 rfl)
      have z_f := hB10.lt 2 rfl
      have c_a := fun j => cell_of_row _ _ j _ _ _ (hB10.get 5 rfl)
      have z_a := hB10.lt 5 rfl
      have c_K := fun j => cell_of_row _ _ j _ _ _ (hB10.get 6 rfl)
      have z_K := hB10.lt 6 rfl
      go_wp2_with fail
      refine (HVF.out _ hB10.below).mono ?_
      rintro e w11 ⟨rfl, hb⟩
      have hB11 := hB10.next hb
      clear c_f z_f c_a z_a c_K z_K hb hB10
      go_upto_region 10 with fail
      have hB12 := hB11.new rfl (rB fv)
      clear hB11
      generalize w11.heap.size = gX1 at *
      generalize w11.alloc _ = w12 at *
      rcases FC.out with rfl | rfl
      · have HLX := Lib.hid (fun (W : World) => flt_any fv v (FV.out rfl).1 OV.out W)
        rw [MBG.out rfl] at HLX
        clear FV FC MBG
        have c_x := fun j => cell_of_row _ _ j _ _ _ (hB12.get 0 rfl)
        have z_x := hB12.lt 0 rfl
        have c_v := fun j => cell_of_row _ _ j _ _ _ (hB12.get 4 rfl)
        have z_v := hB12.lt 4 rfl
        go_wp2_with fail
        refine (HLX.out _).mono ?_
        rintro e w13 ⟨rfl, hb⟩
        have hB13 := hB12.next hb
        clear c_x z_x c_v z_v hb hB12
        clear MV MB HVP PT HPT HLP HVF HLF HLX
        clear M1 M2 M3 MC HMV VL VF
        have c_b := fun j => cell_of_row _ _ j _ _ _ (hB13.get 5 rfl)
        have z_b := hB13.lt 5 rfl
        have c_a := fun j => cell_of_row _ _ j _ _ _ (hB13.get 6 rfl)
        have z_a := hB13.lt 6 rfl
        have c_K := fun j => cell_of_row _ _ j _ _ _ (hB13.get 7 rfl)
        have z_K := hB13.lt 7 rfl
        obtain ⟨ww, hww⟩ : ∃ t, t = K.val a b := ⟨_, rfl⟩
        obtain ⟨wc, hwc⟩ : ∃ t, t = K.valC a b := ⟨_, rfl⟩
        rw [← hww, ← hwc] at HVB VM VQV VQ
        rw [← hwc] at VC
        clear hww hwc
        go_wp2_with fail
        refine (HVB.out _ hB13.below).mono ?_
        rintro e w14 ⟨rfl, hb⟩
        have hB14 := hB13.next hb
        clear c_b z_b c_a z_a c_K z_K hb hB13
        go_upto_region 19 with fail
        have hB15 := hB14.new rfl (rB ww)
        clear hB14
        generalize w14.heap.size = gW at *
        generalize w14.alloc _ = w15 at *
        rcases VC.out with rfl | rfl
        rotate_left
        · go_wp2_with fail
          refine (alive_any _).mono ?_
          rintro e w16 ⟨rfl, hb⟩
          have hB16 := hB15.next hb
          clear hb hB15
          have HE := Lib.hid hB16.below
          clear hB16
          go_wp2_with fail
          go_ret
          exact ⟨rfl, HE.out⟩
        have VM1 := Lib.hid (VM.out rfl)
        have VQ1 := Lib.hid (VQ.out rfl)
        have VV1 := Lib.hid (VQV.out rfl)
        clear VM VQ VQV
        have HMW := Lib.hid (fun (W : World) (hW : Below w.heap.size w W) => HM.out ww VM1.out.1.wf W hW)
        obtain ⟨q', hq'⟩ : ∃ t, t = K.mark a ww := ⟨_, rfl⟩
        obtain ⟨qc, hqc⟩ : ∃ t, t = K.markC a ww := ⟨_, rfl⟩
        rw [← hq', ← hqc] at HMW VM1 VQ1 VV1
        clear hq' hqc
        have c_w := fun j => cell_of_row _ _ j _ _ _ (hB15.get 0 rfl)
        have z_w := hB15.lt 0 rfl
        have c_a := fun j => cell_of_row _ _ j _ _ _ (hB15.get 7 rfl)
        have z_a := hB15.lt 7 rfl
        have c_K := fun j => cell_of_row _ _ j _ _ _ (hB15.get 8 rfl)
        have z_K := hB15.lt 8 rfl
        go_wp2_with fail
        refine (HMW.out _ hB15.below).mono ?_
        rintro e w16 ⟨rfl, hb⟩
        have hB16 := hB15.next hb
        clear c_w z_w c_a z_a c_K z_K hb hB15
        go_upto_region 22 with fail
        have hB17 := hB16.new rfl (rB q')
        clear hB16
        generalize w16.heap.size = gQ at *
        generalize w16.alloc _ = w17 at *
        rcases VM1.out.2.1 with rfl | rfl
        rotate_left
        · go_wp2_with fail
          refine (alive_any _).mono ?_
          rintro e w18 ⟨rfl, hb⟩
          have hB18 := hB17.next hb
          clear hb hB17
          have HE := Lib.hid hB18.below
          clear hB18
          go_wp2_with fail
          go_ret
          exact ⟨rfl, HE.out⟩
        have QO := Lib.hid (VQ1.out rfl).1
        have QL := Lib.hid (VM1.out.2.2 rfl)
        have QV := Lib.hid (VV1.out rfl).2.2.2
        have HVQ := Lib.hid (fun (W : World) (hW : Below w.heap.size w W) => HV.out q' QO.out.wf W hW)
        have HLT := Lib.hid (fun (W : World) => flt_any b q' OB.out QO.out W)
        rw [(ltB_qf OB.out QO.out).2 QL.out] at HLT
        obtain ⟨xx, hxx⟩ : ∃ t, t = K.val a q' := ⟨_, rfl⟩
        obtain ⟨xc, hxc⟩ : ∃ t, t = K.valC a q' := ⟨_, rfl⟩
        rw [← hxx, ← hxc] at HVQ QV
        clear hxx hxc VM1 VQ1 VV1
        have c_q := fun j => cell_of_row _ _ j _ _ _ (hB17.get 0 rfl)
        have z_q := hB17.lt 0 rfl
        have c_a := fun j => cell_of_row _ _ j _ _ _ (hB17.get 8 rfl)
        have z_a := hB17.lt 8 rfl
        have c_K := fun j => cell_of_row _ _ j _ _ _ (hB17.get 9 rfl)
        have z_K := hB17.lt 9 rfl
        go_wp2_with fail
        refine (HVQ.out _ hB17.below).mono ?_
        rintro e w18 ⟨rfl, hb⟩
        have hB18 := hB17.next hb
        clear c_q z_q c_a z_a c_K z_K hb hB17
        go_upto_region 25 with fail
        have hB19 := hB18.new rfl (rB xx)
        clear hB18
        generalize w18.heap.size = gX at *
        generalize w18.alloc _ = w19 at *
        have c_q := fun j => cell_of_row _ _ j _ _ _ (hB19.get 1 rfl)
        have z_q := hB19.lt 1 rfl
        have c_b := fun j => cell_of_row _ _ j _ _ _ (hB19.get 8 rfl)
        have z_b := hB19.lt 8 rfl
        go_wp2_with fail
        refine (HLT.out _).mono ?_
        rintro e w20 ⟨rfl, hb⟩
        have hB20 := hB19.next hb
        clear c_q z_q c_b z_b hb hB19
        rcases QV.out.1 with rfl | rfl
        · obtain rfl := QV.out.2 rfl
          have c_x := fun j => cell_of_row _ _ j _ _ _ (hB20.get 0 rfl)
          have z_x := hB20.lt 0 rfl
          have c_w := fun j => cell_of_row _ _ j _ _ _ (hB20.get 2 rfl)
          have z_w := hB20.lt 2 rfl
          go_wp2_with fail
          refine (alive_any _).mono ?_
          rintro e w21 ⟨rfl, hb⟩
          have hB21 := hB20.next hb
          clear c_x z_x c_w z_w hb hB20
          have HE := Lib.hid hB21.below
          clear hB21
          go_wp2_with fail
          go_ret
          exact ⟨rfl, HE.out⟩
        · have c_x := fun j => cell_of_row _ _ j _ _ _ (hB20.get 0 rfl)
          have z_x := hB20.lt 0 rfl
          have c_w := fun j => cell_of_row _ _ j _ _ _ (hB20.get 2 rfl)
          have z_w := hB20.lt 2 rfl
          go_wp2_with fail
          refine (alive_any _).mono ?_
          rintro e w21 ⟨rfl, hb⟩
          have hB21 := hB20.next hb
          clear c_x z_x c_w z_w hb hB20
          have HE := Lib.hid hB21.below
          clear hB21
          go_wp2_with fail
          go_ret
          exact ⟨rfl, HE.out⟩
      · clear FV FC MBG MV MB HVP PT HPT HLP HVF HLF
        clear M1 M2 M3 MC HMV VL VF
        have c_b := fun j => cell_of_row _ _ j _ _ _ (hB12.get 5 rfl)
        have z_b := hB12.lt 5 rfl
        have c_a := fun j => cell_of_row _ _ j _ _ _ (hB12.get 6 rfl)
        have z_a := hB12.lt 6 rfl
        have c_K := fun j => cell_of_row _ _ j _ _ _ (hB12.get 7 rfl)
        have z_K := hB12.lt 7 rfl
        obtain ⟨ww, hww⟩ : ∃ t, t = K.val a b := ⟨_, rfl⟩
        obtain ⟨wc, hwc⟩ : ∃ t, t = K.valC a b := ⟨_, rfl⟩
        rw [← hww, ← hwc] at HVB VM VQV VQ
        rw [← hwc] at VC
        clear hww hwc
        go_wp2_with fail
        refine (HVB.out _ hB12.below).mono ?_
        rintro e w13 ⟨rfl, hb⟩
        have hB13 := hB12.next hb
        clear c_b z_b c_a z_a c_K z_K hb hB12
        go_upto_region 19 with fail
        have hB14 := hB13.new rfl (rB ww)
        clear hB13
        generalize w13.heap.size = gW at *
        generalize w13.alloc _ = w14 at *
        rcases VC.out with rfl | rfl
        rotate_left
        · go_wp2_with fail
          refine (alive_any _).mono ?_
          rintro e w15 ⟨rfl, hb⟩
          have hB15 := hB14.next hb
          clear hb hB14
          have HE := Lib.hid hB15.below
          clear hB15
          go_wp2_with fail
          go_ret
          exact ⟨rfl, HE.out⟩
        have VM1 := Lib.hid (VM.out rfl)
        have VQ1 := Lib.hid (VQ.out rfl)
        have VV1 := Lib.hid (VQV.out rfl)
        clear VM VQ VQV
        have HMW := Lib.hid (fun (W : World) (hW : Below w.heap.size w W) => HM.out ww VM1.out.1.wf W hW)
        obtain ⟨q', hq'⟩ : ∃ t, t = K.mark a ww := ⟨_, rfl⟩
        obtain ⟨qc, hqc⟩ : ∃ t, t = K.markC a ww := ⟨_, rfl⟩
        rw [← hq', ← hqc] at HMW VM1 VQ1 VV1
        clear hq' hqc
        have c_w := fun j => cell_of_row _ _ j _ _ _ (hB14.get 0 rfl)
        have z_w := hB14.lt 0 rfl
        have c_a := fun j => cell_of_row _ _ j _ _ _ (hB14.get 7 rfl)
        have z_a := hB14.lt 7 rfl
        have c_K := fun j => cell_of_row _ _ j _ _ _ (hB14.get 8 rfl)
        have z_K := hB14.lt 8 rfl
        go_wp2_with fail
        refine (HMW.out _ hB14.below).mono ?_
        rintro e w15 ⟨rfl, hb⟩
        have hB15 := hB14.next hb
        clear c_w z_w c_a z_a c_K z_K hb hB14
        go_upto_region 22 with fail
        have hB16 := hB15.new rfl (rB q')
        clear hB15
        generalize w15.heap.size = gQ at *
        generalize w15.alloc _ = w16 at *
        rcases VM1.out.2.1 with rfl | rfl
        rotate_left
        · go_wp2_with fail
          refine (alive_any _).mono ?_
          rintro e w17 ⟨rfl, hb⟩
          have hB17 := hB16.next hb
          clear hb hB16
          have HE := Lib.hid hB17.below
          clear hB17
          go_wp2_with fail
          go_ret
          exact ⟨rfl, HE.out⟩
        have QO := Lib.hid (VQ1.out rfl).1
        have QL := Lib.hid (VM1.out.2.2 rfl)
        have QV := Lib.hid (VV1.out rfl).2.2.2
        have HVQ := Lib.hid (fun (W : World) (hW : Below w.heap.size w W) => HV.out q' QO.out.wf W hW)
        have HLT := Lib.hid (fun (W : World) => flt_any b q' OB.out QO.out W)
        rw [(ltB_qf OB.out QO.out).2 QL.out] at HLT
        obtain ⟨xx, hxx⟩ : ∃ t, t = K.val a q' := ⟨_, rfl⟩
        obtain ⟨xc, hxc⟩ : ∃ t, t = K.valC a q' := ⟨_, rfl⟩
        rw [← hxx, ← hxc] at HVQ QV
        clear hxx hxc VM1 VQ1 VV1
        have c_q := fun j => cell_of_row _ _ j _ _ _ (hB16.get 0 rfl)
        have z_q := hB16.lt 0 rfl
        have c_a := fun j => cell_of_row _ _ j _ _ _ (hB16.get 8 rfl)
        have z_a := hB16.lt 8 rfl
        have c_K := fun j => cell_of_row _ _ j _ _ _ (hB16.get 9 rfl)
        have z_K := hB16.lt 9 rfl
        go_wp2_with fail
        refine (HVQ.out _ hB16.below).mono ?_
        rintro e w17 ⟨rfl, hb⟩
        have hB17 := hB16.next hb
        clear c_q z_q c_a z_a c_K z_K hb hB16
        go_upto_region 25 with fail
        have hB18 := hB17.new rfl (rB xx)
        clear hB17
        generalize w17.heap.size = gX at *
        generalize w17.alloc _ = w18 at *
        have c_q := fun j => cell_of_row _ _ j _ _ _ (hB18.get 1 rfl)
        have z_q := hB18.lt 1 rfl
        have c_b := fun j => cell_of_row _ _ j _ _ _ (hB18.get 8 rfl)
        have z_b := hB18.lt 8 rfl
        go_wp2_with fail
        refine (HLT.out _).mono ?_
        rintro e w19 ⟨rfl, hb⟩
        have hB19 := hB18.next hb
        clear c_q z_q c_b z_b hb hB18
        rcases QV.out.1 with rfl | rfl
        · obtain rfl := QV.out.2 rfl
          have c_x := fun j => cell_of_row _ _ j _ _ _ (hB19.get 0 rfl)
          have z_x := hB19.lt 0 rfl
          have c_w := fun j => cell_of_row _ _ j _ _ _ (hB19.get 2 rfl)
          have z_w := hB19.lt 2 rfl
          go_wp2_with fail
          refine (alive_any _).mono ?_
          rintro e w20 ⟨rfl, hb⟩
          have hB20 := hB19.next hb
          clear c_x z_x c_w z_w hb hB19
          have HE := Lib.hid hB20.below
          clear hB20
          go_wp2_with fail
          go_ret
          exact ⟨rfl, HE.out⟩
        · have c_x := fun j => cell_of_row _ _ j _ _ _ (hB19.get 0 rfl)
          have z_x := hB19.lt 0 rfl
          have c_w := fun j => cell_of_row _ _ j _ _ _ (hB19.get 2 rfl)
          have z_w := hB19.lt 2 rfl
          go_wp2_with fail
          refine (alive_any _).mono ?_
          rintro e w20 ⟨rfl, hb⟩
          have hB20 := hB19.next hb
          clear c_x z_x c_w z_w hb hB19
          have HE := Lib.hid hB20.below
          clear hB20
          go_wp2_with fail
          go_ret
          exact ⟨rfl, HE.out⟩
    · have c_w := fun j => cell_of_row _ _ j _ _ _ (hB6.get 0 rfl)
      have z_w := hB6.lt 0 rfl
      have c_p := fun j => cell_of_row _ _ j _ _ _ (hB6.get 1 rfl)
      have z_p := hB6.lt 1 rfl
      have c_v := fun j => cell_of_row _ _ j _ _ _ (hB6.get 3 rfl)
      have z_v := hB6.lt 3 rfl
      have c_a := fun j => cell_of_row _ _ j _ _ _ (hB6.get 5 rfl)
      have z_a := hB6.lt 5 rfl
      have c_K := fun j => cell_of_row _ _ j _ _ _ (hB6.get 6 rfl)
      have z_K := hB6.lt 6 rfl
      go_wp2_with fail
      refine (HPT.out _).mono ?_
      rintro e w7 ⟨rfl, hb⟩
      have hB7 := hB6.next hb
      clear c_w z_w c_p z_p c_v z_v c_a z_a c_K z_K hb hB6
      have c_p := fun j => cell_of_row _ _ j _ _ _ (hB7.get 1 rfl)
      have z_p := hB7.lt 1 rfl
      have c_a := fun j => cell_of_row _ _ j _ _ _ (hB7.get 5 rfl)
      have z_a := hB7.lt 5 rfl
      go_wp2_with fail
      refine (HLP.out _).mono ?_
      rintro e w8 ⟨rfl, hb⟩
      have hB8 := hB7.next hb
      clear c_p z_p c_a z_a hb hB7
      have c_p := fun j => cell_of_row _ _ j _ _ _ (hB8.get 1 rfl)
      have z_p := hB8.lt 1 rfl
      have c_f := fun j => cell_of_row _ _ j _ _ _ (hB8.get 2 rfl)
      have z_f := hB8.lt 2 rfl
      have c_a := fun j => cell_of_row _ _ j _ _ _ (hB8.get 5 rfl)
      have z_a := hB8.lt 5 rfl
      have c_K := fun j => cell_of_row _ _ j _ _ _ (hB8.get 6 rfl)
      have z_K := hB8.lt 6 rfl
      cases hv : validB K a f with
      | false =>
        rw [hv] at H2
        clear hv
        go_wp2_with fail
        refine (H2.out _ hB8.below).mono ?_
        rintro e w9 ⟨rfl, hb⟩
        have hB9 := hB8.next hb
        clear c_p z_p c_f z_f c_a z_a c_K z_K hb hB8
        clear MV MB HVP PT HPT HLP
        clear M1 M2 M3 MC HMV VL VF
        have c_b := fun j => cell_of_row _ _ j _ _ _ (hB9.get 4 rfl)
        have z_b := hB9.lt 4 rfl
        have c_a := fun j => cell_of_row _ _ j _ _ _ (hB9.get 5 rfl)
        have z_a := hB9.lt 5 rfl
        have c_K := fun j => cell_of_row _ _ j _ _ _ (hB9.get 6 rfl)
        have z_K := hB9.lt 6 rfl
        obtain ⟨ww, hww⟩ : ∃ t, t = K.val a b := ⟨_, rfl⟩
        obtain ⟨wc, hwc⟩ : ∃ t, t = K.valC a b := ⟨_, rfl⟩
        rw [← hww, ← hwc] at HVB VM VQV VQ
        rw [← hwc] at VC
        clear hww hwc
        go_wp2_with fail
        refine (HVB.out _ hB9.below).mono ?_
        rintro e w10 ⟨rfl, hb⟩
        have hB10 := hB9.next hb
        clear c_b z_b c_a z_a c_K z_K hb hB9
        go_upto_region 19 with fail
        have hB11 := hB10.new rfl (rB ww)
        clear hB10
        generalize w10.heap.size = gW at *
        generalize w10.alloc _ = w11 at *
        rcases VC.out with rfl | rfl
        rotate_left
        · go_wp2_with fail
          refine (alive_any _).mono ?_
          rintro e w12 ⟨rfl, hb⟩
          have hB12 := hB11.next hb
          clear hb hB11
          have HE := Lib.hid hB12.below
          clear hB12
          go_wp2_with fail
          go_ret
          exact ⟨rfl, HE.out⟩
        have VM1 := Lib.hid (VM.out rfl)
        have VQ1 := Lib.hid (VQ.out rfl)
        have VV1 := Lib.hid (VQV.out rfl)
        clear VM VQ VQV
        have HMW := Lib.hid (fun (W : World) (hW : Below w.heap.size w W) => HM.out ww VM1.out.1.wf W hW)
        obtain ⟨q', hq'⟩ : ∃ t, t = K.mark a ww := ⟨_, rfl⟩
        obtain ⟨qc, hqc⟩ : ∃ t, t = K.markC a ww := ⟨_, rfl⟩
        rw [← hq', ← hqc] at HMW VM1 VQ1 VV1
        clear hq' hqc
        have c_w := fun j => cell_of_row _ _ j _ _ _ (hB11.get 0 rfl)
        have z_w := hB11.lt 0 rfl
        have c_a := fun j => cell_of_row _ _ j _ _ _ (hB11.get 6 rfl)
        have z_a := hB11.lt 6 rfl
        have c_K := fun j => cell_of_row _ _ j _ _ _ (hB11.get 7 rfl)
        have z_K := hB11.lt 7 rfl
        go_wp2_with fail
        refine (HMW.out _ hB11.below).mono ?_
        rintro e w12 ⟨rfl, hb⟩
        have hB12 := hB11.next hb
        clear c_w z_w c_a z_a c_K z_K hb hB11
        go_upto_region 22 with fail
        have hB13 := hB12.new rfl (rB q')
        clear hB12
        generalize w12.heap.size = gQ at *
        generalize w12.alloc _ = w13 at *
        rcases VM1.out.2.1 with rfl | rfl
        rotate_left
        · go_wp2_with fail
          refine (alive_any _).mono ?_
          rintro e w14 ⟨rfl, hb⟩
          have hB14 := hB13.next hb
          clear hb hB13
          have HE := Lib.hid hB14.below
          clear hB14
          go_wp2_with fail
          go_ret
          exact ⟨rfl, HE.out⟩
        have QO := Lib.hid (VQ1.out rfl).1
        have QL := Lib.hid (VM1.out.2.2 rfl)
        have QV := Lib.hid (VV1.out rfl).2.2.2
        have HVQ := Lib.hid (fun (W : World) (hW : Below w.heap.size w W) => HV.out q' QO.out.wf W hW)
        have HLT := Lib.hid (fun (W : World) => flt_any b q' OB.out QO.out W)
        rw [(ltB_qf OB.out QO.out).2 QL.out] at HLT
        obtain ⟨xx, hxx⟩ : ∃ t, t = K.val a q' := ⟨_, rfl⟩
        obtain ⟨xc, hxc⟩ : ∃ t, t = K.valC a q' := ⟨_, rfl⟩
        rw [← hxx, ← hxc] at HVQ QV
        clear hxx hxc VM1 VQ1 VV1
        have c_q := fun j => cell_of_row _ _ j _ _ _ (hB13.get 0 rfl)
        have z_q := hB13.lt 0 rfl
        have c_a := fun j => cell_of_row _ _ j _ _ _ (hB13.get 7 rfl)
        have z_a := hB13.lt 7 rfl
        have c_K := fun j => cell_of_row _ _ j _ _ _ (hB13.get 8 rfl)
        have z_K := hB13.lt 8 rfl
        go_wp2_with fail
        refine (HVQ.out _ hB13.below).mono ?_
        rintro e w14 ⟨rfl, hb⟩
        have hB14 := hB13.next hb
        clear c_q z_q c_a z_a c_K z_K hb hB13
        go_upto_region 25 with fail
        have hB15 := hB14.new rfl (rB xx)
        clear hB14
        generalize w14.heap.size = gX at *
        generalize w14.alloc _ = w15 at *
        have c_q := fun j => cell_of_row _ _ j _ _ _ (hB15.get 1 rfl)
        have z_q := hB15.lt 1 rfl
        have c_b := fun j => cell_of_row _ _ j _ _ _ (hB15.get 7 rfl)
        have z_b := hB15.lt 7 rfl
        go_wp2_with fail
        refine (HLT.out _).mono ?_
        rintro e w16 ⟨rfl, hb⟩
        have hB16 := hB15.next hb
        clear c_q z_q c_b z_b hb hB15
        rcases QV.out.1 with rfl | rfl
        · obtain rfl := QV.out.2 rfl
          have c_x := fun j => cell_of_row _ _ j _ _ _ (hB16.get 0 rfl)
          have z_x := hB16.lt 0 rfl
          have c_w := fun j => cell_of_row _ _ j _ _ _ (hB16.get 2 rfl)
          have z_w := hB16.lt 2 rfl
          go_wp2_with fail
          refine (alive_any _).mono ?_
          rintro e w17 ⟨rfl, hb⟩
          have hB17 := hB16.next hb
          clear c_x z_x c_w z_w hb hB16
          have HE := Lib.hid hB17.below
          clear hB17
          go_wp2_with fail
          go_ret
          exact ⟨rfl, HE.out⟩
        · have c_x := fun j => cell_of_row _ _ j _ _ _ (hB16.get 0 rfl)
          have z_x := hB16.lt 0 rfl
          have c_w := fun j => cell_of_row _ _ j _ _ _ (hB16.get 2 rfl)
          have z_w := hB16.lt 2 rfl
          go_wp2_with fail
          refine (alive_any _).mono ?_
          rintro e w17 ⟨rfl, hb⟩
          have hB17 := hB16.next hb
          clear c_x z_x c_w z_w hb hB16
          have HE := Lib.hid hB17.below
          clear hB17
          go_wp2_with fail
          go_ret
          exact ⟨rfl, HE.out⟩
      | true =>
      have OF := Lib.hid (validB_ok hv)
      rw [hv] at H2
      clear hv
      have HLF := Lib.hid (fun (W : World) => flt_any f p OF.out.2.2.1 MV.out.1 W)
      have HVF := Lib.hid (fun (W : World) (hW : Below w.heap.size w W) => HV.out f OF.out.2.2.1.wf W hW)
      have VFC := Lib.hid (VF.out OF.out.2.2.1 OF.out.2.2.2.2.1 OF.out.2.2.2.2.2)
      have MBF := Lib.hid (fun (h : f.q < p.q) => MB.out OF.out.2.2.1 OF.out.2.2.2.2.1 OF.out.2.2.2.2.2 h)
      go_wp2_with fail
      refine (H2.out _ hB8.below).mono ?_
      rintro e w9 ⟨rfl, hb⟩
      have hB9 := hB8.next hb
      clear c_p z_p c_f z_f c_a z_a c_K z_K hb hB8
      have c_p := fun j => cell_of_row _ _ j _ _ _ (hB9.get 1 rfl)
      have z_p := hB9.lt 1 rfl
      have c_f := fun j => cell_of_row _ _ j _ _ _ (hB9.get 2 rfl)
      have z_f := hB9.lt 2 rfl
      cases hl : ltB f p with
      | false =>
        rw [hl] at HLF
        clear hl
        go_wp2_with fail
        refine (HLF.out _).mono ?_
        rintro e w10 ⟨rfl, hb⟩
        have hB10 := hB9.next hb
        clear c_p z_p c_f z_f hb hB9
        clear MV MB HVP PT HPT HLP HVF VFC MBF HLF
        clear M1 M2 M3 MC HMV VL VF
        have c_b := fun j => cell_of_row _ _ j _ _ _ (hB10.get 4 rfl)
        have z_b := hB10.lt 4 rfl
        have c_a := fun j => cell_of_row _ _ j _ _ _ (hB10.get 5 rfl)
        have z_a := hB10.lt 5 rfl
        have c_K := fun j => cell_of_row _ _ j _ _ _ (hB10.get 6 rfl)
        have z_K := hB10.lt 6 rfl
        obtain ⟨ww, hww⟩ : ∃ t, t = K.val a b := ⟨_, rfl⟩
        obtain ⟨wc, hwc⟩ : ∃ t, t = K.valC a b := ⟨_, rfl⟩
        rw [← hww, ← hwc] at HVB VM VQV VQ
        rw [← hwc] at VC
        clear hww hwc
        go_wp2_with fail
        refine (HVB.out _ hB10.below).mono ?_
        rintro e w11 ⟨rfl, hb⟩
        have hB11 := hB10.next hb
        clear c_b z_b c_a z_a c_K z_K hb hB10
        go_upto_region 19 with fail
        have hB12 := hB11.new rfl (rB ww)
        clear hB11
        generalize w11.heap.size = gW at *
        generalize w11.alloc _ = w12 at *
        rcases VC.out with rfl | rfl
        rotate_left
        · go_wp2_with fail
          refine (alive_any _).mono ?_
          rintro e w13 ⟨rfl, hb⟩
          have hB13 := hB12.next hb
          clear hb hB12
          have HE := Lib.hid hB13.below
          clear hB13
          go_wp2_with fail
          go_ret
          exact ⟨rfl, HE.out⟩
        have VM1 := Lib.hid (VM.out rfl)
        have VQ1 := Lib.hid (VQ.out rfl)
        have VV1 := Lib.hid (VQV.out rfl)
        clear VM VQ VQV
        have HMW := Lib.hid (fun (W : World) (hW : Below w.heap.size w W) => HM.out ww VM1.out.1.wf W hW)
        obtain ⟨q', hq'⟩ : ∃ t, t = K.mark a ww := ⟨_, rfl⟩
        obtain ⟨qc, hqc⟩ : ∃ t, t = K.markC a ww := ⟨_, rfl⟩
        rw [← hq', ← hqc] at HMW VM1 VQ1 VV1
        clear hq' hqc
        have c_w := fun j => cell_of_row _ _ j _ _ _ (hB12.get 0 rfl)
        have z_w := hB12.lt 0 rfl
        have c_a := fun j => cell_of_row _ _ j _ _ _ (hB12.get 6 rfl)
        have z_a := hB12.lt 6 rfl
        have c_K := fun j => cell_of_row _ _ j _ _ _ (hB12.get 7 rfl)
        have z_K := hB12.lt 7 rfl
        go_wp2_with fail
        refine (HMW.out _ hB12.below).mono ?_
        rintro e w13 ⟨rfl, hb⟩
        have hB13 := hB12.next hb
        clear c_w z_w c_a z_a c_K z_K hb hB12
        go_upto_region 22 with fail
        have hB14 := hB13.new rfl (rB q')
        clear hB13
        generalize w13.heap.size = gQ at *
        generalize w13.alloc _ = w14 at *
        rcases VM1.out.2.1 with rfl | rfl
        rotate_left
        · go_wp2_with fail
          refine (alive_any _).mono ?_
          rintro e w15 ⟨rfl, hb⟩
          have hB15 := hB14.next hb
          clear hb hB14
          have HE := Lib.hid hB15.below
          clear hB15
          go_wp2_with fail
          go_ret
          exact ⟨rfl, HE.out⟩
        have QO := Lib.hid (VQ1.out rfl).1
        have QL := Lib.hid (VM1.out.2.2 rfl)
        have QV := Lib.hid (VV1.out rfl).2.2.2
        have HVQ := Lib.hid (fun (W : World) (hW : Below w.heap.size w W) => HV.out q' QO.out.wf W hW)
        have HLT := Lib.hid (fun (W : World) => flt_any b q' OB.out QO.out W)
        rw [(ltB_qf OB.out QO.out).2 QL.out] at HLT
        obtain ⟨xx, hxx⟩ : ∃ t, t = K.val a q' := ⟨_, rfl⟩
        obtain ⟨xc, hxc⟩ : ∃ t, t = K.valC a q' := ⟨_, rfl⟩
        rw [← hxx, ← hxc] at HVQ QV
        clear hxx hxc VM1 VQ1 VV1
        have c_q := fun j => cell_of_row _ _ j _ _ _ (hB14.get 0 rfl)
        have z_q := hB14.lt 0 rfl
        have c_a := fun j => cell_of_row _ _ j _ _ _ (hB14.get 7 rfl)
        have z_a := hB14.lt 7 rfl
        have c_K := fun j => cell_of_row _ _ j _ _ _ (hB14.get 8 rfl)
        have z_K := hB14.lt 8 rfl
        go_wp2_with fail
        refine (HVQ.out _ hB14.below).mono ?_
        rintro e w15 ⟨rfl, hb⟩
        have hB15 := hB14.next hb
        clear c_q z_q c_a z_a c_K z_K hb hB14
        go_upto_region 25 with fail
        have hB16 := hB15.new rfl (rB xx)
        clear hB15
        generalize w15.heap.size = gX at *
        generalize w15.alloc _ = w16 at *
        have c_q := fun j => cell_of_row _ _ j _ _ _ (hB16.get 1 rfl)
        have z_q := hB16.lt 1 rfl
        have c_b := fun j => cell_of_row _ _ j _ _ _ (hB16.get 7 rfl)
        have z_b := hB16.lt 7 rfl
        go_wp2_with fail
        refine (HLT.out _).mono ?_
        rintro e w17 ⟨rfl, hb⟩
        have hB17 := hB16.next hb
        clear c_q z_q c_b z_b hb hB16
        rcases QV.out.1 with rfl | rfl
        · obtain rfl := QV.out.2 rfl
          have c_x := fun j => cell_of_row _ _ j _ _ _ (hB17.get 0 rfl)
          have z_x := hB17.lt 0 rfl
          have c_w := fun j => cell_of_row _ _ j _ _ _ (hB17.get 2 rfl)
          have z_w := hB17.lt 2 rfl
          go_wp2_with fail
          refine (alive_any _).mono ?_
          rintro e w18 ⟨rfl, hb⟩
          have hB18 := hB17.next hb
          clear c_x z_x c_w z_w hb hB17
          have HE := Lib.hid hB18.below
          clear hB18
          go_wp2_with fail
          go_ret
          exact ⟨rfl, HE.out⟩
        · have c_x := fun j => cell_of_row _ _ j _ _ _ (hB17.get 0 rfl)
          have z_x := hB17.lt 0 rfl
          have c_w := fun j => cell_of_row _ _ j _ _ _ (hB17.get 2 rfl)
          have z_w := hB17.lt 2 rfl
          go_wp2_with fail
          refine (alive_any _).mono ?_
          rintro e w18 ⟨rfl, hb⟩
          have hB18 := hB17.next hb
          clear c_x z_x c_w z_w hb hB17
          have HE := Lib.hid hB18.below
          clear hB18
          go_wp2_with fail
          go_ret
          exact ⟨rfl, HE.out⟩
      | true =>
      have MBG := Lib.hid (MBF.out ((ltB_q OF.out.2.2.1 MV.out.1).1 hl))
      rw [hl] at HLF
      clear hl MBF
      have FV := Lib.hid (VFC.out.v)
      have FC := Lib.hid VFC.out.c
      obtain ⟨fv, hfv⟩ : ∃ t, t = K.val a f := ⟨_, rfl⟩
      obtain ⟨fc, hfc⟩ : ∃ t, t = K.valC a f := ⟨_, rfl⟩
      rw [← hfv, ← hfc] at HVF FV MBG
      rw [← hfc] at FC
      clear hfv hfc VFC
      go_wp2_with fail
      refine (HLF.out _).mono ?_
      rintro e w10 ⟨rfl, hb⟩
      have hB10 := hB9.next hb
      clear c_p z_p c_f z_f hb hB9
      have c_f := fun j => cell_of_row _ _ j _ _ _ (hB10.get 2 rfl)
      have z_f := hB10.lt 2 rfl
      have c_a := fun j => cell_of_row _ _ j _ _ _ (hB10.get 5 rfl)
      have z_a := hB10.lt 5 rfl
      have c_K := fun j => cell_of_row _ _ j _ _ _ (hB10.get 6 rfl)
      have z_K := hB10.lt 6 rfl
      go_wp2_with fail
      refine (HVF.out _ hB10.below).mono ?_
      rintro e w11 ⟨rfl, hb⟩
      have hB11 := hB10.next hb
      clear c_f z_f c_a z_a c_K z_K hb hB10
      go_upto_region 10 with fail
      have hB12 := hB11.new rfl (rB fv)
      clear hB11
      generalize w11.heap.size = gX1 at *
      generalize w11.alloc _ = w12 at *
      rcases FC.out with rfl | rfl
      · have HLX := Lib.hid (fun (W : World) => flt_any fv v (FV.out rfl).1 OV.out W)
        rw [MBG.out rfl] at HLX
        clear FV FC MBG
        have c_x := fun j => cell_of_row _ _ j _ _ _ (hB12.get 0 rfl)
        have z_x := hB12.lt 0 rfl
        have c_v := fun j => cell_of_row _ _ j _ _ _ (hB12.get 4 rfl)
        have z_v := hB12.lt 4 rfl
        go_wp2_with fail
        refine (HLX.out _).mono ?_
        rintro e w13 ⟨rfl, hb⟩
        have hB13 := hB12.next hb
        clear c_x z_x c_v z_v hb hB12
        clear MV MB HVP PT HPT HLP HVF HLF HLX
        clear M1 M2 M3 MC HMV VL VF
        have c_b := fun j => cell_of_row _ _ j _ _ _ (hB13.get 5 rfl)
        have z_b := hB13.lt 5 rfl
        have c_a := fun j => cell_of_row _ _ j _ _ _ (hB13.get 6 rfl)
        have z_a := hB13.lt 6 rfl
        have c_K := fun j => cell_of_row _ _ j _ _ _ (hB13.get 7 rfl)
        have z_K := hB13.lt 7 rfl
        obtain ⟨ww, hww⟩ : ∃ t, t = K.val a b := ⟨_, rfl⟩
        obtain ⟨wc, hwc⟩ : ∃ t, t = K.valC a b := ⟨_, rfl⟩
        rw [← hww, ← hwc] at HVB VM VQV VQ
        rw [← hwc] at VC
        clear hww hwc
        go_wp2_with fail
        refine (HVB.out _ hB13.below).mono ?_
        rintro e w14 ⟨rfl, hb⟩
        have hB14 := hB13.next hb
        clear c_b z_b c_a z_a c_K z_K hb hB13
        go_upto_region 19 with fail
        have hB15 := hB14.new rfl (rB ww)
        clear hB14
        generalize w14.heap.size = gW at *
        generalize w14.alloc _ = w15 at *
        rcases VC.out with rfl | rfl
        rotate_left
        · go_wp2_with fail
          refine (alive_any _).mono ?_
          rintro e w16 ⟨rfl, hb⟩
          have hB16 := hB15.next hb
          clear hb hB15
          have HE := Lib.hid hB16.below
          clear hB16
          go_wp2_with fail
          go_ret
          exact ⟨rfl, HE.out⟩
        have VM1 := Lib.hid (VM.out rfl)
        have VQ1 := Lib.hid (VQ.out rfl)
        have VV1 := Lib.hid (VQV.out rfl)
        clear VM VQ VQV
        have HMW := Lib.hid (fun (W : World) (hW : Below w.heap.size w W) => HM.out ww VM1.out.1.wf W hW)
        obtain ⟨q', hq'⟩ : ∃ t, t = K.mark a ww := ⟨_, rfl⟩
        obtain ⟨qc, hqc⟩ : ∃ t, t = K.markC a ww := ⟨_, rfl⟩
        rw [← hq', ← hqc] at HMW VM1 VQ1 VV1
        clear hq' hqc
        have c_w := fun j => cell_of_row _ _ j _ _ _ (hB15.get 0 rfl)
        have z_w := hB15.lt 0 rfl
        have c_a := fun j => cell_of_row _ _ j _ _ _ (hB15.get 7 rfl)
        have z_a := hB15.lt 7 rfl
        have c_K := fun j => cell_of_row _ _ j _ _ _ (hB15.get 8 rfl)
        have z_K := hB15.lt 8 rfl
        go_wp2_with fail
        refine (HMW.out _ hB15.below).mono ?_
        rintro e w16 ⟨rfl, hb⟩
        have hB16 := hB15.next hb
        clear c_w z_w c_a z_a c_K z_K hb hB15
        go_upto_region 22 with fail
        have hB17 := hB16.new rfl (rB q')
        clear hB16
        generalize w16.heap.size = gQ at *
        generalize w16.alloc _ = w17 at *
        rcases VM1.out.2.1 with rfl | rfl
        rotate_left
        · go_wp2_with fail
          refine (alive_any _).mono ?_
          rintro e w18 ⟨rfl, hb⟩
          have hB18 := hB17.next hb
          clear hb hB17
          have HE := Lib.hid hB18.below
          clear hB18
          go_wp2_with fail
          go_ret
          exact ⟨rfl, HE.out⟩
        have QO := Lib.hid (VQ1.out rfl).1
        have QL := Lib.hid (VM1.out.2.2 rfl)
        have QV := Lib.hid (VV1.out rfl).2.2.2
        have HVQ := Lib.hid (fun (W : World) (hW : Below w.heap.size w W) => HV.out q' QO.out.wf W hW)
        have HLT := Lib.hid (fun (W : World) => flt_any b q' OB.out QO.out W)
        rw [(ltB_qf OB.out QO.out).2 QL.out] at HLT
        obtain ⟨xx, hxx⟩ : ∃ t, t = K.val a q' := ⟨_, rfl⟩
        obtain ⟨xc, hxc⟩ : ∃ t, t = K.valC a q' := ⟨_, rfl⟩
        rw [← hxx, ← hxc] at HVQ QV
        clear hxx hxc VM1 VQ1 VV1
        have c_q := fun j => cell_of_row _ _ j _ _ _ (hB17.get 0 rfl)
        have z_q := hB17.lt 0 rfl
        have c_a := fun j => cell_of_row _ _ j _ _ _ (hB17.get 8 rfl)
        have z_a := hB17.lt 8 rfl
        have c_K := fun j => cell_of_row _ _ j _ _ _ (hB17.get 9 rfl)
        have z_K := hB17.lt 9 rfl
        go_wp2_with fail
        refine (HVQ.out _ hB17.below).mono ?_
        rintro e w18 ⟨rfl, hb⟩
        have hB18 := hB17.next hb
        clear c_q z_q c_a z_a c_K z_K hb hB17
        go_upto_region 25 with fail
        have hB19 := hB18.new rfl (rB xx)
        clear hB18
        generalize w18.heap.size = gX at *
        generalize w18.alloc _ = w19 at *
        have c_q := fun j => cell_of_row _ _ j _ _ _ (hB19.get 1 rfl)
        have z_q := hB19.lt 1 rfl
        have c_b := fun j => cell_of_row _ _ j _ _ _ (hB19.get 8 rfl)
        have z_b := hB19.lt 8 rfl
        go_wp2_with fail
        refine (HLT.out _).mono ?_
        rintro e w20 ⟨rfl, hb⟩
        have hB20 := hB19.next hb
        clear c_q z_q c_b z_b hb hB19
        rcases QV.out.1 with rfl | rfl
        · obtain rfl := QV.out.2 rfl
          have c_x := fun j => cell_of_row _ _ j _ _ _ (hB20.get 0 rfl)
          have z_x := hB20.lt 0 rfl
          have c_w := fun j => cell_of_row _ _ j _ _ _ (hB20.get 2 rfl)
          have z_w := hB20.lt 2 rfl
          go_wp2_with fail
          refine (alive_any _).mono ?_
          rintro e w21 ⟨rfl, hb⟩
          have hB21 := hB20.next hb
          clear c_x z_x c_w z_w hb hB20
          have HE := Lib.hid hB21.below
          clear hB21
          go_wp2_with fail
          go_ret
          exact ⟨rfl, HE.out⟩
        · have c_x := fun j => cell_of_row _ _ j _ _ _ (hB20.get 0 rfl)
          have z_x := hB20.lt 0 rfl
          have c_w := fun j => cell_of_row _ _ j _ _ _ (hB20.get 2 rfl)
          have z_w := hB20.lt 2 rfl
          go_wp2_with fail
          refine (alive_any _).mono ?_
          rintro e w21 ⟨rfl, hb⟩
          have hB21 := hB20.next hb
          clear c_x z_x c_w z_w hb hB20
          have HE := Lib.hid hB21.below
          clear hB21
          go_wp2_with fail
          go_ret
          exact ⟨rfl, HE.out⟩
      · clear FV FC MBG MV MB HVP PT HPT HLP HVF HLF
        clear M1 M2 M3 MC HMV VL VF
        have c_b := fun j => cell_of_row _ _ j _ _ _ (hB12.get 5 rfl)
        have z_b := hB12.lt 5 rfl
        have c_a := fun j => cell_of_row _ _ j _ _ _ (hB12.get 6 rfl)
        have z_a := hB12.lt 6 rfl
        have c_K := fun j => cell_of_row _ _ j _ _ _ (hB12.get 7 rfl)
        have z_K := hB12.lt 7 rfl
        obtain ⟨ww, hww⟩ : ∃ t, t = K.val a b := ⟨_, rfl⟩
        obtain ⟨wc, hwc⟩ : ∃ t, t = K.valC a b := ⟨_, rfl⟩
        rw [← hww, ← hwc] at HVB VM VQV VQ
        rw [← hwc] at VC
        clear hww hwc
        go_wp2_with fail
        refine (HVB.out _ hB12.below).mono ?_
        rintro e w13 ⟨rfl, hb⟩
        have hB13 := hB12.next hb
        clear c_b z_b c_a z_a c_K z_K hb hB12
        go_upto_region 19 with fail
        have hB14 := hB13.new rfl (rB ww)
        clear hB13
        generalize w13.heap.size = gW at *
        generalize w13.alloc _ = w14 at *
        rcases VC.out with rfl | rfl
        rotate_left
        · go_wp2_with fail
          refine (alive_any _).mono ?_
          rintro e w15 ⟨rfl, hb⟩
          have hB15 := hB14.next hb
          clear hb hB14
          have HE := Lib.hid hB15.below
          clear hB15
          go_wp2_with fail
          go_ret
          exact ⟨rfl, HE.out⟩
        have VM1 := Lib.hid (VM.out rfl)
        have VQ1 := Lib.hid (VQ.out rfl)
        have VV1 := Lib.hid (VQV.out rfl)
        clear VM VQ VQV
        have HMW := Lib.hid (fun (W : World) (hW : Below w.heap.size w W) => HM.out ww VM1.out.1.wf W hW)
        obtain ⟨q', hq'⟩ : ∃ t, t = K.mark a ww := ⟨_, rfl⟩
        obtain ⟨qc, hqc⟩ : ∃ t, t = K.markC a ww := ⟨_, rfl⟩
        rw [← hq', ← hqc] at HMW VM1 VQ1 VV1
        clear hq' hqc
        have c_w := fun j => cell_of_row _ _ j _ _ _ (hB14.get 0 rfl)
        have z_w := hB14.lt 0 rfl
        have c_a := fun j => cell_of_row _ _ j _ _ _ (hB14.get 7 rfl)
        have z_a := hB14.lt 7 rfl
        have c_K := fun j => cell_of_row _ _ j _ _ _ (hB14.get 8 rfl)
        have z_K := hB14.lt 8 rfl
        go_wp2_with fail
        refine (HMW.out _ hB14.below).mono ?_
        rintro e w15 ⟨rfl, hb⟩
        have hB15 := hB14.next hb
        clear c_w z_w c_a z_a c_K z_K hb hB14
        go_upto_region 22 with fail
        have hB16 := hB15.new rfl (rB q')
        clear hB15
        generalize w15.heap.size = gQ at *
        generalize w15.alloc _ = w16 at *
        rcases VM1.out.2.1 with rfl | rfl
        rotate_left
        · go_wp2_with fail
          refine (alive_any _).mono ?_
          rintro e w17 ⟨rfl, hb⟩
          have hB17 := hB16.next hb
          clear hb hB16
          have HE := Lib.hid hB17.below
          clear hB17
          go_wp2_with fail
          go_ret
          exact ⟨rfl, HE.out⟩
        have QO := Lib.hid (VQ1.out rfl).1
        have QL := Lib.hid (VM1.out.2.2 rfl)
        have QV := Lib.hid (VV1.out rfl).2.2.2
        have HVQ := Lib.hid (fun (W : World) (hW : Below w.heap.size w W) => HV.out q' QO.out.wf W hW)
        have HLT := Lib.hid (fun (W : World) => flt_any b q' OB.out QO.out W)
        rw [(ltB_qf OB.out QO.out).2 QL.out] at HLT
        obtain ⟨xx, hxx⟩ : ∃ t, t = K.val a q' := ⟨_, rfl⟩
        obtain ⟨xc, hxc⟩ : ∃ t, t = K.valC a q' := ⟨_, rfl⟩
        rw [← hxx, ← hxc] at HVQ QV
        clear hxx hxc VM1 VQ1 VV1
        have c_q := fun j => cell_of_row _ _ j _ _ _ (hB16.get 0 rfl)
        have z_q := hB16.lt 0 rfl
        have c_a := fun j => cell_of_row _ _ j _ _ _ (hB16.get 8 rfl)
        have z_a := hB16.lt 8 rfl
        have c_K := fun j => cell_of_row _ _ j _ _ _ (hB16.get 9 rfl)
        have z_K := hB16.lt 9 rfl
        go_wp2_with fail
        refine (HVQ.out _ hB16.below).mono ?_
        rintro e w17 ⟨rfl, hb⟩
        have hB17 := hB16.next hb
        clear c_q z_q c_a z_a c_K z_K hb hB16
        go_upto_region 25 with fail
        have hB18 := hB17.new rfl (rB xx)
        clear hB17
        generalize w17.heap.size = gX at *
        generalize w17.alloc _ = w18 at *
        have c_q := fun j => cell_of_row _ _ j _ _ _ (hB18.get 1 rfl)
        have z_q := hB18.lt 1 rfl
        have c_b := fun j => cell_of_row _ _ j _ _ _ (hB18.get 8 rfl)
        have z_b := hB18.lt 8 rfl
        go_wp2_with fail
        refine (HLT.out _).mono ?_
        rintro e w19 ⟨rfl, hb⟩
        have hB19 := hB18.next hb
        clear c_q z_q c_b z_b hb hB18
        rcases QV.out.1 with rfl | rfl
        · obtain rfl := QV.out.2 rfl
          have c_x := fun j => cell_of_row _ _ j _ _ _ (hB19.get 0 rfl)
          have z_x := hB19.lt 0 rfl
          have c_w := fun j => cell_of_row _ _ j _ _ _ (hB19.get 2 rfl)
          have z_w := hB19.lt 2 rfl
          go_wp2_with fail
          refine (alive_any _).mono ?_
          rintro e w20 ⟨rfl, hb⟩
          have hB20 := hB19.next hb
          clear c_x z_x c_w z_w hb hB19
          have HE := Lib.hid hB20.below
          clear hB20
          go_wp2_with fail
          go_ret
          exact ⟨rfl, HE.out⟩
        · have c_x := fun j => cell_of_row _ _ j _ _ _ (hB19.get 0 rfl)
          have z_x := hB19.lt 0 rfl
          have c_w := fun j => cell_of_row _ _ j _ _ _ (hB19.get 2 rfl)
          have z_w := hB19.lt 2 rfl
          go_wp2_with fail
          refine (alive_any _).mono ?_
          rintro e w20 ⟨rfl, hb⟩
          have hB20 := hB19.next hb
          clear c_x z_x c_w z_w hb hB19
          have HE := Lib.hid hB20.below
          clear hB20
          go_wp2_with fail
          go_ret
          exact ⟨rfl, HE.out⟩
  · have HVL := Lib.hid (fun (W : World) (hW : Below w.heap.size w W) => HV.out ⟨K.len, 1⟩ LW.out.wf W hW)
    have LV := Lib.hid (VL.out.v)
    have LC := Lib.hid VL.out.c
    have ML := Lib.hid (M3.out rfl)
    obtain ⟨nn, hnn⟩ : ∃ t, t = K.val a ⟨K.len, 1⟩ := ⟨_, rfl⟩
    obtain ⟨nc, hnc⟩ : ∃ t, t = K.valC a ⟨K.len, 1⟩ := ⟨_, rfl⟩
    rw [← hnn, ← hnc] at HVL LV ML
    rw [← hnc] at LC
    clear hnn hnc
    go_upto_region 13 with fail
    refine wp_region_flow 12 (by kernel_rfl) (by rfl) (fun wq hbq => ?_)
    have hB5q := hB4.next hbq
    clear hB4
    refine wpAnyE_go (w0 := wq) (w1 := wq) (X := []) (fun _ h => h) (RK.start _) [0, 1, 2, 3, 4, 5, 6, 7, 8] 3 (by kernel_rfl) ?_
    apply Exists.intro
    refine ⟨fun G hG hN => ?_, ?_⟩
    · have c_a := fun (e : GE (RK wq wq []) G) j => cell_of_row e.w _ j _ _ _ ((hB5q.next (RK.b (GE.h e))).get 4 rfl)
      have z_a := fun (e : GE (RK wq wq []) G) => ((hB5q.next (RK.b (GE.h e))).lt 4 rfl)
      have c_K := fun (e : GE (RK wq wq []) G) j => cell_of_row e.w _ j _ _ _ ((hB5q.next (RK.b (GE.h e))).get 5 rfl)
      have z_K := fun (e : GE (RK wq wq []) G) => ((hB5q.next (RK.b (GE.h e))).lt 5 rfl)
      simp only [pickOps, List.getElem?_toArray, List.getElem?_cons_zero, List.getElem?_cons_succ]
      repeat (first | go_big_quiet_step ((first | (go_at_call 36; exact calls_ge (RK.grows _ _ _) hG (lof_any _ _)) | (go_at_call 33; exact calls_ge (RK.grows _ _ _) hG (HVL.out _ ((hB5q.next (RK.b (GE.h _))).below))))) | quiet_step ((first | (go_at_call 36; exact calls_ge (RK.grows _ _ _) hG (lof_any _ _)) | (go_at_call 33; exact calls_ge (RK.grows _ _ _) hG (HVL.out _ ((hB5q.next (RK.b (GE.h _))).below))))))
      exact wpQuiet_nil rfl
    refine wpAnyE_all (rs := [9]) (by kernel_rfl) (by simp) (fun Wa hWa hRWa i hi => ?_)
    obtain rfl := List.mem_singleton.1 hi
    refine wpOp_step rfl (fun K hK => ?_)
    go_simp
    refine hK _ _ ⟨hRWa.grow (one_alloc _ _), ?_⟩
    clear hK K
    have hxa := heap_new (w := Wa) (o := rB ⟨0, 0⟩) rfl
    have hza : wq.heap.size ≤ Wa.heap.size := hRWa.b.size
    refine wpAnyE_all (rs := [10]) (by kernel_rfl) (by simp) (fun Wb hWb hRWb i hi => ?_)
    obtain rfl := List.mem_singleton.1 hi
    have hxb := heap_ext hxa hWb
    have ck := fun j => cell_of_row _ _ j _ _ _ hxb
    have fk := fun j => frozen_of_row _ _ j _ _ hxb
    have zk := lt_some hxb
    refine wpOp_step rfl (fun K hK => ?_)
    go_simp
    refine hK _ _ ⟨(hRWb.set hza (Or.inr hza)).set hza (Or.inr hza), ?_⟩
    clear hK K
    clear ck fk zk
    have hxc := heap_set (j := 1) (u := .int .i64 (nn).d) (heap_set (j := 0) (u := .int .i64 (nn).n) hxb)
    have hsc := (hRWb.set hza (Or.inr hza) (j := 0) (u := .int .i64 (nn).n)).set hza (Or.inr hza) (j := 1) (u := .int .i64 (nn).d)
    generalize (Wb.setCell _ _).setCell _ _ = Wd at *
    refine wpAnyE_go (w0 := wq) (w1 := Wd) (X := []) (RK.move hsc (by simp)) (RK.here hsc) [11] 0 (by kernel_rfl) ?_
    apply Exists.intro
    refine ⟨fun G hG hN => ?_, ?_⟩
    · simp only [pickOps, List.getElem?_toArray, List.getElem?_cons_zero, List.getElem?_cons_succ]
      repeat (first | go_big_quiet_step (fail) | quiet_step (fail))
      exact wpQuiet_nil rfl
    refine wpAnyE_done (by kernel_rfl) (fun Wc hWc hRWc => ?_) _
    refine NoPanic.normal ?_
    have hB5 : Bx w ((Wa.heap.size, rB (nn)) :: _) Wc := hB5q.add hRWc.b hza (heap_ext hxc hWc)
    clear hB5q hxa hxb hxc hWb hWc hRWa hRWb hRWc hza hWa hbq
    generalize Wa.heap.size = gN at *
    generalize Wc = w5 at *
    rcases LC.out with rfl | rfl
    · have HLN := Lib.hid (fun (W : World) => flt_any nn v (LV.out rfl).1 OV.out W)
      rw [ML.out rfl] at HLN
      clear LV LC ML HVL
      have c_n := fun j => cell_of_row _ _ j _ _ _ (hB5.get 0 rfl)
      have z_n := hB5.lt 0 rfl
      have c_v := fun j => cell_of_row _ _ j _ _ _ (hB5.get 3 rfl)
      have z_v := hB5.lt 3 rfl
      go_wp2_with fail
      refine (HLN.out _).mono ?_
      rintro e w6 ⟨rfl, hb⟩
      have hB6 := hB5.next hb
      clear c_n z_n c_v z_v hb hB5
      clear M1 M2 M3 MC HMV VL VF
      have c_b := fun j => cell_of_row _ _ j _ _ _ (hB6.get 4 rfl)
      have z_b := hB6.lt 4 rfl
      have c_a := fun j => cell_of_row _ _ j _ _ _ (hB6.get 5 rfl)
      have z_a := hB6.lt 5 rfl
      have c_K := fun j => cell_of_row _ _ j _ _ _ (hB6.get 6 rfl)
      have z_K := hB6.lt 6 rfl
      obtain ⟨ww, hww⟩ : ∃ t, t = K.val a b := ⟨_, rfl⟩
      obtain ⟨wc, hwc⟩ : ∃ t, t = K.valC a b := ⟨_, rfl⟩
      rw [← hww, ← hwc] at HVB VM VQV VQ
      rw [← hwc] at VC
      clear hww hwc
      go_wp2_with fail
      refine (HVB.out _ hB6.below).mono ?_
      rintro e w7 ⟨rfl, hb⟩
      have hB7 := hB6.next hb
      clear c_b z_b c_a z_a c_K z_K hb hB6
      go_upto_region 19 with fail
      have hB8 := hB7.new rfl (rB ww)
      clear hB7
      generalize w7.heap.size = gW at *
      generalize w7.alloc _ = w8 at *
      rcases VC.out with rfl | rfl
      rotate_left
      · go_wp2_with fail
        refine (alive_any _).mono ?_
        rintro e w9 ⟨rfl, hb⟩
        have hB9 := hB8.next hb
        clear hb hB8
        have HE := Lib.hid hB9.below
        clear hB9
        go_wp2_with fail
        go_ret
        exact ⟨rfl, HE.out⟩
      have VM1 := Lib.hid (VM.out rfl)
      have VQ1 := Lib.hid (VQ.out rfl)
      have VV1 := Lib.hid (VQV.out rfl)
      clear VM VQ VQV
      have HMW := Lib.hid (fun (W : World) (hW : Below w.heap.size w W) => HM.out ww VM1.out.1.wf W hW)
      obtain ⟨q', hq'⟩ : ∃ t, t = K.mark a ww := ⟨_, rfl⟩
      obtain ⟨qc, hqc⟩ : ∃ t, t = K.markC a ww := ⟨_, rfl⟩
      rw [← hq', ← hqc] at HMW VM1 VQ1 VV1
      clear hq' hqc
      have c_w := fun j => cell_of_row _ _ j _ _ _ (hB8.get 0 rfl)
      have z_w := hB8.lt 0 rfl
      have c_a := fun j => cell_of_row _ _ j _ _ _ (hB8.get 6 rfl)
      have z_a := hB8.lt 6 rfl
      have c_K := fun j => cell_of_row _ _ j _ _ _ (hB8.get 7 rfl)
      have z_K := hB8.lt 7 rfl
      go_wp2_with fail
      refine (HMW.out _ hB8.below).mono ?_
      rintro e w9 ⟨rfl, hb⟩
      have hB9 := hB8.next hb
      clear c_w z_w c_a z_a c_K z_K hb hB8
      go_upto_region 22 with fail
      have hB10 := hB9.new rfl (rB q')
      clear hB9
      generalize w9.heap.size = gQ at *
      generalize w9.alloc _ = w10 at *
      rcases VM1.out.2.1 with rfl | rfl
      rotate_left
      · go_wp2_with fail
        refine (alive_any _).mono ?_
        rintro e w11 ⟨rfl, hb⟩
        have hB11 := hB10.next hb
        clear hb hB10
        have HE := Lib.hid hB11.below
        clear hB11
        go_wp2_with fail
        go_ret
        exact ⟨rfl, HE.out⟩
      have QO := Lib.hid (VQ1.out rfl).1
      have QL := Lib.hid (VM1.out.2.2 rfl)
      have QV := Lib.hid (VV1.out rfl).2.2.2
      have HVQ := Lib.hid (fun (W : World) (hW : Below w.heap.size w W) => HV.out q' QO.out.wf W hW)
      have HLT := Lib.hid (fun (W : World) => flt_any b q' OB.out QO.out W)
      rw [(ltB_qf OB.out QO.out).2 QL.out] at HLT
      obtain ⟨xx, hxx⟩ : ∃ t, t = K.val a q' := ⟨_, rfl⟩
      obtain ⟨xc, hxc⟩ : ∃ t, t = K.valC a q' := ⟨_, rfl⟩
      rw [← hxx, ← hxc] at HVQ QV
      clear hxx hxc VM1 VQ1 VV1
      have c_q := fun j => cell_of_row _ _ j _ _ _ (hB10.get 0 rfl)
      have z_q := hB10.lt 0 rfl
      have c_a := fun j => cell_of_row _ _ j _ _ _ (hB10.get 7 rfl)
      have z_a := hB10.lt 7 rfl
      have c_K := fun j => cell_of_row _ _ j _ _ _ (hB10.get 8 rfl)
      have z_K := hB10.lt 8 rfl
      go_wp2_with fail
      refine (HVQ.out _ hB10.below).mono ?_
      rintro e w11 ⟨rfl, hb⟩
      have hB11 := hB10.next hb
      clear c_q z_q c_a z_a c_K z_K hb hB10
      go_upto_region 25 with fail
      have hB12 := hB11.new rfl (rB xx)
      clear hB11
      generalize w11.heap.size = gX at *
      generalize w11.alloc _ = w12 at *
      have c_q := fun j => cell_of_row _ _ j _ _ _ (hB12.get 1 rfl)
      have z_q := hB12.lt 1 rfl
      have c_b := fun j => cell_of_row _ _ j _ _ _ (hB12.get 7 rfl)
      have z_b := hB12.lt 7 rfl
      go_wp2_with fail
      refine (HLT.out _).mono ?_
      rintro e w13 ⟨rfl, hb⟩
      have hB13 := hB12.next hb
      clear c_q z_q c_b z_b hb hB12
      rcases QV.out.1 with rfl | rfl
      · obtain rfl := QV.out.2 rfl
        have c_x := fun j => cell_of_row _ _ j _ _ _ (hB13.get 0 rfl)
        have z_x := hB13.lt 0 rfl
        have c_w := fun j => cell_of_row _ _ j _ _ _ (hB13.get 2 rfl)
        have z_w := hB13.lt 2 rfl
        go_wp2_with fail
        refine (alive_any _).mono ?_
        rintro e w14 ⟨rfl, hb⟩
        have hB14 := hB13.next hb
        clear c_x z_x c_w z_w hb hB13
        have HE := Lib.hid hB14.below
        clear hB14
        go_wp2_with fail
        go_ret
        exact ⟨rfl, HE.out⟩
      · have c_x := fun j => cell_of_row _ _ j _ _ _ (hB13.get 0 rfl)
        have z_x := hB13.lt 0 rfl
        have c_w := fun j => cell_of_row _ _ j _ _ _ (hB13.get 2 rfl)
        have z_w := hB13.lt 2 rfl
        go_wp2_with fail
        refine (alive_any _).mono ?_
        rintro e w14 ⟨rfl, hb⟩
        have hB14 := hB13.next hb
        clear c_x z_x c_w z_w hb hB13
        have HE := Lib.hid hB14.below
        clear hB14
        go_wp2_with fail
        go_ret
        exact ⟨rfl, HE.out⟩
    · clear LV LC ML HVL
      clear M1 M2 M3 MC HMV VL VF
      have c_b := fun j => cell_of_row _ _ j _ _ _ (hB5.get 4 rfl)
      have z_b := hB5.lt 4 rfl
      have c_a := fun j => cell_of_row _ _ j _ _ _ (hB5.get 5 rfl)
      have z_a := hB5.lt 5 rfl
      have c_K := fun j => cell_of_row _ _ j _ _ _ (hB5.get 6 rfl)
      have z_K := hB5.lt 6 rfl
      obtain ⟨ww, hww⟩ : ∃ t, t = K.val a b := ⟨_, rfl⟩
      obtain ⟨wc, hwc⟩ : ∃ t, t = K.valC a b := ⟨_, rfl⟩
      rw [← hww, ← hwc] at HVB VM VQV VQ
      rw [← hwc] at VC
      clear hww hwc
      go_wp2_with fail
      refine (HVB.out _ hB5.below).mono ?_
      rintro e w6 ⟨rfl, hb⟩
      have hB6 := hB5.next hb
      clear c_b z_b c_a z_a c_K z_K hb hB5
      go_upto_region 19 with fail
      have hB7 := hB6.new rfl (rB ww)
      clear hB6
      generalize w6.heap.size = gW at *
      generalize w6.alloc _ = w7 at *
      rcases VC.out with rfl | rfl
      rotate_left
      · go_wp2_with fail
        refine (alive_any _).mono ?_
        rintro e w8 ⟨rfl, hb⟩
        have hB8 := hB7.next hb
        clear hb hB7
        have HE := Lib.hid hB8.below
        clear hB8
        go_wp2_with fail
        go_ret
        exact ⟨rfl, HE.out⟩
      have VM1 := Lib.hid (VM.out rfl)
      have VQ1 := Lib.hid (VQ.out rfl)
      have VV1 := Lib.hid (VQV.out rfl)
      clear VM VQ VQV
      have HMW := Lib.hid (fun (W : World) (hW : Below w.heap.size w W) => HM.out ww VM1.out.1.wf W hW)
      obtain ⟨q', hq'⟩ : ∃ t, t = K.mark a ww := ⟨_, rfl⟩
      obtain ⟨qc, hqc⟩ : ∃ t, t = K.markC a ww := ⟨_, rfl⟩
      rw [← hq', ← hqc] at HMW VM1 VQ1 VV1
      clear hq' hqc
      have c_w := fun j => cell_of_row _ _ j _ _ _ (hB7.get 0 rfl)
      have z_w := hB7.lt 0 rfl
      have c_a := fun j => cell_of_row _ _ j _ _ _ (hB7.get 6 rfl)
      have z_a := hB7.lt 6 rfl
      have c_K := fun j => cell_of_row _ _ j _ _ _ (hB7.get 7 rfl)
      have z_K := hB7.lt 7 rfl
      go_wp2_with fail
      refine (HMW.out _ hB7.below).mono ?_
      rintro e w8 ⟨rfl, hb⟩
      have hB8 := hB7.next hb
      clear c_w z_w c_a z_a c_K z_K hb hB7
      go_upto_region 22 with fail
      have hB9 := hB8.new rfl (rB q')
      clear hB8
      generalize w8.heap.size = gQ at *
      generalize w8.alloc _ = w9 at *
      rcases VM1.out.2.1 with rfl | rfl
      rotate_left
      · go_wp2_with fail
        refine (alive_any _).mono ?_
        rintro e w10 ⟨rfl, hb⟩
        have hB10 := hB9.next hb
        clear hb hB9
        have HE := Lib.hid hB10.below
        clear hB10
        go_wp2_with fail
        go_ret
        exact ⟨rfl, HE.out⟩
      have QO := Lib.hid (VQ1.out rfl).1
      have QL := Lib.hid (VM1.out.2.2 rfl)
      have QV := Lib.hid (VV1.out rfl).2.2.2
      have HVQ := Lib.hid (fun (W : World) (hW : Below w.heap.size w W) => HV.out q' QO.out.wf W hW)
      have HLT := Lib.hid (fun (W : World) => flt_any b q' OB.out QO.out W)
      rw [(ltB_qf OB.out QO.out).2 QL.out] at HLT
      obtain ⟨xx, hxx⟩ : ∃ t, t = K.val a q' := ⟨_, rfl⟩
      obtain ⟨xc, hxc⟩ : ∃ t, t = K.valC a q' := ⟨_, rfl⟩
      rw [← hxx, ← hxc] at HVQ QV
      clear hxx hxc VM1 VQ1 VV1
      have c_q := fun j => cell_of_row _ _ j _ _ _ (hB9.get 0 rfl)
      have z_q := hB9.lt 0 rfl
      have c_a := fun j => cell_of_row _ _ j _ _ _ (hB9.get 7 rfl)
      have z_a := hB9.lt 7 rfl
      have c_K := fun j => cell_of_row _ _ j _ _ _ (hB9.get 8 rfl)
      have z_K := hB9.lt 8 rfl
      go_wp2_with fail
      refine (HVQ.out _ hB9.below).mono ?_
      rintro e w10 ⟨rfl, hb⟩
      have hB10 := hB9.next hb
      clear c_q z_q c_a z_a c_K z_K hb hB9
      go_upto_region 25 with fail
      have hB11 := hB10.new rfl (rB xx)
      clear hB10
      generalize w10.heap.size = gX at *
      generalize w10.alloc _ = w11 at *
      have c_q := fun j => cell_of_row _ _ j _ _ _ (hB11.get 1 rfl)
      have z_q := hB11.lt 1 rfl
      have c_b := fun j => cell_of_row _ _ j _ _ _ (hB11.get 7 rfl)
      have z_b := hB11.lt 7 rfl
      go_wp2_with fail
      refine (HLT.out _).mono ?_
      rintro e w12 ⟨rfl, hb⟩
      have hB12 := hB11.next hb
      clear c_q z_q c_b z_b hb hB11
      rcases QV.out.1 with rfl | rfl
      · obtain rfl := QV.out.2 rfl
        have c_x := fun j => cell_of_row _ _ j _ _ _ (hB12.get 0 rfl)
        have z_x := hB12.lt 0 rfl
        have c_w := fun j => cell_of_row _ _ j _ _ _ (hB12.get 2 rfl)
        have z_w := hB12.lt 2 rfl
        go_wp2_with fail
        refine (alive_any _).mono ?_
        rintro e w13 ⟨rfl, hb⟩
        have hB13 := hB12.next hb
        clear c_x z_x c_w z_w hb hB12
        have HE := Lib.hid hB13.below
        clear hB13
        go_wp2_with fail
        go_ret
        exact ⟨rfl, HE.out⟩
      · have c_x := fun j => cell_of_row _ _ j _ _ _ (hB12.get 0 rfl)
        have z_x := hB12.lt 0 rfl
        have c_w := fun j => cell_of_row _ _ j _ _ _ (hB12.get 2 rfl)
        have z_w := hB12.lt 2 rfl
        go_wp2_with fail
        refine (alive_any _).mono ?_
        rintro e w13 ⟨rfl, hb⟩
        have hB13 := hB12.next hb
        clear c_x z_x c_w z_w hb hB12
        have HE := Lib.hid hB13.below
        clear hB13
        go_wp2_with fail
        go_ret
        exact ⟨rfl, HE.out⟩
  · clear M1 M2 M3 MC HMV VL VF
    have c_b := fun j => cell_of_row _ _ j _ _ _ (hB4.get 3 rfl)
    have z_b := hB4.lt 3 rfl
    have c_a := fun j => cell_of_row _ _ j _ _ _ (hB4.get 4 rfl)
    have z_a := hB4.lt 4 rfl
    have c_K := fun j => cell_of_row _ _ j _ _ _ (hB4.get 5 rfl)
    have z_K := hB4.lt 5 rfl
    obtain ⟨ww, hww⟩ : ∃ t, t = K.val a b := ⟨_, rfl⟩
    obtain ⟨wc, hwc⟩ : ∃ t, t = K.valC a b := ⟨_, rfl⟩
    rw [← hww, ← hwc] at HVB VM VQV VQ
    rw [← hwc] at VC
    clear hww hwc
    go_wp2_with fail
    refine (HVB.out _ hB4.below).mono ?_
    rintro e w5 ⟨rfl, hb⟩
    have hB5 := hB4.next hb
    clear c_b z_b c_a z_a c_K z_K hb hB4
    go_upto_region 19 with fail
    have hB6 := hB5.new rfl (rB ww)
    clear hB5
    generalize w5.heap.size = gW at *
    generalize w5.alloc _ = w6 at *
    rcases VC.out with rfl | rfl
    rotate_left
    · go_wp2_with fail
      refine (alive_any _).mono ?_
      rintro e w7 ⟨rfl, hb⟩
      have hB7 := hB6.next hb
      clear hb hB6
      have HE := Lib.hid hB7.below
      clear hB7
      go_wp2_with fail
      go_ret
      exact ⟨rfl, HE.out⟩
    have VM1 := Lib.hid (VM.out rfl)
    have VQ1 := Lib.hid (VQ.out rfl)
    have VV1 := Lib.hid (VQV.out rfl)
    clear VM VQ VQV
    have HMW := Lib.hid (fun (W : World) (hW : Below w.heap.size w W) => HM.out ww VM1.out.1.wf W hW)
    obtain ⟨q', hq'⟩ : ∃ t, t = K.mark a ww := ⟨_, rfl⟩
    obtain ⟨qc, hqc⟩ : ∃ t, t = K.markC a ww := ⟨_, rfl⟩
    rw [← hq', ← hqc] at HMW VM1 VQ1 VV1
    clear hq' hqc
    have c_w := fun j => cell_of_row _ _ j _ _ _ (hB6.get 0 rfl)
    have z_w := hB6.lt 0 rfl
    have c_a := fun j => cell_of_row _ _ j _ _ _ (hB6.get 5 rfl)
    have z_a := hB6.lt 5 rfl
    have c_K := fun j => cell_of_row _ _ j _ _ _ (hB6.get 6 rfl)
    have z_K := hB6.lt 6 rfl
    go_wp2_with fail
    refine (HMW.out _ hB6.below).mono ?_
    rintro e w7 ⟨rfl, hb⟩
    have hB7 := hB6.next hb
    clear c_w z_w c_a z_a c_K z_K hb hB6
    go_upto_region 22 with fail
    have hB8 := hB7.new rfl (rB q')
    clear hB7
    generalize w7.heap.size = gQ at *
    generalize w7.alloc _ = w8 at *
    rcases VM1.out.2.1 with rfl | rfl
    rotate_left
    · go_wp2_with fail
      refine (alive_any _).mono ?_
      rintro e w9 ⟨rfl, hb⟩
      have hB9 := hB8.next hb
      clear hb hB8
      have HE := Lib.hid hB9.below
      clear hB9
      go_wp2_with fail
      go_ret
      exact ⟨rfl, HE.out⟩
    have QO := Lib.hid (VQ1.out rfl).1
    have QL := Lib.hid (VM1.out.2.2 rfl)
    have QV := Lib.hid (VV1.out rfl).2.2.2
    have HVQ := Lib.hid (fun (W : World) (hW : Below w.heap.size w W) => HV.out q' QO.out.wf W hW)
    have HLT := Lib.hid (fun (W : World) => flt_any b q' OB.out QO.out W)
    rw [(ltB_qf OB.out QO.out).2 QL.out] at HLT
    obtain ⟨xx, hxx⟩ : ∃ t, t = K.val a q' := ⟨_, rfl⟩
    obtain ⟨xc, hxc⟩ : ∃ t, t = K.valC a q' := ⟨_, rfl⟩
    rw [← hxx, ← hxc] at HVQ QV
    clear hxx hxc VM1 VQ1 VV1
    have c_q := fun j => cell_of_row _ _ j _ _ _ (hB8.get 0 rfl)
    have z_q := hB8.lt 0 rfl
    have c_a := fun j => cell_of_row _ _ j _ _ _ (hB8.get 6 rfl)
    have z_a := hB8.lt 6 rfl
    have c_K := fun j => cell_of_row _ _ j _ _ _ (hB8.get 7 rfl)
    have z_K := hB8.lt 7 rfl
    go_wp2_with fail
    refine (HVQ.out _ hB8.below).mono ?_
    rintro e w9 ⟨rfl, hb⟩
    have hB9 := hB8.next hb
    clear c_q z_q c_a z_a c_K z_K hb hB8
    go_upto_region 25 with fail
    have hB10 := hB9.new rfl (rB xx)
    clear hB9
    generalize w9.heap.size = gX at *
    generalize w9.alloc _ = w10 at *
    have c_q := fun j => cell_of_row _ _ j _ _ _ (hB10.get 1 rfl)
    have z_q := hB10.lt 1 rfl
    have c_b := fun j => cell_of_row _ _ j _ _ _ (hB10.get 6 rfl)
    have z_b := hB10.lt 6 rfl
    go_wp2_with fail
    refine (HLT.out _).mono ?_
    rintro e w11 ⟨rfl, hb⟩
    have hB11 := hB10.next hb
    clear c_q z_q c_b z_b hb hB10
    rcases QV.out.1 with rfl | rfl
    · obtain rfl := QV.out.2 rfl
      have c_x := fun j => cell_of_row _ _ j _ _ _ (hB11.get 0 rfl)
      have z_x := hB11.lt 0 rfl
      have c_w := fun j => cell_of_row _ _ j _ _ _ (hB11.get 2 rfl)
      have z_w := hB11.lt 2 rfl
      go_wp2_with fail
      refine (alive_any _).mono ?_
      rintro e w12 ⟨rfl, hb⟩
      have hB12 := hB11.next hb
      clear c_x z_x c_w z_w hb hB11
      have HE := Lib.hid hB12.below
      clear hB12
      go_wp2_with fail
      go_ret
      exact ⟨rfl, HE.out⟩
    · have c_x := fun j => cell_of_row _ _ j _ _ _ (hB11.get 0 rfl)
      have z_x := hB11.lt 0 rfl
      have c_w := fun j => cell_of_row _ _ j _ _ _ (hB11.get 2 rfl)
      have z_w := hB11.lt 2 rfl
      go_wp2_with fail
      refine (alive_any _).mono ?_
      rintro e w12 ⟨rfl, hb⟩
      have hB12 := hB11.next hb
      clear c_x z_x c_w z_w hb hB11
      have HE := Lib.hid hB12.below
      clear hB12
      go_wp2_with fail
      go_ret
      exact ⟨rfl, HE.out⟩
end Go.Proofs.Ytgcbmnohhbcfiaa
