/- Value of cakes, walked. -/
import Derived.Test.YtgcbmnohhbcfiaaCm9
import Derived.Test.YtgcbmnohhbcfiaaCm8
import Derived.Test.YtgcbmnohhbcfiaaCm10
import Derived.Test.YtgcbmnohhbcfiaaCm6
import Derived.Test.YtgcbmnohhbcfiaaCm7
namespace Go.Proofs.Ytgcbmnohhbcfiaa
open Go.RowKit Go.Deep
set_option linter.unusedVariables false
set_option linter.unusedSimpArgs false

theorem Ck.valC_loop {K : Ck} {a b : Rt} (h : K.code = 0) (h1 : pointB K.len a = true) (h2 : pointB K.len b = true) (h3 : ltB b a = false) : K.valC a b = (K.vTo a b K.dens.length).e := by
  unfold Ck.valC; rw [if_neg (by omega), if_pos ⟨h1, h2, h3⟩]
theorem Ck.val_bad {K : Ck} {a b : Rt} {x : Int} (h : K.valC a b = x) (hx : x ≠ 0) : K.val a b = ⟨0, 0⟩ := by unfold Ck.val; rw [if_neg (by omega)]
theorem vTo_stay {K : Ck} {a b : Rt} {i : Nat} (h : (K.vTo a b i).e ≠ 0) : ∀ k, i ≤ k → (K.vTo a b k).e = (K.vTo a b i).e
  | 0, hk => by have : i = 0 := by omega
                subst this; rfl
  | k + 1, hk => by
    by_cases e : i = k + 1
    · subst e; rfl
    · have ih := vTo_stay h k (by omega)
      show (K.vStep b k (K.vTo a b k)).e = _
      unfold Ck.vStep
      rw [if_pos (by omega)]; exact ih
section
variable {K : Ck} {b : Rt} {i : Nat} {s : VS}
theorem vStep_skip (h0 : s.e = 0) (h : ltB s.at_ (K.vEnd b i) = false) : K.vStep b i s = s := by unfold Ck.vStep; rw [if_neg (by omega), if_pos h]
theorem vStep_none (h0 : s.e = 0) (h : ltB s.at_ (K.vEnd b i) = true) (hd : gi K.dens i = 0) : K.vStep b i s = ⟨K.vEnd b i, s.sum, 0⟩ := by unfold Ck.vStep; rw [if_neg (by omega), if_neg (by rw [h]; decide), if_pos hd]
theorem vStep_e1 (h0 : s.e = 0) (h : ltB s.at_ (K.vEnd b i) = true) (hd : gi K.dens i ≠ 0) (k : subC (K.vEnd b i) s.at_ ≠ 0) : (K.vStep b i s).e = subC (K.vEnd b i) s.at_ := by
  have e : pieceC s.at_ (K.vEnd b i) (gi K.dens i) = subC (K.vEnd b i) s.at_ := by unfold pieceC; rw [if_pos k]
  unfold Ck.vStep; rw [if_neg (by omega), if_neg (by rw [h]; decide), if_neg hd, if_pos (by rw [e]; exact k), e]
theorem vStep_e2 (h0 : s.e = 0) (h : ltB s.at_ (K.vEnd b i) = true) (hd : gi K.dens i ≠ 0) (k : subC (K.vEnd b i) s.at_ = 0) (l : mulC (subR (K.vEnd b i) s.at_) ⟨gi K.dens i, 1⟩ ≠ 0) : (K.vStep b i s).e = mulC (subR (K.vEnd b i) s.at_) ⟨gi K.dens i, 1⟩ := by
  have e : pieceC s.at_ (K.vEnd b i) (gi K.dens i) = mulC (subR (K.vEnd b i) s.at_) ⟨gi K.dens i, 1⟩ := by unfold pieceC; rw [if_neg (by omega)]
  unfold Ck.vStep; rw [if_neg (by omega), if_neg (by rw [h]; decide), if_neg hd, if_pos (by rw [e]; exact l), e]
theorem vStep_e3 (h0 : s.e = 0) (h : ltB s.at_ (K.vEnd b i) = true) (hd : gi K.dens i ≠ 0) (k : subC (K.vEnd b i) s.at_ = 0) (l : mulC (subR (K.vEnd b i) s.at_) ⟨gi K.dens i, 1⟩ = 0)
    (m : addC s.sum (mulR (subR (K.vEnd b i) s.at_) ⟨gi K.dens i, 1⟩) ≠ 0) : (K.vStep b i s).e = addC s.sum (mulR (subR (K.vEnd b i) s.at_) ⟨gi K.dens i, 1⟩) := by
  have e : pieceC s.at_ (K.vEnd b i) (gi K.dens i) = mulC (subR (K.vEnd b i) s.at_) ⟨gi K.dens i, 1⟩ := by unfold pieceC; rw [if_neg (by omega)]
  unfold Ck.vStep; rw [if_neg (by omega), if_neg (by rw [h]; decide), if_neg hd, if_neg (by rw [e]; omega), if_pos (by unfold pieceR; exact m)]; rfl
theorem vStep_go (h0 : s.e = 0) (h : ltB s.at_ (K.vEnd b i) = true) (hd : gi K.dens i ≠ 0) (k : subC (K.vEnd b i) s.at_ = 0) (l : mulC (subR (K.vEnd b i) s.at_) ⟨gi K.dens i, 1⟩ = 0)
    (m : addC s.sum (mulR (subR (K.vEnd b i) s.at_) ⟨gi K.dens i, 1⟩) = 0) : K.vStep b i s = ⟨K.vEnd b i, addR s.sum (mulR (subR (K.vEnd b i) s.at_) ⟨gi K.dens i, 1⟩), 0⟩ := by
  have e : pieceC s.at_ (K.vEnd b i) (gi K.dens i) = mulC (subR (K.vEnd b i) s.at_) ⟨gi K.dens i, 1⟩ := by unfold pieceC; rw [if_neg (by omega)]
  unfold Ck.vStep; rw [if_neg (by omega), if_neg (by rw [h]; decide), if_neg hd, if_neg (by rw [e]; omega), if_neg (by unfold pieceR; omega)]; rfl
end

set_option maxRecDepth 100000 in
set_option maxHeartbeats 16000000 in
theorem cvalue_any (K : Ck) (A : Option Addr) (c : Nat) (R : Option Addr) (d : Nat) (a b : Rt) (ha : a.wf) (hb : b.wf) (w : World) (h : CIn w.heap.size w A c R d K) :
    Calls Try.prog 33 #[cV A c R d K, rV a, rV b] w fun e w' => e = .returned (.tuple #[rV (K.val a b), .int .i64 (K.valC a b)]) ∧ Below w.heap.size w w' := by
  have hB0 : Bx w [(w.heap.size + 1 + 1 + 1, rB ⟨0, 0⟩), (w.heap.size + 1 + 1, rB b), (w.heap.size + 1, rB a), (w.heap.size, cB A c R d K)] ((((w.alloc (cB A c R d K)).alloc (rB a)).alloc (rB b)).alloc (rB ⟨0, 0⟩)) :=
    ((((Bx.start w).new rfl _).new (by simp) _).new (by simp) _).new (by simp) _
  have HH := Lib.hid h
  have HA := Lib.hid ha
  have HB := Lib.hid hb
  have HC := Lib.hid (fun (W : World) (hW : Below w.heap.size w W) => ccheck_any K A c R d W (h.next hW))
  clear h ha hb
  go_enter Try.func33, Try.ntmps33
  go_upto_region 1 with fail
  generalize hw0 : (((w.alloc (cB A c R d K)).alloc (rB a)).alloc (rB b)).alloc (rB ⟨0, 0⟩) = w0 at *
  clear hw0
  generalize w.heap.size + 1 + 1 + 1 = gO at *
  generalize w.heap.size + 1 + 1 = gB at *
  generalize w.heap.size + 1 = gA at *
  have c_K := fun j => cell_of_row _ _ j _ _ _ (hB0.get 3 rfl)
  have z_K := hB0.lt 3 rfl
  by_cases hc : K.code = 0
  rotate_left
  · have q : (K.code != 0) = true := by simpa using hc
    have HV := Lib.hid (show K.valC a b = K.code ∧ K.val a b = ⟨0, 0⟩ by
      have e : K.valC a b = K.code := by unfold Ck.valC; rw [if_pos hc]
      exact ⟨e, by unfold Ck.val; rw [e, if_neg hc]⟩)
    generalize K.code = code at *
    clear hc
    go_wp2_with fail
    refine (HC.out _ hB0.below).mono ?_
    rintro e w1 ⟨rfl, hb⟩
    have hB1 := hB0.next hb
    clear c_K z_K hb hB0
    have c_out := fun j => cell_of_row _ _ j _ _ _ (hB1.get 0 rfl)
    have z_out := hB1.lt 0 rfl
    have f_out := fun j => frozen_of_row _ _ j _ _ (hB1.get 0 rfl)
    have c_b := fun j => cell_of_row _ _ j _ _ _ (hB1.get 1 rfl)
    have z_b := hB1.lt 1 rfl
    have c_a := fun j => cell_of_row _ _ j _ _ _ (hB1.get 2 rfl)
    have z_a := hB1.lt 2 rfl
    have c_K := fun j => cell_of_row _ _ j _ _ _ (hB1.get 3 rfl)
    have z_K := hB1.lt 3 rfl
    have HE := Lib.hid (hB1.put 0 rfl ⟨0, 0⟩).below
    clear hB1
    go_wp2_with fail
    refine bodyPost_ret (v := .tuple #[rV ⟨0, 0⟩, .int .i64 (code)]) (by simp [results, Try.results33, go_sem, c_out, f_out, z_out]) rfl ?_
    exact ⟨by rw [HV.out.1, HV.out.2], HE.out⟩
  have HK := Lib.hid (Ck.ok_code hc)
  have HCZ := Lib.hid hc
  have l1 := HK.out.l1
  have l2 := HK.out.l2
  have HPA := Lib.hid (fun (W : World) => cpoint_any K A c R d a HA.out (by omega) l2 W)
  have HPB := Lib.hid (fun (W : World) => cpoint_any K A c R d b HB.out (by omega) l2 W)
  have HV0 := Lib.hid (show K.valC a b = if pointB K.len a = true ∧ pointB K.len b = true ∧ ltB b a = false then (K.vTo a b K.dens.length).e else 2 by unfold Ck.valC; rw [if_neg (by omega)])
  have HVB := Lib.hid (fun (x : Int) (e : K.valC a b = x) (hx : x ≠ 0) => Ck.val_bad e hx)
  rw [hc] at HC
  clear hc
  go_wp2_with fail
  refine (HC.out _ hB0.below).mono ?_
  rintro e w1 ⟨rfl, hb⟩
  have hB1 := hB0.next hb
  clear c_K z_K hb hB0
  have HQA := Lib.hid (fun (h : pointB K.len a = true) => (point_q (by omega) l2).1 h)
  have HQB := Lib.hid (fun (h : pointB K.len b = true) => (point_q (by omega) l2).1 h)
  cases hpa : pointB K.len a with
  | false =>
    have HX := Lib.hid (show K.valC a b = 2 by rw [HV0.out, if_neg (by rw [hpa]; simp)])
    rw [hpa] at HPA
    clear hpa
    have c_out := fun j => cell_of_row _ _ j _ _ _ (hB1.get 0 rfl)
    have z_out := hB1.lt 0 rfl
    have c_b := fun j => cell_of_row _ _ j _ _ _ (hB1.get 1 rfl)
    have z_b := hB1.lt 1 rfl
    have c_a := fun j => cell_of_row _ _ j _ _ _ (hB1.get 2 rfl)
    have z_a := hB1.lt 2 rfl
    have c_K := fun j => cell_of_row _ _ j _ _ _ (hB1.get 3 rfl)
    have z_K := hB1.lt 3 rfl
    go_wp2_with fail
    refine (HPA.out _).mono ?_
    rintro e w2 ⟨rfl, hb⟩
    have hB2 := hB1.next hb
    clear c_out z_out c_b z_b c_a z_a c_K z_K hb hB1
    have c_out := fun j => cell_of_row _ _ j _ _ _ (hB2.get 0 rfl)
    have z_out := hB2.lt 0 rfl
    have f_out := fun j => frozen_of_row _ _ j _ _ (hB2.get 0 rfl)
    have c_b := fun j => cell_of_row _ _ j _ _ _ (hB2.get 1 rfl)
    have z_b := hB2.lt 1 rfl
    have c_a := fun j => cell_of_row _ _ j _ _ _ (hB2.get 2 rfl)
    have z_a := hB2.lt 2 rfl
    have c_K := fun j => cell_of_row _ _ j _ _ _ (hB2.get 3 rfl)
    have z_K := hB2.lt 3 rfl
    have HE := Lib.hid (hB2.put 0 rfl ⟨0, 0⟩).below
    clear hB2
    go_wp2_with fail
    refine bodyPost_ret (v := .tuple #[rV ⟨0, 0⟩, .int .i64 (2)]) (by simp [results, Try.results33, go_sem, c_out, f_out, z_out]) rfl ?_
    exact ⟨by rw [HVB.out 2 HX.out (by decide), HX.out], HE.out⟩
  | true =>
  have HPa := Lib.hid hpa
  rw [hpa] at HPA
  clear hpa
  have c_out := fun j => cell_of_row _ _ j _ _ _ (hB1.get 0 rfl)
  have z_out := hB1.lt 0 rfl
  have c_b := fun j => cell_of_row _ _ j _ _ _ (hB1.get 1 rfl)
  have z_b := hB1.lt 1 rfl
  have c_a := fun j => cell_of_row _ _ j _ _ _ (hB1.get 2 rfl)
  have z_a := hB1.lt 2 rfl
  have c_K := fun j => cell_of_row _ _ j _ _ _ (hB1.get 3 rfl)
  have z_K := hB1.lt 3 rfl
  go_wp2_with fail
  refine (HPA.out _).mono ?_
  rintro e w2 ⟨rfl, hb⟩
  have hB2 := hB1.next hb
  clear c_out z_out c_b z_b c_a z_a c_K z_K hb hB1
  cases hpb : pointB K.len b with
  | false =>
    have HX := Lib.hid (show K.valC a b = 2 by rw [HV0.out, if_neg (by rw [hpb]; simp)])
    rw [hpb] at HPB
    clear hpb
    have c_out := fun j => cell_of_row _ _ j _ _ _ (hB2.get 0 rfl)
    have z_out := hB2.lt 0 rfl
    have c_b := fun j => cell_of_row _ _ j _ _ _ (hB2.get 1 rfl)
    have z_b := hB2.lt 1 rfl
    have c_a := fun j => cell_of_row _ _ j _ _ _ (hB2.get 2 rfl)
    have z_a := hB2.lt 2 rfl
    have c_K := fun j => cell_of_row _ _ j _ _ _ (hB2.get 3 rfl)
    have z_K := hB2.lt 3 rfl
    go_wp2_with fail
    refine (HPB.out _).mono ?_
    rintro e w3 ⟨rfl, hb⟩
    have hB3 := hB2.next hb
    clear c_out z_out c_b z_b c_a z_a c_K z_K hb hB2
    have c_out := fun j => cell_of_row _ _ j _ _ _ (hB3.get 0 rfl)
    have z_out := hB3.lt 0 rfl
    have f_out := fun j => frozen_of_row _ _ j _ _ (hB3.get 0 rfl)
    have c_b := fun j => cell_of_row _ _ j _ _ _ (hB3.get 1 rfl)
    have z_b := hB3.lt 1 rfl
    have c_a := fun j => cell_of_row _ _ j _ _ _ (hB3.get 2 rfl)
    have z_a := hB3.lt 2 rfl
    have c_K := fun j => cell_of_row _ _ j _ _ _ (hB3.get 3 rfl)
    have z_K := hB3.lt 3 rfl
    have HE := Lib.hid (hB3.put 0 rfl ⟨0, 0⟩).below
    clear hB3
    go_wp2_with fail
    refine bodyPost_ret (v := .tuple #[rV ⟨0, 0⟩, .int .i64 (2)]) (by simp [results, Try.results33, go_sem, c_out, f_out, z_out]) rfl ?_
    exact ⟨by rw [HVB.out 2 HX.out (by decide), HX.out], HE.out⟩
  | true =>
  have HPb := Lib.hid hpb
  rw [hpb] at HPB
  clear hpb
  have c_out := fun j => cell_of_row _ _ j _ _ _ (hB2.get 0 rfl)
  have z_out := hB2.lt 0 rfl
  have c_b := fun j => cell_of_row _ _ j _ _ _ (hB2.get 1 rfl)
  have z_b := hB2.lt 1 rfl
  have c_a := fun j => cell_of_row _ _ j _ _ _ (hB2.get 2 rfl)
  have z_a := hB2.lt 2 rfl
  have c_K := fun j => cell_of_row _ _ j _ _ _ (hB2.get 3 rfl)
  have z_K := hB2.lt 3 rfl
  go_wp2_with fail
  refine (HPB.out _).mono ?_
  rintro e w3 ⟨rfl, hb⟩
  have hB3 := hB2.next hb
  clear c_out z_out c_b z_b c_a z_a c_K z_K hb hB2
  have OA := Lib.hid (HQA.out HPa.out)
  have OB := Lib.hid (HQB.out HPb.out)
  have HLT := Lib.hid (fun (W : World) => cless_any b a OB.out.1 OA.out.1 W)
  clear HQA HQB HPA HPB
  cases hl : ltB b a with
  | true =>
    have HX := Lib.hid (show K.valC a b = 2 by rw [HV0.out, if_neg (by rw [hl]; simp)])
    rw [hl] at HLT
    clear hl
    have c_out := fun j => cell_of_row _ _ j _ _ _ (hB3.get 0 rfl)
    have z_out := hB3.lt 0 rfl
    have c_b := fun j => cell_of_row _ _ j _ _ _ (hB3.get 1 rfl)
    have z_b := hB3.lt 1 rfl
    have c_a := fun j => cell_of_row _ _ j _ _ _ (hB3.get 2 rfl)
    have z_a := hB3.lt 2 rfl
    have c_K := fun j => cell_of_row _ _ j _ _ _ (hB3.get 3 rfl)
    have z_K := hB3.lt 3 rfl
    go_wp2_with fail
    refine (HLT.out _).mono ?_
    rintro e w4 ⟨rfl, hb⟩
    have hB4 := hB3.next hb
    clear c_out z_out c_b z_b c_a z_a c_K z_K hb hB3
    have c_out := fun j => cell_of_row _ _ j _ _ _ (hB4.get 0 rfl)
    have z_out := hB4.lt 0 rfl
    have f_out := fun j => frozen_of_row _ _ j _ _ (hB4.get 0 rfl)
    have c_b := fun j => cell_of_row _ _ j _ _ _ (hB4.get 1 rfl)
    have z_b := hB4.lt 1 rfl
    have c_a := fun j => cell_of_row _ _ j _ _ _ (hB4.get 2 rfl)
    have z_a := hB4.lt 2 rfl
    have c_K := fun j => cell_of_row _ _ j _ _ _ (hB4.get 3 rfl)
    have z_K := hB4.lt 3 rfl
    have HE := Lib.hid (hB4.put 0 rfl ⟨0, 0⟩).below
    clear hB4
    go_wp2_with fail
    refine bodyPost_ret (v := .tuple #[rV ⟨0, 0⟩, .int .i64 (2)]) (by simp [results, Try.results33, go_sem, c_out, f_out, z_out]) rfl ?_
    exact ⟨by rw [HVB.out 2 HX.out (by decide), HX.out], HE.out⟩
  | false =>
  have HX := Lib.hid (Ck.valC_loop HCZ.out HPa.out HPb.out hl)
  rw [hl] at HLT
  have HAB := Lib.hid ((ltB_qf OB.out.1 OA.out.1).1 hl)
  clear hl
  have c_out := fun j => cell_of_row _ _ j _ _ _ (hB3.get 0 rfl)
  have z_out := hB3.lt 0 rfl
  have c_b := fun j => cell_of_row _ _ j _ _ _ (hB3.get 1 rfl)
  have z_b := hB3.lt 1 rfl
  have c_a := fun j => cell_of_row _ _ j _ _ _ (hB3.get 2 rfl)
  have z_a := hB3.lt 2 rfl
  have c_K := fun j => cell_of_row _ _ j _ _ _ (hB3.get 3 rfl)
  have z_K := hB3.lt 3 rfl
  go_wp2_with fail
  refine (HLT.out _).mono ?_
  rintro e w4 ⟨rfl, hb⟩
  have hB4 := hB3.next hb
  clear c_out z_out c_b z_b c_a z_a c_K z_K hb hB3
  have c_out := fun j => cell_of_row _ _ j _ _ _ (hB4.get 0 rfl)
  have z_out := hB4.lt 0 rfl
  have c_b := fun j => cell_of_row _ _ j _ _ _ (hB4.get 1 rfl)
  have z_b := hB4.lt 1 rfl
  have c_a := fun j => cell_of_row _ _ j _ _ _ (hB4.get 2 rfl)
  have z_a := hB4.lt 2 rfl
  have c_K := fun j => cell_of_row _ _ j _ _ _ (hB4.get 3 rfl)
  have z_K := hB4.lt 3 rfl
  go_wp2_with fail
  refine (whole_any _ _).mono ?_
  rintro e w5 ⟨rfl, hb⟩
  have hB5 := hB4.next hb
  clear c_out z_out c_b z_b c_a z_a c_K z_K hb hB4
  go_upto_region 7 with fail
  have hB6 := hB5.new rfl (rB ⟨0, 1⟩)
  clear hB5
  generalize w5.heap.size = gS at *
  generalize w5.alloc _ = w6 at *
  have c_a := fun j => cell_of_row _ _ j _ _ _ (hB6.get 3 rfl)
  have z_a := hB6.lt 3 rfl
  go_upto_region 8 with fail
  have hB7 := hB6.new rfl (rB a)
  clear c_a z_a hB6
  generalize w6.heap.size = gT at *
  generalize w6.alloc _ = w7 at *
  have c_K := fun j => cell_of_row _ _ j _ _ _ (hB7.get 5 rfl)
  have z_K := hB7.lt 5 rfl
  have n1 := HK.out.n1
  have n2 := HK.out.n2
  go_wp2_with fail
  clear c_K z_K l1 l2
  have HB0 := Lib.hid hB7
  clear hB7
  go_loopw [11, 12, 13, 14, 15, 16, 44] (fun _ _ _ _ _ _ s44 wr => ∃ k : Nat, k ≤ K.dens.length ∧ s44 = .int .i64 k ∧ (K.vTo a b k).e = 0 ∧ Bx w [(gT, rB (K.vTo a b k).at_), (gS, rB (K.vTo a b k).sum), (gO, rB ⟨0, 0⟩), (gB, rB b), (gA, rB a), (w.heap.size, cB A c R d K)] wr) (fun _ _ _ _ _ _ s44 _ => K.dens.length - (intOf s44).toNat)
  case atStart => exact ⟨0, Nat.zero_le _, rfl, rfl, HB0.out⟩
  case round =>
    obtain ⟨k, hk, rfl, he0, hBr⟩ := hrel
    by_cases hlt : k < K.dens.length
    rotate_left
    · obtain rfl : k = K.dens.length := by omega
      have HR := Lib.hid (show K.val a b = (K.vTo a b K.dens.length).sum ∧ K.valC a b = 0 by
        have e : K.valC a b = 0 := HX.out.trans he0
        exact ⟨by unfold Ck.val; rw [if_pos e], e⟩)
      generalize K.vTo a b K.dens.length = vs at *
      have c_sum := fun j => cell_of_row _ _ j _ _ _ (hBr.get 1 rfl)
      have z_sum := hBr.lt 1 rfl
      have c_out := fun j => cell_of_row _ _ j _ _ _ (hBr.get 2 rfl)
      have z_out := hBr.lt 2 rfl
      have f_out := fun j => frozen_of_row _ _ j _ _ (hBr.get 2 rfl)
      have HE := Lib.hid (hBr.put 2 rfl vs.sum).below
      clear hBr he0
      go_wp2_with fail
      refine bodyPost_ret (v := .tuple #[rV vs.sum, .int .i64 0]) (by simp [results, Try.results33, go_sem, c_out, f_out, z_out]) rfl ?_
      exact ⟨by rw [HR.out.1, HR.out.2], HE.out⟩
    have HS := Lib.hid (vTo_ok HK.out OA.out.1 OB.out.1 OA.out.2.1 HAB.out k hk)
    have HEn := Lib.hid (HK.out.vEnd_ok OB.out.1 hlt)
    have HCut := Lib.hid (HK.out.cut_ok (i := k + 1) (by omega))
    have HST := Lib.hid (show K.vTo a b (k + 1) = K.vStep b k (K.vTo a b k) from rfl)
    have HSY := Lib.hid (fun (h : (K.vTo a b (k + 1)).e ≠ 0) => vTo_stay h K.dens.length (by omega))
    have HE0 := Lib.hid he0
    have fit := HK.out.fit k hlt
    have HFit := Lib.hid fit
    have nc := HK.out.nc
    obtain ⟨s, hs⟩ : ∃ s, s = K.vTo a b k := ⟨_, rfl⟩
    rw [← hs] at HS HST HE0 hBr
    clear hs he0
    obtain ⟨ad, rfl, hb1, hc1⟩ := HH.out.cuts.at_ (show k + 1 < K.cuts.length by omega)
    obtain ⟨rd, rfl, hb2, hc2⟩ := HH.out.dens.at_ hlt
    have HF := Lib.hid (fun (W : World) (hW : Below w.heap.size w W) => show W.cell? ⟨ad.block, ad.off + (k + 1), none⟩ = some (.int .i64 (gi K.cuts (k + 1))) ∧ W.cell? (rd.add k) = some (.int .i64 (gi K.dens k)) from
      ⟨(hW.cell (p := ad.add (k + 1)) (by rw [block_add]; exact hb1)).trans hc1, (hW.cell (by rw [block_add]; exact hb2)).trans hc2⟩)
    clear hb1 hc1 hb2 hc2
    have z1 : (k : Int) < (K.dens.length : Int) := by omega
    have z3 : (0 : Int) ≤ (k : Int) := by omega
    have z4 : (k : Int) + 1 < (K.cuts.length : Int) := by omega
    have z5 : (0 : Int) ≤ (k : Int) + 1 := by omega
    have z6 : ((k : Int) + 1).toNat = k + 1 := by omega
    have z8 : k + 1 < K.cuts.length := by omega
    have y1 : IntKind.i64.wrap ((k : Int) + 1) = (k : Int) + 1 := IntWalk.i64_in _ (by omega)
    have y1' : wrap64 ((k : Int) + 1) = (k : Int) + 1 := IntWalk.wrap64_in _ (by omega)
    have HLE := Lib.hid (show k + 1 ≤ K.dens.length by omega)
    have HME := Lib.hid (show K.dens.length - (k + 1) < K.dens.length - k by omega)
    obtain ⟨f1, f2⟩ := HF.out wr hBr.below
    clear nc fit n1 n2
    have c_K := fun j => cell_of_row _ _ j _ _ _ (hBr.get 5 rfl)
    have z_K := hBr.lt 5 rfl
    go_wp2_with fail
    refine (whole_any _ _).mono ?_
    rintro e w21 ⟨rfl, hb⟩
    have hB21 := hBr.next hb
    clear c_K z_K hb hBr
    clear f1 f2
    go_upto_region 12 with fail
    have hB22 := hB21.new rfl (rB ⟨gi K.cuts (k + 1), 1⟩)
    clear hB21
    generalize w21.heap.size = gE at *
    generalize w21.alloc _ = w22 at *
    have HLB := Lib.hid (fun (W : World) => cless_any b ⟨gi K.cuts (k + 1), 1⟩ OB.out.1 HCut.out W)
    have HVE := Lib.hid (show K.vEnd b k = if ltB b ⟨gi K.cuts (k + 1), 1⟩ = true then b else ⟨gi K.cuts (k + 1), 1⟩ from rfl)
    obtain ⟨lb, hlb⟩ : ∃ x, x = ltB b ⟨gi K.cuts (k + 1), 1⟩ := ⟨_, rfl⟩
    rw [← hlb] at HLB HVE
    clear hlb
    cases lb with
    | false =>
      have c_end := fun j => cell_of_row _ _ j _ _ _ (hB22.get 0 rfl)
      have z_end := hB22.lt 0 rfl
      have c_b := fun j => cell_of_row _ _ j _ _ _ (hB22.get 4 rfl)
      have z_b := hB22.lt 4 rfl
      go_wp2_with fail
      refine (HLB.out _).mono ?_
      rintro e w23 ⟨rfl, hb⟩
      have hB23 := hB22.next hb
      clear c_end z_end c_b z_b hb hB22
      have HEE := Lib.hid (show (⟨gi K.cuts (k + 1), 1⟩ : Rt) = K.vEnd b k by rw [HVE.out]; rfl)
      generalize (⟨gi K.cuts (k + 1), 1⟩ : Rt) = en at *
      have HEO := Lib.hid (show en.Ok by rw [HEE.out]; exact HEn.out.1)
      have HLA := Lib.hid (fun (W : World) => cless_any s.at_ en HS.out.at_ HEO.out W)
      obtain ⟨la, hla⟩ : ∃ x, x = ltB s.at_ en := ⟨_, rfl⟩
      rw [← hla] at HLA
      have HL2 := Lib.hid (show ltB s.at_ (K.vEnd b k) = la by rw [hla, HEE.out])
      clear hla
      by_cases hd : gi K.dens k = 0
      · have dq : (gi K.dens k == 0) = true := by simpa using hd
        cases la with
        | false =>
          have HN := Lib.hid (vStep_skip (K := K) (b := b) (i := k) HE0.out HL2.out)
          have c_end := fun j => cell_of_row _ _ j _ _ _ (hB23.get 0 rfl)
          have z_end := hB23.lt 0 rfl
          have c_at := fun j => cell_of_row _ _ j _ _ _ (hB23.get 1 rfl)
          have z_at := hB23.lt 1 rfl
          have c_sum := fun j => cell_of_row _ _ j _ _ _ (hB23.get 2 rfl)
          have z_sum := hB23.lt 2 rfl
          have c_out := fun j => cell_of_row _ _ j _ _ _ (hB23.get 3 rfl)
          have z_out := hB23.lt 3 rfl
          have c_b := fun j => cell_of_row _ _ j _ _ _ (hB23.get 4 rfl)
          have z_b := hB23.lt 4 rfl
          have c_a := fun j => cell_of_row _ _ j _ _ _ (hB23.get 5 rfl)
          have z_a := hB23.lt 5 rfl
          have c_K := fun j => cell_of_row _ _ j _ _ _ (hB23.get 6 rfl)
          have z_K := hB23.lt 6 rfl
          go_wp2_with fail
          refine (HLA.out _).mono ?_
          rintro e w24 ⟨rfl, hb⟩
          have hB24 := hB23.next hb
          clear c_end z_end c_at z_at c_sum z_sum c_out z_out c_b z_b c_a z_a c_K z_K hb hB23
          have HZ := Lib.hid hB24.drop
          clear hB24
          go_wp2_with fail
          exact ⟨⟨k + 1, HLE.out, by go_num, by rw [HST.out, HN.out]; exact HE0.out, by rw [HST.out, HN.out]; exact HZ.out⟩, by simpa [intOf] using HME.out⟩
        | true =>
          have HN := Lib.hid (vStep_none (K := K) (b := b) (i := k) HE0.out HL2.out hd)
          rw [← HEE.out] at HN
          have c_end := fun j => cell_of_row _ _ j _ _ _ (hB23.get 0 rfl)
          have z_end := hB23.lt 0 rfl
          have c_at := fun j => cell_of_row _ _ j _ _ _ (hB23.get 1 rfl)
          have z_at := hB23.lt 1 rfl
          have c_sum := fun j => cell_of_row _ _ j _ _ _ (hB23.get 2 rfl)
          have z_sum := hB23.lt 2 rfl
          have c_out := fun j => cell_of_row _ _ j _ _ _ (hB23.get 3 rfl)
          have z_out := hB23.lt 3 rfl
          have c_b := fun j => cell_of_row _ _ j _ _ _ (hB23.get 4 rfl)
          have z_b := hB23.lt 4 rfl
          have c_a := fun j => cell_of_row _ _ j _ _ _ (hB23.get 5 rfl)
          have z_a := hB23.lt 5 rfl
          have c_K := fun j => cell_of_row _ _ j _ _ _ (hB23.get 6 rfl)
          have z_K := hB23.lt 6 rfl
          go_wp2_with fail
          refine (HLA.out _).mono ?_
          rintro e w24 ⟨rfl, hb⟩
          have hB24 := hB23.next hb
          clear c_end z_end c_at z_at c_sum z_sum c_out z_out c_b z_b c_a z_a c_K z_K hb hB23
          have c_end := fun j => cell_of_row _ _ j _ _ _ (hB24.get 0 rfl)
          have z_end := hB24.lt 0 rfl
          have c_at := fun j => cell_of_row _ _ j _ _ _ (hB24.get 1 rfl)
          have z_at := hB24.lt 1 rfl
          have f_at := fun j => frozen_of_row _ _ j _ _ (hB24.get 1 rfl)
          have c_sum := fun j => cell_of_row _ _ j _ _ _ (hB24.get 2 rfl)
          have z_sum := hB24.lt 2 rfl
          have c_out := fun j => cell_of_row _ _ j _ _ _ (hB24.get 3 rfl)
          have z_out := hB24.lt 3 rfl
          have c_b := fun j => cell_of_row _ _ j _ _ _ (hB24.get 4 rfl)
          have z_b := hB24.lt 4 rfl
          have c_a := fun j => cell_of_row _ _ j _ _ _ (hB24.get 5 rfl)
          have z_a := hB24.lt 5 rfl
          have c_K := fun j => cell_of_row _ _ j _ _ _ (hB24.get 6 rfl)
          have z_K := hB24.lt 6 rfl
          have HZ := Lib.hid (hB24.put 1 rfl en).drop
          clear hB24
          go_wp2_with fail
          exact ⟨⟨k + 1, HLE.out, by go_num, by rw [HST.out, HN.out], by rw [HST.out, HN.out]; exact HZ.out⟩, by simpa [intOf] using HME.out⟩
      have dq : (gi K.dens k == 0) = false := by simpa using hd
      have HD0 := Lib.hid hd
      clear hd
      cases la with
      | false =>
        have c_end := fun j => cell_of_row _ _ j _ _ _ (hB23.get 0 rfl)
        have z_end := hB23.lt 0 rfl
        have c_at := fun j => cell_of_row _ _ j _ _ _ (hB23.get 1 rfl)
        have z_at := hB23.lt 1 rfl
        have c_sum := fun j => cell_of_row _ _ j _ _ _ (hB23.get 2 rfl)
        have z_sum := hB23.lt 2 rfl
        have c_out := fun j => cell_of_row _ _ j _ _ _ (hB23.get 3 rfl)
        have z_out := hB23.lt 3 rfl
        have c_b := fun j => cell_of_row _ _ j _ _ _ (hB23.get 4 rfl)
        have z_b := hB23.lt 4 rfl
        have c_a := fun j => cell_of_row _ _ j _ _ _ (hB23.get 5 rfl)
        have z_a := hB23.lt 5 rfl
        have c_K := fun j => cell_of_row _ _ j _ _ _ (hB23.get 6 rfl)
        have z_K := hB23.lt 6 rfl
        go_wp2_with fail
        refine (HLA.out _).mono ?_
        rintro e w24 ⟨rfl, hb⟩
        have hB24 := hB23.next hb
        clear c_end z_end c_at z_at c_sum z_sum c_out z_out c_b z_b c_a z_a c_K z_K hb hB23
        have HN := Lib.hid (vStep_skip (K := K) (b := b) (i := k) HE0.out HL2.out)
        have c_end := fun j => cell_of_row _ _ j _ _ _ (hB24.get 0 rfl)
        have z_end := hB24.lt 0 rfl
        have c_at := fun j => cell_of_row _ _ j _ _ _ (hB24.get 1 rfl)
        have z_at := hB24.lt 1 rfl
        have c_sum := fun j => cell_of_row _ _ j _ _ _ (hB24.get 2 rfl)
        have z_sum := hB24.lt 2 rfl
        have c_out := fun j => cell_of_row _ _ j _ _ _ (hB24.get 3 rfl)
        have z_out := hB24.lt 3 rfl
        have c_b := fun j => cell_of_row _ _ j _ _ _ (hB24.get 4 rfl)
        have z_b := hB24.lt 4 rfl
        have c_a := fun j => cell_of_row _ _ j _ _ _ (hB24.get 5 rfl)
        have z_a := hB24.lt 5 rfl
        have c_K := fun j => cell_of_row _ _ j _ _ _ (hB24.get 6 rfl)
        have z_K := hB24.lt 6 rfl
        go_wp2_with fail
        refine (HLA.out _).mono ?_
        rintro e w25 ⟨rfl, hb⟩
        have hB25 := hB24.next hb
        clear c_end z_end c_at z_at c_sum z_sum c_out z_out c_b z_b c_a z_a c_K z_K hb hB24
        have HZ := Lib.hid hB25.drop
        clear hB25
        go_wp2_with fail
        exact ⟨⟨k + 1, HLE.out, by go_num, by rw [HST.out, HN.out]; exact HE0.out, by rw [HST.out, HN.out]; exact HZ.out⟩, by simpa [intOf] using HME.out⟩
      | true =>
      have c_end := fun j => cell_of_row _ _ j _ _ _ (hB23.get 0 rfl)
      have z_end := hB23.lt 0 rfl
      have c_at := fun j => cell_of_row _ _ j _ _ _ (hB23.get 1 rfl)
      have z_at := hB23.lt 1 rfl
      have c_sum := fun j => cell_of_row _ _ j _ _ _ (hB23.get 2 rfl)
      have z_sum := hB23.lt 2 rfl
      have c_out := fun j => cell_of_row _ _ j _ _ _ (hB23.get 3 rfl)
      have z_out := hB23.lt 3 rfl
      have c_b := fun j => cell_of_row _ _ j _ _ _ (hB23.get 4 rfl)
      have z_b := hB23.lt 4 rfl
      have c_a := fun j => cell_of_row _ _ j _ _ _ (hB23.get 5 rfl)
      have z_a := hB23.lt 5 rfl
      have c_K := fun j => cell_of_row _ _ j _ _ _ (hB23.get 6 rfl)
      have z_K := hB23.lt 6 rfl
      go_wp2_with fail
      refine (HLA.out _).mono ?_
      rintro e w24 ⟨rfl, hb⟩
      have hB24 := hB23.next hb
      clear c_end z_end c_at z_at c_sum z_sum c_out z_out c_b z_b c_a z_a c_K z_K hb hB23
      have HSB := Lib.hid (fun (W : World) => rsub_any en s.at_ HEO.out.wf HS.out.at_.wf W)
      have hss := sub_step HEO.out HS.out.at_
      obtain ⟨LL, hLL⟩ : ∃ x, x = subR en s.at_ := ⟨_, rfl⟩
      obtain ⟨LC, hLC⟩ : ∃ x, x = subC en s.at_ := ⟨_, rfl⟩
      rw [← hLL, ← hLC] at HSB hss
      have HLC := Lib.hid (show subC (K.vEnd b k) s.at_ = LC by rw [hLC, HEE.out])
      have HLL := Lib.hid (show subR (K.vEnd b k) s.at_ = LL by rw [hLL, HEE.out])
      clear hLL hLC
      have c_end := fun j => cell_of_row _ _ j _ _ _ (hB24.get 0 rfl)
      have z_end := hB24.lt 0 rfl
      have c_at := fun j => cell_of_row _ _ j _ _ _ (hB24.get 1 rfl)
      have z_at := hB24.lt 1 rfl
      have c_sum := fun j => cell_of_row _ _ j _ _ _ (hB24.get 2 rfl)
      have z_sum := hB24.lt 2 rfl
      have c_out := fun j => cell_of_row _ _ j _ _ _ (hB24.get 3 rfl)
      have z_out := hB24.lt 3 rfl
      have c_b := fun j => cell_of_row _ _ j _ _ _ (hB24.get 4 rfl)
      have z_b := hB24.lt 4 rfl
      have c_a := fun j => cell_of_row _ _ j _ _ _ (hB24.get 5 rfl)
      have z_a := hB24.lt 5 rfl
      have c_K := fun j => cell_of_row _ _ j _ _ _ (hB24.get 6 rfl)
      have z_K := hB24.lt 6 rfl
      go_wp2_with fail
      refine (HSB.out _).mono ?_
      rintro e w25 ⟨rfl, hb⟩
      have hB25 := hB24.next hb
      clear c_end z_end c_at z_at c_sum z_sum c_out z_out c_b z_b c_a z_a c_K z_K hb hB24
      go_upto_region 18 with fail
      have hB26 := hB25.new rfl (rB LL)
      clear hB25
      generalize w25.heap.size = gL at *
      generalize w25.alloc _ = w26 at *
      rcases hss with ⟨k1, k2, k3⟩ | k1
      rotate_left
      · have lq : (LC != 0) = true := by simp; omega
        have HK1 := Lib.hid k1
        clear k1
        have HX2 := Lib.hid (show K.valC a b = LC by
          have e : (K.vTo a b (k + 1)).e = LC := by rw [HST.out, vStep_e1 HE0.out HL2.out HD0.out (by rw [HLC.out]; have := HK1.out; omega), HLC.out]
          rw [HX.out, HSY.out (by rw [e]; have := HK1.out; omega), e])
        have HNZ := Lib.hid (show LC ≠ 0 by have := HK1.out; omega)
        have c_len := fun j => cell_of_row _ _ j _ _ _ (hB26.get 0 rfl)
        have z_len := hB26.lt 0 rfl
        have c_end := fun j => cell_of_row _ _ j _ _ _ (hB26.get 1 rfl)
        have z_end := hB26.lt 1 rfl
        have c_at := fun j => cell_of_row _ _ j _ _ _ (hB26.get 2 rfl)
        have z_at := hB26.lt 2 rfl
        have c_sum := fun j => cell_of_row _ _ j _ _ _ (hB26.get 3 rfl)
        have z_sum := hB26.lt 3 rfl
        have c_out := fun j => cell_of_row _ _ j _ _ _ (hB26.get 4 rfl)
        have z_out := hB26.lt 4 rfl
        have f_out := fun j => frozen_of_row _ _ j _ _ (hB26.get 4 rfl)
        have c_b := fun j => cell_of_row _ _ j _ _ _ (hB26.get 5 rfl)
        have z_b := hB26.lt 5 rfl
        have c_a := fun j => cell_of_row _ _ j _ _ _ (hB26.get 6 rfl)
        have z_a := hB26.lt 6 rfl
        have c_K := fun j => cell_of_row _ _ j _ _ _ (hB26.get 7 rfl)
        have z_K := hB26.lt 7 rfl
        have HE := Lib.hid (hB26.put 4 rfl ⟨0, 0⟩).below
        clear hB26
        go_wp2_with fail
        refine bodyPost_ret (v := .tuple #[rV ⟨0, 0⟩, .int .i64 LC]) (by simp [results, Try.results33, go_sem, c_out, f_out, z_out]) rfl ?_
        exact ⟨by rw [HVB.out LC HX2.out HNZ.out, HX2.out], HE.out⟩
      have lq : (LC != 0) = false := by rw [k1]; rfl
      have HLO := Lib.hid k2
      have HLZ := Lib.hid (show subC (K.vEnd b k) s.at_ = 0 by rw [HLC.out, k1])
      clear k1 k2 k3
      have HMU := Lib.hid (fun (W : World) => rmul_any LL ⟨gi K.dens k, 1⟩ HLO.out.wf (len_ok (n := gi K.dens k) (by have := HFit.out; omega) (by have := HFit.out; omega)).wf W)
      have hms := mul_step HLO.out (len_ok (n := gi K.dens k) (by have := HFit.out; omega) (by have := HFit.out; omega))
      obtain ⟨M, hM⟩ : ∃ x, x = mulR LL ⟨gi K.dens k, 1⟩ := ⟨_, rfl⟩
      obtain ⟨MC, hMC⟩ : ∃ x, x = mulC LL ⟨gi K.dens k, 1⟩ := ⟨_, rfl⟩
      rw [← hM, ← hMC] at HMU hms
      have HMC := Lib.hid (show mulC (subR (K.vEnd b k) s.at_) ⟨gi K.dens k, 1⟩ = MC by rw [hMC, HLL.out])
      have HMM := Lib.hid (show mulR (subR (K.vEnd b k) s.at_) ⟨gi K.dens k, 1⟩ = M by rw [hM, HLL.out])
      clear hM hMC
      have c_len := fun j => cell_of_row _ _ j _ _ _ (hB26.get 0 rfl)
      have z_len := hB26.lt 0 rfl
      go_wp2_with fail
      clear c_len z_len
      refine wp_region_flow 10 (by kernel_rfl) (by rfl) (fun wq hbq => ?_)
      have hB27q := hB26.next hbq
      clear hB26
      refine wpAnyE_go (w0 := wq) (w1 := wq) (X := []) (fun _ h => h) (RK.start _) [0, 1, 2, 3, 4, 5, 6] 3 (by kernel_rfl) ?_
      apply Exists.intro
      refine ⟨fun G hG hN => ?_, ?_⟩
      · have c_len := fun (e : GE (RK wq wq []) G) j => cell_of_row e.w _ j _ _ _ ((hB27q.next (RK.b (GE.h e))).get 0 rfl)
        have z_len := fun (e : GE (RK wq wq []) G) => ((hB27q.next (RK.b (GE.h e))).lt 0 rfl)
        simp only [pickOps, List.getElem?_toArray, List.getElem?_cons_zero, List.getElem?_cons_succ]
        repeat (first | go_big_quiet_step ((first | (go_at_call 83; exact calls_ge (RK.grows _ _ _) hG (whole_any _ _)) | (go_at_call 94; exact calls_ge (RK.grows _ _ _) hG (HMU.out _)))) | quiet_step ((first | (go_at_call 83; exact calls_ge (RK.grows _ _ _) hG (whole_any _ _)) | (go_at_call 94; exact calls_ge (RK.grows _ _ _) hG (HMU.out _)))))
        exact wpQuiet_nil rfl
      refine wpAnyE_all (rs := [7]) (by kernel_rfl) (by simp) (fun Wa hWa hRWa i hi => ?_)
      obtain rfl := List.mem_singleton.1 hi
      refine wpOp_step rfl (fun K hK => ?_)
      go_simp
      refine hK _ _ ⟨hRWa.grow (one_alloc _ _), ?_⟩
      clear hK K
      have hxa := heap_new (w := Wa) (o := rB ⟨0, 0⟩) rfl
      have hza : wq.heap.size ≤ Wa.heap.size := hRWa.b.size
      refine wpAnyE_all (rs := [8]) (by kernel_rfl) (by simp) (fun Wb hWb hRWb i hi => ?_)
      obtain rfl := List.mem_singleton.1 hi
      have hxb := heap_ext hxa hWb
      have ck := fun j => cell_of_row _ _ j _ _ _ hxb
      have fk := fun j => frozen_of_row _ _ j _ _ hxb
      have zk := lt_some hxb
      refine wpOp_step rfl (fun K hK => ?_)
      go_simp
      refine hK _ _ ⟨(hRWb.set hza (Or.inr hza)).set hza (Or.inr hza), ?_⟩
      clear hK K
      clear ck fk zk
      have hxc := heap_set (j := 1) (u := .int .i64 (M).d) (heap_set (j := 0) (u := .int .i64 (M).n) hxb)
      have hsc := (hRWb.set hza (Or.inr hza) (j := 0) (u := .int .i64 (M).n)).set hza (Or.inr hza) (j := 1) (u := .int .i64 (M).d)
      generalize (Wb.setCell _ _).setCell _ _ = Wd at *
      refine wpAnyE_go (w0 := wq) (w1 := Wd) (X := []) (RK.move hsc (by simp)) (RK.here hsc) [9] 0 (by kernel_rfl) ?_
      apply Exists.intro
      refine ⟨fun G hG hN => ?_, ?_⟩
      · simp only [pickOps, List.getElem?_toArray, List.getElem?_cons_zero, List.getElem?_cons_succ]
        repeat (first | go_big_quiet_step (fail) | quiet_step (fail))
        exact wpQuiet_nil rfl
      refine wpAnyE_done (by kernel_rfl) (fun Wc hWc hRWc => ?_) _
      refine NoPanic.normal ?_
      have hB27 : Bx w ((Wa.heap.size, rB (M)) :: _) Wc := hB27q.add hRWc.b hza (heap_ext hxc hWc)
      clear hB27q hxa hxb hxc hWb hWc hRWa hRWb hRWc hza hWa hbq
      generalize Wa.heap.size = gW at *
      generalize Wc = w27 at *
      rcases hms with ⟨k1, k2, k3⟩ | k1
      rotate_left
      · have mq : (MC != 0) = true := by simp; omega
        have HK1 := Lib.hid k1
        clear k1
        have HX2 := Lib.hid (show K.valC a b = MC by
          have e : (K.vTo a b (k + 1)).e = MC := by rw [HST.out, vStep_e2 HE0.out HL2.out HD0.out HLZ.out (by rw [HMC.out]; have := HK1.out; omega), HMC.out]
          rw [HX.out, HSY.out (by rw [e]; have := HK1.out; omega), e])
        have HNZ := Lib.hid (show MC ≠ 0 by have := HK1.out; omega)
        have c_wor := fun j => cell_of_row _ _ j _ _ _ (hB27.get 0 rfl)
        have z_wor := hB27.lt 0 rfl
        have c_len := fun j => cell_of_row _ _ j _ _ _ (hB27.get 1 rfl)
        have z_len := hB27.lt 1 rfl
        have c_end := fun j => cell_of_row _ _ j _ _ _ (hB27.get 2 rfl)
        have z_end := hB27.lt 2 rfl
        have c_at := fun j => cell_of_row _ _ j _ _ _ (hB27.get 3 rfl)
        have z_at := hB27.lt 3 rfl
        have c_sum := fun j => cell_of_row _ _ j _ _ _ (hB27.get 4 rfl)
        have z_sum := hB27.lt 4 rfl
        have c_out := fun j => cell_of_row _ _ j _ _ _ (hB27.get 5 rfl)
        have z_out := hB27.lt 5 rfl
        have f_out := fun j => frozen_of_row _ _ j _ _ (hB27.get 5 rfl)
        have c_b := fun j => cell_of_row _ _ j _ _ _ (hB27.get 6 rfl)
        have z_b := hB27.lt 6 rfl
        have c_a := fun j => cell_of_row _ _ j _ _ _ (hB27.get 7 rfl)
        have z_a := hB27.lt 7 rfl
        have c_K := fun j => cell_of_row _ _ j _ _ _ (hB27.get 8 rfl)
        have z_K := hB27.lt 8 rfl
        have HE := Lib.hid (hB27.put 5 rfl ⟨0, 0⟩).below
        clear hB27
        go_wp2_with fail
        refine bodyPost_ret (v := .tuple #[rV ⟨0, 0⟩, .int .i64 MC]) (by simp [results, Try.results33, go_sem, c_out, f_out, z_out]) rfl ?_
        exact ⟨by rw [HVB.out MC HX2.out HNZ.out, HX2.out], HE.out⟩
      have mq : (MC != 0) = false := by rw [k1]; rfl
      have HMO := Lib.hid k2
      have HMZ := Lib.hid (show mulC (subR (K.vEnd b k) s.at_) ⟨gi K.dens k, 1⟩ = 0 by rw [HMC.out, k1])
      clear k1 k2 k3
      have HAD := Lib.hid (fun (W : World) => radd_any s.sum M HS.out.sum.wf HMO.out.wf W)
      have has := add_step HS.out.sum HMO.out
      obtain ⟨S, hS⟩ : ∃ x, x = addR s.sum M := ⟨_, rfl⟩
      obtain ⟨SC, hSC⟩ : ∃ x, x = addC s.sum M := ⟨_, rfl⟩
      rw [← hS, ← hSC] at HAD has
      have HSC := Lib.hid (show addC s.sum (mulR (subR (K.vEnd b k) s.at_) ⟨gi K.dens k, 1⟩) = SC by rw [hSC, HMM.out])
      have HSS := Lib.hid (show addR s.sum (mulR (subR (K.vEnd b k) s.at_) ⟨gi K.dens k, 1⟩) = S by rw [hS, HMM.out])
      clear hS hSC
      have c_wor := fun j => cell_of_row _ _ j _ _ _ (hB27.get 0 rfl)
      have z_wor := hB27.lt 0 rfl
      have c_sum := fun j => cell_of_row _ _ j _ _ _ (hB27.get 4 rfl)
      have z_sum := hB27.lt 4 rfl
      go_wp2_with fail
      refine (HAD.out _).mono ?_
      rintro e w28 ⟨rfl, hb⟩
      have hB28 := hB27.next hb
      clear c_wor z_wor c_sum z_sum hb hB27
      have c_sum := fun j => cell_of_row _ _ j _ _ _ (hB28.get 4 rfl)
      have z_sum := hB28.lt 4 rfl
      have f_sum := fun j => frozen_of_row _ _ j _ _ (hB28.get 4 rfl)
      go_upto_region 24 with fail
      have hB29 := hB28.put 4 rfl (S)
      clear c_sum z_sum f_sum hB28
      generalize (w28.setCell _ _).setCell _ _ = w29 at *
      rcases has with ⟨k1, k2, k3⟩ | k1
      rotate_left
      · have sq : (SC != 0) = true := by simp; omega
        have HK1 := Lib.hid k1
        clear k1
        have HX2 := Lib.hid (show K.valC a b = SC by
          have e : (K.vTo a b (k + 1)).e = SC := by rw [HST.out, vStep_e3 HE0.out HL2.out HD0.out HLZ.out HMZ.out (by rw [HSC.out]; have := HK1.out; omega), HSC.out]
          rw [HX.out, HSY.out (by rw [e]; have := HK1.out; omega), e])
        have HNZ := Lib.hid (show SC ≠ 0 by have := HK1.out; omega)
        have c_wor := fun j => cell_of_row _ _ j _ _ _ (hB29.get 0 rfl)
        have z_wor := hB29.lt 0 rfl
        have c_len := fun j => cell_of_row _ _ j _ _ _ (hB29.get 1 rfl)
        have z_len := hB29.lt 1 rfl
        have c_end := fun j => cell_of_row _ _ j _ _ _ (hB29.get 2 rfl)
        have z_end := hB29.lt 2 rfl
        have c_at := fun j => cell_of_row _ _ j _ _ _ (hB29.get 3 rfl)
        have z_at := hB29.lt 3 rfl
        have c_sum := fun j => cell_of_row _ _ j _ _ _ (hB29.get 4 rfl)
        have z_sum := hB29.lt 4 rfl
        have c_out := fun j => cell_of_row _ _ j _ _ _ (hB29.get 5 rfl)
        have z_out := hB29.lt 5 rfl
        have f_out := fun j => frozen_of_row _ _ j _ _ (hB29.get 5 rfl)
        have c_b := fun j => cell_of_row _ _ j _ _ _ (hB29.get 6 rfl)
        have z_b := hB29.lt 6 rfl
        have c_a := fun j => cell_of_row _ _ j _ _ _ (hB29.get 7 rfl)
        have z_a := hB29.lt 7 rfl
        have c_K := fun j => cell_of_row _ _ j _ _ _ (hB29.get 8 rfl)
        have z_K := hB29.lt 8 rfl
        have HE := Lib.hid (hB29.put 5 rfl ⟨0, 0⟩).below
        clear hB29
        go_wp2_with fail
        refine bodyPost_ret (v := .tuple #[rV ⟨0, 0⟩, .int .i64 SC]) (by simp [results, Try.results33, go_sem, c_out, f_out, z_out]) rfl ?_
        exact ⟨by rw [HVB.out SC HX2.out HNZ.out, HX2.out], HE.out⟩
      have sq : (SC != 0) = false := by rw [k1]; rfl
      have HN := Lib.hid (vStep_go (K := K) (b := b) (i := k) HE0.out HL2.out HD0.out HLZ.out HMZ.out (by rw [HSC.out, k1]))
      rw [HSS.out, ← HEE.out] at HN
      clear k1 k2 k3
      have c_end := fun j => cell_of_row _ _ j _ _ _ (hB29.get 2 rfl)
      have z_end := hB29.lt 2 rfl
      have c_at := fun j => cell_of_row _ _ j _ _ _ (hB29.get 3 rfl)
      have z_at := hB29.lt 3 rfl
      have f_at := fun j => frozen_of_row _ _ j _ _ (hB29.get 3 rfl)
      have HZ := Lib.hid (hB29.put 3 rfl en).drop.drop.drop
      clear hB29
      go_wp2_with fail
      exact ⟨⟨k + 1, HLE.out, by go_num, by rw [HST.out, HN.out], by rw [HST.out, HN.out]; exact HZ.out⟩, by simpa [intOf] using HME.out⟩
    | true =>
      have c_end := fun j => cell_of_row _ _ j _ _ _ (hB22.get 0 rfl)
      have z_end := hB22.lt 0 rfl
      have f_end := fun j => frozen_of_row _ _ j _ _ (hB22.get 0 rfl)
      have c_at := fun j => cell_of_row _ _ j _ _ _ (hB22.get 1 rfl)
      have z_at := hB22.lt 1 rfl
      have c_sum := fun j => cell_of_row _ _ j _ _ _ (hB22.get 2 rfl)
      have z_sum := hB22.lt 2 rfl
      have c_out := fun j => cell_of_row _ _ j _ _ _ (hB22.get 3 rfl)
      have z_out := hB22.lt 3 rfl
      have c_b := fun j => cell_of_row _ _ j _ _ _ (hB22.get 4 rfl)
      have z_b := hB22.lt 4 rfl
      have c_a := fun j => cell_of_row _ _ j _ _ _ (hB22.get 5 rfl)
      have z_a := hB22.lt 5 rfl
      have c_K := fun j => cell_of_row _ _ j _ _ _ (hB22.get 6 rfl)
      have z_K := hB22.lt 6 rfl
      go_wp2_with fail
      refine (HLB.out _).mono ?_
      rintro e w23 ⟨rfl, hb⟩
      have hB23 := hB22.next hb
      clear c_end z_end f_end c_at z_at c_sum z_sum c_out z_out c_b z_b c_a z_a c_K z_K hb hB22
      have c_end := fun j => cell_of_row _ _ j _ _ _ (hB23.get 0 rfl)
      have z_end := hB23.lt 0 rfl
      have f_end := fun j => frozen_of_row _ _ j _ _ (hB23.get 0 rfl)
      have c_at := fun j => cell_of_row _ _ j _ _ _ (hB23.get 1 rfl)
      have z_at := hB23.lt 1 rfl
      have c_sum := fun j => cell_of_row _ _ j _ _ _ (hB23.get 2 rfl)
      have z_sum := hB23.lt 2 rfl
      have c_out := fun j => cell_of_row _ _ j _ _ _ (hB23.get 3 rfl)
      have z_out := hB23.lt 3 rfl
      have c_b := fun j => cell_of_row _ _ j _ _ _ (hB23.get 4 rfl)
      have z_b := hB23.lt 4 rfl
      have c_a := fun j => cell_of_row _ _ j _ _ _ (hB23.get 5 rfl)
      have z_a := hB23.lt 5 rfl
      have c_K := fun j => cell_of_row _ _ j _ _ _ (hB23.get 6 rfl)
      have z_K := hB23.lt 6 rfl
      go_upto_region 14 with fail
      have hB24 := hB23.put 0 rfl (b)
      clear c_end z_end f_end c_at z_at c_sum z_sum c_out z_out c_b z_b c_a z_a c_K z_K hB23
      generalize (w23.setCell _ _).setCell _ _ = w24 at *
      have HEE := Lib.hid (show b = K.vEnd b k by rw [HVE.out]; rfl)
      obtain ⟨en, hen⟩ : ∃ x, x = b := ⟨_, rfl⟩
      have HEE := Lib.hid (show en = K.vEnd b k by rw [hen]; exact HEE.out)
      have hB24 : Bx w [(gE, rB en), (gT, rB s.at_), (gS, rB s.sum), (gO, rB ⟨0, 0⟩), (gB, rB b), (gA, rB a), (w.heap.size, cB (some ad) c (some rd) d K)] w24 := by rw [hen]; exact hB24
      clear hen
      have HEO := Lib.hid (show en.Ok by rw [HEE.out]; exact HEn.out.1)
      have HLA := Lib.hid (fun (W : World) => cless_any s.at_ en HS.out.at_ HEO.out W)
      obtain ⟨la, hla⟩ : ∃ x, x = ltB s.at_ en := ⟨_, rfl⟩
      rw [← hla] at HLA
      have HL2 := Lib.hid (show ltB s.at_ (K.vEnd b k) = la by rw [hla, HEE.out])
      clear hla
      by_cases hd : gi K.dens k = 0
      · have dq : (gi K.dens k == 0) = true := by simpa using hd
        cases la with
        | false =>
          have HN := Lib.hid (vStep_skip (K := K) (b := b) (i := k) HE0.out HL2.out)
          have c_end := fun j => cell_of_row _ _ j _ _ _ (hB24.get 0 rfl)
          have z_end := hB24.lt 0 rfl
          have c_at := fun j => cell_of_row _ _ j _ _ _ (hB24.get 1 rfl)
          have z_at := hB24.lt 1 rfl
          have c_sum := fun j => cell_of_row _ _ j _ _ _ (hB24.get 2 rfl)
          have z_sum := hB24.lt 2 rfl
          have c_out := fun j => cell_of_row _ _ j _ _ _ (hB24.get 3 rfl)
          have z_out := hB24.lt 3 rfl
          have c_b := fun j => cell_of_row _ _ j _ _ _ (hB24.get 4 rfl)
          have z_b := hB24.lt 4 rfl
          have c_a := fun j => cell_of_row _ _ j _ _ _ (hB24.get 5 rfl)
          have z_a := hB24.lt 5 rfl
          have c_K := fun j => cell_of_row _ _ j _ _ _ (hB24.get 6 rfl)
          have z_K := hB24.lt 6 rfl
          go_wp2_with fail
          refine (HLA.out _).mono ?_
          rintro e w25 ⟨rfl, hb⟩
          have hB25 := hB24.next hb
          clear c_end z_end c_at z_at c_sum z_sum c_out z_out c_b z_b c_a z_a c_K z_K hb hB24
          have HZ := Lib.hid hB25.drop
          clear hB25
          go_wp2_with fail
          exact ⟨⟨k + 1, HLE.out, by go_num, by rw [HST.out, HN.out]; exact HE0.out, by rw [HST.out, HN.out]; exact HZ.out⟩, by simpa [intOf] using HME.out⟩
        | true =>
          have HN := Lib.hid (vStep_none (K := K) (b := b) (i := k) HE0.out HL2.out hd)
          rw [← HEE.out] at HN
          have c_end := fun j => cell_of_row _ _ j _ _ _ (hB24.get 0 rfl)
          have z_end := hB24.lt 0 rfl
          have c_at := fun j => cell_of_row _ _ j _ _ _ (hB24.get 1 rfl)
          have z_at := hB24.lt 1 rfl
          have c_sum := fun j => cell_of_row _ _ j _ _ _ (hB24.get 2 rfl)
          have z_sum := hB24.lt 2 rfl
          have c_out := fun j => cell_of_row _ _ j _ _ _ (hB24.get 3 rfl)
          have z_out := hB24.lt 3 rfl
          have c_b := fun j => cell_of_row _ _ j _ _ _ (hB24.get 4 rfl)
          have z_b := hB24.lt 4 rfl
          have c_a := fun j => cell_of_row _ _ j _ _ _ (hB24.get 5 rfl)
          have z_a := hB24.lt 5 rfl
          have c_K := fun j => cell_of_row _ _ j _ _ _ (hB24.get 6 rfl)
          have z_K := hB24.lt 6 rfl
          go_wp2_with fail
          refine (HLA.out _).mono ?_
          rintro e w25 ⟨rfl, hb⟩
          have hB25 := hB24.next hb
          clear c_end z_end c_at z_at c_sum z_sum c_out z_out c_b z_b c_a z_a c_K z_K hb hB24
          have c_end := fun j => cell_of_row _ _ j _ _ _ (hB25.get 0 rfl)
          have z_end := hB25.lt 0 rfl
          have c_at := fun j => cell_of_row _ _ j _ _ _ (hB25.get 1 rfl)
          have z_at := hB25.lt 1 rfl
          have f_at := fun j => frozen_of_row _ _ j _ _ (hB25.get 1 rfl)
          have c_sum := fun j => cell_of_row _ _ j _ _ _ (hB25.get 2 rfl)
          have z_sum := hB25.lt 2 rfl
          have c_out := fun j => cell_of_row _ _ j _ _ _ (hB25.get 3 rfl)
          have z_out := hB25.lt 3 rfl
          have c_b := fun j => cell_of_row _ _ j _ _ _ (hB25.get 4 rfl)
          have z_b := hB25.lt 4 rfl
          have c_a := fun j => cell_of_row _ _ j _ _ _ (hB25.get 5 rfl)
          have z_a := hB25.lt 5 rfl
          have c_K := fun j => cell_of_row _ _ j _ _ _ (hB25.get 6 rfl)
          have z_K := hB25.lt 6 rfl
          have HZ := Lib.hid (hB25.put 1 rfl en).drop
          clear hB25
          go_wp2_with fail
          exact ⟨⟨k + 1, HLE.out, by go_num, by rw [HST.out, HN.out], by rw [HST.out, HN.out]; exact HZ.out⟩, by simpa [intOf] using HME.out⟩
      have dq : (gi K.dens k == 0) = false := by simpa using hd
      have HD0 := Lib.hid hd
      clear hd
      cases la with
      | false =>
        have c_end := fun j => cell_of_row _ _ j _ _ _ (hB24.get 0 rfl)
        have z_end := hB24.lt 0 rfl
        have c_at := fun j => cell_of_row _ _ j _ _ _ (hB24.get 1 rfl)
        have z_at := hB24.lt 1 rfl
        have c_sum := fun j => cell_of_row _ _ j _ _ _ (hB24.get 2 rfl)
        have z_sum := hB24.lt 2 rfl
        have c_out := fun j => cell_of_row _ _ j _ _ _ (hB24.get 3 rfl)
        have z_out := hB24.lt 3 rfl
        have c_b := fun j => cell_of_row _ _ j _ _ _ (hB24.get 4 rfl)
        have z_b := hB24.lt 4 rfl
        have c_a := fun j => cell_of_row _ _ j _ _ _ (hB24.get 5 rfl)
        have z_a := hB24.lt 5 rfl
        have c_K := fun j => cell_of_row _ _ j _ _ _ (hB24.get 6 rfl)
        have z_K := hB24.lt 6 rfl
        go_wp2_with fail
        refine (HLA.out _).mono ?_
        rintro e w25 ⟨rfl, hb⟩
        have hB25 := hB24.next hb
        clear c_end z_end c_at z_at c_sum z_sum c_out z_out c_b z_b c_a z_a c_K z_K hb hB24
        have HN := Lib.hid (vStep_skip (K := K) (b := b) (i := k) HE0.out HL2.out)
        have c_end := fun j => cell_of_row _ _ j _ _ _ (hB25.get 0 rfl)
        have z_end := hB25.lt 0 rfl
        have c_at := fun j => cell_of_row _ _ j _ _ _ (hB25.get 1 rfl)
        have z_at := hB25.lt 1 rfl
        have c_sum := fun j => cell_of_row _ _ j _ _ _ (hB25.get 2 rfl)
        have z_sum := hB25.lt 2 rfl
        have c_out := fun j => cell_of_row _ _ j _ _ _ (hB25.get 3 rfl)
        have z_out := hB25.lt 3 rfl
        have c_b := fun j => cell_of_row _ _ j _ _ _ (hB25.get 4 rfl)
        have z_b := hB25.lt 4 rfl
        have c_a := fun j => cell_of_row _ _ j _ _ _ (hB25.get 5 rfl)
        have z_a := hB25.lt 5 rfl
        have c_K := fun j => cell_of_row _ _ j _ _ _ (hB25.get 6 rfl)
        have z_K := hB25.lt 6 rfl
        go_wp2_with fail
        refine (HLA.out _).mono ?_
        rintro e w26 ⟨rfl, hb⟩
        have hB26 := hB25.next hb
        clear c_end z_end c_at z_at c_sum z_sum c_out z_out c_b z_b c_a z_a c_K z_K hb hB25
        have HZ := Lib.hid hB26.drop
        clear hB26
        go_wp2_with fail
        exact ⟨⟨k + 1, HLE.out, by go_num, by rw [HST.out, HN.out]; exact HE0.out, by rw [HST.out, HN.out]; exact HZ.out⟩, by simpa [intOf] using HME.out⟩
      | true =>
      have c_end := fun j => cell_of_row _ _ j _ _ _ (hB24.get 0 rfl)
      have z_end := hB24.lt 0 rfl
      have c_at := fun j => cell_of_row _ _ j _ _ _ (hB24.get 1 rfl)
      have z_at := hB24.lt 1 rfl
      have c_sum := fun j => cell_of_row _ _ j _ _ _ (hB24.get 2 rfl)
      have z_sum := hB24.lt 2 rfl
      have c_out := fun j => cell_of_row _ _ j _ _ _ (hB24.get 3 rfl)
      have z_out := hB24.lt 3 rfl
      have c_b := fun j => cell_of_row _ _ j _ _ _ (hB24.get 4 rfl)
      have z_b := hB24.lt 4 rfl
      have c_a := fun j => cell_of_row _ _ j _ _ _ (hB24.get 5 rfl)
      have z_a := hB24.lt 5 rfl
      have c_K := fun j => cell_of_row _ _ j _ _ _ (hB24.get 6 rfl)
      have z_K := hB24.lt 6 rfl
      go_wp2_with fail
      refine (HLA.out _).mono ?_
      rintro e w25 ⟨rfl, hb⟩
      have hB25 := hB24.next hb
      clear c_end z_end c_at z_at c_sum z_sum c_out z_out c_b z_b c_a z_a c_K z_K hb hB24
      have HSB := Lib.hid (fun (W : World) => rsub_any en s.at_ HEO.out.wf HS.out.at_.wf W)
      have hss := sub_step HEO.out HS.out.at_
      obtain ⟨LL, hLL⟩ : ∃ x, x = subR en s.at_ := ⟨_, rfl⟩
      obtain ⟨LC, hLC⟩ : ∃ x, x = subC en s.at_ := ⟨_, rfl⟩
      rw [← hLL, ← hLC] at HSB hss
      have HLC := Lib.hid (show subC (K.vEnd b k) s.at_ = LC by rw [hLC, HEE.out])
      have HLL := Lib.hid (show subR (K.vEnd b k) s.at_ = LL by rw [hLL, HEE.out])
      clear hLL hLC
      have c_end := fun j => cell_of_row _ _ j _ _ _ (hB25.get 0 rfl)
      have z_end := hB25.lt 0 rfl
      have c_at := fun j => cell_of_row _ _ j _ _ _ (hB25.get 1 rfl)
      have z_at := hB25.lt 1 rfl
      have c_sum := fun j => cell_of_row _ _ j _ _ _ (hB25.get 2 rfl)
      have z_sum := hB25.lt 2 rfl
      have c_out := fun j => cell_of_row _ _ j _ _ _ (hB25.get 3 rfl)
      have z_out := hB25.lt 3 rfl
      have c_b := fun j => cell_of_row _ _ j _ _ _ (hB25.get 4 rfl)
      have z_b := hB25.lt 4 rfl
      have c_a := fun j => cell_of_row _ _ j _ _ _ (hB25.get 5 rfl)
      have z_a := hB25.lt 5 rfl
      have c_K := fun j => cell_of_row _ _ j _ _ _ (hB25.get 6 rfl)
      have z_K := hB25.lt 6 rfl
      go_wp2_with fail
      refine (HSB.out _).mono ?_
      rintro e w26 ⟨rfl, hb⟩
      have hB26 := hB25.next hb
      clear c_end z_end c_at z_at c_sum z_sum c_out z_out c_b z_b c_a z_a c_K z_K hb hB25
      go_upto_region 18 with fail
      have hB27 := hB26.new rfl (rB LL)
      clear hB26
      generalize w26.heap.size = gL at *
      generalize w26.alloc _ = w27 at *
      rcases hss with ⟨k1, k2, k3⟩ | k1
      rotate_left
      · have lq : (LC != 0) = true := by simp; omega
        have HK1 := Lib.hid k1
        clear k1
        have HX2 := Lib.hid (show K.valC a b = LC by
          have e : (K.vTo a b (k + 1)).e = LC := by rw [HST.out, vStep_e1 HE0.out HL2.out HD0.out (by rw [HLC.out]; have := HK1.out; omega), HLC.out]
          rw [HX.out, HSY.out (by rw [e]; have := HK1.out; omega), e])
        have HNZ := Lib.hid (show LC ≠ 0 by have := HK1.out; omega)
        have c_len := fun j => cell_of_row _ _ j _ _ _ (hB27.get 0 rfl)
        have z_len := hB27.lt 0 rfl
        have c_end := fun j => cell_of_row _ _ j _ _ _ (hB27.get 1 rfl)
        have z_end := hB27.lt 1 rfl
        have c_at := fun j => cell_of_row _ _ j _ _ _ (hB27.get 2 rfl)
        have z_at := hB27.lt 2 rfl
        have c_sum := fun j => cell_of_row _ _ j _ _ _ (hB27.get 3 rfl)
        have z_sum := hB27.lt 3 rfl
        have c_out := fun j => cell_of_row _ _ j _ _ _ (hB27.get 4 rfl)
        have z_out := hB27.lt 4 rfl
        have f_out := fun j => frozen_of_row _ _ j _ _ (hB27.get 4 rfl)
        have c_b := fun j => cell_of_row _ _ j _ _ _ (hB27.get 5 rfl)
        have z_b := hB27.lt 5 rfl
        have c_a := fun j => cell_of_row _ _ j _ _ _ (hB27.get 6 rfl)
        have z_a := hB27.lt 6 rfl
        have c_K := fun j => cell_of_row _ _ j _ _ _ (hB27.get 7 rfl)
        have z_K := hB27.lt 7 rfl
        have HE := Lib.hid (hB27.put 4 rfl ⟨0, 0⟩).below
        clear hB27
        go_wp2_with fail
        refine bodyPost_ret (v := .tuple #[rV ⟨0, 0⟩, .int .i64 LC]) (by simp [results, Try.results33, go_sem, c_out, f_out, z_out]) rfl ?_
        exact ⟨by rw [HVB.out LC HX2.out HNZ.out, HX2.out], HE.out⟩
      have lq : (LC != 0) = false := by rw [k1]; rfl
      have HLO := Lib.hid k2
      have HLZ := Lib.hid (show subC (K.vEnd b k) s.at_ = 0 by rw [HLC.out, k1])
      clear k1 k2 k3
      have HMU := Lib.hid (fun (W : World) => rmul_any LL ⟨gi K.dens k, 1⟩ HLO.out.wf (len_ok (n := gi K.dens k) (by have := HFit.out; omega) (by have := HFit.out; omega)).wf W)
      have hms := mul_step HLO.out (len_ok (n := gi K.dens k) (by have := HFit.out; omega) (by have := HFit.out; omega))
      obtain ⟨M, hM⟩ : ∃ x, x = mulR LL ⟨gi K.dens k, 1⟩ := ⟨_, rfl⟩
      obtain ⟨MC, hMC⟩ : ∃ x, x = mulC LL ⟨gi K.dens k, 1⟩ := ⟨_, rfl⟩
      rw [← hM, ← hMC] at HMU hms
      have HMC := Lib.hid (show mulC (subR (K.vEnd b k) s.at_) ⟨gi K.dens k, 1⟩ = MC by rw [hMC, HLL.out])
      have HMM := Lib.hid (show mulR (subR (K.vEnd b k) s.at_) ⟨gi K.dens k, 1⟩ = M by rw [hM, HLL.out])
      clear hM hMC
      have c_len := fun j => cell_of_row _ _ j _ _ _ (hB27.get 0 rfl)
      have z_len := hB27.lt 0 rfl
      go_wp2_with fail
      clear c_len z_len
      refine wp_region_flow 10 (by kernel_rfl) (by rfl) (fun wq hbq => ?_)
      have hB28q := hB27.next hbq
      clear hB27
      refine wpAnyE_go (w0 := wq) (w1 := wq) (X := []) (fun _ h => h) (RK.start _) [0, 1, 2, 3, 4, 5, 6] 3 (by kernel_rfl) ?_
      apply Exists.intro
      refine ⟨fun G hG hN => ?_, ?_⟩
      · have c_len := fun (e : GE (RK wq wq []) G) j => cell_of_row e.w _ j _ _ _ ((hB28q.next (RK.b (GE.h e))).get 0 rfl)
        have z_len := fun (e : GE (RK wq wq []) G) => ((hB28q.next (RK.b (GE.h e))).lt 0 rfl)
        simp only [pickOps, List.getElem?_toArray, List.getElem?_cons_zero, List.getElem?_cons_succ]
        repeat (first | go_big_quiet_step ((first | (go_at_call 83; exact calls_ge (RK.grows _ _ _) hG (whole_any _ _)) | (go_at_call 94; exact calls_ge (RK.grows _ _ _) hG (HMU.out _)))) | quiet_step ((first | (go_at_call 83; exact calls_ge (RK.grows _ _ _) hG (whole_any _ _)) | (go_at_call 94; exact calls_ge (RK.grows _ _ _) hG (HMU.out _)))))
        exact wpQuiet_nil rfl
      refine wpAnyE_all (rs := [7]) (by kernel_rfl) (by simp) (fun Wa hWa hRWa i hi => ?_)
      obtain rfl := List.mem_singleton.1 hi
      refine wpOp_step rfl (fun K hK => ?_)
      go_simp
      refine hK _ _ ⟨hRWa.grow (one_alloc _ _), ?_⟩
      clear hK K
      have hxa := heap_new (w := Wa) (o := rB ⟨0, 0⟩) rfl
      have hza : wq.heap.size ≤ Wa.heap.size := hRWa.b.size
      refine wpAnyE_all (rs := [8]) (by kernel_rfl) (by simp) (fun Wb hWb hRWb i hi => ?_)
      obtain rfl := List.mem_singleton.1 hi
      have hxb := heap_ext hxa hWb
      have ck := fun j => cell_of_row _ _ j _ _ _ hxb
      have fk := fun j => frozen_of_row _ _ j _ _ hxb
      have zk := lt_some hxb
      refine wpOp_step rfl (fun K hK => ?_)
      go_simp
      refine hK _ _ ⟨(hRWb.set hza (Or.inr hza)).set hza (Or.inr hza), ?_⟩
      clear hK K
      clear ck fk zk
      have hxc := heap_set (j := 1) (u := .int .i64 (M).d) (heap_set (j := 0) (u := .int .i64 (M).n) hxb)
      have hsc := (hRWb.set hza (Or.inr hza) (j := 0) (u := .int .i64 (M).n)).set hza (Or.inr hza) (j := 1) (u := .int .i64 (M).d)
      generalize (Wb.setCell _ _).setCell _ _ = Wd at *
      refine wpAnyE_go (w0 := wq) (w1 := Wd) (X := []) (RK.move hsc (by simp)) (RK.here hsc) [9] 0 (by kernel_rfl) ?_
      apply Exists.intro
      refine ⟨fun G hG hN => ?_, ?_⟩
      · simp only [pickOps, List.getElem?_toArray, List.getElem?_cons_zero, List.getElem?_cons_succ]
        repeat (first | go_big_quiet_step (fail) | quiet_step (fail))
        exact wpQuiet_nil rfl
      refine wpAnyE_done (by kernel_rfl) (fun Wc hWc hRWc => ?_) _
      refine NoPanic.normal ?_
      have hB28 : Bx w ((Wa.heap.size, rB (M)) :: _) Wc := hB28q.add hRWc.b hza (heap_ext hxc hWc)
      clear hB28q hxa hxb hxc hWb hWc hRWa hRWb hRWc hza hWa hbq
      generalize Wa.heap.size = gW at *
      generalize Wc = w28 at *
      rcases hms with ⟨k1, k2, k3⟩ | k1
      rotate_left
      · have mq : (MC != 0) = true := by simp; omega
        have HK1 := Lib.hid k1
        clear k1
        have HX2 := Lib.hid (show K.valC a b = MC by
          have e : (K.vTo a b (k + 1)).e = MC := by rw [HST.out, vStep_e2 HE0.out HL2.out HD0.out HLZ.out (by rw [HMC.out]; have := HK1.out; omega), HMC.out]
          rw [HX.out, HSY.out (by rw [e]; have := HK1.out; omega), e])
        have HNZ := Lib.hid (show MC ≠ 0 by have := HK1.out; omega)
        have c_wor := fun j => cell_of_row _ _ j _ _ _ (hB28.get 0 rfl)
        have z_wor := hB28.lt 0 rfl
        have c_len := fun j => cell_of_row _ _ j _ _ _ (hB28.get 1 rfl)
        have z_len := hB28.lt 1 rfl
        have c_end := fun j => cell_of_row _ _ j _ _ _ (hB28.get 2 rfl)
        have z_end := hB28.lt 2 rfl
        have c_at := fun j => cell_of_row _ _ j _ _ _ (hB28.get 3 rfl)
        have z_at := hB28.lt 3 rfl
        have c_sum := fun j => cell_of_row _ _ j _ _ _ (hB28.get 4 rfl)
        have z_sum := hB28.lt 4 rfl
        have c_out := fun j => cell_of_row _ _ j _ _ _ (hB28.get 5 rfl)
        have z_out := hB28.lt 5 rfl
        have f_out := fun j => frozen_of_row _ _ j _ _ (hB28.get 5 rfl)
        have c_b := fun j => cell_of_row _ _ j _ _ _ (hB28.get 6 rfl)
        have z_b := hB28.lt 6 rfl
        have c_a := fun j => cell_of_row _ _ j _ _ _ (hB28.get 7 rfl)
        have z_a := hB28.lt 7 rfl
        have c_K := fun j => cell_of_row _ _ j _ _ _ (hB28.get 8 rfl)
        have z_K := hB28.lt 8 rfl
        have HE := Lib.hid (hB28.put 5 rfl ⟨0, 0⟩).below
        clear hB28
        go_wp2_with fail
        refine bodyPost_ret (v := .tuple #[rV ⟨0, 0⟩, .int .i64 MC]) (by simp [results, Try.results33, go_sem, c_out, f_out, z_out]) rfl ?_
        exact ⟨by rw [HVB.out MC HX2.out HNZ.out, HX2.out], HE.out⟩
      have mq : (MC != 0) = false := by rw [k1]; rfl
      have HMO := Lib.hid k2
      have HMZ := Lib.hid (show mulC (subR (K.vEnd b k) s.at_) ⟨gi K.dens k, 1⟩ = 0 by rw [HMC.out, k1])
      clear k1 k2 k3
      have HAD := Lib.hid (fun (W : World) => radd_any s.sum M HS.out.sum.wf HMO.out.wf W)
      have has := add_step HS.out.sum HMO.out
      obtain ⟨S, hS⟩ : ∃ x, x = addR s.sum M := ⟨_, rfl⟩
      obtain ⟨SC, hSC⟩ : ∃ x, x = addC s.sum M := ⟨_, rfl⟩
      rw [← hS, ← hSC] at HAD has
      have HSC := Lib.hid (show addC s.sum (mulR (subR (K.vEnd b k) s.at_) ⟨gi K.dens k, 1⟩) = SC by rw [hSC, HMM.out])
      have HSS := Lib.hid (show addR s.sum (mulR (subR (K.vEnd b k) s.at_) ⟨gi K.dens k, 1⟩) = S by rw [hS, HMM.out])
      clear hS hSC
      have c_wor := fun j => cell_of_row _ _ j _ _ _ (hB28.get 0 rfl)
      have z_wor := hB28.lt 0 rfl
      have c_sum := fun j => cell_of_row _ _ j _ _ _ (hB28.get 4 rfl)
      have z_sum := hB28.lt 4 rfl
      go_wp2_with fail
      refine (HAD.out _).mono ?_
      rintro e w29 ⟨rfl, hb⟩
      have hB29 := hB28.next hb
      clear c_wor z_wor c_sum z_sum hb hB28
      have c_sum := fun j => cell_of_row _ _ j _ _ _ (hB29.get 4 rfl)
      have z_sum := hB29.lt 4 rfl
      have f_sum := fun j => frozen_of_row _ _ j _ _ (hB29.get 4 rfl)
      go_upto_region 24 with fail
      have hB30 := hB29.put 4 rfl (S)
      clear c_sum z_sum f_sum hB29
      generalize (w29.setCell _ _).setCell _ _ = w30 at *
      rcases has with ⟨k1, k2, k3⟩ | k1
      rotate_left
      · have sq : (SC != 0) = true := by simp; omega
        have HK1 := Lib.hid k1
        clear k1
        have HX2 := Lib.hid (show K.valC a b = SC by
          have e : (K.vTo a b (k + 1)).e = SC := by rw [HST.out, vStep_e3 HE0.out HL2.out HD0.out HLZ.out HMZ.out (by rw [HSC.out]; have := HK1.out; omega), HSC.out]
          rw [HX.out, HSY.out (by rw [e]; have := HK1.out; omega), e])
        have HNZ := Lib.hid (show SC ≠ 0 by have := HK1.out; omega)
        have c_wor := fun j => cell_of_row _ _ j _ _ _ (hB30.get 0 rfl)
        have z_wor := hB30.lt 0 rfl
        have c_len := fun j => cell_of_row _ _ j _ _ _ (hB30.get 1 rfl)
        have z_len := hB30.lt 1 rfl
        have c_end := fun j => cell_of_row _ _ j _ _ _ (hB30.get 2 rfl)
        have z_end := hB30.lt 2 rfl
        have c_at := fun j => cell_of_row _ _ j _ _ _ (hB30.get 3 rfl)
        have z_at := hB30.lt 3 rfl
        have c_sum := fun j => cell_of_row _ _ j _ _ _ (hB30.get 4 rfl)
        have z_sum := hB30.lt 4 rfl
        have c_out := fun j => cell_of_row _ _ j _ _ _ (hB30.get 5 rfl)
        have z_out := hB30.lt 5 rfl
        have f_out := fun j => frozen_of_row _ _ j _ _ (hB30.get 5 rfl)
        have c_b := fun j => cell_of_row _ _ j _ _ _ (hB30.get 6 rfl)
        have z_b := hB30.lt 6 rfl
        have c_a := fun j => cell_of_row _ _ j _ _ _ (hB30.get 7 rfl)
        have z_a := hB30.lt 7 rfl
        have c_K := fun j => cell_of_row _ _ j _ _ _ (hB30.get 8 rfl)
        have z_K := hB30.lt 8 rfl
        have HE := Lib.hid (hB30.put 5 rfl ⟨0, 0⟩).below
        clear hB30
        go_wp2_with fail
        refine bodyPost_ret (v := .tuple #[rV ⟨0, 0⟩, .int .i64 SC]) (by simp [results, Try.results33, go_sem, c_out, f_out, z_out]) rfl ?_
        exact ⟨by rw [HVB.out SC HX2.out HNZ.out, HX2.out], HE.out⟩
      have sq : (SC != 0) = false := by rw [k1]; rfl
      have HN := Lib.hid (vStep_go (K := K) (b := b) (i := k) HE0.out HL2.out HD0.out HLZ.out HMZ.out (by rw [HSC.out, k1]))
      rw [HSS.out, ← HEE.out] at HN
      clear k1 k2 k3
      have c_end := fun j => cell_of_row _ _ j _ _ _ (hB30.get 2 rfl)
      have z_end := hB30.lt 2 rfl
      have c_at := fun j => cell_of_row _ _ j _ _ _ (hB30.get 3 rfl)
      have z_at := hB30.lt 3 rfl
      have f_at := fun j => frozen_of_row _ _ j _ _ (hB30.get 3 rfl)
      have HZ := Lib.hid (hB30.put 3 rfl en).drop.drop.drop
      clear hB30
      go_wp2_with fail
      exact ⟨⟨k + 1, HLE.out, by go_num, by rw [HST.out, HN.out], by rw [HST.out, HN.out]; exact HZ.out⟩, by simpa [intOf] using HME.out⟩
end Go.Proofs.Ytgcbmnohhbcfiaa
