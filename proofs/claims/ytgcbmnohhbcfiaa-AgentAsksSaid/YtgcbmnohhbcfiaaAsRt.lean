/- The reference's answer and Right. -/
import Derived.Test.YtgcbmnohhbcfiaaAsRq
import Derived.Test.YtgcbmnohhbcfiaaCkRx
import Derived.Test.YtgcbmnohhbcfiaaCkRm
namespace Go.Proofs.Ytgcbmnohhbcfiaa
open Go.RowKit Go.Deep
set_option linter.unusedVariables false
set_option linter.unusedSimpArgs false

theorem run_eql_rt7 (p q : Rt) (w : World) : (binOp .eql 37 (rV p) (rV q)).run Try.prog w = .ok (.bool (decide (p = q))) w := by
  rw [rt_eq_bool]
  cases h1 : p.n == q.n with
  | false => go_simp
  | true =>
  cases h2 : p.d == q.d with
  | false => go_simp
  | true => go_simp
attribute [go_sem 2000] run_eql_rt7
set_option maxRecDepth 100000 in
set_option maxHeartbeats 16000000 in
theorem fanswer_any (ks : List Ck) (A : Option Addr) (c : Nat) (q : Qy) (i : Nat) (K : Ck) (hq : q.wf) (hg : q.agent = (i : Int)) (hi : ks[i]? = some K) (hk : q.kind = 1 ∨ q.kind = 2) (w : World) (h : CsIn w.heap.size w A c ks) :
    Calls Try.prog 129 #[.slice A ks.length c, qV q] w fun e w' => e = .returned (.tuple #[rV (ansR K q.kind q.a q.b), .int .i64 (ansC K q.kind q.a q.b)]) ∧ Below w.heap.size w w' := by
  have hil : i < ks.length := by
    rcases Nat.lt_or_ge i ks.length with x | x
    · exact x
    · rw [List.getElem?_eq_none x] at hi; cases hi
  obtain ⟨ad, P, p, R, r, rfl, hbl, hc, d0, d1, d2⟩ := h.cake hi
  have hba : (ad.add (i * 3)).block < w.heap.size := by rw [block_add]; exact hbl
  have HF := Lib.hid (fun (W : World) (hW : Below w.heap.size w W) => And.intro ((hW.cell hba).trans d0) (And.intro ((hW.cell (p := ⟨(ad.add (i * 3)).block, (ad.add (i * 3)).off + 1, none⟩) hba).trans d1) (And.intro ((hW.cell (p := ⟨(ad.add (i * 3)).block, (ad.add (i * 3)).off + 2, none⟩) hba).trans d2) (Nat.lt_of_lt_of_le hba hW.size))))
  obtain ⟨vv, hvv⟩ : ∃ x, x = ansR K q.kind q.a q.b := ⟨_, rfl⟩
  obtain ⟨vc, hvc⟩ : ∃ x, x = ansC K q.kind q.a q.b := ⟨_, rfl⟩
  have HV := Lib.hid (fun (k : q.kind = 1) (V : World) (hV : Below w.heap.size w V) => show Calls Try.prog 115 #[cV P p R r K, rV q.a, rV q.b] V fun e w' => e = .returned (.tuple #[rV vv, .int .i64 vc]) ∧ Below V.heap.size V w' by
    rw [hvv, hvc, k]; exact fvalue_any K P p R r q.a q.b hq.a hq.b V (hc.next hV))
  have HM := Lib.hid (fun (k : q.kind = 2) (V : World) (hV : Below w.heap.size w V) => show Calls Try.prog 116 #[cV P p R r K, rV q.a, rV q.b] V fun e w' => e = .returned (.tuple #[rV vv, .int .i64 vc]) ∧ Below V.heap.size V w' by
    rw [hvv, hvc, k]; exact fmark_any K P p R r q.a q.b hq.a hq.b V (hc.next hV))
  rw [← hvv, ← hvc]
  have z1 : q.agent < (ks.length : Int) := by omega
  have z2 : (0 : Int) ≤ q.agent := by omega
  have t0 : q.agent.toNat = i := by omega
  have HKD := Lib.hid hk
  have hB0 : Bx w [(w.heap.size + 1, rB ⟨0, 0⟩), (w.heap.size, qB q)] ((w.alloc (qB q)).alloc (rB ⟨0, 0⟩)) := ((Bx.start w).new rfl _).new (by simp) _
  clear h hq hg hi hk hil hbl hc d0 d1 d2 hba hvv hvc
  go_enter Try.func129, Try.ntmps129
  go_upto_region 1 with fail
  generalize hw0 : (w.alloc (qB q)).alloc (rB ⟨0, 0⟩) = w0 at *
  clear hw0
  generalize w.heap.size + 1 = gR at *
  have hM0 := Mx.of_bx hB0
  clear hB0
  rcases HKD.out with hk | hk
  · have b1 : (q.kind == 1) = true := by rw [hk]; rfl
    have HC := Lib.hid (HV.out hk)
    clear hk HV HM HKD
    have c_q := fun j => cell_of_row _ _ j _ _ _ (hM0.get 1 rfl)
    have z_q := hM0.lt 1 rfl
    go_wp2_with fail
    clear c_q z_q
    refine wp_region_T (Bx w [(w.heap.size, qB q)]) 14 (by kernel_rfl) (by rfl) ((hM0.keep (List.Sublist.cons _ (List.Sublist.cons_cons _ (List.nil_sublist _)))).drew) (fun wq1 hbq => ?_)
    have hB2 := hM0.next hbq
    clear hM0 hbq
    refine wpAnyT_go (Bx.grows _ _) (hB2.keep (List.Sublist.cons _ (List.Sublist.cons_cons _ (List.nil_sublist _)))) [0, 1, 2, 3, 4, 5, 6, 7, 8, 9, 10, 11] 2 (by kernel_rfl) ?_
    apply Exists.intro
    refine ⟨fun G hG hN => ?_, ?_⟩
    · have c_q := fun (e : GE (Bx w [(w.heap.size, qB q)]) G) j => cell_of_row e.w _ j _ _ _ ((GE.h e).get 0 rfl)
      have z_q := fun (e : GE (Bx w [(w.heap.size, qB q)]) G) => (GE.h e).lt 0 rfl
      have e0 := fun (e : GE (Bx w [(w.heap.size, qB q)]) G) => (HF.out e.w (GE.h e).below).1
      have e1 := fun (e : GE (Bx w [(w.heap.size, qB q)]) G) => (HF.out e.w (GE.h e).below).2.1
      have e2 := fun (e : GE (Bx w [(w.heap.size, qB q)]) G) => (HF.out e.w (GE.h e).below).2.2.1
      have e3 := fun (e : GE (Bx w [(w.heap.size, qB q)]) G) => (HF.out e.w (GE.h e).below).2.2.2
      simp only [pickOps, List.getElem?_toArray, List.getElem?_cons_zero, List.getElem?_cons_succ]
      repeat (first | go_big_quiet_step ((first | (go_at_call 115; exact calls_ge (Bx.grows _ _) hG (HC.out _ (Bx.below (GE.h _)))))) | quiet_step ((first | (go_at_call 115; exact calls_ge (Bx.grows _ _) hG (HC.out _ (Bx.below (GE.h _)))))))
      exact wpQuiet_nil rfl
    refine wpAnyT_all (rs := [12]) (by kernel_rfl) (by simp) (fun wa2 hwa2 hRwa2 i hi => ?_)
    have hB3 := hB2.next hwa2
    clear hB2 hwa2 hRwa2
    obtain rfl := List.mem_singleton.1 hi
    refine wpOp_step rfl (fun Kc hKc => ?_)
    have c_r := fun j => cell_of_row _ _ j _ _ _ (hB3.get 0 rfl)
    have z_r := hB3.lt 0 rfl
    have f_r := fun j => frozen_of_row _ _ j _ _ (hB3.get 0 rfl)
    go_simp
    have hB4 := hB3.put 0 rfl (vv)
    refine hKc _ _ ⟨(hB4.keep (List.Sublist.cons _ (List.Sublist.cons_cons _ (List.nil_sublist _)))), ?_⟩
    clear c_r z_r f_r hKc Kc hB3
    generalize (wa2.setCell _ _).setCell _ _ = wb3 at *
    refine wpAnyT_go (Bx.grows _ _) (hB4.keep (List.Sublist.cons _ (List.Sublist.cons_cons _ (List.nil_sublist _)))) [13] 0 (by kernel_rfl) ?_
    apply Exists.intro
    refine ⟨fun G hG hN => ?_, ?_⟩
    · have c_q := fun (e : GE (Bx w [(w.heap.size, qB q)]) G) j => cell_of_row e.w _ j _ _ _ ((GE.h e).get 0 rfl)
      have z_q := fun (e : GE (Bx w [(w.heap.size, qB q)]) G) => (GE.h e).lt 0 rfl
      have e0 := fun (e : GE (Bx w [(w.heap.size, qB q)]) G) => (HF.out e.w (GE.h e).below).1
      have e1 := fun (e : GE (Bx w [(w.heap.size, qB q)]) G) => (HF.out e.w (GE.h e).below).2.1
      have e2 := fun (e : GE (Bx w [(w.heap.size, qB q)]) G) => (HF.out e.w (GE.h e).below).2.2.1
      have e3 := fun (e : GE (Bx w [(w.heap.size, qB q)]) G) => (HF.out e.w (GE.h e).below).2.2.2
      simp only [pickOps, List.getElem?_toArray, List.getElem?_cons_zero, List.getElem?_cons_succ]
      repeat (first | go_big_quiet_step ((first | (go_at_call 115; exact calls_ge (Bx.grows _ _) hG (HC.out _ (Bx.below (GE.h _)))))) | quiet_step ((first | (go_at_call 115; exact calls_ge (Bx.grows _ _) hG (HC.out _ (Bx.below (GE.h _)))))))
      exact wpQuiet_nil rfl
    refine wpAnyT_done (by kernel_rfl) (fun wd4 hwd4 hRwd4 => ?_) _
    refine NoPanic.normal ?_
    have hB5 := hB4.next hwd4
    clear hB4 hwd4 hRwd4
    have c_r := fun j => cell_of_row _ _ j _ _ _ (hB5.get 0 rfl)
    have z_r := hB5.lt 0 rfl
    have HE := Lib.hid hB5.below
    clear hB5
    go_wp2_with fail
    refine bodyPost_ret (v := .tuple #[rV vv, .int .i64 vc]) (by simp [results, Try.results129, go_sem, c_r, z_r]) rfl ?_
    exact ⟨rfl, HE.out⟩
  · have b1 : (q.kind == 1) = false := by rw [hk]; rfl
    have HC := Lib.hid (HM.out hk)
    clear hk HV HM HKD
    have c_q := fun j => cell_of_row _ _ j _ _ _ (hM0.get 1 rfl)
    have z_q := hM0.lt 1 rfl
    go_wp2_with fail
    clear c_q z_q
    refine wp_region_T (Bx w [(w.heap.size, qB q)]) 14 (by kernel_rfl) (by rfl) ((hM0.keep (List.Sublist.cons _ (List.Sublist.cons_cons _ (List.nil_sublist _)))).drew) (fun wq5 hbq => ?_)
    have hB2 := hM0.next hbq
    clear hM0 hbq
    refine wpAnyT_go (Bx.grows _ _) (hB2.keep (List.Sublist.cons _ (List.Sublist.cons_cons _ (List.nil_sublist _)))) [0, 1, 2, 3, 4, 5, 6, 7, 8, 9, 10, 11] 2 (by kernel_rfl) ?_
    apply Exists.intro
    refine ⟨fun G hG hN => ?_, ?_⟩
    · have c_q := fun (e : GE (Bx w [(w.heap.size, qB q)]) G) j => cell_of_row e.w _ j _ _ _ ((GE.h e).get 0 rfl)
      have z_q := fun (e : GE (Bx w [(w.heap.size, qB q)]) G) => (GE.h e).lt 0 rfl
      have e0 := fun (e : GE (Bx w [(w.heap.size, qB q)]) G) => (HF.out e.w (GE.h e).below).1
      have e1 := fun (e : GE (Bx w [(w.heap.size, qB q)]) G) => (HF.out e.w (GE.h e).below).2.1
      have e2 := fun (e : GE (Bx w [(w.heap.size, qB q)]) G) => (HF.out e.w (GE.h e).below).2.2.1
      have e3 := fun (e : GE (Bx w [(w.heap.size, qB q)]) G) => (HF.out e.w (GE.h e).below).2.2.2
      simp only [pickOps, List.getElem?_toArray, List.getElem?_cons_zero, List.getElem?_cons_succ]
      repeat (first | go_big_quiet_step ((first | (go_at_call 116; exact calls_ge (Bx.grows _ _) hG (HC.out _ (Bx.below (GE.h _)))))) | quiet_step ((first | (go_at_call 116; exact calls_ge (Bx.grows _ _) hG (HC.out _ (Bx.below (GE.h _)))))))
      exact wpQuiet_nil rfl
    refine wpAnyT_all (rs := [12]) (by kernel_rfl) (by simp) (fun wa6 hwa6 hRwa6 i hi => ?_)
    have hB3 := hB2.next hwa6
    clear hB2 hwa6 hRwa6
    obtain rfl := List.mem_singleton.1 hi
    refine wpOp_step rfl (fun Kc hKc => ?_)
    have c_r := fun j => cell_of_row _ _ j _ _ _ (hB3.get 0 rfl)
    have z_r := hB3.lt 0 rfl
    have f_r := fun j => frozen_of_row _ _ j _ _ (hB3.get 0 rfl)
    go_simp
    have hB4 := hB3.put 0 rfl (vv)
    refine hKc _ _ ⟨(hB4.keep (List.Sublist.cons _ (List.Sublist.cons_cons _ (List.nil_sublist _)))), ?_⟩
    clear c_r z_r f_r hKc Kc hB3
    generalize (wa6.setCell _ _).setCell _ _ = wb7 at *
    refine wpAnyT_go (Bx.grows _ _) (hB4.keep (List.Sublist.cons _ (List.Sublist.cons_cons _ (List.nil_sublist _)))) [13] 0 (by kernel_rfl) ?_
    apply Exists.intro
    refine ⟨fun G hG hN => ?_, ?_⟩
    · have c_q := fun (e : GE (Bx w [(w.heap.size, qB q)]) G) j => cell_of_row e.w _ j _ _ _ ((GE.h e).get 0 rfl)
      have z_q := fun (e : GE (Bx w [(w.heap.size, qB q)]) G) => (GE.h e).lt 0 rfl
      have e0 := fun (e : GE (Bx w [(w.heap.size, qB q)]) G) => (HF.out e.w (GE.h e).below).1
      have e1 := fun (e : GE (Bx w [(w.heap.size, qB q)]) G) => (HF.out e.w (GE.h e).below).2.1
      have e2 := fun (e : GE (Bx w [(w.heap.size, qB q)]) G) => (HF.out e.w (GE.h e).below).2.2.1
      have e3 := fun (e : GE (Bx w [(w.heap.size, qB q)]) G) => (HF.out e.w (GE.h e).below).2.2.2
      simp only [pickOps, List.getElem?_toArray, List.getElem?_cons_zero, List.getElem?_cons_succ]
      repeat (first | go_big_quiet_step ((first | (go_at_call 116; exact calls_ge (Bx.grows _ _) hG (HC.out _ (Bx.below (GE.h _)))))) | quiet_step ((first | (go_at_call 116; exact calls_ge (Bx.grows _ _) hG (HC.out _ (Bx.below (GE.h _)))))))
      exact wpQuiet_nil rfl
    refine wpAnyT_done (by kernel_rfl) (fun wd8 hwd8 hRwd8 => ?_) _
    refine NoPanic.normal ?_
    have hB5 := hB4.next hwd8
    clear hB4 hwd8 hRwd8
    have c_r := fun j => cell_of_row _ _ j _ _ _ (hB5.get 0 rfl)
    have z_r := hB5.lt 0 rfl
    have HE := Lib.hid hB5.below
    clear hB5
    go_wp2_with fail
    refine bodyPost_ret (v := .tuple #[rV vv, .int .i64 vc]) (by simp [results, Try.results129, go_sem, c_r, z_r]) rfl ?_
    exact ⟨rfl, HE.out⟩
set_option maxRecDepth 100000 in
set_option maxHeartbeats 16000000 in
theorem fright_any (ks : List Ck) (A : Option Addr) (c : Nat) (q : Qy) (hq : q.wf) (w : World) (h : CsIn w.heap.size w A c ks) :
    Calls Try.prog 118 #[.slice A ks.length c, qV q] w fun e w' => e = .returned (.bool (rightB ks q)) ∧ Below w.heap.size w w' := by
  have HH := Lib.hid (fun (W : World) (hW : Below w.heap.size w W) => h.next hW)
  have HA := Lib.hid (fun (V : World) => fagent_any ks A c [] none 0 q.agent V)
  have HQ := Lib.hid hq
  obtain ⟨ri, hri⟩ : ∃ x, x = rightB ks q := ⟨_, rfl⟩
  rw [← hri]
  have HR := Lib.hid hri
  obtain ⟨ha, hha⟩ : ∃ x, x = hasB ks.length q.agent := ⟨_, rfl⟩
  rw [← hha] at HA
  have HHA := Lib.hid hha
  have hB0 : Bx w [(w.heap.size, qB q)] (w.alloc (qB q)) := (Bx.start w).new rfl _
  clear h hq hri hha
  go_enter Try.func118, Try.ntmps118
  go_upto_region 1 with fail
  generalize hw0 : w.alloc (qB q) = w0 at *
  clear hw0
  have c_q := fun j => cell_of_row _ _ j _ _ _ (hB0.get 0 rfl)
  have z_q := hB0.lt 0 rfl
  go_wp2_with fail
  refine (HA.out _).mono ?_
  rintro e w2 ⟨rfl, hb⟩
  have hB2 := hB0.next hb
  clear c_q z_q hb hB0
  clear HA
  cases ha with
  | false =>
    have HX := Lib.hid (show ri = false by rw [HR.out]; unfold rightB; rw [← HHA.out]; rfl)
    have HE := Lib.hid hB2.below
    clear hB2
    go_wp2_with fail
    go_ret
    obtain rfl := HX.out
    exact ⟨rfl, HE.out⟩
  | true =>
  by_cases hk : q.kind = 1 ∨ q.kind = 2
  rotate_left
  · have b1 : (q.kind != 1) = true := by simp; omega
    have b2 : (q.kind != 2) = true := by simp; omega
    have HX := Lib.hid (show ri = false by rw [HR.out]; unfold rightB; rw [← HHA.out, decide_eq_false (show ¬ q.kind = 1 by omega), decide_eq_false (show ¬ q.kind = 2 by omega)]; rfl)
    clear hk
    have c_q := fun j => cell_of_row _ _ j _ _ _ (hB2.get 0 rfl)
    have z_q := hB2.lt 0 rfl
    have HE := Lib.hid hB2.below
    clear hB2
    go_wp2_with fail
    go_ret
    obtain rfl := HX.out
    exact ⟨rfl, HE.out⟩
  obtain ⟨i, hi, hil⟩ : ∃ i : Nat, q.agent = (i : Int) ∧ i < ks.length := by
    have e := HHA.out.symm
    unfold hasB at e
    simp only [Bool.and_eq_true, decide_eq_true_eq] at e
    exact ⟨q.agent.toNat, by omega, by omega⟩
  obtain ⟨K, hK⟩ : ∃ K, ks[i]? = some K := ⟨_, List.getElem?_eq_getElem hil⟩
  obtain ⟨vv, hvv⟩ : ∃ x, x = ansR K q.kind q.a q.b := ⟨_, rfl⟩
  obtain ⟨vc, hvc⟩ : ∃ x, x = ansC K q.kind q.a q.b := ⟨_, rfl⟩
  have HAN := Lib.hid (fun (V : World) (hV : Below w.heap.size w V) => fanswer_any ks A c q i K HQ.out hi hK hk V (HH.out V hV))
  rw [← hvv, ← hvc] at HAN
  have HX := Lib.hid (show ri = (decide (vc = 0) && decide (vv = q.ans)) by
    have e1 : ckAt ks q.agent = K := by rw [hi]; exact ckAt_of hK
    have e2 : (decide (q.kind = 1) || decide (q.kind = 2)) = true := by rcases hk with k | k <;> simp [k]
    rw [HR.out]; unfold rightB; rw [← HHA.out, e1, e2, hvv, hvc]; rfl)
  have HKD := Lib.hid hk
  clear hk hi hil hK hvv hvc
  rcases HKD.out with hk | hk
  · have b1 : (q.kind != 1) = false := by rw [hk]; rfl
    clear hk
    have c_q := fun j => cell_of_row _ _ j _ _ _ (hB2.get 0 rfl)
    have z_q := hB2.lt 0 rfl
    go_wp2_with fail
    refine (HAN.out _ hB2.below).mono ?_
    rintro e w3 ⟨rfl, hb⟩
    have hB3 := hB2.next hb
    clear c_q z_q hb hB2
    clear HAN
    go_upto_region 4 with fail
    have hB4 := hB3.new rfl (rB vv)
    clear hB3
    generalize w3.heap.size = gV at *
    generalize w3.alloc _ = w4 at *
    by_cases ec : vc = 0
    rotate_left
    · have b3 : (vc == 0) = false := by simpa using ec
      have HX2 := Lib.hid (show ri = false by rw [HX.out, decide_eq_false ec]; rfl)
      clear ec
      have HE := Lib.hid hB4.below
      clear hB4
      go_wp2_with fail
      go_ret
      obtain rfl := HX2.out
      exact ⟨rfl, HE.out⟩
    subst ec
    have HX2 := Lib.hid (show ri = decide (vv = q.ans) by rw [HX.out]; rfl)
    have c_v := fun j => cell_of_row _ _ j _ _ _ (hB4.get 0 rfl)
    have z_v := hB4.lt 0 rfl
    have c_q := fun j => cell_of_row _ _ j _ _ _ (hB4.get 1 rfl)
    have z_q := hB4.lt 1 rfl
    by_cases ev : vv = q.ans
    · have b4 : decide (vv = q.ans) = true := decide_eq_true ev
      have HX3 := Lib.hid (show ri = true by rw [HX2.out, b4])
      clear ev
      have HE := Lib.hid hB4.below
      clear hB4
      go_wp2_with fail
      go_ret
      obtain rfl := HX3.out
      exact ⟨rfl, HE.out⟩
    · have b4 : decide (vv = q.ans) = false := decide_eq_false ev
      have HX3 := Lib.hid (show ri = false by rw [HX2.out, b4])
      clear ev
      have HE := Lib.hid hB4.below
      clear hB4
      go_wp2_with fail
      go_ret
      obtain rfl := HX3.out
      exact ⟨rfl, HE.out⟩
  · have b1 : (q.kind != 1) = true := by rw [hk]; rfl
    have b2 : (q.kind != 2) = false := by rw [hk]; rfl
    clear hk
    have c_q := fun j => cell_of_row _ _ j _ _ _ (hB2.get 0 rfl)
    have z_q := hB2.lt 0 rfl
    go_wp2_with fail
    refine (HAN.out _ hB2.below).mono ?_
    rintro e w3 ⟨rfl, hb⟩
    have hB3 := hB2.next hb
    clear c_q z_q hb hB2
    clear HAN
    go_upto_region 4 with fail
    have hB4 := hB3.new rfl (rB vv)
    clear hB3
    generalize w3.heap.size = gV at *
    generalize w3.alloc _ = w4 at *
    by_cases ec : vc = 0
    rotate_left
    · have b3 : (vc == 0) = false := by simpa using ec
      have HX2 := Lib.hid (show ri = false by rw [HX.out, decide_eq_false ec]; rfl)
      clear ec
      have HE := Lib.hid hB4.below
      clear hB4
      go_wp2_with fail
      go_ret
      obtain rfl := HX2.out
      exact ⟨rfl, HE.out⟩
    subst ec
    have HX2 := Lib.hid (show ri = decide (vv = q.ans) by rw [HX.out]; rfl)
    have c_v := fun j => cell_of_row _ _ j _ _ _ (hB4.get 0 rfl)
    have z_v := hB4.lt 0 rfl
    have c_q := fun j => cell_of_row _ _ j _ _ _ (hB4.get 1 rfl)
    have z_q := hB4.lt 1 rfl
    by_cases ev : vv = q.ans
    · have b4 : decide (vv = q.ans) = true := decide_eq_true ev
      have HX3 := Lib.hid (show ri = true by rw [HX2.out, b4])
      clear ev
      have HE := Lib.hid hB4.below
      clear hB4
      go_wp2_with fail
      go_ret
      obtain rfl := HX3.out
      exact ⟨rfl, HE.out⟩
    · have b4 : decide (vv = q.ans) = false := decide_eq_false ev
      have HX3 := Lib.hid (show ri = false by rw [HX2.out, b4])
      clear ev
      have HE := Lib.hid hB4.below
      clear hB4
      go_wp2_with fail
      go_ret
      obtain rfl := HX3.out
      exact ⟨rfl, HE.out⟩
end Go.Proofs.Ytgcbmnohhbcfiaa
