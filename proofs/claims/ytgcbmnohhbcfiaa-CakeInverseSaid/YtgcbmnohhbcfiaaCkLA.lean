/- CakeAdds returns true. -/
import Derived.Test.YtgcbmnohhbcfiaaCkG
import Derived.Test.YtgcbmnohhbcfiaaCkN
namespace Go.Proofs.Ytgcbmnohhbcfiaa
open Go.RowKit Go.Deep
set_option linter.unusedVariables false
set_option linter.unusedSimpArgs false

theorem validB_ok {K : Ck} {a b : Rt} (h : validB K a b = true) : K.Ok ∧ a.Ok ∧ b.Ok ∧ 0 ≤ a.q ∧ a.q ≤ b.q ∧ b.q ≤ (K.len : Rat) := by
  simp only [validB, Bool.and_eq_true, Bool.not_eq_true', decide_eq_true_eq] at h
  obtain ⟨⟨⟨⟨_, h1⟩, h2⟩, h3⟩, h4⟩ := h
  have k := Ck.ok_code h1
  have l1 := k.l1
  obtain ⟨oa, a0, _⟩ := (point_q (by omega) k.l2).1 h2
  obtain ⟨ob, _, bl⟩ := (point_q (by omega) k.l2).1 h3
  exact ⟨k, oa, ob, a0, (ltB_qf ob oa).1 h4, bl⟩

set_option maxRecDepth 100000 in
set_option maxHeartbeats 16000000 in
theorem adds_walk (K : Ck) (A : Option Addr) (c : Nat) (R : Option Addr) (d : Nat) (a b f : Rt) (ha : a.wf) (hb : b.wf) (hf : f.wf) (w : World) (h : CIn w.heap.size w A c R d K) :
    Calls Try.prog 6 #[cV A c R d K, rV a, rV b, rV f] w fun e w' => e = .returned (.bool true) ∧ Below w.heap.size w w' := by
  have hB0 : Bx w [(w.heap.size + 1 + 1 + 1, rB f), (w.heap.size + 1 + 1, rB b), (w.heap.size + 1, rB a), (w.heap.size, cB A c R d K)] ((((w.alloc (cB A c R d K)).alloc (rB a)).alloc (rB b)).alloc (rB f)) :=
    ((((Bx.start w).new rfl _).new (by simp) _).new (by simp) _).new (by simp) _
  have H1 := Lib.hid (fun (W : World) (hW : Below w.heap.size w W) => valid_any K A c R d a b ha hb W (h.next hW))
  have H2 := Lib.hid (fun (W : World) (hW : Below w.heap.size w W) => valid_any K A c R d b f hb hf W (h.next hW))
  have V1 := Lib.hid (fun (W : World) (hW : Below w.heap.size w W) => cvalue_any K A c R d a b ha hb W (h.next hW))
  have V2 := Lib.hid (fun (W : World) (hW : Below w.heap.size w W) => cvalue_any K A c R d b f hb hf W (h.next hW))
  have V3 := Lib.hid (fun (W : World) (hW : Below w.heap.size w W) => cvalue_any K A c R d a f ha hf W (h.next hW))
  have HT := Lib.hid (fun (W : World) (hW : Below w.heap.size w W) => ctotal_any K A c R d W (h.next hW))
  have V4 := Lib.hid (fun (h1 : Rt.wf ⟨K.len, 1⟩) (W : World) (hW : Below w.heap.size w W) => cvalue_any K A c R d ⟨0, 1⟩ ⟨K.len, 1⟩ rt_wf h1 W (h.next hW))
  clear h ha hb hf
  go_enter Try.func6, Try.ntmps6
  try dsimp only [List.append]
  go_upto_region 1 with fail
  generalize hw0 : (((w.alloc (cB A c R d K)).alloc (rB a)).alloc (rB b)).alloc (rB f) = w0 at *
  clear hw0
  generalize w.heap.size + 1 + 1 + 1 = gF at *
  generalize w.heap.size + 1 + 1 = gB at *
  generalize w.heap.size + 1 = gA at *
  have c_f := fun j => cell_of_row _ _ j _ _ _ (hB0.get 0 rfl)
  have z_f := hB0.lt 0 rfl
  have c_b := fun j => cell_of_row _ _ j _ _ _ (hB0.get 1 rfl)
  have z_b := hB0.lt 1 rfl
  have c_a := fun j => cell_of_row _ _ j _ _ _ (hB0.get 2 rfl)
  have z_a := hB0.lt 2 rfl
  have c_K := fun j => cell_of_row _ _ j _ _ _ (hB0.get 3 rfl)
  have z_K := hB0.lt 3 rfl
  cases hv : validB K a b with
  | false =>
    rw [hv] at H1
    clear hv
    go_wp2_with fail
    refine (H1.out _ hB0.below).mono ?_
    rintro e w1 ⟨rfl, hb⟩
    have hB1 := hB0.next hb
    clear c_f z_f c_b z_b c_a z_a c_K z_K hb hB0
    have c_f := fun j => cell_of_row _ _ j _ _ _ (hB1.get 0 rfl)
    have z_f := hB1.lt 0 rfl
    have c_b := fun j => cell_of_row _ _ j _ _ _ (hB1.get 1 rfl)
    have z_b := hB1.lt 1 rfl
    have c_a := fun j => cell_of_row _ _ j _ _ _ (hB1.get 2 rfl)
    have z_a := hB1.lt 2 rfl
    have c_K := fun j => cell_of_row _ _ j _ _ _ (hB1.get 3 rfl)
    have z_K := hB1.lt 3 rfl
    go_wp2_with fail
    refine (alive_any _).mono ?_
    rintro e w2 ⟨rfl, hb⟩
    have hB2 := hB1.next hb
    clear c_f z_f c_b z_b c_a z_a c_K z_K hb hB1
    have HE := Lib.hid hB2.below
    clear hB2
    go_wp2_with fail
    go_ret
    exact ⟨rfl, HE.out⟩
  | true =>
  have Ov1 := Lib.hid (validB_ok hv)
  rw [hv] at H1
  clear hv
  go_wp2_with fail
  refine (H1.out _ hB0.below).mono ?_
  rintro e w1 ⟨rfl, hb⟩
  have hB1 := hB0.next hb
  clear c_f z_f c_b z_b c_a z_a c_K z_K hb hB0
  have c_f := fun j => cell_of_row _ _ j _ _ _ (hB1.get 0 rfl)
  have z_f := hB1.lt 0 rfl
  have c_b := fun j => cell_of_row _ _ j _ _ _ (hB1.get 1 rfl)
  have z_b := hB1.lt 1 rfl
  have c_a := fun j => cell_of_row _ _ j _ _ _ (hB1.get 2 rfl)
  have z_a := hB1.lt 2 rfl
  have c_K := fun j => cell_of_row _ _ j _ _ _ (hB1.get 3 rfl)
  have z_K := hB1.lt 3 rfl
  cases hv : validB K b f with
  | false =>
    rw [hv] at H2
    clear hv
    go_wp2_with fail
    refine (H2.out _ hB1.below).mono ?_
    rintro e w2 ⟨rfl, hb⟩
    have hB2 := hB1.next hb
    clear c_f z_f c_b z_b c_a z_a c_K z_K hb hB1
    have c_f := fun j => cell_of_row _ _ j _ _ _ (hB2.get 0 rfl)
    have z_f := hB2.lt 0 rfl
    have c_b := fun j => cell_of_row _ _ j _ _ _ (hB2.get 1 rfl)
    have z_b := hB2.lt 1 rfl
    have c_a := fun j => cell_of_row _ _ j _ _ _ (hB2.get 2 rfl)
    have z_a := hB2.lt 2 rfl
    have c_K := fun j => cell_of_row _ _ j _ _ _ (hB2.get 3 rfl)
    have z_K := hB2.lt 3 rfl
    go_wp2_with fail
    refine (alive_any _).mono ?_
    rintro e w3 ⟨rfl, hb⟩
    have hB3 := hB2.next hb
    clear c_f z_f c_b z_b c_a z_a c_K z_K hb hB2
    have HE := Lib.hid hB3.below
    clear hB3
    go_wp2_with fail
    go_ret
    exact ⟨rfl, HE.out⟩
  | true =>
  have Ov2 := Lib.hid (validB_ok hv)
  rw [hv] at H2
  clear hv
  go_wp2_with fail
  refine (H2.out _ hB1.below).mono ?_
  rintro e w2 ⟨rfl, hb⟩
  have hB2 := hB1.next hb
  clear c_f z_f c_b z_b c_a z_a c_K z_K hb hB1
  have HK := Lib.hid Ov1.out.1
  have oa := Ov1.out.2.1
  have ob := Ov1.out.2.2.1
  have of_ := Ov2.out.2.2.1
  have qa := Ov1.out.2.2.2.1
  have qab := Ov1.out.2.2.2.2.1
  have qbf := Ov2.out.2.2.2.2.1
  have qfl := Ov2.out.2.2.2.2.2
  have X1 := Lib.hid (HK.out.val_ok oa ob qa qab (by grind))
  have X2 := Lib.hid (HK.out.val_ok ob of_ (by grind) qbf qfl)
  have X3 := Lib.hid (HK.out.val_ok oa of_ qa (by grind) qfl)
  have XA := Lib.hid (fun h1 h2 h3 => val_add HK.out oa ob of_ qa qab qbf qfl h1 h2 h3)
  have XN := Lib.hid (fun h1 => val_nonneg HK.out oa ob qa qab (by grind) h1)
  have XM := Lib.hid (fun h1 => val_nonneg HK.out ob of_ (by grind) qbf qfl h1)
  have XW := Lib.hid (whole_val HK.out)
  have XT := Lib.hid HK.out.total_bd
  have HL2 := Lib.hid HK.out.l2
  have HL1 := Lib.hid HK.out.l1
  have HTO := Lib.hid (show K.tot = K.total by unfold Ck.tot; rw [if_pos HK.out.code])
  have V4 := Lib.hid (V4.out (len_ok (by have := HL1.out; omega) (by have := HL2.out; omega)).wf)
  rw [XW.out.1, XW.out.2] at V4
  rw [HTO.out, HK.out.code] at HT
  clear oa ob of_ qa qab qbf qfl
  have C1 := Lib.hid X1.out.c
  have D1 := Lib.hid (show K.valC a b = 0 → (K.val a b).Ok from fun h => (X1.out.v h).1)
  clear X1
  obtain ⟨x, hx⟩ : ∃ t, t = K.val a b := ⟨_, rfl⟩
  obtain ⟨c1, hc1⟩ : ∃ t, t = K.valC a b := ⟨_, rfl⟩
  rw [← hx, ← hc1] at V1
  rw [← hc1] at C1
  rw [← hx, ← hc1] at D1
  have C2 := Lib.hid X2.out.c
  have D2 := Lib.hid (show K.valC b f = 0 → (K.val b f).Ok from fun h => (X2.out.v h).1)
  clear X2
  obtain ⟨y, hy⟩ : ∃ t, t = K.val b f := ⟨_, rfl⟩
  obtain ⟨c2, hc2⟩ : ∃ t, t = K.valC b f := ⟨_, rfl⟩
  rw [← hy, ← hc2] at V2
  rw [← hc2] at C2
  rw [← hy, ← hc2] at D2
  have C3 := Lib.hid X3.out.c
  have D3 := Lib.hid (show K.valC a f = 0 → (K.val a f).Ok from fun h => (X3.out.v h).1)
  clear X3
  obtain ⟨z, hz⟩ : ∃ t, t = K.val a f := ⟨_, rfl⟩
  obtain ⟨c3, hc3⟩ : ∃ t, t = K.valC a f := ⟨_, rfl⟩
  rw [← hz, ← hc3] at V3
  rw [← hc3] at C3
  rw [← hz, ← hc3] at D3
  rw [← hc1, ← hc2, ← hc3, ← hx, ← hy, ← hz] at XA
  rw [← hx, ← hc1] at XN
  rw [← hy, ← hc2] at XM
  clear hx hy hz hc1 hc2 hc3
  have c_f := fun j => cell_of_row _ _ j _ _ _ (hB2.get 0 rfl)
  have z_f := hB2.lt 0 rfl
  have c_b := fun j => cell_of_row _ _ j _ _ _ (hB2.get 1 rfl)
  have z_b := hB2.lt 1 rfl
  have c_a := fun j => cell_of_row _ _ j _ _ _ (hB2.get 2 rfl)
  have z_a := hB2.lt 2 rfl
  have c_K := fun j => cell_of_row _ _ j _ _ _ (hB2.get 3 rfl)
  have z_K := hB2.lt 3 rfl
  go_wp2_with fail
  refine (V1.out _ hB2.below).mono ?_
  rintro e w3 ⟨rfl, hb⟩
  have hB3 := hB2.next hb
  clear c_f z_f c_b z_b c_a z_a c_K z_K hb hB2
  go_upto_region 4 with fail
  have hB4 := hB3.new rfl (rB x)
  clear hB3
  generalize w3.heap.size = gX at *
  generalize w3.alloc _ = w4 at *
  have c_f := fun j => cell_of_row _ _ j _ _ _ (hB4.get 1 rfl)
  have z_f := hB4.lt 1 rfl
  have c_b := fun j => cell_of_row _ _ j _ _ _ (hB4.get 2 rfl)
  have z_b := hB4.lt 2 rfl
  have c_a := fun j => cell_of_row _ _ j _ _ _ (hB4.get 3 rfl)
  have z_a := hB4.lt 3 rfl
  have c_K := fun j => cell_of_row _ _ j _ _ _ (hB4.get 4 rfl)
  have z_K := hB4.lt 4 rfl
  go_wp2_with fail
  refine (V2.out _ hB4.below).mono ?_
  rintro e w5 ⟨rfl, hb⟩
  have hB5 := hB4.next hb
  clear c_f z_f c_b z_b c_a z_a c_K z_K hb hB4
  go_upto_region 5 with fail
  have hB6 := hB5.new rfl (rB y)
  clear hB5
  generalize w5.heap.size = gY at *
  generalize w5.alloc _ = w6 at *
  have c_f := fun j => cell_of_row _ _ j _ _ _ (hB6.get 2 rfl)
  have z_f := hB6.lt 2 rfl
  have c_b := fun j => cell_of_row _ _ j _ _ _ (hB6.get 3 rfl)
  have z_b := hB6.lt 3 rfl
  have c_a := fun j => cell_of_row _ _ j _ _ _ (hB6.get 4 rfl)
  have z_a := hB6.lt 4 rfl
  have c_K := fun j => cell_of_row _ _ j _ _ _ (hB6.get 5 rfl)
  have z_K := hB6.lt 5 rfl
  go_wp2_with fail
  refine (V3.out _ hB6.below).mono ?_
  rintro e w7 ⟨rfl, hb⟩
  have hB7 := hB6.next hb
  clear c_f z_f c_b z_b c_a z_a c_K z_K hb hB6
  go_upto_region 6 with fail
  have hB8 := hB7.new rfl (rB z)
  clear hB7
  generalize w7.heap.size = gZ at *
  generalize w7.alloc _ = w8 at *
  have c_K := fun j => cell_of_row _ _ j _ _ _ (hB8.get 6 rfl)
  have z_K := hB8.lt 6 rfl
  go_wp2_with fail
  refine (HT.out _ hB8.below).mono ?_
  rintro e w9 ⟨rfl, hb⟩
  have hB9 := hB8.next hb
  clear c_K z_K hb hB8
  go_upto_region 7 with fail
  refine wp_region_flow 12 (by kernel_rfl) (by rfl) (fun wq hbq => ?_)
  have hB10q := hB9.next hbq
  clear hB9
  refine wpAnyE_go (w0 := wq) (w1 := wq) (X := []) (fun _ h => h) (RK.start _) [0, 1, 2, 3, 4, 5, 6, 7, 8] 3 (by kernel_rfl) ?_
  apply Exists.intro
  refine ⟨fun G hG hN => ?_, ?_⟩
  · have c_K := fun (e : GE (RK wq wq []) G) j => cell_of_row e.w _ j _ _ _ ((hB10q.next (RK.b (GE.h e))).get 6 rfl)
    have z_K := fun (e : GE (RK wq wq []) G) => ((hB10q.next (RK.b (GE.h e))).lt 6 rfl)
    simp only [pickOps, List.getElem?_toArray, List.getElem?_cons_zero, List.getElem?_cons_succ]
    repeat (first | go_big_quiet_step ((first | (go_at_call 36; exact calls_ge (RK.grows _ _ _) hG (lof_any _ _)) | (go_at_call 33; exact calls_ge (RK.grows _ _ _) hG (V4.out _ ((hB10q.next (RK.b (GE.h _))).below))))) | quiet_step ((first | (go_at_call 36; exact calls_ge (RK.grows _ _ _) hG (lof_any _ _)) | (go_at_call 33; exact calls_ge (RK.grows _ _ _) hG (V4.out _ ((hB10q.next (RK.b (GE.h _))).below))))))
    exact wpQuiet_nil rfl
  refine wpAnyE_all (rs := [9]) (by kernel_rfl) (by simp) (fun Wa hWa hRWa i hi => ?_)
  obtain rfl := List.mem_singleton.1 hi
  refine wpOp_step rfl (fun K hK => ?_)
  go_simp
  refine hK _ _ ⟨hRWa.grow (one_alloc _ _), ?_⟩
  clear hK K
  have hxa := heap_new (w := Wa) (o := rB ⟨0, 0⟩) rfl
  have hza : wq.heap.size ≤ Wa.heap.size := hRWa.b.size
  refine wpAnyE_all (rs := [10]) (by kernel_rfl) (by simp) (fun Wb hWb hRWb i hi => ?_)
  obtain rfl := List.mem_singleton.1 hi
  have hxb := heap_ext hxa hWb
  have ck := fun j => cell_of_row _ _ j _ _ _ hxb
  have fk := fun j => frozen_of_row _ _ j _ _ hxb
  have zk := lt_some hxb
  refine wpOp_step rfl (fun K hK => ?_)
  go_simp
  refine hK _ _ ⟨(hRWb.set hza (Or.inr hza)).set hza (Or.inr hza), ?_⟩
  clear hK K
  clear ck fk zk
  have hxc := heap_set (j := 1) (u := .int .i64 ((⟨K.total, 1⟩ : Rt)).d) (heap_set (j := 0) (u := .int .i64 ((⟨K.total, 1⟩ : Rt)).n) hxb)
  have hsc := (hRWb.set hza (Or.inr hza) (j := 0) (u := .int .i64 ((⟨K.total, 1⟩ : Rt)).n)).set hza (Or.inr hza) (j := 1) (u := .int .i64 ((⟨K.total, 1⟩ : Rt)).d)
  generalize (Wb.setCell _ _).setCell _ _ = Wd at *
  refine wpAnyE_go (w0 := wq) (w1 := Wd) (X := []) (RK.move hsc (by simp)) (RK.here hsc) [11] 0 (by kernel_rfl) ?_
  apply Exists.intro
  refine ⟨fun G hG hN => ?_, ?_⟩
  · simp only [pickOps, List.getElem?_toArray, List.getElem?_cons_zero, List.getElem?_cons_succ]
    repeat (first | go_big_quiet_step (fail) | quiet_step (fail))
    exact wpQuiet_nil rfl
  refine wpAnyE_done (by kernel_rfl) (fun Wc hWc hRWc => ?_) _
  refine NoPanic.normal ?_
  have hB10 : Bx w ((Wa.heap.size, rB ((⟨K.total, 1⟩ : Rt))) :: _) Wc := hB10q.add hRWc.b hza (heap_ext hxc hWc)
  clear hB10q hxa hxb hxc hWb hWc hRWa hRWb hRWc hza hWa hbq
  generalize Wa.heap.size = gAll at *
  generalize Wc = w10 at *
  have t1 : decide (K.total < 1) = false := by have := XT.out; simp; omega
  have t2 : IntKind.i64.wrap (12 * K.len) = 12 * K.len := IntWalk.i64_in _ (by have := HL1.out; have := HL2.out; omega)
  have t2' : wrap64 (12 * K.len) = 12 * K.len := IntWalk.wrap64_in _ (by have := HL1.out; have := HL2.out; omega)
  have t3 : decide (12 * K.len < K.total) = false := by have := XT.out; simp; omega
  have t4 : (K.total == K.total) = true := by simp
  have t5 : (K.total != K.total) = false := by simp
  have c_all := fun j => cell_of_row _ _ j _ _ _ (hB10.get 0 rfl)
  have z_all := hB10.lt 0 rfl
  have c_K := fun j => cell_of_row _ _ j _ _ _ (hB10.get 7 rfl)
  have z_K := hB10.lt 7 rfl
  go_wp2_with fail
  refine wp_region_ext (by kernel_rfl) (by kernel_rfl) ?_
  repeat (first | go_big_quiet_step ((first | (go_at_call 36; exact calls_ext (lof_any _ _)))) | quiet_step ((first | (go_at_call 36; exact calls_ext (lof_any _ _)))))
  refine wpQuiet_nil ?_
  rintro _ ⟨⟨w11, hb⟩, rfl⟩
  have hB11 := hB10.next hb
  clear c_all z_all c_K z_K hb hB10
  clear t1 t2 t2' t3 t4 t5
  rcases C1.out with rfl | rfl
  · rcases C2.out with rfl | rfl
    · rcases C3.out with rfl | rfl
      · have HS := Lib.hid (fun (W : World) => radd_any x y (D1.out rfl).wf (D2.out rfl).wf W)
        have HXA := XA.out rfl rfl rfl
        rw [HXA.1, HXA.2] at HS
        have n1 : decide (0 ≤ x.n) = true := decide_eq_true (XN.out rfl)
        have n2 : decide (0 ≤ y.n) = true := decide_eq_true (XM.out rfl)
        clear HXA
        have c_y := fun j => cell_of_row _ _ j _ _ _ (hB11.get 2 rfl)
        have z_y := hB11.lt 2 rfl
        have c_x := fun j => cell_of_row _ _ j _ _ _ (hB11.get 3 rfl)
        have z_x := hB11.lt 3 rfl
        go_wp2_with fail
        refine (HS.out _).mono ?_
        rintro e w12 ⟨rfl, hb⟩
        have hB12 := hB11.next hb
        clear c_y z_y c_x z_x hb hB11
        go_upto_region 13 with fail
        have hB13 := hB12.new rfl (rB z)
        clear hB12
        generalize w12.heap.size = gS at *
        generalize w12.alloc _ = w13 at *
        have c_s := fun j => cell_of_row _ _ j _ _ _ (hB13.get 0 rfl)
        have z_s := hB13.lt 0 rfl
        have c_z := fun j => cell_of_row _ _ j _ _ _ (hB13.get 2 rfl)
        have z_z := hB13.lt 2 rfl
        have c_y := fun j => cell_of_row _ _ j _ _ _ (hB13.get 3 rfl)
        have z_y := hB13.lt 3 rfl
        have c_x := fun j => cell_of_row _ _ j _ _ _ (hB13.get 4 rfl)
        have z_x := hB13.lt 4 rfl
        go_wp2_with fail
        refine (alive_any _).mono ?_
        rintro e w14 ⟨rfl, hb⟩
        have hB14 := hB13.next hb
        clear c_s z_s c_z z_z c_y z_y c_x z_x hb hB13
        have HE := Lib.hid hB14.below
        clear hB14
        go_wp2_with fail
        go_ret
        exact ⟨rfl, HE.out⟩
      · go_wp2_with fail
        refine (alive_any _).mono ?_
        rintro e w12 ⟨rfl, hb⟩
        have hB12 := hB11.next hb
        clear hb hB11
        have HE := Lib.hid hB12.below
        clear hB12
        go_wp2_with fail
        go_ret
        exact ⟨rfl, HE.out⟩
    · rcases C3.out with rfl | rfl
      · go_wp2_with fail
        refine (alive_any _).mono ?_
        rintro e w12 ⟨rfl, hb⟩
        have hB12 := hB11.next hb
        clear hb hB11
        have HE := Lib.hid hB12.below
        clear hB12
        go_wp2_with fail
        go_ret
        exact ⟨rfl, HE.out⟩
      · go_wp2_with fail
        refine (alive_any _).mono ?_
        rintro e w12 ⟨rfl, hb⟩
        have hB12 := hB11.next hb
        clear hb hB11
        have HE := Lib.hid hB12.below
        clear hB12
        go_wp2_with fail
        go_ret
        exact ⟨rfl, HE.out⟩
  · rcases C2.out with rfl | rfl
    · rcases C3.out with rfl | rfl
      · go_wp2_with fail
        refine (alive_any _).mono ?_
        rintro e w12 ⟨rfl, hb⟩
        have hB12 := hB11.next hb
        clear hb hB11
        have HE := Lib.hid hB12.below
        clear hB12
        go_wp2_with fail
        go_ret
        exact ⟨rfl, HE.out⟩
      · go_wp2_with fail
        refine (alive_any _).mono ?_
        rintro e w12 ⟨rfl, hb⟩
        have hB12 := hB11.next hb
        clear hb hB11
        have HE := Lib.hid hB12.below
        clear hB12
        go_wp2_with fail
        go_ret
        exact ⟨rfl, HE.out⟩
    · rcases C3.out with rfl | rfl
      · go_wp2_with fail
        refine (alive_any _).mono ?_
        rintro e w12 ⟨rfl, hb⟩
        have hB12 := hB11.next hb
        clear hb hB11
        have HE := Lib.hid hB12.below
        clear hB12
        go_wp2_with fail
        go_ret
        exact ⟨rfl, HE.out⟩
      · go_wp2_with fail
        refine (alive_any _).mono ?_
        rintro e w12 ⟨rfl, hb⟩
        have hB12 := hB11.next hb
        clear hb hB11
        have HE := Lib.hid hB12.below
        clear hB12
        go_wp2_with fail
        go_ret
        exact ⟨rfl, HE.out⟩
end Go.Proofs.Ytgcbmnohhbcfiaa
