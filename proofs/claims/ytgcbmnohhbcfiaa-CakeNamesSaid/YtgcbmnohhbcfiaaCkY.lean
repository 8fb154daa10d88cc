/- Mark of cakes: what is done at each piece. -/
import Derived.Test.YtgcbmnohhbcfiaaCkX
import Derived.Test.YtgcbmnohhbcfiaaRtG
namespace Go.Proofs.Ytgcbmnohhbcfiaa
open Go.RowKit Go.Deep
set_option linter.unusedVariables false
set_option linter.unusedSimpArgs false

abbrev ptrV (g : Nat) : Value := .pointer (some ⟨g, 0, none⟩)
set_option maxRecDepth 100000 in
set_option maxHeartbeats 8000000 in
theorem visit_zero (fr un W v ot : Rt) (d lt : Int) (gV gL gU : Nat) (M : List (Nat × Obj)) (wb w0 : World)  (h : Bx wb ((gV, rB v) :: (gL, eB lt) :: (gU, rB ot) :: M) w0) :
    Calls Try.prog 91 #[rV fr, rV un, rV W, .int .i64 0, ptrV gV, ptrV gL, ptrV gU] w0 fun e w' => e = .returned (.bool false) ∧ Bx wb ((gV, rB v) :: (gL, eB lt) :: (gU, rB ot) :: M) w' ∧ w0.heap.size ≤ w'.heap.size := by
  have hBb : Bx wb ((w0.heap.size + 1 + 1, rB W) :: (w0.heap.size + 1, rB un) :: (w0.heap.size, rB fr) :: (gV, rB v) :: (gL, eB lt) :: (gU, rB ot) :: M) (((w0.alloc (rB fr)).alloc (rB un)).alloc (rB W)) := ((h.new rfl _).new (by simp) _).new (by simp) _
  have HSz := Lib.hid (show w0.heap.size ≤ (((w0.alloc (rB fr)).alloc (rB un)).alloc (rB W)).heap.size by simp <;> omega)
  clear h
  go_enter Try.func91, Try.ntmps91
  go_upto_region 1 with fail
  generalize hwb : ((w0.alloc (rB fr)).alloc (rB un)).alloc (rB W) = w1 at *
  clear hwb
  generalize w0.heap.size + 1 + 1 = g9 at *
  generalize w0.heap.size + 1 = g8 at *
  go_wp2_with fail
  go_ret
  exact ⟨rfl, hBb.drop.drop.drop, HSz.out⟩
set_option maxRecDepth 100000 in
set_option maxHeartbeats 8000000 in
theorem visit_less (fr un W v ot : Rt) (d lt : Int) (gV gL gU : Nat) (M : List (Nat × Obj)) (wb w0 : World) (hv : v.Ok) (hW : W.Ok) (hl : ltB W v = true) (hd : d ≠ 0) (h : Bx wb ((gV, rB v) :: (gL, eB lt) :: (gU, rB ot) :: M) w0) :
    Calls Try.prog 91 #[rV fr, rV un, rV W, .int .i64 d, ptrV gV, ptrV gL, ptrV gU] w0 fun e w' => e = .returned (.bool (subC v W != 0)) ∧ Bx wb ((gV, rB (subR v W)) :: (gL, eB (if subC v W ≠ 0 then subC v W else 6)) :: (gU, rB ot) :: M) w' ∧ w0.heap.size ≤ w'.heap.size := by
  have hBb : Bx wb ((w0.heap.size + 1 + 1, rB W) :: (w0.heap.size + 1, rB un) :: (w0.heap.size, rB fr) :: (gV, rB v) :: (gL, eB lt) :: (gU, rB ot) :: M) (((w0.alloc (rB fr)).alloc (rB un)).alloc (rB W)) := ((h.new rfl _).new (by simp) _).new (by simp) _
  have HSz := Lib.hid (show w0.heap.size ≤ (((w0.alloc (rB fr)).alloc (rB un)).alloc (rB W)).heap.size by simp <;> omega)
  clear h
  have HLT := Lib.hid (fun (X : World) => cless_any W v hW hv X)
  have HSB := Lib.hid (fun (X : World) => rsub_any v W hv.wf hW.wf X)
  rw [hl] at HLT
  have dq : (d == 0) = false := by simpa using hd
  generalize subR v W = S at *
  generalize subC v W = SC at *
  clear hl hv hW hd
  go_enter Try.func91, Try.ntmps91
  go_upto_region 1 with fail
  generalize hwb : ((w0.alloc (rB fr)).alloc (rB un)).alloc (rB W) = w1 at *
  clear hwb
  generalize w0.heap.size + 1 + 1 = g9 at *
  generalize w0.heap.size + 1 = g8 at *
  have c_W := fun j => cell_of_row _ _ j _ _ _ (hBb.get 0 rfl)
  have z_W := hBb.lt 0 rfl
  have c_v := fun j => cell_of_row _ _ j _ _ _ (hBb.get 3 rfl)
  have z_v := hBb.lt 3 rfl
  go_wp2_with fail
  refine (HLT.out _).mono ?_
  rintro e w1 ⟨rfl, hb⟩
  have hB1 := hBb.next hb
  have HSz := Lib.hid (Nat.le_trans HSz.out hb.size)
  clear c_W z_W c_v z_v hb hBb
  have c_W := fun j => cell_of_row _ _ j _ _ _ (hB1.get 0 rfl)
  have z_W := hB1.lt 0 rfl
  have c_v := fun j => cell_of_row _ _ j _ _ _ (hB1.get 3 rfl)
  have z_v := hB1.lt 3 rfl
  go_wp2_with fail
  refine (HSB.out _).mono ?_
  rintro e w2 ⟨rfl, hb⟩
  have hB2 := hB1.next hb
  have HSz := Lib.hid (Nat.le_trans HSz.out hb.size)
  clear c_W z_W c_v z_v hb hB1
  go_upto_region 5 with fail
  have hB3 := hB2.new rfl (rB S)
  have HSz := Lib.hid (show _ ≤ (w2.alloc (rB S)).heap.size from Nat.le_trans HSz.out (by simp))
  clear hB2
  generalize w2.heap.size = gR at *
  generalize w2.alloc _ = w3 at *
  have c_rest := fun j => cell_of_row _ _ j _ _ _ (hB3.get 0 rfl)
  have z_rest := hB3.lt 0 rfl
  have c_v := fun j => cell_of_row _ _ j _ _ _ (hB3.get 4 rfl)
  have z_v := hB3.lt 4 rfl
  have f_v := fun j => frozen_of_row _ _ j _ _ (hB3.get 4 rfl)
  have c_lt := fun j => cell_of_row _ _ j _ _ _ (hB3.get 5 rfl)
  have z_lt := hB3.lt 5 rfl
  have f_lt := fun j => frozen_of_row _ _ j _ _ (hB3.get 5 rfl)
  have n1 := hB3.ne 5 4 rfl rfl (by decide)
  have n2 := hB3.ne 4 5 rfl rfl (by decide)
  simp only at n1 n2
  go_upto_region 6 with fail
  have hB4 := (hB3.put 4 rfl S).putE 5 rfl 6
  have HSz := Lib.hid (show _ ≤ (((w3.setCell ⟨gV, 0, none⟩ (.int .i64 S.n)).setCell ⟨gV, 1, none⟩ (.int .i64 S.d)).setCell ⟨gL, 0, none⟩ (.int .i64 6)).heap.size from Nat.le_trans HSz.out (by simp))
  clear c_rest z_rest c_v z_v f_v c_lt z_lt f_lt hB3
  generalize ((w3.setCell _ _).setCell _ _).setCell _ _ = w4 at *
  by_cases hs : SC = 0
  · have sq : (SC != 0) = false := by simpa using hs
    have HE := Lib.hid hB4.drop.drop.drop.drop
    have HZ := Lib.hid hs
    clear hB4 hs
    go_wp2_with fail
    go_ret
    exact ⟨ret_bool rfl, by first | exact HE.out | (rw [if_neg (by have := HZ.out; omega)]; exact HE.out), HSz.out⟩
  have sq : (SC != 0) = true := by simpa using hs
  have HZ := Lib.hid hs
  clear hs
  have c_lt := fun j => cell_of_row _ _ j _ _ _ (hB4.get 5 rfl)
  have z_lt := hB4.lt 5 rfl
  have f_lt := fun j => frozen_of_row _ _ j _ _ (hB4.get 5 rfl)
  have HE := Lib.hid (hB4.putE 5 rfl SC).drop.drop.drop.drop
  have HSz := Lib.hid (show _ ≤ (w4.setCell ⟨gL, 0, none⟩ (.int .i64 SC)).heap.size from Nat.le_trans HSz.out (by simp))
  clear hB4
  go_wp2_with fail
  go_ret
  exact ⟨ret_bool (by first | exact sq | rfl), by first | exact HE.out | (rw [if_pos HZ.out]; exact HE.out), HSz.out⟩
set_option maxRecDepth 100000 in
set_option maxHeartbeats 8000000 in
theorem visit_done (fr un W v ot : Rt) (d lt : Int) (gV gL gU : Nat) (M : List (Nat × Obj)) (wb w0 : World) (hv : v.Ok) (hW : W.Ok) (hf : fr.Ok) (h0 : 0 < d) (h1 : d ≤ 12) (hl : ltB W v = false) (h : Bx wb ((gV, rB v) :: (gL, eB lt) :: (gU, rB ot) :: M) w0) :
    Calls Try.prog 91 #[rV fr, rV un, rV W, .int .i64 d, ptrV gV, ptrV gL, ptrV gU] w0 fun e w' => e = .returned (.bool true) ∧ Bx wb ((gV, rB v) :: (gL, eB (if divC v ⟨d, 1⟩ ≠ 0 then divC v ⟨d, 1⟩ else addC fr (divR v ⟨d, 1⟩))) :: (gU, rB (if divC v ⟨d, 1⟩ ≠ 0 then ot else addR fr (divR v ⟨d, 1⟩))) :: M) w' ∧ w0.heap.size ≤ w'.heap.size := by
  have hBb : Bx wb ((w0.heap.size + 1 + 1, rB W) :: (w0.heap.size + 1, rB un) :: (w0.heap.size, rB fr) :: (gV, rB v) :: (gL, eB lt) :: (gU, rB ot) :: M) (((w0.alloc (rB fr)).alloc (rB un)).alloc (rB W)) := ((h.new rfl _).new (by simp) _).new (by simp) _
  have HSz := Lib.hid (show w0.heap.size ≤ (((w0.alloc (rB fr)).alloc (rB un)).alloc (rB W)).heap.size by simp <;> omega)
  clear h
  have HD := Lib.hid (len_ok (n := d) (by omega) (by omega))
  have HLT := Lib.hid (fun (X : World) => cless_any W v hW hv X)
  have HDV := Lib.hid (fun (X : World) => rdiv_any v ⟨d, 1⟩ hv.wf HD.out.wf X)
  have hds := div_step hv HD.out (show d ≠ 0 by omega)
  have HFr := Lib.hid hf
  rw [hl] at HLT
  have dq : (d == 0) = false := by simp; omega
  generalize divR v ⟨d, 1⟩ = S at *
  generalize divC v ⟨d, 1⟩ = SC at *
  clear hl hv hW h0 h1 hf
  go_enter Try.func91, Try.ntmps91
  go_upto_region 1 with fail
  generalize hwb : ((w0.alloc (rB fr)).alloc (rB un)).alloc (rB W) = w1 at *
  clear hwb
  generalize w0.heap.size + 1 + 1 = g9 at *
  generalize w0.heap.size + 1 = g8 at *
  have c_W := fun j => cell_of_row _ _ j _ _ _ (hBb.get 0 rfl)
  have z_W := hBb.lt 0 rfl
  have c_v := fun j => cell_of_row _ _ j _ _ _ (hBb.get 3 rfl)
  have z_v := hBb.lt 3 rfl
  go_wp2_with fail
  refine (HLT.out _).mono ?_
  rintro e w1 ⟨rfl, hb⟩
  have hB1 := hBb.next hb
  have HSz := Lib.hid (Nat.le_trans HSz.out hb.size)
  clear c_W z_W c_v z_v hb hBb
  have HSb := HSz.out
  clear HSz
  have HSz := Lib.hid HSb
  clear HSb
  go_upto_region 9 with fail
  refine wp_region_flow 10 (by kernel_rfl) (by rfl) (fun wq hbq => ?_)
  have hB2q := hB1.next hbq
  have HSz := Lib.hid (Nat.le_trans HSz.out hbq.size)
  clear hB1
  refine wpAnyE_go (w0 := wq) (w1 := wq) (X := []) (fun _ h => h) (RK.start _) [0, 1, 2, 3, 4, 5, 6] 3 (by kernel_rfl) ?_
  apply Exists.intro
  refine ⟨fun G hG hN => ?_, ?_⟩
  · have c_v := fun (e : GE (RK wq wq []) G) j => cell_of_row e.w _ j _ _ _ ((hB2q.next (RK.b (GE.h e))).get 3 rfl)
    have z_v := fun (e : GE (RK wq wq []) G) => ((hB2q.next (RK.b (GE.h e))).lt 3 rfl)
    simp only [pickOps, List.getElem?_toArray, List.getElem?_cons_zero, List.getElem?_cons_succ]
    repeat (first | go_big_quiet_step ((first | (go_at_call 83; exact calls_ge (RK.grows _ _ _) hG (whole_any _ _)) | (go_at_call 93; exact calls_ge (RK.grows _ _ _) hG (HDV.out _)))) | quiet_step ((first | (go_at_call 83; exact calls_ge (RK.grows _ _ _) hG (whole_any _ _)) | (go_at_call 93; exact calls_ge (RK.grows _ _ _) hG (HDV.out _)))))
    exact wpQuiet_nil rfl
  refine wpAnyE_all (rs := [7]) (by kernel_rfl) (by simp) (fun Wa hWa hRWa i hi => ?_)
  obtain rfl := List.mem_singleton.1 hi
  refine wpOp_step rfl (fun K hK => ?_)
  go_simp
  refine hK _ _ ⟨hRWa.grow (one_alloc _ _), ?_⟩
  clear hK K
  have hxa := heap_new (w := Wa) (o := rB ⟨0, 0⟩) rfl
  have hza : wq.heap.size ≤ Wa.heap.size := hRWa.b.size
  refine wpAnyE_all (rs := [8]) (by kernel_rfl) (by simp) (fun Wb hWb hRWb i hi => ?_)
  obtain rfl := List.mem_singleton.1 hi
  have hxb := heap_ext hxa hWb
  have ck := fun j => cell_of_row _ _ j _ _ _ hxb
  have fk := fun j => frozen_of_row _ _ j _ _ hxb
  have zk := lt_some hxb
  refine wpOp_step rfl (fun K hK => ?_)
  go_simp
  refine hK _ _ ⟨(hRWb.set hza (Or.inr hza)).set hza (Or.inr hza), ?_⟩
  clear hK K
  clear ck fk zk
  have hxc := heap_set (j := 1) (u := .int .i64 (S).d) (heap_set (j := 0) (u := .int .i64 (S).n) hxb)
  have hsc := (hRWb.set hza (Or.inr hza) (j := 0) (u := .int .i64 (S).n)).set hza (Or.inr hza) (j := 1) (u := .int .i64 (S).d)
  generalize (Wb.setCell _ _).setCell _ _ = Wd at *
  refine wpAnyE_go (w0 := wq) (w1 := Wd) (X := []) (RK.move hsc (by simp)) (RK.here hsc) [9] 0 (by kernel_rfl) ?_
  apply Exists.intro
  refine ⟨fun G hG hN => ?_, ?_⟩
  · simp only [pickOps, List.getElem?_toArray, List.getElem?_cons_zero, List.getElem?_cons_succ]
    repeat (first | go_big_quiet_step (fail) | quiet_step (fail))
    exact wpQuiet_nil rfl
  refine wpAnyE_done (by kernel_rfl) (fun Wc hWc hRWc => ?_) _
  refine NoPanic.normal ?_
  have hB2 : Bx wb ((Wa.heap.size, rB (S)) :: _) Wc := hB2q.add hRWc.b hza (heap_ext hxc hWc)
  have HSz := Lib.hid (Nat.le_trans HSz.out hRWc.b.size)
  clear hB2q hxa hxb hxc hWb hWc hRWa hRWb hRWc hza hWa hbq
  generalize Wa.heap.size = gS at *
  generalize Wc = w2 at *
  rcases hds with ⟨k1, k2, k3⟩ | k1
  rotate_left
  · have sq : (SC == 0) = false := by simp; omega
    have HZ := Lib.hid (show SC ≠ 0 by omega)
    clear k1
    have c_lt := fun j => cell_of_row _ _ j _ _ _ (hB2.get 5 rfl)
    have z_lt := hB2.lt 5 rfl
    have f_lt := fun j => frozen_of_row _ _ j _ _ (hB2.get 5 rfl)
    have HE := Lib.hid (hB2.putE 5 rfl SC).drop.drop.drop.drop
    have HSz := Lib.hid (show _ ≤ (w2.setCell ⟨gL, 0, none⟩ (.int .i64 SC)).heap.size from Nat.le_trans HSz.out (by simp))
    clear hB2
    go_wp2_with fail
    go_ret
    exact ⟨rfl, by first | exact HE.out | (rw [if_pos HZ.out, if_pos HZ.out]; exact HE.out), HSz.out⟩
  have sq : (SC == 0) = true := by rw [k1]; rfl
  have HZ := Lib.hid k1
  have HAD := Lib.hid (fun (X : World) => radd_any fr S HFr.out.wf k2.wf X)
  clear k1 k2 k3
  obtain ⟨T, hT⟩ : ∃ x, x = addR fr S := ⟨_, rfl⟩
  obtain ⟨TC, hTC⟩ : ∃ x, x = addC fr S := ⟨_, rfl⟩
  rw [← hT, ← hTC] at HAD
  have HT := Lib.hid hT
  have HTC := Lib.hid hTC
  clear hT hTC
  have c_step := fun j => cell_of_row _ _ j _ _ _ (hB2.get 0 rfl)
  have z_step := hB2.lt 0 rfl
  have c_fr := fun j => cell_of_row _ _ j _ _ _ (hB2.get 3 rfl)
  have z_fr := hB2.lt 3 rfl
  go_wp2_with fail
  refine (HAD.out _).mono ?_
  rintro e w3 ⟨rfl, hb⟩
  have hB3 := hB2.next hb
  have HSz := Lib.hid (Nat.le_trans HSz.out hb.size)
  clear c_step z_step c_fr z_fr hb hB2
  have c_ot := fun j => cell_of_row _ _ j _ _ _ (hB3.get 6 rfl)
  have z_ot := hB3.lt 6 rfl
  have f_ot := fun j => frozen_of_row _ _ j _ _ (hB3.get 6 rfl)
  go_upto_region 12 with fail
  have hB4 := hB3.put 6 rfl (T)
  have HSz := Lib.hid (show _ ≤ ((w3.setCell ⟨gU, 0, none⟩ (.int .i64 (T).n)).setCell ⟨gU, 1, none⟩ (.int .i64 (T).d)).heap.size from Nat.le_trans HSz.out (by simp))
  clear c_ot z_ot f_ot hB3
  generalize (w3.setCell _ _).setCell _ _ = w4 at *
  have c_lt := fun j => cell_of_row _ _ j _ _ _ (hB4.get 5 rfl)
  have z_lt := hB4.lt 5 rfl
  have f_lt := fun j => frozen_of_row _ _ j _ _ (hB4.get 5 rfl)
  have HE := Lib.hid (hB4.putE 5 rfl TC).drop.drop.drop.drop
  have HSz := Lib.hid (show _ ≤ (w4.setCell ⟨gL, 0, none⟩ (.int .i64 TC)).heap.size from Nat.le_trans HSz.out (by simp))
  clear hB4
  go_wp2_with fail
  go_ret
  exact ⟨rfl, by first | (rw [← HT.out, ← HTC.out]; exact HE.out) | (rw [if_neg (by have := HZ.out; omega), if_neg (by have := HZ.out; omega), ← HT.out, ← HTC.out]; exact HE.out), HSz.out⟩
end Go.Proofs.Ytgcbmnohhbcfiaa
