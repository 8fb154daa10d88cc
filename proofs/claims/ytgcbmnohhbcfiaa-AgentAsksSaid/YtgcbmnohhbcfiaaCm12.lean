/- Mark of cakes: what is done at each piece. -/
import Derived.Test.YtgcbmnohhbcfiaaCkX
import Derived.Test.YtgcbmnohhbcfiaaCm7
import Derived.Test.YtgcbmnohhbcfiaaCm10
namespace Go.Proofs.Ytgcbmnohhbcfiaa
open Go.RowKit Go.Deep
set_option linter.unusedVariables false
set_option linter.unusedSimpArgs false

abbrev ptrV (g : Nat) : Value := .pointer (some ⟨g, 0, none⟩)
set_option maxRecDepth 100000 in
set_option maxHeartbeats 8000000 in
theorem visit_zero (fr un W v ot : Rt) (d lt : Int) (gV gL gU : Nat) (M : List (Nat × Obj)) (wb w0 : World)  (h : Bx wb ((gV, rB v) :: (gL, eB lt) :: (gU, rB ot) :: M) w0) :
    Calls Try.prog 91 #[rV fr, rV un, rV W, .int .i64 0, ptrV gV, ptrV gL, ptrV gU] w0 fun e w' => e = .returned (.bool false) ∧ Bx wb ((gV, rB v) :: (gL, eB lt) :: (gU, rB ot) :: M) w' ∧ w0.heap.size ≤ w'.heap.size := by
  have hBb : Bx wb ((w0.heap.size + 1 + 1, rB W) :: (w0.heap.size + 1, rB un) :: (w0.heap.size, rB fr) :: (gV, rB v) :: (gL, eB lt) :: (gU, rB ot) :: M) (((w0.alloc (rB fr)).alloc (rB un)).alloc (rB W)) := ((h.new rfl _).new (by simp) _).new (by simp) _
  have HSz := Lib.hid (show w0.heap.size ≤ (((w0.alloc (rB fr)).alloc (rB un)).alloc (rB W)).heap.size by simp <;> omega)
  clear h
  go_enter Try.func91, Try.ntmps91
  go_upto_region 1 with fail
  generalize hwb : ((w0.alloc (rB fr)).alloc (rB un)).alloc (rB W) = w1 at *
  clear hwb
  generalize w0.heap.size + 1 + 1 = g9 at *
  generalize w0.heap.size + 1 = g8 at *
  go_wp2_with fail
  go_ret
  exact ⟨rfl, hBb.drop.drop.drop, HSz.out⟩
set_option maxRecDepth 100000 in
set_option maxHeartbeats 8000000 in
theorem visit_less (fr un W v ot : Rt) (d lt : Int) (gV gL gU : Nat) (M : List (Nat × Obj)) (wb w0 : World) (hv : v.Ok) (hW : W.Ok) (hl : ltB W v = true) (hd : d ≠ 0) (h : Bx wb ((gV, rB v) :: (gL, eB lt) :: (gU, rB ot) :: M) w0) :
    Calls Try.prog 91 #[rV fr, rV un, rV W, .int .i64 d, ptrV gV, ptrV gL, ptrV gU] w0 fun e w' => e = .returned (.bool (subC v W != 0)) ∧ Bx wb ((gV, rB (subR v W)) :: (gL, eB (if subC v W ≠ 0 then subC v W else 6)) :: (gU, rB ot) :: M) w' ∧ w0.heap.size ≤ w'.heap.size := by
  have hBb : Bx wb ((w0.heap.size + 1 + 1, rB W) :: (w0.heap.size + 1, rB un) :: (w0.heap.size, rB fr) :: (gV, rB v) :: (gL, eB lt) :: (gU, rB ot) :: M) (((w0.alloc (rB fr)).alloc (rB un)).alloc (rB W)) := ((h.new rfl _).new (by simp) _).new (by simp) _
  have HSz := Lib.hid (show w0.heap.size ≤ (((w0.alloc (rB fr)).alloc (rB un)).alloc (rB W)).heap.size by simp <;> omega)
  clear h
  have HLT := Lib.hid (fun (X : World) => cless_any W v hW hv X)
  have HSB := Lib.hid (fun (X : World) => rsub_any v W hv.wf hW.wf X)
  rw [hl] at HLT
  have dq : (d == 0) = false := by simpa using hd
  generalize subR v W = S at *
  generalize subC v W = SC at *
  clear hl hv hW hd
  go_enter Try.func91, Try.ntmps91
  go_upto_region 1 with fail
  generalize hwb : ((w0.alloc (rB fr)).alloc (rB un)).alloc (rB W) = w1 at *
  clear hwb
  generalize w0.heap.size + 1 + 1 = g9 at *
  generalize w0.heap.size + 1 = g8 at *
  have c_W := fun j => cell_of_row _ _ j _ _ _ (hBb.get 0 rfl)
  have z_W := hBb.lt 0 rfl
  have c_v := fun j => cell_of_row _ _ j _ _ _ (hBb.get 3 rfl)
  have z_v := hBb.lt 3 rfl
  go_wp2_with fail
  refine (HLT.out _).mono ?_
  rintro e w1 ⟨rfl, hb⟩
  have hB1 := hBb.next hb
  have HSz := Lib.hid (Nat.le_trans HSz.out hb.size)
  clear c_W z_W c_v z_v hb hBb
  have c_W := fun j => cell_of_row _ _ j _ _ _ (hB1.get 0 rfl)
  have z_W := hB1.lt 0 rfl
  have c_v := fun j => cell_of_row _ _ j _ _ _ (hB1.get 3 rfl)
  have z_v := hB1.lt 3 rfl
  go_wp2_with fail
  refine (HSB.out _).mono ?_
  rintro e w2 ⟨rfl, hb⟩
  have hB2 := hB1.next hb
  have HSz := Lib.hid (Nat.le_trans HSz.out hb.size)
  clear c_W z_W c_v z_v hb hB1
  go_upto_region 5 with fail
  have hB3 := hB2.new rfl (rB S)
  have HSz := Lib.hid (show _ ≤ (w2.alloc (rB S)).heap.size from Nat.le_trans HSz.out (by simp))
  clear hB2
  generalize w2.heap.size = gR at *
  generalize w2.alloc _ = w3 at *
  have c_rest := fun j => cell_of_row _ _ j _ _ _ (hB3.get 0 rfl)
  have z_rest := hB3.lt 0 rfl
  have c_v := fun j => cell_of_row _ _ j _ _ _ (hB3.get 4 rfl)
  have z_v := hB3.lt 4 rfl
  have f_v := fun j => frozen_of_row _ _ j _ _ (hB3.get 4 rfl)
  have c_lt := fun j => cell_of_row _ _ j _ _ _ (hB3.get 5 rfl)
  have z_lt := hB3.lt 5 rfl
  have f_lt := fun j => frozen_of_row _ _ j _ _ (hB3.get 5 rfl)
  have n1 := hB3.ne 5 4 rfl rfl (by decide)
  have n2 := hB3.ne 4 5 rfl rfl (by decide)
  simp only at n1 n2
  go_upto_region 6 with fail
  have hB4 := (hB3.put 4 rfl S).putE 5 rfl 6
  have HSz := Lib.hid (show _ ≤ (((w3.setCell ⟨gV, 0, none⟩ (.int .i64 S.n)).setCell ⟨gV, 1, none⟩ (.int .i64 S.d)).setCell ⟨gL, 0, none⟩ (.int .i64 6)).heap.size from Nat.le_trans HSz.out (by simp))
  clear c_rest z_rest c_v z_v f_v c_lt z_lt f_lt hB3
  generalize ((w3.setCell _ _).setCell _ _).setCell _ _ = w4 at *
  by_cases hs : SC = 0
  · have sq : (SC != 0) = false := by simpa using hs
    have HE := Lib.hid hB4.drop.drop.drop.drop
    have HZ := Lib.hid hs
    clear hB4 hs
    go_wp2_with fail
    go_ret
    exact ⟨ret_bool rfl, by first | exact HE.out | (rw [if_neg (by have := HZ.out; omega)]; exact HE.out), HSz.out⟩
  have sq : (SC != 0) = true := by simpa using hs
  have HZ := Lib.hid hs
  clear hs
  have c_lt := fun j => cell_of_row _ _ j _ _ _ (hB4.get 5 rfl)
  have z_lt := hB4.lt 5 rfl
  have f_lt := fun j => frozen_of_row _ _ j _ _ (hB4.get 5 rfl)
  have HE := Lib.hid (hB4.putE 5 rfl SC).drop.drop.drop.drop
  have HSz := Lib.hid (show _ ≤ (w4.setCell ⟨gL, 0, none⟩ (.int .i64 SC)).heap.size from Nat.le_trans HSz.out (by simp))
  clear hB4
  go_wp2_with fail
  go_ret
  exact ⟨ret_bool (by first | exact sq | rfl), by first | exact HE.out | (rw [if_pos HZ.out]; exact HE.out), HSz.out⟩
set_option maxRecDepth 100000 in
set_option maxHeartbeats 8000000 in
theorem visit_done (fr un W v ot : Rt) (d lt : Int) (gV gL gU : Nat) (M : List (Nat × Obj)) (wb w0 : World) (hv : v.Ok) (hW : W.Ok) (hf : fr.Ok) (h0 : 0 < d) (h1 : d ≤ 12) (hl : ltB W v = false) (h : Bx wb ((gV, rB v) :: (gL, eB lt) :: (gU, rB ot) :: M) w0) :
    Calls Try.prog 91 #[rV fr, rV un, rV W, .int .i64 d, ptrV gV, ptrV gL, ptrV gU] w0 fun e w' => e = .returned (.bool true) ∧ Bx wb ((gV, rB v) :: (gL, eB (if divC v ⟨d, 1⟩ ≠ 0 then divC v ⟨d, 1⟩ else addC fr (divR v ⟨d, 1⟩))) :: (gU, rB (if divC v ⟨d, 1⟩ ≠ 0 then ot else addR fr (divR v ⟨d, 1⟩))) :: M) w' ∧ w0.heap.size ≤ w'.heap.size := by
  have hBb : Bx wb ((w0.heap.size + 1 + 1, rB W) :: (w0.heap.size + 1, rB un) :: (w0.heap.size, rB fr) :: (gV, rB v) :: (gL, eB lt) :: (gU, rB ot) :: M) (((w0.alloc (rB fr)).alloc (rB un)).alloc (rB W)) := ((h.new rfl _).new (by simp) _).new (by simp) _
  have HSz := Lib.hid (show w0.heap.size ≤ (((w0.alloc (rB fr)).alloc (rB un)).alloc (rB W)).heap.size by simp <;> omega)
  clear h
  have HD := Lib.hid (len_ok (n := d) (by omega) (by omega))
  have HLT := Lib.hid (fun (X : World) => cless_any W v hW hv X)
  have HDV := Lib.hid (fun (X : World) => rdiv_any v ⟨d, 1⟩ hv.wf HD.out.wf X)
  have hds := div_step hv HD.out (show d ≠ 0 by omega)
  have HFr := Lib.hid hf
  rw [hl] at HLT
  have dq : (d == 0) = false := by simp; omega
  generalize divR v ⟨d, 1⟩ = S at *
  generalize divC v ⟨d, 1⟩ = SC at *
  clear hl hv hW h0 h1 hf
  go_enter Try.func91, Try.ntmps91
  go_upto_region 1 with fail
  generalize hwb : ((w0.alloc (rB fr)).alloc (rB un)).alloc (rB W) = w1 at *
  clear hwb
  generalize w0.heap.size + 1 + 1 = g9 at *
  generalize w0.heap.size + 1 = g8 at *
  have c_W := fun j => cell_of_row _ _ j _ _ _ (hBb.get 0 rfl)
  have z_W := hBb.lt 0 rfl
  have c_v := fun j => cell_of_row _ _ j _ _ _ (hBb.get 3 rfl)
  have z_v := hBb.lt 3 rfl
  go_wp2_with fail
  refine (HLT.out _).mono ?_
  rintro e w1 ⟨rfl, hb⟩
  have hB1 := hBb.next hb
  have HSz := Lib.hid (Nat.le_trans HSz.out hb.size)
  clear c_W z_W c_v z_v hb hBb
  have HSb := HSz.out
  clear HSz
  have HSz := Lib.hid HSb
  clear HSb
  go_upto_region 9 with fail
  refine wp_region_flow 10 (by kernel_rfl) (by rfl) (fun wq hbq => ?_)
  have hB2q := hB1.next hbq
  have HSz := Lib.hid (Nat.le_trans HSz.out hbq.size)
  clear hB1
  refine wpAnyE_go (w0 := wq) (w1 := wq) (X := []) (fun _ h => h) (RK.start _) [0, 1, 2, 3, 4, 5, 6] 3 (by kernel_rfl) ?_
  apply Exists.intro
  refine ⟨fun G hG hN => ?_, ?_⟩
  · have c_v := fun (e : GE (RK wq wq []) G) j => cell_of_row e.w _ j _ _ _ ((hB2q.next (RK.b (GE.h e))).get 3 rfl)
    have z_v := fun (e : GE (RK wq wq []) G) => ((hB2q.next (RK.b (GE.h e))).lt 3 rfl)
    simp only [pickOps, List.getElem?_toArray, List.getElem?_cons_zero, List.getElem?_cons_succ]
    repeat (first | go_big_quiet_step ((first | (go_at_call 83; exact calls_ge (RK.grows _ _ _) hG (whole_any _ _)) | (go_at_call 93; exact calls_ge (RK.grows _ _ _) hG (HDV.out _)))) | quiet_step ((first | (go_at_call 83; exact calls_ge (RK.grows _ _ _) hG (whole_any _ _)) | (go_at_call 93; exact calls_ge (RK.grows _ _ _) hG (HDV.out _)))))
    exact wpQuiet_nil rfl
  refine wpAnyE_all (rs := [7]) (by kernel_rfl) (by simp) (fun Wa hWa hRWa i hi => ?_)
  obtain rfl := List.mem_singleton.1 hi
  refine wpOp_step rfl (fun K hK => ?_)
  go_simp
  refine hK _ _ ⟨hRWa.grow (one_alloc _ _), ?_⟩
  clear hK K
  have hxa := heap_new (w := Wa) (o := rB ⟨0, 0⟩) rfl
  have hza : wq.heap.size ≤ Wa.heap.size := hRWa.b.size
  refine wpAnyE_all (rs := [8]) (by kernel_rfl) (by simp) (fun Wb hWb hRWb i hi => ?_)
  obtain rfl := List.mem_singleton.1 hi
  have hxb := heap_ext hxa hWb
  have ck := fun j => cell_of_row _ _ j _ _ _ hxb
  have fk := fun j => frozen_of_row _ _ j _ _ hxb
  have zk := lt_some hxb
  refine wpOp_step rfl (fun K hK => ?_)
  go_simp
  refine hK _ _ ⟨(hRWb.set hza (Or.inr hza)).set hza (Or.inr hza), ?_⟩
  clear hK K
  clear ck fk zk
  have hxc := heap_set (j := 1) (u := .int .i64 (S).d) (heap_set (j := 0) (u := .int .i64 (S).n) hxb)
  have hsc := (hRWb.set hza (Or.inr hza) (j := 0) (u := .int .i64 (S).n)).set hza (Or.inr hza) (j := 1) (u := .int .i64 (S).d)
  generalize (Wb.setCell _ _).setCell _ _ = Wd at *
  refine wpAnyE_go (w0 := wq) (w1 := Wd) (X := []) (RK.move hsc (by simp)) (RK.here hsc) [9] 0 (by kernel_rfl) ?_
  apply Exists.intro
  refine ⟨fun G hG hN => ?_, ?_⟩
  · simp only [pickOps, List.getElem?_toArray, List.getElem?_cons_zero, List.getElem?_cons_succ]
    repeat (first | go_big_quiet_step (fail) | quiet_step (fail))
    exact wpQuiet_nil rfl
  refine wpAnyE_done (by kernel_rfl) (fun Wc hWc hRWc => ?_) _
  refine NoPanic.normal ?_
  have hB2 : Bx wb ((Wa.heap.size, rB (S)) :: _) Wc := hB2q.add hRWc.b hza (heap_ext hxc hWc)
  have HSz := Lib.hid (Nat.le_trans HSz.out hRWc.b.size)
  clear hB2q hxa hxb hxc hWb hWc hRWa hRWb hRWc hza hWa hbq
  generalize Wa.heap.size = gS at *
  generalize Wc = w2 at *
  rcases hds with ⟨k1, k2, k3⟩ | k1
  rotate_left
  · have sq : (SC == 0) = false := by simp; omega
    have HZ := Lib.hid (show SC ≠ 0 by omega)
    clear k1
    have c_lt := fun j => cell_of_row _ _ j _ _ _ (hB2.get 5 rfl)
    have z_lt := hB2.lt 5 rfl
    have f_lt := fun j => frozen_of_row _ _ j _ _ (hB2.get 5 rfl)
    have HE := Lib.hid (hB2.putE 5 rfl SC).drop.drop.drop.drop
    have HSz := Lib.hid (show _ ≤ (w2.setCell ⟨gL, 0, none⟩ (.int .i64 SC)).heap.size from Nat.le_trans HSz.out (by simp))
    clear hB2
    go_wp2_with fail
    go_ret
    exact ⟨rfl, by first | exact HE.out | (rw [if_pos HZ.out, if_pos HZ.out]; exact HE.out), HSz.out⟩
  have sq : (SC == 0) = true := by rw [k1]; rfl
  have HZ := Lib.hid k1
  have HAD := Lib.hid (fun (X : World) => radd_any fr S HFr.out.wf k2.wf X)
  clear k1 k2 k3
  obtain ⟨T, hT⟩ : ∃ x, x = addR fr S := ⟨_, rfl⟩
  obtain ⟨TC, hTC⟩ : ∃ x, x = addC fr S := ⟨_, rfl⟩
  rw [← hT, ← hTC] at HAD
  have HT := Lib.hid hT
  have HTC := Lib.hid hTC
  clear hT hTC
  have c_step := fun j => cell_of_row _ _ j _ _ _ (hB2.get 0 rfl)
  have z_step := hB2.lt 0 rfl
  have c_fr := fun j => cell_of_row _ _ j _ _ _ (hB2.get 3 rfl)
  have z_fr := hB2.lt 3 rfl
  go_wp2_with fail
  refine (HAD.out _).mono ?_
  rintro e w3 ⟨rfl, hb⟩
  have hB3 := hB2.next hb
  have HSz := Lib.hid (Nat.le_trans HSz.out hb.size)
  clear c_step z_step c_fr z_fr hb hB2
  have c_ot := fun j => cell_of_row _ _ j _ _ _ (hB3.get 6 rfl)
  have z_ot := hB3.lt 6 rfl
  have f_ot := fun j => frozen_of_row _ _ j _ _ (hB3.get 6 rfl)
  go_upto_region 12 with fail
  have hB4 := hB3.put 6 rfl (T)
  have HSz := Lib.hid (show _ ≤ ((w3.setCell ⟨gU, 0, none⟩ (.int .i64 (T).n)).setCell ⟨gU, 1, none⟩ (.int .i64 (T).d)).heap.size from Nat.le_trans HSz.out (by simp))
  clear c_ot z_ot f_ot hB3
  generalize (w3.setCell _ _).setCell _ _ = w4 at *
  have c_lt := fun j => cell_of_row _ _ j _ _ _ (hB4.get 5 rfl)
  have z_lt := hB4.lt 5 rfl
  have f_lt := fun j => frozen_of_row _ _ j _ _ (hB4.get 5 rfl)
  have HE := Lib.hid (hB4.putE 5 rfl TC).drop.drop.drop.drop
  have HSz := Lib.hid (show _ ≤ (w4.setCell ⟨gL, 0, none⟩ (.int .i64 TC)).heap.size from Nat.le_trans HSz.out (by simp))
  clear hB4
  go_wp2_with fail
  go_ret
  exact ⟨rfl, by first | (rw [← HT.out, ← HTC.out]; exact HE.out) | (rw [if_neg (by have := HZ.out; omega), if_neg (by have := HZ.out; omega), ← HT.out, ← HTC.out]; exact HE.out), HSz.out⟩
end Go.Proofs.Ytgcbmnohhbcfiaa

namespace Go.Proofs.Ytgcbmnohhbcfiaa
open Go.RowKit Go.Deep
set_option linter.unusedVariables false
set_option linter.unusedSimpArgs false

theorem mTo_stay {K : Ck} {a v : Rt} {i : Nat} (h : (K.mTo a v i).stop = true) : ∀ k, i ≤ k → K.mTo a v k = K.mTo a v i
  | 0, hk => by have : i = 0 := by omega
                subst this; rfl
  | k + 1, hk => by
    by_cases e : i = k + 1
    · subst e; rfl
    · have ih := mTo_stay h k (by omega)
      show K.mStep k (K.mTo a v k) = _
      unfold Ck.mStep
      rw [if_pos (by rw [ih]; exact h)]; exact ih
section
variable {K : Ck} {k : Nat} {s : MS} {M : Rt}
theorem mStep_skip (h : s.stop = false) (l : ltB s.at_ ⟨gi K.cuts (k + 1), 1⟩ = false) : K.mStep k s = s := by unfold Ck.mStep; rw [if_neg (by rw [h]; decide), if_pos l]
theorem mStep_zero (h : s.stop = false) (l : ltB s.at_ ⟨gi K.cuts (k + 1), 1⟩ = true) (d : gi K.dens k = 0) : K.mStep k s = { s with at_ := ⟨gi K.cuts (k + 1), 1⟩ } := by
  unfold Ck.mStep; rw [if_neg (by rw [h]; decide), if_neg (by rw [l]; decide), if_pos d]
theorem mStep_e1 (h : s.stop = false) (l : ltB s.at_ ⟨gi K.cuts (k + 1), 1⟩ = true) (d : gi K.dens k ≠ 0) (q : pieceC s.at_ ⟨gi K.cuts (k + 1), 1⟩ (gi K.dens k) ≠ 0) : K.mStep k s = { s with late := pieceC s.at_ ⟨gi K.cuts (k + 1), 1⟩ (gi K.dens k), stop := true } := by
  unfold Ck.mStep; rw [if_neg (by rw [h]; decide), if_neg (by rw [l]; decide), if_neg d, if_pos q]
theorem mStep_less (h : s.stop = false) (l : ltB s.at_ ⟨gi K.cuts (k + 1), 1⟩ = true) (d : gi K.dens k ≠ 0) (q : pieceC s.at_ ⟨gi K.cuts (k + 1), 1⟩ (gi K.dens k) = 0) (hM : pieceR s.at_ ⟨gi K.cuts (k + 1), 1⟩ (gi K.dens k) = M) (r : ltB M s.v = true) :
    K.mStep k s = if subC s.v M ≠ 0 then { s with late := subC s.v M, stop := true } else { s with at_ := ⟨gi K.cuts (k + 1), 1⟩, v := subR s.v M, late := 6 } := by
  subst hM
  unfold Ck.mStep; rw [if_neg (by rw [h]; decide), if_neg (by rw [l]; decide), if_neg d, if_neg (by omega), if_pos r]
theorem mStep_done (h : s.stop = false) (l : ltB s.at_ ⟨gi K.cuts (k + 1), 1⟩ = true) (d : gi K.dens k ≠ 0) (q : pieceC s.at_ ⟨gi K.cuts (k + 1), 1⟩ (gi K.dens k) = 0) (hM : pieceR s.at_ ⟨gi K.cuts (k + 1), 1⟩ (gi K.dens k) = M) (r : ltB M s.v = false) :
    K.mStep k s = if divC s.v ⟨gi K.dens k, 1⟩ ≠ 0 then { s with late := divC s.v ⟨gi K.dens k, 1⟩, stop := true } else { s with late := addC s.at_ (divR s.v ⟨gi K.dens k, 1⟩), out := addR s.at_ (divR s.v ⟨gi K.dens k, 1⟩), stop := true } := by
  subst hM
  unfold Ck.mStep; rw [if_neg (by rw [h]; decide), if_neg (by rw [l]; decide), if_neg d, if_neg (by omega), if_neg (by rw [r]; decide)]
end

/-- How the walk ends. -/
structure WkEnd (K : Ck) (a v : Rt) (gV gL gU : Nat) (M : List (Nat × Obj)) (wb : World) (er : Int) (w' : World) : Prop where
  ex : ∃ (v' : Rt) (lt : Int) (ot : Rt), Bx wb ((gV, rB v') :: (gL, eB lt) :: (gU, rB ot) :: M) w' ∧ (if er ≠ 0 then er else lt) = (K.mTo a v K.dens.length).late ∧ ((K.mTo a v K.dens.length).late = 0 → ot = (K.mTo a v K.dens.length).out)
theorem WkEnd.mk' {K : Ck} {a v : Rt} {gV gL gU : Nat} {M : List (Nat × Obj)} {wb : World} {er : Int} {w' : World} {m : MS} {v' : Rt} {lt : Int} {ot : Rt} (hm : K.mTo a v K.dens.length = m)
    (hB : Bx wb ((gV, rB v') :: (gL, eB lt) :: (gU, rB ot) :: M) w') (h1 : (if er ≠ 0 then er else lt) = m.late) (h2 : m.late = 0 → ot = m.out) : WkEnd K a v gV gL gU M wb er w' := ⟨v', lt, ot, hB, by rw [hm]; exact h1, by rw [hm]; exact h2⟩

set_option maxRecDepth 100000 in
set_option maxHeartbeats 16000000 in
theorem cwalk_any (K : Ck) (A : Option Addr) (c : Nat) (R : Option Addr) (d : Nat) (a v : Rt) (hK : K.Ok) (ha : a.Ok) (hv : v.Ok) (a0 : 0 ≤ a.q) (v0 : 0 < v.q) (gV gL gU : Nat) (M : List (Nat × Obj)) (wb w0 : World) (hk : CIn wb.heap.size wb A c R d K)
    (h : Bx wb ((gV, rB v) :: (gL, eB 6) :: (gU, rB ⟨0, 0⟩) :: M) w0) :
    Calls Try.prog 90 #[cV A c R d K, rV a, .func (.func 91) #[] #[ptrV gV, ptrV gL, ptrV gU]] w0 fun e w' => ∃ er, e = .returned (.int .i64 er) ∧ WkEnd K a v gV gL gU M wb er w' := by
  have hB0 : Bx wb ((w0.heap.size + 1, rB a) :: (w0.heap.size, cB A c R d K) :: (gV, rB v) :: (gL, eB 6) :: (gU, rB ⟨0, 0⟩) :: M) ((w0.alloc (cB A c R d K)).alloc (rB a)) := ((h.new rfl _).new (by simp) _)
  have HH := Lib.hid hk
  have HK := Lib.hid hK
  have HMT := Lib.hid (mTo_ok hK ha hv a0 v0)
  clear h hk hK
  go_enter Try.func90, Try.ntmps90
  go_upto_region 1 with fail
  generalize hw1 : (w0.alloc (cB A c R d K)).alloc (rB a) = w1 at *
  clear hw1
  generalize w0.heap.size + 1 = gA at *
  generalize w0.heap.size = gK at *
  have c_K := fun j => cell_of_row _ _ j _ _ _ (hB0.get 1 rfl)
  have z_K := hB0.lt 1 rfl
  have n1 := HK.out.n1
  have n2 := HK.out.n2
  go_wp2_with fail
  clear c_K z_K
  have HB0 := Lib.hid hB0
  clear hB0
  go_loopw [7, 8, 9, 10, 11, 12, 16] (fun _ _ _ _ _ _ s16 wr => ∃ k : Nat, k ≤ K.dens.length ∧ s16 = .int .i64 k ∧ (K.mTo a v k).stop = false ∧ Bx wb ((gA, rB (K.mTo a v k).at_) :: (gK, cB A c R d K) :: (gV, rB (K.mTo a v k).v) :: (gL, eB (K.mTo a v k).late) :: (gU, rB (K.mTo a v k).out) :: M) wr) (fun _ _ _ _ _ _ s16 _ => K.dens.length - (intOf s16).toNat)
  case atStart => exact ⟨0, Nat.zero_le _, rfl, rfl, HB0.out⟩
  case round =>
    obtain ⟨k, hk, rfl, hst, hBr⟩ := hrel
    by_cases hlt : k < K.dens.length
    rotate_left
    · obtain rfl : k = K.dens.length := by omega
      have HE := Lib.hid (WkEnd.mk' (er := 0) rfl hBr.drop.drop (by rw [if_neg (by decide)]) (fun _ => rfl))
      clear hBr
      go_wp2_with fail
      go_ret
      exact ⟨0, rfl, HE.out⟩
    have HS := Lib.hid ((HMT.out k hk).run hst)
    have HCut := Lib.hid (HK.out.cut_ok (i := k + 1) (by omega))
    have HST := Lib.hid (show K.mTo a v (k + 1) = K.mStep k (K.mTo a v k) from rfl)
    have HSY := Lib.hid (fun (h : (K.mTo a v (k + 1)).stop = true) => mTo_stay h K.dens.length (by omega))
    have HE0 := Lib.hid hst
    have fit := HK.out.fit k hlt
    have HFit := Lib.hid fit
    have nc := HK.out.nc
    obtain ⟨s, hs⟩ : ∃ s, s = K.mTo a v k := ⟨_, rfl⟩
    rw [← hs] at HS HST HE0 hBr
    clear hs hst
    obtain ⟨ad, rfl, hb1, hc1⟩ := HH.out.cuts.at_ (show k + 1 < K.cuts.length by omega)
    obtain ⟨rd, rfl, hb2, hc2⟩ := HH.out.dens.at_ hlt
    have HF := Lib.hid (fun (W : World) (hW : Below wb.heap.size wb W) => show W.cell? ⟨ad.block, ad.off + (k + 1), none⟩ = some (.int .i64 (gi K.cuts (k + 1))) ∧ W.cell? (rd.add k) = some (.int .i64 (gi K.dens k)) from
      ⟨(hW.cell (p := ad.add (k + 1)) (by rw [block_add]; exact hb1)).trans hc1, (hW.cell (by rw [block_add]; exact hb2)).trans hc2⟩)
    clear hb1 hc1 hb2 hc2
    have z1 : (k : Int) < (K.dens.length : Int) := by omega
    have z3 : (0 : Int) ≤ (k : Int) := by omega
    have z4 : (k : Int) + 1 < (K.cuts.length : Int) := by omega
    have z5 : (0 : Int) ≤ (k : Int) + 1 := by omega
    have z6 : ((k : Int) + 1).toNat = k + 1 := by omega
    have z8 : k + 1 < K.cuts.length := by omega
    have y1 : IntKind.i64.wrap ((k : Int) + 1) = (k : Int) + 1 := IntWalk.i64_in _ (by omega)
    have y1' : wrap64 ((k : Int) + 1) = (k : Int) + 1 := IntWalk.wrap64_in _ (by omega)
    have HLE := Lib.hid (show k + 1 ≤ K.dens.length by omega)
    have HME := Lib.hid (show K.dens.length - (k + 1) < K.dens.length - k by omega)
    obtain ⟨f1, f2⟩ := HF.out wr hBr.below
    have HLA := Lib.hid (fun (W : World) => cless_any s.at_ ⟨gi K.cuts (k + 1), 1⟩ HS.out.1 HCut.out W)
    clear nc fit n1 n2
    have c_K := fun j => cell_of_row _ _ j _ _ _ (hBr.get 1 rfl)
    have z_K := hBr.lt 1 rfl
    go_wp2_with fail
    refine (whole_any _ _).mono ?_
    rintro e w21 ⟨rfl, hb⟩
    have hB21 := hBr.next hb
    clear c_K z_K hb hBr
    clear f1 f2
    go_upto_region 5 with fail
    have hB22 := hB21.new rfl (rB ⟨gi K.cuts (k + 1), 1⟩)
    clear hB21
    generalize w21.heap.size = gE at *
    generalize w21.alloc _ = w22 at *
    cases hla : ltB s.at_ ⟨gi K.cuts (k + 1), 1⟩ with
    | false =>
      have HN := Lib.hid (mStep_skip (K := K) (k := k) HE0.out hla)
      rw [hla] at HLA
      clear hla
      have c_end := fun j => cell_of_row _ _ j _ _ _ (hB22.get 0 rfl)
      have z_end := hB22.lt 0 rfl
      have c_at := fun j => cell_of_row _ _ j _ _ _ (hB22.get 1 rfl)
      have z_at := hB22.lt 1 rfl
      go_wp2_with fail
      refine (HLA.out _).mono ?_
      rintro e w23 ⟨rfl, hb⟩
      have hB23 := hB22.next hb
      clear c_end z_end c_at z_at hb hB22
      have HZ := Lib.hid hB23.drop
      clear hB23
      go_wp2_with fail
      exact ⟨⟨k + 1, HLE.out, by go_num, by rw [HST.out, HN.out]; exact HE0.out, by rw [HST.out, HN.out]; exact HZ.out⟩, by simpa [intOf] using HME.out⟩
    | true =>
    have HL := Lib.hid hla
    rw [hla] at HLA
    clear hla
    have c_end := fun j => cell_of_row _ _ j _ _ _ (hB22.get 0 rfl)
    have z_end := hB22.lt 0 rfl
    have c_at := fun j => cell_of_row _ _ j _ _ _ (hB22.get 1 rfl)
    have z_at := hB22.lt 1 rfl
    go_wp2_with fail
    refine (HLA.out _).mono ?_
    rintro e w23 ⟨rfl, hb⟩
    have hB23 := hB22.next hb
    clear c_end z_end c_at z_at hb hB22
    go_wp2_with fail
    refine (whole_any _ _).mono ?_
    rintro e w24 ⟨rfl, hb⟩
    have hB24 := hB23.next hb
    clear hb hB23
    go_upto_region 7 with fail
    have hB25 := hB24.new rfl (rB ⟨0, 1⟩)
    clear hB24
    generalize w24.heap.size = gW at *
    generalize w24.alloc _ = w25 at *
    by_cases hd : gi K.dens k = 0
    · have dq : decide (0 < gi K.dens k) = false := by simp; omega
      have HN := Lib.hid (mStep_zero (K := K) (k := k) HE0.out HL.out hd)
      have HD := Lib.hid hd
      clear hd

      go_upto_region 14 with fail
      rw [HD.out]
      have c_wor := fun j => cell_of_row _ _ j _ _ _ (hB25.get 0 rfl)
      have z_wor := hB25.lt 0 rfl
      have c_end := fun j => cell_of_row _ _ j _ _ _ (hB25.get 1 rfl)
      have z_end := hB25.lt 1 rfl
      have c_at := fun j => cell_of_row _ _ j _ _ _ (hB25.get 2 rfl)
      have z_at := hB25.lt 2 rfl
      have c_K := fun j => cell_of_row _ _ j _ _ _ (hB25.get 3 rfl)
      have z_K := hB25.lt 3 rfl
      go_wp2_with fail
      refine (visit_zero s.at_ ⟨gi K.cuts (k + 1), 1⟩ ⟨0, 1⟩ s.v s.out 0 s.late gV gL gU _ wb _ (Bx.swap (P := [_, _, _, _]) (Q := [_, _, _]) hB25)).mono ?_
      rintro e w26 ⟨rfl, hb, _⟩
      have hB26 := Bx.swap (P := [_, _, _]) (Q := [_, _, _, _]) hb
      clear c_wor z_wor c_end z_end c_at z_at c_K z_K hb hB25
      have c_end := fun j => cell_of_row _ _ j _ _ _ (hB26.get 1 rfl)
      have z_end := hB26.lt 1 rfl
      have c_at := fun j => cell_of_row _ _ j _ _ _ (hB26.get 2 rfl)
      have z_at := hB26.lt 2 rfl
      have f_at := fun j => frozen_of_row _ _ j _ _ (hB26.get 2 rfl)
      have HZ := Lib.hid ((hB26.put 2 rfl ⟨gi K.cuts (k + 1), 1⟩).drop.drop)
      clear hB26
      go_wp2_with fail
      exact ⟨⟨k + 1, HLE.out, by go_num, by rw [HST.out, HN.out]; exact HE0.out, by rw [HST.out, HN.out]; exact HZ.out⟩, by simpa [intOf] using HME.out⟩
    have dq : decide (0 < gi K.dens k) = true := by have := HFit.out; simp; omega
    have HD0 := Lib.hid hd
    clear hd
    have HSB := Lib.hid (fun (W : World) => rsub_any ⟨gi K.cuts (k + 1), 1⟩ s.at_ HCut.out.wf HS.out.1.wf W)
    have hss := sub_step HCut.out HS.out.1
    obtain ⟨LL, hLL⟩ : ∃ x, x = subR ⟨gi K.cuts (k + 1), 1⟩ s.at_ := ⟨_, rfl⟩
    obtain ⟨LC, hLC⟩ : ∃ x, x = subC ⟨gi K.cuts (k + 1), 1⟩ s.at_ := ⟨_, rfl⟩
    rw [← hLL, ← hLC] at HSB hss
    have HLC := Lib.hid hLC
    have HLL := Lib.hid hLL
    clear hLL hLC
    have c_end := fun j => cell_of_row _ _ j _ _ _ (hB25.get 1 rfl)
    have z_end := hB25.lt 1 rfl
    have c_at := fun j => cell_of_row _ _ j _ _ _ (hB25.get 2 rfl)
    have z_at := hB25.lt 2 rfl
    go_wp2_with fail
    refine (HSB.out _).mono ?_
    rintro e w26 ⟨rfl, hb⟩
    have hB26 := hB25.next hb
    clear c_end z_end c_at z_at hb hB25
    go_upto_region 9 with fail
    have hB27 := hB26.new rfl (rB LL)
    clear hB26
    generalize w26.heap.size = gLn at *
    generalize w26.alloc _ = w27 at *
    rcases hss with ⟨k1, k2, k3⟩ | k1
    rotate_left
    · have lq : (LC != 0) = true := by simp; omega
      have HK1 := Lib.hid k1
      have HPC := Lib.hid (show pieceC s.at_ ⟨gi K.cuts (k + 1), 1⟩ (gi K.dens k) = LC by unfold pieceC; rw [if_pos (by rw [← HLC.out]; omega), ← HLC.out])
      clear k1
      have HN := Lib.hid (mStep_e1 (K := K) (k := k) HE0.out HL.out HD0.out (by rw [HPC.out]; have := HK1.out; omega))
      rw [HPC.out] at HN
      have HE := Lib.hid (WkEnd.mk' (er := LC) ((HSY.out (by rw [HST.out, HN.out])).trans (HST.out.trans HN.out)) hB27.drop.drop.drop.drop.drop (by rw [if_pos (by have := HK1.out; omega)]) (fun x => by have := HK1.out; simp only at x; omega))
      clear hB27
      go_wp2_with fail
      go_ret
      exact ⟨LC, rfl, HE.out⟩
    have lq : (LC != 0) = false := by rw [k1]; rfl
    have HLO := Lib.hid k2
    have HLZ := Lib.hid (show subC ⟨gi K.cuts (k + 1), 1⟩ s.at_ = 0 by rw [← HLC.out, k1])
    clear k1 k2 k3
    have HMU := Lib.hid (fun (W : World) => rmul_any LL ⟨gi K.dens k, 1⟩ HLO.out.wf (len_ok (n := gi K.dens k) (by have := HFit.out; omega) (by have := HFit.out; omega)).wf W)
    have hms := mul_step HLO.out (len_ok (n := gi K.dens k) (by have := HFit.out; omega) (by have := HFit.out; omega))
    obtain ⟨M', hM⟩ : ∃ x, x = mulR LL ⟨gi K.dens k, 1⟩ := ⟨_, rfl⟩
    obtain ⟨MC, hMC⟩ : ∃ x, x = mulC LL ⟨gi K.dens k, 1⟩ := ⟨_, rfl⟩
    rw [← hM, ← hMC] at HMU hms
    have HPC := Lib.hid (show pieceC s.at_ ⟨gi K.cuts (k + 1), 1⟩ (gi K.dens k) = MC by unfold pieceC; rw [if_neg (by rw [HLZ.out]; decide), hMC, HLL.out])
    have HPR := Lib.hid (show pieceR s.at_ ⟨gi K.cuts (k + 1), 1⟩ (gi K.dens k) = M' by unfold pieceR; rw [hM, HLL.out])
    clear hM hMC
    go_wp2_with fail
    have n_len := hB27.ne 0 1 rfl rfl (by decide)
    simp only at n_len
    refine wp_region_flow_at wb [gW] 9 (by kernel_rfl) (by rfl) hB27.below (fun wq hbq hbb => ?_)
    have hB28q := hB27.next hbq
    have hzg : wb.heap.size ≤ gW := hB27.le 1 rfl
    clear hB27
    refine wpAnyE_go (w0 := wb) (w1 := wq) (X := [gW]) (fun _ h => h) (RK.at0 hbb) [0, 1, 2, 3, 4, 5, 6] 2 (by kernel_rfl) ?_
    apply Exists.intro
    refine ⟨fun G hG hN => ?_, ?_⟩
    · have c_len := fun (e : GE (RK wb wq [gW]) G) j => cell_of_row e.w _ j _ _ _ ((GE.h e).at (hB28q.get 0 rfl) (by simp [n_len]))
      have z_len := fun (e : GE (RK wb wq [gW]) G) => lt_some ((GE.h e).at (hB28q.get 0 rfl) (by simp [n_len]))
      simp only [pickOps, List.getElem?_toArray, List.getElem?_cons_zero, List.getElem?_cons_succ]
      repeat (first | go_big_quiet_step ((first | (go_at_call 83; exact calls_ge (RK.grows _ _ _) hG (whole_any _ _)) | (go_at_call 94; exact calls_ge (RK.grows _ _ _) hG (HMU.out _)))) | quiet_step ((first | (go_at_call 83; exact calls_ge (RK.grows _ _ _) hG (whole_any _ _)) | (go_at_call 94; exact calls_ge (RK.grows _ _ _) hG (HMU.out _)))))
      exact wpQuiet_nil rfl
    refine wpAnyE_all (rs := [7]) (by kernel_rfl) (by simp) (fun Wb hWb hRWb i hi => ?_)
    obtain rfl := List.mem_singleton.1 hi
    have hB28b := hB28q.next hWb
    clear hB28q
    have ck := fun j => cell_of_row _ _ j _ _ _ (hB28b.get 1 rfl)
    have fk := fun j => frozen_of_row _ _ j _ _ (hB28b.get 1 rfl)
    have zk := hB28b.lt 1 rfl
    refine wpOp_step rfl (fun K hK => ?_)
    go_simp
    refine hK _ _ ⟨(hRWb.set hzg (Or.inl (by simp))).set hzg (Or.inl (by simp)), ?_⟩
    clear hK K
    clear ck fk zk
    have hB28c := hB28b.put 1 rfl (M')
    clear hB28b
    have hsc := (hRWb.set hzg (Or.inl (by simp)) (j := 0) (u := .int .i64 (M').n)).set hzg (Or.inl (by simp)) (j := 1) (u := .int .i64 (M').d)
    generalize (Wb.setCell _ _).setCell _ _ = Wd at *
    refine wpAnyE_go (w0 := wb) (w1 := Wd) (X := [gW]) (RK.move hsc (by simp)) (RK.here hsc) [8] 0 (by kernel_rfl) ?_
    apply Exists.intro
    refine ⟨fun G hG hN => ?_, ?_⟩
    · simp only [pickOps, List.getElem?_toArray, List.getElem?_cons_zero, List.getElem?_cons_succ]
      repeat (first | go_big_quiet_step (fail) | quiet_step (fail))
      exact wpQuiet_nil rfl
    refine wpAnyE_done (by kernel_rfl) (fun Wc hWc hRWc => ?_) _
    refine NoPanic.normal ?_
    have hB28 := hB28c.next hWc
    clear hB28c hWb hWc hRWb hRWc hbq hbb hsc
    generalize Wc = w28 at *
    rcases hms with ⟨k1, k2, k3⟩ | k1
    rotate_left
    · have mq : (MC != 0) = true := by simp; omega
      have HK1 := Lib.hid k1
      clear k1
      have HN := Lib.hid (mStep_e1 (K := K) (k := k) HE0.out HL.out HD0.out (by rw [HPC.out]; have := HK1.out; omega))
      rw [HPC.out] at HN
      have HE := Lib.hid (WkEnd.mk' (er := MC) ((HSY.out (by rw [HST.out, HN.out])).trans (HST.out.trans HN.out)) hB28.drop.drop.drop.drop.drop (by rw [if_pos (by have := HK1.out; omega)]) (fun x => by have := HK1.out; simp only at x; omega))
      clear hB28
      go_wp2_with fail
      go_ret
      exact ⟨MC, rfl, HE.out⟩
    have mq : (MC != 0) = false := by rw [k1]; rfl
    have HMO := Lib.hid k2
    have HPZ := Lib.hid (show pieceC s.at_ ⟨gi K.cuts (k + 1), 1⟩ (gi K.dens k) = 0 by rw [HPC.out, k1])
    clear k1 k2 k3
    cases hlw : ltB M' s.v with
    | false =>
      have HN := Lib.hid (mStep_done (K := K) (k := k) HE0.out HL.out HD0.out HPZ.out HPR.out hlw)
      have HVI := fun W h => visit_done s.at_ ⟨gi K.cuts (k + 1), 1⟩ M' s.v s.out (gi K.dens k) s.late gV gL gU ((gLn, rB LL) :: (gW, rB M') :: (gE, rB ⟨gi K.cuts (k + 1), 1⟩) :: (gA, rB s.at_) :: (gK, cB (some ad) c (some rd) d K) :: M) wb W HS.out.2.1 HMO.out HS.out.1 (by have := HFit.out; have := HD0.out; omega) (by have := HFit.out; omega) hlw h
      clear hlw
      go_upto_region 14 with fail
      have c_len := fun j => cell_of_row _ _ j _ _ _ (hB28.get 0 rfl)
      have z_len := hB28.lt 0 rfl
      have c_wor := fun j => cell_of_row _ _ j _ _ _ (hB28.get 1 rfl)
      have z_wor := hB28.lt 1 rfl
      have c_end := fun j => cell_of_row _ _ j _ _ _ (hB28.get 2 rfl)
      have z_end := hB28.lt 2 rfl
      have c_at := fun j => cell_of_row _ _ j _ _ _ (hB28.get 3 rfl)
      have z_at := hB28.lt 3 rfl
      have c_K := fun j => cell_of_row _ _ j _ _ _ (hB28.get 4 rfl)
      have z_K := hB28.lt 4 rfl
      go_wp2_with fail
      refine (HVI _ (Bx.swap (P := [_, _, _, _, _]) (Q := [_, _, _]) hB28)).mono ?_
      rintro e w29 ⟨rfl, hb, _⟩
      have hB29 := Bx.swap (P := [_, _, _]) (Q := [_, _, _, _, _]) hb
      clear c_len z_len c_wor z_wor c_end z_end c_at z_at c_K z_K hb hB28
      have HE : Hid (WkEnd K a v gV gL gU M wb 0 w29) := by
        refine Lib.hid ?_
        have hT : (K.mTo a v (k + 1)).stop = true := by rw [HST.out, HN.out]; split <;> rfl
        refine WkEnd.mk' ((HSY.out hT).trans (HST.out.trans HN.out)) hB29.drop.drop.drop.drop.drop ?_ ?_
        · rw [if_neg (by decide)]; split <;> rfl
        · split
          · rename_i q; intro x; exact absurd x q
          · intro _; rfl
      clear hB29 HVI
      go_wp2_with fail
      go_ret
      exact ⟨0, rfl, HE.out⟩
    | true =>
      have HN := Lib.hid (mStep_less (K := K) (k := k) HE0.out HL.out HD0.out HPZ.out HPR.out hlw)
      have HVI := fun W h => visit_less s.at_ ⟨gi K.cuts (k + 1), 1⟩ M' s.v s.out (gi K.dens k) s.late gV gL gU ((gLn, rB LL) :: (gW, rB M') :: (gE, rB ⟨gi K.cuts (k + 1), 1⟩) :: (gA, rB s.at_) :: (gK, cB (some ad) c (some rd) d K) :: M) wb W HS.out.2.1 HMO.out hlw HD0.out h
      clear hlw
      go_upto_region 14 with fail
      have c_len := fun j => cell_of_row _ _ j _ _ _ (hB28.get 0 rfl)
      have z_len := hB28.lt 0 rfl
      have c_wor := fun j => cell_of_row _ _ j _ _ _ (hB28.get 1 rfl)
      have z_wor := hB28.lt 1 rfl
      have c_end := fun j => cell_of_row _ _ j _ _ _ (hB28.get 2 rfl)
      have z_end := hB28.lt 2 rfl
      have c_at := fun j => cell_of_row _ _ j _ _ _ (hB28.get 3 rfl)
      have z_at := hB28.lt 3 rfl
      have c_K := fun j => cell_of_row _ _ j _ _ _ (hB28.get 4 rfl)
      have z_K := hB28.lt 4 rfl
      go_wp2_with fail
      refine (HVI _ (Bx.swap (P := [_, _, _, _, _]) (Q := [_, _, _]) hB28)).mono ?_
      rintro e w29 ⟨rfl, hb, _⟩
      have hB29 := Bx.swap (P := [_, _, _]) (Q := [_, _, _, _, _]) hb
      clear c_len z_len c_wor z_wor c_end z_end c_at z_at c_K z_K hb hB28
      clear HVI
      generalize subR s.v M' = SR at *
      generalize subC s.v M' = SC at *
      by_cases hs : SC ≠ 0
      · have sq : (SC != 0) = true := by simpa using hs
        rw [if_pos hs] at HN
        have HE := Lib.hid (WkEnd.mk' (er := 0) ((HSY.out (by rw [HST.out, HN.out])).trans (HST.out.trans HN.out)) hB29.drop.drop.drop.drop.drop (by rw [if_neg (by decide), if_pos hs]) (fun x => absurd x hs))
        clear hB29 hs
        go_wp2_with fail
        go_ret
        exact ⟨0, rfl, HE.out⟩
      have sq : (SC != 0) = false := by simpa using hs
      rw [if_neg hs] at HN
      have hB29x := hB29
      rw [if_neg hs] at hB29x
      clear hB29 hs
      have hB29 := hB29x
      clear hB29x
      have c_end := fun j => cell_of_row _ _ j _ _ _ (hB29.get 2 rfl)
      have z_end := hB29.lt 2 rfl
      have c_at := fun j => cell_of_row _ _ j _ _ _ (hB29.get 3 rfl)
      have z_at := hB29.lt 3 rfl
      have f_at := fun j => frozen_of_row _ _ j _ _ (hB29.get 3 rfl)
      have HZ := Lib.hid ((hB29.put 3 rfl ⟨gi K.cuts (k + 1), 1⟩).drop.drop.drop)
      clear hB29
      go_wp2_with fail
      exact ⟨⟨k + 1, HLE.out, by go_num, by rw [HST.out, HN.out]; exact HE0.out, by rw [HST.out, HN.out]; exact HZ.out⟩, by simpa [intOf] using HME.out⟩
end Go.Proofs.Ytgcbmnohhbcfiaa

namespace Go.Proofs.Ytgcbmnohhbcfiaa
open Go.RowKit Go.Deep
set_option linter.unusedVariables false
set_option linter.unusedSimpArgs false

theorem Ck.mark_bad {K : Ck} {a v : Rt} {x : Int} (h : K.markC a v = x) (hx : x ≠ 0) : K.mark a v = ⟨0, 0⟩ := by unfold Ck.mark; rw [if_neg (by omega)]
theorem Ck.markC_run {K : Ck} {a v : Rt} (h : K.code = 0) (h1 : pointB K.len a = true) (h2 : v.code = 0) (h3 : 0 < v.n) : K.markC a v = (K.mTo a v K.dens.length).late := by
  unfold Ck.markC; rw [if_neg (by omega), if_pos ⟨h1, h2, by omega⟩, if_neg (by omega)]
theorem Ck.markC_arg {K : Ck} {a v : Rt} (h : K.code = 0) (h1 : ¬ (pointB K.len a = true ∧ v.code = 0 ∧ 0 ≤ v.n)) : K.markC a v = 2 := by
  unfold Ck.markC; rw [if_neg (by omega), if_neg h1]
theorem Ck.mark_zero {K : Ck} {a v : Rt} (h : K.code = 0) (h1 : pointB K.len a = true) (h2 : v.code = 0) (h3 : v.n = 0) : K.markC a v = 0 ∧ K.mark a v = a := by
  have e : K.markC a v = 0 := by unfold Ck.markC; rw [if_neg (by omega), if_pos ⟨h1, h2, by omega⟩, if_pos h3]
  exact ⟨e, by unfold Ck.mark; rw [if_pos e, if_pos h3]⟩

set_option maxRecDepth 100000 in
set_option maxHeartbeats 16000000 in
theorem cmark_any (K : Ck) (A : Option Addr) (c : Nat) (R : Option Addr) (d : Nat) (a v : Rt) (ha : a.wf) (hv : v.wf) (w : World) (h : CIn w.heap.size w A c R d K) :
    Calls Try.prog 32 #[cV A c R d K, rV a, rV v] w fun e w' => e = .returned (.tuple #[rV (K.mark a v), .int .i64 (K.markC a v)]) ∧ Below w.heap.size w w' := by
  have hB0 : Bx w [(w.heap.size + 1 + 1 + 1, rB ⟨0, 0⟩), (w.heap.size + 1 + 1, rB v), (w.heap.size + 1, rB a), (w.heap.size, cB A c R d K)] ((((w.alloc (cB A c R d K)).alloc (rB a)).alloc (rB v)).alloc (rB ⟨0, 0⟩)) :=
    ((((Bx.start w).new rfl _).new (by simp) _).new (by simp) _).new (by simp) _
  have HH := Lib.hid h
  have HA := Lib.hid ha
  have HV := Lib.hid hv
  have HC := Lib.hid (fun (W : World) (hW : Below w.heap.size w W) => ccheck_any K A c R d W (h.next hW))
  have HCV := Lib.hid (fun (W : World) => rcheck_any v hv W)
  have HVB := Lib.hid (fun (x : Int) (e : K.markC a v = x) (hx : x ≠ 0) => Ck.mark_bad e hx)
  clear h ha hv
  go_enter Try.func32, Try.ntmps32
  go_upto_region 1 with fail
  generalize hw0 : (((w.alloc (cB A c R d K)).alloc (rB a)).alloc (rB v)).alloc (rB ⟨0, 0⟩) = w0 at *
  clear hw0
  generalize w.heap.size + 1 + 1 + 1 = gO at *
  generalize w.heap.size + 1 + 1 = gV at *
  generalize w.heap.size + 1 = gA at *
  have c_K := fun j => cell_of_row _ _ j _ _ _ (hB0.get 3 rfl)
  have z_K := hB0.lt 3 rfl
  by_cases hc : K.code = 0
  rotate_left
  · have q : (K.code != 0) = true := by simpa using hc
    have HX := Lib.hid (show K.markC a v = K.code by unfold Ck.markC; rw [if_pos hc])
    have HNZ := Lib.hid hc
    generalize K.code = code at *
    clear hc
    go_wp2_with fail
    refine (HC.out _ hB0.below).mono ?_
    rintro e w1 ⟨rfl, hb⟩
    have hB1 := hB0.next hb
    clear c_K z_K hb hB0
    have c_out := fun j => cell_of_row _ _ j _ _ _ (hB1.get 0 rfl)
    have z_out := hB1.lt 0 rfl
    have f_out := fun j => frozen_of_row _ _ j _ _ (hB1.get 0 rfl)
    have c_v := fun j => cell_of_row _ _ j _ _ _ (hB1.get 1 rfl)
    have z_v := hB1.lt 1 rfl
    have c_a := fun j => cell_of_row _ _ j _ _ _ (hB1.get 2 rfl)
    have z_a := hB1.lt 2 rfl
    have c_K := fun j => cell_of_row _ _ j _ _ _ (hB1.get 3 rfl)
    have z_K := hB1.lt 3 rfl
    have HE := Lib.hid (hB1.put 0 rfl (⟨0, 0⟩)).below
    clear hB1
    go_wp2_with fail
    refine bodyPost_ret (v := .tuple #[rV (⟨0, 0⟩), .int .i64 (code)]) (by simp [results, Try.results32, go_sem, c_out, f_out, z_out]) rfl ?_
    exact ⟨by rw [HVB.out code HX.out HNZ.out, HX.out], HE.out⟩
  have HK := Lib.hid (Ck.ok_code hc)
  have HCZ := Lib.hid hc
  have l1 := HK.out.l1
  have l2 := HK.out.l2
  have HPA := Lib.hid (fun (W : World) => cpoint_any K A c R d a HA.out (by omega) l2 W)
  have HQA := Lib.hid (fun (h : pointB K.len a = true) => (point_q (by omega) l2).1 h)
  rw [hc] at HC
  clear hc l1 l2
  go_wp2_with fail
  refine (HC.out _ hB0.below).mono ?_
  rintro e w1 ⟨rfl, hb⟩
  have hB1 := hB0.next hb
  clear c_K z_K hb hB0
  cases hpa : pointB K.len a with
  | false =>
    have HX := Lib.hid (Ck.markC_arg (v := v) HCZ.out (fun q => by rw [hpa] at q; cases q.1))
    rw [hpa] at HPA
    clear hpa
    have c_out := fun j => cell_of_row _ _ j _ _ _ (hB1.get 0 rfl)
    have z_out := hB1.lt 0 rfl
    have c_v := fun j => cell_of_row _ _ j _ _ _ (hB1.get 1 rfl)
    have z_v := hB1.lt 1 rfl
    have c_a := fun j => cell_of_row _ _ j _ _ _ (hB1.get 2 rfl)
    have z_a := hB1.lt 2 rfl
    have c_K := fun j => cell_of_row _ _ j _ _ _ (hB1.get 3 rfl)
    have z_K := hB1.lt 3 rfl
    go_wp2_with fail
    refine (HPA.out _).mono ?_
    rintro e w2 ⟨rfl, hb⟩
    have hB2 := hB1.next hb
    clear c_out z_out c_v z_v c_a z_a c_K z_K hb hB1
    have c_out := fun j => cell_of_row _ _ j _ _ _ (hB2.get 0 rfl)
    have z_out := hB2.lt 0 rfl
    have f_out := fun j => frozen_of_row _ _ j _ _ (hB2.get 0 rfl)
    have c_v := fun j => cell_of_row _ _ j _ _ _ (hB2.get 1 rfl)
    have z_v := hB2.lt 1 rfl
    have c_a := fun j => cell_of_row _ _ j _ _ _ (hB2.get 2 rfl)
    have z_a := hB2.lt 2 rfl
    have c_K := fun j => cell_of_row _ _ j _ _ _ (hB2.get 3 rfl)
    have z_K := hB2.lt 3 rfl
    have HE := Lib.hid (hB2.put 0 rfl (⟨0, 0⟩)).below
    clear hB2
    go_wp2_with fail
    refine bodyPost_ret (v := .tuple #[rV (⟨0, 0⟩), .int .i64 (2)]) (by simp [results, Try.results32, go_sem, c_out, f_out, z_out]) rfl ?_
    exact ⟨by rw [HVB.out 2 HX.out (by decide), HX.out], HE.out⟩
  | true =>
  have HPa := Lib.hid hpa
  rw [hpa] at HPA
  clear hpa
  have c_out := fun j => cell_of_row _ _ j _ _ _ (hB1.get 0 rfl)
  have z_out := hB1.lt 0 rfl
  have c_v := fun j => cell_of_row _ _ j _ _ _ (hB1.get 1 rfl)
  have z_v := hB1.lt 1 rfl
  have c_a := fun j => cell_of_row _ _ j _ _ _ (hB1.get 2 rfl)
  have z_a := hB1.lt 2 rfl
  have c_K := fun j => cell_of_row _ _ j _ _ _ (hB1.get 3 rfl)
  have z_K := hB1.lt 3 rfl
  go_wp2_with fail
  refine (HPA.out _).mono ?_
  rintro e w2 ⟨rfl, hb⟩
  have hB2 := hB1.next hb
  clear c_out z_out c_v z_v c_a z_a c_K z_K hb hB1
  by_cases hcv : v.code = 0
  rotate_left
  · have q : (v.code != 0) = true := by simpa using hcv
    have HX := Lib.hid (Ck.markC_arg (a := a) (v := v) HCZ.out (fun q => hcv q.2.1))
    clear hcv
    generalize v.code = vc at *
    have c_out := fun j => cell_of_row _ _ j _ _ _ (hB2.get 0 rfl)
    have z_out := hB2.lt 0 rfl
    have c_v := fun j => cell_of_row _ _ j _ _ _ (hB2.get 1 rfl)
    have z_v := hB2.lt 1 rfl
    have c_a := fun j => cell_of_row _ _ j _ _ _ (hB2.get 2 rfl)
    have z_a := hB2.lt 2 rfl
    have c_K := fun j => cell_of_row _ _ j _ _ _ (hB2.get 3 rfl)
    have z_K := hB2.lt 3 rfl
    go_wp2_with fail
    refine (HCV.out _).mono ?_
    rintro e w3 ⟨rfl, hb⟩
    have hB3 := hB2.next hb
    clear c_out z_out c_v z_v c_a z_a c_K z_K hb hB2
    have c_out := fun j => cell_of_row _ _ j _ _ _ (hB3.get 0 rfl)
    have z_out := hB3.lt 0 rfl
    have f_out := fun j => frozen_of_row _ _ j _ _ (hB3.get 0 rfl)
    have c_v := fun j => cell_of_row _ _ j _ _ _ (hB3.get 1 rfl)
    have z_v := hB3.lt 1 rfl
    have c_a := fun j => cell_of_row _ _ j _ _ _ (hB3.get 2 rfl)
    have z_a := hB3.lt 2 rfl
    have c_K := fun j => cell_of_row _ _ j _ _ _ (hB3.get 3 rfl)
    have z_K := hB3.lt 3 rfl
    have HE := Lib.hid (hB3.put 0 rfl (⟨0, 0⟩)).below
    clear hB3
    go_wp2_with fail
    refine bodyPost_ret (v := .tuple #[rV (⟨0, 0⟩), .int .i64 (2)]) (by simp [results, Try.results32, go_sem, c_out, f_out, z_out]) rfl ?_
    exact ⟨by rw [HVB.out 2 HX.out (by decide), HX.out], HE.out⟩
  have HVO := Lib.hid (Rt.ok_code hcv)
  have HVC := Lib.hid hcv
  rw [hcv] at HCV
  clear hcv
  have c_out := fun j => cell_of_row _ _ j _ _ _ (hB2.get 0 rfl)
  have z_out := hB2.lt 0 rfl
  have c_v := fun j => cell_of_row _ _ j _ _ _ (hB2.get 1 rfl)
  have z_v := hB2.lt 1 rfl
  have c_a := fun j => cell_of_row _ _ j _ _ _ (hB2.get 2 rfl)
  have z_a := hB2.lt 2 rfl
  have c_K := fun j => cell_of_row _ _ j _ _ _ (hB2.get 3 rfl)
  have z_K := hB2.lt 3 rfl
  go_wp2_with fail
  refine (HCV.out _).mono ?_
  rintro e w3 ⟨rfl, hb⟩
  have hB3 := hB2.next hb
  clear c_out z_out c_v z_v c_a z_a c_K z_K hb hB2
  by_cases hn : v.n < 0
  · have q : decide (v.n < 0) = true := by simpa using hn
    have HX := Lib.hid (Ck.markC_arg (a := a) (v := v) HCZ.out (fun q => by have := q.2.2; omega))
    clear hn
    have c_out := fun j => cell_of_row _ _ j _ _ _ (hB3.get 0 rfl)
    have z_out := hB3.lt 0 rfl
    have f_out := fun j => frozen_of_row _ _ j _ _ (hB3.get 0 rfl)
    have c_v := fun j => cell_of_row _ _ j _ _ _ (hB3.get 1 rfl)
    have z_v := hB3.lt 1 rfl
    have c_a := fun j => cell_of_row _ _ j _ _ _ (hB3.get 2 rfl)
    have z_a := hB3.lt 2 rfl
    have c_K := fun j => cell_of_row _ _ j _ _ _ (hB3.get 3 rfl)
    have z_K := hB3.lt 3 rfl
    have HE := Lib.hid (hB3.put 0 rfl (⟨0, 0⟩)).below
    clear hB3
    go_wp2_with fail
    refine bodyPost_ret (v := .tuple #[rV (⟨0, 0⟩), .int .i64 (2)]) (by simp [results, Try.results32, go_sem, c_out, f_out, z_out]) rfl ?_
    exact ⟨by rw [HVB.out 2 HX.out (by decide), HX.out], HE.out⟩
  have q : decide (v.n < 0) = false := by simpa using hn
  by_cases hz : v.n = 0
  · have q2 : (v.n == 0) = true := by simpa using hz
    have HX := Lib.hid (Ck.mark_zero HCZ.out HPa.out HVC.out hz)
    clear hn hz
    have c_out := fun j => cell_of_row _ _ j _ _ _ (hB3.get 0 rfl)
    have z_out := hB3.lt 0 rfl
    have f_out := fun j => frozen_of_row _ _ j _ _ (hB3.get 0 rfl)
    have c_v := fun j => cell_of_row _ _ j _ _ _ (hB3.get 1 rfl)
    have z_v := hB3.lt 1 rfl
    have c_a := fun j => cell_of_row _ _ j _ _ _ (hB3.get 2 rfl)
    have z_a := hB3.lt 2 rfl
    have c_K := fun j => cell_of_row _ _ j _ _ _ (hB3.get 3 rfl)
    have z_K := hB3.lt 3 rfl
    have HE := Lib.hid (hB3.put 0 rfl (a)).below
    clear hB3
    go_wp2_with fail
    refine bodyPost_ret (v := .tuple #[rV (a), .int .i64 (0)]) (by simp [results, Try.results32, go_sem, c_out, f_out, z_out]) rfl ?_
    exact ⟨by rw [HX.out.1, HX.out.2], HE.out⟩
  have q2 : (v.n == 0) = false := by simpa using hz
  have HX := Lib.hid (Ck.markC_run HCZ.out HPa.out HVC.out (show 0 < v.n by omega))
  have HOK := Lib.hid (show K.markC a v = 0 → K.mark a v = (K.mTo a v K.dens.length).out from fun e => by unfold Ck.mark; rw [if_pos e, if_neg hz])
  have HVQ := Lib.hid ((num_q HVO.out).2.1 (show 0 < v.n by omega))
  clear hn hz
  have c_v := fun j => cell_of_row _ _ j _ _ _ (hB3.get 1 rfl)
  have z_v := hB3.lt 1 rfl
  go_upto_region 9 with fail
  have hB4 := hB3.new rfl (rB ⟨0, 0⟩)
  clear c_v z_v hB3
  generalize w3.heap.size = gU at *
  generalize w3.alloc _ = w4 at *
  go_upto_region 10 with fail
  have hB5 := hB4.new rfl (eB 6)
  clear hB4
  generalize w4.heap.size = gL at *
  generalize w4.alloc _ = w5 at *
  have hB6 := Bx.swap (P := [_, _, _]) (Q := [_]) hB5
  clear hB5
  have c_a := fun j => cell_of_row _ _ j _ _ _ (hB6.get 4 rfl)
  have z_a := hB6.lt 4 rfl
  have c_K := fun j => cell_of_row _ _ j _ _ _ (hB6.get 5 rfl)
  have z_K := hB6.lt 5 rfl
  go_wp2_with fail
  refine (cwalk_any K A c R d a v HK.out (HQA.out HPa.out).1 HVO.out (HQA.out HPa.out).2.1 HVQ.out gV gL gU _ w _ HH.out hB6).mono ?_
  rintro e w7 ⟨er, rfl, ⟨v', lt, ot, hB7, h1, h2⟩⟩
  clear c_a z_a c_K z_K hB6
  generalize K.mTo a v K.dens.length = ms at *
  have HX1 := Lib.hid h1
  have HX2 := Lib.hid h2
  clear h1 h2
  by_cases he : er ≠ 0
  · have eq : (er != 0) = true := by simpa using he
    have HNZ := Lib.hid he
    have HX3 := Lib.hid (show K.markC a v = er by rw [HX.out, ← HX1.out, if_pos he])
    clear he
    have c_lt := fun j => cell_of_row _ _ j _ _ _ (hB7.get 1 rfl)
    have z_lt := hB7.lt 1 rfl
    have f_lt := fun j => frozen_of_row _ _ j _ _ (hB7.get 1 rfl)
    go_upto_region 13 with fail
    have hB8 := hB7.putE 1 rfl (er)
    clear c_lt z_lt f_lt hB7
    generalize w7.setCell _ _ = w8 at *
    have c_lt := fun j => cell_of_row _ _ j _ _ _ (hB8.get 1 rfl)
    have z_lt := hB8.lt 1 rfl
    have c_out := fun j => cell_of_row _ _ j _ _ _ (hB8.get 3 rfl)
    have z_out := hB8.lt 3 rfl
    have f_out := fun j => frozen_of_row _ _ j _ _ (hB8.get 3 rfl)
    go_wp2_with fail
    clear c_lt z_lt c_out z_out f_out
    have n_lt := hB8.ne 1 3 rfl rfl (by decide)
    simp only at n_lt
    refine wp_region_flow_at w [gO] 4 (by kernel_rfl) (by rfl) hB8.below (fun wq hbq hbb => ?_)
    have hB9q := hB8.next hbq
    have hzg : w.heap.size ≤ gO := hB8.le 3 rfl
    clear hB8
    refine wpAnyE_go (w0 := w) (w1 := wq) (X := [gO]) (fun _ h => h) (RK.at0 hbb) [0, 1] 2 (by kernel_rfl) ?_
    apply Exists.intro
    refine ⟨fun G hG hN => ?_, ?_⟩
    · have c_lt := fun (e : GE (RK w wq [gO]) G) j => cell_of_row e.w _ j _ _ _ ((GE.h e).at (hB9q.get 1 rfl) (by simp [n_lt]))
      have z_lt := fun (e : GE (RK w wq [gO]) G) => lt_some ((GE.h e).at (hB9q.get 1 rfl) (by simp [n_lt]))
      simp only [pickOps, List.getElem?_toArray, List.getElem?_cons_zero, List.getElem?_cons_succ]
      repeat (first | go_big_quiet_step (fail) | quiet_step (fail))
      exact wpQuiet_nil rfl
    refine wpAnyE_all (rs := [2]) (by kernel_rfl) (by simp) (fun Wb hWb hRWb i hi => ?_)
    obtain rfl := List.mem_singleton.1 hi
    have hB9b := hB9q.next hWb
    clear hB9q
    have ck := fun j => cell_of_row _ _ j _ _ _ (hB9b.get 3 rfl)
    have fk := fun j => frozen_of_row _ _ j _ _ (hB9b.get 3 rfl)
    have zk := hB9b.lt 3 rfl
    refine wpOp_step rfl (fun K hK => ?_)
    go_simp
    refine hK _ _ ⟨(hRWb.set hzg (Or.inl (by simp))).set hzg (Or.inl (by simp)), ?_⟩
    clear hK K
    clear ck fk zk
    have hB9c := hB9b.put 3 rfl ((⟨0, 0⟩ : Rt))
    clear hB9b
    have hsc := (hRWb.set hzg (Or.inl (by simp)) (j := 0) (u := .int .i64 ((⟨0, 0⟩ : Rt)).n)).set hzg (Or.inl (by simp)) (j := 1) (u := .int .i64 ((⟨0, 0⟩ : Rt)).d)
    generalize (Wb.setCell _ _).setCell _ _ = Wd at *
    refine wpAnyE_go (w0 := w) (w1 := Wd) (X := [gO]) (RK.move hsc (by simp)) (RK.here hsc) [3] 0 (by kernel_rfl) ?_
    apply Exists.intro
    refine ⟨fun G hG hN => ?_, ?_⟩
    · simp only [pickOps, List.getElem?_toArray, List.getElem?_cons_zero, List.getElem?_cons_succ]
      repeat (first | go_big_quiet_step (fail) | quiet_step (fail))
      exact wpQuiet_nil rfl
    refine wpAnyE_done (by kernel_rfl) (fun Wc hWc hRWc => ?_) _
    refine NoPanic.normal ?_
    have hB9 := hB9c.next hWc
    clear hB9c hWb hWc hRWb hRWc hbq hbb hsc
    generalize Wc = w9 at *
    have c_out := fun j => cell_of_row _ _ j _ _ _ (hB9.get 3 rfl)
    have z_out := hB9.lt 3 rfl
    have f_out := fun j => frozen_of_row _ _ j _ _ (hB9.get 3 rfl)
    have HE := Lib.hid hB9.below
    clear hB9
    go_wp2_with fail
    refine bodyPost_ret (v := .tuple #[rV ⟨0, 0⟩, .int .i64 er]) (by simp [results, Try.results32, go_sem, c_out, f_out, z_out]) rfl ?_
    exact ⟨by rw [HVB.out er HX3.out HNZ.out, HX3.out], HE.out⟩
  have eq : (er != 0) = false := by simpa using he
  have HX3 := Lib.hid (show K.markC a v = lt by rw [HX.out, ← HX1.out, if_neg he])
  clear he
  by_cases hl : lt ≠ 0
  · have lq : (lt != 0) = true := by simpa using hl
    have HNZ := Lib.hid hl
    clear hl
    have c_lt := fun j => cell_of_row _ _ j _ _ _ (hB7.get 1 rfl)
    have z_lt := hB7.lt 1 rfl
    have c_out := fun j => cell_of_row _ _ j _ _ _ (hB7.get 3 rfl)
    have z_out := hB7.lt 3 rfl
    have f_out := fun j => frozen_of_row _ _ j _ _ (hB7.get 3 rfl)
    go_wp2_with fail
    clear c_lt z_lt c_out z_out f_out
    have n_lt := hB7.ne 1 3 rfl rfl (by decide)
    simp only at n_lt
    refine wp_region_flow_at w [gO] 4 (by kernel_rfl) (by rfl) hB7.below (fun wq hbq hbb => ?_)
    have hB8q := hB7.next hbq
    have hzg : w.heap.size ≤ gO := hB7.le 3 rfl
    clear hB7
    refine wpAnyE_go (w0 := w) (w1 := wq) (X := [gO]) (fun _ h => h) (RK.at0 hbb) [0, 1] 2 (by kernel_rfl) ?_
    apply Exists.intro
    refine ⟨fun G hG hN => ?_, ?_⟩
    · have c_lt := fun (e : GE (RK w wq [gO]) G) j => cell_of_row e.w _ j _ _ _ ((GE.h e).at (hB8q.get 1 rfl) (by simp [n_lt]))
      have z_lt := fun (e : GE (RK w wq [gO]) G) => lt_some ((GE.h e).at (hB8q.get 1 rfl) (by simp [n_lt]))
      simp only [pickOps, List.getElem?_toArray, List.getElem?_cons_zero, List.getElem?_cons_succ]
      repeat (first | go_big_quiet_step (fail) | quiet_step (fail))
      exact wpQuiet_nil rfl
    refine wpAnyE_all (rs := [2]) (by kernel_rfl) (by simp) (fun Wb hWb hRWb i hi => ?_)
    obtain rfl := List.mem_singleton.1 hi
    have hB8b := hB8q.next hWb
    clear hB8q
    have ck := fun j => cell_of_row _ _ j _ _ _ (hB8b.get 3 rfl)
    have fk := fun j => frozen_of_row _ _ j _ _ (hB8b.get 3 rfl)
    have zk := hB8b.lt 3 rfl
    refine wpOp_step rfl (fun K hK => ?_)
    go_simp
    refine hK _ _ ⟨(hRWb.set hzg (Or.inl (by simp))).set hzg (Or.inl (by simp)), ?_⟩
    clear hK K
    clear ck fk zk
    have hB8c := hB8b.put 3 rfl ((⟨0, 0⟩ : Rt))
    clear hB8b
    have hsc := (hRWb.set hzg (Or.inl (by simp)) (j := 0) (u := .int .i64 ((⟨0, 0⟩ : Rt)).n)).set hzg (Or.inl (by simp)) (j := 1) (u := .int .i64 ((⟨0, 0⟩ : Rt)).d)
    generalize (Wb.setCell _ _).setCell _ _ = Wd at *
    refine wpAnyE_go (w0 := w) (w1 := Wd) (X := [gO]) (RK.move hsc (by simp)) (RK.here hsc) [3] 0 (by kernel_rfl) ?_
    apply Exists.intro
    refine ⟨fun G hG hN => ?_, ?_⟩
    · simp only [pickOps, List.getElem?_toArray, List.getElem?_cons_zero, List.getElem?_cons_succ]
      repeat (first | go_big_quiet_step (fail) | quiet_step (fail))
      exact wpQuiet_nil rfl
    refine wpAnyE_done (by kernel_rfl) (fun Wc hWc hRWc => ?_) _
    refine NoPanic.normal ?_
    have hB8 := hB8c.next hWc
    clear hB8c hWb hWc hRWb hRWc hbq hbb hsc
    generalize Wc = w8 at *
    have c_out := fun j => cell_of_row _ _ j _ _ _ (hB8.get 3 rfl)
    have z_out := hB8.lt 3 rfl
    have f_out := fun j => frozen_of_row _ _ j _ _ (hB8.get 3 rfl)
    have HE := Lib.hid hB8.below
    clear hB8
    go_wp2_with fail
    refine bodyPost_ret (v := .tuple #[rV ⟨0, 0⟩, .int .i64 lt]) (by simp [results, Try.results32, go_sem, c_out, f_out, z_out]) rfl ?_
    exact ⟨by rw [HVB.out lt HX3.out HNZ.out, HX3.out], HE.out⟩
  have lq : (lt != 0) = false := by simpa using hl
  have HZ := Lib.hid (show K.markC a v = 0 by rw [HX3.out]; omega)
  have HU := Lib.hid (show K.mark a v = ot by rw [HOK.out HZ.out]; exact (HX2.out (by rw [← HX.out]; exact HZ.out)).symm)
  clear hl
  have c_v := fun j => cell_of_row _ _ j _ _ _ (hB7.get 0 rfl)
  have z_v := hB7.lt 0 rfl
  have c_lt := fun j => cell_of_row _ _ j _ _ _ (hB7.get 1 rfl)
  have z_lt := hB7.lt 1 rfl
  have c_ot := fun j => cell_of_row _ _ j _ _ _ (hB7.get 2 rfl)
  have z_ot := hB7.lt 2 rfl
  have c_out := fun j => cell_of_row _ _ j _ _ _ (hB7.get 3 rfl)
  have z_out := hB7.lt 3 rfl
  have f_out := fun j => frozen_of_row _ _ j _ _ (hB7.get 3 rfl)
  have c_a := fun j => cell_of_row _ _ j _ _ _ (hB7.get 4 rfl)
  have z_a := hB7.lt 4 rfl
  have c_K := fun j => cell_of_row _ _ j _ _ _ (hB7.get 5 rfl)
  have z_K := hB7.lt 5 rfl
  have HE := Lib.hid (hB7.put 3 rfl (ot)).below
  clear hB7
  go_wp2_with fail
  refine bodyPost_ret (v := .tuple #[rV (ot), .int .i64 (0)]) (by simp [results, Try.results32, go_sem, c_out, f_out, z_out]) rfl ?_
  exact ⟨by rw [HU.out, HZ.out], HE.out⟩
end Go.Proofs.Ytgcbmnohhbcfiaa
