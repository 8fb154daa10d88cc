/- The reference's Less, walked. -/
import Derived.Test.YtgcbmnohhbcfiaaRfC
import Derived.Test.YtgcbmnohhbcfiaaGrow
import Derived.Deep.DeepCutAuto
namespace Go.Proofs.Ytgcbmnohhbcfiaa
open Go.RowKit Go.Deep
set_option linter.unusedVariables false
set_option linter.unusedSimpArgs false

theorem DuoIn.set {w : World} {a b : Rt} {wr : World} (h : DuoIn w a b wr) {g : Nat} (hg : w.heap.size + 2 ≤ g) (j : Nat) (u : Value) : DuoIn w a b (wr.setCell ⟨g, j, none⟩ u) :=
  ⟨h.below.setCell (show w.heap.size ≤ g by omega) _, by rw [heap_set_ne (by omega)]; exact h.ba, by rw [heap_set_ne (by omega)]; exact h.bb⟩

def ltB (a b : Rt) : Bool := decide (a.q < b.q)
theorem ltB_signs {a b : Rt} (ha : a.Ok) (hb : b.Ok) (h : ¬ (a.n < 0 ↔ b.n < 0)) : ltB a b = decide (a.n < 0) := by
  have h1 := cmp_signs ha hb h
  have h2 := cmpR_neg ha hb
  rw [h1] at h2
  unfold ltB
  rw [decide_eq_decide, ← h2]
  unfold cmpI; split <;> (try split) <;> omega
theorem ltB_same {a b : Rt} (ha : a.Ok) (hb : b.Ok) (h : (a.n < 0 ↔ b.n < 0)) : ltB a b = if a.n < 0 then decide (absI b.n * a.d < absI a.n * b.d) else decide (absI a.n * b.d < absI b.n * a.d) := by
  have h1 := cmp_same ha hb h
  have h2 := cmpR_neg ha hb
  rw [h1] at h2
  unfold ltB
  split
  · rename_i k
    rw [if_pos k] at h2
    rw [decide_eq_decide, ← h2]
    unfold cmpI; split <;> (try split) <;> omega
  · rename_i k
    rw [if_neg k] at h2
    rw [decide_eq_decide, ← h2]
    unfold cmpI; split <;> (try split) <;> omega

set_option maxRecDepth 100000 in
set_option maxHeartbeats 8000000 in
theorem flt_any (a b : Rt) (oa : a.Ok) (ob : b.Ok) (w : World) :
    Calls Try.prog 35 #[rV a, rV b] w fun e w' => e = .returned (.bool (ltB a b)) ∧ Below w.heap.size w w' := by
  have hT0 := DuoIn.start w a b
  by_cases hs : (a.n < 0 ↔ b.n < 0)
  rotate_left
  · have HL := Lib.hid (ltB_signs oa ob hs)
    by_cases ks : a.n < 0
    all_goals
      first
        | (have q3 : decide (a.n < 0) = true := by simpa using ks
           have q4 : decide (b.n < 0) = false := by simp; omega)
        | (have q3 : decide (a.n < 0) = false := by simpa using ks
           have q4 : decide (b.n < 0) = true := by simp; omega)
      have HQ := Lib.hid q3
      clear hs ks
      go_enter Try.func35, Try.ntmps35
      go_wp2_with fail
      go_ret
      exact ⟨ret_bool (by rw [HL.out, HQ.out]), hT0.below⟩
  have HL := Lib.hid (ltB_same oa ob hs)
  have n0 := oa.n0; have n1 := oa.n1; have d0 := oa.d0; have d1 := oa.d1
  have m0 := ob.n0; have m1 := ob.n1; have e0 := ob.d0; have e1 := ob.d1
  have an := absI_nonneg a.n
  have al : absI a.n ≤ 1000000000000000000 := by unfold absI; omega
  have bn := absI_nonneg b.n
  have bl : absI b.n ≤ 1000000000000000000 := by unfold absI; omega
  have HS1 := Lib.hid (fun (W : World) => fabs_any a.n W (by omega) (by omega))
  have HS2 := Lib.hid (fun (W : World) => fabs_any b.n W (by omega) (by omega))
  have HM1 := Lib.hid (fun (W : World) => times_any (absI a.n) b.d W an (by omega) (by omega) (by omega))
  have HM2 := Lib.hid (fun (W : World) => times_any (absI b.n) a.d W bn (by omega) (by omega) (by omega))
  have wd1 : IntKind.u64.wrap a.d = a.d := IntWalk.u64_in _ (by omega)
  have wd2 : IntKind.u64.wrap b.d = b.d := IntWalk.u64_in _ (by omega)
  by_cases ks : a.n < 0
  all_goals
    first
      | (have q3 : decide (a.n < 0) = true := by simpa using ks
         have q4 : decide (b.n < 0) = true := by simp; omega
         have HR := Lib.hid (HL.out.trans (if_pos ks)))
      | (have q3 : decide (a.n < 0) = false := by simpa using ks
         have q4 : decide (b.n < 0) = false := by simp; omega
         have HR := Lib.hid (HL.out.trans (if_neg ks)))
    clear hs ks
    generalize absI a.n * b.d = X at *
    generalize absI b.n * a.d = Y at *
    have HF := Lib.hid (fun (W : World) => fless_any X Y W)
    have HF2 := Lib.hid (fun (W : World) => fless_any Y X W)
    go_enter Try.func35, Try.ntmps35
    go_upto_region 3 with fail
    generalize (w.alloc _).alloc _ = w0 at hT0 ⊢
    go_cut [5, 6] (fun s5 s6 wx => ∃ g5 g6, s5 = .pointer (some ⟨g5, 0, none⟩) ∧ s6 = .pointer (some ⟨g6, 0, none⟩) ∧ DuoIn w a b wx ∧ wx.heap[g5]? = some (wB X) ∧ wx.heap[g6]? = some (wB Y))
    case first =>
      have HRG : Grows (DuoIn w a b) := fun _ _ h hb => h.next hb
      refine wp_region_grown (DuoIn w a b) HRG ((hT0).next (Below.refl _ _).drew) [0, 1, 2, 3, 4, 5, 6, 7, 8, 9, 10, 11, 12, 13] 18 4 (by kernel_rfl) (by kernel_rfl) ?_
      apply Exists.intro
      refine ⟨fun G hG hN => ?_, ?_⟩
      · have ca := fun (e : GE (DuoIn w a b) G) j => cell_of_row e.w _ j _ _ _ e.h.ba
        have cb := fun (e : GE (DuoIn w a b) G) j => cell_of_row e.w _ j _ _ _ e.h.bb
        simp only [pickOps, List.getElem?_toArray, List.getElem?_cons_zero, List.getElem?_cons_succ]
        repeat (first | go_big_quiet_step ((first | (go_at_call 88; first | (with_reducible exact calls_ge HRG hG (HS1.out _)) | (with_reducible exact calls_ge HRG hG (HS2.out _))) | (go_at_call 95; first | (with_reducible exact calls_ge HRG hG (HM1.out _)) | (with_reducible exact calls_ge HRG hG (HM2.out _))))) | quiet_step ((first | (go_at_call 88; first | (with_reducible exact calls_ge HRG hG (HS1.out _)) | (with_reducible exact calls_ge HRG hG (HS2.out _))) | (go_at_call 95; first | (with_reducible exact calls_ge HRG hG (HM1.out _)) | (with_reducible exact calls_ge HRG hG (HM2.out _))))))
        exact wpQuiet_nil rfl
      refine wpAnyE_all (rs := [14, 15]) (by kernel_rfl) (by simp) (fun W1 hW1 hRW1 i hi => ?_)
      rcases List.mem_cons.1 hi with rfl | hi
      · refine wpOp_step rfl (fun K hK => ?_)
        go_simp
        refine hK _ _ ⟨hRW1.next (one_alloc _ _), ?_⟩
        clear hK K
        refine wpAnyE_all (rs := [15]) (by kernel_rfl) (by simp) (fun W2 hW2 hRW2 i hi => ?_)
        obtain rfl := List.mem_singleton.1 hi
        have hx1 := heap_ext (heap_new (w := W1) (o := Obj.cells #[.int .u64 0, .int .u64 0] 133) rfl) hW2
        refine wpOp_step rfl (fun K hK => ?_)
        go_simp
        refine hK _ _ ⟨hRW2.next (one_alloc _ _), ?_⟩
        clear hK K
        refine wpAnyE_all (rs := [16]) (by kernel_rfl) (by simp) (fun W3 hW3 hRW3 i hi => ?_)
        obtain rfl := List.mem_singleton.1 hi
        have hx2 := heap_ext (heap_new (w := W2) (o := Obj.cells #[.int .u64 0, .int .u64 0] 133) rfl) hW3
        have hx1 := heap_ext (heap_old hx1) hW3
        have hne : W1.heap.size ≠ W2.heap.size := by have := hW2.size; simp at this; omega
        have s1 : w.heap.size + 2 ≤ W1.heap.size := by have := lt_some hRW1.bb; omega
        have s2 : w.heap.size + 2 ≤ W2.heap.size := by have := lt_some hRW2.bb; omega
        have c1 := fun j => cell_of_row _ _ j _ _ _ hx1
        have f1 := fun j => frozen_of_row _ _ j _ _ hx1
        refine wpOp_step rfl (fun K hK => ?_)
        go_simp
        refine hK _ _ ⟨(hRW3.set s1 _ _).set s1 _ _, ?_⟩
        clear hK K
        clear c1 f1
        refine wpAnyE_all (rs := [17]) (by kernel_rfl) (by simp) (fun W4 hW4 hRW4 i hi => ?_)
        obtain rfl := List.mem_singleton.1 hi
        have y5 := heap_ext (heap_set (j := 1) (u := .int .u64 (lo64 X)) (heap_set (j := 0) (u := .int .u64 (hi64 X)) hx1)) hW4
        have y6 := heap_ext (by rw [heap_set_ne (Ne.symm hne), heap_set_ne (Ne.symm hne)]; exact hx2) hW4
        have c1 := fun j => cell_of_row _ _ j _ _ _ y6
        have f1 := fun j => frozen_of_row _ _ j _ _ y6
        refine wpOp_step rfl (fun K hK => ?_)
        go_simp
        refine hK _ _ ⟨(hRW4.set s2 _ _).set s2 _ _, ?_⟩
        clear hK K
        clear c1 f1
        refine wpAnyE_done (by kernel_rfl) (fun W5 hW5 hR5 => ?_) _
        refine NoPanic.normal ?_
        have z6 := heap_ext (heap_set (j := 1) (u := .int .u64 (lo64 Y)) (heap_set (j := 0) (u := .int .u64 (hi64 Y)) y6)) hW5
        have z5 := heap_ext (by rw [heap_set_ne hne, heap_set_ne hne]; exact y5) hW5
        go_wp2_with fail
        go_meet
        exact ⟨_, _, rfl, rfl, hR5, z5, z6⟩
      · obtain rfl := List.mem_singleton.1 hi
        refine wpOp_step rfl (fun K hK => ?_)
        go_simp
        refine hK _ _ ⟨hRW1.next (one_alloc _ _), ?_⟩
        clear hK K
        refine wpAnyE_all (rs := [14]) (by kernel_rfl) (by simp) (fun W2 hW2 hRW2 i hi => ?_)
        obtain rfl := List.mem_singleton.1 hi
        have hx1 := heap_ext (heap_new (w := W1) (o := Obj.cells #[.int .u64 0, .int .u64 0] 133) rfl) hW2
        refine wpOp_step rfl (fun K hK => ?_)
        go_simp
        refine hK _ _ ⟨hRW2.next (one_alloc _ _), ?_⟩
        clear hK K
        refine wpAnyE_all (rs := [16]) (by kernel_rfl) (by simp) (fun W3 hW3 hRW3 i hi => ?_)
        obtain rfl := List.mem_singleton.1 hi
        have hx2 := heap_ext (heap_new (w := W2) (o := Obj.cells #[.int .u64 0, .int .u64 0] 133) rfl) hW3
        have hx1 := heap_ext (heap_old hx1) hW3
        have hne : W1.heap.size ≠ W2.heap.size := by have := hW2.size; simp at this; omega
        have s1 : w.heap.size + 2 ≤ W1.heap.size := by have := lt_some hRW1.bb; omega
        have s2 : w.heap.size + 2 ≤ W2.heap.size := by have := lt_some hRW2.bb; omega
        have c1 := fun j => cell_of_row _ _ j _ _ _ hx2
        have f1 := fun j => frozen_of_row _ _ j _ _ hx2
        refine wpOp_step rfl (fun K hK => ?_)
        go_simp
        refine hK _ _ ⟨(hRW3.set s2 _ _).set s2 _ _, ?_⟩
        clear hK K
        clear c1 f1
        refine wpAnyE_all (rs := [17]) (by kernel_rfl) (by simp) (fun W4 hW4 hRW4 i hi => ?_)
        obtain rfl := List.mem_singleton.1 hi
        have y5 := heap_ext (heap_set (j := 1) (u := .int .u64 (lo64 X)) (heap_set (j := 0) (u := .int .u64 (hi64 X)) hx2)) hW4
        have y6 := heap_ext (by rw [heap_set_ne (Ne.symm (Ne.symm hne)), heap_set_ne (Ne.symm (Ne.symm hne))]; exact hx1) hW4
        have c1 := fun j => cell_of_row _ _ j _ _ _ y6
        have f1 := fun j => frozen_of_row _ _ j _ _ y6
        refine wpOp_step rfl (fun K hK => ?_)
        go_simp
        refine hK _ _ ⟨(hRW4.set s1 _ _).set s1 _ _, ?_⟩
        clear hK K
        clear c1 f1
        refine wpAnyE_done (by kernel_rfl) (fun W5 hW5 hR5 => ?_) _
        refine NoPanic.normal ?_
        have z6 := heap_ext (heap_set (j := 1) (u := .int .u64 (lo64 Y)) (heap_set (j := 0) (u := .int .u64 (hi64 Y)) y6)) hW5
        have z5 := heap_ext (by rw [heap_set_ne (Ne.symm hne), heap_set_ne (Ne.symm hne)]; exact y5) hW5
        go_wp2_with fail
        go_meet
        exact ⟨_, _, rfl, rfl, hR5, z5, z6⟩
    case rest =>
      obtain ⟨g5, g6, rfl, rfl, hB, y5, y6⟩ := hcut
      have ca := fun j => cell_of_row _ _ j _ _ _ hB.ba
      have c5 := fun j => cell_of_row _ _ j _ _ _ y5
      have c6 := fun j => cell_of_row _ _ j _ _ _ y6
      have hBw := hB.below
      clear y5 y6 hB HS1 HS2 HM1 HM2
      go_wp2_with fail
      first
        | ((with_reducible refine (HF.out _).mono ?_); rintro e w7 ⟨rfl, hb7⟩)
        | ((with_reducible refine (HF2.out _).mono ?_); rintro e w7 ⟨rfl, hb7⟩)
      have hend := bcall hBw hBw.size hb7
      clear hb7 hBw ca c5 c6 HF HF2
      go_wp2_with fail
      go_ret
      exact ⟨ret_bool HR.out.symm, hend⟩
end Go.Proofs.Ytgcbmnohhbcfiaa
