/- Make of package ratio, walked. -/
import Derived.Test.YtpijllobpohpgaaMkP
import Derived.Test.YtpijllobpohpgaaRtA
import Derived.Test.YtpijllobpohpgaaRtW
import Derived.Test.YtpijllobpohpgaaGrow
import Derived.Deep.DeepCutAuto
namespace Go.Proofs.Ytpijllobpohpgaa
open Go.RowKit Go.Deep
set_option linter.unusedVariables false
set_option linter.unusedSimpArgs false

set_option maxRecDepth 100000 in
set_option maxHeartbeats 4000000 in
theorem rmake_any (n d : Int) (hn : -9223372036854775808 ≤ n) (hn' : n ≤ 9223372036854775807) (hd : -9223372036854775808 ≤ d) (hd' : d ≤ 9223372036854775807) (w : World) :
    Calls Try.prog 64 #[.int .i64 n, .int .i64 d] w fun e w' => e = .returned (.tuple #[rV (makeR n d), .int .i64 (makeC n d)]) ∧ Below w.heap.size w w' := by
  by_cases h0 : d = 0
  · have HR := Lib.hid (show makeR n d = ⟨0, 0⟩ by unfold makeR; rw [if_pos h0])
    have HC := Lib.hid (show makeC n d = 18 by unfold makeC; rw [if_pos h0])
    rw [HR.out, HC.out]
    have q : (d == 0) = true := by simpa using h0
    clear h0
    go_enter Try.func64, Try.ntmps64
    go_wp2_with fail
    exact bodyPost_ret (v := .tuple #[.agg #[.int .i64 0, .int .i64 0], .int .i64 18]) (by simp [results, Try.results64, go_sem]) rfl ⟨rfl, one_alloc _ _⟩
  have HR := Lib.hid (show makeR n d = mkR (Rat.divInt n d) by unfold makeR; rw [if_neg h0])
  have HC := Lib.hid (show makeC n d = mkC (Rat.divInt n d) by unfold makeC; rw [if_neg h0])
  rw [HR.out, HC.out]
  have q : (d == 0) = false := by simpa using h0
  have M := makeOf (n := n) h0
  have a1 := absI_lt hn hn'
  have a2 := absI_lt hd hd'
  have b1 := absI_nonneg n
  have b2 := absI_nonneg d
  have HFIN := Lib.hid M.fin
  have HSN := Lib.hid (fun (W : World) => size_any n W hn hn')
  have HSD := Lib.hid (fun (W : World) => size_any d W hd hd')
  have HG := Lib.hid (fun (W : World) => gcd_any (absI n) (absI d) W b1 b2 (by omega) (by omega))
  have g0 := M.g0; have N0 := M.N0; have Nl := M.Nl; have D0 := M.D0; have Dl := M.Dl; have gl := M.gl
  have HSG := Lib.hid (fun (W : World) => signed_any (decide (n < 0) != decide (d < 0)) (absI n / gcdI (absI n) (absI d)) (absI d / gcdI (absI n) (absI d)) W N0 (by omega) (by omega) (by omega))
  unfold signR signC at HSG
  rw [HFIN.out.1, HFIN.out.2] at HSG
  clear M HR HC HFIN h0
  generalize mkR (Rat.divInt n d) = R at *
  generalize mkC (Rat.divInt n d) = C at *
  have v1 : IntKind.u64.wrap ((absI n).tdiv (gcdI (absI n) (absI d))) = absI n / gcdI (absI n) (absI d) := IntWalk.u64_quo _ _ (by omega)
  have v2 : IntKind.u64.wrap ((absI d).tdiv (gcdI (absI n) (absI d))) = absI d / gcdI (absI n) (absI d) := IntWalk.u64_quo _ _ (by omega)
  generalize gcdI (absI n) (absI d) = g at *
  have v3 : ¬ g = 0 := by omega
  generalize absI n = an at *
  generalize absI d = ad at *
  generalize an / g = N at *
  generalize ad / g = D at *
  have HB0 := Lib.hid (one_alloc w (rB ⟨0, 0⟩))
  have hr0 : (w.alloc (rB ⟨0, 0⟩)).heap[w.heap.size]? = some (.cells #[.int .i64 0, .int .i64 0] 36) := heap_new rfl
  obtain ⟨sN, hsN⟩ : ∃ A, decide (n < 0) = A := ⟨_, rfl⟩
  obtain ⟨sD, hsD⟩ : ∃ A, decide (d < 0) = A := ⟨_, rfl⟩
  rw [hsN, hsD] at HSG
  go_enter Try.func64, Try.ntmps64
  go_wp2_with fail
  refine (HSN.out _).mono ?_
  rintro e w1 ⟨rfl, hb1⟩
  go_wp2_with fail
  refine (HSD.out _).mono ?_
  rintro e w2 ⟨rfl, hb2⟩
  go_wp2_with fail
  refine (HG.out _).mono ?_
  rintro e w3 ⟨rfl, hb3⟩
  have HR3 : Below w.heap.size w w3 ∧ ∃ x y : Value, w3.heap[w.heap.size]? = some (.cells #[x, y] 36) :=
    ⟨bcall (bcall (bcall HB0.out HB0.out.size hb1) (bcall HB0.out HB0.out.size hb1).size hb2) (bcall (bcall HB0.out HB0.out.size hb1) (bcall HB0.out HB0.out.size hb1).size hb2).size hb3, _, _, heap_ext (heap_ext (heap_ext hr0 hb1) hb2) hb3⟩
  clear hb1 hb2 hb3 hr0 HSN HSD HG
  go_upto_region 5 with fail
  cases sN <;> cases sD
  all_goals
   simp only [bne_self_eq_false, Bool.true_bne, Bool.false_bne, Bool.not_true, Bool.not_false] at HSG
   have HRG : Grows (fun wx => Below w.heap.size w wx ∧ ∃ x y : Value, wx.heap[w.heap.size]? = some (.cells #[x, y] 36)) := fun _ _ h hb => ⟨bcall h.1 h.1.size hb, h.2.elim fun x h => h.elim fun y h => ⟨x, y, heap_ext h hb⟩⟩
   refine wp_region_grown (fun wx => Below w.heap.size w wx ∧ ∃ x y : Value, wx.heap[w.heap.size]? = some (.cells #[x, y] 36)) HRG ⟨HR3.1.drew, HR3.2⟩ [0, 1, 2, 3, 4, 5, 6, 7, 8, 9, 10, 11, 12, 13] 16 2 (by kernel_rfl) (by kernel_rfl) ?_
   apply Exists.intro
   refine ⟨fun G hG hN => ?_, ?_⟩
   · simp only [pickOps, List.getElem?_toArray, List.getElem?_cons_zero, List.getElem?_cons_succ]
     repeat (first | go_big_quiet_step ((first | (go_at_call 87; exact calls_ge HRG hG (HSG.out _)))) | quiet_step ((first | (go_at_call 87; exact calls_ge HRG hG (HSG.out _)))))
     exact wpQuiet_nil rfl
   refine wpAnyE_all (rs := [14]) (by kernel_rfl) (by simp) (fun W1 hW1 hRW1 i hi => ?_)
   obtain rfl := List.mem_singleton.1 hi
   obtain ⟨x0, x1, hr0⟩ := hRW1.2
   have c1 := fun j => cell_of_row _ _ j _ _ _ hr0
   have c2 := fun j => frozen_of_row _ _ j _ _ hr0
   refine wpOp_step rfl (fun K hK => ?_)
   go_simp
   refine hK _ _ ⟨⟨(hRW1.1.setCell (by simp) _).setCell (by simp) _, _, _, heap_set (heap_set hr0)⟩, ?_⟩
   clear hK K
   clear c1 c2
   refine wpAnyE_all (rs := [15]) (by kernel_rfl) (by simp) (fun W2 hW2 hRW2 i hi => ?_)
   obtain rfl := List.mem_singleton.1 hi
   refine wpOp_step rfl (fun K hK => ?_)
   go_simp
   refine hK _ _ ⟨hRW2, ?_⟩
   clear hK K
   refine wpAnyE_done (by kernel_rfl) (fun W3 hW3 hR3 => ?_) _
   refine NoPanic.normal ?_
   have hr1 := heap_ext (heap_ext (heap_set (heap_set hr0)) hW2) hW3
   have c1 := fun j => cell_of_row _ _ j _ _ _ hr1
   have z1 := lt_some hr1
   go_wp2_with fail
   exact bodyPost_ret (v := .tuple #[rV R, .int .i64 C]) (by simp [results, Try.results64, go_sem, c1, z1]) rfl ⟨rfl, hR3.1⟩
end Go.Proofs.Ytpijllobpohpgaa
