/- The small functions of the reference of ratios, walked: gcd, abs, Check, Both. -/
import Derived.Test.YtgcbmnohhbcfiaaRtA
import Derived.Deep.RegionHeld3
import Derived.Deep.DrawnRows
namespace Go.Proofs.Ytgcbmnohhbcfiaa
open Go.RowKit
set_option linter.unusedVariables false
set_option linter.unusedSimpArgs false

set_option maxHeartbeats 1000000 in
theorem fgcd_any (a b : Int) (w : World) (ha : 0 ≤ a) (hb : 0 ≤ b) (ha' : a ≤ 18446744073709551615) (hb' : b ≤ 18446744073709551615) :
    Calls Try.prog 87 #[.int .u64 a, .int .u64 b] w fun e w' => e = .returned (.int .u64 (gcdI a b)) ∧ Below w.heap.size w w' := by
  go_enter Try.func87, Try.ntmps87
  go_wp2_with fail
  go_loopw [0, 1] (fun x y wr => ∃ p q : Int, 0 ≤ p ∧ 0 ≤ q ∧ p ≤ 18446744073709551615 ∧ q ≤ 18446744073709551615 ∧ x = .int .u64 p ∧ y = .int .u64 q ∧ Hid (gcdI p q = gcdI a b) ∧ Below w.heap.size w wr) (fun _ y _ => (intOf y).toNat)
  case atStart => exact ⟨a, b, ha, hb, ha', hb', rfl, rfl, Lib.hid rfl, Below.refl _ _⟩
  case round =>
    obtain ⟨p, q, hp, hq, hp', hq', rfl, rfl, hg, hB⟩ := hrel
    by_cases h0 : 0 < q
    · have hm := Int.emod_nonneg p (show q ≠ 0 by omega)
      have hm2 := Int.emod_lt_of_pos p h0
      have HG := Lib.hid (show gcdI q (p % q) = gcdI a b by rw [gcdI_step hp hq]; exact hg.out)
      clear hg
      go_wp2_with fail
      go_quiet (fail)
      go_wp2_with fail
      go_roundw
      case rel => exact ⟨q, p % q, hq, hm, hq', by omega, rfl, rfl, HG, below_drewN hB _⟩
      case measure => simp [intOf]; omega
    · obtain rfl : q = 0 := by omega
      have HG := Lib.hid (show p = gcdI a b by rw [← hg.out, gcdI_zero hp])
      clear hg
      go_wp2_with fail
      go_ret
      exact ⟨ret_int HG.out, hB⟩

theorem fabs_any (n : Int) (w : World) (h : -9223372036854775808 ≤ n) (k : n ≤ 9223372036854775807) :
    Calls Try.prog 88 #[.int .i64 n] w fun e w' => e = .returned (.int .u64 (absI n)) ∧ Below w.heap.size w w' := by
  by_cases h0 : n < 0
  · have HA := Lib.hid (absI_neg h0)
    have w1 : IntKind.i64.wrap (n + 1) = n + 1 := IntWalk.i64_in _ (by omega)
    have w2 : IntKind.i64.wrap (-(n + 1)) = -(n + 1) := IntWalk.i64_in _ (by omega)
    have w3 : IntKind.u64.wrap (-(n + 1)) = -(n + 1) := IntWalk.u64_in _ (by omega)
    have w4 : IntKind.u64.wrap (-(n + 1) + 1) = -(n + 1) + 1 := IntWalk.u64_in _ (by omega)
    go_enter Try.func88, Try.ntmps88
    go_wp2_with fail
    go_ret
    exact ⟨ret_int (by rw [HA.out]; omega), Below.refl _ _⟩
  · have HA := Lib.hid (absI_pos (by omega : 0 ≤ n))
    go_enter Try.func88, Try.ntmps88
    go_wp2_with fail
    go_ret
    exact ⟨ret_int (by rw [HA.out]; try (simp only [IntKind.wrap_u64]; omega)), Below.refl _ _⟩

set_option maxRecDepth 100000 in
set_option maxHeartbeats 1000000 in
theorem fcheck_any (a : Rt) (h : a.wf) (w : World) :
    Calls Try.prog 30 #[rV a] w fun e w' => e = .returned (.int .i64 a.code) ∧ Below w.heap.size w w' := by
  have hbx : (w.alloc (rB a)).heap[w.heap.size]? = some (rB a) := heap_new rfl
  have cbx := fun j => cell_of_row _ _ j _ _ _ hbx
  have hB := one_alloc w (rB a)
  have z0 := lt_some hbx
  obtain ⟨n, d⟩ := a
  have h0 := h.n0; have h1 := h.n1; have h2 := h.d0; have h3 := h.d1
  simp only at h0 h1 h2 h3 hbx cbx hB z0
  unfold rV
  simp only
  by_cases q : d < 1
  · have HC := Lib.hid (Rt.bad1 (a := ⟨n, d⟩) q)
    have q1 : decide (d < 1) = true := by simpa using q
    clear q h hbx
    go_enter Try.func30, Try.ntmps30
    go_wp2_with fail
    generalize w.alloc _ = w2 at cbx z0 hB ⊢
    refine wp_region_ext (by kernel_rfl) (by kernel_rfl) ?_
    repeat (first | go_big_quiet_step (fail) | quiet_step (fail))
    refine wpQuiet_nil ?_
    rintro _ ⟨⟨w5, hb5⟩, rfl⟩
    go_wp2_with fail
    go_ret
    exact ⟨ret_int HC.out.symm, bcall hB hB.size hb5⟩
  have q1 : decide (d < 1) = false := by simpa using q
  have e1 : IntKind.u64.wrap d = d := IntWalk.u64_in _ (by omega)
  have a0 := absI_nonneg n
  have a1 := absI_lt h0 h1
  have HG := Lib.hid (fun (W : World) => fgcd_any (absI n) d W a0 (by omega) (by omega) (by omega))
  have HS := Lib.hid (fun (W : World) => fabs_any n W h0 h1)
  rw [gcdI_abs] at HG
  have dpos : 1 ≤ d := by omega
  clear hbx h q
  by_cases k1 : 1000000000000000000 < d
  · have HC := Lib.hid (Rt.bad2 (a := ⟨n, d⟩) (by simp only; omega) (by simp only; unfold maxI; split <;> omega))
    have t1 : decide (1000000000000000000 < d) = true := by simpa using k1
    clear k1
    go_enter Try.func30, Try.ntmps30
    go_wp2_with fail
    generalize w.alloc _ = w2 at cbx z0 hB ⊢
    refine wp_region_ext (by kernel_rfl) (by kernel_rfl) ?_
    repeat (first | go_big_quiet_step ((first | (go_at_call 88; exact calls_ext (HS.out _)) | (go_at_call 87; exact calls_ext (HG.out _)))) | quiet_step ((first | (go_at_call 88; exact calls_ext (HS.out _)) | (go_at_call 87; exact calls_ext (HG.out _)))))
    refine wpQuiet_nil ?_
    rintro _ ⟨⟨w5, hb5⟩, rfl⟩
    go_wp2_with fail
    go_ret
    exact ⟨ret_int HC.out.symm, bcall hB hB.size hb5⟩
  have t1 : decide (1000000000000000000 < d) = false := by simpa using k1
  by_cases k2 : n < -1000000000000000000
  · have HC := Lib.hid (Rt.bad2 (a := ⟨n, d⟩) (by simp only; omega) (by simp only; unfold maxI absI; split <;> omega))
    have t2 : decide (n < -1000000000000000000) = true := by simpa using k2
    clear k1 k2
    go_enter Try.func30, Try.ntmps30
    go_wp2_with fail
    generalize w.alloc _ = w2 at cbx z0 hB ⊢
    refine wp_region_ext (by kernel_rfl) (by kernel_rfl) ?_
    repeat (first | go_big_quiet_step ((first | (go_at_call 88; exact calls_ext (HS.out _)) | (go_at_call 87; exact calls_ext (HG.out _)))) | quiet_step ((first | (go_at_call 88; exact calls_ext (HS.out _)) | (go_at_call 87; exact calls_ext (HG.out _)))))
    refine wpQuiet_nil ?_
    rintro _ ⟨⟨w5, hb5⟩, rfl⟩
    go_wp2_with fail
    go_ret
    exact ⟨ret_int HC.out.symm, bcall hB hB.size hb5⟩
  have t2 : decide (n < -1000000000000000000) = false := by simpa using k2
  by_cases k3 : 1000000000000000000 < n
  · have HC := Lib.hid (Rt.bad2 (a := ⟨n, d⟩) (by simp only; omega) (by simp only; unfold maxI absI; split <;> omega))
    have t3 : decide (1000000000000000000 < n) = true := by simpa using k3
    clear k1 k2 k3
    go_enter Try.func30, Try.ntmps30
    go_wp2_with fail
    generalize w.alloc _ = w2 at cbx z0 hB ⊢
    refine wp_region_ext (by kernel_rfl) (by kernel_rfl) ?_
    repeat (first | go_big_quiet_step ((first | (go_at_call 88; exact calls_ext (HS.out _)) | (go_at_call 87; exact calls_ext (HG.out _)))) | quiet_step ((first | (go_at_call 88; exact calls_ext (HS.out _)) | (go_at_call 87; exact calls_ext (HG.out _)))))
    refine wpQuiet_nil ?_
    rintro _ ⟨⟨w5, hb5⟩, rfl⟩
    go_wp2_with fail
    go_ret
    exact ⟨ret_int HC.out.symm, bcall hB hB.size hb5⟩
  have t3 : decide (1000000000000000000 < n) = false := by simpa using k3
  have gp := gcdI_pos (a := n) (b := d) (by omega)
  by_cases k4 : gcdI n d = 1
  · have HC := Lib.hid (Rt.good (a := ⟨n, d⟩) (by simp only; omega) (by simp only; unfold maxI absI; split <;> omega) (by simp only; omega))
    have t4 : (gcdI n d != 1) = false := by simpa using k4
    clear k1 k2 k3 k4 gp
    go_enter Try.func30, Try.ntmps30
    go_wp2_with fail
    generalize w.alloc _ = w2 at cbx z0 hB ⊢
    refine wp_region_ext (by kernel_rfl) (by kernel_rfl) ?_
    repeat (first | go_big_quiet_step ((first | (go_at_call 88; exact calls_ext (HS.out _)) | (go_at_call 87; exact calls_ext (HG.out _)))) | quiet_step ((first | (go_at_call 88; exact calls_ext (HS.out _)) | (go_at_call 87; exact calls_ext (HG.out _)))))
    refine wpQuiet_nil ?_
    rintro _ ⟨⟨w5, hb5⟩, rfl⟩
    go_wp2_with fail
    go_ret
    exact ⟨ret_int HC.out.symm, bcall hB hB.size hb5⟩
  · have HC := Lib.hid (Rt.bad3 (a := ⟨n, d⟩) (by simp only; omega))
    have t4 : (gcdI n d != 1) = true := by simpa using k4
    clear k1 k2 k3 k4 gp
    go_enter Try.func30, Try.ntmps30
    go_wp2_with fail
    generalize w.alloc _ = w2 at cbx z0 hB ⊢
    refine wp_region_ext (by kernel_rfl) (by kernel_rfl) ?_
    repeat (first | go_big_quiet_step ((first | (go_at_call 88; exact calls_ext (HS.out _)) | (go_at_call 87; exact calls_ext (HG.out _)))) | quiet_step ((first | (go_at_call 88; exact calls_ext (HS.out _)) | (go_at_call 87; exact calls_ext (HG.out _)))))
    refine wpQuiet_nil ?_
    rintro _ ⟨⟨w5, hb5⟩, rfl⟩
    go_wp2_with fail
    go_ret
    exact ⟨ret_int HC.out.symm, bcall hB hB.size hb5⟩

set_option maxRecDepth 100000 in
set_option maxHeartbeats 2000000 in
theorem fboth_any (a b : Rt) (h : a.wf) (k : b.wf) (w : World) :
    Calls Try.prog 136 #[rV a, rV b] w fun e w' => e = .returned (.int .i64 (code2 a b)) ∧ Below w.heap.size w w' := by
  have HA := Lib.hid (fun (W : World) => fcheck_any a h W)
  have HB := Lib.hid (fun (W : World) => fcheck_any b k W)
  have hb1 : ((w.alloc (rB a)).alloc (rB b)).heap[w.heap.size]? = some (rB a) := heap_old (heap_new rfl)
  have hb2 : ((w.alloc (rB a)).alloc (rB b)).heap[w.heap.size + 1]? = some (rB b) := heap_new (by simp)
  have hBe : Below w.heap.size w ((w.alloc (rB a)).alloc (rB b)) := (one_alloc w (rB a)).alloc (by simp) _
  by_cases h0 : a.code = 0
  · have HC := Lib.hid (show code2 a b = b.code by unfold code2; rw [if_neg (by simpa using h0)])
    rw [h0] at HA
    clear h k h0
    generalize b.code = cb at HB HC
    go_enter Try.func136, Try.ntmps136
    go_wp2_with fail
    refine (HA.out _).mono ?_
    rintro e w1 ⟨rfl, hb⟩
    have hb3 := bcall hBe hBe.size hb
    have c2 := fun j => cell_of_row _ _ j _ _ _ (heap_ext hb2 hb)
    go_wp2_with fail
    refine (HB.out _).mono ?_
    rintro e w2 ⟨rfl, hb4⟩
    go_wp2_with fail
    go_ret
    exact ⟨ret_int HC.out.symm, bcall hb3 hb3.size hb4⟩
  · have HC := Lib.hid (show code2 a b = a.code by unfold code2; rw [if_pos h0])
    have q : (a.code != 0) = true := by simpa using h0
    clear h k h0
    generalize a.code = ca at HA HC q
    go_enter Try.func136, Try.ntmps136
    go_wp2_with fail
    refine (HA.out _).mono ?_
    rintro e w1 ⟨rfl, hb⟩
    have hb3 := bcall hBe hBe.size hb
    have c2 := fun j => cell_of_row _ _ j _ _ _ (heap_ext hb1 hb)
    go_wp2_with fail
    refine (HA.out _).mono ?_
    rintro e w2 ⟨rfl, hb4⟩
    go_wp2_with fail
    go_ret
    exact ⟨ret_int HC.out.symm, bcall hb3 hb3.size hb4⟩
end Go.Proofs.Ytgcbmnohhbcfiaa
