/- The small functions of package ratio, walked: gcd, size, Check, signed. -/
import Derived.Test.YtgcbmnohhbcfiaaWords
import Derived.Test.YtgcbmnohhbcfiaaRtPlain
import Derived.IntWalk
import Derived.PlainAid
import Derived.Outline
namespace Go.Proofs.Ytgcbmnohhbcfiaa
open Go.RowKit
set_option linter.unusedVariables false
set_option linter.unusedSimpArgs false

theorem one_alloc (w : World) (o : Obj) : Below w.heap.size w (w.alloc o) := (Below.refl _ _).alloc (Nat.le_refl _) o
theorem below_drewN {B : Nat} {w w1 : World} (h : Below B w w1) (n : Nat) : Below B w (w1.drewN n) := ⟨h.os, h.tape, h.output, h.size, h.block⟩

set_option maxHeartbeats 1000000 in
theorem gcd_any (a b : Int) (w : World) (ha : 0 ≤ a) (hb : 0 ≤ b) (ha' : a ≤ 18446744073709551615) (hb' : b ≤ 18446744073709551615) :
    Calls Try.prog 98 #[.int .u64 a, .int .u64 b] w fun e w' => e = .returned (.int .u64 (gcdI a b)) ∧ Below w.heap.size w w' := by
  go_enter Try.func98, Try.ntmps98
  go_wp2_with fail
  go_loopw [0, 1] (fun x y wr => ∃ p q : Int, 0 ≤ p ∧ 0 ≤ q ∧ p ≤ 18446744073709551615 ∧ q ≤ 18446744073709551615 ∧ x = .int .u64 p ∧ y = .int .u64 q ∧ Hid (gcdI p q = gcdI a b) ∧ Below w.heap.size w wr) (fun _ y _ => (intOf y).toNat)
  case atStart => exact ⟨a, b, ha, hb, ha', hb', rfl, rfl, Lib.hid rfl, Below.refl _ _⟩
  case round =>
    obtain ⟨p, q, hp, hq, hp', hq', rfl, rfl, hg, hB⟩ := hrel
    by_cases h0 : 0 < q
    · have hm := Int.emod_nonneg p (show q ≠ 0 by omega)
      have hm2 := Int.emod_lt_of_pos p h0
      have HG := Lib.hid (show gcdI q (p % q) = gcdI a b by rw [gcdI_step hp hq]; exact hg.out)
      clear hg
      go_wp2_with fail
      go_quiet (fail)
      go_wp2_with fail
      go_roundw
      case rel => exact ⟨q, p % q, hq, hm, hq', by omega, rfl, rfl, HG, below_drewN hB _⟩
      case measure => simp [intOf]; omega
    · obtain rfl : q = 0 := by omega
      have HG := Lib.hid (show p = gcdI a b by rw [← hg.out, gcdI_zero hp])
      clear hg
      go_wp2_with fail
      go_ret
      exact ⟨ret_int HG.out, hB⟩

theorem size_any (n : Int) (w : World) (h : -9223372036854775808 ≤ n) (k : n ≤ 9223372036854775807) :
    Calls Try.prog 100 #[.int .i64 n] w fun e w' => e = .returned (.int .u64 (absI n)) ∧ Below w.heap.size w w' := by
  by_cases h0 : n < 0
  · have HA := Lib.hid (absI_neg h0)
    go_enter Try.func100, Try.ntmps100
    go_wp2_with fail
    go_ret
    exact ⟨ret_int (by rw [HA.out]; simp only [IntKind.wrap_u64]; omega), Below.refl _ _⟩
  · have HA := Lib.hid (absI_pos (by omega : 0 ≤ n))
    go_enter Try.func100, Try.ntmps100
    go_wp2_with fail
    go_ret
    exact ⟨ret_int (by rw [HA.out]; try (simp only [IntKind.wrap_u64]; omega)), Below.refl _ _⟩

abbrev rV (a : Rt) : Value := .agg #[.int .i64 a.n, .int .i64 a.d]
abbrev rB (a : Rt) : Obj := .cells #[.int .i64 a.n, .int .i64 a.d] 37

set_option maxRecDepth 100000 in
set_option maxHeartbeats 1000000 in
theorem rcheck_any (a : Rt) (h : a.wf) (w : World) :
    Calls Try.prog 89 #[rV a] w fun e w' => e = .returned (.int .i64 a.code) ∧ Below w.heap.size w w' := by
  have hbx : (w.alloc (rB a)).heap[w.heap.size]? = some (rB a) := heap_new rfl
  have cbx := fun j => cell_of_row _ _ j _ _ _ hbx
  have hB := one_alloc w (rB a)
  have z0 := lt_some hbx
  obtain ⟨n, d⟩ := a
  have h0 := h.n0; have h1 := h.n1; have h2 := h.d0; have h3 := h.d1
  simp only at h0 h1 h2 h3 hbx cbx hB z0
  unfold rV
  simp only
  by_cases q : d < 1
  · have HC := Lib.hid (Rt.bad1 (a := ⟨n, d⟩) q)
    have q1 : decide (d < 1) = true := by simpa using q
    clear q h hbx
    go_enter Try.func89, Try.ntmps89
    go_wp2_with fail
    generalize w.alloc _ = w2 at cbx z0 hB ⊢
    refine wp_region_ext (by kernel_rfl) (by kernel_rfl) ?_
    repeat (first | go_big_quiet_step (fail) | quiet_step (fail))
    refine wpQuiet_nil ?_
    rintro _ ⟨⟨w5, hb5⟩, rfl⟩
    go_wp2_with fail
    go_ret
    exact ⟨ret_int HC.out.symm, bcall hB hB.size hb5⟩
  have q1 : decide (d < 1) = false := by simpa using q
  have e1 : IntKind.u64.wrap d = d := IntWalk.u64_in _ (by omega)
  have a0 := absI_nonneg n
  have a1 := absI_lt h0 h1
  have HG := Lib.hid (fun (W : World) => gcd_any (absI n) d W a0 (by omega) (by omega) (by omega))
  have HS := Lib.hid (fun (W : World) => size_any n W h0 h1)
  rw [gcdI_abs] at HG
  have em : (if absI n < d then d else absI n) = maxI (absI n) d := rfl
  have dpos : 1 ≤ d := by omega
  clear hbx h
  by_cases qm : 1000000000000000000 < maxI (absI n) d
  · have HC := Lib.hid (Rt.bad2 (a := ⟨n, d⟩) (by simp only; omega) qm)
    have q2 : decide (1000000000000000000 < maxI (absI n) d) = true := by simpa using qm
    generalize maxI (absI n) d = mx at em q2
    clear q qm
    go_enter Try.func89, Try.ntmps89
    go_wp2_with fail
    generalize w.alloc _ = w2 at cbx z0 hB ⊢
    refine wp_region_ext (by kernel_rfl) (by kernel_rfl) ?_
    repeat (first | go_big_quiet_step ((first | (go_at_call 100; exact calls_ext (HS.out _)) | (go_at_call 98; exact calls_ext (HG.out _)))) | quiet_step ((first | (go_at_call 100; exact calls_ext (HS.out _)) | (go_at_call 98; exact calls_ext (HG.out _)))))
    refine wpQuiet_nil ?_
    rintro _ ⟨⟨w5, hb5⟩, rfl⟩
    go_wp2_with fail
    go_ret
    exact ⟨ret_int HC.out.symm, bcall hB hB.size hb5⟩
  have q2 : decide (1000000000000000000 < maxI (absI n) d) = false := by simpa using qm
  by_cases qg : 1 < gcdI n d
  · have HC := Lib.hid (Rt.bad3 (a := ⟨n, d⟩) qg)
    have q3 : decide (1 < gcdI n d) = true := by simpa using qg
    generalize maxI (absI n) d = mx at em q2
    clear q qm qg
    go_enter Try.func89, Try.ntmps89
    go_wp2_with fail
    generalize w.alloc _ = w2 at cbx z0 hB ⊢
    refine wp_region_ext (by kernel_rfl) (by kernel_rfl) ?_
    repeat (first | go_big_quiet_step ((first | (go_at_call 100; exact calls_ext (HS.out _)) | (go_at_call 98; exact calls_ext (HG.out _)))) | quiet_step ((first | (go_at_call 100; exact calls_ext (HS.out _)) | (go_at_call 98; exact calls_ext (HG.out _)))))
    refine wpQuiet_nil ?_
    rintro _ ⟨⟨w5, hb5⟩, rfl⟩
    go_wp2_with fail
    go_ret
    exact ⟨ret_int HC.out.symm, bcall hB hB.size hb5⟩
  · have HC := Lib.hid (Rt.good (a := ⟨n, d⟩) (by simp only; omega) (by simp only; omega) (by simp only; omega))
    have q3 : decide (1 < gcdI n d) = false := by simpa using qg
    generalize maxI (absI n) d = mx at em q2
    clear q qm qg
    go_enter Try.func89, Try.ntmps89
    go_wp2_with fail
    generalize w.alloc _ = w2 at cbx z0 hB ⊢
    refine wp_region_ext (by kernel_rfl) (by kernel_rfl) ?_
    repeat (first | go_big_quiet_step ((first | (go_at_call 100; exact calls_ext (HS.out _)) | (go_at_call 98; exact calls_ext (HG.out _)))) | quiet_step ((first | (go_at_call 100; exact calls_ext (HS.out _)) | (go_at_call 98; exact calls_ext (HG.out _)))))
    refine wpQuiet_nil ?_
    rintro _ ⟨⟨w5, hb5⟩, rfl⟩
    go_wp2_with fail
    go_ret
    exact ⟨ret_int HC.out.symm, bcall hB hB.size hb5⟩
/-- What 'signed' makes of a sign and two numbers. -/
def signR (m : Bool) (n d : Int) : Rt := if 1000000000000000000 < maxI n d then ⟨0, 0⟩ else if m then ⟨-n, d⟩ else ⟨n, d⟩
def signC (n d : Int) : Int := if 1000000000000000000 < maxI n d then 16 else 0
set_option maxHeartbeats 1000000 in
theorem signed_any (m : Bool) (n d : Int) (w : World) (hn : 0 ≤ n) (hn' : n ≤ 18446744073709551615) (hd : 0 ≤ d) (hd' : d ≤ 18446744073709551615) :
    Calls Try.prog 105 #[.bool m, .int .u64 n, .int .u64 d] w fun e w' => e = .returned (.tuple #[rV (signR m n d), .int .i64 (signC n d)]) ∧ Below w.heap.size w w' := by
  have em : (if n < d then d else n) = maxI n d := rfl
  by_cases q : 1000000000000000000 < maxI n d
  · have HR := Lib.hid (show signR m n d = ⟨0, 0⟩ by unfold signR; rw [if_pos q])
    have HC := Lib.hid (show signC n d = 16 by unfold signC; rw [if_pos q])
    have q1 : decide (1000000000000000000 < maxI n d) = true := by simpa using q
    rw [HR.out, HC.out]
    generalize maxI n d = mx at em q1
    clear q
    go_enter Try.func105, Try.ntmps105
    go_wp2_with fail
    exact bodyPost_ret (v := .tuple #[.agg #[.int .i64 0, .int .i64 0], .int .i64 16]) (by simp [results, Try.results105, go_sem]) rfl ⟨rfl, (Below.refl _ _).alloc (Nat.le_refl _) _⟩
  · have HC := Lib.hid (show signC n d = 0 by unfold signC; rw [if_neg q])
    have q1 : decide (1000000000000000000 < maxI n d) = false := by simpa using q
    have b1 : n ≤ 1000000000000000000 ∧ d ≤ 1000000000000000000 := by unfold maxI at q; split at q <;> omega
    obtain ⟨b1, b2⟩ := b1
    have e1 : IntKind.i64.wrap n = n := IntWalk.i64_in _ (by omega)
    have e2 : IntKind.i64.wrap d = d := IntWalk.i64_in _ (by omega)
    have e3 : IntKind.i64.wrap (-n) = -n := IntWalk.i64_in _ (by omega)
    rw [HC.out]
    cases m
    · have HR := Lib.hid (show signR false n d = ⟨n, d⟩ by unfold signR; rw [if_neg q]; rfl)
      rw [HR.out]
      generalize maxI n d = mx at em q1
      clear q
      go_enter Try.func105, Try.ntmps105
      go_wp2_with fail
      exact bodyPost_ret (v := .tuple #[.agg #[.int .i64 n, .int .i64 d], .int .i64 0]) (by simp [results, Try.results105, go_sem]) rfl ⟨rfl, (Below.refl _ _).alloc (Nat.le_refl _) _⟩
    · have HR := Lib.hid (show signR true n d = ⟨-n, d⟩ by unfold signR; rw [if_neg q]; rfl)
      rw [HR.out]
      generalize maxI n d = mx at em q1
      clear q
      go_enter Try.func105, Try.ntmps105
      go_wp2_with fail
      exact bodyPost_ret (v := .tuple #[.agg #[.int .i64 (-n), .int .i64 d], .int .i64 0]) (by simp [results, Try.results105, go_sem]) rfl ⟨rfl, (Below.refl _ _).alloc (Nat.le_refl _) _⟩
end Go.Proofs.Ytgcbmnohhbcfiaa
