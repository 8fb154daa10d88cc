/- The reference's numbers of two words, walked: times, less, plus, minus, made; Neg, Of. -/
import Derived.Test.YtgcbmnohhbcfiaaRfA
import Derived.Test.YtgcbmnohhbcfiaaRtW
import Derived.Test.YtgcbmnohhbcfiaaRtDivP
namespace Go.Proofs.Ytgcbmnohhbcfiaa
open Go.RowKit
set_option linter.unusedVariables false
set_option linter.unusedSimpArgs false

abbrev wV (x : Int) : Value := .agg #[.int .u64 (hi64 x), .int .u64 (lo64 x)]
abbrev wB (x : Int) : Obj := .cells #[.int .u64 (hi64 x), .int .u64 (lo64 x)] 133
theorem or32 {x y : Int} (hx : 0 ≤ x) (hx' : x ≤ 4294967295) (hy : 0 ≤ y) (hy' : y ≤ 4294967295) : Go.bits .or .u64 (x * 4294967296) y = x * 4294967296 + y := by
  have := or_join (a := x) (b := y) (s := 32) hx hy (by rw [show ((2 : Int) ^ 32) = 4294967296 from rfl]; omega) (by rw [show ((2 : Int) ^ 32) = 4294967296 from rfl]; omega)
  rwa [show ((2 : Int) ^ 32) = 4294967296 from rfl] at this
/-- What times reckons with. -/
structure TimesOk (a b a1 a0 b1 b0 p00 p10 p01 p11 : Int) : Prop where
  ea1 : a / 4294967296 = a1
  ea0 : Go.bits .and .u64 a 4294967295 = a0
  eb1 : b / 4294967296 = b1
  eb0 : Go.bits .and .u64 b 4294967295 = b0
  w00 : IntKind.u64.wrap (a0 * b0) = p00
  w10 : IntKind.u64.wrap (a1 * b0) = p10
  w01 : IntKind.u64.wrap (a0 * b1) = p01
  w11 : IntKind.u64.wrap (a1 * b1) = p11
  l00 : 0 ≤ p00
  l10 : 0 ≤ p10
  l01 : 0 ≤ p01
  l11 : 0 ≤ p11
  h00 : p00 ≤ 18446744065119617025
  h10 : p10 ≤ 18446744065119617025
  h01 : p01 ≤ 18446744065119617025
  h11 : p11 ≤ 18446744065119617025
  e : a * b = p11 * 18446744073709551616 + (p10 + p01) * 4294967296 + p00
theorem mulb {x y : Int} (hx : 0 ≤ x) (hx' : x ≤ 4294967295) (hy : 0 ≤ y) (hy' : y ≤ 4294967295) : 0 ≤ x * y ∧ x * y ≤ 18446744065119617025 ∧ IntKind.u64.wrap (x * y) = x * y := by
  have h1 := Int.mul_nonneg hx hy
  have h2 : x * y ≤ 4294967295 * 4294967295 := Int.mul_le_mul hx' hy' hy (by omega)
  refine ⟨h1, by omega, ?_⟩
  rw [IntKind.wrap_u64]; omega
theorem timesOk {a b : Int} (ha : 0 ≤ a) (ha' : a ≤ 18446744073709551615) (hb : 0 ≤ b) (hb' : b ≤ 18446744073709551615) : ∃ a1 a0 b1 b0 p00 p10 p01 p11, TimesOk a b a1 a0 b1 b0 p00 p10 p01 p11 := by
  have a1 : 0 ≤ a / 4294967296 ∧ a / 4294967296 ≤ 4294967295 := by omega
  have b1 : 0 ≤ b / 4294967296 ∧ b / 4294967296 ≤ 4294967295 := by omega
  have a0 : 0 ≤ a % 4294967296 ∧ a % 4294967296 ≤ 4294967295 := by omega
  have b0 : 0 ≤ b % 4294967296 ∧ b % 4294967296 ≤ 4294967295 := by omega
  have m00 := mulb a0.1 a0.2 b0.1 b0.2
  have m10 := mulb a1.1 a1.2 b0.1 b0.2
  have m01 := mulb a0.1 a0.2 b1.1 b1.2
  have m11 := mulb a1.1 a1.2 b1.1 b1.2
  refine ⟨_, _, _, _, _, _, _, _, ⟨rfl, and32 ha ha', rfl, and32 hb hb', m00.2.2, m10.2.2, m01.2.2, m11.2.2, m00.1, m10.1, m01.1, m11.1, m00.2.1, m10.2.1, m01.2.1, m11.2.1, ?_⟩⟩
  have ea : a = a / 4294967296 * 4294967296 + a % 4294967296 := by omega
  have eb : b = b / 4294967296 * 4294967296 + b % 4294967296 := by omega
  generalize a / 4294967296 = x at *
  generalize a % 4294967296 = y at *
  generalize b / 4294967296 = u at *
  generalize b % 4294967296 = v at *
  rw [ea, eb]
  grind
theorem TimesOk.fin {a b a1 a0 b1 b0 p00 p10 p01 p11 : Int} (h : TimesOk a b a1 a0 b1 b0 p00 p10 p01 p11) :
    Go.bits .and .u64 p10 4294967295 = p10 % 4294967296 ∧ Go.bits .and .u64 p00 4294967295 = p00 % 4294967296
    ∧ Go.bits .or .u64 (IntKind.u64.wrap ((p10 % 4294967296 + p01 + p00 / 4294967296) * 4294967296)) (p00 % 4294967296) = lo64 (a * b)
    ∧ p11 + p10 / 4294967296 + (p10 % 4294967296 + p01 + p00 / 4294967296) / 4294967296 = hi64 (a * b) := by
  have l00 := h.l00; have l10 := h.l10; have l01 := h.l01; have l11 := h.l11; have h00 := h.h00; have h10 := h.h10; have h01 := h.h01; have h11 := h.h11
  refine ⟨and32 l10 (by omega), and32 l00 (by omega), ?_, ?_⟩
  · have e : IntKind.u64.wrap ((p10 % 4294967296 + p01 + p00 / 4294967296) * 4294967296) = (p10 % 4294967296 + p01 + p00 / 4294967296) % 4294967296 * 4294967296 := by rw [IntKind.wrap_u64]; omega
    rw [e, or32 (by omega) (by omega) (by omega) (by omega), h.e]
    unfold lo64; omega
  · rw [h.e]; unfold hi64; omega
set_option maxRecDepth 100000 in
set_option maxHeartbeats 2000000 in
theorem times_any (a b : Int) (w : World) (ha : 0 ≤ a) (ha' : a ≤ 18446744073709551615) (hb : 0 ≤ b) (hb' : b ≤ 18446744073709551615) :
    Calls Try.prog 95 #[.int .u64 a, .int .u64 b] w fun e w' => e = .returned (wV (a * b)) ∧ Below w.heap.size w w' := by
  obtain ⟨a1, a0, b1, b0, p00, p10, p01, p11, T⟩ := timesOk ha ha' hb hb'
  obtain ⟨f1, f2, f3, f4⟩ := T.fin
  have e1 := T.ea1; have e2 := T.ea0; have e3 := T.eb1; have e4 := T.eb0
  have m1 := T.w00; have m2 := T.w10; have m3 := T.w01; have m4 := T.w11
  have l00 := T.l00; have l10 := T.l10; have l01 := T.l01; have l11 := T.l11; have h00 := T.h00; have h10 := T.h10; have h01 := T.h01; have h11 := T.h11
  have w1 : IntKind.u64.wrap (p10 % 4294967296 + p01) = p10 % 4294967296 + p01 := IntWalk.u64_in _ (by omega)
  have w2 : IntKind.u64.wrap (p10 % 4294967296 + p01 + p00 / 4294967296) = p10 % 4294967296 + p01 + p00 / 4294967296 := IntWalk.u64_in _ (by omega)
  have hb := hi64_bd (x := a * b) (by rw [T.e]; omega) (by rw [T.e]; omega)
  have w3 : IntKind.u64.wrap (p11 + p10 / 4294967296) = p11 + p10 / 4294967296 := IntWalk.u64_in _ (by omega)
  have w4 : IntKind.u64.wrap (p11 + p10 / 4294967296 + (p10 % 4294967296 + p01 + p00 / 4294967296) / 4294967296) = hi64 (a * b) := (IntWalk.u64_in _ (by omega)).trans f4
  clear T f4 hb
  unfold wV
  generalize hi64 (a * b) = H at *
  generalize lo64 (a * b) = L at *
  go_enter Try.func95, Try.ntmps95
  go_wp2_with fail
  exact bodyPost_ret (v := .agg #[.int .u64 H, .int .u64 L]) (by simp [results, Try.results95, go_sem]) rfl ⟨rfl, (Below.refl _ _).alloc (Nat.le_refl _) _⟩

theorem two_lt_ {X Y : Int} (h : X < Y) : hi64 X < hi64 Y ∨ (hi64 X = hi64 Y ∧ lo64 X < lo64 Y) := by unfold hi64 lo64; omega
theorem two_ge_ {X Y : Int} (h : ¬ X < Y) : hi64 Y < hi64 X ∨ (hi64 X = hi64 Y ∧ ¬ lo64 X < lo64 Y) := by unfold hi64 lo64; omega

set_option maxRecDepth 100000 in
set_option maxHeartbeats 2000000 in
theorem fless_any (x y : Int) (w : World) :
    Calls Try.prog 96 #[wV x, wV y] w fun e w' => e = .returned (.bool (decide (x < y))) ∧ Below w.heap.size w w' := by
  have hB : Below w.heap.size w ((w.alloc (wB x)).alloc (wB y)) := (one_alloc w _).alloc (by simp) _
  by_cases h : x < y
  · have hq : decide (x < y) = true := by simpa using h
    rw [hq]
    have h2 := two_lt_ h
    clear hq h
    unfold wV
    rcases h2 with k1 | ⟨k1, k2⟩
    · have t1 : decide (hi64 x < hi64 y) = true := by simpa using k1
      clear k1
      go_enter Try.func96, Try.ntmps96
      go_wp2_with fail
      go_ret
      exact ⟨rfl, hB⟩
    · have t1 : decide (hi64 x < hi64 y) = false := by simp; omega
      have t2 : (hi64 x == hi64 y) = true := by simpa using k1
      have t3 : decide (lo64 x < lo64 y) = true := by simpa using k2
      clear k1 k2
      go_enter Try.func96, Try.ntmps96
      go_wp2_with fail
      go_ret
      exact ⟨rfl, hB⟩
  · have hq : decide (x < y) = false := by simpa using h
    rw [hq]
    have h2 := two_ge_ h
    clear hq h
    unfold wV
    rcases h2 with k1 | ⟨k1, k2⟩
    · have t1 : decide (hi64 x < hi64 y) = false := by simp; omega
      have t2 : (hi64 x == hi64 y) = false := by simp; omega
      clear k1
      go_enter Try.func96, Try.ntmps96
      go_wp2_with fail
      go_ret
      exact ⟨rfl, hB⟩
    · have t1 : decide (hi64 x < hi64 y) = false := by simp; omega
      have t2 : (hi64 x == hi64 y) = true := by simpa using k1
      have t3 : decide (lo64 x < lo64 y) = false := by simpa using k2
      clear k1 k2
      go_enter Try.func96, Try.ntmps96
      go_wp2_with fail
      go_ret
      exact ⟨rfl, hB⟩

set_option maxRecDepth 100000 in
set_option maxHeartbeats 2000000 in
theorem plus_any (x y : Int) (w : World) (hx : 0 ≤ x) (hy : 0 ≤ y) (h : x + y < 340282366920938463463374607431768211456) :
    Calls Try.prog 137 #[wV x, wV y] w fun e w' => e = .returned (wV (x + y)) ∧ Below w.heap.size w w' := by
  have hB : Below w.heap.size w (((w.alloc (wB x)).alloc (wB y)).alloc (wB (x + y))) := ((one_alloc w _).alloc (by simp) _).alloc (by simp; omega) _
  have lx := lo64_bd x; have ly := lo64_bd y
  have hx1 := hi64_bd hx (by omega); have hy1 := hi64_bd hy (by omega)
  have w1 : IntKind.u64.wrap (lo64 x + lo64 y) = lo64 (x + y) := by rw [IntKind.wrap_u64]; unfold lo64; omega
  unfold wV
  unfold wB at hB
  by_cases k : lo64 (x + y) < lo64 x
  · have q : decide (lo64 (x + y) < lo64 x) = true := by simpa using k
    have w2 : IntKind.u64.wrap (hi64 x + hi64 y) = hi64 x + hi64 y := IntWalk.u64_in _ (by unfold lo64 at k; unfold hi64; omega)
    have w3 : IntKind.u64.wrap (hi64 x + hi64 y + 1) = hi64 (x + y) := by rw [IntKind.wrap_u64]; unfold lo64 at k; unfold hi64; omega
    clear k lx ly hx1 hy1
    generalize hi64 (x + y) = H at *
    generalize lo64 (x + y) = L at *
    go_enter Try.func137, Try.ntmps137
    go_wp2_with fail
    exact bodyPost_ret (v := .agg #[.int .u64 H, .int .u64 L]) (by simp [results, Try.results137, go_sem]) rfl ⟨rfl, hB⟩
  · have q : decide (lo64 (x + y) < lo64 x) = false := by simpa using k
    have w2 : IntKind.u64.wrap (hi64 x + hi64 y) = hi64 (x + y) := by rw [IntKind.wrap_u64]; unfold lo64 at k; unfold hi64; omega
    clear k lx ly hx1 hy1
    generalize hi64 (x + y) = H at *
    generalize lo64 (x + y) = L at *
    go_enter Try.func137, Try.ntmps137
    go_wp2_with fail
    exact bodyPost_ret (v := .agg #[.int .u64 H, .int .u64 L]) (by simp [results, Try.results137, go_sem]) rfl ⟨rfl, hB⟩

/-- The upper word that minus returns, whatever the numbers are. -/
def mHi (x y : Int) : Int := if lo64 x < lo64 y then IntKind.u64.wrap (IntKind.u64.wrap (hi64 x - hi64 y) - 1) else IntKind.u64.wrap (hi64 x - hi64 y)
theorem mHi_ok {x y : Int} (hy : 0 ≤ y) (hxy : y ≤ x) (h : x < 340282366920938463463374607431768211456) : mHi x y = hi64 (x - y) := by
  unfold mHi
  split
  · rename_i k
    have w2 : IntKind.u64.wrap (hi64 x - hi64 y) = hi64 x - hi64 y := IntWalk.u64_in _ (by unfold lo64 at k; unfold hi64; omega)
    rw [w2, IntKind.wrap_u64]; unfold lo64 at k; unfold hi64; omega
  · rename_i k
    rw [IntKind.wrap_u64]; unfold lo64 at k; unfold hi64; omega
set_option maxRecDepth 100000 in
set_option maxHeartbeats 2000000 in
theorem minus_raw (x y : Int) (w : World) :
    Calls Try.prog 138 #[wV x, wV y] w fun e w' => e = .returned (.agg #[.int .u64 (mHi x y), .int .u64 (lo64 (x - y))]) ∧ Below w.heap.size w w' := by
  have hB : ∀ o, Below w.heap.size w (((w.alloc (wB x)).alloc (wB y)).alloc o) := fun o => ((one_alloc w _).alloc (by simp) _).alloc (by simp; omega) _
  have w1 : IntKind.u64.wrap (lo64 x - lo64 y) = lo64 (x - y) := by rw [IntKind.wrap_u64]; unfold lo64; omega
  unfold wV
  unfold wB at hB
  by_cases k : lo64 x < lo64 y
  · have q : decide (lo64 x < lo64 y) = true := by simpa using k
    have w3 : IntKind.u64.wrap (IntKind.u64.wrap (hi64 x - hi64 y) - 1) = mHi x y := by unfold mHi; rw [if_pos k]
    clear k
    generalize hD : IntKind.u64.wrap (hi64 x - hi64 y) = D at *
    generalize mHi x y = H at *
    generalize lo64 (x - y) = L at *
    go_enter Try.func138, Try.ntmps138
    go_wp2_with fail
    exact bodyPost_ret (v := .agg #[.int .u64 H, .int .u64 L]) (by simp [results, Try.results138, go_sem]) rfl ⟨rfl, hB _⟩
  · have q : decide (lo64 x < lo64 y) = false := by simpa using k
    have w2 : IntKind.u64.wrap (hi64 x - hi64 y) = mHi x y := by unfold mHi; rw [if_neg k]
    clear k
    generalize mHi x y = H at *
    generalize lo64 (x - y) = L at *
    go_enter Try.func138, Try.ntmps138
    go_wp2_with fail
    exact bodyPost_ret (v := .agg #[.int .u64 H, .int .u64 L]) (by simp [results, Try.results138, go_sem]) rfl ⟨rfl, hB _⟩
theorem minus_any (x y : Int) (w : World) (hy : 0 ≤ y) (hxy : y ≤ x) (h : x < 340282366920938463463374607431768211456) :
    Calls Try.prog 138 #[wV x, wV y] w fun e w' => e = .returned (wV (x - y)) ∧ Below w.heap.size w w' := by
  have h1 := minus_raw x y w
  rw [mHi_ok hy hxy h] at h1
  exact h1

theorem neg_any (a : Rt) (w : World) (h0 : -9223372036854775807 ≤ a.n) (h1 : a.n ≤ 9223372036854775807) :
    Calls Try.prog 140 #[rV a] w fun e w' => e = .returned (rV a.neg) ∧ Below w.heap.size w w' := by
  obtain ⟨n, d⟩ := a
  simp only at h0 h1
  have w1 : IntKind.i64.wrap (-n) = -n := IntWalk.i64_in _ (by omega)
  unfold rV Rt.neg
  simp only
  go_enter Try.func140, Try.ntmps140
  go_wp2_with fail
  exact bodyPost_ret (v := .agg #[.int .i64 (-n), .int .i64 d]) (by simp [results, Try.results140, go_sem]) rfl ⟨rfl, ((Below.refl _ _).alloc (Nat.le_refl _) _).alloc (by simp) _⟩
theorem of_any (n : Int) (w : World) : Calls Try.prog 73 #[.int .i64 n] w fun e w' => e = .returned (rV ⟨n, 1⟩) ∧ Below w.heap.size w w' := by
  unfold rV
  go_enter Try.func73, Try.ntmps73
  go_wp2_with fail
  exact bodyPost_ret (v := .agg #[.int .i64 n, .int .i64 1]) (by simp [results, Try.results73, go_sem]) rfl ⟨rfl, (Below.refl _ _).alloc (Nat.le_refl _) _⟩

/-- What 'made' does, of two numbers of two words. -/
theorem max_parts {n d : Int} (hn : 0 ≤ n) (hd : 0 ≤ d) : (1000000000000000000 < maxI n d) ↔ (0 < hi64 n ∨ 0 < hi64 d ∨ 1000000000000000000 < lo64 n ∨ 1000000000000000000 < lo64 d) := by
  unfold maxI hi64 lo64; split <;> omega

set_option maxRecDepth 100000 in
set_option maxHeartbeats 4000000 in
theorem made_any (m : Bool) (n d : Int) (w : World) (hn : 0 ≤ n) (hd : 0 ≤ d) :
    Calls Try.prog 119 #[.bool m, wV n, wV d] w fun e w' => e = .returned (.tuple #[rV (signR m n d), .int .i64 (signC n d)]) ∧ Below w.heap.size w w' := by
  have hB : ∀ o, Below w.heap.size w (((w.alloc (wB n)).alloc (wB d)).alloc o) := fun o => ((one_alloc w _).alloc (by simp) _).alloc (by simp; omega) _
  have hB2 : ∀ o o', Below w.heap.size w ((((w.alloc (wB n)).alloc (wB d)).alloc o).alloc o') := fun o o' => (hB o).alloc (by simp; omega) _
  unfold wB at hB hB2
  have hi0 : 0 ≤ hi64 n := by unfold hi64; omega
  have hj0 : 0 ≤ hi64 d := by unfold hi64; omega
  by_cases q : 1000000000000000000 < maxI n d
  · have HR := Lib.hid (show signR m n d = ⟨0, 0⟩ by unfold signR; rw [if_pos q])
    have HC := Lib.hid (show signC n d = 16 by unfold signC; rw [if_pos q])
    rw [HR.out, HC.out]
    have q' := (max_parts hn hd).1 q
    clear q HR HC
    unfold wV
    by_cases k1 : 0 < hi64 n
    · have t1 : decide (0 < hi64 n) = true := by simpa using k1
      clear q' k1
      go_enter Try.func119, Try.ntmps119
      go_wp2_with fail
      exact bodyPost_ret (v := .tuple #[.agg #[.int .i64 0, .int .i64 0], .int .i64 16]) (by simp [results, Try.results119, go_sem]) rfl ⟨rfl, hB _⟩
    have t1 : decide (0 < hi64 n) = false := by simpa using k1
    by_cases k2 : 0 < hi64 d
    · have t2 : decide (0 < hi64 d) = true := by simpa using k2
      clear q' k1 k2
      go_enter Try.func119, Try.ntmps119
      go_wp2_with fail
      exact bodyPost_ret (v := .tuple #[.agg #[.int .i64 0, .int .i64 0], .int .i64 16]) (by simp [results, Try.results119, go_sem]) rfl ⟨rfl, hB _⟩
    have t2 : decide (0 < hi64 d) = false := by simpa using k2
    by_cases k3 : 1000000000000000000 < lo64 n
    · have t3 : decide (1000000000000000000 < lo64 n) = true := by simpa using k3
      clear q' k1 k2 k3
      go_enter Try.func119, Try.ntmps119
      go_wp2_with fail
      exact bodyPost_ret (v := .tuple #[.agg #[.int .i64 0, .int .i64 0], .int .i64 16]) (by simp [results, Try.results119, go_sem]) rfl ⟨rfl, hB _⟩
    have t3 : decide (1000000000000000000 < lo64 n) = false := by simpa using k3
    have t4 : decide (1000000000000000000 < lo64 d) = true := by simp; omega
    clear q' k1 k2 k3
    go_enter Try.func119, Try.ntmps119
    go_wp2_with fail
    exact bodyPost_ret (v := .tuple #[.agg #[.int .i64 0, .int .i64 0], .int .i64 16]) (by simp [results, Try.results119, go_sem]) rfl ⟨rfl, hB _⟩
  · have HC := Lib.hid (show signC n d = 0 by unfold signC; rw [if_neg q])
    have q' := fun h => q ((max_parts hn hd).2 h)
    have b1 : n ≤ 1000000000000000000 ∧ d ≤ 1000000000000000000 := by unfold maxI at q; split at q <;> omega
    have e1 : hi64 n = 0 := by unfold hi64; omega
    have e2 : hi64 d = 0 := by unfold hi64; omega
    have e3 : lo64 n = n := by unfold lo64; omega
    have e4 : lo64 d = d := by unfold lo64; omega
    have HSR : signR m n d = if m then ⟨-n, d⟩ else ⟨n, d⟩ := by unfold signR; rw [if_neg q]
    rw [HC.out, HSR]
    unfold wV
    rw [e1, e2, e3, e4]
    rw [e1, e2, e3, e4] at hB hB2
    have t1 : decide (1000000000000000000 < n) = false := by simp; omega
    have t2 : decide (1000000000000000000 < d) = false := by simp; omega
    have w1 : IntKind.i64.wrap n = n := IntWalk.i64_in _ (by omega)
    have w2 : IntKind.i64.wrap d = d := IntWalk.i64_in _ (by omega)
    have w3 : IntKind.i64.wrap (-n) = -n := IntWalk.i64_in _ (by omega)
    clear q q' e1 e2 e3 e4 HSR b1 hi0 hj0
    cases m
    · go_enter Try.func119, Try.ntmps119
      go_wp2_with fail
      exact bodyPost_ret (v := .tuple #[.agg #[.int .i64 n, .int .i64 d], .int .i64 0]) (by simp [results, Try.results119, go_sem]) rfl ⟨rfl, hB2 _ _⟩
    · go_enter Try.func119, Try.ntmps119
      go_wp2_with fail
      exact bodyPost_ret (v := .tuple #[.agg #[.int .i64 (-n), .int .i64 d], .int .i64 0]) (by simp [results, Try.results119, go_sem]) rfl ⟨rfl, hB2 _ _⟩
end Go.Proofs.Ytgcbmnohhbcfiaa
