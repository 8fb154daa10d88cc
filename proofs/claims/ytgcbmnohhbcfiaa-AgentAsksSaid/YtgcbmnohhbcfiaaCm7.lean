/- ratio.Sub and ratio.Mul, walked. -/
import Derived.Test.YtgcbmnohhbcfiaaCm6
namespace Go.Proofs.Ytgcbmnohhbcfiaa
open Go.RowKit Go.Deep
set_option linter.unusedVariables false
set_option linter.unusedSimpArgs false

set_option maxRecDepth 100000 in
set_option maxHeartbeats 4000000 in
theorem rsub_any (a b : Rt) (ha : a.wf) (hb : b.wf) (w : World) :
    Calls Try.prog 92 #[rV a, rV b] w fun e w' => e = .returned (.tuple #[rV (subR a b), .int .i64 (subC a b)]) ∧ Below w.heap.size w w' := by
  have hT0 := TwoIn.start w a b
  have HC := Lib.hid (fun (W : World) => rcheck2_any a b ha hb W)
  by_cases hc : code2 a b = 0
  rotate_left
  · have q1 : (code2 a b != 0) = true := by simpa using hc
    have hr := sub_bad hc
    rw [hr.1, hr.2]
    clear hr hc ha hb
    generalize code2 a b = c at HC q1
    go_enter Try.func92, Try.ntmps92
    go_wp2_with fail
    refine (HC.out _).mono ?_
    rintro e w1 ⟨rfl, hb1⟩
    have hT1 := hT0.next hb1
    clear hb1 hT0
    have c1 := fun j => cell_of_row w1 _ j _ _ _ hT1.r
    have c2 := fun j => frozen_of_row w1 _ j _ _ hT1.r
    have z1 := lt_some hT1.r
    go_wp2_with fail
    exact bodyPost_ret (v := .tuple #[.agg #[.int .i64 0, .int .i64 0], .int .i64 c]) (by simp [results, Try.results92, go_sem, c1, c2, z1]) rfl ⟨rfl, hT1.end_ _ _⟩
  obtain ⟨oa, ob⟩ := ok_code2 hc
  have q1 : (code2 a b != 0) = false := by simpa using hc
  rw [← (sub_add hc).1, ← (sub_add hc).2]
  have m0 := ob.n0; have m1 := ob.n1
  have HA := Lib.hid (fun (W : World) => radd_any a b.neg ha (Rt.neg_ok ob).wf W)
  have w1 : IntKind.i64.wrap (-b.n) = -b.n := IntWalk.i64_in _ (by omega)
  clear hc ha hb
  generalize addR a b.neg = R at HA ⊢
  generalize addC a b.neg = C at HA ⊢
  go_enter Try.func92, Try.ntmps92
  go_wp2_with fail
  refine (HC.out _).mono ?_
  rintro e w2 ⟨rfl, hb1⟩
  have hT1 := hT0.next hb1
  clear hb1 hT0
  have ca := fun j => cell_of_row w2 _ j _ _ _ hT1.ba
  have cb := fun j => cell_of_row w2 _ j _ _ _ hT1.bb
  have fb := fun j => frozen_of_row w2 _ j _ _ hT1.bb
  have hT2 := Lib.hid (hT1.setB (-b.n))
  have ca2 := Lib.hid (fun j => cell_of_row _ _ j _ _ _ hT2.out.ba)
  have cb2 := Lib.hid (fun j => cell_of_row _ _ j _ _ _ hT2.out.bb)
  go_upto_region 5 with fail
  clear ca cb fb
  generalize w2.setCell _ _ = w3 at hT2 ca2 cb2 ⊢
  have ca := ca2.out
  have cb := cb2.out
  have hT3 := hT2.out
  go_wp2_with fail
  refine (HA.out _).mono ?_
  rintro e w4 ⟨rfl, hb4⟩
  have hT4 := hT3.next hb4
  clear hb4 hT3 ca cb ca2 cb2 hT2 hT1
  have c1 := fun j => cell_of_row w4 _ j _ _ _ hT4.r
  have c2 := fun j => frozen_of_row w4 _ j _ _ hT4.r
  have z1 := lt_some hT4.r
  go_wp2_with fail
  exact bodyPost_ret (v := .tuple #[rV R, .int .i64 C]) (by simp [results, Try.results92, go_sem, c1, c2, z1]) rfl ⟨rfl, hT4.end_ _ _⟩

set_option maxRecDepth 100000 in
set_option maxHeartbeats 8000000 in
theorem rmul_any (a b : Rt) (ha : a.wf) (hb : b.wf) (w : World) :
    Calls Try.prog 94 #[rV a, rV b] w fun e w' => e = .returned (.tuple #[rV (mulR a b), .int .i64 (mulC a b)]) ∧ Below w.heap.size w w' := by
  have hT0 := TwoIn.start w a b
  have HC := Lib.hid (fun (W : World) => rcheck2_any a b ha hb W)
  by_cases hc : code2 a b = 0
  rotate_left
  · have q1 : (code2 a b != 0) = true := by simpa using hc
    have hr := mul_bad hc
    rw [hr.1, hr.2]
    clear hr hc ha hb
    generalize code2 a b = c at HC q1
    go_enter Try.func94, Try.ntmps94
    go_wp2_with fail
    refine (HC.out _).mono ?_
    rintro e w1 ⟨rfl, hb1⟩
    have hT1 := hT0.next hb1
    clear hb1 hT0
    have c1 := fun j => cell_of_row w1 _ j _ _ _ hT1.r
    have c2 := fun j => frozen_of_row w1 _ j _ _ hT1.r
    have z1 := lt_some hT1.r
    go_wp2_with fail
    exact bodyPost_ret (v := .tuple #[.agg #[.int .i64 0, .int .i64 0], .int .i64 c]) (by simp [results, Try.results94, go_sem, c1, c2, z1]) rfl ⟨rfl, hT1.end_ _ _⟩
  obtain ⟨oa, ob⟩ := ok_code2 hc
  have q1 : (code2 a b != 0) = false := by simpa using hc
  rw [(mul_ok hc).1, (mul_ok hc).2]
  clear hc ha hb
  have P := prodOf oa ob
  have n0 := oa.n0; have n1 := oa.n1; have d0 := oa.d0; have d1 := oa.d1
  have m0 := ob.n0; have m1 := ob.n1; have e0 := ob.d0; have e1 := ob.d1
  have an := absI_nonneg a.n
  have al : absI a.n ≤ 1000000000000000000 := by unfold absI; omega
  have bn := absI_nonneg b.n
  have bl : absI b.n ≤ 1000000000000000000 := by unfold absI; omega
  have HS1 := Lib.hid (fun (W : World) => size_any a.n W (by omega) (by omega))
  have HS2 := Lib.hid (fun (W : World) => size_any b.n W (by omega) (by omega))
  have HG1 := Lib.hid (fun (W : World) => gcd_any (absI a.n) b.d W (by omega) (by omega) (by omega) (by omega))
  have HG2 := Lib.hid (fun (W : World) => gcd_any (absI b.n) a.d W (by omega) (by omega) (by omega) (by omega))
  rw [gcdI_abs] at HG1 HG2
  have HBIG := Lib.hid (fun hb => P.big hb)
  have HFIN := Lib.hid P.fin
  generalize mkR (a.q * b.q) = R at HBIG HFIN ⊢
  generalize mkC (a.q * b.q) = C at HBIG HFIN ⊢
  generalize gcdI a.n b.d = g at *
  generalize gcdI b.n a.d = h at *
  have g0 := P.g0; have h0 := P.h0; have gd := P.gd; have hd := P.hd
  have u0 := P.u0; have u1 := P.u1; have v0 := P.v0; have v1 := P.v1
  have x0 := P.x0; have x1 := P.x1; have y0 := P.y0; have y1 := P.y1
  have N0 := P.n0; have D0 := P.d0
  have wd1 : IntKind.u64.wrap a.d = a.d := IntWalk.u64_in _ (by omega)
  have wd2 : IntKind.u64.wrap b.d = b.d := IntWalk.u64_in _ (by omega)
  have r1 : IntKind.u64.wrap ((absI a.n).tdiv g) = absI a.n / g := IntWalk.u64_quo _ _ (by omega)
  have r2 : IntKind.u64.wrap ((absI b.n).tdiv h) = absI b.n / h := IntWalk.u64_quo _ _ (by omega)
  have r3 : IntKind.u64.wrap (a.d.tdiv h) = a.d / h := IntWalk.u64_quo _ _ (by omega)
  have r4 : IntKind.u64.wrap (b.d.tdiv g) = b.d / g := IntWalk.u64_quo _ _ (by omega)
  have r5 : ¬ g = 0 := by omega
  have r6 : ¬ h = 0 := by omega
  clear P
  generalize absI a.n / g = u at *
  generalize absI b.n / h = v at *
  generalize a.d / h = x at *
  generalize b.d / g = y at *
  have HM1 := Lib.hid (fun (W : World) => mul64_any u v W u0 (by omega) v0 (by omega))
  have HM2 := Lib.hid (fun (W : World) => mul64_any x y W x0 (by omega) y0 (by omega))
  have nb : u * v ≤ 1000000000000000000 * 1000000000000000000 := Int.mul_le_mul u1 v1 v0 (by omega)
  have db : x * y ≤ 1000000000000000000 * 1000000000000000000 := Int.mul_le_mul x1 y1 y0 (by omega)
  generalize u * v = N at *
  generalize x * y = D at *
  have k1 := hi64_bd N0 (by omega)
  have k2 := hi64_bd (x := D) (by omega) (by omega)
  have HN := Lib.hid (hi_lo N)
  have HD := Lib.hid (hi_lo D)
  have k3 := lo64_bd N
  have k4 := lo64_bd D
  have ku : hi64 N ≤ 1000000000000000000 := by unfold hi64; omega
  have kv : hi64 D ≤ 1000000000000000000 := by unfold hi64; omega
  obtain ⟨k5, _⟩ := k1
  obtain ⟨k6, _⟩ := k2
  have w3 : IntKind.u64.wrap (hi64 N + hi64 D) = hi64 N + hi64 D := IntWalk.u64_in _ (by omega)
  go_enter Try.func94, Try.ntmps94
  go_wp2_with fail
  refine (HC.out _).mono ?_
  rintro e w1 ⟨rfl, hb1⟩
  have hT1 := hT0.next hb1
  clear hb1 hT0
  have ca := fun j => cell_of_row w1 _ j _ _ _ hT1.ba
  have cb := fun j => cell_of_row w1 _ j _ _ _ hT1.bb
  have za := lt_some hT1.ba
  have zb := lt_some hT1.bb
  go_upto_region 4 with fail
  refine wp_region_ext (by kernel_rfl) (by kernel_rfl) ?_
  repeat (first | go_big_quiet_step ((first | (go_at_call 100; first | (with_reducible exact calls_ext (HS1.out _)) | (with_reducible exact calls_ext (HS2.out _))))) | quiet_step ((first | (go_at_call 100; first | (with_reducible exact calls_ext (HS1.out _)) | (with_reducible exact calls_ext (HS2.out _))))))
  refine wpQuiet_nil ?_
  rintro w2 ⟨⟨_, hb⟩, rfl⟩
  have hT2 := hT1.next hb
  clear hb hT1 ca cb za zb
  go_wp2_with fail
  refine (HG1.out _).mono ?_
  rintro e w3 ⟨rfl, hb3⟩
  have hT3 := hT2.next hb3
  clear hb3 hT2
  go_wp2_with fail
  refine (HG2.out _).mono ?_
  rintro e w4 ⟨rfl, hb4⟩
  have hT4 := hT3.next hb4
  clear hb4 hT3
  go_upto_region 6 with fail
  refine wp_region_ext (by kernel_rfl) (by kernel_rfl) ?_
  repeat (first | go_big_quiet_step ((first | (go_at_call 99; exact calls_ext (HM1.out _)))) | quiet_step ((first | (go_at_call 99; exact calls_ext (HM1.out _)))))
  refine wpQuiet_nil ?_
  rintro w5 ⟨⟨_, hb⟩, rfl⟩
  have hT5 := hT4.next hb
  clear hb hT4
  go_upto_region 7 with fail
  refine wp_region_ext (by kernel_rfl) (by kernel_rfl) ?_
  repeat (first | go_big_quiet_step ((first | (go_at_call 99; exact calls_ext (HM2.out _)))) | quiet_step ((first | (go_at_call 99; exact calls_ext (HM2.out _)))))
  refine wpQuiet_nil ?_
  rintro w6 ⟨⟨_, hb⟩, rfl⟩
  have hT6 := hT5.next hb
  clear hb hT5
  by_cases ko : 0 < hi64 N + hi64 D
  · have q2 : decide (0 < hi64 N + hi64 D) = true := by simpa using ko
    obtain ⟨rfl, rfl⟩ := HBIG.out (by have := HN.out; have := HD.out; omega)
    clear ko
    have c1 := fun j => cell_of_row w6 _ j _ _ _ hT6.r
    have c2 := fun j => frozen_of_row w6 _ j _ _ hT6.r
    have z1 := lt_some hT6.r
    go_wp2_with fail
    exact bodyPost_ret (v := .tuple #[.agg #[.int .i64 0, .int .i64 0], .int .i64 16]) (by simp [results, Try.results94, go_sem, c1, c2, z1]) rfl ⟨rfl, hT6.end_ _ _⟩
  · have q2 : decide (0 < hi64 N + hi64 D) = false := by simpa using ko
    have z3 : lo64 N = N := by have := HN.out; omega
    have z4 : lo64 D = D := by have := HD.out; omega
    have nl : N ≤ 18446744073709551615 := by omega
    have dl : D ≤ 18446744073709551615 := by omega
    have HLAST := Lib.hid (show ∀ (W : World), Calls Try.prog 105 #[.bool (decide (0 < N) && (decide (a.n < 0) != decide (b.n < 0))), .int .u64 N, .int .u64 D] W fun e w' => e = .returned (.tuple #[rV R, .int .i64 C]) ∧ Below W.heap.size W w' from fun W => by
      have := signed_any (decide (0 < N) && (decide (a.n < 0) != decide (b.n < 0))) N D W N0 nl (by omega) dl
      unfold signR signC at this
      rw [HFIN.out.1, HFIN.out.2] at this
      exact this)
    clear ko HN HD HFIN HBIG
    obtain ⟨sA, hsA⟩ : ∃ A, decide (a.n < 0) = A := ⟨_, rfl⟩
    obtain ⟨sB, hsB⟩ : ∃ B, decide (b.n < 0) = B := ⟨_, rfl⟩
    rw [hsA, hsB] at HLAST
    have ca := fun j => cell_of_row w6 _ j _ _ _ hT6.ba
    have cb := fun j => cell_of_row w6 _ j _ _ _ hT6.bb
    have za := lt_some hT6.ba
    have zb := lt_some hT6.bb
    by_cases kn : 0 < N
    · have q3 : decide (0 < N) = true := by simpa using kn
      rw [q3, Bool.true_and] at HLAST
      clear kn
      go_wp2_with fail
      refine (HLAST.out _).mono ?_
      rintro e w7 ⟨rfl, hb7⟩
      have hT7 := hT6.next hb7
      clear hb7 hT6 ca cb za zb
      have c1 := fun j => cell_of_row w7 _ j _ _ _ hT7.r
      have c2 := fun j => frozen_of_row w7 _ j _ _ hT7.r
      have z1 := lt_some hT7.r
      go_wp2_with fail
      exact bodyPost_ret (v := .tuple #[rV R, .int .i64 C]) (by simp [results, Try.results94, go_sem, c1, c2, z1]) rfl ⟨rfl, hT7.end_ _ _⟩
    · have q3 : decide (0 < N) = false := by simpa using kn
      rw [q3, Bool.false_and] at HLAST
      clear kn
      go_wp2_with fail
      refine (HLAST.out _).mono ?_
      rintro e w7 ⟨rfl, hb7⟩
      have hT7 := hT6.next hb7
      clear hb7 hT6 ca cb za zb
      have c1 := fun j => cell_of_row w7 _ j _ _ _ hT7.r
      have c2 := fun j => frozen_of_row w7 _ j _ _ hT7.r
      have z1 := lt_some hT7.r
      go_wp2_with fail
      exact bodyPost_ret (v := .tuple #[rV R, .int .i64 C]) (by simp [results, Try.results94, go_sem, c1, c2, z1]) rfl ⟨rfl, hT7.end_ _ _⟩
end Go.Proofs.Ytgcbmnohhbcfiaa

namespace Go.Proofs.Ytgcbmnohhbcfiaa
open Go.RowKit Go.Deep
set_option linter.unusedVariables false
set_option linter.unusedSimpArgs false

set_option maxRecDepth 100000 in
set_option maxHeartbeats 4000000 in
theorem rdiv_any (a b : Rt) (ha : a.wf) (hb : b.wf) (w : World) :
    Calls Try.prog 93 #[rV a, rV b] w fun e w' => e = .returned (.tuple #[rV (divR a b), .int .i64 (divC a b)]) ∧ Below w.heap.size w w' := by
  have hT0 := TwoIn.start w a b
  have HC := Lib.hid (fun (W : World) => rcheck2_any a b ha hb W)
  by_cases hc : code2 a b = 0
  rotate_left
  · have q1 : (code2 a b != 0) = true := by simpa using hc
    have hr := div_bad hc
    rw [hr.1, hr.2]
    clear hr hc ha hb
    generalize code2 a b = c at HC q1
    go_enter Try.func93, Try.ntmps93
    go_wp2_with fail
    refine (HC.out _).mono ?_
    rintro e w1 ⟨rfl, hb1⟩
    have hT1 := hT0.next hb1
    clear hb1 hT0
    have c1 := fun j => cell_of_row w1 _ j _ _ _ hT1.r
    have c2 := fun j => frozen_of_row w1 _ j _ _ hT1.r
    have z1 := lt_some hT1.r
    go_wp2_with fail
    exact bodyPost_ret (v := .tuple #[.agg #[.int .i64 0, .int .i64 0], .int .i64 c]) (by simp [results, Try.results93, go_sem, c1, c2, z1]) rfl ⟨rfl, hT1.end_ _ _⟩
  obtain ⟨oa, ob⟩ := ok_code2 hc
  have q1 : (code2 a b != 0) = false := by simpa using hc
  by_cases h0 : b.n = 0
  · rw [(div_zero hc h0).1, (div_zero hc h0).2]
    have q2 : (b.n == 0) = true := by simpa using h0
    clear hc ha hb h0
    go_enter Try.func93, Try.ntmps93
    go_wp2_with fail
    refine (HC.out _).mono ?_
    rintro e w1 ⟨rfl, hb1⟩
    have hT1 := hT0.next hb1
    clear hb1 hT0
    have ca := fun j => cell_of_row w1 _ j _ _ _ hT1.ba
    have cb := fun j => cell_of_row w1 _ j _ _ _ hT1.bb
    have za := lt_some hT1.ba
    have zb := lt_some hT1.bb
    have c1 := fun j => cell_of_row w1 _ j _ _ _ hT1.r
    have c2 := fun j => frozen_of_row w1 _ j _ _ hT1.r
    have z1 := lt_some hT1.r
    go_wp2_with fail
    exact bodyPost_ret (v := .tuple #[.agg #[.int .i64 0, .int .i64 0], .int .i64 18]) (by simp [results, Try.results93, go_sem, c1, c2, z1]) rfl ⟨rfl, hT1.end_ _ _⟩
  have q2 : (b.n == 0) = false := by simpa using h0
  have HM := Lib.hid (fun (W : World) => rmul_any a b.inv ha (Rt.inv_ok ob h0).wf W)
  rw [(div_mul hc h0).1, (div_mul hc h0).2] at HM
  have m0 := ob.n0; have m1 := ob.n1; have e0 := ob.d0; have e1 := ob.d1
  have w1 : IntKind.i64.wrap (-b.n) = -b.n := IntWalk.i64_in _ (by omega)
  have w2 : IntKind.i64.wrap (-b.d) = -b.d := IntWalk.i64_in _ (by omega)
  by_cases hs : b.n < 0
  all_goals
    first
      | (have q3 : decide (b.n < 0) = true := by simpa using hs
         rw [show b.inv = ⟨-b.d, -b.n⟩ by unfold Rt.inv; rw [if_pos hs]] at HM)
      | (have q3 : decide (b.n < 0) = false := by simpa using hs
         rw [show b.inv = ⟨b.d, b.n⟩ by unfold Rt.inv; rw [if_neg hs]] at HM)
    clear hc ha hb hs h0
    generalize divR a b = R at HM ⊢
    generalize divC a b = C at HM ⊢
    go_enter Try.func93, Try.ntmps93
    go_wp2_with fail
    refine (HC.out _).mono ?_
    rintro e w3 ⟨rfl, hb1⟩
    have hT1 := hT0.next hb1
    clear hb1 hT0
    have ca := fun j => cell_of_row w3 _ j _ _ _ hT1.ba
    have cb := fun j => cell_of_row w3 _ j _ _ _ hT1.bb
    have za := lt_some hT1.ba
    have zb := lt_some hT1.bb
    go_wp2_with fail
    refine (HM.out _).mono ?_
    rintro e w4 ⟨rfl, hb4⟩
    have hT4 := hT1.next hb4
    clear hb4 hT1 ca cb za zb
    have c1 := fun j => cell_of_row w4 _ j _ _ _ hT4.r
    have c2 := fun j => frozen_of_row w4 _ j _ _ hT4.r
    have z1 := lt_some hT4.r
    go_wp2_with fail
    exact bodyPost_ret (v := .tuple #[rV R, .int .i64 C]) (by simp [results, Try.results93, go_sem, c1, c2, z1]) rfl ⟨rfl, hT4.end_ _ _⟩

set_option maxHeartbeats 1000000 in
theorem nanS_any (x : Int) (w : World) : Calls Try.prog 141 #[.int .i64 x] w fun e w' => e = .returned (.bool false) ∧ w = w' := by
  have q : (x != x) = false := by simp
  go_enter Try.func141, Try.ntmps141
  go_wp2_with fail
  go_ret
  exact ⟨rfl, rfl⟩
set_option maxHeartbeats 1000000 in
theorem compareS_any (x y : Int) (w : World) : Calls Try.prog 130 #[.int .i64 x, .int .i64 y] w fun e w' => e = .returned (.int .i64 (cmpI x y)) ∧ w = w' := by
  have HN := Lib.hid (fun (x : Int) (W : World) => nanS_any x W)
  by_cases h : x < y
  · rw [cmpI_lt h]
    have q1 : decide (x < y) = true := by simpa using h
    clear h
    go_enter Try.func130, Try.ntmps130
    go_wp2_with ((go_at_call 141; refine (HN.out _ _).mono ?_; rintro e w' ⟨rfl, rfl⟩))
    go_ret
    exact ⟨rfl, rfl⟩
  by_cases h2 : y < x
  · rw [cmpI_gt h2]
    have q1 : decide (x < y) = false := by simpa using h
    have q2 : decide (y < x) = true := by simpa using h2
    clear h h2
    go_enter Try.func130, Try.ntmps130
    go_wp2_with ((go_at_call 141; refine (HN.out _ _).mono ?_; rintro e w' ⟨rfl, rfl⟩))
    go_ret
    exact ⟨rfl, rfl⟩
  · rw [cmpI_eq (by omega)]
    have q1 : decide (x < y) = false := by simpa using h
    have q2 : decide (y < x) = false := by simpa using h2
    clear h h2
    go_enter Try.func130, Try.ntmps130
    go_wp2_with ((go_at_call 141; refine (HN.out _ _).mono ?_; rintro e w' ⟨rfl, rfl⟩))
    go_ret
    exact ⟨rfl, rfl⟩

set_option maxHeartbeats 1000000 in
theorem nanU_any (x : Int) (w : World) : Calls Try.prog 142 #[.int .u64 x] w fun e w' => e = .returned (.bool false) ∧ w = w' := by
  have q : (x != x) = false := by simp
  go_enter Try.func142, Try.ntmps142
  go_wp2_with fail
  go_ret
  exact ⟨rfl, rfl⟩
set_option maxHeartbeats 1000000 in
theorem compareU_any (x y : Int) (w : World) : Calls Try.prog 132 #[.int .u64 x, .int .u64 y] w fun e w' => e = .returned (.int .i64 (cmpI x y)) ∧ w = w' := by
  have HN := Lib.hid (fun (x : Int) (W : World) => nanU_any x W)
  by_cases h : x < y
  · rw [cmpI_lt h]
    have q1 : decide (x < y) = true := by simpa using h
    clear h
    go_enter Try.func132, Try.ntmps132
    go_wp2_with ((go_at_call 142; refine (HN.out _ _).mono ?_; rintro e w' ⟨rfl, rfl⟩))
    go_ret
    exact ⟨rfl, rfl⟩
  by_cases h2 : y < x
  · rw [cmpI_gt h2]
    have q1 : decide (x < y) = false := by simpa using h
    have q2 : decide (y < x) = true := by simpa using h2
    clear h h2
    go_enter Try.func132, Try.ntmps132
    go_wp2_with ((go_at_call 142; refine (HN.out _ _).mono ?_; rintro e w' ⟨rfl, rfl⟩))
    go_ret
    exact ⟨rfl, rfl⟩
  · rw [cmpI_eq (by omega)]
    have q1 : decide (x < y) = false := by simpa using h
    have q2 : decide (y < x) = false := by simpa using h2
    clear h h2
    go_enter Try.func132, Try.ntmps132
    go_wp2_with ((go_at_call 142; refine (HN.out _ _).mono ?_; rintro e w' ⟨rfl, rfl⟩))
    go_ret
    exact ⟨rfl, rfl⟩

set_option maxHeartbeats 1000000 in
theorem orI_any (A : Option Addr) (c : Nat) (xs : List Int) (w : World) (hx : Ints w.heap.size w A xs) (hm : xs.length ≤ maxLen) :
    Calls Try.prog 131 #[.slice A xs.length c] w fun e w' => e = .returned (.int .i64 (orL xs)) ∧ w = w' := by
  unfold maxLen at hm
  go_enter Try.func131, Try.ntmps131
  go_wp2
  go_loop [8] (fun i => ∃ k : Nat, k ≤ xs.length ∧ i = .int .i64 k ∧ Hid (∀ j, j < k → gi xs j = 0)) (fun i => xs.length - (intOf i).toNat)
  case atStart => exact ⟨0, Nat.zero_le _, rfl, Lib.hid fun j hj => by omega⟩
  case round =>
    obtain ⟨k, hk, rfl, hno⟩ := hrel
    by_cases hlt : k < xs.length
    · obtain ⟨ad, rfl, hb, hc⟩ := hx.at_ hlt
      by_cases h0 : gi xs k = 0
      · have HN := Lib.hid (show ∀ j, j < k + 1 → gi xs j = 0 from fun j hj => by
          by_cases e : j = k
          · subst e; exact h0
          · exact hno.out j (by omega))
        rw [h0] at hc
        clear h0 hno
        go_wp2
        go_round
        case rel => exact ⟨k + 1, by omega, by go_num, HN⟩
        case measure => simp [intOf]; omega
      · have HO := Lib.hid (orL_at hlt hno.out h0)
        have q : (gi xs k != 0) = true := by simpa using h0
        clear h0 hno
        go_wp2
        go_ret
        exact ⟨ret_int HO.out.symm, rfl⟩
    · obtain rfl : k = xs.length := by omega
      have HO := Lib.hid (orL_end hno.out)
      clear hno
      go_wp2
      go_ret
      exact ⟨ret_int HO.out.symm, rfl⟩

theorem cmp_words {X Y : Int} : orL [cmpI (hi64 X) (hi64 Y), cmpI (lo64 X) (lo64 Y)] = cmpI X Y := by
  have h1 := hi_lo X; have h2 := hi_lo Y
  have l1 := lo64_bd X; have l2 := lo64_bd Y
  generalize hi64 X = a at *; generalize lo64 X = b at *
  generalize hi64 Y = c at *; generalize lo64 Y = d at *
  simp only [orL]
  unfold cmpI
  by_cases k1 : a < c
  · rw [if_pos k1, if_pos (by omega), if_pos (by omega)]
  · by_cases k2 : c < a
    · rw [if_neg k1, if_pos k2, if_pos (by omega), if_neg (by omega), if_pos (by omega)]
    · rw [if_neg k1, if_neg k2, if_neg (by omega)]
      by_cases k3 : b < d
      · rw [if_pos k3, if_pos (by omega), if_pos (by omega)]
      · by_cases k4 : d < b
        · rw [if_neg k3, if_pos k4, if_pos (by omega), if_neg (by omega), if_pos (by omega)]
        · rw [if_neg k3, if_neg k4, if_neg (by omega), if_neg (by omega), if_neg (by omega)]

set_option maxRecDepth 100000 in
set_option maxHeartbeats 8000000 in
theorem rcmp_any (a b : Rt) (ha : a.wf) (hb : b.wf) (w : World) :
    Calls Try.prog 120 #[rV a, rV b] w fun e w' => e = .returned (.tuple #[.int .i64 (cmpR a b), .int .i64 (code2 a b)]) ∧ Below w.heap.size w w' := by
  have hT0 := DuoIn.start w a b
  have HC := Lib.hid (fun (W : World) => rcheck2_any a b ha hb W)
  by_cases hc : code2 a b = 0
  rotate_left
  · have q1 : (code2 a b != 0) = true := by simpa using hc
    have hr : cmpR a b = 0 := by unfold cmpR; rw [if_neg hc]
    rw [hr]
    clear hr hc ha hb
    generalize code2 a b = c at HC q1
    go_enter Try.func120, Try.ntmps120
    go_wp2_with fail
    refine (HC.out _).mono ?_
    rintro e w1 ⟨rfl, hb1⟩
    have hT1 := hT0.next hb1
    clear hb1 hT0
    go_wp2_with fail
    go_ret2
    exact ⟨rfl, hT1.below⟩
  obtain ⟨oa, ob⟩ := ok_code2 hc
  have q1 : (code2 a b != 0) = false := by simpa using hc
  rw [hc]
  rw [hc] at HC
  by_cases hs : (a.n < 0 ↔ b.n < 0)
  rotate_left
  · rw [cmp_signs oa ob hs]
    have HCM := Lib.hid (fun (W : World) => compareS_any a.n b.n W)
    generalize cmpI a.n b.n = r at HCM ⊢
    by_cases ks : a.n < 0
    all_goals
      first
        | (have q3 : decide (a.n < 0) = true := by simpa using ks
           have q4 : decide (b.n < 0) = false := by simp; omega)
        | (have q3 : decide (a.n < 0) = false := by simpa using ks
           have q4 : decide (b.n < 0) = true := by simp; omega)
      clear hs hc ha hb q1 ks
      go_enter Try.func120, Try.ntmps120
      go_wp2_with fail
      refine (HC.out _).mono ?_
      rintro e w1 ⟨rfl, hb1⟩
      have hT1 := hT0.next hb1
      clear hb1 hT0
      have ca := fun j => cell_of_row w1 _ j _ _ _ hT1.ba
      have cb := fun j => cell_of_row w1 _ j _ _ _ hT1.bb
      have za := lt_some hT1.ba
      have zb := lt_some hT1.bb
      go_wp2_with fail
      refine (HCM.out _).mono ?_
      rintro e w2 ⟨rfl, rfl⟩
      go_wp2_with fail
      go_ret2
      exact ⟨rfl, hT1.below⟩
  have hcs := cmp_same oa ob hs
  have HQ := Lib.hid hs
  have n0 := oa.n0; have n1 := oa.n1; have d0 := oa.d0; have d1 := oa.d1
  have m0 := ob.n0; have m1 := ob.n1; have e0 := ob.d0; have e1 := ob.d1
  have an := absI_nonneg a.n
  have al : absI a.n ≤ 1000000000000000000 := by unfold absI; omega
  have bn := absI_nonneg b.n
  have bl : absI b.n ≤ 1000000000000000000 := by unfold absI; omega
  have HS1 := Lib.hid (fun (W : World) => size_any a.n W (by omega) (by omega))
  have HS2 := Lib.hid (fun (W : World) => size_any b.n W (by omega) (by omega))
  have HM1 := Lib.hid (fun (W : World) => mul64_any (absI a.n) b.d W an (by omega) (by omega) (by omega))
  have HM2 := Lib.hid (fun (W : World) => mul64_any (absI b.n) a.d W bn (by omega) (by omega) (by omega))
  have wd1 : IntKind.u64.wrap a.d = a.d := IntWalk.u64_in _ (by omega)
  have wd2 : IntKind.u64.wrap b.d = b.d := IntWalk.u64_in _ (by omega)
  clear hs hc ha hb q1
  generalize absI a.n * b.d = X at *
  generalize absI b.n * a.d = Y at *
  have HK1 := Lib.hid (fun (W : World) => compareU_any (hi64 X) (hi64 Y) W)
  have HK2 := Lib.hid (fun (W : World) => compareU_any (lo64 X) (lo64 Y) W)
  have HO := Lib.hid (fun (W : World) (c : Nat) => orI_any (some ⟨W.heap.size, 0, none⟩) c [cmpI (hi64 X) (hi64 Y), cmpI (lo64 X) (lo64 Y)] _ (ints_lit2 W (cmpI (hi64 X) (hi64 Y)) (cmpI (lo64 X) (lo64 Y)) 3) (by unfold maxLen; simp))
  rw [cmp_words] at HO
  have hb1 : -1 ≤ cmpI X Y ∧ cmpI X Y ≤ 1 := by unfold cmpI; split <;> (try split) <;> omega
  obtain ⟨rb1, rb2⟩ := hb1
  have HR := Lib.hid hcs
  clear hcs
  generalize cmpI X Y = r at HO HR rb1 rb2
  have wr : IntKind.i64.wrap (-r) = -r := IntWalk.i64_in _ (by omega)
  generalize cmpI (hi64 X) (hi64 Y) = r1 at HK1 HO
  generalize cmpI (lo64 X) (lo64 Y) = r2 at HK2 HO
  by_cases ks : a.n < 0
  all_goals
    first
      | (have q3 : decide (a.n < 0) = true := by simpa using ks
         have q4 : decide (b.n < 0) = true := by have := HQ.out; simp; omega
         have HR2 := Lib.hid (HR.out.trans (if_pos ks)))
      | (have q3 : decide (a.n < 0) = false := by simpa using ks
         have q4 : decide (b.n < 0) = false := by have := HQ.out; simp; omega
         have HR2 := Lib.hid (HR.out.trans (if_neg ks)))
    clear ks
    go_enter Try.func120, Try.ntmps120
    go_wp2_with fail
    refine (HC.out _).mono ?_
    rintro e w1 ⟨rfl, hb1⟩
    have hT1 := hT0.next hb1
    clear hb1 hT0
    have ca := fun j => cell_of_row w1 _ j _ _ _ hT1.ba
    have cb := fun j => cell_of_row w1 _ j _ _ _ hT1.bb
    have za := lt_some hT1.ba
    have zb := lt_some hT1.bb
    go_upto_region 6 with fail
    refine wp_region_ext (by kernel_rfl) (by kernel_rfl) ?_
    repeat (first | go_big_quiet_step ((first | (go_at_call 100; exact calls_ext (HS1.out _)) | (go_at_call 99; exact calls_ext (HM1.out _)))) | quiet_step ((first | (go_at_call 100; exact calls_ext (HS1.out _)) | (go_at_call 99; exact calls_ext (HM1.out _)))))
    refine wpQuiet_nil ?_
    rintro w2 ⟨⟨_, hb⟩, rfl⟩
    have hT2 := hT1.next hb
    clear hb hT1 ca cb za zb
    have ca := fun j => cell_of_row w2 _ j _ _ _ hT2.ba
    have cb := fun j => cell_of_row w2 _ j _ _ _ hT2.bb
    have za := lt_some hT2.ba
    have zb := lt_some hT2.bb
    go_upto_region 7 with fail
    refine wp_region_ext (by kernel_rfl) (by kernel_rfl) ?_
    repeat (first | go_big_quiet_step ((first | (go_at_call 100; exact calls_ext (HS2.out _)) | (go_at_call 99; exact calls_ext (HM2.out _)))) | quiet_step ((first | (go_at_call 100; exact calls_ext (HS2.out _)) | (go_at_call 99; exact calls_ext (HM2.out _)))))
    refine wpQuiet_nil ?_
    rintro w3 ⟨⟨_, hb⟩, rfl⟩
    have hT3 := hT2.next hb
    clear hb hT2 ca cb za zb
    go_wp2_with fail
    refine (HK1.out _).mono ?_
    rintro e w4 ⟨rfl, rfl⟩
    go_wp2_with fail
    refine (HK2.out _).mono ?_
    rintro e w4 ⟨rfl, rfl⟩
    go_wp2_with fail
    refine (HO.out _ _).mono ?_
    rintro e w4 ⟨rfl, rfl⟩
    have hT4 := hT3.next (one_alloc _ (.cells #[.int .i64 r1, .int .i64 r2] 3))
    have ca := fun j => cell_of_row _ _ j _ _ _ hT4.ba
    have cb := fun j => cell_of_row _ _ j _ _ _ hT4.bb
    clear hT3
    generalize World.alloc _ _ = w5 at hT4 ca cb ⊢
    go_wp2_with fail
    go_ret2
    exact ⟨ret_two (vint HR2.out.symm) rfl, hT4.below⟩
end Go.Proofs.Ytgcbmnohhbcfiaa
