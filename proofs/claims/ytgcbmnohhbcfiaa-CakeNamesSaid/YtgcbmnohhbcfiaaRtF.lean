/- ratio.Sub and ratio.Mul, walked. -/
import Derived.Test.YtgcbmnohhbcfiaaRtE
namespace Go.Proofs.Ytgcbmnohhbcfiaa
open Go.RowKit Go.Deep
set_option linter.unusedVariables false
set_option linter.unusedSimpArgs false

set_option maxRecDepth 100000 in
set_option maxHeartbeats 4000000 in
theorem rsub_any (a b : Rt) (ha : a.wf) (hb : b.wf) (w : World) :
    Calls Try.prog 92 #[rV a, rV b] w fun e w' => e = .returned (.tuple #[rV (subR a b), .int .i64 (subC a b)]) ∧ Below w.heap.size w w' := by
  have hT0 := TwoIn.start w a b
  have HC := Lib.hid (fun (W : World) => rcheck2_any a b ha hb W)
  by_cases hc : code2 a b = 0
  rotate_left
  · have q1 : (code2 a b != 0) = true := by simpa using hc
    have hr := sub_bad hc
    rw [hr.1, hr.2]
    clear hr hc ha hb
    generalize code2 a b = c at HC q1
    go_enter Try.func92, Try.ntmps92
    go_wp2_with fail
    refine (HC.out _).mono ?_
    rintro e w1 ⟨rfl, hb1⟩
    have hT1 := hT0.next hb1
    clear hb1 hT0
    have c1 := fun j => cell_of_row w1 _ j _ _ _ hT1.r
    have c2 := fun j => frozen_of_row w1 _ j _ _ hT1.r
    have z1 := lt_some hT1.r
    go_wp2_with fail
    exact bodyPost_ret (v := .tuple #[.agg #[.int .i64 0, .int .i64 0], .int .i64 c]) (by simp [results, Try.results92, go_sem, c1, c2, z1]) rfl ⟨rfl, hT1.end_ _ _⟩
  obtain ⟨oa, ob⟩ := ok_code2 hc
  have q1 : (code2 a b != 0) = false := by simpa using hc
  rw [← (sub_add hc).1, ← (sub_add hc).2]
  have m0 := ob.n0; have m1 := ob.n1
  have HA := Lib.hid (fun (W : World) => radd_any a b.neg ha (Rt.neg_ok ob).wf W)
  have w1 : IntKind.i64.wrap (-b.n) = -b.n := IntWalk.i64_in _ (by omega)
  clear hc ha hb
  generalize addR a b.neg = R at HA ⊢
  generalize addC a b.neg = C at HA ⊢
  go_enter Try.func92, Try.ntmps92
  go_wp2_with fail
  refine (HC.out _).mono ?_
  rintro e w2 ⟨rfl, hb1⟩
  have hT1 := hT0.next hb1
  clear hb1 hT0
  have ca := fun j => cell_of_row w2 _ j _ _ _ hT1.ba
  have cb := fun j => cell_of_row w2 _ j _ _ _ hT1.bb
  have fb := fun j => frozen_of_row w2 _ j _ _ hT1.bb
  have hT2 := Lib.hid (hT1.setB (-b.n))
  have ca2 := Lib.hid (fun j => cell_of_row _ _ j _ _ _ hT2.out.ba)
  have cb2 := Lib.hid (fun j => cell_of_row _ _ j _ _ _ hT2.out.bb)
  go_upto_region 5 with fail
  clear ca cb fb
  generalize w2.setCell _ _ = w3 at hT2 ca2 cb2 ⊢
  have ca := ca2.out
  have cb := cb2.out
  have hT3 := hT2.out
  go_wp2_with fail
  refine (HA.out _).mono ?_
  rintro e w4 ⟨rfl, hb4⟩
  have hT4 := hT3.next hb4
  clear hb4 hT3 ca cb ca2 cb2 hT2 hT1
  have c1 := fun j => cell_of_row w4 _ j _ _ _ hT4.r
  have c2 := fun j => frozen_of_row w4 _ j _ _ hT4.r
  have z1 := lt_some hT4.r
  go_wp2_with fail
  exact bodyPost_ret (v := .tuple #[rV R, .int .i64 C]) (by simp [results, Try.results92, go_sem, c1, c2, z1]) rfl ⟨rfl, hT4.end_ _ _⟩

set_option maxRecDepth 100000 in
set_option maxHeartbeats 8000000 in
theorem rmul_any (a b : Rt) (ha : a.wf) (hb : b.wf) (w : World) :
    Calls Try.prog 94 #[rV a, rV b] w fun e w' => e = .returned (.tuple #[rV (mulR a b), .int .i64 (mulC a b)]) ∧ Below w.heap.size w w' := by
  have hT0 := TwoIn.start w a b
  have HC := Lib.hid (fun (W : World) => rcheck2_any a b ha hb W)
  by_cases hc : code2 a b = 0
  rotate_left
  · have q1 : (code2 a b != 0) = true := by simpa using hc
    have hr := mul_bad hc
    rw [hr.1, hr.2]
    clear hr hc ha hb
    generalize code2 a b = c at HC q1
    go_enter Try.func94, Try.ntmps94
    go_wp2_with fail
    refine (HC.out _).mono ?_
    rintro e w1 ⟨rfl, hb1⟩
    have hT1 := hT0.next hb1
    clear hb1 hT0
    have c1 := fun j => cell_of_row w1 _ j _ _ _ hT1.r
    have c2 := fun j => frozen_of_row w1 _ j _ _ hT1.r
    have z1 := lt_some hT1.r
    go_wp2_with fail
    exact bodyPost_ret (v := .tuple #[.agg #[.int .i64 0, .int .i64 0], .int .i64 c]) (by simp [results, Try.results94, go_sem, c1, c2, z1]) rfl ⟨rfl, hT1.end_ _ _⟩
  obtain ⟨oa, ob⟩ := ok_code2 hc
  have q1 : (code2 a b != 0) = false := by simpa using hc
  rw [(mul_ok hc).1, (mul_ok hc).2]
  clear hc ha hb
  have P := prodOf oa ob
  have n0 := oa.n0; have n1 := oa.n1; have d0 := oa.d0; have d1 := oa.d1
  have m0 := ob.n0; have m1 := ob.n1; have e0 := ob.d0; have e1 := ob.d1
  have an := absI_nonneg a.n
  have al : absI a.n ≤ 1000000000000000000 := by unfold absI; omega
  have bn := absI_nonneg b.n
  have bl : absI b.n ≤ 1000000000000000000 := by unfold absI; omega
  have HS1 := Lib.hid (fun (W : World) => size_any a.n W (by omega) (by omega))
  have HS2 := Lib.hid (fun (W : World) => size_any b.n W (by omega) (by omega))
  have HG1 := Lib.hid (fun (W : World) => gcd_any (absI a.n) b.d W (by omega) (by omega) (by omega) (by omega))
  have HG2 := Lib.hid (fun (W : World) => gcd_any (absI b.n) a.d W (by omega) (by omega) (by omega) (by omega))
  rw [gcdI_abs] at HG1 HG2
  have HBIG := Lib.hid (fun hb => P.big hb)
  have HFIN := Lib.hid P.fin
  generalize mkR (a.q * b.q) = R at HBIG HFIN ⊢
  generalize mkC (a.q * b.q) = C at HBIG HFIN ⊢
  generalize gcdI a.n b.d = g at *
  generalize gcdI b.n a.d = h at *
  have g0 := P.g0; have h0 := P.h0; have gd := P.gd; have hd := P.hd
  have u0 := P.u0; have u1 := P.u1; have v0 := P.v0; have v1 := P.v1
  have x0 := P.x0; have x1 := P.x1; have y0 := P.y0; have y1 := P.y1
  have N0 := P.n0; have D0 := P.d0
  have wd1 : IntKind.u64.wrap a.d = a.d := IntWalk.u64_in _ (by omega)
  have wd2 : IntKind.u64.wrap b.d = b.d := IntWalk.u64_in _ (by omega)
  have r1 : IntKind.u64.wrap ((absI a.n).tdiv g) = absI a.n / g := IntWalk.u64_quo _ _ (by omega)
  have r2 : IntKind.u64.wrap ((absI b.n).tdiv h) = absI b.n / h := IntWalk.u64_quo _ _ (by omega)
  have r3 : IntKind.u64.wrap (a.d.tdiv h) = a.d / h := IntWalk.u64_quo _ _ (by omega)
  have r4 : IntKind.u64.wrap (b.d.tdiv g) = b.d / g := IntWalk.u64_quo _ _ (by omega)
  have r5 : ¬ g = 0 := by omega
  have r6 : ¬ h = 0 := by omega
  clear P
  generalize absI a.n / g = u at *
  generalize absI b.n / h = v at *
  generalize a.d / h = x at *
  generalize b.d / g = y at *
  have HM1 := Lib.hid (fun (W : World) => mul64_any u v W u0 (by omega) v0 (by omega))
  have HM2 := Lib.hid (fun (W : World) => mul64_any x y W x0 (by omega) y0 (by omega))
  have nb : u * v ≤ 1000000000000000000 * 1000000000000000000 := Int.mul_le_mul u1 v1 v0 (by omega)
  have db : x * y ≤ 1000000000000000000 * 1000000000000000000 := Int.mul_le_mul x1 y1 y0 (by omega)
  generalize u * v = N at *
  generalize x * y = D at *
  have k1 := hi64_bd N0 (by omega)
  have k2 := hi64_bd (x := D) (by omega) (by omega)
  have HN := Lib.hid (hi_lo N)
  have HD := Lib.hid (hi_lo D)
  have k3 := lo64_bd N
  have k4 := lo64_bd D
  have ku : hi64 N ≤ 1000000000000000000 := by unfold hi64; omega
  have kv : hi64 D ≤ 1000000000000000000 := by unfold hi64; omega
  obtain ⟨k5, _⟩ := k1
  obtain ⟨k6, _⟩ := k2
  have w3 : IntKind.u64.wrap (hi64 N + hi64 D) = hi64 N + hi64 D := IntWalk.u64_in _ (by omega)
  go_enter Try.func94, Try.ntmps94
  go_wp2_with fail
  refine (HC.out _).mono ?_
  rintro e w1 ⟨rfl, hb1⟩
  have hT1 := hT0.next hb1
  clear hb1 hT0
  have ca := fun j => cell_of_row w1 _ j _ _ _ hT1.ba
  have cb := fun j => cell_of_row w1 _ j _ _ _ hT1.bb
  have za := lt_some hT1.ba
  have zb := lt_some hT1.bb
  go_upto_region 4 with fail
  refine wp_region_ext (by kernel_rfl) (by kernel_rfl) ?_
  repeat (first | go_big_quiet_step ((first | (go_at_call 100; first | (with_reducible exact calls_ext (HS1.out _)) | (with_reducible exact calls_ext (HS2.out _))))) | quiet_step ((first | (go_at_call 100; first | (with_reducible exact calls_ext (HS1.out _)) | (with_reducible exact calls_ext (HS2.out _))))))
  refine wpQuiet_nil ?_
  rintro w2 ⟨⟨_, hb⟩, rfl⟩
  have hT2 := hT1.next hb
  clear hb hT1 ca cb za zb
  go_wp2_with fail
  refine (HG1.out _).mono ?_
  rintro e w3 ⟨rfl, hb3⟩
  have hT3 := hT2.next hb3
  clear hb3 hT2
  go_wp2_with fail
  refine (HG2.out _).mono ?_
  rintro e w4 ⟨rfl, hb4⟩
  have hT4 := hT3.next hb4
  clear hb4 hT3
  go_upto_region 6 with fail
  refine wp_region_ext (by kernel_rfl) (by kernel_rfl) ?_
  repeat (first | go_big_quiet_step ((first | (go_at_call 99; exact calls_ext (HM1.out _)))) | quiet_step ((first | (go_at_call 99; exact calls_ext (HM1.out _)))))
  refine wpQuiet_nil ?_
  rintro w5 ⟨⟨_, hb⟩, rfl⟩
  have hT5 := hT4.next hb
  clear hb hT4
  go_upto_region 7 with fail
  refine wp_region_ext (by kernel_rfl) (by kernel_rfl) ?_
  repeat (first | go_big_quiet_step ((first | (go_at_call 99; exact calls_ext (HM2.out _)))) | quiet_step ((first | (go_at_call 99; exact calls_ext (HM2.out _)))))
  refine wpQuiet_nil ?_
  rintro w6 ⟨⟨_, hb⟩, rfl⟩
  have hT6 := hT5.next hb
  clear hb hT5
  by_cases ko : 0 < hi64 N + hi64 D
  · have q2 : decide (0 < hi64 N + hi64 D) = true := by simpa using ko
    obtain ⟨rfl, rfl⟩ := HBIG.out (by have := HN.out; have := HD.out; omega)
    clear ko
    have c1 := fun j => cell_of_row w6 _ j _ _ _ hT6.r
    have c2 := fun j => frozen_of_row w6 _ j _ _ hT6.r
    have z1 := lt_some hT6.r
    go_wp2_with fail
    exact bodyPost_ret (v := .tuple #[.agg #[.int .i64 0, .int .i64 0], .int .i64 16]) (by simp [results, Try.results94, go_sem, c1, c2, z1]) rfl ⟨rfl, hT6.end_ _ _⟩
  · have q2 : decide (0 < hi64 N + hi64 D) = false := by simpa using ko
    have z3 : lo64 N = N := by have := HN.out; omega
    have z4 : lo64 D = D := by have := HD.out; omega
    have nl : N ≤ 18446744073709551615 := by omega
    have dl : D ≤ 18446744073709551615 := by omega
    have HLAST := Lib.hid (show ∀ (W : World), Calls Try.prog 105 #[.bool (decide (0 < N) && (decide (a.n < 0) != decide (b.n < 0))), .int .u64 N, .int .u64 D] W fun e w' => e = .returned (.tuple #[rV R, .int .i64 C]) ∧ Below W.heap.size W w' from fun W => by
      have := signed_any (decide (0 < N) && (decide (a.n < 0) != decide (b.n < 0))) N D W N0 nl (by omega) dl
      unfold signR signC at this
      rw [HFIN.out.1, HFIN.out.2] at this
      exact this)
    clear ko HN HD HFIN HBIG
    obtain ⟨sA, hsA⟩ : ∃ A, decide (a.n < 0) = A := ⟨_, rfl⟩
    obtain ⟨sB, hsB⟩ : ∃ B, decide (b.n < 0) = B := ⟨_, rfl⟩
    rw [hsA, hsB] at HLAST
    have ca := fun j => cell_of_row w6 _ j _ _ _ hT6.ba
    have cb := fun j => cell_of_row w6 _ j _ _ _ hT6.bb
    have za := lt_some hT6.ba
    have zb := lt_some hT6.bb
    by_cases kn : 0 < N
    · have q3 : decide (0 < N) = true := by simpa using kn
      rw [q3, Bool.true_and] at HLAST
      clear kn
      go_wp2_with fail
      refine (HLAST.out _).mono ?_
      rintro e w7 ⟨rfl, hb7⟩
      have hT7 := hT6.next hb7
      clear hb7 hT6 ca cb za zb
      have c1 := fun j => cell_of_row w7 _ j _ _ _ hT7.r
      have c2 := fun j => frozen_of_row w7 _ j _ _ hT7.r
      have z1 := lt_some hT7.r
      go_wp2_with fail
      exact bodyPost_ret (v := .tuple #[rV R, .int .i64 C]) (by simp [results, Try.results94, go_sem, c1, c2, z1]) rfl ⟨rfl, hT7.end_ _ _⟩
    · have q3 : decide (0 < N) = false := by simpa using kn
      rw [q3, Bool.false_and] at HLAST
      clear kn
      go_wp2_with fail
      refine (HLAST.out _).mono ?_
      rintro e w7 ⟨rfl, hb7⟩
      have hT7 := hT6.next hb7
      clear hb7 hT6 ca cb za zb
      have c1 := fun j => cell_of_row w7 _ j _ _ _ hT7.r
      have c2 := fun j => frozen_of_row w7 _ j _ _ hT7.r
      have z1 := lt_some hT7.r
      go_wp2_with fail
      exact bodyPost_ret (v := .tuple #[rV R, .int .i64 C]) (by simp [results, Try.results94, go_sem, c1, c2, z1]) rfl ⟨rfl, hT7.end_ _ _⟩
end Go.Proofs.Ytgcbmnohhbcfiaa
