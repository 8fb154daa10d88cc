/- math/bits.Div64 and Rem64, walked, for divisors below 2^63. -/
import Derived.Test.YtgcbmnohhbcfiaaRtC
import Derived.Test.YtgcbmnohhbcfiaaRtDivP
namespace Go.Proofs.Ytgcbmnohhbcfiaa
open Go.RowKit
set_option linter.unusedVariables false
set_option linter.unusedSimpArgs false

set_option maxRecDepth 100000 in
set_option maxHeartbeats 4000000 in
theorem div64_any (hi lo y : Int) (w : World) (hh : 0 ≤ hi) (hy : hi < y) (hy' : y ≤ 9223372036854775807) (hl : 0 ≤ lo) (hl' : lo ≤ 18446744073709551615) :
    Calls Try.prog 104 #[.int .u64 hi, .int .u64 lo, .int .u64 y] w fun e w' => e = .returned (.tuple #[.int .u64 ((hi * 18446744073709551616 + lo) / y), .int .u64 ((hi * 18446744073709551616 + lo) % y)]) ∧ Below w.heap.size w w' := by
  have y1 : 1 ≤ y := by omega
  by_cases h0 : hi = 0
  · subst h0
    have q0 : ¬ y = 0 := by omega
    have e1 : IntKind.u64.wrap (lo.tdiv y) = lo / y := IntWalk.u64_quo _ _ (by omega)
    have e2 : lo.tmod y = lo % y := IntWalk.rem_in _ _ hl
    go_enter Try.func104, Try.ntmps104
    go_wp2_with fail
    go_quiet (fail)
    go_wp2_with fail
    go_ret2
    exact ⟨ret_two (vint (by simp)) (vint (by simp)), below_drewN (Below.refl _ _) _⟩
  · obtain ⟨s, hs, hS⟩ := shift_of y1 hy'
    have HLZ := Lib.hid (fun (W : World) => Try.bits_LeadingZeros64 y W (by omega) (by omega))
    rw [hs] at HLZ
    obtain ⟨t, Y, U, L, DW⟩ := divW hh hy hl hl' hS
    obtain ⟨yy1, hy1⟩ : ∃ z, Y / 4294967296 = z := ⟨_, rfl⟩
    obtain ⟨yy0, hy0⟩ : ∃ z, Y % 4294967296 = z := ⟨_, rfl⟩
    obtain ⟨u1, hu1⟩ : ∃ z, L / 4294967296 = z := ⟨_, rfl⟩
    obtain ⟨u0, hu0⟩ : ∃ z, L % 4294967296 = z := ⟨_, rfl⟩
    obtain ⟨Q, V, Q2, R, q2, r2, Z⟩ := divZ DW (by omega) hy1 hy0 hu1 hu0
    obtain ⟨q1, r1, D0, d, hr⟩ := dig0 Z.D1 DW.yh
    have f1 := DW.w1; have f2 := DW.m1; have f3 := DW.w2; have f4 := DW.m2; have f5 := DW.w3; have f6 := DW.w4; have f7 := DW.w5; have f8 := DW.a1; have f9 := DW.a2
    have g1 := D0.w1; have g2 := D0.w2; have g3 := D0.w3
    have ya := Z.D1.a
    have yb := Z.D1.a'
    have hp1 : ¬ yy1 = 0 := by omega
    have hb1 := d.r0
    have HD := Lib.hid Z.D1
    have Hd := Lib.hid d
    have HZ := Lib.hid Z
    have HE1 := Lib.hid hr
    rw [hy0] at f8
    rw [hu0] at f9
    clear hs hS DW Z d D0 hr
    have q0 : (hi == 0) = false := by simpa using h0
    have q3 : (y == 0) = false := by simp; omega
    go_enter Try.func104, Try.ntmps104
    go_wp2_with ((go_at_call 122; refine (HLZ.out _).mono ?_; rintro e w' ⟨rfl, rfl⟩))
    clear f1 f3 f4 f5 f6 f7 f8 f9 g1 g2 g3 q0 q3 hy1 hy0 hu1 hu0 HLZ h0
    have yc := HZ.out.D1.b
    have yd := HZ.out.D1.b'
    have ue := HZ.out.D1.v
    have uf := HZ.out.D1.v'
    have ug := HZ.out.D2.v
    have uh := HZ.out.D2.v'
    have ql := HZ.out.ql
    have qh := HZ.out.qh
    have pl := HZ.out.pl
    have ph := HZ.out.ph
    have x1 := HZ.out.w1
    have x2 := HZ.out.z.w1
    have x3 := HZ.out.z.w2
    have x4 := HZ.out.z.w3
    have x5 := HZ.out.w2
    go_loop [15, 16] (fun a b => ∃ q r : Int, a = .int .u64 q ∧ b = .int .u64 r ∧ Hid (Dig Y yy1 yy0 U u1 q r) ∧ 0 ≤ r ∧ r ≤ 4294967295 ∧ 0 ≤ q ∧ q ≤ 4294967297) (fun a _ => (intOf a).toNat)
    case atStart => exact ⟨_, _, rfl, rfl, Hd, Hd.out.r0, HE1.out, Hd.out.q0, Hd.out.q2⟩
    case round =>
      clear Hd HE1
      obtain ⟨q, r, rfl, rfl, hd, r0, r1, q0, q2⟩ := hrel
      by_cases k1 : 4294967296 ≤ q
      · have b1 : decide (4294967296 ≤ q) = true := by simpa using k1
        have hn := Lib.hid (hd.out.step HD.out (Or.inl k1))
        have hq := Lib.hid (hd.out.big HD.out (Or.inl k1))
        clear hd
        by_cases k3 : 4294967296 ≤ r + yy1
        · have HQ := (hn.out.fin2 HD.out (by omega) k3).trans HZ.out.q
          have b3 : decide (4294967296 ≤ r + yy1) = true := by simpa using k3
          have eq1 : IntKind.u64.wrap (q - 1) = Q := by rw [IntKind.wrap_u64]; omega
          clear k1 k3 hn hq HQ q2 q0
          go_wp2_with fail
          clear x1 x2 x3 x4
          try clear b1
          try clear b2
          try clear b3
          try clear eq1
          try clear g1
          try clear g2
          try clear g3
          have Hd2 := Lib.hid HZ.out.d
          have HE2 := Lib.hid HZ.out.r
          go_loop [18, 16] (fun a b => ∃ q r : Int, a = .int .u64 q ∧ b = .int .u64 r ∧ Hid (Dig Y yy1 yy0 V u0 q r) ∧ 0 ≤ r ∧ r ≤ 4294967295 ∧ 0 ≤ q ∧ q ≤ 4294967297) (fun a _ => (intOf a).toNat)
          case atStart => exact ⟨_, _, rfl, rfl, Hd2, Hd2.out.r0, HE2.out, Hd2.out.q0, Hd2.out.q2⟩
          case round =>
            clear Hd2 HE2
            obtain ⟨q, r, rfl, rfl, hd, r0, r1, q0, q2⟩ := hrel
            by_cases k1 : 4294967296 ≤ q
            · have b1 : decide (4294967296 ≤ q) = true := by simpa using k1
              have hn := Lib.hid (hd.out.step HZ.out.D2 (Or.inl k1))
              have hq := Lib.hid (hd.out.big HZ.out.D2 (Or.inl k1))
              clear hd
              by_cases k3 : 4294967296 ≤ r + yy1
              · have HQ := (hn.out.fin2 HZ.out.D2 (by omega) k3).trans HZ.out.p
                have b3 : decide (4294967296 ≤ r + yy1) = true := by simpa using k3
                have eq1 : IntKind.u64.wrap (q - 1) = Q2 := by rw [IntKind.wrap_u64]; omega
                clear k1 k3 hn hq HQ q2 q0
                go_wp2_with fail
                go_ret2
                exact ⟨ret_two (vint HZ.out.quo) (vint HZ.out.rem), Below.refl _ _⟩
              · have b3 : decide (4294967296 ≤ r + yy1) = false := by simpa using k3
                have q1' : 1 ≤ q := by omega
                go_wp2_with fail
                go_round
                case rel => exact ⟨q - 1, r + yy1, rfl, rfl, hn, by omega, by omega, by omega, by omega⟩
                case measure => simp [intOf]; omega
            · have b1 : decide (4294967296 ≤ q) = false := by simpa using k1
              obtain ⟨g1, g2, g3⟩ := dig_wraps HZ.out.D2 hd.out r1 (by omega)
              by_cases k2 : 4294967296 * r + u0 < q * yy0
              · have b2 : decide (4294967296 * r + u0 < q * yy0) = true := by simpa using k2
                have hn := Lib.hid (hd.out.step HZ.out.D2 (Or.inr k2))
                have hq := hd.out.big HZ.out.D2 (Or.inr k2)
                have ht := (HZ.out.D2).top
                have q1' : 1 ≤ q := by omega
                clear hd hq ht
                by_cases k3 : 4294967296 ≤ r + yy1
                · have HQ := (hn.out.fin2 HZ.out.D2 (by omega) k3).trans HZ.out.p
                  have b3 : decide (4294967296 ≤ r + yy1) = true := by simpa using k3
                  have eq1 : IntKind.u64.wrap (q - 1) = Q2 := by rw [IntKind.wrap_u64]; omega
                  clear k1 k2 k3 hn HQ q2 q0 q1'
                  go_wp2_with fail
                  go_ret2
                  exact ⟨ret_two (vint HZ.out.quo) (vint HZ.out.rem), Below.refl _ _⟩
                · have b3 : decide (4294967296 ≤ r + yy1) = false := by simpa using k3
                  clear k2
                  go_wp2_with fail
                  go_round
                  case rel => exact ⟨q - 1, r + yy1, rfl, rfl, hn, by omega, by omega, by omega, by omega⟩
                  case measure => simp [intOf]; omega
              · have b2 : decide (4294967296 * r + u0 < q * yy0) = false := by simpa using k2
                have HQ := (hd.out.fin1 HZ.out.D2 (by omega)).trans HZ.out.p
                subst HQ
                clear k1 k2 hd q2 q0
                go_wp2_with fail
                go_ret2
                exact ⟨ret_two (vint HZ.out.quo) (vint HZ.out.rem), Below.refl _ _⟩
        · have b3 : decide (4294967296 ≤ r + yy1) = false := by simpa using k3
          have q1' : 1 ≤ q := by omega
          go_wp2_with fail
          go_round
          case rel => exact ⟨q - 1, r + yy1, rfl, rfl, hn, by omega, by omega, by omega, by omega⟩
          case measure => simp [intOf]; omega
      · have b1 : decide (4294967296 ≤ q) = false := by simpa using k1
        obtain ⟨g1, g2, g3⟩ := dig_wraps HD.out hd.out r1 (by omega)
        by_cases k2 : 4294967296 * r + u1 < q * yy0
        · have b2 : decide (4294967296 * r + u1 < q * yy0) = true := by simpa using k2
          have hn := Lib.hid (hd.out.step HD.out (Or.inr k2))
          have hq := hd.out.big HD.out (Or.inr k2)
          have ht := (HD.out).top
          have q1' : 1 ≤ q := by omega
          clear hd hq ht
          by_cases k3 : 4294967296 ≤ r + yy1
          · have HQ := (hn.out.fin2 HD.out (by omega) k3).trans HZ.out.q
            have b3 : decide (4294967296 ≤ r + yy1) = true := by simpa using k3
            have eq1 : IntKind.u64.wrap (q - 1) = Q := by rw [IntKind.wrap_u64]; omega
            clear k1 k2 k3 hn HQ q2 q0 q1'
            go_wp2_with fail
            clear x1 x2 x3 x4
            try clear b1
            try clear b2
            try clear b3
            try clear eq1
            try clear g1
            try clear g2
            try clear g3
            have Hd2 := Lib.hid HZ.out.d
            have HE2 := Lib.hid HZ.out.r
            go_loop [18, 16] (fun a b => ∃ q r : Int, a = .int .u64 q ∧ b = .int .u64 r ∧ Hid (Dig Y yy1 yy0 V u0 q r) ∧ 0 ≤ r ∧ r ≤ 4294967295 ∧ 0 ≤ q ∧ q ≤ 4294967297) (fun a _ => (intOf a).toNat)
            case atStart => exact ⟨_, _, rfl, rfl, Hd2, Hd2.out.r0, HE2.out, Hd2.out.q0, Hd2.out.q2⟩
            case round =>
              clear Hd2 HE2
              obtain ⟨q, r, rfl, rfl, hd, r0, r1, q0, q2⟩ := hrel
              by_cases k1 : 4294967296 ≤ q
              · have b1 : decide (4294967296 ≤ q) = true := by simpa using k1
                have hn := Lib.hid (hd.out.step HZ.out.D2 (Or.inl k1))
                have hq := Lib.hid (hd.out.big HZ.out.D2 (Or.inl k1))
                clear hd
                by_cases k3 : 4294967296 ≤ r + yy1
                · have HQ := (hn.out.fin2 HZ.out.D2 (by omega) k3).trans HZ.out.p
                  have b3 : decide (4294967296 ≤ r + yy1) = true := by simpa using k3
                  have eq1 : IntKind.u64.wrap (q - 1) = Q2 := by rw [IntKind.wrap_u64]; omega
                  clear k1 k3 hn hq HQ q2 q0
                  go_wp2_with fail
                  go_ret2
                  exact ⟨ret_two (vint HZ.out.quo) (vint HZ.out.rem), Below.refl _ _⟩
                · have b3 : decide (4294967296 ≤ r + yy1) = false := by simpa using k3
                  have q1' : 1 ≤ q := by omega
                  go_wp2_with fail
                  go_round
                  case rel => exact ⟨q - 1, r + yy1, rfl, rfl, hn, by omega, by omega, by omega, by omega⟩
                  case measure => simp [intOf]; omega
              · have b1 : decide (4294967296 ≤ q) = false := by simpa using k1
                obtain ⟨g1, g2, g3⟩ := dig_wraps HZ.out.D2 hd.out r1 (by omega)
                by_cases k2 : 4294967296 * r + u0 < q * yy0
                · have b2 : decide (4294967296 * r + u0 < q * yy0) = true := by simpa using k2
                  have hn := Lib.hid (hd.out.step HZ.out.D2 (Or.inr k2))
                  have hq := hd.out.big HZ.out.D2 (Or.inr k2)
                  have ht := (HZ.out.D2).top
                  have q1' : 1 ≤ q := by omega
                  clear hd hq ht
                  by_cases k3 : 4294967296 ≤ r + yy1
                  · have HQ := (hn.out.fin2 HZ.out.D2 (by omega) k3).trans HZ.out.p
                    have b3 : decide (4294967296 ≤ r + yy1) = true := by simpa using k3
                    have eq1 : IntKind.u64.wrap (q - 1) = Q2 := by rw [IntKind.wrap_u64]; omega
                    clear k1 k2 k3 hn HQ q2 q0 q1'
                    go_wp2_with fail
                    go_ret2
                    exact ⟨ret_two (vint HZ.out.quo) (vint HZ.out.rem), Below.refl _ _⟩
                  · have b3 : decide (4294967296 ≤ r + yy1) = false := by simpa using k3
                    clear k2
                    go_wp2_with fail
                    go_round
                    case rel => exact ⟨q - 1, r + yy1, rfl, rfl, hn, by omega, by omega, by omega, by omega⟩
                    case measure => simp [intOf]; omega
                · have b2 : decide (4294967296 * r + u0 < q * yy0) = false := by simpa using k2
                  have HQ := (hd.out.fin1 HZ.out.D2 (by omega)).trans HZ.out.p
                  subst HQ
                  clear k1 k2 hd q2 q0
                  go_wp2_with fail
                  go_ret2
                  exact ⟨ret_two (vint HZ.out.quo) (vint HZ.out.rem), Below.refl _ _⟩
          · have b3 : decide (4294967296 ≤ r + yy1) = false := by simpa using k3
            clear k2
            go_wp2_with fail
            go_round
            case rel => exact ⟨q - 1, r + yy1, rfl, rfl, hn, by omega, by omega, by omega, by omega⟩
            case measure => simp [intOf]; omega
        · have b2 : decide (4294967296 * r + u1 < q * yy0) = false := by simpa using k2
          have HQ := (hd.out.fin1 HD.out (by omega)).trans HZ.out.q
          subst HQ
          clear k1 k2 hd q2 q0
          go_wp2_with fail
          clear x1 x2 x3 x4
          try clear b1
          try clear b2
          try clear b3
          try clear eq1
          try clear g1
          try clear g2
          try clear g3
          have Hd2 := Lib.hid HZ.out.d
          have HE2 := Lib.hid HZ.out.r
          go_loop [18, 16] (fun a b => ∃ q r : Int, a = .int .u64 q ∧ b = .int .u64 r ∧ Hid (Dig Y yy1 yy0 V u0 q r) ∧ 0 ≤ r ∧ r ≤ 4294967295 ∧ 0 ≤ q ∧ q ≤ 4294967297) (fun a _ => (intOf a).toNat)
          case atStart => exact ⟨_, _, rfl, rfl, Hd2, Hd2.out.r0, HE2.out, Hd2.out.q0, Hd2.out.q2⟩
          case round =>
            clear Hd2 HE2
            obtain ⟨q, r, rfl, rfl, hd, r0, r1, q0, q2⟩ := hrel
            by_cases k1 : 4294967296 ≤ q
            · have b1 : decide (4294967296 ≤ q) = true := by simpa using k1
              have hn := Lib.hid (hd.out.step HZ.out.D2 (Or.inl k1))
              have hq := Lib.hid (hd.out.big HZ.out.D2 (Or.inl k1))
              clear hd
              by_cases k3 : 4294967296 ≤ r + yy1
              · have HQ := (hn.out.fin2 HZ.out.D2 (by omega) k3).trans HZ.out.p
                have b3 : decide (4294967296 ≤ r + yy1) = true := by simpa using k3
                have eq1 : IntKind.u64.wrap (q - 1) = Q2 := by rw [IntKind.wrap_u64]; omega
                clear k1 k3 hn hq HQ q2 q0
                go_wp2_with fail
                go_ret2
                exact ⟨ret_two (vint HZ.out.quo) (vint HZ.out.rem), Below.refl _ _⟩
              · have b3 : decide (4294967296 ≤ r + yy1) = false := by simpa using k3
                have q1' : 1 ≤ q := by omega
                go_wp2_with fail
                go_round
                case rel => exact ⟨q - 1, r + yy1, rfl, rfl, hn, by omega, by omega, by omega, by omega⟩
                case measure => simp [intOf]; omega
            · have b1 : decide (4294967296 ≤ q) = false := by simpa using k1
              obtain ⟨g1, g2, g3⟩ := dig_wraps HZ.out.D2 hd.out r1 (by omega)
              by_cases k2 : 4294967296 * r + u0 < q * yy0
              · have b2 : decide (4294967296 * r + u0 < q * yy0) = true := by simpa using k2
                have hn := Lib.hid (hd.out.step HZ.out.D2 (Or.inr k2))
                have hq := hd.out.big HZ.out.D2 (Or.inr k2)
                have ht := (HZ.out.D2).top
                have q1' : 1 ≤ q := by omega
                clear hd hq ht
                by_cases k3 : 4294967296 ≤ r + yy1
                · have HQ := (hn.out.fin2 HZ.out.D2 (by omega) k3).trans HZ.out.p
                  have b3 : decide (4294967296 ≤ r + yy1) = true := by simpa using k3
                  have eq1 : IntKind.u64.wrap (q - 1) = Q2 := by rw [IntKind.wrap_u64]; omega
                  clear k1 k2 k3 hn HQ q2 q0 q1'
                  go_wp2_with fail
                  go_ret2
                  exact ⟨ret_two (vint HZ.out.quo) (vint HZ.out.rem), Below.refl _ _⟩
                · have b3 : decide (4294967296 ≤ r + yy1) = false := by simpa using k3
                  clear k2
                  go_wp2_with fail
                  go_round
                  case rel => exact ⟨q - 1, r + yy1, rfl, rfl, hn, by omega, by omega, by omega, by omega⟩
                  case measure => simp [intOf]; omega
              · have b2 : decide (4294967296 * r + u0 < q * yy0) = false := by simpa using k2
                have HQ := (hd.out.fin1 HZ.out.D2 (by omega)).trans HZ.out.p
                subst HQ
                clear k1 k2 hd q2 q0
                go_wp2_with fail
                go_ret2
                exact ⟨ret_two (vint HZ.out.quo) (vint HZ.out.rem), Below.refl _ _⟩

theorem rem_hi (hi lo y : Int) : (hi % y * 18446744073709551616 + lo) % y = (hi * 18446744073709551616 + lo) % y := by
  rw [Int.add_emod, Int.mul_emod, Int.emod_emod, ← Int.mul_emod, ← Int.add_emod]
set_option maxHeartbeats 1000000 in
theorem rem64_any (hi lo y : Int) (w : World) (hh : 0 ≤ hi) (hh' : hi ≤ 18446744073709551615) (hy : 0 < y) (hy' : y ≤ 9223372036854775807) (hl : 0 ≤ lo) (hl' : lo ≤ 18446744073709551615) :
    Calls Try.prog 103 #[.int .u64 hi, .int .u64 lo, .int .u64 y] w fun e w' => e = .returned (.int .u64 ((hi * 18446744073709551616 + lo) % y)) ∧ Below w.heap.size w w' := by
  have q0 : ¬ y = 0 := by omega
  have e2 : hi.tmod y = hi % y := IntWalk.rem_in _ _ hh
  have h1 := Int.emod_nonneg hi q0
  have h2 := Int.emod_lt_of_pos hi hy
  have HD := Lib.hid (fun (W : World) => div64_any (hi % y) lo y W h1 h2 hy' hl hl')
  rw [rem_hi] at HD
  clear h1 h2
  go_enter Try.func103, Try.ntmps103
  go_wp2_with fail
  refine (HD.out _).mono ?_
  rintro e w1 ⟨rfl, hb⟩
  go_wp2_with fail
  go_ret
  exact ⟨rfl, hb⟩
end Go.Proofs.Ytgcbmnohhbcfiaa
