/- math/bits.Div64 and Rem64, walked, for divisors below 2^63. -/
import Derived.Test.YtgcbmnohhbcfiaaCm5
import Derived.Test.YtgcbmnohhbcfiaaCm3
import Derived.Deep.DeepCutAuto
namespace Go.Proofs.Ytgcbmnohhbcfiaa
open Go.RowKit
set_option linter.unusedVariables false
set_option linter.unusedSimpArgs false

set_option maxRecDepth 100000 in
set_option maxHeartbeats 4000000 in
theorem div64_any (hi lo y : Int) (w : World) (hh : 0 ≤ hi) (hy : hi < y) (hy' : y ≤ 9223372036854775807) (hl : 0 ≤ lo) (hl' : lo ≤ 18446744073709551615) :
    Calls Try.prog 104 #[.int .u64 hi, .int .u64 lo, .int .u64 y] w fun e w' => e = .returned (.tuple #[.int .u64 ((hi * 18446744073709551616 + lo) / y), .int .u64 ((hi * 18446744073709551616 + lo) % y)]) ∧ Below w.heap.size w w' := by
  have y1 : 1 ≤ y := by omega
  by_cases h0 : hi = 0
  · subst h0
    have q0 : ¬ y = 0 := by omega
    have e1 : IntKind.u64.wrap (lo.tdiv y) = lo / y := IntWalk.u64_quo _ _ (by omega)
    have e2 : lo.tmod y = lo % y := IntWalk.rem_in _ _ hl
    go_enter Try.func104, Try.ntmps104
    go_wp2_with fail
    go_quiet (fail)
    go_wp2_with fail
    go_ret2
    exact ⟨ret_two (vint (by simp)) (vint (by simp)), below_drewN (Below.refl _ _) _⟩
  · obtain ⟨s, hs, hS⟩ := shift_of y1 hy'
    have HLZ := Lib.hid (fun (W : World) => Try.bits_LeadingZeros64 y W (by omega) (by omega))
    rw [hs] at HLZ
    obtain ⟨t, Y, U, L, DW⟩ := divW hh hy hl hl' hS
    obtain ⟨yy1, hy1⟩ : ∃ z, Y / 4294967296 = z := ⟨_, rfl⟩
    obtain ⟨yy0, hy0⟩ : ∃ z, Y % 4294967296 = z := ⟨_, rfl⟩
    obtain ⟨u1, hu1⟩ : ∃ z, L / 4294967296 = z := ⟨_, rfl⟩
    obtain ⟨u0, hu0⟩ : ∃ z, L % 4294967296 = z := ⟨_, rfl⟩
    obtain ⟨Q, V, Q2, R, q2, r2, Z⟩ := divZ DW (by omega) hy1 hy0 hu1 hu0
    obtain ⟨q1, r1, D0, d, hr⟩ := dig0 Z.D1 DW.yh
    have f1 := DW.w1; have f2 := DW.m1; have f3 := DW.w2; have f4 := DW.m2; have f5 := DW.w3; have f6 := DW.w4; have f7 := DW.w5; have f8 := DW.a1; have f9 := DW.a2
    have g1 := D0.w1; have g2 := D0.w2; have g3 := D0.w3
    have ya := Z.D1.a
    have yb := Z.D1.a'
    have hp1 : ¬ yy1 = 0 := by omega
    have hb1 := d.r0
    have HD := Lib.hid Z.D1
    have Hd := Lib.hid d
    have HZ := Lib.hid Z
    have HE1 := Lib.hid hr
    rw [hy0] at f8
    rw [hu0] at f9
    clear hs hS DW Z d D0 hr
    have q0 : (hi == 0) = false := by simpa using h0
    have q3 : (y == 0) = false := by simp; omega
    go_enter Try.func104, Try.ntmps104
    go_wp2_with ((go_at_call 122; refine (HLZ.out _).mono ?_; rintro e w' ⟨rfl, rfl⟩))
    clear f1 f3 f4 f5 f6 f7 f8 f9 g1 g2 g3 q0 q3 hy1 hy0 hu1 hu0 HLZ h0
    have yc := HZ.out.D1.b
    have yd := HZ.out.D1.b'
    have ue := HZ.out.D1.v
    have uf := HZ.out.D1.v'
    have ug := HZ.out.D2.v
    have uh := HZ.out.D2.v'
    have ql := HZ.out.ql
    have qh := HZ.out.qh
    have pl := HZ.out.pl
    have ph := HZ.out.ph
    have x1 := HZ.out.w1
    have x2 := HZ.out.z.w1
    have x3 := HZ.out.z.w2
    have x4 := HZ.out.z.w3
    have x5 := HZ.out.w2
    go_loop [15, 16] (fun a b => ∃ q r : Int, a = .int .u64 q ∧ b = .int .u64 r ∧ Hid (Dig Y yy1 yy0 U u1 q r) ∧ 0 ≤ r ∧ r ≤ 4294967295 ∧ 0 ≤ q ∧ q ≤ 4294967297) (fun a _ => (intOf a).toNat)
    case atStart => exact ⟨_, _, rfl, rfl, Hd, Hd.out.r0, HE1.out, Hd.out.q0, Hd.out.q2⟩
    case round =>
      clear Hd HE1
      obtain ⟨q, r, rfl, rfl, hd, r0, r1, q0, q2⟩ := hrel
      by_cases k1 : 4294967296 ≤ q
      · have b1 : decide (4294967296 ≤ q) = true := by simpa using k1
        have hn := Lib.hid (hd.out.step HD.out (Or.inl k1))
        have hq := Lib.hid (hd.out.big HD.out (Or.inl k1))
        clear hd
        by_cases k3 : 4294967296 ≤ r + yy1
        · have HQ := (hn.out.fin2 HD.out (by omega) k3).trans HZ.out.q
          have b3 : decide (4294967296 ≤ r + yy1) = true := by simpa using k3
          have eq1 : IntKind.u64.wrap (q - 1) = Q := by rw [IntKind.wrap_u64]; omega
          clear k1 k3 hn hq HQ q2 q0
          go_wp2_with fail
          clear x1 x2 x3 x4
          try clear b1
          try clear b2
          try clear b3
          try clear eq1
          try clear g1
          try clear g2
          try clear g3
          have Hd2 := Lib.hid HZ.out.d
          have HE2 := Lib.hid HZ.out.r
          go_loop [18, 16] (fun a b => ∃ q r : Int, a = .int .u64 q ∧ b = .int .u64 r ∧ Hid (Dig Y yy1 yy0 V u0 q r) ∧ 0 ≤ r ∧ r ≤ 4294967295 ∧ 0 ≤ q ∧ q ≤ 4294967297) (fun a _ => (intOf a).toNat)
          case atStart => exact ⟨_, _, rfl, rfl, Hd2, Hd2.out.r0, HE2.out, Hd2.out.q0, Hd2.out.q2⟩
          case round =>
            clear Hd2 HE2
            obtain ⟨q, r, rfl, rfl, hd, r0, r1, q0, q2⟩ := hrel
            by_cases k1 : 4294967296 ≤ q
            · have b1 : decide (4294967296 ≤ q) = true := by simpa using k1
              have hn := Lib.hid (hd.out.step HZ.out.D2 (Or.inl k1))
              have hq := Lib.hid (hd.out.big HZ.out.D2 (Or.inl k1))
              clear hd
              by_cases k3 : 4294967296 ≤ r + yy1
              · have HQ := (hn.out.fin2 HZ.out.D2 (by omega) k3).trans HZ.out.p
                have b3 : decide (4294967296 ≤ r + yy1) = true := by simpa using k3
                have eq1 : IntKind.u64.wrap (q - 1) = Q2 := by rw [IntKind.wrap_u64]; omega
                clear k1 k3 hn hq HQ q2 q0
                go_wp2_with fail
                go_ret2
                exact ⟨ret_two (vint HZ.out.quo) (vint HZ.out.rem), Below.refl _ _⟩
              · have b3 : decide (4294967296 ≤ r + yy1) = false := by simpa using k3
                have q1' : 1 ≤ q := by omega
                go_wp2_with fail
                go_round
                case rel => exact ⟨q - 1, r + yy1, rfl, rfl, hn, by omega, by omega, by omega, by omega⟩
                case measure => simp [intOf]; omega
            · have b1 : decide (4294967296 ≤ q) = false := by simpa using k1
              obtain ⟨g1, g2, g3⟩ := dig_wraps HZ.out.D2 hd.out r1 (by omega)
              by_cases k2 : 4294967296 * r + u0 < q * yy0
              · have b2 : decide (4294967296 * r + u0 < q * yy0) = true := by simpa using k2
                have hn := Lib.hid (hd.out.step HZ.out.D2 (Or.inr k2))
                have hq := hd.out.big HZ.out.D2 (Or.inr k2)
                have ht := (HZ.out.D2).top
                have q1' : 1 ≤ q := by omega
                clear hd hq ht
                by_cases k3 : 4294967296 ≤ r + yy1
                · have HQ := (hn.out.fin2 HZ.out.D2 (by omega) k3).trans HZ.out.p
                  have b3 : decide (4294967296 ≤ r + yy1) = true := by simpa using k3
                  have eq1 : IntKind.u64.wrap (q - 1) = Q2 := by rw [IntKind.wrap_u64]; omega
                  clear k1 k2 k3 hn HQ q2 q0 q1'
                  go_wp2_with fail
                  go_ret2
                  exact ⟨ret_two (vint HZ.out.quo) (vint HZ.out.rem), Below.refl _ _⟩
                · have b3 : decide (4294967296 ≤ r + yy1) = false := by simpa using k3
                  clear k2
                  go_wp2_with fail
                  go_round
                  case rel => exact ⟨q - 1, r + yy1, rfl, rfl, hn, by omega, by omega, by omega, by omega⟩
                  case measure => simp [intOf]; omega
              · have b2 : decide (4294967296 * r + u0 < q * yy0) = false := by simpa using k2
                have HQ := (hd.out.fin1 HZ.out.D2 (by omega)).trans HZ.out.p
                subst HQ
                clear k1 k2 hd q2 q0
                go_wp2_with fail
                go_ret2
                exact ⟨ret_two (vint HZ.out.quo) (vint HZ.out.rem), Below.refl _ _⟩
        · have b3 : decide (4294967296 ≤ r + yy1) = false := by simpa using k3
          have q1' : 1 ≤ q := by omega
          go_wp2_with fail
          go_round
          case rel => exact ⟨q - 1, r + yy1, rfl, rfl, hn, by omega, by omega, by omega, by omega⟩
          case measure => simp [intOf]; omega
      · have b1 : decide (4294967296 ≤ q) = false := by simpa using k1
        obtain ⟨g1, g2, g3⟩ := dig_wraps HD.out hd.out r1 (by omega)
        by_cases k2 : 4294967296 * r + u1 < q * yy0
        · have b2 : decide (4294967296 * r + u1 < q * yy0) = true := by simpa using k2
          have hn := Lib.hid (hd.out.step HD.out (Or.inr k2))
          have hq := hd.out.big HD.out (Or.inr k2)
          have ht := (HD.out).top
          have q1' : 1 ≤ q := by omega
          clear hd hq ht
          by_cases k3 : 4294967296 ≤ r + yy1
          · have HQ := (hn.out.fin2 HD.out (by omega) k3).trans HZ.out.q
            have b3 : decide (4294967296 ≤ r + yy1) = true := by simpa using k3
            have eq1 : IntKind.u64.wrap (q - 1) = Q := by rw [IntKind.wrap_u64]; omega
            clear k1 k2 k3 hn HQ q2 q0 q1'
            go_wp2_with fail
            clear x1 x2 x3 x4
            try clear b1
            try clear b2
            try clear b3
            try clear eq1
            try clear g1
            try clear g2
            try clear g3
            have Hd2 := Lib.hid HZ.out.d
            have HE2 := Lib.hid HZ.out.r
            go_loop [18, 16] (fun a b => ∃ q r : Int, a = .int .u64 q ∧ b = .int .u64 r ∧ Hid (Dig Y yy1 yy0 V u0 q r) ∧ 0 ≤ r ∧ r ≤ 4294967295 ∧ 0 ≤ q ∧ q ≤ 4294967297) (fun a _ => (intOf a).toNat)
            case atStart => exact ⟨_, _, rfl, rfl, Hd2, Hd2.out.r0, HE2.out, Hd2.out.q0, Hd2.out.q2⟩
            case round =>
              clear Hd2 HE2
              obtain ⟨q, r, rfl, rfl, hd, r0, r1, q0, q2⟩ := hrel
              by_cases k1 : 4294967296 ≤ q
              · have b1 : decide (4294967296 ≤ q) = true := by simpa using k1
                have hn := Lib.hid (hd.out.step HZ.out.D2 (Or.inl k1))
                have hq := Lib.hid (hd.out.big HZ.out.D2 (Or.inl k1))
                clear hd
                by_cases k3 : 4294967296 ≤ r + yy1
                · have HQ := (hn.out.fin2 HZ.out.D2 (by omega) k3).trans HZ.out.p
                  have b3 : decide (4294967296 ≤ r + yy1) = true := by simpa using k3
                  have eq1 : IntKind.u64.wrap (q - 1) = Q2 := by rw [IntKind.wrap_u64]; omega
                  clear k1 k3 hn hq HQ q2 q0
                  go_wp2_with fail
                  go_ret2
                  exact ⟨ret_two (vint HZ.out.quo) (vint HZ.out.rem), Below.refl _ _⟩
                · have b3 : decide (4294967296 ≤ r + yy1) = false := by simpa using k3
                  have q1' : 1 ≤ q := by omega
                  go_wp2_with fail
                  go_round
                  case rel => exact ⟨q - 1, r + yy1, rfl, rfl, hn, by omega, by omega, by omega, by omega⟩
                  case measure => simp [intOf]; omega
              · have b1 : decide (4294967296 ≤ q) = false := by simpa using k1
                obtain ⟨g1, g2, g3⟩ := dig_wraps HZ.out.D2 hd.out r1 (by omega)
                by_cases k2 : 4294967296 * r + u0 < q * yy0
                · have b2 : decide (4294967296 * r + u0 < q * yy0) = true := by simpa using k2
                  have hn := Lib.hid (hd.out.step HZ.out.D2 (Or.inr k2))
                  have hq := hd.out.big HZ.out.D2 (Or.inr k2)
                  have ht := (HZ.out.D2).top
                  have q1' : 1 ≤ q := by omega
                  clear hd hq ht
                  by_cases k3 : 4294967296 ≤ r + yy1
                  · have HQ := (hn.out.fin2 HZ.out.D2 (by omega) k3).trans HZ.out.p
                    have b3 : decide (4294967296 ≤ r + yy1) = true := by simpa using k3
                    have eq1 : IntKind.u64.wrap (q - 1) = Q2 := by rw [IntKind.wrap_u64]; omega
                    clear k1 k2 k3 hn HQ q2 q0 q1'
                    go_wp2_with fail
                    go_ret2
                    exact ⟨ret_two (vint HZ.out.quo) (vint HZ.out.rem), Below.refl _ _⟩
                  · have b3 : decide (4294967296 ≤ r + yy1) = false := by simpa using k3
                    clear k2
                    go_wp2_with fail
                    go_round
                    case rel => exact ⟨q - 1, r + yy1, rfl, rfl, hn, by omega, by omega, by omega, by omega⟩
                    case measure => simp [intOf]; omega
                · have b2 : decide (4294967296 * r + u0 < q * yy0) = false := by simpa using k2
                  have HQ := (hd.out.fin1 HZ.out.D2 (by omega)).trans HZ.out.p
                  subst HQ
                  clear k1 k2 hd q2 q0
                  go_wp2_with fail
                  go_ret2
                  exact ⟨ret_two (vint HZ.out.quo) (vint HZ.out.rem), Below.refl _ _⟩
          · have b3 : decide (4294967296 ≤ r + yy1) = false := by simpa using k3
            clear k2
            go_wp2_with fail
            go_round
            case rel => exact ⟨q - 1, r + yy1, rfl, rfl, hn, by omega, by omega, by omega, by omega⟩
            case measure => simp [intOf]; omega
        · have b2 : decide (4294967296 * r + u1 < q * yy0) = false := by simpa using k2
          have HQ := (hd.out.fin1 HD.out (by omega)).trans HZ.out.q
          subst HQ
          clear k1 k2 hd q2 q0
          go_wp2_with fail
          clear x1 x2 x3 x4
          try clear b1
          try clear b2
          try clear b3
          try clear eq1
          try clear g1
          try clear g2
          try clear g3
          have Hd2 := Lib.hid HZ.out.d
          have HE2 := Lib.hid HZ.out.r
          go_loop [18, 16] (fun a b => ∃ q r : Int, a = .int .u64 q ∧ b = .int .u64 r ∧ Hid (Dig Y yy1 yy0 V u0 q r) ∧ 0 ≤ r ∧ r ≤ 4294967295 ∧ 0 ≤ q ∧ q ≤ 4294967297) (fun a _ => (intOf a).toNat)
          case atStart => exact ⟨_, _, rfl, rfl, Hd2, Hd2.out.r0, HE2.out, Hd2.out.q0, Hd2.out.q2⟩
          case round =>
            clear Hd2 HE2
            obtain ⟨q, r, rfl, rfl, hd, r0, r1, q0, q2⟩ := hrel
            by_cases k1 : 4294967296 ≤ q
            · have b1 : decide (4294967296 ≤ q) = true := by simpa using k1
              have hn := Lib.hid (hd.out.step HZ.out.D2 (Or.inl k1))
              have hq := Lib.hid (hd.out.big HZ.out.D2 (Or.inl k1))
              clear hd
              by_cases k3 : 4294967296 ≤ r + yy1
              · have HQ := (hn.out.fin2 HZ.out.D2 (by omega) k3).trans HZ.out.p
                have b3 : decide (4294967296 ≤ r + yy1) = true := by simpa using k3
                have eq1 : IntKind.u64.wrap (q - 1) = Q2 := by rw [IntKind.wrap_u64]; omega
                clear k1 k3 hn hq HQ q2 q0
                go_wp2_with fail
                go_ret2
                exact ⟨ret_two (vint HZ.out.quo) (vint HZ.out.rem), Below.refl _ _⟩
              · have b3 : decide (4294967296 ≤ r + yy1) = false := by simpa using k3
                have q1' : 1 ≤ q := by omega
                go_wp2_with fail
                go_round
                case rel => exact ⟨q - 1, r + yy1, rfl, rfl, hn, by omega, by omega, by omega, by omega⟩
                case measure => simp [intOf]; omega
            · have b1 : decide (4294967296 ≤ q) = false := by simpa using k1
              obtain ⟨g1, g2, g3⟩ := dig_wraps HZ.out.D2 hd.out r1 (by omega)
              by_cases k2 : 4294967296 * r + u0 < q * yy0
              · have b2 : decide (4294967296 * r + u0 < q * yy0) = true := by simpa using k2
                have hn := Lib.hid (hd.out.step HZ.out.D2 (Or.inr k2))
                have hq := hd.out.big HZ.out.D2 (Or.inr k2)
                have ht := (HZ.out.D2).top
                have q1' : 1 ≤ q := by omega
                clear hd hq ht
                by_cases k3 : 4294967296 ≤ r + yy1
                · have HQ := (hn.out.fin2 HZ.out.D2 (by omega) k3).trans HZ.out.p
                  have b3 : decide (4294967296 ≤ r + yy1) = true := by simpa using k3
                  have eq1 : IntKind.u64.wrap (q - 1) = Q2 := by rw [IntKind.wrap_u64]; omega
                  clear k1 k2 k3 hn HQ q2 q0 q1'
                  go_wp2_with fail
                  go_ret2
                  exact ⟨ret_two (vint HZ.out.quo) (vint HZ.out.rem), Below.refl _ _⟩
                · have b3 : decide (4294967296 ≤ r + yy1) = false := by simpa using k3
                  clear k2
                  go_wp2_with fail
                  go_round
                  case rel => exact ⟨q - 1, r + yy1, rfl, rfl, hn, by omega, by omega, by omega, by omega⟩
                  case measure => simp [intOf]; omega
              · have b2 : decide (4294967296 * r + u0 < q * yy0) = false := by simpa using k2
                have HQ := (hd.out.fin1 HZ.out.D2 (by omega)).trans HZ.out.p
                subst HQ
                clear k1 k2 hd q2 q0
                go_wp2_with fail
                go_ret2
                exact ⟨ret_two (vint HZ.out.quo) (vint HZ.out.rem), Below.refl _ _⟩

theorem rem_hi (hi lo y : Int) : (hi % y * 18446744073709551616 + lo) % y = (hi * 18446744073709551616 + lo) % y := by
  rw [Int.add_emod, Int.mul_emod, Int.emod_emod, ← Int.mul_emod, ← Int.add_emod]
set_option maxHeartbeats 1000000 in
theorem rem64_any (hi lo y : Int) (w : World) (hh : 0 ≤ hi) (hh' : hi ≤ 18446744073709551615) (hy : 0 < y) (hy' : y ≤ 9223372036854775807) (hl : 0 ≤ lo) (hl' : lo ≤ 18446744073709551615) :
    Calls Try.prog 103 #[.int .u64 hi, .int .u64 lo, .int .u64 y] w fun e w' => e = .returned (.int .u64 ((hi * 18446744073709551616 + lo) % y)) ∧ Below w.heap.size w w' := by
  have q0 : ¬ y = 0 := by omega
  have e2 : hi.tmod y = hi % y := IntWalk.rem_in _ _ hh
  have h1 := Int.emod_nonneg hi q0
  have h2 := Int.emod_lt_of_pos hi hy
  have HD := Lib.hid (fun (W : World) => div64_any (hi % y) lo y W h1 h2 hy' hl hl')
  rw [rem_hi] at HD
  clear h1 h2
  go_enter Try.func103, Try.ntmps103
  go_wp2_with fail
  refine (HD.out _).mono ?_
  rintro e w1 ⟨rfl, hb⟩
  go_wp2_with fail
  go_ret
  exact ⟨rfl, hb⟩
end Go.Proofs.Ytgcbmnohhbcfiaa

namespace Go.Proofs.Ytgcbmnohhbcfiaa
open Go.RowKit Go.Deep
set_option linter.unusedVariables false
set_option linter.unusedSimpArgs false

/-- What Add's first half leaves: the sum's two words, and its sign. -/
def AddMid (w : World) (a b : Rt) (t : Int) (v12 v13 v14 : Value) (wx : World) : Prop :=
  ∃ m : Bool, v12 = .bool m ∧ v13 = .int .u64 (hi64 (absI t)) ∧ v14 = .int .u64 (lo64 (absI t)) ∧ Hid (t ≠ 0 → m = decide (t < 0)) ∧ TwoIn w a b wx

theorem AddMid.mk_ {w : World} {a b : Rt} {t : Int} {wx : World} {m : Bool} (h : Hid (t ≠ 0 → m = decide (t < 0))) (hT : TwoIn w a b wx) :
    AddMid w a b t (.bool m) (.int .u64 (hi64 (absI t))) (.int .u64 (lo64 (absI t))) wx := ⟨m, rfl, rfl, rfl, h, hT⟩

set_option maxRecDepth 100000 in
set_option maxHeartbeats 8000000 in
theorem radd_any (a b : Rt) (ha : a.wf) (hb : b.wf) (w : World) :
    Calls Try.prog 37 #[rV a, rV b] w fun e w' => e = .returned (.tuple #[rV (addR a b), .int .i64 (addC a b)]) ∧ Below w.heap.size w w' := by
  have hT0 := TwoIn.start w a b
  have HC := Lib.hid (fun (W : World) => rcheck2_any a b ha hb W)
  by_cases hc : code2 a b = 0
  rotate_left
  · have q1 : (code2 a b != 0) = true := by simpa using hc
    have hr := add_bad hc
    rw [hr.1, hr.2]
    clear hr hc ha hb
    generalize code2 a b = c at HC q1
    go_enter Try.func37, Try.ntmps37
    go_wp2_with fail
    refine (HC.out _).mono ?_
    rintro e w1 ⟨rfl, hb1⟩
    have hT1 := hT0.next hb1
    have c1 := fun j => cell_of_row w1 _ j _ _ _ hT1.r
    have c2 := fun j => frozen_of_row w1 _ j _ _ hT1.r
    have z1 := lt_some hT1.r
    clear hb1 hT0
    go_wp2_with fail
    exact bodyPost_ret (v := .tuple #[.agg #[.int .i64 0, .int .i64 0], .int .i64 c]) (by simp [results, Try.results37, go_sem, c1, c2, z1]) rfl ⟨rfl, hT1.end_ _ _⟩
  obtain ⟨oa, ob⟩ := ok_code2 hc
  have q1 : (code2 a b != 0) = false := by simpa using hc
  rw [(add_ok hc).1, (add_ok hc).2]
  clear ha hb hc
  have S := sumOf oa ob
  have n0 := oa.n0; have n1 := oa.n1; have d0 := oa.d0; have d1 := oa.d1
  have m0 := ob.n0; have m1 := ob.n1; have e0 := ob.d0; have e1 := ob.d1
  have HG := Lib.hid (fun (W : World) => gcd_any a.d b.d W (by omega) (by omega) (by omega) (by omega))
  have gle := gcdI_le (a := a.d) (b := b.d) (by omega)
  generalize hg : gcdI a.d b.d = g at *
  generalize hp : a.d / g = p at *
  generalize hq : b.d / g = q at *
  generalize hh : gcdI (a.n * q + b.n * p) g = h at *
  have g0 := S.g0; have p0 := S.p0; have q0 := S.q0; have h0 := S.h0
  have wd1 : IntKind.u64.wrap a.d = a.d := IntWalk.u64_in _ (by omega)
  have wd2 : IntKind.u64.wrap b.d = b.d := IntWalk.u64_in _ (by omega)
  have v1 : IntKind.u64.wrap (a.d.tdiv g) = p := (IntWalk.u64_quo _ _ (by omega)).trans hp
  have v2 : IntKind.u64.wrap (b.d.tdiv g) = q := (IntWalk.u64_quo _ _ (by omega)).trans hq
  have v3 : ¬ g = 0 := by omega
  have pd : p ≤ a.d := by rw [← hp]; exact Int.ediv_le_self _ (by omega)
  have qd : q ≤ b.d := by rw [← hq]; exact Int.ediv_le_self _ (by omega)
  have an := absI_nonneg a.n
  have al : absI a.n ≤ 1000000000000000000 := by unfold absI; omega
  have bn := absI_nonneg b.n
  have bl : absI b.n ≤ 1000000000000000000 := by unfold absI; omega
  have HS1 := Lib.hid (fun (W : World) => size_any a.n W (by omega) (by omega))
  have HS2 := Lib.hid (fun (W : World) => size_any b.n W (by omega) (by omega))
  have HM1 := Lib.hid (fun (W : World) => mul64_any (absI a.n) q W an (by omega) (by omega) (by omega))
  have HM2 := Lib.hid (fun (W : World) => mul64_any (absI b.n) p W bn (by omega) (by omega) (by omega))
  have HSS := Lib.hid S
  have X0 : 0 ≤ absI a.n * q := Int.mul_nonneg an (by omega)
  have Y0 : 0 ≤ absI b.n * p := Int.mul_nonneg bn (by omega)
  have X1 : absI a.n * q ≤ 1000000000000000000 * 1000000000000000000 := Int.mul_le_mul al (by omega) (by omega) (by omega)
  have Y1 : absI b.n * p ≤ 1000000000000000000 * 1000000000000000000 := Int.mul_le_mul bl (by omega) (by omega) (by omega)
  have HM := Lib.hid (show MidOk (absI a.n * q) (absI b.n * p) (a.n * q) (b.n * p) from ⟨absI_mul q0, absI_mul p0⟩)
  have HA := Lib.hid (mul_sign (x := a.n) q0)
  have HB := Lib.hid (mul_sign (x := b.n) p0)
  have HZ := Lib.hid (fun h00 => S.zero h00)
  have HBIG := Lib.hid (fun hb => S.big hb)
  have HFIN := Lib.hid S.fin
  generalize mkR (a.q + b.q) = R at HZ HBIG HFIN ⊢
  generalize mkC (a.q + b.q) = C at HZ HBIG HFIN ⊢
  clear S
  go_enter Try.func37, Try.ntmps37
  go_wp2_with fail
  refine (HC.out _).mono ?_
  rintro e w1 ⟨rfl, hb1⟩
  have hT1 := hT0.next hb1
  have ca := fun j => cell_of_row w1 _ j _ _ _ hT1.ba
  have cb := fun j => cell_of_row w1 _ j _ _ _ hT1.bb
  clear hb1 hT0
  go_wp2_with fail
  refine (HG.out _).mono ?_
  rintro e w2 ⟨rfl, hb2⟩
  have hT2 := hT1.next hb2
  clear hb2 hT1 ca cb
  have ca := fun j => cell_of_row w2 _ j _ _ _ hT2.ba
  have cb := fun j => cell_of_row w2 _ j _ _ _ hT2.bb
  have za := lt_some hT2.ba
  have zb := lt_some hT2.bb
  go_upto_region 5 with fail
  refine wp_region_ext (by kernel_rfl) (by kernel_rfl) ?_
  repeat (first | go_big_quiet_step ((first | (go_at_call 100; exact calls_ext (HS1.out _)) | (go_at_call 99; exact calls_ext (HM1.out _)))) | quiet_step ((first | (go_at_call 100; exact calls_ext (HS1.out _)) | (go_at_call 99; exact calls_ext (HM1.out _)))))
  refine wpQuiet_nil ?_
  rintro w3 ⟨⟨_, hb⟩, rfl⟩
  have hT3 := hT2.next hb
  clear hb hT2 ca cb za zb
  have ca := fun j => cell_of_row w3 _ j _ _ _ hT3.ba
  have cb := fun j => cell_of_row w3 _ j _ _ _ hT3.bb
  have za := lt_some hT3.ba
  have zb := lt_some hT3.bb
  go_upto_region 6 with fail
  refine wp_region_ext (by kernel_rfl) (by kernel_rfl) ?_
  repeat (first | go_big_quiet_step ((first | (go_at_call 100; exact calls_ext (HS2.out _)) | (go_at_call 99; exact calls_ext (HM2.out _)))) | quiet_step ((first | (go_at_call 100; exact calls_ext (HS2.out _)) | (go_at_call 99; exact calls_ext (HM2.out _)))))
  refine wpQuiet_nil ?_
  rintro w4 ⟨⟨_, hb⟩, rfl⟩
  have hT4 := hT3.next hb
  clear hb hT3 ca cb za zb
  have ca := fun j => cell_of_row w4 _ j _ _ _ hT4.ba
  have cb := fun j => cell_of_row w4 _ j _ _ _ hT4.bb
  have HT := Lib.hid hT4
  clear hT4
  obtain ⟨sA, hsA⟩ : ∃ A, decide (a.n < 0) = A := ⟨_, rfl⟩
  obtain ⟨sB, hsB⟩ : ∃ B, decide (b.n < 0) = B := ⟨_, rfl⟩
  go_upto_if 68 with fail
  go_cut [12, 13, 14] (fun v12 v13 v14 wx => AddMid w a b (a.n * q + b.n * p) v12 v13 v14 wx)
  case first =>
    generalize absI a.n * q = X at *
    generalize absI b.n * p = Y at *
    have lx := (lo64_bd X); have ly := (lo64_bd Y); have hx := (hi64_bd (x := X) X0 (by omega)); have hy := (hi64_bd (x := Y) Y0 (by omega))
    have lx0 := lx.1; have lx1 := lx.2; have ly0 := ly.1; have ly1 := ly.2; have hx0 := hx.1; have hx1 := hx.2; have hy0 := hy.1; have hy1 := hy.2
    clear lx ly hx hy
    cases sA
    · cases sB
      · have sa : ¬ a.n < 0 := by simpa using hsA
        have sb : ¬ b.n < 0 := by simpa using hsB
        have ea : decide (a.n * q < 0) = false := by rw [decide_eq_false_iff_not, ← HA.out]; omega
        obtain ⟨es1, es2⟩ := two_add (X := X) (Y := Y) X0 Y0 (by omega)
        have hS := HM.out.same (by rw [← HA.out, ← HB.out]; omega)
        have HSG : Hid (a.n * q + b.n * p ≠ 0 → false = decide (a.n * q + b.n * p < 0)) := Lib.hid (fun hne => by rw [← ea]; exact HM.out.sgn (by rw [← HA.out, ← HB.out]; omega) hne)
        rw [hS] at es1 es2
        have cb0 : 0 ≤ hi64 (lo64 X + lo64 Y) := by unfold hi64; omega
        have cb1 : hi64 (lo64 X + lo64 Y) ≤ 1 := by unfold hi64; omega
        clear hS
        clear sa sb ea
        go_wp2_with (first | simp only [add64_0 (lo64 X) (lo64 Y) lx0 ly0] | simp only [add64_ (hi64 X) (hi64 Y) (hi64 (lo64 X + lo64 Y)) hx0 hy0 cb0 cb1])
        go_meet
        exact AddMid.mk_ HSG HT.out
      · have sa : ¬ a.n < 0 := by simpa using hsA
        have sb : b.n < 0 := by simpa using hsB
        by_cases hxy : X < Y
        · have ea : decide (a.n * q < 0) = false := by rw [decide_eq_false_iff_not, ← HA.out]; omega
          obtain ⟨es1, es2⟩ := two_sub (X := Y) (Y := X) X0 (by omega) (by omega)
          have hS := HM.out.diff1 (by rw [← HA.out, ← HB.out]; omega) hxy
          have HSG : Hid (a.n * q + b.n * p ≠ 0 → (!false) = decide (a.n * q + b.n * p < 0)) := Lib.hid (fun hne => by rw [← ea]; exact hS.2)
          rw [hS.1] at es1 es2
          have cb0 := (borI_bd (lo64 Y) (lo64 X)).1
          have cb1 := (borI_bd (lo64 Y) (lo64 X)).2
          clear hS
          clear sa sb ea
          rcases two_lt hxy with k1 | ⟨k1, k2⟩
          · have t1 : decide (hi64 X < hi64 Y) = true := by simpa using k1
            clear hxy k1
            go_wp2_with (first | simp only [sub64_0 (lo64 Y) (lo64 X) ly0 lx0 (by omega)] | simp only [sub64_ (hi64 Y) (hi64 X) (borI (lo64 Y) (lo64 X)) hy0 hx0 (by omega) cb0 cb1])
            go_meet
            exact AddMid.mk_ HSG HT.out
          · have t1 : decide (hi64 X < hi64 Y) = false := by simp; omega
            have t2 : (hi64 X == hi64 Y) = true := by simpa using k1
            have t3 : decide (lo64 X < lo64 Y) = true := by simpa using k2
            clear hxy k2 k1
            go_wp2_with (first | simp only [sub64_0 (lo64 Y) (lo64 X) ly0 lx0 (by omega)] | simp only [sub64_ (hi64 Y) (hi64 X) (borI (lo64 Y) (lo64 X)) hy0 hx0 (by omega) cb0 cb1])
            go_meet
            exact AddMid.mk_ HSG HT.out
        · have ea : decide (a.n * q < 0) = false := by rw [decide_eq_false_iff_not, ← HA.out]; omega
          obtain ⟨es1, es2⟩ := two_sub (X := X) (Y := Y) Y0 (by omega) (by omega)
          have hS := HM.out.diff2 (by rw [← HA.out, ← HB.out]; omega) hxy
          have HSG : Hid (a.n * q + b.n * p ≠ 0 → false = decide (a.n * q + b.n * p < 0)) := Lib.hid (fun hne => by rw [← ea]; exact hS.2 hne)
          rw [hS.1] at es1 es2
          have cb0 := (borI_bd (lo64 X) (lo64 Y)).1
          have cb1 := (borI_bd (lo64 X) (lo64 Y)).2
          clear hS
          clear sa sb ea
          rcases two_ge hxy with k1 | ⟨k1, k2⟩
          · have t1 : decide (hi64 X < hi64 Y) = false := by simp; omega
            have t2 : (hi64 X == hi64 Y) = false := by simp; omega
            clear hxy k1
            go_wp2_with (first | simp only [sub64_0 (lo64 X) (lo64 Y) lx0 ly0 (by omega)] | simp only [sub64_ (hi64 X) (hi64 Y) (borI (lo64 X) (lo64 Y)) hx0 hy0 (by omega) cb0 cb1])
            go_meet
            exact AddMid.mk_ HSG HT.out
          · have t1 : decide (hi64 X < hi64 Y) = false := by simp; omega
            have t2 : (hi64 X == hi64 Y) = true := by simpa using k1
            have t3 : decide (lo64 X < lo64 Y) = false := by simpa using k2
            clear hxy k2 k1
            go_wp2_with (first | simp only [sub64_0 (lo64 X) (lo64 Y) lx0 ly0 (by omega)] | simp only [sub64_ (hi64 X) (hi64 Y) (borI (lo64 X) (lo64 Y)) hx0 hy0 (by omega) cb0 cb1])
            go_meet
            exact AddMid.mk_ HSG HT.out
    · cases sB
      · have sa : a.n < 0 := by simpa using hsA
        have sb : ¬ b.n < 0 := by simpa using hsB
        by_cases hxy : X < Y
        · have ea : decide (a.n * q < 0) = true := by rw [decide_eq_true_iff, ← HA.out]; omega
          obtain ⟨es1, es2⟩ := two_sub (X := Y) (Y := X) X0 (by omega) (by omega)
          have hS := HM.out.diff1 (by rw [← HA.out, ← HB.out]; omega) hxy
          have HSG : Hid (a.n * q + b.n * p ≠ 0 → (!true) = decide (a.n * q + b.n * p < 0)) := Lib.hid (fun hne => by rw [← ea]; exact hS.2)
          rw [hS.1] at es1 es2
          have cb0 := (borI_bd (lo64 Y) (lo64 X)).1
          have cb1 := (borI_bd (lo64 Y) (lo64 X)).2
          clear hS
          clear sa sb ea
          rcases two_lt hxy with k1 | ⟨k1, k2⟩
          · have t1 : decide (hi64 X < hi64 Y) = true := by simpa using k1
            clear hxy k1
            go_wp2_with (first | simp only [sub64_0 (lo64 Y) (lo64 X) ly0 lx0 (by omega)] | simp only [sub64_ (hi64 Y) (hi64 X) (borI (lo64 Y) (lo64 X)) hy0 hx0 (by omega) cb0 cb1])
            go_meet
            exact AddMid.mk_ HSG HT.out
          · have t1 : decide (hi64 X < hi64 Y) = false := by simp; omega
            have t2 : (hi64 X == hi64 Y) = true := by simpa using k1
            have t3 : decide (lo64 X < lo64 Y) = true := by simpa using k2
            clear hxy k2 k1
            go_wp2_with (first | simp only [sub64_0 (lo64 Y) (lo64 X) ly0 lx0 (by omega)] | simp only [sub64_ (hi64 Y) (hi64 X) (borI (lo64 Y) (lo64 X)) hy0 hx0 (by omega) cb0 cb1])
            go_meet
            exact AddMid.mk_ HSG HT.out
        · have ea : decide (a.n * q < 0) = true := by rw [decide_eq_true_iff, ← HA.out]; omega
          obtain ⟨es1, es2⟩ := two_sub (X := X) (Y := Y) Y0 (by omega) (by omega)
          have hS := HM.out.diff2 (by rw [← HA.out, ← HB.out]; omega) hxy
          have HSG : Hid (a.n * q + b.n * p ≠ 0 → true = decide (a.n * q + b.n * p < 0)) := Lib.hid (fun hne => by rw [← ea]; exact hS.2 hne)
          rw [hS.1] at es1 es2
          have cb0 := (borI_bd (lo64 X) (lo64 Y)).1
          have cb1 := (borI_bd (lo64 X) (lo64 Y)).2
          clear hS
          clear sa sb ea
          rcases two_ge hxy with k1 | ⟨k1, k2⟩
          · have t1 : decide (hi64 X < hi64 Y) = false := by simp; omega
            have t2 : (hi64 X == hi64 Y) = false := by simp; omega
            clear hxy k1
            go_wp2_with (first | simp only [sub64_0 (lo64 X) (lo64 Y) lx0 ly0 (by omega)] | simp only [sub64_ (hi64 X) (hi64 Y) (borI (lo64 X) (lo64 Y)) hx0 hy0 (by omega) cb0 cb1])
            go_meet
            exact AddMid.mk_ HSG HT.out
          · have t1 : decide (hi64 X < hi64 Y) = false := by simp; omega
            have t2 : (hi64 X == hi64 Y) = true := by simpa using k1
            have t3 : decide (lo64 X < lo64 Y) = false := by simpa using k2
            clear hxy k2 k1
            go_wp2_with (first | simp only [sub64_0 (lo64 X) (lo64 Y) lx0 ly0 (by omega)] | simp only [sub64_ (hi64 X) (hi64 Y) (borI (lo64 X) (lo64 Y)) hx0 hy0 (by omega) cb0 cb1])
            go_meet
            exact AddMid.mk_ HSG HT.out
      · have sa : a.n < 0 := by simpa using hsA
        have sb : b.n < 0 := by simpa using hsB
        have ea : decide (a.n * q < 0) = true := by rw [decide_eq_true_iff, ← HA.out]; omega
        obtain ⟨es1, es2⟩ := two_add (X := X) (Y := Y) X0 Y0 (by omega)
        have hS := HM.out.same (by rw [← HA.out, ← HB.out]; omega)
        have HSG : Hid (a.n * q + b.n * p ≠ 0 → true = decide (a.n * q + b.n * p < 0)) := Lib.hid (fun hne => by rw [← ea]; exact HM.out.sgn (by rw [← HA.out, ← HB.out]; omega) hne)
        rw [hS] at es1 es2
        have cb0 : 0 ≤ hi64 (lo64 X + lo64 Y) := by unfold hi64; omega
        have cb1 : hi64 (lo64 X + lo64 Y) ≤ 1 := by unfold hi64; omega
        clear hS
        clear sa sb ea
        go_wp2_with (first | simp only [add64_0 (lo64 X) (lo64 Y) lx0 ly0] | simp only [add64_ (hi64 X) (hi64 Y) (hi64 (lo64 X + lo64 Y)) hx0 hy0 cb0 cb1])
        go_meet
        exact AddMid.mk_ HSG HT.out
  case rest =>
    obtain ⟨m, rfl, rfl, rfl, HSG, hT5⟩ := hcut
    have HTB := Lib.hid (show absI (a.n * q + b.n * p) < 340282366920938463463374607431768211456 from by
      have h1 := HM.out.x; have h2 := HM.out.y
      unfold absI at *; omega)
    clear HM HA HB HM1 HM2 HS1 HS2 X0 Y0 X1 Y1 ca cb HT hsA hsB v1 v2 al an bn bl
    generalize ht : a.n * q + b.n * p = t at *
    have T0 := absI_nonneg t
    by_cases h00 : t = 0
    · obtain ⟨rfl, rfl⟩ := HZ.out h00
      have q2 : (hi64 (absI t) == 0) = true := by rw [h00]; rfl
      have q3 : (lo64 (absI t) == 0) = true := by rw [h00]; rfl
      generalize absI t = T at *
      clear h00 HSG ht hg hp hq hh
      have c1 := fun j => cell_of_row wc _ j _ _ _ hT5.r
      have c2 := fun j => frozen_of_row wc _ j _ _ hT5.r
      have z1 := lt_some hT5.r
      go_wp2_with fail
      exact bodyPost_ret (v := .tuple #[.agg #[.int .i64 0, .int .i64 1], .int .i64 0]) (by simp [results, Try.results37, go_sem, c1, c2, z1]) rfl ⟨rfl, hT5.end_ _ _⟩
    · have HM_ := Lib.hid (HSG.out h00)
      have HTP := Lib.hid (show 0 < absI t by unfold absI; omega)
      obtain ⟨i0, i1⟩ := hi64_bd T0 HTB.out
      obtain ⟨l0, l1⟩ := lo64_bd (absI t)
      have hle : h ≤ g := by rw [← hh]; exact gcdI_le g0
      have gdb := g0
      have HRM := Lib.hid (fun (W : World) => rem64_any (hi64 (absI t)) (lo64 (absI t)) g W i0 i1 (by omega) (by omega) l0 l1)
      have HG2 := Lib.hid (fun (W : World) => gcd_any (absI t % g) g W (Int.emod_nonneg _ (by omega)) (by omega) (by have := Int.emod_lt_of_pos (absI t) g0; omega) (by omega))
      rw [hi_lo] at HRM
      rw [show gcdI (absI t % g) g = h by rw [gcdI_comm, gcdI_step T0 (by omega), gcdI_abs, hh]] at HG2
      have dpos := HSS.out.den
      have w5 : IntKind.u64.wrap (b.d.tdiv h) = b.d / h := IntWalk.u64_quo _ _ (by omega)
      have w6 : IntKind.u64.wrap (a.d.tdiv g) = p := (IntWalk.u64_quo _ _ (by omega)).trans hp
      have w7 : ¬ h = 0 := by omega
      have dnn : 0 ≤ b.d / h := Int.ediv_nonneg (by omega) (by omega)
      have dle : b.d / h ≤ b.d := Int.ediv_le_self _ (by omega)
      have pdb : p * (b.d / h) ≤ 1000000000000000000 * 1000000000000000000 := Int.mul_le_mul (by omega) (by omega) dnn (by omega)
      have HDM := Lib.hid (fun (W : World) => mul64_any p (b.d / h) W (by omega) (by omega) dnn (by omega))
      have HDV := Lib.hid (fun (W : World) (hlt : hi64 (absI t) < h) => div64_any (hi64 (absI t)) (lo64 (absI t)) h W i0 hlt (by omega) l0 l1)
      rw [hi_lo] at HDV
      have HNH := Lib.hid (fun (k : h ≤ hi64 (absI t)) => show 18446744073709551616 ≤ absI t / h from Int.le_ediv_of_mul_le (by omega) (by have := hi_lo (absI t); omega))
      have HNL := Lib.hid (fun (k : hi64 (absI t) < h) => show absI t / h ≤ 18446744073709551615 from by
        have : absI t / h < 18446744073709551616 := Int.ediv_lt_of_lt_mul (by omega) (by have := hi_lo (absI t); omega)
        omega)
      have HN0 := Lib.hid HSS.out.num0
      have HDD := Lib.hid (hi_lo (p * (b.d / h)))
      have hdb := hi64_bd (x := p * (b.d / h)) (by omega) (by omega)
      have ldb := lo64_bd (p * (b.d / h))
      have HHL := Lib.hid (hi_lo (absI t))
      obtain rfl := HM_.out
      clear HSS HSG hg hq hh hp HC HG h00 ht T0 HTB HZ
      generalize decide (t < 0) = sg at *
      generalize absI t = T at *
      generalize b.d / h = D2 at *
      generalize p * D2 = D at *
      by_cases k0 : hi64 T = 0
      · have q2 : (hi64 T == 0) = true := by simpa using k0
        have q3 : (lo64 T == 0) = false := by have := HHL.out; have := HTP.out; simp; omega
        clear k0
        go_wp2_with fail
        refine (HRM.out _).mono ?_
        rintro e w5 ⟨rfl, hb5⟩
        have hT6 := hT5.next hb5
        clear hb5 hT5
        go_wp2_with fail
        refine (HG2.out _).mono ?_
        rintro e w6 ⟨rfl, hb6⟩
        have hT7 := hT6.next hb6
        clear hb6 hT6
        by_cases kh : h ≤ hi64 T
        · have u1 : decide (h ≤ hi64 T) = true := by simpa using kh
          obtain ⟨rfl, rfl⟩ := HBIG.out (Or.inl (by have := HNH.out kh; omega))
          clear kh
          have c1 := fun j => cell_of_row w6 _ j _ _ _ hT7.r
          have c2 := fun j => frozen_of_row w6 _ j _ _ hT7.r
          have z1 := lt_some hT7.r
          go_wp2_with fail
          exact bodyPost_ret (v := .tuple #[.agg #[.int .i64 0, .int .i64 0], .int .i64 16]) (by simp [results, Try.results37, go_sem, c1, c2, z1]) rfl ⟨rfl, hT7.end_ _ _⟩
        · have u1 : decide (h ≤ hi64 T) = false := by simpa using kh
          have kh' : hi64 T < h := by omega
          have HKH := Lib.hid kh'
          have nle := HNL.out kh'
          have nge := HN0.out
          clear kh kh'
          go_wp2_with fail
          refine (HDV.out _ HKH.out).mono ?_
          rintro e w7 ⟨rfl, hb7⟩
          have hT8 := hT7.next hb7
          clear hb7 hT7
          have ca := fun j => cell_of_row w7 _ j _ _ _ hT8.ba
          have cb := fun j => cell_of_row w7 _ j _ _ _ hT8.bb
          have za := lt_some hT8.ba
          have zb := lt_some hT8.bb
          go_upto_region 23 with fail
          refine wp_region_ext (by kernel_rfl) (by kernel_rfl) ?_
          repeat (first | go_big_quiet_step ((first | (go_at_call 99; exact calls_ext (HDM.out _)))) | quiet_step ((first | (go_at_call 99; exact calls_ext (HDM.out _)))))
          refine wpQuiet_nil ?_
          rintro w8 ⟨⟨_, hb⟩, rfl⟩
          have hT9 := hT8.next hb
          clear hb hT8 ca cb za zb
          by_cases ko : 0 < hi64 D
          · have u2 : decide (0 < hi64 D) = true := by simpa using ko
            obtain ⟨rfl, rfl⟩ := HBIG.out (Or.inr (by have := HDD.out; omega))
            clear ko
            have c1 := fun j => cell_of_row w8 _ j _ _ _ hT9.r
            have c2 := fun j => frozen_of_row w8 _ j _ _ hT9.r
            have z1 := lt_some hT9.r
            go_wp2_with fail
            exact bodyPost_ret (v := .tuple #[.agg #[.int .i64 0, .int .i64 0], .int .i64 16]) (by simp [results, Try.results37, go_sem, c1, c2, z1]) rfl ⟨rfl, hT9.end_ _ _⟩
          · have u2 : decide (0 < hi64 D) = false := by simpa using ko
            have e0 : lo64 D = D := by have := HDD.out; omega
            have hlast : ∀ (W : World), Calls Try.prog 105 #[.bool sg, .int .u64 (T / h), .int .u64 D] W fun e w' => e = .returned (.tuple #[rV R, .int .i64 C]) ∧ Below W.heap.size W w' := fun W => by
              have := signed_any sg (T / h) D W nge nle (by omega) (by omega)
              unfold signR signC at this
              rw [HFIN.out.1, HFIN.out.2] at this
              exact this
            have HLAST := Lib.hid hlast
            clear ko hlast
            go_wp2_with fail
            refine (HLAST.out _).mono ?_
            rintro e w9 ⟨rfl, hb9⟩
            have hTa := hT9.next hb9
            clear hb9 hT9
            have c1 := fun j => cell_of_row w9 _ j _ _ _ hTa.r
            have c2 := fun j => frozen_of_row w9 _ j _ _ hTa.r
            have z1 := lt_some hTa.r
            go_wp2_with fail
            exact bodyPost_ret (v := .tuple #[rV R, .int .i64 C]) (by simp [results, Try.results37, go_sem, c1, c2, z1]) rfl ⟨rfl, hTa.end_ _ _⟩
      · have q2 : (hi64 T == 0) = false := by simpa using k0
        clear k0
        go_wp2_with fail
        refine (HRM.out _).mono ?_
        rintro e w5 ⟨rfl, hb5⟩
        have hT6 := hT5.next hb5
        clear hb5 hT5
        go_wp2_with fail
        refine (HG2.out _).mono ?_
        rintro e w6 ⟨rfl, hb6⟩
        have hT7 := hT6.next hb6
        clear hb6 hT6
        by_cases kh : h ≤ hi64 T
        · have u1 : decide (h ≤ hi64 T) = true := by simpa using kh
          obtain ⟨rfl, rfl⟩ := HBIG.out (Or.inl (by have := HNH.out kh; omega))
          clear kh
          have c1 := fun j => cell_of_row w6 _ j _ _ _ hT7.r
          have c2 := fun j => frozen_of_row w6 _ j _ _ hT7.r
          have z1 := lt_some hT7.r
          go_wp2_with fail
          exact bodyPost_ret (v := .tuple #[.agg #[.int .i64 0, .int .i64 0], .int .i64 16]) (by simp [results, Try.results37, go_sem, c1, c2, z1]) rfl ⟨rfl, hT7.end_ _ _⟩
        · have u1 : decide (h ≤ hi64 T) = false := by simpa using kh
          have kh' : hi64 T < h := by omega
          have HKH := Lib.hid kh'
          have nle := HNL.out kh'
          have nge := HN0.out
          clear kh kh'
          go_wp2_with fail
          refine (HDV.out _ HKH.out).mono ?_
          rintro e w7 ⟨rfl, hb7⟩
          have hT8 := hT7.next hb7
          clear hb7 hT7
          have ca := fun j => cell_of_row w7 _ j _ _ _ hT8.ba
          have cb := fun j => cell_of_row w7 _ j _ _ _ hT8.bb
          have za := lt_some hT8.ba
          have zb := lt_some hT8.bb
          go_upto_region 23 with fail
          refine wp_region_ext (by kernel_rfl) (by kernel_rfl) ?_
          repeat (first | go_big_quiet_step ((first | (go_at_call 99; exact calls_ext (HDM.out _)))) | quiet_step ((first | (go_at_call 99; exact calls_ext (HDM.out _)))))
          refine wpQuiet_nil ?_
          rintro w8 ⟨⟨_, hb⟩, rfl⟩
          have hT9 := hT8.next hb
          clear hb hT8 ca cb za zb
          by_cases ko : 0 < hi64 D
          · have u2 : decide (0 < hi64 D) = true := by simpa using ko
            obtain ⟨rfl, rfl⟩ := HBIG.out (Or.inr (by have := HDD.out; omega))
            clear ko
            have c1 := fun j => cell_of_row w8 _ j _ _ _ hT9.r
            have c2 := fun j => frozen_of_row w8 _ j _ _ hT9.r
            have z1 := lt_some hT9.r
            go_wp2_with fail
            exact bodyPost_ret (v := .tuple #[.agg #[.int .i64 0, .int .i64 0], .int .i64 16]) (by simp [results, Try.results37, go_sem, c1, c2, z1]) rfl ⟨rfl, hT9.end_ _ _⟩
          · have u2 : decide (0 < hi64 D) = false := by simpa using ko
            have e0 : lo64 D = D := by have := HDD.out; omega
            have hlast : ∀ (W : World), Calls Try.prog 105 #[.bool sg, .int .u64 (T / h), .int .u64 D] W fun e w' => e = .returned (.tuple #[rV R, .int .i64 C]) ∧ Below W.heap.size W w' := fun W => by
              have := signed_any sg (T / h) D W nge nle (by omega) (by omega)
              unfold signR signC at this
              rw [HFIN.out.1, HFIN.out.2] at this
              exact this
            have HLAST := Lib.hid hlast
            clear ko hlast
            go_wp2_with fail
            refine (HLAST.out _).mono ?_
            rintro e w9 ⟨rfl, hb9⟩
            have hTa := hT9.next hb9
            clear hb9 hT9
            have c1 := fun j => cell_of_row w9 _ j _ _ _ hTa.r
            have c2 := fun j => frozen_of_row w9 _ j _ _ hTa.r
            have z1 := lt_some hTa.r
            go_wp2_with fail
            exact bodyPost_ret (v := .tuple #[rV R, .int .i64 C]) (by simp [results, Try.results37, go_sem, c1, c2, z1]) rfl ⟨rfl, hTa.end_ _ _⟩
end Go.Proofs.Ytgcbmnohhbcfiaa
