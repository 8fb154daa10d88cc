/- Long division of two words by one, digit by digit: the arithmetic of math/bits.Div64. No program in sight. -/
import Derived.Test.YtgcbmnohhbcfiaaPlain
import Derived.Lib.BitFns
import Derived.Laws.BitsAllLaws
namespace Go.Proofs.Ytgcbmnohhbcfiaa
set_option linter.unusedVariables false
set_option linter.unusedSimpArgs false

theorem bitLenAux_spec : ∀ (f x : Nat), x < 2 ^ f → x < 2 ^ Lib.bitLenAux f x ∧ (x ≠ 0 → 2 ^ Lib.bitLenAux f x ≤ 2 * x)
  | 0, x, h => by
    have : x = 0 := by simpa using h
    subst this; simp [Lib.bitLenAux]
  | f + 1, x, h => by
    by_cases h0 : x = 0
    · subst h0; simp [Lib.bitLenAux]
    · have ih := bitLenAux_spec f (x / 2) (by rw [Nat.pow_succ] at h; omega)
      rw [Lib.bitLenAux, if_neg h0, Nat.add_comm 1, Nat.pow_succ]
      refine ⟨by omega, fun _ => ?_⟩
      by_cases h1 : x / 2 = 0
      · have : x = 1 := by omega
        subst this
        rw [h1]
        have : Lib.bitLenAux f 0 = 0 := by cases f <;> simp [Lib.bitLenAux]
        rw [this]; simp
      · have := ih.2 h1; omega
/-- The number of places that y is moved to the left, and what that makes of it. -/
structure ShiftOf (y : Int) (s : Nat) : Prop where
  lo : 1 ≤ s
  hi : s ≤ 63
  up : 9223372036854775808 ≤ y * (2 : Int) ^ s
  lt : y * (2 : Int) ^ s ≤ 18446744073709551615
theorem pow_split {b : Nat} (h : b ≤ 64) : (2 : Nat) ^ b * 2 ^ (64 - b) = 18446744073709551616 := by
  rw [← Nat.pow_add, show b + (64 - b) = 64 by omega]
theorem shift_of {y : Int} (h1 : 1 ≤ y) (h2 : y ≤ 9223372036854775807) : ∃ s : Nat, (64 - (Lib.bitLen y.toNat : Int)) = (s : Int) ∧ ShiftOf y s := by
  obtain ⟨y, rfl⟩ := Int.eq_ofNat_of_zero_le (show 0 ≤ y by omega)
  have hs := bitLenAux_spec 64 y (by omega)
  have hu : Lib.bitLen y = Lib.bitLenAux 64 y := rfl
  rw [← hu] at hs
  simp only [Int.toNat_natCast]
  generalize Lib.bitLen y = b at hs
  obtain ⟨q1, q2⟩ := hs
  have q2 := q2 (by omega)
  have hb : b ≤ 63 := by
    rcases Nat.lt_or_ge b 64 with h | h
    · omega
    · have : 2 ^ 64 ≤ 2 ^ b := Nat.pow_le_pow_right (by omega) h
      omega
  have hb1 : 1 ≤ b := by
    rcases Nat.eq_zero_or_pos b with h | h
    · subst h; simp at q1; omega
    · exact h
  refine ⟨64 - b, by omega, ⟨by omega, by omega, ?_, ?_⟩⟩
  all_goals
    have hp := pow_split (b := b) (by omega)
    have e : ((y : Int) * (2 : Int) ^ (64 - b)) = ((y * 2 ^ (64 - b) : Nat) : Int) := by simp
    rw [e]
    generalize 2 ^ (64 - b) = c at hp
    generalize 2 ^ b = a at hp q1 q2
    have m1 : y * c + c ≤ a * c := by rw [← Nat.succ_mul]; exact Nat.mul_le_mul_right c (by omega)
    have m2 : a * c ≤ 2 * y * c := Nat.mul_le_mul_right c q2
    rw [Nat.mul_assoc] at m2
    have hc : 0 < c := by rcases Nat.eq_zero_or_pos c with h | h
                          · subst h; simp at hp
                          · exact h
    omega

section
variable {Y y1 y0 U u1 q r : Int}
/-- What a digit's loop keeps: q is not less than the digit. -/
structure Dig (Y y1 y0 U u1 q r : Int) : Prop where
  e : q * y1 + r = U
  g : (U * 4294967296 + u1) / Y ≤ q
  r0 : 0 ≤ r
  q0 : 0 ≤ q
  q2 : q ≤ 4294967297
/-- The parts of a divisor, and of a number that is less than it. -/
structure Dv (Y y1 y0 U u1 : Int) : Prop where
  y : Y = y1 * 4294967296 + y0
  a : 2147483648 ≤ y1
  a' : y1 ≤ 4294967295
  b : 0 ≤ y0
  b' : y0 ≤ 4294967295
  u : 0 ≤ U
  u' : U < Y
  v : 0 ≤ u1
  v' : u1 ≤ 4294967295
theorem Dv.pos (h : Dv Y y1 y0 U u1) : 0 < Y := by have := h.a; have := h.b; have := h.y; omega
theorem Dv.top (h : Dv Y y1 y0 U u1) : 0 ≤ (U * 4294967296 + u1) / Y ∧ (U * 4294967296 + u1) / Y ≤ 4294967295 := by
  have hp := h.pos
  have := h.u; have := h.u'; have := h.v; have := h.v'
  refine ⟨Int.ediv_nonneg (by omega) (by omega), ?_⟩
  have : (U * 4294967296 + u1) / Y < 4294967296 := Int.ediv_lt_of_lt_mul hp (by omega)
  omega
theorem Dv.prod (h : Dv Y y1 y0 U u1) (e : q * y1 + r = U) : q * Y = (U - r) * 4294967296 + q * y0 := by
  rw [h.y, Int.mul_add, ← Int.mul_assoc]; omega
theorem Dig.start (h : Dv Y y1 y0 U u1) : Dig Y y1 y0 U u1 (U / y1) (U - U / y1 * y1) := by
  have ha := h.a
  have hm := Int.emod_nonneg U (show y1 ≠ 0 by omega)
  have hm2 := Int.emod_lt_of_pos U (show 0 < y1 by omega)
  have hd := Int.mul_ediv_add_emod U y1
  rw [Int.mul_comm] at hd
  have hq : 0 ≤ U / y1 := Int.ediv_nonneg h.u (by omega)
  refine ⟨by omega, ?_, by omega, hq, ?_⟩
  · have hp := h.pos
    rw [← Int.lt_add_one_iff]
    refine Int.ediv_lt_of_lt_mul hp ?_
    have e := h.prod (q := U / y1 + 1) (r := U % y1 - y1) (by rw [Int.add_mul]; omega)
    rw [e]
    have := h.v'; have hb := h.b
    have : 0 ≤ (U / y1 + 1) * y0 := Int.mul_nonneg (by omega) hb
    omega
  · have hu := h.u'; have hy := h.y; have hb := h.b'; have hv := h.v'
    have : U / y1 < 4294967298 := Int.ediv_lt_of_lt_mul (by omega) (by omega)
    omega
theorem Dig.big (h : Dv Y y1 y0 U u1) (d : Dig Y y1 y0 U u1 q r) (hq : 4294967296 ≤ q ∨ 4294967296 * r + u1 < q * y0) : (U * 4294967296 + u1) / Y + 1 ≤ q := by
  have ht := h.top
  rcases hq with hq | hq
  · omega
  · have e := h.prod d.e
    have : (U * 4294967296 + u1) / Y < q := Int.ediv_lt_of_lt_mul h.pos (by omega)
    omega
theorem Dig.step (h : Dv Y y1 y0 U u1) (d : Dig Y y1 y0 U u1 q r) (hq : 4294967296 ≤ q ∨ 4294967296 * r + u1 < q * y0) : Dig Y y1 y0 U u1 (q - 1) (r + y1) := by
  have hb := d.big h hq
  have ht := h.top; have ha := h.a; have h0 := d.r0; have hq2 := d.q2; have he := d.e
  exact ⟨by rw [Int.sub_mul]; omega, by omega, by omega, by omega, by omega⟩
theorem Dig.fin1 (h : Dv Y y1 y0 U u1) (d : Dig Y y1 y0 U u1 q r) (hq : q * y0 ≤ 4294967296 * r + u1) : q = (U * 4294967296 + u1) / Y := by
  have e := h.prod d.e
  have : q ≤ (U * 4294967296 + u1) / Y := Int.le_ediv_of_mul_le h.pos (by omega)
  have := d.g; omega
theorem Dig.fin2 (h : Dv Y y1 y0 U u1) (d : Dig Y y1 y0 U u1 q r) (hq : q ≤ 4294967296) (hr : 4294967296 ≤ r) : q = (U * 4294967296 + u1) / Y := by
  refine d.fin1 h ?_
  have : q * y0 ≤ 4294967296 * 4294967295 := Int.mul_le_mul hq h.b' h.b (by omega)
  have := h.v
  omega
theorem Dv.rest (h : Dv Y y1 y0 U u1) : U * 4294967296 + u1 - (U * 4294967296 + u1) / Y * Y = (U * 4294967296 + u1) % Y := by
  have := Int.mul_ediv_add_emod (U * 4294967296 + u1) Y
  rw [Int.mul_comm] at this
  omega
end

/-- The two words, moved to the left. -/
theorem moved {hi lo : Int} {c e : Int} (hce : c * e = 18446744073709551616) (hc : 0 < c) (he : 0 < e) :
    (hi * c + lo / e) * 18446744073709551616 + (lo * c) % 18446744073709551616 = c * (hi * 18446744073709551616 + lo) := by
  have h1 : (lo * c) % 18446744073709551616 = (lo % e) * c := by
    rw [← hce, Int.mul_comm lo c, Int.mul_emod_mul_of_pos _ _ hc, Int.mul_comm]
  have h2 := Int.mul_ediv_add_emod lo e
  rw [h1]
  have h3 : lo / e * 18446744073709551616 = c * (e * (lo / e)) := by rw [← hce]; ac_rfl
  have h4 : hi * c * 18446744073709551616 = c * (hi * 18446744073709551616) := by rw [Int.mul_comm hi c, Int.mul_assoc]
  rw [Int.add_mul, h3, h4]
  have h5 : c * (hi * 18446744073709551616 + lo) = c * (hi * 18446744073709551616) + (c * (e * (lo / e)) + c * (lo % e)) := by
    rw [← Int.mul_add, ← Int.mul_add, h2]
  rw [h5, Int.mul_comm (lo % e) c]; omega
/-- Two digits make the quotient and the rest. -/
theorem two_digits {Y U u1 u0 : Int} (hY : 0 < Y) (h0 : 0 ≤ u0) :
    let N := (U * 4294967296 + u1) * 4294967296 + u0
    let v := (U * 4294967296 + u1) % Y
    (U * 4294967296 + u1) / Y * 4294967296 + (v * 4294967296 + u0) / Y = N / Y ∧ (v * 4294967296 + u0) % Y = N % Y := by
  intro N v
  have h1 := Int.mul_ediv_add_emod (U * 4294967296 + u1) Y
  have e : N = (v * 4294967296 + u0) + Y * ((U * 4294967296 + u1) / Y * 4294967296) := by
    show (U * 4294967296 + u1) * 4294967296 + u0 = ((U * 4294967296 + u1) % Y * 4294967296 + u0) + Y * ((U * 4294967296 + u1) / Y * 4294967296)
    rw [← Int.mul_assoc]; omega
  rw [e, Int.add_mul_ediv_left _ _ (by omega), Int.add_mul_emod_self_left]
  exact ⟨by omega, rfl⟩
theorem unmoved {N y c : Int} (hc : 0 < c) (hy : 0 < y) : (c * N) / (y * c) = N / y ∧ (c * N) % (y * c) = (N % y) * c := by
  rw [Int.mul_comm y c]
  exact ⟨Int.mul_ediv_mul_of_pos _ _ hc, by rw [Int.mul_emod_mul_of_pos _ _ hc, Int.mul_comm]⟩

theorem and32 {x : Int} (h : 0 ≤ x) (k : x ≤ 18446744073709551615) : Go.bits .and .u64 x 4294967295 = x % 4294967296 := by
  rw [u64_and x 4294967295 h (by omega) (by omega) (by omega)]
  obtain ⟨x, rfl⟩ := Int.eq_ofNat_of_zero_le h
  rw [show ((4294967295 : Int).toNat) = 2 ^ 32 - 1 from rfl, Int.toNat_natCast, Nat.and_two_pow_sub_one_eq_mod]
  omega
theorem or_join {a b : Int} {s : Nat} (ha : 0 ≤ a) (hb : 0 ≤ b) (hb' : b < (2 : Int) ^ s) (h : a * (2 : Int) ^ s + b ≤ 18446744073709551615) : Go.bits .or .u64 (a * (2 : Int) ^ s) b = a * (2 : Int) ^ s + b := by
  obtain ⟨a, rfl⟩ := Int.eq_ofNat_of_zero_le ha
  obtain ⟨b, rfl⟩ := Int.eq_ofNat_of_zero_le hb
  have e : ((a : Int) * (2 : Int) ^ s) = ((a * 2 ^ s : Nat) : Int) := by simp
  have hb2 : b < 2 ^ s := by exact_mod_cast hb'
  rw [e] at h ⊢
  rw [u64_or_nat _ _ (by omega) (by omega), nat_join s _ _ (Nat.mul_mod_left _ _) hb2]
  simp

/-- All that Div64 reckons before its loops. -/
structure DivW (hi lo y : Int) (s t : Nat) (Y U L : Int) : Prop where
  w1 : IntKind.u64.wrap (s : Int) = s
  m1 : min s 64 = s
  w2 : IntKind.u64.wrap (64 - (s : Int)) = (t : Int)
  m2 : min t 64 = t
  w3 : IntKind.u64.wrap (y * (2 : Int) ^ s) = Y
  w4 : Go.bits .or .u64 (IntKind.u64.wrap (hi * (2 : Int) ^ s)) (lo / (2 : Int) ^ t) = U
  w5 : IntKind.u64.wrap (lo * (2 : Int) ^ s) = L
  a1 : Go.bits .and .u64 Y 4294967295 = Y % 4294967296
  a2 : Go.bits .and .u64 L 4294967295 = L % 4294967296
  yl : 9223372036854775808 ≤ Y
  yh : Y ≤ 18446744073709551615
  ul : 0 ≤ U
  uh : U < Y
  ll : 0 ≤ L
  lh : L ≤ 18446744073709551615
  cp : 0 < (2 : Int) ^ s
  ye : Y = y * (2 : Int) ^ s
  nn : U * 18446744073709551616 + L = (2 : Int) ^ s * (hi * 18446744073709551616 + lo)
theorem divW {hi lo y : Int} {s : Nat} (hh : 0 ≤ hi) (hy : hi < y) (hl : 0 ≤ lo) (hl' : lo ≤ 18446744073709551615) (hS : ShiftOf y s) : ∃ t Y U L, DivW hi lo y s t Y U L := by
  have h1 := hS.lo; have h2 := hS.hi; have h3 := hS.up; have h4 := hS.lt
  have hp := pow_split (b := s) (by omega)
  have hc : (2 : Int) ^ s * (2 : Int) ^ (64 - s) = 18446744073709551616 := by
    have := congrArg (fun n : Nat => (n : Int)) hp
    simpa using this
  have c1 : 0 < (2 : Int) ^ s := Int.pow_pos (by omega)
  have c2 : 0 < (2 : Int) ^ (64 - s) := Int.pow_pos (by omega)
  have hm := moved (hi := hi) (lo := lo) hc c1 c2
  have hd0 : 0 ≤ lo / (2 : Int) ^ (64 - s) := Int.ediv_nonneg hl (by omega)
  have hd1 : lo / (2 : Int) ^ (64 - s) < (2 : Int) ^ s := Int.ediv_lt_of_lt_mul c2 (by omega)
  have hm1 : hi * (2 : Int) ^ s + (2 : Int) ^ s ≤ y * (2 : Int) ^ s := by
    have := Int.mul_le_mul_of_nonneg_right (show hi + 1 ≤ y by omega) (show 0 ≤ (2 : Int) ^ s by omega)
    rw [Int.add_mul] at this; omega
  have hm0 : 0 ≤ hi * (2 : Int) ^ s := Int.mul_nonneg hh (by omega)
  have hw : IntKind.u64.wrap (hi * (2 : Int) ^ s) = hi * (2 : Int) ^ s := by rw [IntKind.wrap_u64]; omega
  have ho := or_join (a := hi) (b := lo / (2 : Int) ^ (64 - s)) (s := s) hh hd0 hd1 (by omega)
  have hl2 : IntKind.u64.wrap (lo * (2 : Int) ^ s) = (lo * (2 : Int) ^ s) % 18446744073709551616 := by rw [IntKind.wrap_u64]
  refine ⟨64 - s, y * (2 : Int) ^ s, hi * (2 : Int) ^ s + lo / (2 : Int) ^ (64 - s), (lo * (2 : Int) ^ s) % 18446744073709551616, ⟨?_, ?_, ?_, ?_, ?_, ?_, hl2, ?_, ?_, h3, h4, ?_, ?_, ?_, ?_, c1, rfl, hm⟩⟩
  · rw [IntKind.wrap_u64]; omega
  · omega
  · rw [IntKind.wrap_u64]; omega
  · omega
  · rw [IntKind.wrap_u64]; omega
  · rw [hw, ho]
  · exact and32 (by omega) (by omega)
  · exact and32 (by omega) (by omega)
  · omega
  · omega
  · omega
  · omega
/-- A digit's loop begins. -/
structure Dig0 (y1 U : Int) (q r : Int) : Prop where
  w1 : IntKind.u64.wrap (U.tdiv y1) = q
  w2 : IntKind.u64.wrap (q * y1) = q * y1
  w3 : IntKind.u64.wrap (U - q * y1) = r
theorem dv_of {Y U u1 : Int} (h1 : 9223372036854775808 ≤ Y) (h2 : Y ≤ 18446744073709551615) (h3 : 0 ≤ U) (h4 : U < Y) (h5 : 0 ≤ u1) (h6 : u1 ≤ 4294967295) : Dv Y (Y / 4294967296) (Y % 4294967296) U u1 :=
  ⟨by omega, by omega, by omega, by omega, by omega, h3, h4, h5, h6⟩
theorem dig0 {Y y1 y0 U u1 : Int} (D : Dv Y y1 y0 U u1) (hY : Y ≤ 18446744073709551615) : ∃ q r, Dig0 y1 U q r ∧ Dig Y y1 y0 U u1 q r ∧ r ≤ 4294967295 := by
  have d := Dig.start D
  have ha := D.a; have hu := D.u; have hu' := D.u'; have ha' := D.a'
  have hm2 := Int.emod_lt_of_pos U (show 0 < y1 by omega)
  have hd := Int.mul_ediv_add_emod U y1
  rw [Int.mul_comm] at hd
  have hq0 := d.q0; have hq2 := d.q2; have hr := d.r0; have he := d.e
  have hp : 0 ≤ U / y1 * y1 := Int.mul_nonneg hq0 (by omega)
  refine ⟨_, _, ⟨?_, ?_, ?_⟩, d, by omega⟩
  · rw [Int.tdiv_eq_ediv_of_nonneg hu, IntKind.wrap_u64]; omega
  · rw [IntKind.wrap_u64]; omega
  · rw [IntKind.wrap_u64]; omega
theorem dig_wraps {Y y1 y0 U u1 q r : Int} (D : Dv Y y1 y0 U u1) (d : Dig Y y1 y0 U u1 q r) (hr : r ≤ 4294967295) (hq : q ≤ 4294967295) :
    IntKind.u64.wrap (q * y0) = q * y0 ∧ IntKind.u64.wrap (4294967296 * r) = 4294967296 * r ∧ IntKind.u64.wrap (4294967296 * r + u1) = 4294967296 * r + u1 := by
  have h0 := d.q0; have hb := D.b; have hb' := D.b'; have r0 := d.r0; have v := D.v; have v' := D.v'
  have m0 : 0 ≤ q * y0 := Int.mul_nonneg h0 hb
  have m1 : q * y0 ≤ 4294967295 * 4294967295 := Int.mul_le_mul hq hb' hb (by omega)
  refine ⟨?_, ?_, ?_⟩ <;> (rw [IntKind.wrap_u64]; omega)
/-- Behind the first digit. -/
theorem un21 {Y y1 y0 U u1 : Int} (D : Dv Y y1 y0 U u1) (hY : Y ≤ 18446744073709551615) :
    IntKind.u64.wrap (IntKind.u64.wrap (IntKind.u64.wrap (U * 4294967296) + u1) - IntKind.u64.wrap ((U * 4294967296 + u1) / Y * Y)) = (U * 4294967296 + u1) % Y := by
  have h := D.rest
  have m1 := Int.emod_nonneg (U * 4294967296 + u1) (show Y ≠ 0 by have := D.pos; omega)
  have m2 := Int.emod_lt_of_pos (U * 4294967296 + u1) D.pos
  generalize (U * 4294967296 + u1) % Y = v at *
  generalize (U * 4294967296 + u1) / Y * Y = p at *
  simp only [IntKind.wrap_u64]
  omega
/-- All that both digits' loops and the end want to know. -/
structure DivZ (hi lo y : Int) (s : Nat) (Y y1 y0 U u1 u0 : Int) (Q V Q2 R q2 r2 : Int) : Prop where
  D1 : Dv Y y1 y0 U u1
  D2 : Dv Y y1 y0 V u0
  q : (U * 4294967296 + u1) / Y = Q
  ql : 0 ≤ Q
  qh : Q ≤ 4294967295
  p : (V * 4294967296 + u0) / Y = Q2
  pl : 0 ≤ Q2
  ph : Q2 ≤ 4294967295
  w1 : IntKind.u64.wrap (IntKind.u64.wrap (IntKind.u64.wrap (U * 4294967296) + u1) - IntKind.u64.wrap (Q * Y)) = V
  w2 : IntKind.u64.wrap (IntKind.u64.wrap (IntKind.u64.wrap (V * 4294967296) + u0) - IntKind.u64.wrap (Q2 * Y)) = R
  z : Dig0 y1 V q2 r2
  d : Dig Y y1 y0 V u0 q2 r2
  r : r2 ≤ 4294967295
  quo : Q * 4294967296 + Q2 = (hi * 18446744073709551616 + lo) / y
  rem : R / (2 : Int) ^ s = (hi * 18446744073709551616 + lo) % y
theorem divZ {hi lo y : Int} {s t : Nat} {Y U L : Int} (h : DivW hi lo y s t Y U L) (hy : 0 < y) {y1 y0 u1 u0 : Int} (e1 : Y / 4294967296 = y1) (e2 : Y % 4294967296 = y0) (e3 : L / 4294967296 = u1) (e4 : L % 4294967296 = u0) :
    ∃ Q V Q2 R q2 r2, DivZ hi lo y s Y y1 y0 U u1 u0 Q V Q2 R q2 r2 := by
  have hl := h.ll; have hl' := h.lh
  have D1 : Dv Y y1 y0 U u1 := by rw [← e1, ← e2]; exact dv_of h.yl h.yh h.ul h.uh (by omega) (by omega)
  have hp := D1.pos
  have m1 := Int.emod_nonneg (U * 4294967296 + u1) (show Y ≠ 0 by omega)
  have m2 := Int.emod_lt_of_pos (U * 4294967296 + u1) hp
  have D2 : Dv Y y1 y0 ((U * 4294967296 + u1) % Y) u0 := ⟨D1.y, D1.a, D1.a', D1.b, D1.b', m1, m2, by omega, by omega⟩
  obtain ⟨q2, r2, z, d, r⟩ := dig0 D2 h.yh
  have t1 := D1.top; have t2 := D2.top
  have td := two_digits (Y := Y) (U := U) (u1 := u1) (u0 := u0) hp (by omega)
  have hn : (U * 4294967296 + u1) * 4294967296 + u0 = (2 : Int) ^ s * (hi * 18446744073709551616 + lo) := by
    rw [← h.nn]; omega
  have um := unmoved (N := hi * 18446744073709551616 + lo) h.cp hy
  simp only [hn, h.ye] at td
  rw [um.1, um.2] at td
  refine ⟨_, _, _, _, q2, r2, ⟨D1, D2, rfl, t1.1, t1.2, rfl, t2.1, t2.2, un21 D1 h.yh, un21 D2 h.yh, z, d, r, ?_, ?_⟩⟩
  · rw [h.ye]; exact td.1
  · rw [h.ye, td.2, Int.mul_ediv_cancel _ (by have := h.cp; omega)]
end Go.Proofs.Ytgcbmnohhbcfiaa
