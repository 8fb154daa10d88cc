/- Words of our own for ratios in memory, and numbers of two words. -/
import Derived.Test.YtgcbmnohhbcfiaaCm2
import Derived.Test.YtgcbmnohhbcfiaaCm1
import Derived.Lib.BitFns
import Derived.Laws.BitsAllLaws
namespace Go.Proofs.Ytgcbmnohhbcfiaa
open Go.RowKit
set_option linter.unusedVariables false
set_option linter.unusedSimpArgs false

def hi64 (x : Int) : Int := x / 18446744073709551616
def lo64 (x : Int) : Int := x % 18446744073709551616
theorem lo64_bd (x : Int) : 0 ≤ lo64 x ∧ lo64 x ≤ 18446744073709551615 := by unfold lo64; omega
theorem hi64_bd {x : Int} (h : 0 ≤ x) (k : x < 340282366920938463463374607431768211456) : 0 ≤ hi64 x ∧ hi64 x ≤ 18446744073709551615 := by unfold hi64; omega
theorem hi_lo (x : Int) : hi64 x * 18446744073709551616 + lo64 x = x := by unfold hi64 lo64; omega

def borI (x y : Int) : Int := if x < y then 1 else 0
theorem borI_bd (x y : Int) : 0 ≤ borI x y ∧ borI x y ≤ 1 := by unfold borI; split <;> omega
/-- Two words, added, subtracted and compared. -/
theorem two_add {X Y : Int} (hX : 0 ≤ X) (hY : 0 ≤ Y) (k : X + Y < 340282366920938463463374607431768211456) : lo64 (lo64 X + lo64 Y) = lo64 (X + Y) ∧ lo64 (hi64 X + hi64 Y + hi64 (lo64 X + lo64 Y)) = hi64 (X + Y) := by unfold lo64 hi64; omega
theorem two_sub {X Y : Int} (hY : 0 ≤ Y) (h : Y ≤ X) (k : X < 340282366920938463463374607431768211456) : lo64 (lo64 X - lo64 Y) = lo64 (X - Y) ∧ lo64 (hi64 X - hi64 Y - borI (lo64 X) (lo64 Y)) = hi64 (X - Y) := by
  unfold borI lo64 hi64; split <;> omega
theorem gcdI_comm (x y : Int) : gcdI x y = gcdI y x := by unfold gcdI; rw [Int.gcd_comm]
theorem two_zero {X : Int} (h : hi64 X = 0) (k : lo64 X = 0) : X = 0 := by unfold hi64 at h; unfold lo64 at k; omega

theorem two_lt {X Y : Int} (h : X < Y) : hi64 X < hi64 Y ∨ (hi64 X = hi64 Y ∧ lo64 X < lo64 Y) := by unfold hi64 lo64; omega
theorem two_ge {X Y : Int} (h : ¬ X < Y) : hi64 Y < hi64 X ∨ (hi64 X = hi64 Y ∧ ¬ lo64 X < lo64 Y) := by unfold hi64 lo64; omega
theorem absI_mul {x y : Int} (h : 0 < y) : absI x * y = absI (x * y) := by
  unfold absI; rw [Int.natAbs_mul, Int.natCast_mul]; congr 1; omega
theorem mul_sign {x y : Int} (h : 0 < y) : (x < 0 ↔ x * y < 0) := by
  constructor
  · intro k; exact Int.mul_neg_of_neg_of_pos k h
  · intro k
    rcases Int.lt_or_le x 0 with h1 | h1
    · exact h1
    · have := Int.mul_nonneg h1 (show 0 ≤ y by omega); omega
/-- What the sum's two words are to be, and its sign. -/
structure MidOk (X Y s1 s2 : Int) : Prop where
  x : X = absI s1
  y : Y = absI s2
theorem MidOk.same {X Y s1 s2 : Int} (h : MidOk X Y s1 s2) (k : (s1 < 0 ↔ s2 < 0)) : X + Y = absI (s1 + s2) := by
  have := h.x; have := h.y; unfold absI at *; omega
theorem MidOk.diff1 {X Y s1 s2 : Int} (h : MidOk X Y s1 s2) (k : ¬ (s1 < 0 ↔ s2 < 0)) (l : X < Y) : Y - X = absI (s1 + s2) ∧ ((!decide (s1 < 0)) = decide (s1 + s2 < 0)) := by
  have := h.x; have := h.y; unfold absI at *
  refine ⟨by omega, ?_⟩
  by_cases e : s1 < 0 <;> simp [e] <;> omega
theorem MidOk.diff2 {X Y s1 s2 : Int} (h : MidOk X Y s1 s2) (k : ¬ (s1 < 0 ↔ s2 < 0)) (l : ¬ X < Y) : X - Y = absI (s1 + s2) ∧ (s1 + s2 ≠ 0 → decide (s1 < 0) = decide (s1 + s2 < 0)) := by
  have := h.x; have := h.y; unfold absI at *
  refine ⟨by omega, fun hne => ?_⟩
  by_cases e : s1 < 0 <;> simp [e] <;> omega
theorem MidOk.sgn {X Y s1 s2 : Int} (h : MidOk X Y s1 s2) (k : (s1 < 0 ↔ s2 < 0)) : s1 + s2 ≠ 0 → decide (s1 < 0) = decide (s1 + s2 < 0) := by
  have := h.x; have := h.y; unfold absI at *
  intro hne
  by_cases e : s1 < 0 <;> simp [e] <;> omega

/-- The boxes of two ratios, and a result's. -/
structure TwoIn (w : World) (a b : Rt) (wr : World) : Prop where
  below : Below w.heap.size w wr
  ba : wr.heap[w.heap.size]? = some (rB a)
  bb : wr.heap[w.heap.size + 1]? = some (rB b)
  r : wr.heap[w.heap.size + 2]? = some (rB ⟨0, 0⟩)
theorem TwoIn.next {w : World} {a b : Rt} {wr w1 : World} (h : TwoIn w a b wr) (hb : Below wr.heap.size wr w1) : TwoIn w a b w1 :=
  ⟨bcall h.below h.below.size hb, heap_ext h.ba hb, heap_ext h.bb hb, heap_ext h.r hb⟩
theorem TwoIn.start (w : World) (a b : Rt) : TwoIn w a b (((w.alloc (rB a)).alloc (rB b)).alloc (rB ⟨0, 0⟩)) :=
  ⟨((one_alloc w _).alloc (by simp) _).alloc (by simp; omega) _, heap_old (heap_old (heap_new rfl)), heap_old (heap_new (by simp)), heap_new (by simp)⟩
theorem TwoIn.end_ {w : World} {a b : Rt} {wr : World} (h : TwoIn w a b wr) (x y : Value) : Below w.heap.size w ((wr.setCell ⟨w.heap.size + 2, 0, none⟩ x).setCell ⟨w.heap.size + 2, 1, none⟩ y) :=
  (h.below.setCell (by simp) _).setCell (by simp) _
/-- The boxes of two ratios. -/
structure DuoIn (w : World) (a b : Rt) (wr : World) : Prop where
  below : Below w.heap.size w wr
  ba : wr.heap[w.heap.size]? = some (rB a)
  bb : wr.heap[w.heap.size + 1]? = some (rB b)
theorem DuoIn.next {w : World} {a b : Rt} {wr w1 : World} (h : DuoIn w a b wr) (hb : Below wr.heap.size wr w1) : DuoIn w a b w1 :=
  ⟨bcall h.below h.below.size hb, heap_ext h.ba hb, heap_ext h.bb hb⟩
theorem DuoIn.start (w : World) (a b : Rt) : DuoIn w a b ((w.alloc (rB a)).alloc (rB b)) :=
  ⟨(one_alloc w _).alloc (by simp) _, heap_old (heap_new rfl), heap_new (by simp)⟩

theorem TwoIn.setB {w : World} {a b : Rt} {wr : World} (h : TwoIn w a b wr) (z : Int) : TwoIn w a ⟨z, b.d⟩ (wr.setCell ⟨w.heap.size + 1, 0, none⟩ (.int .i64 z)) := by
  refine ⟨h.below.setCell (by simp) _, ?_, ?_, ?_⟩
  · rw [heap_set_ne (by omega)]; exact h.ba
  · rw [heap_set h.bb]; rfl
  · rw [heap_set_ne (by omega)]; exact h.r
end Go.Proofs.Ytgcbmnohhbcfiaa

namespace Go.Proofs.Ytgcbmnohhbcfiaa
set_option linter.unusedVariables false
set_option linter.unusedSimpArgs false

theorem bitLenAux_spec : ∀ (f x : Nat), x < 2 ^ f → x < 2 ^ Lib.bitLenAux f x ∧ (x ≠ 0 → 2 ^ Lib.bitLenAux f x ≤ 2 * x)
  | 0, x, h => by
    have : x = 0 := by simpa using h
    subst this; simp [Lib.bitLenAux]
  | f + 1, x, h => by
    by_cases h0 : x = 0
    · subst h0; simp [Lib.bitLenAux]
    · have ih := bitLenAux_spec f (x / 2) (by rw [Nat.pow_succ] at h; omega)
      rw [Lib.bitLenAux, if_neg h0, Nat.add_comm 1, Nat.pow_succ]
      refine ⟨by omega, fun _ => ?_⟩
      by_cases h1 : x / 2 = 0
      · have : x = 1 := by omega
        subst this
        rw [h1]
        have : Lib.bitLenAux f 0 = 0 := by cases f <;> simp [Lib.bitLenAux]
        rw [this]; simp
      · have := ih.2 h1; omega
/-- The number of places that y is moved to the left, and what that makes of it. -/
structure ShiftOf (y : Int) (s : Nat) : Prop where
  lo : 1 ≤ s
  hi : s ≤ 63
  up : 9223372036854775808 ≤ y * (2 : Int) ^ s
  lt : y * (2 : Int) ^ s ≤ 18446744073709551615
theorem pow_split {b : Nat} (h : b ≤ 64) : (2 : Nat) ^ b * 2 ^ (64 - b) = 18446744073709551616 := by
  rw [← Nat.pow_add, show b + (64 - b) = 64 by omega]
theorem shift_of {y : Int} (h1 : 1 ≤ y) (h2 : y ≤ 9223372036854775807) : ∃ s : Nat, (64 - (Lib.bitLen y.toNat : Int)) = (s : Int) ∧ ShiftOf y s := by
  obtain ⟨y, rfl⟩ := Int.eq_ofNat_of_zero_le (show 0 ≤ y by omega)
  have hs := bitLenAux_spec 64 y (by omega)
  have hu : Lib.bitLen y = Lib.bitLenAux 64 y := rfl
  rw [← hu] at hs
  simp only [Int.toNat_natCast]
  generalize Lib.bitLen y = b at hs
  obtain ⟨q1, q2⟩ := hs
  have q2 := q2 (by omega)
  have hb : b ≤ 63 := by
    rcases Nat.lt_or_ge b 64 with h | h
    · omega
    · have : 2 ^ 64 ≤ 2 ^ b := Nat.pow_le_pow_right (by omega) h
      omega
  have hb1 : 1 ≤ b := by
    rcases Nat.eq_zero_or_pos b with h | h
    · subst h; simp at q1; omega
    · exact h
  refine ⟨64 - b, by omega, ⟨by omega, by omega, ?_, ?_⟩⟩
  all_goals
    have hp := pow_split (b := b) (by omega)
    have e : ((y : Int) * (2 : Int) ^ (64 - b)) = ((y * 2 ^ (64 - b) : Nat) : Int) := by simp
    rw [e]
    generalize 2 ^ (64 - b) = c at hp
    generalize 2 ^ b = a at hp q1 q2
    have m1 : y * c + c ≤ a * c := by rw [← Nat.succ_mul]; exact Nat.mul_le_mul_right c (by omega)
    have m2 : a * c ≤ 2 * y * c := Nat.mul_le_mul_right c q2
    rw [Nat.mul_assoc] at m2
    have hc : 0 < c := by rcases Nat.eq_zero_or_pos c with h | h
                          · subst h; simp at hp
                          · exact h
    omega

section
variable {Y y1 y0 U u1 q r : Int}
/-- What a digit's loop keeps: q is not less than the digit. -/
structure Dig (Y y1 y0 U u1 q r : Int) : Prop where
  e : q * y1 + r = U
  g : (U * 4294967296 + u1) / Y ≤ q
  r0 : 0 ≤ r
  q0 : 0 ≤ q
  q2 : q ≤ 4294967297
/-- The parts of a divisor, and of a number that is less than it. -/
structure Dv (Y y1 y0 U u1 : Int) : Prop where
  y : Y = y1 * 4294967296 + y0
  a : 2147483648 ≤ y1
  a' : y1 ≤ 4294967295
  b : 0 ≤ y0
  b' : y0 ≤ 4294967295
  u : 0 ≤ U
  u' : U < Y
  v : 0 ≤ u1
  v' : u1 ≤ 4294967295
theorem Dv.pos (h : Dv Y y1 y0 U u1) : 0 < Y := by have := h.a; have := h.b; have := h.y; omega
theorem Dv.top (h : Dv Y y1 y0 U u1) : 0 ≤ (U * 4294967296 + u1) / Y ∧ (U * 4294967296 + u1) / Y ≤ 4294967295 := by
  have hp := h.pos
  have := h.u; have := h.u'; have := h.v; have := h.v'
  refine ⟨Int.ediv_nonneg (by omega) (by omega), ?_⟩
  have : (U * 4294967296 + u1) / Y < 4294967296 := Int.ediv_lt_of_lt_mul hp (by omega)
  omega
theorem Dv.prod (h : Dv Y y1 y0 U u1) (e : q * y1 + r = U) : q * Y = (U - r) * 4294967296 + q * y0 := by
  rw [h.y, Int.mul_add, ← Int.mul_assoc]; omega
theorem Dig.start (h : Dv Y y1 y0 U u1) : Dig Y y1 y0 U u1 (U / y1) (U - U / y1 * y1) := by
  have ha := h.a
  have hm := Int.emod_nonneg U (show y1 ≠ 0 by omega)
  have hm2 := Int.emod_lt_of_pos U (show 0 < y1 by omega)
  have hd := Int.mul_ediv_add_emod U y1
  rw [Int.mul_comm] at hd
  have hq : 0 ≤ U / y1 := Int.ediv_nonneg h.u (by omega)
  refine ⟨by omega, ?_, by omega, hq, ?_⟩
  · have hp := h.pos
    rw [← Int.lt_add_one_iff]
    refine Int.ediv_lt_of_lt_mul hp ?_
    have e := h.prod (q := U / y1 + 1) (r := U % y1 - y1) (by rw [Int.add_mul]; omega)
    rw [e]
    have := h.v'; have hb := h.b
    have : 0 ≤ (U / y1 + 1) * y0 := Int.mul_nonneg (by omega) hb
    omega
  · have hu := h.u'; have hy := h.y; have hb := h.b'; have hv := h.v'
    have : U / y1 < 4294967298 := Int.ediv_lt_of_lt_mul (by omega) (by omega)
    omega
theorem Dig.big (h : Dv Y y1 y0 U u1) (d : Dig Y y1 y0 U u1 q r) (hq : 4294967296 ≤ q ∨ 4294967296 * r + u1 < q * y0) : (U * 4294967296 + u1) / Y + 1 ≤ q := by
  have ht := h.top
  rcases hq with hq | hq
  · omega
  · have e := h.prod d.e
    have : (U * 4294967296 + u1) / Y < q := Int.ediv_lt_of_lt_mul h.pos (by omega)
    omega
theorem Dig.step (h : Dv Y y1 y0 U u1) (d : Dig Y y1 y0 U u1 q r) (hq : 4294967296 ≤ q ∨ 4294967296 * r + u1 < q * y0) : Dig Y y1 y0 U u1 (q - 1) (r + y1) := by
  have hb := d.big h hq
  have ht := h.top; have ha := h.a; have h0 := d.r0; have hq2 := d.q2; have he := d.e
  exact ⟨by rw [Int.sub_mul]; omega, by omega, by omega, by omega, by omega⟩
theorem Dig.fin1 (h : Dv Y y1 y0 U u1) (d : Dig Y y1 y0 U u1 q r) (hq : q * y0 ≤ 4294967296 * r + u1) : q = (U * 4294967296 + u1) / Y := by
  have e := h.prod d.e
  have : q ≤ (U * 4294967296 + u1) / Y := Int.le_ediv_of_mul_le h.pos (by omega)
  have := d.g; omega
theorem Dig.fin2 (h : Dv Y y1 y0 U u1) (d : Dig Y y1 y0 U u1 q r) (hq : q ≤ 4294967296) (hr : 4294967296 ≤ r) : q = (U * 4294967296 + u1) / Y := by
  refine d.fin1 h ?_
  have : q * y0 ≤ 4294967296 * 4294967295 := Int.mul_le_mul hq h.b' h.b (by omega)
  have := h.v
  omega
theorem Dv.rest (h : Dv Y y1 y0 U u1) : U * 4294967296 + u1 - (U * 4294967296 + u1) / Y * Y = (U * 4294967296 + u1) % Y := by
  have := Int.mul_ediv_add_emod (U * 4294967296 + u1) Y
  rw [Int.mul_comm] at this
  omega
end

/-- The two words, moved to the left. -/
theorem moved {hi lo : Int} {c e : Int} (hce : c * e = 18446744073709551616) (hc : 0 < c) (he : 0 < e) :
    (hi * c + lo / e) * 18446744073709551616 + (lo * c) % 18446744073709551616 = c * (hi * 18446744073709551616 + lo) := by
  have h1 : (lo * c) % 18446744073709551616 = (lo % e) * c := by
    rw [← hce, Int.mul_comm lo c, Int.mul_emod_mul_of_pos _ _ hc, Int.mul_comm]
  have h2 := Int.mul_ediv_add_emod lo e
  rw [h1]
  have h3 : lo / e * 18446744073709551616 = c * (e * (lo / e)) := by rw [← hce]; ac_rfl
  have h4 : hi * c * 18446744073709551616 = c * (hi * 18446744073709551616) := by rw [Int.mul_comm hi c, Int.mul_assoc]
  rw [Int.add_mul, h3, h4]
  have h5 : c * (hi * 18446744073709551616 + lo) = c * (hi * 18446744073709551616) + (c * (e * (lo / e)) + c * (lo % e)) := by
    rw [← Int.mul_add, ← Int.mul_add, h2]
  rw [h5, Int.mul_comm (lo % e) c]; omega
/-- Two digits make the quotient and the rest. -/
theorem two_digits {Y U u1 u0 : Int} (hY : 0 < Y) (h0 : 0 ≤ u0) :
    let N := (U * 4294967296 + u1) * 4294967296 + u0
    let v := (U * 4294967296 + u1) % Y
    (U * 4294967296 + u1) / Y * 4294967296 + (v * 4294967296 + u0) / Y = N / Y ∧ (v * 4294967296 + u0) % Y = N % Y := by
  intro N v
  have h1 := Int.mul_ediv_add_emod (U * 4294967296 + u1) Y
  have e : N = (v * 4294967296 + u0) + Y * ((U * 4294967296 + u1) / Y * 4294967296) := by
    show (U * 4294967296 + u1) * 4294967296 + u0 = ((U * 4294967296 + u1) % Y * 4294967296 + u0) + Y * ((U * 4294967296 + u1) / Y * 4294967296)
    rw [← Int.mul_assoc]; omega
  rw [e, Int.add_mul_ediv_left _ _ (by omega), Int.add_mul_emod_self_left]
  exact ⟨by omega, rfl⟩
theorem unmoved {N y c : Int} (hc : 0 < c) (hy : 0 < y) : (c * N) / (y * c) = N / y ∧ (c * N) % (y * c) = (N % y) * c := by
  rw [Int.mul_comm y c]
  exact ⟨Int.mul_ediv_mul_of_pos _ _ hc, by rw [Int.mul_emod_mul_of_pos _ _ hc, Int.mul_comm]⟩

theorem and32 {x : Int} (h : 0 ≤ x) (k : x ≤ 18446744073709551615) : Go.bits .and .u64 x 4294967295 = x % 4294967296 := by
  rw [u64_and x 4294967295 h (by omega) (by omega) (by omega)]
  obtain ⟨x, rfl⟩ := Int.eq_ofNat_of_zero_le h
  rw [show ((4294967295 : Int).toNat) = 2 ^ 32 - 1 from rfl, Int.toNat_natCast, Nat.and_two_pow_sub_one_eq_mod]
  omega
theorem or_join {a b : Int} {s : Nat} (ha : 0 ≤ a) (hb : 0 ≤ b) (hb' : b < (2 : Int) ^ s) (h : a * (2 : Int) ^ s + b ≤ 18446744073709551615) : Go.bits .or .u64 (a * (2 : Int) ^ s) b = a * (2 : Int) ^ s + b := by
  obtain ⟨a, rfl⟩ := Int.eq_ofNat_of_zero_le ha
  obtain ⟨b, rfl⟩ := Int.eq_ofNat_of_zero_le hb
  have e : ((a : Int) * (2 : Int) ^ s) = ((a * 2 ^ s : Nat) : Int) := by simp
  have hb2 : b < 2 ^ s := by exact_mod_cast hb'
  rw [e] at h ⊢
  rw [u64_or_nat _ _ (by omega) (by omega), nat_join s _ _ (Nat.mul_mod_left _ _) hb2]
  simp

/-- All that Div64 reckons before its loops. -/
structure DivW (hi lo y : Int) (s t : Nat) (Y U L : Int) : Prop where
  w1 : IntKind.u64.wrap (s : Int) = s
  m1 : min s 64 = s
  w2 : IntKind.u64.wrap (64 - (s : Int)) = (t : Int)
  m2 : min t 64 = t
  w3 : IntKind.u64.wrap (y * (2 : Int) ^ s) = Y
  w4 : Go.bits .or .u64 (IntKind.u64.wrap (hi * (2 : Int) ^ s)) (lo / (2 : Int) ^ t) = U
  w5 : IntKind.u64.wrap (lo * (2 : Int) ^ s) = L
  a1 : Go.bits .and .u64 Y 4294967295 = Y % 4294967296
  a2 : Go.bits .and .u64 L 4294967295 = L % 4294967296
  yl : 9223372036854775808 ≤ Y
  yh : Y ≤ 18446744073709551615
  ul : 0 ≤ U
  uh : U < Y
  ll : 0 ≤ L
  lh : L ≤ 18446744073709551615
  cp : 0 < (2 : Int) ^ s
  ye : Y = y * (2 : Int) ^ s
  nn : U * 18446744073709551616 + L = (2 : Int) ^ s * (hi * 18446744073709551616 + lo)
theorem divW {hi lo y : Int} {s : Nat} (hh : 0 ≤ hi) (hy : hi < y) (hl : 0 ≤ lo) (hl' : lo ≤ 18446744073709551615) (hS : ShiftOf y s) : ∃ t Y U L, DivW hi lo y s t Y U L := by
  have h1 := hS.lo; have h2 := hS.hi; have h3 := hS.up; have h4 := hS.lt
  have hp := pow_split (b := s) (by omega)
  have hc : (2 : Int) ^ s * (2 : Int) ^ (64 - s) = 18446744073709551616 := by
    have := congrArg (fun n : Nat => (n : Int)) hp
    simpa using this
  have c1 : 0 < (2 : Int) ^ s := Int.pow_pos (by omega)
  have c2 : 0 < (2 : Int) ^ (64 - s) := Int.pow_pos (by omega)
  have hm := moved (hi := hi) (lo := lo) hc c1 c2
  have hd0 : 0 ≤ lo / (2 : Int) ^ (64 - s) := Int.ediv_nonneg hl (by omega)
  have hd1 : lo / (2 : Int) ^ (64 - s) < (2 : Int) ^ s := Int.ediv_lt_of_lt_mul c2 (by omega)
  have hm1 : hi * (2 : Int) ^ s + (2 : Int) ^ s ≤ y * (2 : Int) ^ s := by
    have := Int.mul_le_mul_of_nonneg_right (show hi + 1 ≤ y by omega) (show 0 ≤ (2 : Int) ^ s by omega)
    rw [Int.add_mul] at this; omega
  have hm0 : 0 ≤ hi * (2 : Int) ^ s := Int.mul_nonneg hh (by omega)
  have hw : IntKind.u64.wrap (hi * (2 : Int) ^ s) = hi * (2 : Int) ^ s := by rw [IntKind.wrap_u64]; omega
  have ho := or_join (a := hi) (b := lo / (2 : Int) ^ (64 - s)) (s := s) hh hd0 hd1 (by omega)
  have hl2 : IntKind.u64.wrap (lo * (2 : Int) ^ s) = (lo * (2 : Int) ^ s) % 18446744073709551616 := by rw [IntKind.wrap_u64]
  refine ⟨64 - s, y * (2 : Int) ^ s, hi * (2 : Int) ^ s + lo / (2 : Int) ^ (64 - s), (lo * (2 : Int) ^ s) % 18446744073709551616, ⟨?_, ?_, ?_, ?_, ?_, ?_, hl2, ?_, ?_, h3, h4, ?_, ?_, ?_, ?_, c1, rfl, hm⟩⟩
  · rw [IntKind.wrap_u64]; omega
  · omega
  · rw [IntKind.wrap_u64]; omega
  · omega
  · rw [IntKind.wrap_u64]; omega
  · rw [hw, ho]
  · exact and32 (by omega) (by omega)
  · exact and32 (by omega) (by omega)
  · omega
  · omega
  · omega
  · omega
/-- A digit's loop begins. -/
structure Dig0 (y1 U : Int) (q r : Int) : Prop where
  w1 : IntKind.u64.wrap (U.tdiv y1) = q
  w2 : IntKind.u64.wrap (q * y1) = q * y1
  w3 : IntKind.u64.wrap (U - q * y1) = r
theorem dv_of {Y U u1 : Int} (h1 : 9223372036854775808 ≤ Y) (h2 : Y ≤ 18446744073709551615) (h3 : 0 ≤ U) (h4 : U < Y) (h5 : 0 ≤ u1) (h6 : u1 ≤ 4294967295) : Dv Y (Y / 4294967296) (Y % 4294967296) U u1 :=
  ⟨by omega, by omega, by omega, by omega, by omega, h3, h4, h5, h6⟩
theorem dig0 {Y y1 y0 U u1 : Int} (D : Dv Y y1 y0 U u1) (hY : Y ≤ 18446744073709551615) : ∃ q r, Dig0 y1 U q r ∧ Dig Y y1 y0 U u1 q r ∧ r ≤ 4294967295 := by
  have d := Dig.start D
  have ha := D.a; have hu := D.u; have hu' := D.u'; have ha' := D.a'
  have hm2 := Int.emod_lt_of_pos U (show 0 < y1 by omega)
  have hd := Int.mul_ediv_add_emod U y1
  rw [Int.mul_comm] at hd
  have hq0 := d.q0; have hq2 := d.q2; have hr := d.r0; have he := d.e
  have hp : 0 ≤ U / y1 * y1 := Int.mul_nonneg hq0 (by omega)
  refine ⟨_, _, ⟨?_, ?_, ?_⟩, d, by omega⟩
  · rw [Int.tdiv_eq_ediv_of_nonneg hu, IntKind.wrap_u64]; omega
  · rw [IntKind.wrap_u64]; omega
  · rw [IntKind.wrap_u64]; omega
theorem dig_wraps {Y y1 y0 U u1 q r : Int} (D : Dv Y y1 y0 U u1) (d : Dig Y y1 y0 U u1 q r) (hr : r ≤ 4294967295) (hq : q ≤ 4294967295) :
    IntKind.u64.wrap (q * y0) = q * y0 ∧ IntKind.u64.wrap (4294967296 * r) = 4294967296 * r ∧ IntKind.u64.wrap (4294967296 * r + u1) = 4294967296 * r + u1 := by
  have h0 := d.q0; have hb := D.b; have hb' := D.b'; have r0 := d.r0; have v := D.v; have v' := D.v'
  have m0 : 0 ≤ q * y0 := Int.mul_nonneg h0 hb
  have m1 : q * y0 ≤ 4294967295 * 4294967295 := Int.mul_le_mul hq hb' hb (by omega)
  refine ⟨?_, ?_, ?_⟩ <;> (rw [IntKind.wrap_u64]; omega)
/-- Behind the first digit. -/
theorem un21 {Y y1 y0 U u1 : Int} (D : Dv Y y1 y0 U u1) (hY : Y ≤ 18446744073709551615) :
    IntKind.u64.wrap (IntKind.u64.wrap (IntKind.u64.wrap (U * 4294967296) + u1) - IntKind.u64.wrap ((U * 4294967296 + u1) / Y * Y)) = (U * 4294967296 + u1) % Y := by
  have h := D.rest
  have m1 := Int.emod_nonneg (U * 4294967296 + u1) (show Y ≠ 0 by have := D.pos; omega)
  have m2 := Int.emod_lt_of_pos (U * 4294967296 + u1) D.pos
  generalize (U * 4294967296 + u1) % Y = v at *
  generalize (U * 4294967296 + u1) / Y * Y = p at *
  simp only [IntKind.wrap_u64]
  omega
/-- All that both digits' loops and the end want to know. -/
structure DivZ (hi lo y : Int) (s : Nat) (Y y1 y0 U u1 u0 : Int) (Q V Q2 R q2 r2 : Int) : Prop where
  D1 : Dv Y y1 y0 U u1
  D2 : Dv Y y1 y0 V u0
  q : (U * 4294967296 + u1) / Y = Q
  ql : 0 ≤ Q
  qh : Q ≤ 4294967295
  p : (V * 4294967296 + u0) / Y = Q2
  pl : 0 ≤ Q2
  ph : Q2 ≤ 4294967295
  w1 : IntKind.u64.wrap (IntKind.u64.wrap (IntKind.u64.wrap (U * 4294967296) + u1) - IntKind.u64.wrap (Q * Y)) = V
  w2 : IntKind.u64.wrap (IntKind.u64.wrap (IntKind.u64.wrap (V * 4294967296) + u0) - IntKind.u64.wrap (Q2 * Y)) = R
  z : Dig0 y1 V q2 r2
  d : Dig Y y1 y0 V u0 q2 r2
  r : r2 ≤ 4294967295
  quo : Q * 4294967296 + Q2 = (hi * 18446744073709551616 + lo) / y
  rem : R / (2 : Int) ^ s = (hi * 18446744073709551616 + lo) % y
theorem divZ {hi lo y : Int} {s t : Nat} {Y U L : Int} (h : DivW hi lo y s t Y U L) (hy : 0 < y) {y1 y0 u1 u0 : Int} (e1 : Y / 4294967296 = y1) (e2 : Y % 4294967296 = y0) (e3 : L / 4294967296 = u1) (e4 : L % 4294967296 = u0) :
    ∃ Q V Q2 R q2 r2, DivZ hi lo y s Y y1 y0 U u1 u0 Q V Q2 R q2 r2 := by
  have hl := h.ll; have hl' := h.lh
  have D1 : Dv Y y1 y0 U u1 := by rw [← e1, ← e2]; exact dv_of h.yl h.yh h.ul h.uh (by omega) (by omega)
  have hp := D1.pos
  have m1 := Int.emod_nonneg (U * 4294967296 + u1) (show Y ≠ 0 by omega)
  have m2 := Int.emod_lt_of_pos (U * 4294967296 + u1) hp
  have D2 : Dv Y y1 y0 ((U * 4294967296 + u1) % Y) u0 := ⟨D1.y, D1.a, D1.a', D1.b, D1.b', m1, m2, by omega, by omega⟩
  obtain ⟨q2, r2, z, d, r⟩ := dig0 D2 h.yh
  have t1 := D1.top; have t2 := D2.top
  have td := two_digits (Y := Y) (U := U) (u1 := u1) (u0 := u0) hp (by omega)
  have hn : (U * 4294967296 + u1) * 4294967296 + u0 = (2 : Int) ^ s * (hi * 18446744073709551616 + lo) := by
    rw [← h.nn]; omega
  have um := unmoved (N := hi * 18446744073709551616 + lo) h.cp hy
  simp only [hn, h.ye] at td
  rw [um.1, um.2] at td
  refine ⟨_, _, _, _, q2, r2, ⟨D1, D2, rfl, t1.1, t1.2, rfl, t2.1, t2.2, un21 D1 h.yh, un21 D2 h.yh, z, d, r, ?_, ?_⟩⟩
  · rw [h.ye]; exact td.1
  · rw [h.ye, td.2, Int.mul_ediv_cancel _ (by have := h.cp; omega)]
end Go.Proofs.Ytgcbmnohhbcfiaa

namespace Go.Proofs.Ytgcbmnohhbcfiaa
open Go.RowKit
set_option linter.unusedVariables false
set_option linter.unusedSimpArgs false

abbrev wV (x : Int) : Value := .agg #[.int .u64 (hi64 x), .int .u64 (lo64 x)]
abbrev wB (x : Int) : Obj := .cells #[.int .u64 (hi64 x), .int .u64 (lo64 x)] 133
theorem or32 {x y : Int} (hx : 0 ≤ x) (hx' : x ≤ 4294967295) (hy : 0 ≤ y) (hy' : y ≤ 4294967295) : Go.bits .or .u64 (x * 4294967296) y = x * 4294967296 + y := by
  have := or_join (a := x) (b := y) (s := 32) hx hy (by rw [show ((2 : Int) ^ 32) = 4294967296 from rfl]; omega) (by rw [show ((2 : Int) ^ 32) = 4294967296 from rfl]; omega)
  rwa [show ((2 : Int) ^ 32) = 4294967296 from rfl] at this
/-- What times reckons with. -/
structure TimesOk (a b a1 a0 b1 b0 p00 p10 p01 p11 : Int) : Prop where
  ea1 : a / 4294967296 = a1
  ea0 : Go.bits .and .u64 a 4294967295 = a0
  eb1 : b / 4294967296 = b1
  eb0 : Go.bits .and .u64 b 4294967295 = b0
  w00 : IntKind.u64.wrap (a0 * b0) = p00
  w10 : IntKind.u64.wrap (a1 * b0) = p10
  w01 : IntKind.u64.wrap (a0 * b1) = p01
  w11 : IntKind.u64.wrap (a1 * b1) = p11
  l00 : 0 ≤ p00
  l10 : 0 ≤ p10
  l01 : 0 ≤ p01
  l11 : 0 ≤ p11
  h00 : p00 ≤ 18446744065119617025
  h10 : p10 ≤ 18446744065119617025
  h01 : p01 ≤ 18446744065119617025
  h11 : p11 ≤ 18446744065119617025
  e : a * b = p11 * 18446744073709551616 + (p10 + p01) * 4294967296 + p00
theorem mulb {x y : Int} (hx : 0 ≤ x) (hx' : x ≤ 4294967295) (hy : 0 ≤ y) (hy' : y ≤ 4294967295) : 0 ≤ x * y ∧ x * y ≤ 18446744065119617025 ∧ IntKind.u64.wrap (x * y) = x * y := by
  have h1 := Int.mul_nonneg hx hy
  have h2 : x * y ≤ 4294967295 * 4294967295 := Int.mul_le_mul hx' hy' hy (by omega)
  refine ⟨h1, by omega, ?_⟩
  rw [IntKind.wrap_u64]; omega
theorem timesOk {a b : Int} (ha : 0 ≤ a) (ha' : a ≤ 18446744073709551615) (hb : 0 ≤ b) (hb' : b ≤ 18446744073709551615) : ∃ a1 a0 b1 b0 p00 p10 p01 p11, TimesOk a b a1 a0 b1 b0 p00 p10 p01 p11 := by
  have a1 : 0 ≤ a / 4294967296 ∧ a / 4294967296 ≤ 4294967295 := by omega
  have b1 : 0 ≤ b / 4294967296 ∧ b / 4294967296 ≤ 4294967295 := by omega
  have a0 : 0 ≤ a % 4294967296 ∧ a % 4294967296 ≤ 4294967295 := by omega
  have b0 : 0 ≤ b % 4294967296 ∧ b % 4294967296 ≤ 4294967295 := by omega
  have m00 := mulb a0.1 a0.2 b0.1 b0.2
  have m10 := mulb a1.1 a1.2 b0.1 b0.2
  have m01 := mulb a0.1 a0.2 b1.1 b1.2
  have m11 := mulb a1.1 a1.2 b1.1 b1.2
  refine ⟨_, _, _, _, _, _, _, _, ⟨rfl, and32 ha ha', rfl, and32 hb hb', m00.2.2, m10.2.2, m01.2.2, m11.2.2, m00.1, m10.1, m01.1, m11.1, m00.2.1, m10.2.1, m01.2.1, m11.2.1, ?_⟩⟩
  have ea : a = a / 4294967296 * 4294967296 + a % 4294967296 := by omega
  have eb : b = b / 4294967296 * 4294967296 + b % 4294967296 := by omega
  generalize a / 4294967296 = x at *
  generalize a % 4294967296 = y at *
  generalize b / 4294967296 = u at *
  generalize b % 4294967296 = v at *
  rw [ea, eb]
  grind
theorem TimesOk.fin {a b a1 a0 b1 b0 p00 p10 p01 p11 : Int} (h : TimesOk a b a1 a0 b1 b0 p00 p10 p01 p11) :
    Go.bits .and .u64 p10 4294967295 = p10 % 4294967296 ∧ Go.bits .and .u64 p00 4294967295 = p00 % 4294967296
    ∧ Go.bits .or .u64 (IntKind.u64.wrap ((p10 % 4294967296 + p01 + p00 / 4294967296) * 4294967296)) (p00 % 4294967296) = lo64 (a * b)
    ∧ p11 + p10 / 4294967296 + (p10 % 4294967296 + p01 + p00 / 4294967296) / 4294967296 = hi64 (a * b) := by
  have l00 := h.l00; have l10 := h.l10; have l01 := h.l01; have l11 := h.l11; have h00 := h.h00; have h10 := h.h10; have h01 := h.h01; have h11 := h.h11
  refine ⟨and32 l10 (by omega), and32 l00 (by omega), ?_, ?_⟩
  · have e : IntKind.u64.wrap ((p10 % 4294967296 + p01 + p00 / 4294967296) * 4294967296) = (p10 % 4294967296 + p01 + p00 / 4294967296) % 4294967296 * 4294967296 := by rw [IntKind.wrap_u64]; omega
    rw [e, or32 (by omega) (by omega) (by omega) (by omega), h.e]
    unfold lo64; omega
  · rw [h.e]; unfold hi64; omega
set_option maxRecDepth 100000 in
set_option maxHeartbeats 2000000 in
theorem times_any (a b : Int) (w : World) (ha : 0 ≤ a) (ha' : a ≤ 18446744073709551615) (hb : 0 ≤ b) (hb' : b ≤ 18446744073709551615) :
    Calls Try.prog 95 #[.int .u64 a, .int .u64 b] w fun e w' => e = .returned (wV (a * b)) ∧ Below w.heap.size w w' := by
  obtain ⟨a1, a0, b1, b0, p00, p10, p01, p11, T⟩ := timesOk ha ha' hb hb'
  obtain ⟨f1, f2, f3, f4⟩ := T.fin
  have e1 := T.ea1; have e2 := T.ea0; have e3 := T.eb1; have e4 := T.eb0
  have m1 := T.w00; have m2 := T.w10; have m3 := T.w01; have m4 := T.w11
  have l00 := T.l00; have l10 := T.l10; have l01 := T.l01; have l11 := T.l11; have h00 := T.h00; have h10 := T.h10; have h01 := T.h01; have h11 := T.h11
  have w1 : IntKind.u64.wrap (p10 % 4294967296 + p01) = p10 % 4294967296 + p01 := IntWalk.u64_in _ (by omega)
  have w2 : IntKind.u64.wrap (p10 % 4294967296 + p01 + p00 / 4294967296) = p10 % 4294967296 + p01 + p00 / 4294967296 := IntWalk.u64_in _ (by omega)
  have hb := hi64_bd (x := a * b) (by rw [T.e]; omega) (by rw [T.e]; omega)
  have w3 : IntKind.u64.wrap (p11 + p10 / 4294967296) = p11 + p10 / 4294967296 := IntWalk.u64_in _ (by omega)
  have w4 : IntKind.u64.wrap (p11 + p10 / 4294967296 + (p10 % 4294967296 + p01 + p00 / 4294967296) / 4294967296) = hi64 (a * b) := (IntWalk.u64_in _ (by omega)).trans f4
  clear T f4 hb
  unfold wV
  generalize hi64 (a * b) = H at *
  generalize lo64 (a * b) = L at *
  go_enter Try.func95, Try.ntmps95
  go_wp2_with fail
  exact bodyPost_ret (v := .agg #[.int .u64 H, .int .u64 L]) (by simp [results, Try.results95, go_sem]) rfl ⟨rfl, (Below.refl _ _).alloc (Nat.le_refl _) _⟩

theorem two_lt_ {X Y : Int} (h : X < Y) : hi64 X < hi64 Y ∨ (hi64 X = hi64 Y ∧ lo64 X < lo64 Y) := by unfold hi64 lo64; omega
theorem two_ge_ {X Y : Int} (h : ¬ X < Y) : hi64 Y < hi64 X ∨ (hi64 X = hi64 Y ∧ ¬ lo64 X < lo64 Y) := by unfold hi64 lo64; omega

set_option maxRecDepth 100000 in
set_option maxHeartbeats 2000000 in
theorem fless_any (x y : Int) (w : World) :
    Calls Try.prog 96 #[wV x, wV y] w fun e w' => e = .returned (.bool (decide (x < y))) ∧ Below w.heap.size w w' := by
  have hB : Below w.heap.size w ((w.alloc (wB x)).alloc (wB y)) := (one_alloc w _).alloc (by simp) _
  by_cases h : x < y
  · have hq : decide (x < y) = true := by simpa using h
    rw [hq]
    have h2 := two_lt_ h
    clear hq h
    unfold wV
    rcases h2 with k1 | ⟨k1, k2⟩
    · have t1 : decide (hi64 x < hi64 y) = true := by simpa using k1
      clear k1
      go_enter Try.func96, Try.ntmps96
      go_wp2_with fail
      go_ret
      exact ⟨rfl, hB⟩
    · have t1 : decide (hi64 x < hi64 y) = false := by simp; omega
      have t2 : (hi64 x == hi64 y) = true := by simpa using k1
      have t3 : decide (lo64 x < lo64 y) = true := by simpa using k2
      clear k1 k2
      go_enter Try.func96, Try.ntmps96
      go_wp2_with fail
      go_ret
      exact ⟨rfl, hB⟩
  · have hq : decide (x < y) = false := by simpa using h
    rw [hq]
    have h2 := two_ge_ h
    clear hq h
    unfold wV
    rcases h2 with k1 | ⟨k1, k2⟩
    · have t1 : decide (hi64 x < hi64 y) = false := by simp; omega
      have t2 : (hi64 x == hi64 y) = false := by simp; omega
      clear k1
      go_enter Try.func96, Try.ntmps96
      go_wp2_with fail
      go_ret
      exact ⟨rfl, hB⟩
    · have t1 : decide (hi64 x < hi64 y) = false := by simp; omega
      have t2 : (hi64 x == hi64 y) = true := by simpa using k1
      have t3 : decide (lo64 x < lo64 y) = false := by simpa using k2
      clear k1 k2
      go_enter Try.func96, Try.ntmps96
      go_wp2_with fail
      go_ret
      exact ⟨rfl, hB⟩

set_option maxRecDepth 100000 in
set_option maxHeartbeats 2000000 in
theorem plus_any (x y : Int) (w : World) (hx : 0 ≤ x) (hy : 0 ≤ y) (h : x + y < 340282366920938463463374607431768211456) :
    Calls Try.prog 137 #[wV x, wV y] w fun e w' => e = .returned (wV (x + y)) ∧ Below w.heap.size w w' := by
  have hB : Below w.heap.size w (((w.alloc (wB x)).alloc (wB y)).alloc (wB (x + y))) := ((one_alloc w _).alloc (by simp) _).alloc (by simp; omega) _
  have lx := lo64_bd x; have ly := lo64_bd y
  have hx1 := hi64_bd hx (by omega); have hy1 := hi64_bd hy (by omega)
  have w1 : IntKind.u64.wrap (lo64 x + lo64 y) = lo64 (x + y) := by rw [IntKind.wrap_u64]; unfold lo64; omega
  unfold wV
  unfold wB at hB
  by_cases k : lo64 (x + y) < lo64 x
  · have q : decide (lo64 (x + y) < lo64 x) = true := by simpa using k
    have w2 : IntKind.u64.wrap (hi64 x + hi64 y) = hi64 x + hi64 y := IntWalk.u64_in _ (by unfold lo64 at k; unfold hi64; omega)
    have w3 : IntKind.u64.wrap (hi64 x + hi64 y + 1) = hi64 (x + y) := by rw [IntKind.wrap_u64]; unfold lo64 at k; unfold hi64; omega
    clear k lx ly hx1 hy1
    generalize hi64 (x + y) = H at *
    generalize lo64 (x + y) = L at *
    go_enter Try.func137, Try.ntmps137
    go_wp2_with fail
    exact bodyPost_ret (v := .agg #[.int .u64 H, .int .u64 L]) (by simp [results, Try.results137, go_sem]) rfl ⟨rfl, hB⟩
  · have q : decide (lo64 (x + y) < lo64 x) = false := by simpa using k
    have w2 : IntKind.u64.wrap (hi64 x + hi64 y) = hi64 (x + y) := by rw [IntKind.wrap_u64]; unfold lo64 at k; unfold hi64; omega
    clear k lx ly hx1 hy1
    generalize hi64 (x + y) = H at *
    generalize lo64 (x + y) = L at *
    go_enter Try.func137, Try.ntmps137
    go_wp2_with fail
    exact bodyPost_ret (v := .agg #[.int .u64 H, .int .u64 L]) (by simp [results, Try.results137, go_sem]) rfl ⟨rfl, hB⟩

/-- The upper word that minus returns, whatever the numbers are. -/
def mHi (x y : Int) : Int := if lo64 x < lo64 y then IntKind.u64.wrap (IntKind.u64.wrap (hi64 x - hi64 y) - 1) else IntKind.u64.wrap (hi64 x - hi64 y)
theorem mHi_ok {x y : Int} (hy : 0 ≤ y) (hxy : y ≤ x) (h : x < 340282366920938463463374607431768211456) : mHi x y = hi64 (x - y) := by
  unfold mHi
  split
  · rename_i k
    have w2 : IntKind.u64.wrap (hi64 x - hi64 y) = hi64 x - hi64 y := IntWalk.u64_in _ (by unfold lo64 at k; unfold hi64; omega)
    rw [w2, IntKind.wrap_u64]; unfold lo64 at k; unfold hi64; omega
  · rename_i k
    rw [IntKind.wrap_u64]; unfold lo64 at k; unfold hi64; omega
set_option maxRecDepth 100000 in
set_option maxHeartbeats 2000000 in
theorem minus_raw (x y : Int) (w : World) :
    Calls Try.prog 138 #[wV x, wV y] w fun e w' => e = .returned (.agg #[.int .u64 (mHi x y), .int .u64 (lo64 (x - y))]) ∧ Below w.heap.size w w' := by
  have hB : ∀ o, Below w.heap.size w (((w.alloc (wB x)).alloc (wB y)).alloc o) := fun o => ((one_alloc w _).alloc (by simp) _).alloc (by simp; omega) _
  have w1 : IntKind.u64.wrap (lo64 x - lo64 y) = lo64 (x - y) := by rw [IntKind.wrap_u64]; unfold lo64; omega
  unfold wV
  unfold wB at hB
  by_cases k : lo64 x < lo64 y
  · have q : decide (lo64 x < lo64 y) = true := by simpa using k
    have w3 : IntKind.u64.wrap (IntKind.u64.wrap (hi64 x - hi64 y) - 1) = mHi x y := by unfold mHi; rw [if_pos k]
    clear k
    generalize hD : IntKind.u64.wrap (hi64 x - hi64 y) = D at *
    generalize mHi x y = H at *
    generalize lo64 (x - y) = L at *
    go_enter Try.func138, Try.ntmps138
    go_wp2_with fail
    exact bodyPost_ret (v := .agg #[.int .u64 H, .int .u64 L]) (by simp [results, Try.results138, go_sem]) rfl ⟨rfl, hB _⟩
  · have q : decide (lo64 x < lo64 y) = false := by simpa using k
    have w2 : IntKind.u64.wrap (hi64 x - hi64 y) = mHi x y := by unfold mHi; rw [if_neg k]
    clear k
    generalize mHi x y = H at *
    generalize lo64 (x - y) = L at *
    go_enter Try.func138, Try.ntmps138
    go_wp2_with fail
    exact bodyPost_ret (v := .agg #[.int .u64 H, .int .u64 L]) (by simp [results, Try.results138, go_sem]) rfl ⟨rfl, hB _⟩
theorem minus_any (x y : Int) (w : World) (hy : 0 ≤ y) (hxy : y ≤ x) (h : x < 340282366920938463463374607431768211456) :
    Calls Try.prog 138 #[wV x, wV y] w fun e w' => e = .returned (wV (x - y)) ∧ Below w.heap.size w w' := by
  have h1 := minus_raw x y w
  rw [mHi_ok hy hxy h] at h1
  exact h1

theorem neg_any (a : Rt) (w : World) (h0 : -9223372036854775807 ≤ a.n) (h1 : a.n ≤ 9223372036854775807) :
    Calls Try.prog 140 #[rV a] w fun e w' => e = .returned (rV a.neg) ∧ Below w.heap.size w w' := by
  obtain ⟨n, d⟩ := a
  simp only at h0 h1
  have w1 : IntKind.i64.wrap (-n) = -n := IntWalk.i64_in _ (by omega)
  unfold rV Rt.neg
  simp only
  go_enter Try.func140, Try.ntmps140
  go_wp2_with fail
  exact bodyPost_ret (v := .agg #[.int .i64 (-n), .int .i64 d]) (by simp [results, Try.results140, go_sem]) rfl ⟨rfl, ((Below.refl _ _).alloc (Nat.le_refl _) _).alloc (by simp) _⟩
theorem of_any (n : Int) (w : World) : Calls Try.prog 73 #[.int .i64 n] w fun e w' => e = .returned (rV ⟨n, 1⟩) ∧ Below w.heap.size w w' := by
  unfold rV
  go_enter Try.func73, Try.ntmps73
  go_wp2_with fail
  exact bodyPost_ret (v := .agg #[.int .i64 n, .int .i64 1]) (by simp [results, Try.results73, go_sem]) rfl ⟨rfl, (Below.refl _ _).alloc (Nat.le_refl _) _⟩

/-- What 'made' does, of two numbers of two words. -/
theorem max_parts {n d : Int} (hn : 0 ≤ n) (hd : 0 ≤ d) : (1000000000000000000 < maxI n d) ↔ (0 < hi64 n ∨ 0 < hi64 d ∨ 1000000000000000000 < lo64 n ∨ 1000000000000000000 < lo64 d) := by
  unfold maxI hi64 lo64; split <;> omega

set_option maxRecDepth 100000 in
set_option maxHeartbeats 4000000 in
theorem made_any (m : Bool) (n d : Int) (w : World) (hn : 0 ≤ n) (hd : 0 ≤ d) :
    Calls Try.prog 119 #[.bool m, wV n, wV d] w fun e w' => e = .returned (.tuple #[rV (signR m n d), .int .i64 (signC n d)]) ∧ Below w.heap.size w w' := by
  have hB : ∀ o, Below w.heap.size w (((w.alloc (wB n)).alloc (wB d)).alloc o) := fun o => ((one_alloc w _).alloc (by simp) _).alloc (by simp; omega) _
  have hB2 : ∀ o o', Below w.heap.size w ((((w.alloc (wB n)).alloc (wB d)).alloc o).alloc o') := fun o o' => (hB o).alloc (by simp; omega) _
  unfold wB at hB hB2
  have hi0 : 0 ≤ hi64 n := by unfold hi64; omega
  have hj0 : 0 ≤ hi64 d := by unfold hi64; omega
  by_cases q : 1000000000000000000 < maxI n d
  · have HR := Lib.hid (show signR m n d = ⟨0, 0⟩ by unfold signR; rw [if_pos q])
    have HC := Lib.hid (show signC n d = 16 by unfold signC; rw [if_pos q])
    rw [HR.out, HC.out]
    have q' := (max_parts hn hd).1 q
    clear q HR HC
    unfold wV
    by_cases k1 : 0 < hi64 n
    · have t1 : decide (0 < hi64 n) = true := by simpa using k1
      clear q' k1
      go_enter Try.func119, Try.ntmps119
      go_wp2_with fail
      exact bodyPost_ret (v := .tuple #[.agg #[.int .i64 0, .int .i64 0], .int .i64 16]) (by simp [results, Try.results119, go_sem]) rfl ⟨rfl, hB _⟩
    have t1 : decide (0 < hi64 n) = false := by simpa using k1
    by_cases k2 : 0 < hi64 d
    · have t2 : decide (0 < hi64 d) = true := by simpa using k2
      clear q' k1 k2
      go_enter Try.func119, Try.ntmps119
      go_wp2_with fail
      exact bodyPost_ret (v := .tuple #[.agg #[.int .i64 0, .int .i64 0], .int .i64 16]) (by simp [results, Try.results119, go_sem]) rfl ⟨rfl, hB _⟩
    have t2 : decide (0 < hi64 d) = false := by simpa using k2
    by_cases k3 : 1000000000000000000 < lo64 n
    · have t3 : decide (1000000000000000000 < lo64 n) = true := by simpa using k3
      clear q' k1 k2 k3
      go_enter Try.func119, Try.ntmps119
      go_wp2_with fail
      exact bodyPost_ret (v := .tuple #[.agg #[.int .i64 0, .int .i64 0], .int .i64 16]) (by simp [results, Try.results119, go_sem]) rfl ⟨rfl, hB _⟩
    have t3 : decide (1000000000000000000 < lo64 n) = false := by simpa using k3
    have t4 : decide (1000000000000000000 < lo64 d) = true := by simp; omega
    clear q' k1 k2 k3
    go_enter Try.func119, Try.ntmps119
    go_wp2_with fail
    exact bodyPost_ret (v := .tuple #[.agg #[.int .i64 0, .int .i64 0], .int .i64 16]) (by simp [results, Try.results119, go_sem]) rfl ⟨rfl, hB _⟩
  · have HC := Lib.hid (show signC n d = 0 by unfold signC; rw [if_neg q])
    have q' := fun h => q ((max_parts hn hd).2 h)
    have b1 : n ≤ 1000000000000000000 ∧ d ≤ 1000000000000000000 := by unfold maxI at q; split at q <;> omega
    have e1 : hi64 n = 0 := by unfold hi64; omega
    have e2 : hi64 d = 0 := by unfold hi64; omega
    have e3 : lo64 n = n := by unfold lo64; omega
    have e4 : lo64 d = d := by unfold lo64; omega
    have HSR : signR m n d = if m then ⟨-n, d⟩ else ⟨n, d⟩ := by unfold signR; rw [if_neg q]
    rw [HC.out, HSR]
    unfold wV
    rw [e1, e2, e3, e4]
    rw [e1, e2, e3, e4] at hB hB2
    have t1 : decide (1000000000000000000 < n) = false := by simp; omega
    have t2 : decide (1000000000000000000 < d) = false := by simp; omega
    have w1 : IntKind.i64.wrap n = n := IntWalk.i64_in _ (by omega)
    have w2 : IntKind.i64.wrap d = d := IntWalk.i64_in _ (by omega)
    have w3 : IntKind.i64.wrap (-n) = -n := IntWalk.i64_in _ (by omega)
    clear q q' e1 e2 e3 e4 HSR b1 hi0 hj0
    cases m
    · go_enter Try.func119, Try.ntmps119
      go_wp2_with fail
      exact bodyPost_ret (v := .tuple #[.agg #[.int .i64 n, .int .i64 d], .int .i64 0]) (by simp [results, Try.results119, go_sem]) rfl ⟨rfl, hB2 _ _⟩
    · go_enter Try.func119, Try.ntmps119
      go_wp2_with fail
      exact bodyPost_ret (v := .tuple #[.agg #[.int .i64 (-n), .int .i64 d], .int .i64 0]) (by simp [results, Try.results119, go_sem]) rfl ⟨rfl, hB2 _ _⟩
end Go.Proofs.Ytgcbmnohhbcfiaa
