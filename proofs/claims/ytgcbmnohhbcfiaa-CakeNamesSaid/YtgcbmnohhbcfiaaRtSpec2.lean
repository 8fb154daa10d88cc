/- What Sub, Mul, Div and Cmp of package ratio reckon: no program in sight. -/
import Derived.Test.YtgcbmnohhbcfiaaRtSpec
namespace Go.Proofs.Ytgcbmnohhbcfiaa
set_option linter.unusedVariables false
set_option linter.unusedSimpArgs false

theorem code2_left {a b : Rt} (h : a.code ≠ 0) : code2 a b = a.code := by unfold code2; rw [if_pos h]
/-- The opposite. -/
def Rt.neg (a : Rt) : Rt := ⟨-a.n, a.d⟩
theorem Rt.neg_ok {a : Rt} (h : a.Ok) : a.neg.Ok := by
  refine ⟨by have := h.n1; unfold neg; simp; omega, by have := h.n0; unfold neg; simp; omega, h.d0, h.d1, ?_⟩
  have := h.g
  unfold gcdI at *; unfold neg; simp only [Int.gcd_neg, Int.neg_gcd]; exact this
theorem Rt.neg_q (a : Rt) : a.neg.q = -a.q := by unfold Rt.q Rt.neg; rw [Rat.neg_divInt]
def subR (a b : Rt) : Rt := if code2 a b = 0 then mkR (a.q - b.q) else ⟨0, 0⟩
def subC (a b : Rt) : Int := if code2 a b = 0 then mkC (a.q - b.q) else code2 a b
theorem sub_bad {a b : Rt} (h : code2 a b ≠ 0) : subR a b = ⟨0, 0⟩ ∧ subC a b = code2 a b := by unfold subR subC; rw [if_neg h, if_neg h]; exact ⟨rfl, rfl⟩
theorem sub_ok {a b : Rt} (h : code2 a b = 0) : subR a b = mkR (a.q - b.q) ∧ subC a b = mkC (a.q - b.q) := by unfold subR subC; rw [if_pos h, if_pos h]; exact ⟨rfl, rfl⟩
theorem sub_add {a b : Rt} (h : code2 a b = 0) : addR a b.neg = subR a b ∧ addC a b.neg = subC a b := by
  obtain ⟨ha, hb⟩ := ok_code2 h
  rw [(sub_ok h).1, (sub_ok h).2, (add_ok (code2_ok ha (Rt.neg_ok hb))).1, (add_ok (code2_ok ha (Rt.neg_ok hb))).2, Rt.neg_q, Rat.sub_eq_add_neg]
  exact ⟨rfl, rfl⟩

/-- The product, with all that is common taken out. -/
structure ProdOf (a b : Rt) (g h : Int) (N D : Int) : Prop where
  g0 : 0 < g
  h0 : 0 < h
  gd : g ≤ b.d
  hd : h ≤ a.d
  n0 : 0 ≤ N
  d0 : 0 < D
  u0 : 0 ≤ absI a.n / g
  u1 : absI a.n / g ≤ 1000000000000000000
  v0 : 0 ≤ absI b.n / h
  v1 : absI b.n / h ≤ 1000000000000000000
  x0 : 0 ≤ a.d / h
  x1 : a.d / h ≤ 1000000000000000000
  y0 : 0 ≤ b.d / g
  y1 : b.d / g ≤ 1000000000000000000
  n : N = absI a.n / g * (absI b.n / h)
  d : D = a.d / h * (b.d / g)
  cop : Int.gcd (if (decide (0 < N) && (decide (a.n < 0) != decide (b.n < 0))) then -N else N) D = 1
  eq : a.q * b.q = Rat.divInt (if (decide (0 < N) && (decide (a.n < 0) != decide (b.n < 0))) then -N else N) D
theorem mul_abs (x y : Int) : x * y = if (decide (x < 0) != decide (y < 0)) then -(absI x * absI y) else absI x * absI y := by
  by_cases hx : x < 0 <;> by_cases hy : y < 0
  · simp [hx, hy, absI_neg hx, absI_neg hy, Int.neg_mul, Int.mul_neg]
  · simp [hx, hy, absI_neg hx, absI_pos (show 0 ≤ y by omega), Int.neg_mul]
  · simp [hx, hy, absI_pos (show 0 ≤ x by omega), absI_neg hy, Int.mul_neg]
  · simp [hx, hy, absI_pos (show 0 ≤ x by omega), absI_pos (show 0 ≤ y by omega)]
theorem gcd_abs (x y : Int) : Int.gcd (absI x) y = Int.gcd x y := by unfold absI Int.gcd; simp
theorem prodOf {a b : Rt} (ha : a.Ok) (hb : b.Ok) : ProdOf a b (gcdI a.n b.d) (gcdI b.n a.d) (absI a.n / gcdI a.n b.d * (absI b.n / gcdI b.n a.d)) (a.d / gcdI b.n a.d * (b.d / gcdI a.n b.d)) := by
  have d1 := ha.d0; have d2 := hb.d0
  have c1 := ha.cop; have c2 := hb.cop
  have an0 := absI_nonneg a.n; have bn0 := absI_nonneg b.n
  have an1 : absI a.n ≤ 1000000000000000000 := by have := ha.n0; have := ha.n1; unfold absI; omega
  have bn1 : absI b.n ≤ 1000000000000000000 := by have := hb.n0; have := hb.n1; unfold absI; omega
  have hg := gcdI_pos (a := a.n) (b := b.d) (by omega)
  have hh := gcdI_pos (a := b.n) (b := a.d) (by omega)
  have gl := gcdI_le (a := a.n) (b := b.d) (by omega)
  have hl := gcdI_le (a := b.n) (b := a.d) (by omega)
  have qg : Int.gcd (absI a.n / gcdI a.n b.d) (b.d / gcdI a.n b.d) = 1 := by
    have := gcd_quot (x := absI a.n) (y := b.d) (by rw [gcd_abs]; unfold gcdI at hg; omega)
    rw [gcd_abs] at this; exact this
  have qh : Int.gcd (absI b.n / gcdI b.n a.d) (a.d / gcdI b.n a.d) = 1 := by
    have := gcd_quot (x := absI b.n) (y := a.d) (by rw [gcd_abs]; unfold gcdI at hh; omega)
    rw [gcd_abs] at this; exact this
  have e1 : gcdI a.n b.d ∣ absI a.n := by
    have := Int.gcd_dvd_left (absI a.n) b.d; rw [gcd_abs] at this; exact this
  have e2 : gcdI a.n b.d ∣ b.d := Int.gcd_dvd_right a.n b.d
  have e3 : gcdI b.n a.d ∣ absI b.n := by
    have := Int.gcd_dvd_left (absI b.n) a.d; rw [gcd_abs] at this; exact this
  have e4 : gcdI b.n a.d ∣ a.d := Int.gcd_dvd_right b.n a.d
  have f1 := Int.mul_ediv_cancel' e1
  have f2 := Int.mul_ediv_cancel' e2
  have f3 := Int.mul_ediv_cancel' e3
  have f4 := Int.mul_ediv_cancel' e4
  have y0 : 0 < b.d / gcdI a.n b.d := Int.ediv_pos_of_pos_of_dvd (by omega) (by omega) e2
  have x0 : 0 < a.d / gcdI b.n a.d := Int.ediv_pos_of_pos_of_dvd (by omega) (by omega) e4
  have u0 : 0 ≤ absI a.n / gcdI a.n b.d := Int.ediv_nonneg an0 (by omega)
  have v0 : 0 ≤ absI b.n / gcdI b.n a.d := Int.ediv_nonneg bn0 (by omega)
  have ul : absI a.n / gcdI a.n b.d ≤ absI a.n := Int.ediv_le_self _ an0
  have vl : absI b.n / gcdI b.n a.d ≤ absI b.n := Int.ediv_le_self _ bn0
  have xl : a.d / gcdI b.n a.d ≤ a.d := Int.ediv_le_self _ (by omega)
  have yl : b.d / gcdI a.n b.d ≤ b.d := Int.ediv_le_self _ (by omega)
  have hcop : Int.gcd (absI a.n / gcdI a.n b.d * (absI b.n / gcdI b.n a.d)) (a.d / gcdI b.n a.d * (b.d / gcdI a.n b.d)) = 1 := by
    have k1 : Int.gcd (absI a.n / gcdI a.n b.d) (a.d / gcdI b.n a.d) = 1 := by
      have h1 : Int.gcd (absI a.n / gcdI a.n b.d) a.d = 1 := gcd_dvd_one (by rw [gcd_abs]; exact c1) ⟨gcdI a.n b.d, by rw [Int.mul_comm]; exact f1.symm⟩
      rw [Int.gcd_comm] at h1 ⊢
      exact gcd_dvd_one h1 ⟨gcdI b.n a.d, by rw [Int.mul_comm]; exact f4.symm⟩
    have k2 : Int.gcd (absI b.n / gcdI b.n a.d) (b.d / gcdI a.n b.d) = 1 := by
      have h1 : Int.gcd (absI b.n / gcdI b.n a.d) b.d = 1 := gcd_dvd_one (by rw [gcd_abs]; exact c2) ⟨gcdI b.n a.d, by rw [Int.mul_comm]; exact f3.symm⟩
      rw [Int.gcd_comm] at h1 ⊢
      exact gcd_dvd_one h1 ⟨gcdI a.n b.d, by rw [Int.mul_comm]; exact f2.symm⟩
    have m1 := gcd_mul_one k1 qg
    have m2 := gcd_mul_one qh k2
    rw [Int.gcd_comm] at m1 m2 ⊢
    exact gcd_mul_one m1 m2
  have hmul := mul_abs a.n b.n
  generalize hgg : gcdI a.n b.d = g at *
  generalize hhh : gcdI b.n a.d = h at *
  generalize hu : absI a.n / g = u at *
  generalize hv : absI b.n / h = v at *
  generalize hx : a.d / h = x at *
  generalize hy : b.d / g = y at *
  have hN : 0 ≤ u * v := Int.mul_nonneg u0 v0
  have hD : 0 < x * y := Int.mul_pos x0 y0
  refine ⟨hg, hh, gl, hl, hN, hD, by omega, by omega, by omega, by omega, by omega, by have := ha.d1; omega, by omega, by have := hb.d1; omega, by rw [hu, hv], by rw [hx, hy], ?_, ?_⟩
  · split
    · rw [Int.neg_gcd]; exact hcop
    · exact hcop
  · unfold Rt.q
    have hs : a.n * b.n = g * h * (if (decide (0 < u * v) && (decide (a.n < 0) != decide (b.n < 0))) then -(u * v) else u * v) := by
      have hp : absI a.n * absI b.n = g * h * (u * v) := by rw [← f1, ← f3]; ac_rfl
      rw [hmul, hp]
      by_cases k : 0 < u * v
      · simp only [k, decide_true, Bool.true_and]
        split
        · rw [Int.mul_neg]
        · rfl
      · have : u * v = 0 := by omega
        rw [this]; simp
    rw [Rat.divInt_mul_divInt, hs, Rat.divInt_eq_divInt_iff (Int.mul_ne_zero (by omega) (by omega)) (by omega)]
    generalize (if (decide (0 < u * v) && (decide (a.n < 0) != decide (b.n < 0))) then -(u * v) else u * v) = z
    rw [← f2, ← f4]
    ac_rfl
def mulR (a b : Rt) : Rt := if code2 a b = 0 then mkR (a.q * b.q) else ⟨0, 0⟩
def mulC (a b : Rt) : Int := if code2 a b = 0 then mkC (a.q * b.q) else code2 a b
theorem mul_bad {a b : Rt} (h : code2 a b ≠ 0) : mulR a b = ⟨0, 0⟩ ∧ mulC a b = code2 a b := by unfold mulR mulC; rw [if_neg h, if_neg h]; exact ⟨rfl, rfl⟩
theorem mul_ok {a b : Rt} (h : code2 a b = 0) : mulR a b = mkR (a.q * b.q) ∧ mulC a b = mkC (a.q * b.q) := by unfold mulR mulC; rw [if_pos h, if_pos h]; exact ⟨rfl, rfl⟩
section
variable {a b : Rt} {g h N D : Int}
theorem ProdOf.big (s : ProdOf a b g h N D) (hb : 1000000000000000000 < N ∨ 1000000000000000000 < D) : mkR (a.q * b.q) = ⟨0, 0⟩ ∧ mkC (a.q * b.q) = 16 := by
  rw [s.eq]
  refine mkR_pair_out s.d0 s.cop ?_
  rintro ⟨h1, h2, h3⟩
  have := s.n0
  generalize (decide (0 < N) && (decide (a.n < 0) != decide (b.n < 0))) = e at h1 h2
  cases e <;> simp at h1 h2 <;> omega
theorem ProdOf.fin (s : ProdOf a b g h N D) : (if 1000000000000000000 < maxI N D then (⟨0, 0⟩ : Rt) else if (decide (0 < N) && (decide (a.n < 0) != decide (b.n < 0))) then ⟨-N, D⟩ else ⟨N, D⟩) = mkR (a.q * b.q)
    ∧ (if 1000000000000000000 < maxI N D then (16 : Int) else 0) = mkC (a.q * b.q) := by
  rw [s.eq]
  exact sign_mk s.n0 s.d0 rfl s.cop
end

/-- One divided by a ratio that is not 0. -/
def Rt.inv (b : Rt) : Rt := if b.n < 0 then ⟨-b.d, -b.n⟩ else ⟨b.d, b.n⟩
theorem Rt.inv_ok {b : Rt} (h : b.Ok) (h0 : b.n ≠ 0) : b.inv.Ok := by
  have g := h.g
  have := h.n0; have := h.n1; have := h.d0; have := h.d1
  unfold Rt.inv
  split
  · refine ⟨by simp; omega, by simp; omega, by simp; omega, by simp; omega, ?_⟩
    unfold gcdI at *; simp only [Int.gcd_neg, Int.neg_gcd]; rw [Int.gcd_comm]; exact g
  · refine ⟨by simp; omega, by simp; omega, by simp; omega, by simp; omega, ?_⟩
    unfold gcdI at *; rw [Int.gcd_comm]; exact g
theorem Rt.inv_q {b : Rt} : b.inv.q = b.q⁻¹ := by
  unfold Rt.q Rt.inv
  rw [Rat.inv_divInt]
  split
  · simp only; rw [Rat.neg_divInt_neg]
  · rfl
def divR (a b : Rt) : Rt := if code2 a b = 0 then (if b.n = 0 then ⟨0, 0⟩ else mkR (a.q / b.q)) else ⟨0, 0⟩
def divC (a b : Rt) : Int := if code2 a b = 0 then (if b.n = 0 then 18 else mkC (a.q / b.q)) else code2 a b
theorem div_bad {a b : Rt} (h : code2 a b ≠ 0) : divR a b = ⟨0, 0⟩ ∧ divC a b = code2 a b := by unfold divR divC; rw [if_neg h, if_neg h]; exact ⟨rfl, rfl⟩
theorem div_zero {a b : Rt} (h : code2 a b = 0) (k : b.n = 0) : divR a b = ⟨0, 0⟩ ∧ divC a b = 18 := by unfold divR divC; rw [if_pos h, if_pos h, if_pos k, if_pos k]; exact ⟨rfl, rfl⟩
theorem div_ok {a b : Rt} (h : code2 a b = 0) (k : b.n ≠ 0) : divR a b = mkR (a.q / b.q) ∧ divC a b = mkC (a.q / b.q) := by unfold divR divC; rw [if_pos h, if_pos h, if_neg k, if_neg k]; exact ⟨rfl, rfl⟩
theorem div_mul {a b : Rt} (h : code2 a b = 0) (k : b.n ≠ 0) : mulR a b.inv = divR a b ∧ mulC a b.inv = divC a b := by
  obtain ⟨ha, hb⟩ := ok_code2 h
  have hi := Rt.inv_ok hb k
  rw [(div_ok h k).1, (div_ok h k).2, (mul_ok (code2_ok ha hi)).1, (mul_ok (code2_ok ha hi)).2, Rt.inv_q, Rat.div_def]
  exact ⟨rfl, rfl⟩

/-- -1, 0 or 1. -/
def cmpI (x y : Int) : Int := if x < y then -1 else if y < x then 1 else 0
theorem cmpI_lt {x y : Int} (h : x < y) : cmpI x y = -1 := by unfold cmpI; rw [if_pos h]
theorem cmpI_gt {x y : Int} (h : y < x) : cmpI x y = 1 := by unfold cmpI; rw [if_neg (by omega), if_pos h]
theorem cmpI_eq {x y : Int} (h : x = y) : cmpI x y = 0 := by unfold cmpI; rw [if_neg (by omega), if_neg (by omega)]
def cmpR (a b : Rt) : Int := if code2 a b = 0 then cmpI (a.n * b.d) (b.n * a.d) else 0
theorem lt_q {a b : Rt} (ha : a.Ok) (hb : b.Ok) : (a.n * b.d < b.n * a.d) ↔ a.q < b.q := by
  rw [Rat.lt_iff, ha.num, ha.den, hb.num, hb.den]
theorem le_q {a b : Rt} (ha : a.Ok) (hb : b.Ok) : (a.n * b.d ≤ b.n * a.d) ↔ a.q ≤ b.q := by
  rw [Rat.le_iff, ha.num, ha.den, hb.num, hb.den]
theorem cmpR_neg {a b : Rt} (ha : a.Ok) (hb : b.Ok) : (cmpR a b < 0 ↔ a.q < b.q) := by
  unfold cmpR
  rw [if_pos (code2_ok ha hb), ← lt_q ha hb]
  unfold cmpI
  split
  · simp_all
  · split <;> simp_all
/-- Ratios of different signs. -/
theorem cmp_signs {a b : Rt} (ha : a.Ok) (hb : b.Ok) (h : ¬ (a.n < 0 ↔ b.n < 0)) : cmpR a b = cmpI a.n b.n := by
  unfold cmpR
  rw [if_pos (code2_ok ha hb)]
  have d1 := ha.d0; have d2 := hb.d0
  by_cases k : a.n < 0
  · have m1 := Int.mul_neg_of_neg_of_pos k (show 0 < b.d by omega)
    have m2 := Int.mul_nonneg (show 0 ≤ b.n by omega) (show 0 ≤ a.d by omega)
    rw [cmpI_lt (by omega), cmpI_lt (by omega)]
  · have m1 := Int.mul_neg_of_neg_of_pos (show b.n < 0 by omega) (show 0 < a.d by omega)
    have m2 := Int.mul_nonneg (show 0 ≤ a.n by omega) (show 0 ≤ b.d by omega)
    rw [cmpI_gt (by omega), cmpI_gt (by omega)]
theorem cmpI_neg (x y : Int) : cmpI (-x) (-y) = -cmpI x y := by
  unfold cmpI
  by_cases h : x < y
  · rw [if_neg (by omega), if_pos (by omega), if_pos h]; rfl
  · by_cases k : y < x
    · rw [if_pos (by omega), if_neg h, if_pos k]
    · rw [if_neg (by omega), if_neg (by omega), if_neg h, if_neg k]; rfl
/-- Ratios of the same sign. -/
theorem cmp_same {a b : Rt} (ha : a.Ok) (hb : b.Ok) (h : (a.n < 0 ↔ b.n < 0)) : cmpR a b = if a.n < 0 then -cmpI (absI a.n * b.d) (absI b.n * a.d) else cmpI (absI a.n * b.d) (absI b.n * a.d) := by
  unfold cmpR
  rw [if_pos (code2_ok ha hb)]
  split
  · rename_i k
    rw [absI_neg k, absI_neg (h.1 k), Int.neg_mul, Int.neg_mul, cmpI_neg]; omega
  · rename_i k
    rw [absI_pos (by omega), absI_pos (by omega)]
end Go.Proofs.Ytgcbmnohhbcfiaa
