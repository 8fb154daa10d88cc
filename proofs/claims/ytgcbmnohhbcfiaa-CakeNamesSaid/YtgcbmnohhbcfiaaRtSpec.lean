/- What ratios stand for, and what the functions of package ratio reckon: no program in sight. -/
import Derived.Test.YtgcbmnohhbcfiaaRtPlain
namespace Go.Proofs.Ytgcbmnohhbcfiaa
set_option linter.unusedVariables false
set_option linter.unusedSimpArgs false

/-- The number that a ratio stands for. -/
def Rt.q (a : Rt) : Rat := Rat.divInt a.n a.d
/-- Whether a number has a ratio. -/
def inR (q : Rat) : Prop := -1000000000000000000 ≤ q.num ∧ q.num ≤ 1000000000000000000 ∧ (q.den : Int) ≤ 1000000000000000000
instance (q : Rat) : Decidable (inR q) := by unfold inR; infer_instance
def mkR (q : Rat) : Rt := if inR q then ⟨q.num, q.den⟩ else ⟨0, 0⟩
def mkC (q : Rat) : Int := if inR q then 0 else 16

theorem coprime_num {n d : Int} (hd : 0 < d) (hg : Int.gcd n d = 1) : (Rat.divInt n d).num = n ∧ ((Rat.divInt n d).den : Int) = d := by
  rw [Rat.num_divInt, Rat.den_divInt, if_neg (by omega), Int.gcd_comm, hg, Int.sign_eq_one_of_pos hd]
  simp; omega
theorem Rt.Ok.cop {a : Rt} (h : a.Ok) : Int.gcd a.n a.d = 1 := by have := h.g; unfold gcdI at this; omega
theorem Rt.Ok.num {a : Rt} (h : a.Ok) : a.q.num = a.n := (coprime_num (by have := h.d0; omega) h.cop).1
theorem Rt.Ok.den {a : Rt} (h : a.Ok) : (a.q.den : Int) = a.d := (coprime_num (by have := h.d0; omega) h.cop).2
theorem Rt.Ok.inR {a : Rt} (h : a.Ok) : inR a.q := by
  unfold Go.Proofs.Ytgcbmnohhbcfiaa.inR; rw [h.num, h.den]; exact ⟨h.n0, h.n1, h.d1⟩
theorem mkR_q {a : Rt} (h : a.Ok) : mkR a.q = a := by
  unfold mkR; rw [if_pos h.inR, h.num, h.den]
theorem mkC_q {a : Rt} (h : a.Ok) : mkC a.q = 0 := by unfold mkC; rw [if_pos h.inR]
theorem mkR_ok {q : Rat} (h : inR q) : (mkR q).Ok := by
  unfold mkR; rw [if_pos h]
  have hr := q.reduced
  have hp := q.den_nz
  refine ⟨h.1, h.2.1, by show 1 ≤ (q.den : Int); omega, h.2.2, ?_⟩
  unfold gcdI Int.gcd
  simp only [Int.natAbs_natCast]
  rw [hr]; rfl
theorem q_mkR {q : Rat} (h : inR q) : (mkR q).q = q := by
  unfold mkR; rw [if_pos h]; unfold Rt.q; exact Rat.num_divInt_den q
theorem mkC_zero {q : Rat} (h : mkC q = 0) : inR q := by
  unfold mkC at h; split at h
  · assumption
  · omega
theorem mkC_cases (q : Rat) : mkC q = 0 ∨ mkC q = 16 := by unfold mkC; split <;> simp
theorem q_inj {a b : Rt} (h : a.Ok) (k : b.Ok) (e : a.q = b.q) : a = b := by rw [← mkR_q h, ← mkR_q k, e]
theorem mkR_out {q : Rat} (h : ¬ inR q) : mkR q = ⟨0, 0⟩ ∧ mkC q = 16 := by unfold mkR mkC; rw [if_neg h, if_neg h]; exact ⟨rfl, rfl⟩
theorem mk_pair {n d : Int} (hd : 0 < d) (hg : Int.gcd n d = 1) :
    (inR (Rat.divInt n d) ↔ -1000000000000000000 ≤ n ∧ n ≤ 1000000000000000000 ∧ d ≤ 1000000000000000000) := by
  unfold inR; rw [(coprime_num hd hg).1, (coprime_num hd hg).2]
theorem mkR_pair {n d : Int} (hd : 0 < d) (hg : Int.gcd n d = 1) (h : -1000000000000000000 ≤ n ∧ n ≤ 1000000000000000000 ∧ d ≤ 1000000000000000000) :
    mkR (Rat.divInt n d) = ⟨n, d⟩ ∧ mkC (Rat.divInt n d) = 0 := by
  have hi := (mk_pair hd hg).2 h
  unfold mkR mkC; rw [if_pos hi, if_pos hi, (coprime_num hd hg).1, (coprime_num hd hg).2]; exact ⟨rfl, rfl⟩
theorem mkR_pair_out {n d : Int} (hd : 0 < d) (hg : Int.gcd n d = 1) (h : ¬ (-1000000000000000000 ≤ n ∧ n ≤ 1000000000000000000 ∧ d ≤ 1000000000000000000)) :
    mkR (Rat.divInt n d) = ⟨0, 0⟩ ∧ mkC (Rat.divInt n d) = 16 := mkR_out fun k => h ((mk_pair hd hg).1 k)

/-- The sum, with all that is common taken out: n / d. -/
structure SumOf (a b : Rt) (g p q t h : Int) : Prop where
  g0 : 0 < g
  p0 : 0 < p
  q0 : 0 < q
  da : a.d = g * p
  db : b.d = g * q
  et : t = a.n * q + b.n * p
  eh : h = gcdI t g
  h0 : 0 < h
  hg : h ∣ g
  ht : h ∣ t
  cop : Int.gcd (t / h) (p * (b.d / h)) = 1
  den : 0 < p * (b.d / h)
  eq : a.q + b.q = Rat.divInt (t / h) (p * (b.d / h))
theorem gcd_dvd_one {x y z : Int} (h : Int.gcd x y = 1) (k : z ∣ x) : Int.gcd z y = 1 := Int.gcd_eq_one_iff.2 fun c h1 h2 => Int.gcd_eq_one_iff.1 h c (Int.dvd_trans h1 k) h2
theorem gcd_mul_one {x y z : Int} (h : Int.gcd x y = 1) (k : Int.gcd x z = 1) : Int.gcd x (y * z) = 1 := by rw [Int.gcd_mul_right_right_of_gcd_eq_one h]; exact k
theorem gcd_quot {x y : Int} (h : 0 < Int.gcd x y) : Int.gcd (x / (Int.gcd x y : Int)) (y / (Int.gcd x y : Int)) = 1 := by
  have h1 := Int.gcd_dvd_left x y
  have h2 := Int.gcd_dvd_right x y
  obtain ⟨u, hu⟩ := h1
  obtain ⟨v, hv⟩ := h2
  generalize hg : (Int.gcd x y : Int) = g at *
  have g0 : 0 < g := by omega
  have e1 : x / g = u := by rw [hu, Int.mul_ediv_cancel_left _ (by omega)]
  have e2 : y / g = v := by rw [hv, Int.mul_ediv_cancel_left _ (by omega)]
  rw [e1, e2]
  have := Int.gcd_mul_left g u v
  rw [← hu, ← hv] at this
  have h3 : (g.natAbs : Int) = g := by omega
  have h4 : ((Int.gcd x y : Nat) : Int) = g * (Int.gcd u v : Int) := by rw [this, Int.natCast_mul, h3]
  rw [hg] at h4
  have h5 : g * (Int.gcd u v : Int) = g * 1 := by omega
  have := Int.eq_of_mul_eq_mul_left (by omega) h5
  omega
theorem sumOf {a b : Rt} (ha : a.Ok) (hb : b.Ok) : SumOf a b (gcdI a.d b.d) (a.d / gcdI a.d b.d) (b.d / gcdI a.d b.d) (a.n * (b.d / gcdI a.d b.d) + b.n * (a.d / gcdI a.d b.d)) (gcdI (a.n * (b.d / gcdI a.d b.d) + b.n * (a.d / gcdI a.d b.d)) (gcdI a.d b.d)) := by
  have d1 := ha.d0; have d2 := hb.d0
  have c1 := ha.cop; have c2 := hb.cop
  have hgp : 0 < Int.gcd a.d b.d := Int.gcd_pos_of_ne_zero_right _ (by omega)
  have hcop := gcd_quot hgp
  have e1 := Int.gcd_dvd_left a.d b.d
  have e2 := Int.gcd_dvd_right a.d b.d
  have f1 := Int.mul_ediv_cancel' e1
  have f2 := Int.mul_ediv_cancel' e2
  unfold gcdI
  generalize hg : (Int.gcd a.d b.d : Int) = g at *
  have g0 : 0 < g := by omega
  generalize a.d / g = p at *
  generalize b.d / g = q at *
  have p0 : 0 < p := by
    rcases Int.lt_or_le 0 p with h | h
    · exact h
    · have := Int.mul_nonpos_of_nonneg_of_nonpos (show 0 ≤ g by omega) h; omega
  have q0 : 0 < q := by
    rcases Int.lt_or_le 0 q with h | h
    · exact h
    · have := Int.mul_nonpos_of_nonneg_of_nonpos (show 0 ≤ g by omega) h; omega
  generalize ht : a.n * q + b.n * p = t
  have cap : Int.gcd a.n p = 1 := by rw [Int.gcd_comm] at c1 ⊢; exact gcd_dvd_one c1 ⟨g, by rw [← f1]; exact Int.mul_comm _ _⟩
  have cbq : Int.gcd b.n q = 1 := by rw [Int.gcd_comm] at c2 ⊢; exact gcd_dvd_one c2 ⟨g, by rw [← f2]; exact Int.mul_comm _ _⟩
  have ctp : Int.gcd t p = 1 := by
    rw [← ht, Int.add_comm, Int.gcd_mul_right_add_left, Int.gcd_mul_right_left_of_gcd_eq_one cap, Int.gcd_comm]; exact hcop
  have ctq : Int.gcd t q = 1 := by
    rw [← ht, Int.gcd_mul_right_add_left, Int.gcd_mul_right_left_of_gcd_eq_one cbq]; exact hcop
  have hhp : 0 < Int.gcd t g := Int.gcd_pos_of_ne_zero_right _ (by omega)
  have hc2 := gcd_quot hhp
  have k1 := Int.gcd_dvd_left t g
  have k2 := Int.gcd_dvd_right t g
  have l1 := Int.mul_ediv_cancel' k1
  have l2 := Int.mul_ediv_cancel' k2
  generalize hh : (Int.gcd t g : Int) = h at *
  have h0 : 0 < h := by omega
  have hdb : b.d / h = q * (g / h) := by
    rw [← f2, Int.mul_comm g q, Int.mul_ediv_assoc _ k2]
  have ux : (t / h) ∣ t := ⟨h, by rw [Int.mul_comm]; exact l1.symm⟩
  have k0 : 0 < g / h := Int.ediv_pos_of_pos_of_dvd g0 (by omega) k2
  generalize hu : t / h = u at *
  generalize g / h = k at *
  have hfin : Int.gcd u (p * (q * k)) = 1 := gcd_mul_one (gcd_dvd_one ctp ux) (gcd_mul_one (gcd_dvd_one ctq ux) hc2)
  have hden : 0 < p * (q * k) := Int.mul_pos p0 (Int.mul_pos q0 k0)
  refine ⟨g0, p0, q0, f1.symm, f2.symm, ht.symm, ?_, h0, k2, k1, ?_, ?_, ?_⟩
  · unfold gcdI; exact hh.symm
  · rw [hdb, hu]; exact hfin
  · rw [hdb]; exact hden
  · rw [hdb, hu]
    unfold Rt.q
    rw [Rat.divInt_add_divInt _ _ (by omega) (by omega), Rat.divInt_eq_divInt_iff (Int.mul_ne_zero (by omega) (by omega)) (by omega), ← f1, ← f2]
    have e : a.n * (g * q) + b.n * (g * p) = g * (h * u) := by rw [l1, ← ht, Int.mul_add]; ac_rfl
    rw [e, ← l2]
    ac_rfl

/-- A number with a sign: what 'signed' makes of it. -/
theorem sign_mk {m : Bool} {N D : Int} (hN : 0 ≤ N) (hD : 0 < D) {n : Int} (hn : n = if m then -N else N) (hg : Int.gcd n D = 1) :
    (if 1000000000000000000 < maxI N D then (⟨0, 0⟩ : Rt) else if m then ⟨-N, D⟩ else ⟨N, D⟩) = mkR (Rat.divInt n D) ∧ (if 1000000000000000000 < maxI N D then (16 : Int) else 0) = mkC (Rat.divInt n D) := by
  by_cases h : 1000000000000000000 < maxI N D
  · have ho := mkR_pair_out hD hg (by
      rintro ⟨h1, h2, h3⟩
      unfold maxI at h
      cases m <;> simp at hn <;> split at h <;> omega)
    rw [if_pos h, if_pos h, ho.1, ho.2]; exact ⟨rfl, rfl⟩
  · have hb : N ≤ 1000000000000000000 ∧ D ≤ 1000000000000000000 := by unfold maxI at h; split at h <;> omega
    have hi := mkR_pair hD hg (by cases m <;> simp at hn <;> omega)
    rw [if_neg h, if_neg h, hi.1, hi.2, hn]
    cases m <;> exact ⟨rfl, rfl⟩
theorem ediv_sign {t h : Int} (h0 : 0 < h) (hd : h ∣ t) : t / h = if decide (t < 0) then -(absI t / h) else absI t / h := by
  obtain ⟨u, rfl⟩ := hd
  have e1 : h * u / h = u := Int.mul_ediv_cancel_left _ (by omega)
  by_cases k : h * u < 0
  · rw [e1, absI_neg k, ← Int.mul_neg, Int.mul_ediv_cancel_left _ (by omega), if_pos (by simpa using k)]; omega
  · rw [e1, absI_pos (by omega), e1, if_neg (by simpa using k)]
section
variable {a b : Rt} {g p q t h : Int}
theorem SumOf.num0 (s : SumOf a b g p q t h) : 0 ≤ absI t / h := Int.ediv_nonneg (absI_nonneg t) (by have := s.h0; omega)
theorem SumOf.abs (s : SumOf a b g p q t h) : absI (t / h) = absI t / h := by
  rw [ediv_sign s.h0 s.ht]
  have := s.num0
  split
  · rename_i k
    unfold absI at this ⊢; omega
  · exact absI_pos this
theorem SumOf.big (s : SumOf a b g p q t h) (hb : 1000000000000000000 < absI t / h ∨ 1000000000000000000 < p * (b.d / h)) : mkR (a.q + b.q) = ⟨0, 0⟩ ∧ mkC (a.q + b.q) = 16 := by
  rw [s.eq]
  refine mkR_pair_out s.den s.cop ?_
  rintro ⟨h1, h2, h3⟩
  have := s.abs
  unfold absI at this hb
  omega
theorem SumOf.zero (s : SumOf a b g p q t h) (h0 : t = 0) : mkR (a.q + b.q) = ⟨0, 1⟩ ∧ mkC (a.q + b.q) = 0 := by
  have e : a.q + b.q = Rat.divInt 0 1 := by rw [s.eq, h0]; simp
  rw [e]
  exact mkR_pair (by omega) (by rfl) (by omega)
theorem SumOf.fin (s : SumOf a b g p q t h) : (if 1000000000000000000 < maxI (absI t / h) (p * (b.d / h)) then (⟨0, 0⟩ : Rt) else if decide (t < 0) then ⟨-(absI t / h), p * (b.d / h)⟩ else ⟨absI t / h, p * (b.d / h)⟩) = mkR (a.q + b.q)
    ∧ (if 1000000000000000000 < maxI (absI t / h) (p * (b.d / h)) then (16 : Int) else 0) = mkC (a.q + b.q) := by
  rw [s.eq]
  exact sign_mk s.num0 s.den (ediv_sign s.h0 s.ht) s.cop
end
def addR (a b : Rt) : Rt := if code2 a b = 0 then mkR (a.q + b.q) else ⟨0, 0⟩
def addC (a b : Rt) : Int := if code2 a b = 0 then mkC (a.q + b.q) else code2 a b
theorem add_bad {a b : Rt} (h : code2 a b ≠ 0) : addR a b = ⟨0, 0⟩ ∧ addC a b = code2 a b := by unfold addR addC; rw [if_neg h, if_neg h]; exact ⟨rfl, rfl⟩
theorem add_ok {a b : Rt} (h : code2 a b = 0) : addR a b = mkR (a.q + b.q) ∧ addC a b = mkC (a.q + b.q) := by unfold addR addC; rw [if_pos h, if_pos h]; exact ⟨rfl, rfl⟩
end Go.Proofs.Ytgcbmnohhbcfiaa
