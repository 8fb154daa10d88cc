/- The mathematics of lists of integers, and of sums: no program in sight. -/
namespace Go.Proofs.Ytgcbmnohhbcfiaa
set_option linter.unusedVariables false
set_option linter.unusedSimpArgs false

/-- The element k of a list of integers, or 0. -/
def gi (l : List Int) (k : Nat) : Int := l.getD k 0
/-- The list i of a list of lists, or the empty one. -/
def gr (l : List (List Int)) (i : Nat) : List Int := l.getD i []
theorem gi_get {l : List Int} {k : Nat} (h : k < l.length) : gi l k = l[k] := by
  simp [gi, List.getD_eq_getElem?_getD, List.getElem?_eq_getElem h]
theorem gr_get {l : List (List Int)} {k : Nat} (h : k < l.length) : gr l k = l[k] := by
  simp [gr, List.getD_eq_getElem?_getD, List.getElem?_eq_getElem h]
theorem gi_mem {l : List Int} {k : Nat} (h : k < l.length) : gi l k ∈ l := by rw [gi_get h]; exact List.getElem_mem h
theorem gr_mem {l : List (List Int)} {k : Nat} (h : k < l.length) : gr l k ∈ l := by rw [gr_get h]; exact List.getElem_mem h
theorem gi_none {l : List Int} {k : Nat} (h : l.length ≤ k) : gi l k = 0 := by
  simp [gi, List.getD_eq_getElem?_getD, List.getElem?_eq_none h]
theorem gr_none {l : List (List Int)} {k : Nat} (h : l.length ≤ k) : gr l k = [] := by
  simp [gr, List.getD_eq_getElem?_getD, List.getElem?_eq_none h]
theorem gi_ext {a b : List Int} (h : a.length = b.length) (hk : ∀ k, k < a.length → gi a k = gi b k) : a = b := by
  refine List.ext_getElem h fun k h1 h2 => ?_
  have := hk k h1
  rwa [gi_get h1, gi_get h2] at this
theorem mem_gi {l : List Int} {x : Int} (h : x ∈ l) : ∃ k, k < l.length ∧ gi l k = x := by
  obtain ⟨i, hi, rfl⟩ := List.mem_iff_getElem.1 h
  exact ⟨i, hi, gi_get hi⟩
theorem mem_gr {l : List (List Int)} {x : List Int} (h : x ∈ l) : ∃ k, k < l.length ∧ gr l k = x := by
  obtain ⟨i, hi, rfl⟩ := List.mem_iff_getElem.1 h
  exact ⟨i, hi, gr_get hi⟩

/-- The sum of the first n values of a function. -/
def sumTo (f : Nat → Int) : Nat → Int
  | 0 => 0
  | k + 1 => sumTo f k + f k

theorem sumTo_succ (f : Nat → Int) (k : Nat) : sumTo f (k + 1) = sumTo f k + f k := rfl
theorem sumTo_congr {f g : Nat → Int} : ∀ {k : Nat}, (∀ i, i < k → f i = g i) → sumTo f k = sumTo g k
  | 0, _ => rfl
  | k + 1, h => by rw [sumTo, sumTo, sumTo_congr (fun i hi => h i (by omega)), h k (by omega)]
theorem sumTo_bd {f : Nat → Int} {lo hi : Int} : ∀ {k : Nat}, (∀ i, i < k → lo ≤ f i ∧ f i ≤ hi) → lo * k ≤ sumTo f k ∧ sumTo f k ≤ hi * k
  | 0, _ => by simp [sumTo]
  | k + 1, h => by
    have h1 := sumTo_bd (k := k) (fun i hi => h i (by omega))
    have h2 := h k (by omega)
    have e1 : lo * ((k + 1 : Nat) : Int) = lo * (k : Int) + lo := by rw [Int.natCast_add, Int.mul_add]; simp
    have e2 : hi * ((k + 1 : Nat) : Int) = hi * (k : Int) + hi := by rw [Int.natCast_add, Int.mul_add]; simp
    rw [sumTo, e1, e2]; omega
theorem sumTo_nonneg {f : Nat → Int} {k : Nat} (h : ∀ i, i < k → 0 ≤ f i) : 0 ≤ sumTo f k := by
  induction k with
  | zero => simp [sumTo]
  | succ k ih => have := ih (fun i hi => h i (by omega)); have := h k (by omega); rw [sumTo]; omega
theorem sumTo_mono {f g : Nat → Int} : ∀ {k : Nat}, (∀ i, i < k → f i ≤ g i) → sumTo f k ≤ sumTo g k
  | 0, _ => by simp [sumTo]
  | k + 1, h => by
    have h1 := sumTo_mono (k := k) (fun i hi => h i (by omega))
    have h2 := h k (by omega)
    rw [sumTo, sumTo]; omega
theorem sumTo_add (f g : Nat → Int) : ∀ k, sumTo (fun i => f i + g i) k = sumTo f k + sumTo g k
  | 0 => by simp [sumTo]
  | k + 1 => by rw [sumTo, sumTo, sumTo, sumTo_add f g k]; omega
theorem sumTo_sub (f g : Nat → Int) : ∀ k, sumTo (fun i => f i - g i) k = sumTo f k - sumTo g k
  | 0 => by simp [sumTo]
  | k + 1 => by rw [sumTo, sumTo, sumTo, sumTo_sub f g k]; omega
theorem sumTo_mul (c : Int) (f : Nat → Int) : ∀ k, sumTo (fun i => c * f i) k = c * sumTo f k
  | 0 => by simp [sumTo]
  | k + 1 => by rw [sumTo, sumTo, sumTo_mul c f k, Int.mul_add]
theorem sumTo_zero (k : Nat) : sumTo (fun _ => 0) k = 0 := by
  induction k with
  | zero => rfl
  | succ k ih => rw [sumTo, ih]; rfl
theorem sumTo_const (c : Int) (k : Nat) : sumTo (fun _ => c) k = c * k := by
  induction k with
  | zero => simp [sumTo]
  | succ k ih => rw [sumTo, ih, Int.natCast_add, Int.mul_add]; simp
theorem sumTo_comm (f : Nat → Nat → Int) (n : Nat) : ∀ m, sumTo (fun i => sumTo (f i) m) n = sumTo (fun k => sumTo (fun i => f i k) n) m
  | 0 => by simp [sumTo, sumTo_zero]
  | m + 1 => by
    rw [sumTo, ← sumTo_comm f n m, ← sumTo_add]; rfl
theorem sumTo_single {f : Nat → Int} {i n : Nat} (hi : i < n) (h : ∀ j, j < n → j ≠ i → f j = 0) : sumTo f n = f i := by
  induction n with
  | zero => omega
  | succ n ih =>
    rw [sumTo]
    by_cases e : i = n
    · subst e
      rw [sumTo_congr (g := fun _ => 0) (fun j hj => h j (by omega) (by omega)), sumTo_zero]; omega
    · rw [ih (by omega) (fun j hj => h j (by omega)), h n (by omega) (by omega)]; omega
theorem sumTo_le_of_nonneg {f : Nat → Int} {i n : Nat} (h : ∀ j, j < n → 0 ≤ f j) (hi : i ≤ n) : sumTo f i ≤ sumTo f n := by
  induction n with
  | zero => have : i = 0 := by omega
            subst this; exact Int.le_refl _
  | succ n ih =>
    by_cases e : i = n + 1
    · subst e; exact Int.le_refl _
    · have := ih (fun j hj => h j (by omega)) (by omega); have := h n (by omega); rw [sumTo]; omega


end Go.Proofs.Ytgcbmnohhbcfiaa

namespace Go.Proofs.Ytgcbmnohhbcfiaa
set_option linter.unusedVariables false
set_option linter.unusedSimpArgs false

/-- A ratio: two numbers. -/
structure Rt where
  n : Int
  d : Int
theorem Rt.ext_ {a b : Rt} (h : a.n = b.n) (k : a.d = b.d) : a = b := by cases a; cases b; simp_all
instance : DecidableEq Rt := fun a b => if h : a.n = b.n ∧ a.d = b.d then isTrue (Rt.ext_ h.1 h.2) else isFalse (fun e => h (by subst e; exact ⟨rfl, rfl⟩))
def absI (a : Int) : Int := (a.natAbs : Int)
def gcdI (a b : Int) : Int := (Int.gcd a b : Int)
def maxI (a b : Int) : Int := if a < b then b else a
theorem absI_nonneg (a : Int) : 0 ≤ absI a := by unfold absI; omega
theorem absI_pos {a : Int} (h : 0 ≤ a) : absI a = a := by unfold absI; omega
theorem absI_neg {a : Int} (h : a < 0) : absI a = -a := by unfold absI; omega
theorem absI_lt {a : Int} (h : -9223372036854775808 ≤ a) (k : a ≤ 9223372036854775807) : absI a ≤ 9223372036854775808 := by unfold absI; omega
theorem gcdI_nonneg (a b : Int) : 0 ≤ gcdI a b := by unfold gcdI; omega
theorem gcdI_zero {a : Int} (h : 0 ≤ a) : gcdI a 0 = a := by unfold gcdI; rw [Int.gcd_zero_right]; omega
theorem gcdI_step {a b : Int} (h : 0 ≤ a) (k : 0 ≤ b) : gcdI b (a % b) = gcdI a b := by
  obtain ⟨a, rfl⟩ := Int.eq_ofNat_of_zero_le h
  obtain ⟨b, rfl⟩ := Int.eq_ofNat_of_zero_le k
  unfold gcdI
  rw [← Int.natCast_emod, Int.gcd_natCast_natCast, Int.gcd_natCast_natCast, Nat.gcd_comm b, ← Nat.gcd_rec, Nat.gcd_comm]
theorem gcdI_abs (a b : Int) : gcdI (absI a) b = gcdI a b := by
  unfold gcdI absI Int.gcd; simp
theorem gcdI_le {a b : Int} (h : 0 < b) : gcdI a b ≤ b := by
  unfold gcdI
  exact Int.gcd_le_right a h
theorem gcdI_pos {a b : Int} (h : 0 < b) : 0 < gcdI a b := by
  unfold gcdI
  have := Int.gcd_pos_of_ne_zero_right (a := a) (show b ≠ 0 by omega)
  omega

/-- The two numbers are of 64 bits. -/
structure Rt.wf (a : Rt) : Prop where
  n0 : -9223372036854775808 ≤ a.n
  n1 : a.n ≤ 9223372036854775807
  d0 : -9223372036854775808 ≤ a.d
  d1 : a.d ≤ 9223372036854775807
/-- A valid ratio. -/
structure Rt.Ok (a : Rt) : Prop where
  n0 : -1000000000000000000 ≤ a.n
  n1 : a.n ≤ 1000000000000000000
  d0 : 1 ≤ a.d
  d1 : a.d ≤ 1000000000000000000
  g : gcdI a.n a.d = 1
def Rt.okB (a : Rt) : Bool := decide (1 ≤ a.d) && decide (maxI (absI a.n) a.d ≤ 1000000000000000000) && decide (gcdI a.n a.d ≤ 1)
theorem Rt.ok_iff {a : Rt} : a.okB = true ↔ a.Ok := by
  simp only [Rt.okB, Bool.and_eq_true, decide_eq_true_eq]
  constructor
  · rintro ⟨⟨h1, h2⟩, h3⟩
    have := absI_nonneg a.n
    have h4 : absI a.n ≤ 1000000000000000000 ∧ a.d ≤ 1000000000000000000 := by unfold maxI at h2; split at h2 <;> omega
    have := gcdI_pos (a := a.n) (b := a.d) (by omega)
    unfold absI at h4
    exact ⟨by omega, by omega, h1, h4.2, by omega⟩
  · rintro ⟨h1, h2, h3, h4, h5⟩
    refine ⟨⟨h3, ?_⟩, by omega⟩
    unfold maxI absI; split <;> omega
theorem Rt.Ok.wf {a : Rt} (h : a.Ok) : a.wf := ⟨by have := h.n0; omega, by have := h.n1; omega, by have := h.d0; omega, by have := h.d1; omega⟩
def Rt.code (a : Rt) : Int := if a.okB then 0 else 8
theorem Rt.code_ok {a : Rt} (h : a.Ok) : a.code = 0 := by unfold Rt.code; rw [if_pos (Rt.ok_iff.2 h)]
theorem Rt.ok_code {a : Rt} (h : a.code = 0) : a.Ok := by
  unfold Rt.code at h; split at h
  · rename_i h1; exact Rt.ok_iff.1 h1
  · omega
theorem Rt.code_bad {a : Rt} (h : ¬ a.Ok) : a.code = 8 := by unfold Rt.code; rw [if_neg (fun k => h (Rt.ok_iff.1 k))]
theorem Rt.bad1 {a : Rt} (h : a.d < 1) : a.code = 8 := Rt.code_bad fun k => by have := k.d0; omega
theorem Rt.bad2 {a : Rt} (h : 1 ≤ a.d) (k : 1000000000000000000 < maxI (absI a.n) a.d) : a.code = 8 := Rt.code_bad fun o => by
  have := o.n0; have := o.n1; have := o.d1
  unfold maxI absI at k; split at k <;> omega
theorem Rt.bad3 {a : Rt} (k : 1 < gcdI a.n a.d) : a.code = 8 := Rt.code_bad fun o => by have := o.g; omega
theorem Rt.good {a : Rt} (h1 : 1 ≤ a.d) (h2 : maxI (absI a.n) a.d ≤ 1000000000000000000) (h3 : gcdI a.n a.d ≤ 1) : a.code = 0 :=
  Rt.code_ok (Rt.ok_iff.1 (by simp [Rt.okB, h1, h2, h3]))
/-- The first error of two ratios. -/
def code2 (a b : Rt) : Int := if a.code ≠ 0 then a.code else b.code
theorem code2_ok {a b : Rt} (h : a.Ok) (k : b.Ok) : code2 a b = 0 := by simp [code2, Rt.code_ok h, Rt.code_ok k]
theorem ok_code2 {a b : Rt} (h : code2 a b = 0) : a.Ok ∧ b.Ok := by
  unfold code2 at h
  by_cases k : a.code = 0
  · rw [if_neg (by simpa using k)] at h; exact ⟨Rt.ok_code k, Rt.ok_code h⟩
  · rw [if_pos k] at h; exact absurd h k

end Go.Proofs.Ytgcbmnohhbcfiaa

namespace Go.Proofs.Ytgcbmnohhbcfiaa
set_option linter.unusedVariables false
set_option linter.unusedSimpArgs false

/-- The number that a ratio stands for. -/
def Rt.q (a : Rt) : Rat := Rat.divInt a.n a.d
/-- Whether a number has a ratio. -/
def inR (q : Rat) : Prop := -1000000000000000000 ≤ q.num ∧ q.num ≤ 1000000000000000000 ∧ (q.den : Int) ≤ 1000000000000000000
instance (q : Rat) : Decidable (inR q) := by unfold inR; infer_instance
def mkR (q : Rat) : Rt := if inR q then ⟨q.num, q.den⟩ else ⟨0, 0⟩
def mkC (q : Rat) : Int := if inR q then 0 else 16

theorem coprime_num {n d : Int} (hd : 0 < d) (hg : Int.gcd n d = 1) : (Rat.divInt n d).num = n ∧ ((Rat.divInt n d).den : Int) = d := by
  rw [Rat.num_divInt, Rat.den_divInt, if_neg (by omega), Int.gcd_comm, hg, Int.sign_eq_one_of_pos hd]
  simp; omega
theorem Rt.Ok.cop {a : Rt} (h : a.Ok) : Int.gcd a.n a.d = 1 := by have := h.g; unfold gcdI at this; omega
theorem Rt.Ok.num {a : Rt} (h : a.Ok) : a.q.num = a.n := (coprime_num (by have := h.d0; omega) h.cop).1
theorem Rt.Ok.den {a : Rt} (h : a.Ok) : (a.q.den : Int) = a.d := (coprime_num (by have := h.d0; omega) h.cop).2
theorem Rt.Ok.inR {a : Rt} (h : a.Ok) : inR a.q := by
  unfold Go.Proofs.Ytgcbmnohhbcfiaa.inR; rw [h.num, h.den]; exact ⟨h.n0, h.n1, h.d1⟩
theorem mkR_q {a : Rt} (h : a.Ok) : mkR a.q = a := by
  unfold mkR; rw [if_pos h.inR, h.num, h.den]
theorem mkC_q {a : Rt} (h : a.Ok) : mkC a.q = 0 := by unfold mkC; rw [if_pos h.inR]
theorem mkR_ok {q : Rat} (h : inR q) : (mkR q).Ok := by
  unfold mkR; rw [if_pos h]
  have hr := q.reduced
  have hp := q.den_nz
  refine ⟨h.1, h.2.1, by show 1 ≤ (q.den : Int); omega, h.2.2, ?_⟩
  unfold gcdI Int.gcd
  simp only [Int.natAbs_natCast]
  rw [hr]; rfl
theorem q_mkR {q : Rat} (h : inR q) : (mkR q).q = q := by
  unfold mkR; rw [if_pos h]; unfold Rt.q; exact Rat.num_divInt_den q
theorem mkC_zero {q : Rat} (h : mkC q = 0) : inR q := by
  unfold mkC at h; split at h
  · assumption
  · omega
theorem mkC_cases (q : Rat) : mkC q = 0 ∨ mkC q = 16 := by unfold mkC; split <;> simp
theorem q_inj {a b : Rt} (h : a.Ok) (k : b.Ok) (e : a.q = b.q) : a = b := by rw [← mkR_q h, ← mkR_q k, e]
theorem mkR_out {q : Rat} (h : ¬ inR q) : mkR q = ⟨0, 0⟩ ∧ mkC q = 16 := by unfold mkR mkC; rw [if_neg h, if_neg h]; exact ⟨rfl, rfl⟩
theorem mk_pair {n d : Int} (hd : 0 < d) (hg : Int.gcd n d = 1) :
    (inR (Rat.divInt n d) ↔ -1000000000000000000 ≤ n ∧ n ≤ 1000000000000000000 ∧ d ≤ 1000000000000000000) := by
  unfold inR; rw [(coprime_num hd hg).1, (coprime_num hd hg).2]
theorem mkR_pair {n d : Int} (hd : 0 < d) (hg : Int.gcd n d = 1) (h : -1000000000000000000 ≤ n ∧ n ≤ 1000000000000000000 ∧ d ≤ 1000000000000000000) :
    mkR (Rat.divInt n d) = ⟨n, d⟩ ∧ mkC (Rat.divInt n d) = 0 := by
  have hi := (mk_pair hd hg).2 h
  unfold mkR mkC; rw [if_pos hi, if_pos hi, (coprime_num hd hg).1, (coprime_num hd hg).2]; exact ⟨rfl, rfl⟩
theorem mkR_pair_out {n d : Int} (hd : 0 < d) (hg : Int.gcd n d = 1) (h : ¬ (-1000000000000000000 ≤ n ∧ n ≤ 1000000000000000000 ∧ d ≤ 1000000000000000000)) :
    mkR (Rat.divInt n d) = ⟨0, 0⟩ ∧ mkC (Rat.divInt n d) = 16 := mkR_out fun k => h ((mk_pair hd hg).1 k)

/-- The sum, with all that is common taken out: n / d. -/
structure SumOf (a b : Rt) (g p q t h : Int) : Prop where
  g0 : 0 < g
  p0 : 0 < p
  q0 : 0 < q
  da : a.d = g * p
  db : b.d = g * q
  et : t = a.n * q + b.n * p
  eh : h = gcdI t g
  h0 : 0 < h
  hg : h ∣ g
  ht : h ∣ t
  cop : Int.gcd (t / h) (p * (b.d / h)) = 1
  den : 0 < p * (b.d / h)
  eq : a.q + b.q = Rat.divInt (t / h) (p * (b.d / h))
theorem gcd_dvd_one {x y z : Int} (h : Int.gcd x y = 1) (k : z ∣ x) : Int.gcd z y = 1 := Int.gcd_eq_one_iff.2 fun c h1 h2 => Int.gcd_eq_one_iff.1 h c (Int.dvd_trans h1 k) h2
theorem gcd_mul_one {x y z : Int} (h : Int.gcd x y = 1) (k : Int.gcd x z = 1) : Int.gcd x (y * z) = 1 := by rw [Int.gcd_mul_right_right_of_gcd_eq_one h]; exact k
theorem gcd_quot {x y : Int} (h : 0 < Int.gcd x y) : Int.gcd (x / (Int.gcd x y : Int)) (y / (Int.gcd x y : Int)) = 1 := by
  have h1 := Int.gcd_dvd_left x y
  have h2 := Int.gcd_dvd_right x y
  obtain ⟨u, hu⟩ := h1
  obtain ⟨v, hv⟩ := h2
  generalize hg : (Int.gcd x y : Int) = g at *
  have g0 : 0 < g := by omega
  have e1 : x / g = u := by rw [hu, Int.mul_ediv_cancel_left _ (by omega)]
  have e2 : y / g = v := by rw [hv, Int.mul_ediv_cancel_left _ (by omega)]
  rw [e1, e2]
  have := Int.gcd_mul_left g u v
  rw [← hu, ← hv] at this
  have h3 : (g.natAbs : Int) = g := by omega
  have h4 : ((Int.gcd x y : Nat) : Int) = g * (Int.gcd u v : Int) := by rw [this, Int.natCast_mul, h3]
  rw [hg] at h4
  have h5 : g * (Int.gcd u v : Int) = g * 1 := by omega
  have := Int.eq_of_mul_eq_mul_left (by omega) h5
  omega
theorem sumOf {a b : Rt} (ha : a.Ok) (hb : b.Ok) : SumOf a b (gcdI a.d b.d) (a.d / gcdI a.d b.d) (b.d / gcdI a.d b.d) (a.n * (b.d / gcdI a.d b.d) + b.n * (a.d / gcdI a.d b.d)) (gcdI (a.n * (b.d / gcdI a.d b.d) + b.n * (a.d / gcdI a.d b.d)) (gcdI a.d b.d)) := by
  have d1 := ha.d0; have d2 := hb.d0
  have c1 := ha.cop; have c2 := hb.cop
  have hgp : 0 < Int.gcd a.d b.d := Int.gcd_pos_of_ne_zero_right _ (by omega)
  have hcop := gcd_quot hgp
  have e1 := Int.gcd_dvd_left a.d b.d
  have e2 := Int.gcd_dvd_right a.d b.d
  have f1 := Int.mul_ediv_cancel' e1
  have f2 := Int.mul_ediv_cancel' e2
  unfold gcdI
  generalize hg : (Int.gcd a.d b.d : Int) = g at *
  have g0 : 0 < g := by omega
  generalize a.d / g = p at *
  generalize b.d / g = q at *
  have p0 : 0 < p := by
    rcases Int.lt_or_le 0 p with h | h
    · exact h
    · have := Int.mul_nonpos_of_nonneg_of_nonpos (show 0 ≤ g by omega) h; omega
  have q0 : 0 < q := by
    rcases Int.lt_or_le 0 q with h | h
    · exact h
    · have := Int.mul_nonpos_of_nonneg_of_nonpos (show 0 ≤ g by omega) h; omega
  generalize ht : a.n * q + b.n * p = t
  have cap : Int.gcd a.n p = 1 := by rw [Int.gcd_comm] at c1 ⊢; exact gcd_dvd_one c1 ⟨g, by rw [← f1]; exact Int.mul_comm _ _⟩
  have cbq : Int.gcd b.n q = 1 := by rw [Int.gcd_comm] at c2 ⊢; exact gcd_dvd_one c2 ⟨g, by rw [← f2]; exact Int.mul_comm _ _⟩
  have ctp : Int.gcd t p = 1 := by
    rw [← ht, Int.add_comm, Int.gcd_mul_right_add_left, Int.gcd_mul_right_left_of_gcd_eq_one cap, Int.gcd_comm]; exact hcop
  have ctq : Int.gcd t q = 1 := by
    rw [← ht, Int.gcd_mul_right_add_left, Int.gcd_mul_right_left_of_gcd_eq_one cbq]; exact hcop
  have hhp : 0 < Int.gcd t g := Int.gcd_pos_of_ne_zero_right _ (by omega)
  have hc2 := gcd_quot hhp
  have k1 := Int.gcd_dvd_left t g
  have k2 := Int.gcd_dvd_right t g
  have l1 := Int.mul_ediv_cancel' k1
  have l2 := Int.mul_ediv_cancel' k2
  generalize hh : (Int.gcd t g : Int) = h at *
  have h0 : 0 < h := by omega
  have hdb : b.d / h = q * (g / h) := by
    rw [← f2, Int.mul_comm g q, Int.mul_ediv_assoc _ k2]
  have ux : (t / h) ∣ t := ⟨h, by rw [Int.mul_comm]; exact l1.symm⟩
  have k0 : 0 < g / h := Int.ediv_pos_of_pos_of_dvd g0 (by omega) k2
  generalize hu : t / h = u at *
  generalize g / h = k at *
  have hfin : Int.gcd u (p * (q * k)) = 1 := gcd_mul_one (gcd_dvd_one ctp ux) (gcd_mul_one (gcd_dvd_one ctq ux) hc2)
  have hden : 0 < p * (q * k) := Int.mul_pos p0 (Int.mul_pos q0 k0)
  refine ⟨g0, p0, q0, f1.symm, f2.symm, ht.symm, ?_, h0, k2, k1, ?_, ?_, ?_⟩
  · unfold gcdI; exact hh.symm
  · rw [hdb, hu]; exact hfin
  · rw [hdb]; exact hden
  · rw [hdb, hu]
    unfold Rt.q
    rw [Rat.divInt_add_divInt _ _ (by omega) (by omega), Rat.divInt_eq_divInt_iff (Int.mul_ne_zero (by omega) (by omega)) (by omega), ← f1, ← f2]
    have e : a.n * (g * q) + b.n * (g * p) = g * (h * u) := by rw [l1, ← ht, Int.mul_add]; ac_rfl
    rw [e, ← l2]
    ac_rfl

/-- A number with a sign: what 'signed' makes of it. -/
theorem sign_mk {m : Bool} {N D : Int} (hN : 0 ≤ N) (hD : 0 < D) {n : Int} (hn : n = if m then -N else N) (hg : Int.gcd n D = 1) :
    (if 1000000000000000000 < maxI N D then (⟨0, 0⟩ : Rt) else if m then ⟨-N, D⟩ else ⟨N, D⟩) = mkR (Rat.divInt n D) ∧ (if 1000000000000000000 < maxI N D then (16 : Int) else 0) = mkC (Rat.divInt n D) := by
  by_cases h : 1000000000000000000 < maxI N D
  · have ho := mkR_pair_out hD hg (by
      rintro ⟨h1, h2, h3⟩
      unfold maxI at h
      cases m <;> simp at hn <;> split at h <;> omega)
    rw [if_pos h, if_pos h, ho.1, ho.2]; exact ⟨rfl, rfl⟩
  · have hb : N ≤ 1000000000000000000 ∧ D ≤ 1000000000000000000 := by unfold maxI at h; split at h <;> omega
    have hi := mkR_pair hD hg (by cases m <;> simp at hn <;> omega)
    rw [if_neg h, if_neg h, hi.1, hi.2, hn]
    cases m <;> exact ⟨rfl, rfl⟩
theorem ediv_sign {t h : Int} (h0 : 0 < h) (hd : h ∣ t) : t / h = if decide (t < 0) then -(absI t / h) else absI t / h := by
  obtain ⟨u, rfl⟩ := hd
  have e1 : h * u / h = u := Int.mul_ediv_cancel_left _ (by omega)
  by_cases k : h * u < 0
  · rw [e1, absI_neg k, ← Int.mul_neg, Int.mul_ediv_cancel_left _ (by omega), if_pos (by simpa using k)]; omega
  · rw [e1, absI_pos (by omega), e1, if_neg (by simpa using k)]
section
variable {a b : Rt} {g p q t h : Int}
theorem SumOf.num0 (s : SumOf a b g p q t h) : 0 ≤ absI t / h := Int.ediv_nonneg (absI_nonneg t) (by have := s.h0; omega)
theorem SumOf.abs (s : SumOf a b g p q t h) : absI (t / h) = absI t / h := by
  rw [ediv_sign s.h0 s.ht]
  have := s.num0
  split
  · rename_i k
    unfold absI at this ⊢; omega
  · exact absI_pos this
theorem SumOf.big (s : SumOf a b g p q t h) (hb : 1000000000000000000 < absI t / h ∨ 1000000000000000000 < p * (b.d / h)) : mkR (a.q + b.q) = ⟨0, 0⟩ ∧ mkC (a.q + b.q) = 16 := by
  rw [s.eq]
  refine mkR_pair_out s.den s.cop ?_
  rintro ⟨h1, h2, h3⟩
  have := s.abs
  unfold absI at this hb
  omega
theorem SumOf.zero (s : SumOf a b g p q t h) (h0 : t = 0) : mkR (a.q + b.q) = ⟨0, 1⟩ ∧ mkC (a.q + b.q) = 0 := by
  have e : a.q + b.q = Rat.divInt 0 1 := by rw [s.eq, h0]; simp
  rw [e]
  exact mkR_pair (by omega) (by rfl) (by omega)
theorem SumOf.fin (s : SumOf a b g p q t h) : (if 1000000000000000000 < maxI (absI t / h) (p * (b.d / h)) then (⟨0, 0⟩ : Rt) else if decide (t < 0) then ⟨-(absI t / h), p * (b.d / h)⟩ else ⟨absI t / h, p * (b.d / h)⟩) = mkR (a.q + b.q)
    ∧ (if 1000000000000000000 < maxI (absI t / h) (p * (b.d / h)) then (16 : Int) else 0) = mkC (a.q + b.q) := by
  rw [s.eq]
  exact sign_mk s.num0 s.den (ediv_sign s.h0 s.ht) s.cop
end
def addR (a b : Rt) : Rt := if code2 a b = 0 then mkR (a.q + b.q) else ⟨0, 0⟩
def addC (a b : Rt) : Int := if code2 a b = 0 then mkC (a.q + b.q) else code2 a b
theorem add_bad {a b : Rt} (h : code2 a b ≠ 0) : addR a b = ⟨0, 0⟩ ∧ addC a b = code2 a b := by unfold addR addC; rw [if_neg h, if_neg h]; exact ⟨rfl, rfl⟩
theorem add_ok {a b : Rt} (h : code2 a b = 0) : addR a b = mkR (a.q + b.q) ∧ addC a b = mkC (a.q + b.q) := by unfold addR addC; rw [if_pos h, if_pos h]; exact ⟨rfl, rfl⟩
end Go.Proofs.Ytgcbmnohhbcfiaa

namespace Go.Proofs.Ytgcbmnohhbcfiaa
set_option linter.unusedVariables false
set_option linter.unusedSimpArgs false

theorem code2_left {a b : Rt} (h : a.code ≠ 0) : code2 a b = a.code := by unfold code2; rw [if_pos h]
/-- The opposite. -/
def Rt.neg (a : Rt) : Rt := ⟨-a.n, a.d⟩
theorem Rt.neg_ok {a : Rt} (h : a.Ok) : a.neg.Ok := by
  refine ⟨by have := h.n1; unfold neg; simp; omega, by have := h.n0; unfold neg; simp; omega, h.d0, h.d1, ?_⟩
  have := h.g
  unfold gcdI at *; unfold neg; simp only [Int.gcd_neg, Int.neg_gcd]; exact this
theorem Rt.neg_q (a : Rt) : a.neg.q = -a.q := by unfold Rt.q Rt.neg; rw [Rat.neg_divInt]
def subR (a b : Rt) : Rt := if code2 a b = 0 then mkR (a.q - b.q) else ⟨0, 0⟩
def subC (a b : Rt) : Int := if code2 a b = 0 then mkC (a.q - b.q) else code2 a b
theorem sub_bad {a b : Rt} (h : code2 a b ≠ 0) : subR a b = ⟨0, 0⟩ ∧ subC a b = code2 a b := by unfold subR subC; rw [if_neg h, if_neg h]; exact ⟨rfl, rfl⟩
theorem sub_ok {a b : Rt} (h : code2 a b = 0) : subR a b = mkR (a.q - b.q) ∧ subC a b = mkC (a.q - b.q) := by unfold subR subC; rw [if_pos h, if_pos h]; exact ⟨rfl, rfl⟩
theorem sub_add {a b : Rt} (h : code2 a b = 0) : addR a b.neg = subR a b ∧ addC a b.neg = subC a b := by
  obtain ⟨ha, hb⟩ := ok_code2 h
  rw [(sub_ok h).1, (sub_ok h).2, (add_ok (code2_ok ha (Rt.neg_ok hb))).1, (add_ok (code2_ok ha (Rt.neg_ok hb))).2, Rt.neg_q, Rat.sub_eq_add_neg]
  exact ⟨rfl, rfl⟩

/-- The product, with all that is common taken out. -/
structure ProdOf (a b : Rt) (g h : Int) (N D : Int) : Prop where
  g0 : 0 < g
  h0 : 0 < h
  gd : g ≤ b.d
  hd : h ≤ a.d
  n0 : 0 ≤ N
  d0 : 0 < D
  u0 : 0 ≤ absI a.n / g
  u1 : absI a.n / g ≤ 1000000000000000000
  v0 : 0 ≤ absI b.n / h
  v1 : absI b.n / h ≤ 1000000000000000000
  x0 : 0 ≤ a.d / h
  x1 : a.d / h ≤ 1000000000000000000
  y0 : 0 ≤ b.d / g
  y1 : b.d / g ≤ 1000000000000000000
  n : N = absI a.n / g * (absI b.n / h)
  d : D = a.d / h * (b.d / g)
  cop : Int.gcd (if (decide (0 < N) && (decide (a.n < 0) != decide (b.n < 0))) then -N else N) D = 1
  eq : a.q * b.q = Rat.divInt (if (decide (0 < N) && (decide (a.n < 0) != decide (b.n < 0))) then -N else N) D
theorem mul_abs (x y : Int) : x * y = if (decide (x < 0) != decide (y < 0)) then -(absI x * absI y) else absI x * absI y := by
  by_cases hx : x < 0 <;> by_cases hy : y < 0
  · simp [hx, hy, absI_neg hx, absI_neg hy, Int.neg_mul, Int.mul_neg]
  · simp [hx, hy, absI_neg hx, absI_pos (show 0 ≤ y by omega), Int.neg_mul]
  · simp [hx, hy, absI_pos (show 0 ≤ x by omega), absI_neg hy, Int.mul_neg]
  · simp [hx, hy, absI_pos (show 0 ≤ x by omega), absI_pos (show 0 ≤ y by omega)]
theorem gcd_abs (x y : Int) : Int.gcd (absI x) y = Int.gcd x y := by unfold absI Int.gcd; simp
theorem prodOf {a b : Rt} (ha : a.Ok) (hb : b.Ok) : ProdOf a b (gcdI a.n b.d) (gcdI b.n a.d) (absI a.n / gcdI a.n b.d * (absI b.n / gcdI b.n a.d)) (a.d / gcdI b.n a.d * (b.d / gcdI a.n b.d)) := by
  have d1 := ha.d0; have d2 := hb.d0
  have c1 := ha.cop; have c2 := hb.cop
  have an0 := absI_nonneg a.n; have bn0 := absI_nonneg b.n
  have an1 : absI a.n ≤ 1000000000000000000 := by have := ha.n0; have := ha.n1; unfold absI; omega
  have bn1 : absI b.n ≤ 1000000000000000000 := by have := hb.n0; have := hb.n1; unfold absI; omega
  have hg := gcdI_pos (a := a.n) (b := b.d) (by omega)
  have hh := gcdI_pos (a := b.n) (b := a.d) (by omega)
  have gl := gcdI_le (a := a.n) (b := b.d) (by omega)
  have hl := gcdI_le (a := b.n) (b := a.d) (by omega)
  have qg : Int.gcd (absI a.n / gcdI a.n b.d) (b.d / gcdI a.n b.d) = 1 := by
    have := gcd_quot (x := absI a.n) (y := b.d) (by rw [gcd_abs]; unfold gcdI at hg; omega)
    rw [gcd_abs] at this; exact this
  have qh : Int.gcd (absI b.n / gcdI b.n a.d) (a.d / gcdI b.n a.d) = 1 := by
    have := gcd_quot (x := absI b.n) (y := a.d) (by rw [gcd_abs]; unfold gcdI at hh; omega)
    rw [gcd_abs] at this; exact this
  have e1 : gcdI a.n b.d ∣ absI a.n := by
    have := Int.gcd_dvd_left (absI a.n) b.d; rw [gcd_abs] at this; exact this
  have e2 : gcdI a.n b.d ∣ b.d := Int.gcd_dvd_right a.n b.d
  have e3 : gcdI b.n a.d ∣ absI b.n := by
    have := Int.gcd_dvd_left (absI b.n) a.d; rw [gcd_abs] at this; exact this
  have e4 : gcdI b.n a.d ∣ a.d := Int.gcd_dvd_right b.n a.d
  have f1 := Int.mul_ediv_cancel' e1
  have f2 := Int.mul_ediv_cancel' e2
  have f3 := Int.mul_ediv_cancel' e3
  have f4 := Int.mul_ediv_cancel' e4
  have y0 : 0 < b.d / gcdI a.n b.d := Int.ediv_pos_of_pos_of_dvd (by omega) (by omega) e2
  have x0 : 0 < a.d / gcdI b.n a.d := Int.ediv_pos_of_pos_of_dvd (by omega) (by omega) e4
  have u0 : 0 ≤ absI a.n / gcdI a.n b.d := Int.ediv_nonneg an0 (by omega)
  have v0 : 0 ≤ absI b.n / gcdI b.n a.d := Int.ediv_nonneg bn0 (by omega)
  have ul : absI a.n / gcdI a.n b.d ≤ absI a.n := Int.ediv_le_self _ an0
  have vl : absI b.n / gcdI b.n a.d ≤ absI b.n := Int.ediv_le_self _ bn0
  have xl : a.d / gcdI b.n a.d ≤ a.d := Int.ediv_le_self _ (by omega)
  have yl : b.d / gcdI a.n b.d ≤ b.d := Int.ediv_le_self _ (by omega)
  have hcop : Int.gcd (absI a.n / gcdI a.n b.d * (absI b.n / gcdI b.n a.d)) (a.d / gcdI b.n a.d * (b.d / gcdI a.n b.d)) = 1 := by
    have k1 : Int.gcd (absI a.n / gcdI a.n b.d) (a.d / gcdI b.n a.d) = 1 := by
      have h1 : Int.gcd (absI a.n / gcdI a.n b.d) a.d = 1 := gcd_dvd_one (by rw [gcd_abs]; exact c1) ⟨gcdI a.n b.d, by rw [Int.mul_comm]; exact f1.symm⟩
      rw [Int.gcd_comm] at h1 ⊢
      exact gcd_dvd_one h1 ⟨gcdI b.n a.d, by rw [Int.mul_comm]; exact f4.symm⟩
    have k2 : Int.gcd (absI b.n / gcdI b.n a.d) (b.d / gcdI a.n b.d) = 1 := by
      have h1 : Int.gcd (absI b.n / gcdI b.n a.d) b.d = 1 := gcd_dvd_one (by rw [gcd_abs]; exact c2) ⟨gcdI b.n a.d, by rw [Int.mul_comm]; exact f3.symm⟩
      rw [Int.gcd_comm] at h1 ⊢
      exact gcd_dvd_one h1 ⟨gcdI a.n b.d, by rw [Int.mul_comm]; exact f2.symm⟩
    have m1 := gcd_mul_one k1 qg
    have m2 := gcd_mul_one qh k2
    rw [Int.gcd_comm] at m1 m2 ⊢
    exact gcd_mul_one m1 m2
  have hmul := mul_abs a.n b.n
  generalize hgg : gcdI a.n b.d = g at *
  generalize hhh : gcdI b.n a.d = h at *
  generalize hu : absI a.n / g = u at *
  generalize hv : absI b.n / h = v at *
  generalize hx : a.d / h = x at *
  generalize hy : b.d / g = y at *
  have hN : 0 ≤ u * v := Int.mul_nonneg u0 v0
  have hD : 0 < x * y := Int.mul_pos x0 y0
  refine ⟨hg, hh, gl, hl, hN, hD, by omega, by omega, by omega, by omega, by omega, by have := ha.d1; omega, by omega, by have := hb.d1; omega, by rw [hu, hv], by rw [hx, hy], ?_, ?_⟩
  · split
    · rw [Int.neg_gcd]; exact hcop
    · exact hcop
  · unfold Rt.q
    have hs : a.n * b.n = g * h * (if (decide (0 < u * v) && (decide (a.n < 0) != decide (b.n < 0))) then -(u * v) else u * v) := by
      have hp : absI a.n * absI b.n = g * h * (u * v) := by rw [← f1, ← f3]; ac_rfl
      rw [hmul, hp]
      by_cases k : 0 < u * v
      · simp only [k, decide_true, Bool.true_and]
        split
        · rw [Int.mul_neg]
        · rfl
      · have : u * v = 0 := by omega
        rw [this]; simp
    rw [Rat.divInt_mul_divInt, hs, Rat.divInt_eq_divInt_iff (Int.mul_ne_zero (by omega) (by omega)) (by omega)]
    generalize (if (decide (0 < u * v) && (decide (a.n < 0) != decide (b.n < 0))) then -(u * v) else u * v) = z
    rw [← f2, ← f4]
    ac_rfl
def mulR (a b : Rt) : Rt := if code2 a b = 0 then mkR (a.q * b.q) else ⟨0, 0⟩
def mulC (a b : Rt) : Int := if code2 a b = 0 then mkC (a.q * b.q) else code2 a b
theorem mul_bad {a b : Rt} (h : code2 a b ≠ 0) : mulR a b = ⟨0, 0⟩ ∧ mulC a b = code2 a b := by unfold mulR mulC; rw [if_neg h, if_neg h]; exact ⟨rfl, rfl⟩
theorem mul_ok {a b : Rt} (h : code2 a b = 0) : mulR a b = mkR (a.q * b.q) ∧ mulC a b = mkC (a.q * b.q) := by unfold mulR mulC; rw [if_pos h, if_pos h]; exact ⟨rfl, rfl⟩
section
variable {a b : Rt} {g h N D : Int}
theorem ProdOf.big (s : ProdOf a b g h N D) (hb : 1000000000000000000 < N ∨ 1000000000000000000 < D) : mkR (a.q * b.q) = ⟨0, 0⟩ ∧ mkC (a.q * b.q) = 16 := by
  rw [s.eq]
  refine mkR_pair_out s.d0 s.cop ?_
  rintro ⟨h1, h2, h3⟩
  have := s.n0
  generalize (decide (0 < N) && (decide (a.n < 0) != decide (b.n < 0))) = e at h1 h2
  cases e <;> simp at h1 h2 <;> omega
theorem ProdOf.fin (s : ProdOf a b g h N D) : (if 1000000000000000000 < maxI N D then (⟨0, 0⟩ : Rt) else if (decide (0 < N) && (decide (a.n < 0) != decide (b.n < 0))) then ⟨-N, D⟩ else ⟨N, D⟩) = mkR (a.q * b.q)
    ∧ (if 1000000000000000000 < maxI N D then (16 : Int) else 0) = mkC (a.q * b.q) := by
  rw [s.eq]
  exact sign_mk s.n0 s.d0 rfl s.cop
end

/-- One divided by a ratio that is not 0. -/
def Rt.inv (b : Rt) : Rt := if b.n < 0 then ⟨-b.d, -b.n⟩ else ⟨b.d, b.n⟩
theorem Rt.inv_ok {b : Rt} (h : b.Ok) (h0 : b.n ≠ 0) : b.inv.Ok := by
  have g := h.g
  have := h.n0; have := h.n1; have := h.d0; have := h.d1
  unfold Rt.inv
  split
  · refine ⟨by simp; omega, by simp; omega, by simp; omega, by simp; omega, ?_⟩
    unfold gcdI at *; simp only [Int.gcd_neg, Int.neg_gcd]; rw [Int.gcd_comm]; exact g
  · refine ⟨by simp; omega, by simp; omega, by simp; omega, by simp; omega, ?_⟩
    unfold gcdI at *; rw [Int.gcd_comm]; exact g
theorem Rt.inv_q {b : Rt} : b.inv.q = b.q⁻¹ := by
  unfold Rt.q Rt.inv
  rw [Rat.inv_divInt]
  split
  · simp only; rw [Rat.neg_divInt_neg]
  · rfl
def divR (a b : Rt) : Rt := if code2 a b = 0 then (if b.n = 0 then ⟨0, 0⟩ else mkR (a.q / b.q)) else ⟨0, 0⟩
def divC (a b : Rt) : Int := if code2 a b = 0 then (if b.n = 0 then 18 else mkC (a.q / b.q)) else code2 a b
theorem div_bad {a b : Rt} (h : code2 a b ≠ 0) : divR a b = ⟨0, 0⟩ ∧ divC a b = code2 a b := by unfold divR divC; rw [if_neg h, if_neg h]; exact ⟨rfl, rfl⟩
theorem div_zero {a b : Rt} (h : code2 a b = 0) (k : b.n = 0) : divR a b = ⟨0, 0⟩ ∧ divC a b = 18 := by unfold divR divC; rw [if_pos h, if_pos h, if_pos k, if_pos k]; exact ⟨rfl, rfl⟩
theorem div_ok {a b : Rt} (h : code2 a b = 0) (k : b.n ≠ 0) : divR a b = mkR (a.q / b.q) ∧ divC a b = mkC (a.q / b.q) := by unfold divR divC; rw [if_pos h, if_pos h, if_neg k, if_neg k]; exact ⟨rfl, rfl⟩
theorem div_mul {a b : Rt} (h : code2 a b = 0) (k : b.n ≠ 0) : mulR a b.inv = divR a b ∧ mulC a b.inv = divC a b := by
  obtain ⟨ha, hb⟩ := ok_code2 h
  have hi := Rt.inv_ok hb k
  rw [(div_ok h k).1, (div_ok h k).2, (mul_ok (code2_ok ha hi)).1, (mul_ok (code2_ok ha hi)).2, Rt.inv_q, Rat.div_def]
  exact ⟨rfl, rfl⟩

/-- -1, 0 or 1. -/
def cmpI (x y : Int) : Int := if x < y then -1 else if y < x then 1 else 0
theorem cmpI_lt {x y : Int} (h : x < y) : cmpI x y = -1 := by unfold cmpI; rw [if_pos h]
theorem cmpI_gt {x y : Int} (h : y < x) : cmpI x y = 1 := by unfold cmpI; rw [if_neg (by omega), if_pos h]
theorem cmpI_eq {x y : Int} (h : x = y) : cmpI x y = 0 := by unfold cmpI; rw [if_neg (by omega), if_neg (by omega)]
def cmpR (a b : Rt) : Int := if code2 a b = 0 then cmpI (a.n * b.d) (b.n * a.d) else 0
theorem lt_q {a b : Rt} (ha : a.Ok) (hb : b.Ok) : (a.n * b.d < b.n * a.d) ↔ a.q < b.q := by
  rw [Rat.lt_iff, ha.num, ha.den, hb.num, hb.den]
theorem le_q {a b : Rt} (ha : a.Ok) (hb : b.Ok) : (a.n * b.d ≤ b.n * a.d) ↔ a.q ≤ b.q := by
  rw [Rat.le_iff, ha.num, ha.den, hb.num, hb.den]
theorem cmpR_neg {a b : Rt} (ha : a.Ok) (hb : b.Ok) : (cmpR a b < 0 ↔ a.q < b.q) := by
  unfold cmpR
  rw [if_pos (code2_ok ha hb), ← lt_q ha hb]
  unfold cmpI
  split
  · simp_all
  · split <;> simp_all
/-- Ratios of different signs. -/
theorem cmp_signs {a b : Rt} (ha : a.Ok) (hb : b.Ok) (h : ¬ (a.n < 0 ↔ b.n < 0)) : cmpR a b = cmpI a.n b.n := by
  unfold cmpR
  rw [if_pos (code2_ok ha hb)]
  have d1 := ha.d0; have d2 := hb.d0
  by_cases k : a.n < 0
  · have m1 := Int.mul_neg_of_neg_of_pos k (show 0 < b.d by omega)
    have m2 := Int.mul_nonneg (show 0 ≤ b.n by omega) (show 0 ≤ a.d by omega)
    rw [cmpI_lt (by omega), cmpI_lt (by omega)]
  · have m1 := Int.mul_neg_of_neg_of_pos (show b.n < 0 by omega) (show 0 < a.d by omega)
    have m2 := Int.mul_nonneg (show 0 ≤ a.n by omega) (show 0 ≤ b.d by omega)
    rw [cmpI_gt (by omega), cmpI_gt (by omega)]
theorem cmpI_neg (x y : Int) : cmpI (-x) (-y) = -cmpI x y := by
  unfold cmpI
  by_cases h : x < y
  · rw [if_neg (by omega), if_pos (by omega), if_pos h]; rfl
  · by_cases k : y < x
    · rw [if_pos (by omega), if_neg h, if_pos k]
    · rw [if_neg (by omega), if_neg (by omega), if_neg h, if_neg k]; rfl
/-- Ratios of the same sign. -/
theorem cmp_same {a b : Rt} (ha : a.Ok) (hb : b.Ok) (h : (a.n < 0 ↔ b.n < 0)) : cmpR a b = if a.n < 0 then -cmpI (absI a.n * b.d) (absI b.n * a.d) else cmpI (absI a.n * b.d) (absI b.n * a.d) := by
  unfold cmpR
  rw [if_pos (code2_ok ha hb)]
  split
  · rename_i k
    rw [absI_neg k, absI_neg (h.1 k), Int.neg_mul, Int.neg_mul, cmpI_neg]; omega
  · rename_i k
    rw [absI_pos (by omega), absI_pos (by omega)]
end Go.Proofs.Ytgcbmnohhbcfiaa

namespace Go.Proofs.Ytgcbmnohhbcfiaa
set_option linter.unusedVariables false
set_option linter.unusedSimpArgs false

structure Ck where
  len : Int
  cuts : List Int
  dens : List Int
theorem Ck.ext_ {a b : Ck} (h1 : a.len = b.len) (h2 : a.cuts = b.cuts) (h3 : a.dens = b.dens) : a = b := by cases a; cases b; simp_all
def Ck.Many (K : Ck) : Prop := 1000 < K.len ∨ 40 < K.cuts.length
instance (K : Ck) : Decidable K.Many := by unfold Ck.Many; infer_instance
/-- The ends are in order. -/
def Ck.Ends (K : Ck) : Prop := 1 ≤ K.len ∧ 2 ≤ K.cuts.length ∧ (K.dens.length : Int) = K.cuts.length - 1 ∧ gi K.cuts 0 = 0 ∧ gi K.cuts (K.cuts.length - 1) = K.len
instance (K : Ck) : Decidable K.Ends := by unfold Ck.Ends; infer_instance
def Ck.Rise (K : Ck) : Prop := ∀ i, i < K.cuts.length - 1 → gi K.cuts i < gi K.cuts (i + 1)
instance (K : Ck) : Decidable K.Rise := by unfold Ck.Rise; infer_instance
def Ck.Fit (K : Ck) : Prop := ∀ i, i < K.dens.length → 0 ≤ gi K.dens i ∧ gi K.dens i ≤ 12
instance (K : Ck) : Decidable K.Fit := by unfold Ck.Fit; infer_instance
def Ck.Some (K : Ck) : Prop := ¬ ∀ i, i < K.dens.length → gi K.dens i ≤ 0
instance (K : Ck) : Decidable K.Some := by unfold Ck.Some; infer_instance
def Ck.code (K : Ck) : Int := if K.Many then 4 else if K.Ends ∧ K.Rise ∧ K.Fit ∧ K.Some then 0 else 8
section
variable {K : Ck}
theorem Ck.code_many (h : K.Many) : K.code = 4 := by unfold Ck.code; rw [if_pos h]
theorem Ck.code_bad (h : ¬ K.Many) (k : ¬ (K.Ends ∧ K.Rise ∧ K.Fit ∧ K.Some)) : K.code = 8 := by unfold Ck.code; rw [if_neg h, if_neg k]
theorem Ck.code_ends (h : ¬ K.Many) (k : ¬ K.Ends) : K.code = 8 := Ck.code_bad h (fun x => k x.1)
theorem Ck.code_rise (h : ¬ K.Many) (k : ¬ K.Rise) : K.code = 8 := Ck.code_bad h (fun x => k x.2.1)
theorem Ck.code_fit (h : ¬ K.Many) (k : ¬ K.Fit) : K.code = 8 := Ck.code_bad h (fun x => k x.2.2.1)
theorem Ck.code_some (h : ¬ K.Many) (k : ¬ K.Some) : K.code = 8 := Ck.code_bad h (fun x => k x.2.2.2)
theorem Ck.code_good (h : ¬ K.Many) (h1 : K.Ends) (h2 : K.Rise) (h3 : K.Fit) (h4 : K.Some) : K.code = 0 := by unfold Ck.code; rw [if_neg h, if_pos ⟨h1, h2, h3, h4⟩]
/-- A cake in order. -/
structure Ck.Ok (K : Ck) : Prop where
  l1 : 1 ≤ K.len
  l2 : K.len ≤ 1000
  n1 : 1 ≤ K.dens.length
  n2 : K.dens.length ≤ 39
  nc : K.cuts.length = K.dens.length + 1
  c0 : gi K.cuts 0 = 0
  cn : gi K.cuts K.dens.length = K.len
  rise : ∀ i, i < K.dens.length → gi K.cuts i < gi K.cuts (i + 1)
  fit : ∀ i, i < K.dens.length → 0 ≤ gi K.dens i ∧ gi K.dens i ≤ 12
  some : ∃ i, i < K.dens.length ∧ 0 < gi K.dens i
theorem Ck.ok_code (h : K.code = 0) : K.Ok := by
  unfold Ck.code at h
  by_cases h1 : K.Many
  · rw [if_pos h1] at h; omega
  rw [if_neg h1] at h
  by_cases h2 : K.Ends ∧ K.Rise ∧ K.Fit ∧ K.Some
  · obtain ⟨⟨a, b, c, d, e⟩, f, g, k⟩ := h2
    have m1 : ¬ 1000 < K.len := fun q => h1 (Or.inl q)
    have m2 : ¬ 40 < K.cuts.length := fun q => h1 (Or.inr q)
    have el : K.cuts.length - 1 = K.dens.length := by omega
    unfold Ck.Rise at f
    rw [el] at e f
    refine ⟨a, by omega, by omega, by omega, by omega, d, e, f, g, ?_⟩
    rcases Classical.em (∃ i, i < K.dens.length ∧ 0 < gi K.dens i) with q | q
    · exact q
    · refine absurd (fun i hi => ?_) k
      rcases Int.lt_or_le 0 (gi K.dens i) with r | r
      · exact absurd ⟨i, hi, r⟩ q
      · exact r
  · rw [if_neg h2] at h; omega
theorem Ck.Ok.code (h : K.Ok) : K.code = 0 := by
  have := h.nc; have := h.n2; have := h.l2; have := h.n1
  refine Ck.code_good (fun q => by rcases q with q | q <;> omega) ⟨h.l1, by omega, by omega, h.c0, ?_⟩ (fun i hi => h.rise i (by omega)) h.fit (fun q => ?_)
  · rw [show K.cuts.length - 1 = K.dens.length by omega]; exact h.cn
  · obtain ⟨i, hi, k⟩ := h.some
    have := q i hi; omega
theorem Ck.Ok.mono (h : K.Ok) {i j : Nat} (hij : i ≤ j) (hj : j ≤ K.dens.length) : gi K.cuts i ≤ gi K.cuts j := by
  induction j with
  | zero => have : i = 0 := by omega
            subst this; exact Int.le_refl _
  | succ j ih =>
    by_cases e : i = j + 1
    · subst e; exact Int.le_refl _
    · have := ih (by omega) (by omega)
      have := h.rise j (by omega)
      omega
theorem Ck.Ok.cut_bd (h : K.Ok) {i : Nat} (hi : i ≤ K.dens.length) : 0 ≤ gi K.cuts i ∧ gi K.cuts i ≤ 1000 := by
  have a := h.mono (Nat.zero_le i) hi
  have b := h.mono hi (Nat.le_refl _)
  rw [h.c0] at a; rw [h.cn] at b
  have := h.l2
  omega
/-- The value of the first intervals. -/
def Ck.upTo (K : Ck) (k : Nat) : Int := sumTo (fun i => gi K.dens i * (gi K.cuts (i + 1) - gi K.cuts i)) k
def Ck.total (K : Ck) : Int := K.upTo K.dens.length
theorem Ck.upTo_succ (K : Ck) (k : Nat) : K.upTo (k + 1) = K.upTo k + gi K.dens k * (gi K.cuts (k + 1) - gi K.cuts k) := rfl
theorem Ck.Ok.upTo_bd (h : K.Ok) : ∀ {k : Nat}, k ≤ K.dens.length → 0 ≤ K.upTo k ∧ K.upTo k ≤ 12 * gi K.cuts k
  | 0, _ => by rw [h.c0]; exact ⟨Int.le_refl _, Int.le_refl _⟩
  | k + 1, hk => by
    have ih := h.upTo_bd (k := k) (by omega)
    have d := h.fit k (by omega)
    have r := h.rise k (by omega)
    rw [Ck.upTo_succ]
    have a := Int.mul_nonneg d.1 (show 0 ≤ gi K.cuts (k + 1) - gi K.cuts k by omega)
    have b := Int.mul_le_mul_of_nonneg_right d.2 (show 0 ≤ gi K.cuts (k + 1) - gi K.cuts k by omega)
    omega
theorem Ck.Ok.prod_bd (h : K.Ok) {k : Nat} (hk : k < K.dens.length) : 0 ≤ gi K.dens k * (gi K.cuts (k + 1) - gi K.cuts k) ∧ gi K.dens k * (gi K.cuts (k + 1) - gi K.cuts k) ≤ 12000 := by
  have a := h.upTo_bd (k := k) (by omega)
  have b := h.upTo_bd (k := k + 1) (by omega)
  have d := h.fit k (by omega)
  have r := h.rise k (by omega)
  have c := h.cut_bd (i := k + 1) (by omega)
  rw [Ck.upTo_succ] at b
  have e := Int.mul_nonneg d.1 (show 0 ≤ gi K.cuts (k + 1) - gi K.cuts k by omega)
  omega
end
/-- The least and the greatest of the first elements. -/
def mnTo (l : List Int) : Nat → Int
  | 0 => gi l 0
  | k + 1 => min (mnTo l k) (gi l (k + 1))
def mxTo (l : List Int) : Nat → Int
  | 0 => gi l 0
  | k + 1 => max (mxTo l k) (gi l (k + 1))
theorem mnTo_neg {l : List Int} : ∀ {k : Nat}, mnTo l k < 0 ↔ ∃ i, i ≤ k ∧ gi l i < 0
  | 0 => by
    constructor
    · intro h; exact ⟨0, Nat.le_refl _, h⟩
    · rintro ⟨i, hi, h⟩
      obtain rfl : i = 0 := by omega
      exact h
  | k + 1 => by
    have e : mnTo l (k + 1) < 0 ↔ mnTo l k < 0 ∨ gi l (k + 1) < 0 := by show min _ _ < 0 ↔ _; omega
    rw [e, mnTo_neg]
    constructor
    · rintro (⟨i, hi, h⟩ | h)
      · exact ⟨i, by omega, h⟩
      · exact ⟨k + 1, Nat.le_refl _, h⟩
    · rintro ⟨i, hi, h⟩
      by_cases c : i = k + 1
      · subst c; exact Or.inr h
      · exact Or.inl ⟨i, by omega, h⟩
theorem mxTo_gt {l : List Int} {b : Int} : ∀ {k : Nat}, b < mxTo l k ↔ ∃ i, i ≤ k ∧ b < gi l i
  | 0 => by
    constructor
    · intro h; exact ⟨0, Nat.le_refl _, h⟩
    · rintro ⟨i, hi, h⟩
      obtain rfl : i = 0 := by omega
      exact h
  | k + 1 => by
    have e : b < mxTo l (k + 1) ↔ b < mxTo l k ∨ b < gi l (k + 1) := by show b < max _ _ ↔ _; omega
    rw [e, mxTo_gt]
    constructor
    · rintro (⟨i, hi, h⟩ | h)
      · exact ⟨i, by omega, h⟩
      · exact ⟨k + 1, Nat.le_refl _, h⟩
    · rintro ⟨i, hi, h⟩
      by_cases c : i = k + 1
      · subst c; exact Or.inr h
      · exact Or.inl ⟨i, by omega, h⟩
/-- More than the statements consider. -/
def Ck.big (K : Ck) : Bool := decide (60 < K.cuts.length) || decide (60 < K.dens.length)
end Go.Proofs.Ytgcbmnohhbcfiaa
