/- The value function of a cake: no program in sight. -/
import Derived.Test.YtgcbmnohhbcfiaaCkP
import Derived.Test.YtgcbmnohhbcfiaaRfD
namespace Go.Proofs.Ytgcbmnohhbcfiaa
set_option linter.unusedVariables false
set_option linter.unusedSimpArgs false

def sumQ (f : Nat → Rat) : Nat → Rat
  | 0 => 0
  | k + 1 => sumQ f k + f k
theorem sumQ_congr {f g : Nat → Rat} : ∀ {k : Nat}, (∀ i, i < k → f i = g i) → sumQ f k = sumQ g k
  | 0, _ => rfl
  | k + 1, h => by rw [sumQ, sumQ, sumQ_congr (fun i hi => h i (by omega)), h k (by omega)]
theorem sumQ_sub (f g : Nat → Rat) : ∀ k, sumQ f k - sumQ g k = sumQ (fun i => f i - g i) k
  | 0 => by simp only [sumQ]; grind
  | k + 1 => by have := sumQ_sub f g k; simp only [sumQ]; grind
theorem sumQ_zero {f : Nat → Rat} : ∀ {k : Nat}, (∀ i, i < k → f i = 0) → sumQ f k = 0
  | 0, _ => rfl
  | k + 1, h => by rw [sumQ, sumQ_zero (fun i hi => h i (by omega)), h k (by omega)]; grind
theorem sumQ_nonneg {f : Nat → Rat} : ∀ {k : Nat}, (∀ i, i < k → 0 ≤ f i) → 0 ≤ sumQ f k
  | 0, _ => by simp [sumQ]
  | k + 1, h => by have := sumQ_nonneg (k := k) (fun i hi => h i (by omega)); have := h k (by omega); simp only [sumQ]; grind
theorem sumQ_single {f : Nat → Rat} {i : Nat} : ∀ {n : Nat}, i < n → (∀ j, j < n → j ≠ i → f j = 0) → sumQ f n = f i
  | 0, h, _ => by omega
  | n + 1, hi, h => by
    rw [sumQ]
    by_cases e : i = n
    · subst e; rw [sumQ_zero (fun j hj => h j (by omega) (by omega))]; grind
    · rw [sumQ_single (i := i) (by omega) (fun j hj => h j (by omega)), h n (by omega) (by omega)]; grind
theorem sumQ_int (f : Nat → Int) : ∀ k, sumQ (fun i => ((f i : Int) : Rat)) k = ((sumTo f k : Int) : Rat)
  | 0 => by simp [sumQ, sumTo]
  | k + 1 => by rw [sumQ, sumTo, sumQ_int f k, Rat.intCast_add]

theorem whole_q (n : Int) : (Rt.mk n 1).q = (n : Rat) := by unfold Rt.q; exact Rat.num_divInt_den (n : Rat)
theorem ltB_q {a b : Rt} (ha : a.Ok) (hb : b.Ok) : ltB a b = true ↔ a.q < b.q := by
  unfold ltB; rw [decide_eq_true_iff]
theorem ltB_qf {a b : Rt} (ha : a.Ok) (hb : b.Ok) : ltB a b = false ↔ b.q ≤ a.q := by
  rw [← Bool.not_eq_true, ltB_q ha hb, Rat.not_lt]
theorem num_q {a : Rt} (ha : a.Ok) : (0 ≤ a.n ↔ 0 ≤ a.q) ∧ (0 < a.n ↔ 0 < a.q) := by
  rw [← ha.num]
  refine ⟨Rat.num_nonneg, ?_⟩
  have := Rat.num_nonneg (q := -a.q)
  rw [Rat.neg_num] at this
  constructor
  · intro h; rcases Classical.em (0 < a.q) with k | k
    · exact k
    · have := this.2 (by grind); omega
  · intro h; rcases Int.lt_or_le 0 a.q.num with k | k
    · exact k
    · have := this.1 (by omega); grind
theorem inR_int {n : Int} (h0 : -1000000000000000000 ≤ n) (h1 : n ≤ 1000000000000000000) : inR (n : Rat) := by
  unfold inR; rw [Rat.num_intCast, Rat.den_intCast]; omega
theorem mkR_int {n : Int} (h0 : -1000000000000000000 ≤ n) (h1 : n ≤ 1000000000000000000) : mkR (n : Rat) = ⟨n, 1⟩ ∧ mkC (n : Rat) = 0 := by
  have h := inR_int h0 h1
  unfold mkR mkC; rw [if_pos h, if_pos h, Rat.num_intCast, Rat.den_intCast]; exact ⟨rfl, rfl⟩

/-- The value up to a point. -/
def Ck.V (K : Ck) (x : Rat) : Rat := sumQ (fun i => (gi K.dens i : Rat) * (min x (gi K.cuts (i + 1) : Rat) - min x (gi K.cuts i : Rat))) K.dens.length
theorem Ck.Ok.riseQ {K : Ck} (h : K.Ok) {i : Nat} (hi : i < K.dens.length) : (gi K.cuts i : Rat) < (gi K.cuts (i + 1) : Rat) := Rat.intCast_lt_intCast.2 (h.rise i hi)
theorem Ck.Ok.monoQ {K : Ck} (h : K.Ok) {i j : Nat} (hij : i ≤ j) (hj : j ≤ K.dens.length) : (gi K.cuts i : Rat) ≤ (gi K.cuts j : Rat) := Rat.intCast_le_intCast.2 (h.mono hij hj)
theorem Ck.Ok.fitQ {K : Ck} (h : K.Ok) {i : Nat} (hi : i < K.dens.length) : (0 : Rat) ≤ (gi K.dens i : Rat) := Rat.intCast_le_intCast.2 (h.fit i hi).1
theorem Ck.Ok.V_mono {K : Ck} (h : K.Ok) {x y : Rat} (hxy : x ≤ y) : K.V x ≤ K.V y := by
  have : 0 ≤ K.V y - K.V x := by
    unfold Ck.V
    rw [sumQ_sub]
    refine sumQ_nonneg fun i hi => ?_
    have r := h.riseQ hi
    have d := h.fitQ hi
    have e : 0 ≤ (min y (gi K.cuts (i + 1) : Rat) - min y (gi K.cuts i : Rat)) - (min x (gi K.cuts (i + 1) : Rat) - min x (gi K.cuts i : Rat)) := by grind
    have := Rat.mul_nonneg d e
    grind
  grind
/-- Within an interval the value grows by its density. -/
theorem Ck.Ok.V_in {K : Ck} (h : K.Ok) {i : Nat} (hi : i < K.dens.length) {x y : Rat} (h0 : (gi K.cuts i : Rat) ≤ x) (h1 : x ≤ y) (h2 : y ≤ (gi K.cuts (i + 1) : Rat)) : K.V y - K.V x = (gi K.dens i : Rat) * (y - x) := by
  unfold Ck.V
  rw [sumQ_sub, sumQ_single hi]
  · have r := h.riseQ hi
    have e1 : min y (gi K.cuts (i + 1) : Rat) - min y (gi K.cuts i : Rat) = y - (gi K.cuts i : Rat) := by grind
    have e2 : min x (gi K.cuts (i + 1) : Rat) - min x (gi K.cuts i : Rat) = x - (gi K.cuts i : Rat) := by grind
    rw [e1, e2]; grind
  · intro j hj hne
    have r := h.riseQ hj
    rcases Nat.lt_or_ge j i with k | k
    · have m := h.monoQ (show j + 1 ≤ i by omega) (by omega)
      have e1 : min y (gi K.cuts (j + 1) : Rat) - min y (gi K.cuts j : Rat) = min x (gi K.cuts (j + 1) : Rat) - min x (gi K.cuts j : Rat) := by grind
      rw [e1]; grind
    · have m := h.monoQ (show i + 1 ≤ j by omega) (by omega)
      have e1 : min y (gi K.cuts (j + 1) : Rat) - min y (gi K.cuts j : Rat) = min x (gi K.cuts (j + 1) : Rat) - min x (gi K.cuts j : Rat) := by grind
      rw [e1]; grind
theorem Ck.Ok.c0Q {K : Ck} (h : K.Ok) : (gi K.cuts 0 : Rat) = 0 := by rw [h.c0]; rfl
theorem Ck.Ok.cnQ {K : Ck} (h : K.Ok) : (gi K.cuts K.dens.length : Rat) = (K.len : Rat) := by rw [h.cn]
theorem Ck.Ok.V_zero {K : Ck} (h : K.Ok) : K.V 0 = 0 := by
  unfold Ck.V
  refine sumQ_zero fun i hi => ?_
  have m := h.monoQ (Nat.zero_le i) (by omega)
  have m' := h.monoQ (Nat.zero_le (i + 1)) (by omega)
  rw [h.c0Q] at m m'
  have e : min (0 : Rat) (gi K.cuts (i + 1) : Rat) - min (0 : Rat) (gi K.cuts i : Rat) = 0 := by grind
  rw [e]; grind
theorem Ck.Ok.V_cut {K : Ck} (h : K.Ok) {k : Nat} (hk : k ≤ K.dens.length) : K.V (gi K.cuts k : Rat) = ((K.upTo k : Int) : Rat) := by
  induction k with
  | zero => rw [h.c0Q, h.V_zero]; rfl
  | succ k ih =>
    have e := h.V_in (i := k) (by omega) (x := (gi K.cuts k : Rat)) (y := (gi K.cuts (k + 1) : Rat)) (by grind) (by have := h.riseQ (i := k) (by omega); grind) (by grind)
    rw [ih (by omega)] at e
    rw [Ck.upTo_succ, Rat.intCast_add, Rat.intCast_mul, Rat.intCast_sub]; grind
theorem Ck.Ok.V_len {K : Ck} (h : K.Ok) : K.V (K.len : Rat) = ((K.total : Int) : Rat) := by rw [← h.cnQ, h.V_cut (Nat.le_refl _)]; rfl
theorem Ck.Ok.total_bd {K : Ck} (h : K.Ok) : 1 ≤ K.total ∧ K.total ≤ 12 * K.len := by
  have a := h.upTo_bd (Nat.le_refl _)
  rw [h.cn] at a
  refine ⟨?_, a.2⟩
  obtain ⟨i, hi, hp⟩ := h.some
  have e : K.upTo (i + 1) ≤ K.upTo K.dens.length := by
    have : ∀ j, i + 1 ≤ j → j ≤ K.dens.length → K.upTo (i + 1) ≤ K.upTo j := by
      intro j
      induction j with
      | zero => omega
      | succ j ih =>
        intro h1 h2
        by_cases c : i + 1 = j + 1
        · rw [c]; exact Int.le_refl _
        · have := ih (by omega) (by omega)
          have p := (h.prod_bd (k := j) (by omega)).1
          have q := Ck.upTo_succ K j
          omega
    exact this _ (by omega) (Nat.le_refl _)
  have b := (h.upTo_bd (k := i) (by omega)).1
  have r := h.rise i hi
  have p : 1 ≤ gi K.dens i * (gi K.cuts (i + 1) - gi K.cuts i) := by
    have := Int.mul_pos hp (show 0 < gi K.cuts (i + 1) - gi K.cuts i by omega)
    omega
  have s := Ck.upTo_succ K i
  have t : K.total = K.upTo K.dens.length := rfl
  omega
end Go.Proofs.Ytgcbmnohhbcfiaa
