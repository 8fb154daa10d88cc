/- Sums of rational numbers, in any order: no program in sight. -/
import Derived.Test.YtpijllobpohpgaaPlain
import Derived.Test.YtpijllobpohpgaaSortP
import Derived.Test.YtpijllobpohpgaaMkP
namespace Go.Proofs.Ytpijllobpohpgaa
set_option linter.unusedVariables false
set_option linter.unusedSimpArgs false

def sumQ (f : Nat → Rat) : Nat → Rat
  | 0 => 0
  | k + 1 => sumQ f k + f k
theorem sumQ_succ (f : Nat → Rat) (k : Nat) : sumQ f (k + 1) = sumQ f k + f k := rfl
theorem sumQ_congr {f g : Nat → Rat} : ∀ {k : Nat}, (∀ i, i < k → f i = g i) → sumQ f k = sumQ g k
  | 0, _ => rfl
  | k + 1, h => by rw [sumQ, sumQ, sumQ_congr (fun i hi => h i (by omega)), h k (by omega)]
theorem sumQ_add (f g : Nat → Rat) : ∀ k, sumQ (fun i => f i + g i) k = sumQ f k + sumQ g k
  | 0 => by simp only [sumQ]; grind
  | k + 1 => by have := sumQ_add f g k; simp only [sumQ]; grind
theorem sumQ_sub (f g : Nat → Rat) : ∀ k, sumQ (fun i => f i - g i) k = sumQ f k - sumQ g k
  | 0 => by simp only [sumQ]; grind
  | k + 1 => by have := sumQ_sub f g k; simp only [sumQ]; grind
theorem sumQ_mul (c : Rat) (f : Nat → Rat) : ∀ k, sumQ (fun i => c * f i) k = c * sumQ f k
  | 0 => by simp only [sumQ]; grind
  | k + 1 => by have := sumQ_mul c f k; simp only [sumQ]; grind
theorem sumQ_mul' (c : Rat) (f : Nat → Rat) : ∀ k, sumQ (fun i => f i * c) k = sumQ f k * c
  | 0 => by simp only [sumQ]; grind
  | k + 1 => by have := sumQ_mul' c f k; simp only [sumQ]; grind
theorem sumQ_zero {f : Nat → Rat} : ∀ {k : Nat}, (∀ i, i < k → f i = 0) → sumQ f k = 0
  | 0, _ => rfl
  | k + 1, h => by rw [sumQ, sumQ_zero (fun i hi => h i (by omega)), h k (by omega)]; grind
theorem sumQ_nonneg {f : Nat → Rat} : ∀ {k : Nat}, (∀ i, i < k → 0 ≤ f i) → 0 ≤ sumQ f k
  | 0, _ => by simp [sumQ]
  | k + 1, h => by have := sumQ_nonneg (k := k) (fun i hi => h i (by omega)); have := h k (by omega); simp only [sumQ]; grind
theorem sumQ_mono {f g : Nat → Rat} : ∀ {k : Nat}, (∀ i, i < k → f i ≤ g i) → sumQ f k ≤ sumQ g k
  | 0, _ => by simp [sumQ]
  | k + 1, h => by have := sumQ_mono (k := k) (fun i hi => h i (by omega)); have := h k (by omega); simp only [sumQ]; grind
theorem sumQ_single {f : Nat → Rat} {i : Nat} : ∀ {n : Nat}, i < n → (∀ j, j < n → j ≠ i → f j = 0) → sumQ f n = f i
  | 0, h, _ => by omega
  | n + 1, hi, h => by
    rw [sumQ]
    by_cases e : i = n
    · subst e; rw [sumQ_zero (fun j hj => h j (by omega) (by omega))]; grind
    · rw [sumQ_single (i := i) (by omega) (fun j hj => h j (by omega)), h n (by omega) (by omega)]; grind
theorem sumQ_int (f : Nat → Int) : ∀ k, sumQ (fun i => ((f i : Int) : Rat)) k = ((sumTo f k : Int) : Rat)
  | 0 => by simp [sumQ, sumTo]
  | k + 1 => by rw [sumQ, sumTo, sumQ_int f k, Rat.intCast_add]
/-- One that is less, none that is greater: the sum is less. -/
theorem sumQ_lt {f g : Nat → Rat} {i : Nat} : ∀ {k : Nat}, i < k → f i < g i → (∀ j, j < k → f j ≤ g j) → sumQ f k < sumQ g k
  | 0, h, _, _ => by omega
  | k + 1, hi, hl, h => by
    by_cases e : i = k
    · subst e; have := sumQ_mono (k := i) (fun j hj => h j (by omega)); simp only [sumQ]; grind
    · have := sumQ_lt (k := k) (i := i) (by omega) hl (fun j hj => h j (by omega)); have := h k (by omega); simp only [sumQ]; grind

/-- The sum of a list. -/
def lsum : List Rat → Rat
  | [] => 0
  | x :: l => x + lsum l
theorem lsum_app : ∀ (l m : List Rat), lsum (l ++ m) = lsum l + lsum m
  | [], m => by simp only [List.nil_append, lsum]; grind
  | x :: l, m => by have := lsum_app l m; simp only [List.cons_append, lsum]; grind
theorem lsum_perm {l m : List Rat} (h : l.Perm m) : lsum l = lsum m := by
  induction h with
  | nil => rfl
  | cons x _ ih => simp only [lsum, ih]
  | swap x y l => simp only [lsum]; grind
  | trans _ _ h1 h2 => rw [h1, h2]
theorem lsum_range (f : Nat → Rat) : ∀ n, lsum ((List.range n).map f) = sumQ f n
  | 0 => rfl
  | n + 1 => by rw [List.range_succ, List.map_append, lsum_app, lsum_range f n, sumQ]; simp only [List.map_cons, List.map_nil, lsum]; grind
/-- The elements of a list, by place. -/
def gn (l : List Nat) (k : Nat) : Nat := l.getD k 0
theorem gn_get {l : List Nat} {k : Nat} (h : k < l.length) : gn l k = l[k] := by
  simp [gn, List.getD_eq_getElem?_getD, List.getElem?_eq_getElem h]
theorem map_gn (l : List Nat) : (List.range l.length).map (gn l) = l := by
  refine List.ext_getElem (by simp) (fun i h1 h2 => ?_)
  rw [List.getElem_map, List.getElem_range, gn_get h2]
/-- A sum in another order. -/
theorem sumQ_perm {l : List Nat} {n : Nat} (h : l.Perm (List.range n)) (f : Nat → Rat) : sumQ (fun k => f (gn l k)) n = sumQ f n := by
  have hl : l.length = n := by rw [h.length_eq, List.length_range]
  rw [← lsum_range, ← lsum_range]
  have e : (List.range n).map (fun k => f (gn l k)) = l.map f := by
    rw [← hl]
    conv => rhs; rw [← map_gn l]
    rw [List.map_map]; rfl
  rw [e]
  exact lsum_perm (h.map f)
theorem sumTo_perm {l : List Nat} {n : Nat} (h : l.Perm (List.range n)) (f : Nat → Int) : sumTo (fun k => f (gn l k)) n = sumTo f n := by
  have := sumQ_perm h (fun k => ((f k : Int) : Rat))
  rw [sumQ_int, sumQ_int (fun k => f k)] at this
  exact Rat.intCast_inj.1 this
end Go.Proofs.Ytpijllobpohpgaa

namespace Go.Proofs.Ytpijllobpohpgaa
set_option linter.unusedVariables false
set_option linter.unusedSimpArgs false

/-- Two rows in the order of their ratios, the greatest first. -/
structure Desc (A B : Nat → Int) (n : Nat) : Prop where
  n0 : 0 < n
  a0 : ∀ k, k < n → 0 ≤ A k
  b0 : ∀ k, k < n → 0 ≤ B k
  ab : ∀ k, k < n → 0 < A k ∨ 0 < B k
  sa : 0 < sumTo A n
  sb : 0 < sumTo B n
  desc : ∀ i j, i < j → j < n → A j * B i ≤ A i * B j
/-- What the first k are worth to the one, and what the others are worth to the other. -/
def mM (A : Nat → Int) (k : Nat) : Int := sumTo A k
def mY (B : Nat → Int) (n k : Nat) : Int := sumTo B n - sumTo B k
def nK (A B : Nat → Int) (n k : Nat) : Int := A k * mY B n k - B k * mM A k
def dK (A B : Nat → Int) (k : Nat) : Int := 2 * A k * B k
/-- The whole good is taken. -/
def goB (A B : Nat → Int) (n k : Nat) : Bool := decide (0 < A k) && decide (dK A B k ≤ nK A B n k)
def stopF (g : Nat → Bool) : Nat → Nat → Nat
  | 0, k => k
  | f + 1, k => if g k then stopF g f (k + 1) else k
/-- Where it stops. -/
def mT (A B : Nat → Int) (n : Nat) : Nat := stopF (goB A B n) n 0
theorem stopF_spec (g : Nat → Bool) : ∀ f k, k ≤ stopF g f k ∧ stopF g f k ≤ k + f ∧ (∀ j, k ≤ j → j < stopF g f k → g j = true) ∧ (stopF g f k < k + f → g (stopF g f k) = false)
  | 0, k => ⟨Nat.le_refl _, Nat.le_refl _, fun j h1 h2 => by simp only [stopF] at h2; omega, fun h => by simp only [stopF] at h; omega⟩
  | f + 1, k => by
    rw [stopF]
    cases h : g k with
    | true =>
      rw [if_pos rfl]
      obtain ⟨a, b, c, d⟩ := stopF_spec g f (k + 1)
      refine ⟨by omega, by omega, fun j h1 h2 => ?_, fun hl => d (by omega)⟩
      by_cases e : j = k
      · subst e; exact h
      · exact c j (by omega) h2
    | false =>
      rw [if_neg (by decide)]
      exact ⟨Nat.le_refl _, by omega, fun j h1 h2 => by omega, fun _ => h⟩

section
variable {A B : Nat → Int} {n : Nat}
theorem mM_succ (A : Nat → Int) (k : Nat) : mM A (k + 1) = mM A k + A k := rfl
theorem mY_succ (B : Nat → Int) (n k : Nat) : mY B n (k + 1) = mY B n k - B k := by unfold mY; rw [sumTo]; omega
theorem mY_end (B : Nat → Int) (n : Nat) : mY B n n = 0 := by unfold mY; omega
theorem mY_zero (B : Nat → Int) (n : Nat) : mY B n 0 = sumTo B n := by unfold mY; simp [sumTo]
theorem Desc.m0 (h : Desc A B n) {k : Nat} (hk : k ≤ n) : 0 ≤ mM A k := sumTo_nonneg (fun i hi => h.a0 i (by omega))
theorem Desc.y0 (h : Desc A B n) {k : Nat} (hk : k ≤ n) : 0 ≤ mY B n k := by
  have := sumTo_le_of_nonneg (f := B) (i := k) (n := n) (fun j hj => h.b0 j hj) hk
  unfold mY; omega
theorem Desc.m_mono (h : Desc A B n) {i j : Nat} (hij : i ≤ j) (hj : j ≤ n) : mM A i ≤ mM A j := sumTo_le_of_nonneg (fun k hk => h.a0 k (by omega)) hij
theorem Desc.y_mono (h : Desc A B n) {i j : Nat} (hij : i ≤ j) (hj : j ≤ n) : mY B n j ≤ mY B n i := by
  have := sumTo_le_of_nonneg (f := B) (i := i) (n := j) (fun k hk => h.b0 k (by omega)) hij
  unfold mY; omega
theorem sum_pos_some {f : Nat → Int} : ∀ {k : Nat}, 0 < sumTo f k → ∃ i, i < k ∧ 0 < f i
  | 0, h => by simp [sumTo] at h
  | k + 1, h => by
    rw [sumTo] at h
    by_cases e : 0 < f k
    · exact ⟨k, by omega, e⟩
    · obtain ⟨i, hi, hp⟩ := sum_pos_some (k := k) (f := f) (by omega)
      exact ⟨i, by omega, hp⟩
theorem sum_ge {f : Nat → Int} {i n : Nat} (h : ∀ j, j < n → 0 ≤ f j) (hi : i < n) : f i ≤ sumTo f n := by
  have := sumTo_le_of_nonneg (f := f) (i := i + 1) (n := n) h (by omega)
  have h0 := sumTo_nonneg (f := f) (k := i) (fun j hj => h j (by omega))
  rw [sumTo] at this; omega
/-- The first good is wanted by the one. -/
theorem Desc.a_first (h : Desc A B n) : 0 < A 0 := by
  have n0 := h.n0
  rcases Int.lt_or_le 0 (A 0) with c | c
  · exact c
  · exfalso
    have e : A 0 = 0 := by have := h.a0 0 n0; omega
    have b : 0 < B 0 := by have := h.ab 0 n0; omega
    obtain ⟨i, hi, hp⟩ := sum_pos_some h.sa
    rcases Nat.eq_zero_or_pos i with z | z
    · subst z; omega
    · have := h.desc 0 i z hi
      rw [e, Int.zero_mul] at this
      have := Int.mul_pos hp b
      omega
/-- Behind a good that the other one does not want, none was wanted. -/
theorem Desc.b_before (h : Desc A B n) {k : Nat} (hk : k < n) (hb : B k = 0) {i : Nat} (hi : i < k) : B i = 0 := by
  have a : 0 < A k := by have := h.ab k hk; omega
  have := h.desc i k hi hk
  rw [hb, Int.mul_zero] at this
  have b := h.b0 i (by omega)
  rcases Int.lt_or_le 0 (B i) with c | c
  · have := Int.mul_pos a c; omega
  · omega
theorem Desc.b_sum (h : Desc A B n) {k : Nat} (hk : k < n) (hb : B k = 0) : mY B n k = sumTo B n := by
  have : sumTo B k = 0 := by
    rw [sumTo_congr (g := fun _ => 0) (fun i hi => h.b_before hk hb hi), sumTo_zero]
  unfold mY; omega
/-- Where the other one still has something to get, or not. -/
theorem Desc.y_pos (h : Desc A B n) {k : Nat} (hk : k < n) : 0 < mY B n k := by
  rcases Int.lt_or_le 0 (mY B n k) with c | c
  · exact c
  · exfalso
    have y := h.y0 (k := k) (by omega)
    have b : B k = 0 := by
      have s := mY_succ B n k
      have := h.y0 (k := k + 1) (by omega)
      have := h.b0 k hk
      omega
    have := h.b_sum hk b
    have := h.sb
    omega
/-- With a whole good taken, it is worth more to the one. -/
theorem go_spec {k : Nat} (hg : goB A B n k = true) : 0 < A k ∧ dK A B k ≤ nK A B n k := by
  unfold goB at hg; rw [Bool.and_eq_true, decide_eq_true_eq, decide_eq_true_eq] at hg; exact hg
theorem go_after {k : Nat} (hg : goB A B n k = true) : B k * mM A (k + 1) ≤ A k * mY B n (k + 1) := by
  obtain ⟨_, h⟩ := go_spec hg
  unfold dK nK at h
  rw [mM_succ, mY_succ, Int.mul_add, Int.mul_sub]
  have e1 : 2 * A k * B k = A k * B k + A k * B k := by rw [Int.mul_assoc]; omega
  have e2 : B k * A k = A k * B k := Int.mul_comm _ _
  omega
/-- It stops before the end. -/
theorem Desc.t_spec (h : Desc A B n) : mT A B n < n ∧ (∀ k, k < mT A B n → goB A B n k = true) ∧ goB A B n (mT A B n) = false := by
  obtain ⟨_, b, c, d⟩ := stopF_spec (goB A B n) n 0
  have b : mT A B n ≤ n := by have : mT A B n = stopF (goB A B n) n 0 := rfl; omega
  have c' : ∀ k, k < mT A B n → goB A B n k = true := fun k hk => c k (Nat.zero_le _) hk
  have lt : mT A B n < n := by
    rcases Nat.lt_or_ge (mT A B n) n with q | q
    · exact q
    · exfalso
      have n0 := h.n0
      have g := c' (n - 1) (by omega)
      have ga := go_after g
      rw [Nat.sub_add_cancel (by omega), mY_end, Int.mul_zero] at ga
      have m : 0 < mM A n := h.sa
      have b0 := h.b0 (n - 1) (by omega)
      have bz : B (n - 1) = 0 := by
        rcases Int.lt_or_le 0 (B (n - 1)) with z | z
        · have := Int.mul_pos z m; omega
        · omega
      have := h.b_sum (k := n - 1) (by omega) bz
      have s := mY_succ B n (n - 1)
      rw [Nat.sub_add_cancel (by omega), mY_end] at s
      have := h.sb
      omega
  exact ⟨lt, c', d (by have : mT A B n = stopF (goB A B n) n 0 := rfl; omega)⟩
theorem Desc.m_pos (h : Desc A B n) {k : Nat} (h0 : 0 < k) (hk : k ≤ n) : 0 < mM A k := by
  have := h.a_first
  have m := h.m_mono (i := 1) (j := k) h0 hk
  have e : mM A 1 = A 0 := by unfold mM; simp [sumTo]
  omega
/-- The first good is taken, at least in part. -/
theorem Desc.n_first (h : Desc A B n) : 0 < nK A B n 0 := by
  unfold nK
  have e : mM A 0 = 0 := rfl
  rw [mY_zero, e, Int.mul_zero, Int.sub_zero]
  exact Int.mul_pos h.a_first h.sb
/-- How it stops: nothing more, or a part. -/
theorem Desc.t_part (h : Desc A B n) (hp : 0 < nK A B n (mT A B n)) : 0 < A (mT A B n) ∧ 0 < B (mT A B n) ∧ nK A B n (mT A B n) < dK A B (mT A B n) := by
  obtain ⟨lt, _, g⟩ := h.t_spec
  generalize mT A B n = t at *
  have a : 0 < A t := by
    have a0 := h.a0 t lt
    rcases Int.lt_or_le 0 (A t) with c | c
    · exact c
    · exfalso
      have e : A t = 0 := by omega
      unfold nK at hp
      rw [e, Int.zero_mul] at hp
      have := Int.mul_nonneg (h.b0 t lt) (h.m0 (k := t) (by omega))
      omega
  have d : nK A B n t < dK A B t := by
    unfold goB at g
    rw [Bool.and_eq_false_iff, decide_eq_false_iff_not, decide_eq_false_iff_not] at g
    rcases g with g | g <;> omega
  refine ⟨a, ?_, d⟩
  have b0 := h.b0 t lt
  rcases Int.lt_or_le 0 (B t) with c | c
  · exact c
  · exfalso
    have e : B t = 0 := by omega
    unfold dK at d
    rw [e, Int.mul_zero] at d
    omega
/-- The stops of the reference. -/
def okB (A B : Nat → Int) (n t : Nat) : Prop := 0 < mM A t ∧ 0 < mY B n t ∧ (∀ k, k < t → B k * mM A t ≤ A k * mY B n t) ∧ (∀ k, t ≤ k → k < n → A k * mY B n t ≤ B k * mM A t)
/-- From a good on, the other one has as much for its worth. -/
theorem Desc.chain_up (h : Desc A B n) {i j : Nat} (hij : i < j) (hj : j < n) {M Y : Int} (hM : 0 ≤ M) (hY : 0 < Y) (hi : A i * Y ≤ B i * M) : A j * Y ≤ B j * M := by
  have d := h.desc i j hij hj
  have b : 0 < B i := by
    rcases Int.lt_or_le 0 (B i) with c | c
    · exact c
    · exfalso
      have b0 := h.b0 i (by omega)
      have e : B i = 0 := by omega
      have a : 0 < A i := by have := h.ab i (by omega); omega
      rw [e, Int.zero_mul] at hi
      have := Int.mul_pos a hY; omega
  have k1 : A j * B i * Y ≤ A i * B j * Y := Int.mul_le_mul_of_nonneg_right d (by omega)
  have k2 : B j * (A i * Y) ≤ B j * (B i * M) := Int.mul_le_mul_of_nonneg_left hi (h.b0 j hj)
  have e1 : A j * B i * Y = B i * (A j * Y) := by ac_rfl
  have e2 : A i * B j * Y = B j * (A i * Y) := by ac_rfl
  have e3 : B j * (B i * M) = B i * (B j * M) := by ac_rfl
  exact Int.le_of_mul_le_mul_left (by omega) b
theorem Desc.chain_down (h : Desc A B n) {i j : Nat} (hij : i < j) (hj : j < n) {M Y : Int} (hM : 0 ≤ M) (hY : 0 ≤ Y) (ha : 0 < A j) (hi : B j * M ≤ A j * Y) : B i * M ≤ A i * Y := by
  have d := h.desc i j hij hj
  have k1 : A j * B i * M ≤ A i * B j * M := Int.mul_le_mul_of_nonneg_right d hM
  have k2 : A i * (B j * M) ≤ A i * (A j * Y) := Int.mul_le_mul_of_nonneg_left hi (h.a0 i (by omega))
  have e1 : A j * B i * M = A j * (B i * M) := by ac_rfl
  have e2 : A i * B j * M = A i * (B j * M) := by ac_rfl
  have e3 : A i * (A j * Y) = A j * (A i * Y) := by ac_rfl
  exact Int.le_of_mul_le_mul_left (by omega) ha
/-- No stop of the reference before. -/
theorem Desc.ok_before (h : Desc A B n) {t k : Nat} (hk : k < n) (hg : goB A B n k = true) : ¬ okB A B n k := by
  intro ho
  obtain ⟨_, y, _, o⟩ := ho
  have o := o k (Nat.le_refl _) hk
  obtain ⟨a, d⟩ := go_spec hg
  unfold nK dK at d
  have b0 := h.b0 k hk
  have ab : 0 ≤ A k * B k := Int.mul_nonneg (by omega) b0
  have e1 : 2 * A k * B k = A k * B k + A k * B k := by rw [Int.mul_assoc]; omega
  have z : A k * B k = 0 := by omega
  have b : B k = 0 := by
    rcases Int.mul_eq_zero.1 z with q | q
    · omega
    · exact q
  rw [b, Int.zero_mul] at o
  have := Int.mul_pos a y
  omega
theorem Desc.ok_stop (h : Desc A B n) (hn : nK A B n (mT A B n) ≤ 0) : okB A B n (mT A B n) := by
  obtain ⟨lt, c, g⟩ := h.t_spec
  have tp : 0 < mT A B n := by
    rcases Nat.eq_zero_or_pos (mT A B n) with z | z
    · have := h.n_first; rw [z] at hn; omega
    · exact z
  generalize mT A B n = t at *
  have mp := h.m_pos tp (by omega)
  have yp := h.y_pos lt
  unfold nK at hn
  refine ⟨mp, yp, fun k hk => ?_, fun k hk hkn => ?_⟩
  · have g1 := c (t - 1) (by omega)
    have ga := go_after g1
    rw [Nat.sub_add_cancel tp] at ga
    by_cases e : k = t - 1
    · subst e; exact ga
    · exact h.chain_down (i := k) (j := t - 1) (by omega) (by omega) (by omega) (by omega) (go_spec g1).1 ga
  · by_cases e : k = t
    · subst e; omega
    · exact h.chain_up (i := t) (j := k) (by omega) hkn (by omega) yp (by omega)
/-- With a part, the reference has no stop. -/
theorem Desc.ok_none (h : Desc A B n) (hp : 0 < nK A B n (mT A B n)) {j : Nat} (hj : j ≤ n) : ¬ okB A B n j := by
  obtain ⟨lt, c, g⟩ := h.t_spec
  obtain ⟨a, b, d⟩ := h.t_part hp
  generalize mT A B n = t at *
  rcases Nat.lt_or_ge j t with q | q
  · exact h.ok_before (t := t) (by omega) (c j q)
  · rintro ⟨m, y, o1, o2⟩
    rcases Nat.lt_or_ge t j with z | z
    · have o := o1 t z
      have m1 := h.m_mono (i := t + 1) (j := j) z hj
      have y1 := h.y_mono (i := t + 1) (j := j) z hj
      rw [mM_succ] at m1; rw [mY_succ] at y1
      have k1 : B t * (mM A t + A t) ≤ B t * mM A j := Int.mul_le_mul_of_nonneg_left m1 (by omega)
      have k2 : A t * mY B n j ≤ A t * (mY B n t - B t) := Int.mul_le_mul_of_nonneg_left y1 (by omega)
      unfold nK dK at d
      rw [Int.mul_add] at k1; rw [Int.mul_sub] at k2
      have e1 : 2 * A t * B t = A t * B t + A t * B t := by rw [Int.mul_assoc]; omega
      have e2 : B t * A t = A t * B t := Int.mul_comm _ _
      omega
    · have e : j = t := by omega
      subst e
      have o := o2 j (Nat.le_refl _) lt
      unfold nK at hp
      omega
end
end Go.Proofs.Ytpijllobpohpgaa

namespace Go.Proofs.Ytpijllobpohpgaa
set_option linter.unusedVariables false
set_option linter.unusedSimpArgs false

/-- Shares at which both have bought what is best for them. -/
structure Eqm (a b : Nat → Rat) (n : Nat) (s : Nat → Rat) (U0 U1 : Rat) : Prop where
  a0 : ∀ g, g < n → 0 ≤ a g
  b0 : ∀ g, g < n → 0 ≤ b g
  s0 : ∀ g, g < n → 0 ≤ s g
  s1 : ∀ g, g < n → s g ≤ 1
  u0 : U0 = sumQ (fun g => a g * s g) n
  u1 : U1 = sumQ (fun g => b g * (1 - s g)) n
  p0 : 0 < U0
  p1 : 0 < U1
  buy0 : ∀ g, g < n → 0 < s g → b g * U0 ≤ a g * U1
  buy1 : ∀ g, g < n → s g < 1 → a g * U1 ≤ b g * U0
/-- Prices at which they have. -/
structure Pay (a b : Nat → Rat) (n : Nat) (s : Nat → Rat) (U0 U1 : Rat) (p : Nat → Rat) : Prop where
  a0 : ∀ g, g < n → 0 ≤ a g
  b0 : ∀ g, g < n → 0 ≤ b g
  s0 : ∀ g, g < n → 0 ≤ s g
  s1 : ∀ g, g < n → s g ≤ 1
  u0 : U0 = sumQ (fun g => a g * s g) n
  u1 : U1 = sumQ (fun g => b g * (1 - s g)) n
  p0 : 0 < U0
  p1 : 0 < U1
  le0 : ∀ g, g < n → a g ≤ p g * U0
  le1 : ∀ g, g < n → b g ≤ p g * U1
  eq0 : ∀ g, g < n → 0 < s g → p g * U0 = a g
  eq1 : ∀ g, g < n → s g < 1 → p g * U1 = b g
def eqP (a b : Nat → Rat) (s : Nat → Rat) (U0 U1 : Rat) (g : Nat) : Rat := if 0 < s g then a g / U0 else b g / U1
theorem mul_pos_ {a b : Rat} (h : 0 < a) (k : 0 < b) : 0 < a * b := Rat.mul_pos h k
theorem mul_nn {a b : Rat} (h : 0 ≤ a) (k : 0 ≤ b) : 0 ≤ a * b := Rat.mul_nonneg h k
theorem mul_le_r {a b c : Rat} (h : a ≤ b) (k : 0 ≤ c) : a * c ≤ b * c := Rat.mul_le_mul_of_nonneg_right h k
theorem mul_le_l {a b c : Rat} (h : a ≤ b) (k : 0 ≤ c) : c * a ≤ c * b := Rat.mul_le_mul_of_nonneg_left h k
theorem le_of_mul_r {a b c : Rat} (h : a * c ≤ b * c) (k : 0 < c) : a ≤ b := by
  rcases Classical.em (a ≤ b) with q | q
  · exact q
  · exfalso
    have q : b < a := Rat.not_le.1 q
    have := mul_pos_ (show 0 < a - b by grind) k
    grind
theorem eq_of_mul_r {a b c : Rat} (h : a * c = b * c) (k : 0 < c) : a = b := by
  have h1 := le_of_mul_r (a := a) (b := b) (c := c) (by grind) k
  have h2 := le_of_mul_r (a := b) (b := a) (c := c) (by grind) k
  grind
theorem div_mul_ {a c : Rat} (k : 0 < c) : a / c * c = a := Rat.div_mul_cancel (by grind)
section
variable {a b : Nat → Rat} {n : Nat} {s x p : Nat → Rat} {U0 U1 V0 V1 : Rat}
theorem Eqm.pay (h : Eqm a b n s U0 U1) : Pay a b n s U0 U1 (eqP a b s U0 U1) := by
  refine ⟨h.a0, h.b0, h.s0, h.s1, h.u0, h.u1, h.p0, h.p1, fun g hg => ?_, fun g hg => ?_, fun g hg hs => ?_, fun g hg hs => ?_⟩
  · unfold eqP
    split
    · rw [div_mul_ h.p0]; grind
    · rename_i c
      have e : s g < 1 := by have := h.s0 g hg; grind
      have k := h.buy1 g hg e
      refine le_of_mul_r (c := U1) ?_ h.p1
      have : b g / U1 * U1 = b g := div_mul_ h.p1
      have e2 : b g / U1 * U0 * U1 = b g / U1 * U1 * U0 := by grind
      rw [e2, this]; exact k
  · unfold eqP
    split
    · rename_i c
      have k := h.buy0 g hg c
      refine le_of_mul_r (c := U0) ?_ h.p0
      have : a g / U0 * U0 = a g := div_mul_ h.p0
      have e2 : a g / U0 * U1 * U0 = a g / U0 * U0 * U1 := by grind
      rw [e2, this]; exact k
    · rw [div_mul_ h.p1]; grind
  · unfold eqP; rw [if_pos hs, div_mul_ h.p0]
  · unfold eqP
    split
    · rename_i c
      have k := h.buy0 g hg c
      have k2 := h.buy1 g hg hs
      refine eq_of_mul_r (c := U0) ?_ h.p0
      have : a g / U0 * U0 = a g := div_mul_ h.p0
      have e2 : a g / U0 * U1 * U0 = a g / U0 * U0 * U1 := by grind
      rw [e2, this]; grind
    · exact div_mul_ h.p1
theorem Pay.eqm (h : Pay a b n s U0 U1 p) : Eqm a b n s U0 U1 := by
  refine ⟨h.a0, h.b0, h.s0, h.s1, h.u0, h.u1, h.p0, h.p1, fun g hg hs => ?_, fun g hg hs => ?_⟩
  · have e := h.eq0 g hg hs
    have l := mul_le_r (h.le1 g hg) (show 0 ≤ U0 by have := h.p0; grind)
    rw [← e]
    grind
  · have e := h.eq1 g hg hs
    have l := mul_le_r (h.le0 g hg) (show 0 ≤ U1 by have := h.p1; grind)
    rw [← e]
    grind
theorem Pay.pnn (h : Pay a b n s U0 U1 p) {g : Nat} (hg : g < n) : 0 ≤ p g := by
  refine le_of_mul_r (c := U0) ?_ h.p0
  have := h.le0 g hg; have := h.a0 g hg; grind
/-- Each one pays 1. -/
theorem Pay.pays0 (h : Pay a b n s U0 U1 p) : sumQ (fun g => p g * s g) n = 1 := by
  refine eq_of_mul_r (c := U0) ?_ h.p0
  have e : sumQ (fun g => p g * s g) n * U0 = sumQ (fun g => p g * s g * U0) n := (sumQ_mul' U0 _ n).symm
  rw [e, Rat.one_mul]
  conv => rhs; rw [h.u0]
  refine sumQ_congr fun g hg => ?_
  by_cases c : 0 < s g
  · have := h.eq0 g hg c; grind
  · have := h.s0 g hg
    have z : s g = 0 := by grind
    rw [z]; grind
theorem Pay.pays1 (h : Pay a b n s U0 U1 p) : sumQ (fun g => p g * (1 - s g)) n = 1 := by
  refine eq_of_mul_r (c := U1) ?_ h.p1
  have e : sumQ (fun g => p g * (1 - s g)) n * U1 = sumQ (fun g => p g * (1 - s g) * U1) n := (sumQ_mul' U1 _ n).symm
  rw [e, Rat.one_mul]
  conv => rhs; rw [h.u1]
  refine sumQ_congr fun g hg => ?_
  by_cases c : s g < 1
  · have := h.eq1 g hg c; grind
  · have := h.s1 g hg
    have z : s g = 1 := by grind
    rw [z]; grind
theorem Pay.total (h : Pay a b n s U0 U1 p) : sumQ p n = 2 := by
  have h0 := h.pays0
  have h1 := h.pays1
  have e : sumQ p n = sumQ (fun g => p g * s g + p g * (1 - s g)) n := sumQ_congr fun g hg => by grind
  rw [e, sumQ_add, h0, h1]; grind
/-- What other shares are worth, by the prices. -/
theorem Pay.worth0 (h : Pay a b n s U0 U1 p) (x0 : ∀ g, g < n → 0 ≤ x g) : sumQ (fun g => a g * x g) n ≤ sumQ (fun g => p g * x g) n * U0 := by
  rw [← sumQ_mul']
  refine sumQ_mono fun g hg => ?_
  have := mul_le_r (h.le0 g hg) (x0 g hg)
  grind
theorem Pay.worth1 (h : Pay a b n s U0 U1 p) (x1 : ∀ g, g < n → x g ≤ 1) : sumQ (fun g => b g * (1 - x g)) n ≤ (2 - sumQ (fun g => p g * x g) n) * U1 := by
  have t := h.total
  have e : 2 - sumQ (fun g => p g * x g) n = sumQ (fun g => p g * (1 - x g)) n := by
    rw [← t, ← sumQ_sub]
    exact sumQ_congr fun g hg => by grind
  rw [e, ← sumQ_mul']
  refine sumQ_mono fun g hg => ?_
  have := mul_le_r (h.le1 g hg) (show 0 ≤ 1 - x g by have := x1 g hg; grind)
  grind
theorem sq_one (y : Rat) : y * (2 - y) ≤ 1 := by
  have : 0 ≤ (1 - y) * (1 - y) := by
    rcases Classical.em (0 ≤ 1 - y) with c | c
    · exact mul_nn c c
    · have c : 1 - y < 0 := Rat.not_le.1 c
      have := mul_nn (a := y - 1) (b := y - 1) (by grind) (by grind)
      grind
  grind
theorem sq_eq {y : Rat} (h : 1 ≤ y * (2 - y)) : y = 1 := by
  rcases Classical.em (y = 1) with c | c
  · exact c
  · exfalso
    rcases Classical.em (y < 1) with q | q
    · have := mul_pos_ (a := 1 - y) (b := 1 - y) (by grind) (by grind); grind
    · have := mul_pos_ (a := y - 1) (b := y - 1) (by grind) (by grind); grind
/-- No shares have a greater product. -/
theorem Pay.greatest (h : Pay a b n s U0 U1 p) (x0 : ∀ g, g < n → 0 ≤ x g) (x1 : ∀ g, g < n → x g ≤ 1) :
    sumQ (fun g => a g * x g) n * sumQ (fun g => b g * (1 - x g)) n ≤ U0 * U1 := by
  have h0 := h.worth0 x0
  have h1 := h.worth1 x1
  have y0 : 0 ≤ sumQ (fun g => p g * x g) n := sumQ_nonneg fun g hg => mul_nn (h.pnn hg) (x0 g hg)
  have d0 : 0 ≤ sumQ (fun g => b g * (1 - x g)) n := sumQ_nonneg fun g hg => mul_nn (h.b0 g hg) (by have := x1 g hg; grind)
  generalize sumQ (fun g => a g * x g) n = c at *
  generalize sumQ (fun g => b g * (1 - x g)) n = d at *
  generalize sumQ (fun g => p g * x g) n = y at *
  have k1 : c * d ≤ y * U0 * d := mul_le_r h0 d0
  have k2 : y * U0 * d ≤ y * U0 * ((2 - y) * U1) := mul_le_l h1 (mul_nn y0 (by have := h.p0; grind))
  have k3 := mul_le_r (sq_one y) (show 0 ≤ U0 * U1 from mul_nn (by have := h.p0; grind) (by have := h.p1; grind))
  grind
/-- There is one pair of worths alone. -/
theorem Pay.unique {p' : Nat → Rat} (h : Pay a b n s U0 U1 p) (k : Pay a b n x V0 V1 p') : U0 = V0 ∧ U1 = V1 := by
  have h0 := h.worth0 k.s0; rw [← k.u0] at h0
  have h1 := h.worth1 k.s1; rw [← k.u1] at h1
  have k0 := k.worth0 h.s0; rw [← h.u0] at k0
  have k1 := k.worth1 h.s1; rw [← h.u1] at k1
  have hp := h.greatest k.s0 k.s1; rw [← k.u0, ← k.u1] at hp
  have kp := k.greatest h.s0 h.s1; rw [← h.u0, ← h.u1] at kp
  have y0 : 0 ≤ sumQ (fun g => p g * x g) n := sumQ_nonneg fun g hg => mul_nn (h.pnn hg) (k.s0 g hg)
  have z0 : 0 ≤ sumQ (fun g => p' g * s g) n := sumQ_nonneg fun g hg => mul_nn (k.pnn hg) (h.s0 g hg)
  have u0 := h.p0; have u1 := h.p1; have v0 := k.p0; have v1 := k.p1
  generalize sumQ (fun g => p g * x g) n = y at *
  generalize sumQ (fun g => p' g * s g) n = z at *
  have key : ∀ {U0 U1 V0 V1 y : Rat}, 0 < U0 → 0 < U1 → 0 < V0 → 0 < V1 → 0 ≤ y → V0 ≤ y * U0 → V1 ≤ (2 - y) * U1 → U0 * U1 ≤ V0 * V1 → y = 1 := by
    intro U0 U1 V0 V1 y u0 u1 v0 v1 y0 h0 h1 hp
    have a1 : V0 * V1 ≤ y * U0 * V1 := mul_le_r h0 (by grind)
    have a2 : y * U0 * V1 ≤ y * U0 * ((2 - y) * U1) := mul_le_l h1 (mul_nn y0 (by grind))
    have pos := mul_pos_ u0 u1
    refine sq_eq (le_of_mul_r (c := U0 * U1) ?_ pos)
    grind
  have ey := key u0 u1 v0 v1 y0 h0 h1 kp
  have ez := key v0 v1 u0 u1 z0 k0 k1 hp
  subst ey; subst ez
  constructor
  · grind
  · grind
theorem Pay.prices {p' : Nat → Rat} (h : Pay a b n s U0 U1 p) (k : Pay a b n x V0 V1 p') {g : Nat} (hg : g < n) : p g = p' g := by
  obtain ⟨rfl, rfl⟩ := h.unique k
  have l0 := h.le0 g hg; have l1 := h.le1 g hg; have m0 := k.le0 g hg; have m1 := k.le1 g hg
  have d1 : p' g ≤ p g := by
    by_cases c : 0 < x g
    · have := k.eq0 g hg c
      exact le_of_mul_r (c := U0) (by grind) h.p0
    · have := k.eq1 g hg (by have := k.s0 g hg; grind)
      exact le_of_mul_r (c := U1) (by grind) h.p1
  have d2 : p g ≤ p' g := by
    by_cases c : 0 < s g
    · have := h.eq0 g hg c
      exact le_of_mul_r (c := U0) (by grind) h.p0
    · have := h.eq1 g hg (by have := h.s0 g hg; grind)
      exact le_of_mul_r (c := U1) (by grind) h.p1
  grind
/-- Prices that are paid, at which nobody would buy another good. -/
structure Acc (a b : Nat → Rat) (n : Nat) (s p : Nat → Rat) : Prop where
  s0 : ∀ g, g < n → 0 ≤ s g
  s1 : ∀ g, g < n → s g ≤ 1
  pos : ∀ g, g < n → 0 < p g
  pay0 : sumQ (fun g => p g * s g) n = 1
  pay1 : sumQ (fun g => p g * (1 - s g)) n = 1
  buy0 : ∀ g, g < n → 0 < s g → ∀ h, h < n → p g * a h ≤ p h * a g
  buy1 : ∀ g, g < n → 0 < 1 - s g → ∀ h, h < n → p g * b h ≤ p h * b g
theorem acc_half {a p s : Nat → Rat} {n : Nat} (s0 : ∀ g, g < n → 0 ≤ s g) (pay : sumQ (fun g => p g * s g) n = 1) (buy : ∀ g, g < n → 0 < s g → ∀ h, h < n → p g * a h ≤ p h * a g) {h : Nat} (hh : h < n) :
    a h ≤ p h * sumQ (fun g => a g * s g) n ∧ (0 < s h → p h * sumQ (fun g => a g * s g) n = a h) := by
  have le : a h ≤ p h * sumQ (fun g => a g * s g) n := by
    have e1 : a h = sumQ (fun g => a h * (p g * s g)) n := by rw [sumQ_mul, pay]; grind
    rw [← sumQ_mul]
    conv => lhs; rw [e1]
    refine sumQ_mono fun g hg => ?_
    by_cases c : 0 < s g
    · have := mul_le_r (buy g hg c h hh) (s0 g hg); grind
    · have z : s g = 0 := by have := s0 g hg; grind
      rw [z]; grind
  refine ⟨le, fun hs => ?_⟩
  have ge : p h * sumQ (fun g => a g * s g) n ≤ a h := by
    have e1 : a h = sumQ (fun g => a h * (p g * s g)) n := by rw [sumQ_mul, pay]; grind
    rw [← sumQ_mul]
    conv => rhs; rw [e1]
    refine sumQ_mono fun g hg => ?_
    have := mul_le_r (buy h hh hs g hg) (s0 g hg); grind
  grind
theorem Acc.toPay (h : Acc a b n s p) (a0 : ∀ g, g < n → 0 ≤ a g) (b0 : ∀ g, g < n → 0 ≤ b g) (sa : ∃ g, g < n ∧ 0 < a g) (sb : ∃ g, g < n ∧ 0 < b g) :
    Pay a b n s (sumQ (fun g => a g * s g) n) (sumQ (fun g => b g * (1 - s g)) n) p := by
  have A := fun g hg => acc_half (a := a) h.s0 h.pay0 h.buy0 (h := g) hg
  have B := fun g hg => acc_half (a := b) (s := fun g => 1 - s g) (fun g hg => by have := h.s1 g hg; grind) h.pay1 h.buy1 (h := g) hg
  obtain ⟨ga, hga, pa⟩ := sa
  obtain ⟨gb, hgb, pb⟩ := sb
  have posU : ∀ {u v : Rat}, 0 < v → 0 < u → ∀ {w : Rat}, v ≤ u * w → 0 < w := by
    intro u v hv hu w hw
    rcases Classical.em (0 < w) with c | c
    · exact c
    · exfalso
      have := mul_nn (a := u) (b := -w) (by grind) (by grind)
      grind
  exact ⟨a0, b0, h.s0, h.s1, rfl, rfl, posU pa (h.pos ga hga) (A ga hga).1, posU pb (h.pos gb hgb) (B gb hgb).1, fun g hg => (A g hg).1, fun g hg => (B g hg).1, fun g hg hs => (A g hg).2 hs, fun g hg hs => (B g hg).2 (by grind)⟩
theorem Pay.acc (h : Pay a b n s U0 U1 p) (pos : ∀ g, g < n → 0 < p g) : Acc a b n s p := by
  refine ⟨h.s0, h.s1, pos, h.pays0, h.pays1, fun g hg hs i hi => ?_, fun g hg hs i hi => ?_⟩
  · have e := h.eq0 g hg hs
    have l := mul_le_l (h.le0 i hi) (h.pnn hg)
    rw [← e]
    grind
  · have e := h.eq1 g hg (by grind)
    have l := mul_le_l (h.le1 i hi) (h.pnn hg)
    rw [← e]
    grind
/-- Of two shares with the same prices, at the first good at which they differ. -/
theorem Pay.first (h : Pay a b n s U0 U1 p) (k : Pay a b n x U0 U1 p) {g : Nat} (hg : g < n) (pg : 0 < p g) (before : ∀ j, j < g → s j = x j) (hx : s g < x g)
    (later : ∀ j, g < j → j < n → a j = p j * U0 → b j = p j * U1 → s j = 0) : False := by
  have e0 := h.pays0
  have e1 := k.pays0
  have lt : sumQ (fun j => p j * s j) n < sumQ (fun j => p j * x j) n := by
    refine sumQ_lt hg ?_ (fun j hj => ?_)
    · have := mul_pos_ pg (show 0 < x g - s g by grind); grind
    · rcases Nat.lt_trichotomy j g with c | c | c
      · rw [before j c]; grind
      · subst c
        have := mul_nn (a := p j) (b := x j - s j) (by grind) (by grind); grind
      · by_cases q : s j < x j ∨ s j = x j
        · have := mul_nn (h.pnn hj) (show 0 ≤ x j - s j by grind); grind
        · exfalso
          have q : x j < s j := by grind
          have t0 := h.eq0 j hj (by have := k.s0 j hj; grind)
          have t1 := k.eq1 j hj (by have := h.s1 j hj; grind)
          have := later j c hj t0.symm t1.symm
          have := k.s0 j hj
          grind
  grind
end
end Go.Proofs.Ytpijllobpohpgaa

namespace Go.Proofs.Ytpijllobpohpgaa
set_option linter.unusedVariables false
set_option linter.unusedSimpArgs false

def gR (l : List Rt) (k : Nat) : Rt := l.getD k ⟨0, 0⟩
theorem gR_get {l : List Rt} {k : Nat} (h : k < l.length) : gR l k = l[k] := by simp [gR, List.getD_eq_getElem?_getD, List.getElem?_eq_getElem h]
theorem gR_ext {a b : List Rt} (h : a.length = b.length) (hk : ∀ k, k < a.length → gR a k = gR b k) : a = b := by
  refine List.ext_getElem h fun k h1 h2 => ?_
  have := hk k h1
  rwa [gR_get h1, gR_get h2] at this
theorem gR_map {n g : Nat} {f : Nat → Rt} (h : g < n) : gR ((List.range n).map f) g = f g := by rw [gR_get (by simpa using h)]; simp

/-- The error of a market. -/
def MkMany (bs : List (List Int)) : Prop := 2 < bs.length ∨ ∃ i, i < bs.length ∧ 10 < (gr bs i).length
instance (bs : List (List Int)) : Decidable (MkMany bs) := by unfold MkMany; infer_instance
def MkShape (bs : List (List Int)) : Prop := bs.length = 2 ∧ 0 < (gr bs 0).length ∧ (gr bs 0).length = (gr bs 1).length
instance (bs : List (List Int)) : Decidable (MkShape bs) := by unfold MkShape; infer_instance
def goodB (bs : List (List Int)) (g : Nat) : Bool := decide (0 ≤ gi (gr bs 0) g) && decide (gi (gr bs 0) g ≤ 1000) && decide (0 ≤ gi (gr bs 1) g) && decide (gi (gr bs 1) g ≤ 1000) && (decide (0 < gi (gr bs 0) g) || decide (0 < gi (gr bs 1) g))
def MkGood (bs : List (List Int)) : Prop := MkShape bs ∧ (∀ g, g < (gr bs 0).length → goodB bs g = true) ∧ (∃ g, g < (gr bs 0).length ∧ 0 < gi (gr bs 0) g) ∧ (∃ g, g < (gr bs 0).length ∧ 0 < gi (gr bs 1) g)
instance (bs : List (List Int)) : Decidable (MkGood bs) := by unfold MkGood; infer_instance
def mkCode (bs : List (List Int)) : Int := if MkMany bs then 4 else if MkGood bs then 0 else 8
theorem mk_many {bs : List (List Int)} (h : MkMany bs) : mkCode bs = 4 := by unfold mkCode; rw [if_pos h]
theorem mk_bad {bs : List (List Int)} (h : ¬ MkMany bs) (k : ¬ MkGood bs) : mkCode bs = 8 := by unfold mkCode; rw [if_neg h, if_neg k]
theorem mk_good {bs : List (List Int)} (h : ¬ MkMany bs) (k : MkGood bs) : mkCode bs = 0 := by unfold mkCode; rw [if_neg h, if_pos k]
theorem not_mkMany {bs : List (List Int)} (h1 : bs.length ≤ 2) (h2 : ∀ i, i < bs.length → (gr bs i).length ≤ 10) : ¬ MkMany bs := by
  rintro (h | ⟨i, hi, h⟩)
  · omega
  · have := h2 i hi; omega
/-- A market. -/
structure MkOk (a b : List Int) (n : Nat) : Prop where
  la : a.length = n
  lb : b.length = n
  n0 : 0 < n
  n10 : n ≤ 10
  a0 : ∀ g, g < n → 0 ≤ gi a g ∧ gi a g ≤ 1000
  b0 : ∀ g, g < n → 0 ≤ gi b g ∧ gi b g ≤ 1000
  ab : ∀ g, g < n → 0 < gi a g ∨ 0 < gi b g
  sa : ∃ g, g < n ∧ 0 < gi a g
  sb : ∃ g, g < n ∧ 0 < gi b g
theorem mk_ok {bs : List (List Int)} (h : mkCode bs = 0) : bs.length = 2 ∧ MkOk (gr bs 0) (gr bs 1) (gr bs 0).length := by
  unfold mkCode at h
  by_cases h1 : MkMany bs
  · rw [if_pos h1] at h; omega
  · rw [if_neg h1] at h
    by_cases h2 : MkGood bs
    · obtain ⟨⟨l2, n0, e⟩, hg, sa, sb⟩ := h2
      have hg' : ∀ g, g < (gr bs 0).length → (0 ≤ gi (gr bs 0) g ∧ gi (gr bs 0) g ≤ 1000) ∧ (0 ≤ gi (gr bs 1) g ∧ gi (gr bs 1) g ≤ 1000) ∧ (0 < gi (gr bs 0) g ∨ 0 < gi (gr bs 1) g) := fun g q => by
        have := hg g q
        simp only [goodB, Bool.and_eq_true, Bool.or_eq_true, decide_eq_true_eq] at this
        omega
      refine ⟨l2, rfl, e.symm, n0, ?_, fun g q => (hg' g q).1, fun g q => (hg' g q).2.1, fun g q => (hg' g q).2.2, sa, sb⟩
      rcases Nat.lt_or_ge 10 (gr bs 0).length with q | q
      · exact absurd (Or.inr ⟨0, by omega, q⟩) h1
      · exact q
    · rw [if_neg h2] at h; omega

/-- The order of the goods: the greatest ratio first, of those alike the first one first. -/
def mlt (a b : List Int) (g h : Nat) : Bool := decide (gi a h * gi b g < gi a g * gi b h)
def mord (a b : List Int) (n : Nat) : List Nat := isort (mlt a b) (List.range n)
def mo (a b : List Int) (n k : Nat) : Nat := gn (mord a b n) k
def mpos (a b : List Int) (n g : Nat) : Nat := (mord a b n).idxOf g
abbrev mA (a b : List Int) (n : Nat) : Nat → Int := fun k => gi a (mo a b n k)
abbrev mB (a b : List Int) (n : Nat) : Nat → Int := fun k => gi b (mo a b n k)
section
variable {a b : List Int} {n : Nat}
theorem mord_perm (a b : List Int) (n : Nat) : (mord a b n).Perm (List.range n) := isort_perm _
theorem mord_len (a b : List Int) (n : Nat) : (mord a b n).length = n := by rw [(mord_perm a b n).length_eq, List.length_range]
theorem mo_lt {k : Nat} (h : k < n) : mo a b n k < n := by
  have hl := mord_len a b n
  unfold mo; rw [gn_get (by omega)]
  have := (mord_perm a b n).mem_iff.1 (List.getElem_mem (show k < (mord a b n).length by omega))
  simpa using this
theorem mord_nodup (a b : List Int) (n : Nat) : (mord a b n).Nodup := (mord_perm a b n).nodup_iff.2 List.nodup_range
theorem mpos_lt {g : Nat} (h : g < n) : mpos a b n g < n := by
  unfold mpos
  have : g ∈ mord a b n := (mord_perm a b n).mem_iff.2 (by simpa using h)
  have := List.idxOf_lt_length_of_mem this
  rw [mord_len] at this; exact this
theorem mo_mpos {g : Nat} (h : g < n) : mo a b n (mpos a b n g) = g := by
  have hp := mpos_lt (a := a) (b := b) h
  have hl := mord_len a b n
  unfold mo; rw [gn_get (by omega)]
  exact List.getElem_idxOf _
theorem mo_inj {i j : Nat} (hi : i < n) (hj : j < n) (e : mo a b n i = mo a b n j) : i = j := by
  have hl := mord_len a b n
  unfold mo at e; rw [gn_get (by omega), gn_get (by omega)] at e
  exact (List.getElem_inj (mord_nodup a b n)).1 e
theorem mpos_mo {k : Nat} (h : k < n) : mpos a b n (mo a b n k) = k := mo_inj (a := a) (b := b) (mpos_lt (mo_lt h)) h (mo_mpos (mo_lt h))
theorem MkOk.weak (h : MkOk a b n) : WeakOn (· < n) (mlt a b) := by
  refine ⟨fun g k _ _ e => ?_, fun x y z hx hy hz e1 e2 => ?_⟩
  · simp only [mlt, decide_eq_true_eq, decide_eq_false_iff_not] at e ⊢; omega
  · simp only [mlt, decide_eq_false_iff_not, Int.not_lt] at e1 e2 ⊢
    have ax := (h.a0 x hx).1; have bx := (h.b0 x hx).1; have ay := (h.a0 y hy).1; have b_y := (h.b0 y hy).1; have az := (h.a0 z hz).1; have bz := (h.b0 z hz).1
    -- e1: a y * b x ≤ a x * b y ; e2 : a z * b y ≤ a y * b z ; goal: a z * b x ≤ a x * b z
    rcases Int.lt_or_le 0 (gi b y) with c | c
    · have k1 : gi a z * gi b y * gi b x ≤ gi a y * gi b z * gi b x := Int.mul_le_mul_of_nonneg_right (by omega) bx
      have k2 : gi b z * (gi a y * gi b x) ≤ gi b z * (gi a x * gi b y) := Int.mul_le_mul_of_nonneg_left (by omega) bz
      have s1 : gi a z * gi b y * gi b x = gi b y * (gi a z * gi b x) := by ac_rfl
      have s2 : gi a y * gi b z * gi b x = gi b z * (gi a y * gi b x) := by ac_rfl
      have s3 : gi b z * (gi a x * gi b y) = gi b y * (gi a x * gi b z) := by ac_rfl
      exact Int.le_of_mul_le_mul_left (by omega) c
    · have e : gi b y = 0 := by omega
      have q : 0 < gi a y := by have := h.ab y hy; omega
      rw [e, Int.mul_zero] at e1
      have z0 : gi b x = 0 := by
        rcases Int.lt_or_le 0 (gi b x) with w | w
        · have := Int.mul_pos q w; omega
        · omega
      rw [z0, Int.mul_zero]; exact Int.mul_nonneg ax bz
theorem MkOk.sorted (h : MkOk a b n) {i j : Nat} (hij : i < j) (hj : j < n) : Prec (mlt a b) (mo a b n i) (mo a b n j) := by
  have := isort_sorted h.weak (List.range n) (fun x hx => by simpa using hx) (List.pairwise_lt_range)
  have hl := mord_len a b n
  have k := List.pairwise_iff_getElem.1 this i j (by unfold mord at hl; omega) (by unfold mord at hl; omega) hij
  unfold mo; rw [gn_get (by omega), gn_get (by omega)]; exact k
theorem MkOk.desc (h : MkOk a b n) : Desc (mA a b n) (mB a b n) n := by
  refine ⟨h.n0, fun k hk => (h.a0 _ (mo_lt hk)).1, fun k hk => (h.b0 _ (mo_lt hk)).1, fun k hk => h.ab _ (mo_lt hk), ?_, ?_, fun i j hij hj => ?_⟩
  · rw [show mA a b n = fun k => gi a (gn (mord a b n) k) from rfl, sumTo_perm (mord_perm a b n)]
    obtain ⟨g, hg, hp⟩ := h.sa
    have := sum_ge (f := gi a) (fun j hj => (h.a0 j hj).1) hg; omega
  · rw [show mB a b n = fun k => gi b (gn (mord a b n) k) from rfl, sumTo_perm (mord_perm a b n)]
    obtain ⟨g, hg, hp⟩ := h.sb
    have := sum_ge (f := gi b) (fun j hj => (h.b0 j hj).1) hg; omega
  · rcases h.sorted hij hj with q | ⟨q, _⟩ <;> simp only [mlt, decide_eq_true_eq, decide_eq_false_iff_not] at q <;> show gi a _ * gi b _ ≤ gi a _ * gi b _ <;> omega
/-- Two goods with the same ratio stand in the order of their numbers. -/
theorem MkOk.tie (h : MkOk a b n) {g k : Nat} (hg : g < k) (hk : k < n) (e : gi a g * gi b k = gi a k * gi b g) : mpos a b n g < mpos a b n k := by
  rcases Nat.lt_trichotomy (mpos a b n g) (mpos a b n k) with c | c | c
  · exact c
  · have e1 := mo_mpos (a := a) (b := b) (show g < n by omega); rw [c, mo_mpos hk] at e1; omega
  · have := h.sorted c (mpos_lt (by omega))
    rw [mo_mpos hk, mo_mpos (by omega)] at this
    rcases this with q | ⟨_, q⟩
    · simp only [mlt, decide_eq_true_eq] at q; omega
    · omega

/-- The part of the good at which the taking stops. -/
def mX (a b : List Int) (n : Nat) : Rt := if nK (mA a b n) (mB a b n) n (mT (mA a b n) (mB a b n) n) ≤ 0 then ⟨0, 1⟩ else makeR (nK (mA a b n) (mB a b n) n (mT (mA a b n) (mB a b n) n)) (dK (mA a b n) (mB a b n) (mT (mA a b n) (mB a b n) n))
/-- The first t goods, and a part of the next one. -/
def splitR (a b : List Int) (n t : Nat) (x : Rt) : List Rt := (List.range n).map fun g => if mpos a b n g < t then ⟨1, 1⟩ else if mpos a b n g = t then x else ⟨0, 1⟩
def mSh (a b : List Int) (n : Nat) : List Rt := splitR a b n (mT (mA a b n) (mB a b n) n) (mX a b n)
theorem splitR_len (t : Nat) (x : Rt) : (splitR a b n t x).length = n := by simp [splitR]
theorem splitR_at {t g : Nat} {x : Rt} (h : g < n) : gR (splitR a b n t x) g = if mpos a b n g < t then ⟨1, 1⟩ else if mpos a b n g = t then x else ⟨0, 1⟩ := gR_map h
theorem splitR_mo {t k : Nat} {x : Rt} (h : k < n) : gR (splitR a b n t x) (mo a b n k) = if k < t then ⟨1, 1⟩ else if k = t then x else ⟨0, 1⟩ := by
  rw [splitR_at (mo_lt h), mpos_mo h]
theorem splitR_of {l : List Rt} {t : Nat} {x : Rt} (hl : l.length = n) (h : ∀ k, k < n → gR l (mo a b n k) = if k < t then ⟨1, 1⟩ else if k = t then x else ⟨0, 1⟩) : l = splitR a b n t x := by
  refine gR_ext (by rw [hl, splitR_len]) fun g hg => ?_
  have hg : g < n := by omega
  rw [splitR_at hg]
  have := h _ (mpos_lt (a := a) (b := b) hg)
  rwa [mo_mpos hg] at this
end
theorem inR_frac {n d : Int} (hd : 0 < d) (hd' : d ≤ 1000000000000000000) (h0 : -1000000000000000000 ≤ n) (h1 : n ≤ 1000000000000000000) : inR (Rat.divInt n d) := by
  have M := makeOf (n := n) (d := d) (by omega)
  have e := M.eq
  rw [e]
  have := M.N0; have := M.Nl; have D0 := M.D0; have := M.Dl
  rw [mk_pair D0 M.cop]
  unfold absI at *
  split <;> omega
theorem den_frac {n d : Int} (hd : 0 < d) : ((Rat.divInt n d).den : Int) ≤ d := by
  have M := makeOf (n := n) (d := d) (by omega)
  have e := M.eq
  rw [e]
  have D0 := M.D0; have := M.Dl
  rw [(coprime_num D0 M.cop).2]
  unfold absI at *
  omega
end Go.Proofs.Ytpijllobpohpgaa

namespace Go.Proofs.Ytpijllobpohpgaa
set_option linter.unusedVariables false
set_option linter.unusedSimpArgs false

theorem sumQ_cut {f g : Nat → Rat} {t n : Nat} (ht : t < n) (h1 : ∀ k, k < t → f k = g k) (h2 : ∀ k, t < k → k < n → f k = 0) : sumQ f n = sumQ g t + f t := by
  have key : ∀ m, t < m → m ≤ n → sumQ f m = sumQ g t + f t := by
    intro m hm hn
    induction m with
    | zero => omega
    | succ m ih =>
      rw [sumQ]
      by_cases e : m = t
      · subst e; rw [sumQ_congr h1]
      · rw [ih (by omega) (by omega), h2 m (by omega) (by omega)]; grind
  exact key n ht (Nat.le_refl _)
section
variable {a b : List Int} {n : Nat}
abbrev mtt (a b : List Int) (n : Nat) : Nat := mT (mA a b n) (mB a b n) n
abbrev mN (a b : List Int) (n : Nat) : Int := nK (mA a b n) (mB a b n) n (mtt a b n)
abbrev mD (a b : List Int) (n : Nat) : Int := dK (mA a b n) (mB a b n) (mtt a b n)
theorem q_zero : Rt.q ⟨0, 1⟩ = 0 := by unfold Rt.q; simp
theorem q_one : Rt.q ⟨1, 1⟩ = 1 := by unfold Rt.q; exact Rat.num_divInt_den (1 : Rat)
theorem q_div (r : Rt) : r.q = (r.n : Rat) / (r.d : Rat) := by unfold Rt.q; rw [Rat.divInt_eq_div]
theorem ok_zero : Rt.Ok ⟨0, 1⟩ := by refine ⟨?_, ?_, ?_, ?_, ?_⟩ <;> (try simp only) <;> first | omega | (unfold gcdI; simp)
theorem ok_one : Rt.Ok ⟨1, 1⟩ := by refine ⟨?_, ?_, ?_, ?_, ?_⟩ <;> (try simp only) <;> first | omega | (unfold gcdI; simp)
theorem castlt {x y : Int} : (x : Rat) < (y : Rat) ↔ x < y := Rat.intCast_lt_intCast
theorem castle {x y : Int} : (x : Rat) ≤ (y : Rat) ↔ x ≤ y := Rat.intCast_le_intCast
theorem cast0 : ((0 : Int) : Rat) = 0 := rfl
theorem cast1 : ((1 : Int) : Rat) = 1 := rfl
theorem cast_pos {x : Int} (h : 0 < x) : (0 : Rat) < (x : Rat) := by rw [← cast0]; exact castlt.2 h
theorem cast_nn {x : Int} (h : 0 ≤ x) : (0 : Rat) ≤ (x : Rat) := by rw [← cast0]; exact castle.2 h
/-- A fraction by its numbers. -/
theorem frac_lt {x y : Int} (hy : 0 < y) : (0 < Rat.divInt x y ↔ 0 < x) ∧ (Rat.divInt x y < 1 ↔ x < y) := by
  have p := cast_pos hy
  have e : Rat.divInt x y * (y : Rat) = (x : Rat) := by rw [Rat.divInt_eq_div]; exact div_mul_ p
  generalize Rat.divInt x y = q at *
  constructor
  · constructor
    · intro h; have := mul_pos_ h p; rw [e] at this; rw [← cast0] at this; exact castlt.1 this
    · intro h
      rcases Classical.em (0 < q) with c | c
      · exact c
      · exfalso
        have := mul_nn (a := -q) (b := (y : Rat)) (by grind) (by grind)
        have := cast_pos h; grind
  · constructor
    · intro h
      have := mul_pos_ (show 0 < 1 - q by grind) p
      exact castlt.1 (by grind)
    · intro h
      have h' := castlt.2 h
      rcases Classical.em (q < 1) with c | c
      · exact c
      · exfalso
        have := mul_nn (a := q - 1) (b := (y : Rat)) (by grind) (by grind)
        grind
/-- The share at the stop. -/
structure XAt (a b : List Int) (n : Nat) : Prop where
  ok : (mX a b n).Ok
  den : (mX a b n).d ≤ 2000000
  q0 : 0 ≤ (mX a b n).q
  q1 : (mX a b n).q < 1
  way : (mN a b n ≤ 0 ∧ mX a b n = ⟨0, 1⟩) ∨ (0 < mN a b n ∧ mN a b n < mD a b n ∧ mX a b n = mkR (Rat.divInt (mN a b n) (mD a b n)) ∧ (mX a b n).q = Rat.divInt (mN a b n) (mD a b n) ∧ 0 < (mX a b n).q ∧ 0 < mA a b n (mtt a b n) ∧ 0 < mB a b n (mtt a b n))
theorem prod_le {x y p q : Int} (x0 : 0 ≤ x) (x1 : x ≤ p) (y0 : 0 ≤ y) (y1 : y ≤ q) : 0 ≤ x * y ∧ x * y ≤ p * q :=
  ⟨Int.mul_nonneg x0 y0, Int.mul_le_mul x1 y1 y0 (by omega)⟩
theorem MkOk.dK_le (h : MkOk a b n) {k : Nat} (hk : k < n) : 0 ≤ dK (mA a b n) (mB a b n) k ∧ dK (mA a b n) (mB a b n) k ≤ 2000000 := by
  have x := h.a0 _ (mo_lt (a := a) (b := b) hk)
  have y := h.b0 _ (mo_lt (a := a) (b := b) hk)
  have := prod_le (p := 1000) (q := 1000) x.1 x.2 y.1 y.2
  have e : dK (mA a b n) (mB a b n) k = 2 * (gi a (mo a b n k) * gi b (mo a b n k)) := by unfold dK; rw [Int.mul_assoc]
  omega
theorem MkOk.xAt (h : MkOk a b n) : XAt a b n := by
  obtain ⟨lt, _, _⟩ := h.desc.t_spec
  by_cases c : mN a b n ≤ 0
  · have e : mX a b n = ⟨0, 1⟩ := by unfold mX; rw [if_pos c]
    refine ⟨by rw [e]; exact ok_zero, by rw [e]; decide, by rw [e, q_zero]; grind, by rw [e, q_zero]; grind, Or.inl ⟨c, e⟩⟩
  · obtain ⟨pa, pb, d⟩ := h.desc.t_part (Int.not_le.1 c)
    have dl := h.dK_le lt
    have n0 : 0 < mN a b n := Int.not_le.1 c
    have d' : mN a b n < mD a b n := d
    have dl' : mD a b n ≤ 2000000 := dl.2
    have e : mX a b n = mkR (Rat.divInt (mN a b n) (mD a b n)) := by unfold mX; rw [if_neg c]; unfold makeR; rw [if_neg (Int.ne_of_gt (Int.lt_trans n0 d'))]
    have i : inR (Rat.divInt (mN a b n) (mD a b n)) := inR_frac (by omega) (by omega) (by omega) (by omega)
    have eq : (mX a b n).q = Rat.divInt (mN a b n) (mD a b n) := by rw [e, q_mkR i]
    have fl := frac_lt (x := mN a b n) (y := mD a b n) (by omega)
    have ok : (mX a b n).Ok := by rw [e]; exact mkR_ok i
    refine ⟨ok, ?_, ?_, ?_, Or.inr ⟨n0, d', e, eq, ?_, pa, pb⟩⟩
    · have := ok.den
      rw [← this, eq]
      have := den_frac (n := mN a b n) (d := mD a b n) (by omega); omega
    · rw [eq]; have := fl.1.2 n0; grind
    · rw [eq]; exact fl.2.2 d'
    · rw [eq]; exact fl.1.2 n0
/-- The shares as numbers. -/
def sq (a b : List Int) (n : Nat) (g : Nat) : Rat := (gR (mSh a b n) g).q
theorem sq_at {g : Nat} (h : g < n) : sq a b n g = if mpos a b n g < mtt a b n then 1 else if mpos a b n g = mtt a b n then (mX a b n).q else 0 := by
  unfold sq mSh
  rw [splitR_at h]
  split
  · exact q_one
  · split
    · rfl
    · exact q_zero
theorem sq_mo {k : Nat} (h : k < n) : sq a b n (mo a b n k) = if k < mtt a b n then 1 else if k = mtt a b n then (mX a b n).q else 0 := by rw [sq_at (mo_lt h), mpos_mo h]
def mU0 (a b : List Int) (n : Nat) : Rat := sumQ (fun g => (gi a g : Rat) * sq a b n g) n
def mU1 (a b : List Int) (n : Nat) : Rat := sumQ (fun g => (gi b g : Rat) * (1 - sq a b n g)) n
theorem MkOk.u0_eq (h : MkOk a b n) : mU0 a b n = ((mM (mA a b n) (mtt a b n) : Int) : Rat) + (mA a b n (mtt a b n) : Rat) * (mX a b n).q := by
  obtain ⟨lt, _, _⟩ := h.desc.t_spec
  have lt : mtt a b n < n := lt
  unfold mU0
  rw [← sumQ_perm (mord_perm a b n)]
  rw [sumQ_cut (t := mtt a b n) (g := fun k => ((mA a b n k : Int) : Rat)) lt, sumQ_int]
  · show _ + (gi a (mo a b n (mtt a b n)) : Rat) * sq a b n (mo a b n (mtt a b n)) = _
    rw [sq_mo lt, if_neg (by omega), if_pos rfl]; rfl
  · intro k hk
    show (gi a (mo a b n k) : Rat) * sq a b n (mo a b n k) = _
    rw [sq_mo (by omega), if_pos hk]; grind
  · intro k hk hkn
    show (gi a (mo a b n k) : Rat) * sq a b n (mo a b n k) = 0
    rw [sq_mo hkn, if_neg (by omega), if_neg (by omega)]; grind
theorem MkOk.u1_eq (h : MkOk a b n) : mU1 a b n = ((mY (mB a b n) n (mtt a b n) : Int) : Rat) - (mB a b n (mtt a b n) : Rat) * (mX a b n).q := by
  obtain ⟨lt, _, _⟩ := h.desc.t_spec
  have lt : mtt a b n < n := lt
  unfold mU1
  rw [← sumQ_perm (mord_perm a b n)]
  have e : sumQ (fun k => (gi b (gn (mord a b n) k) : Rat) * (1 - sq a b n (gn (mord a b n) k))) n = sumQ (fun k => ((mB a b n k : Int) : Rat)) n - sumQ (fun k => (mB a b n k : Rat) * sq a b n (mo a b n k)) n := by
    rw [← sumQ_sub]
    refine sumQ_congr fun k hk => ?_
    show (gi b (mo a b n k) : Rat) * (1 - sq a b n (mo a b n k)) = _
    grind
  rw [e, sumQ_int, sumQ_cut (t := mtt a b n) (f := fun k => (mB a b n k : Rat) * sq a b n (mo a b n k)) (g := fun k => ((mB a b n k : Int) : Rat)) lt, sumQ_int]
  · rw [sq_mo lt, if_neg (by omega), if_pos rfl]
    unfold mY; rw [Rat.intCast_sub]; grind
  · intro k hk
    show (gi b (mo a b n k) : Rat) * sq a b n (mo a b n k) = _
    rw [sq_mo (by omega), if_pos hk]; grind
  · intro k hk hkn
    show (gi b (mo a b n k) : Rat) * sq a b n (mo a b n k) = 0
    rw [sq_mo hkn, if_neg (by omega), if_neg (by omega)]; grind
/-- The rates as fractions of one number. -/
structure Rep (a b : List Int) (n : Nat) (al be Z : Int) : Prop where
  a0 : 0 < al
  a1 : al ≤ 10000
  b0 : 0 < be
  b1 : be ≤ 10000
  z0 : 0 < Z
  z1 : Z ≤ 100000000
  u0 : mU0 a b n * (al : Rat) = (Z : Rat)
  u1 : mU1 a b n * (be : Rat) = (Z : Rat)
  buy0 : ∀ g, g < n → 0 < sq a b n g → gi b g * be ≤ gi a g * al
  buy1 : ∀ g, g < n → sq a b n g < 1 → gi a g * al ≤ gi b g * be
theorem MkOk.m_bd (h : MkOk a b n) {k : Nat} (hk : k ≤ n) : mM (mA a b n) k ≤ 10000 ∧ mY (mB a b n) n k ≤ 10000 := by
  have n10 := h.n10
  constructor
  · have := sumTo_bd (f := mA a b n) (lo := 0) (hi := 1000) (k := k) (fun i hi => h.a0 _ (mo_lt (by omega)))
    unfold mM; omega
  · have := sumTo_bd (f := mB a b n) (lo := 0) (hi := 1000) (k := n) (fun i hi => h.b0 _ (mo_lt hi))
    have := sumTo_bd (f := mB a b n) (lo := 0) (hi := 1000) (k := k) (fun i hi => h.b0 _ (mo_lt (by omega)))
    unfold mY; omega
theorem MkOk.rep (h : MkOk a b n) : ∃ al be Z, Rep a b n al be Z := by
  have D := h.desc
  obtain ⟨lt, gs, gn_⟩ := D.t_spec
  have X := h.xAt
  have eU0 := h.u0_eq
  have eU1 := h.u1_eq
  have lt : mtt a b n < n := lt
  have at_ : ∀ g, g < n → ∃ k, k < n ∧ mo a b n k = g ∧ mpos a b n g = k := fun g hg => ⟨_, mpos_lt hg, mo_mpos hg, rfl⟩
  have mb := h.m_bd (k := mtt a b n) (by omega)
  have ta := h.a0 _ (mo_lt (a := a) (b := b) lt)
  have tb := h.b0 _ (mo_lt (a := a) (b := b) lt)
  rcases X.way with ⟨c, e⟩ | ⟨n0, nd, eX, eq, q0, pa, pb⟩
  · have ok := D.ok_stop c
    obtain ⟨m0, y0, o1, o2⟩ := ok
    have m0 : 0 < mM (mA a b n) (mtt a b n) := m0
    have y0 : 0 < mY (mB a b n) n (mtt a b n) := y0
    rw [e, q_zero] at eU0 eU1
    refine ⟨mY (mB a b n) n (mtt a b n), mM (mA a b n) (mtt a b n), mM (mA a b n) (mtt a b n) * mY (mB a b n) n (mtt a b n), y0, mb.2, m0, mb.1, Int.mul_pos m0 y0, ?_, ?_, ?_, fun g hg hs => ?_, fun g hg hs => ?_⟩
    · have := prod_le (p := 10000) (q := 10000) (show 0 ≤ mM (mA a b n) (mtt a b n) by omega) mb.1 (show 0 ≤ mY (mB a b n) n (mtt a b n) by omega) mb.2; omega
    · rw [eU0, Rat.intCast_mul]; grind
    · rw [eU1, Rat.intCast_mul]; grind
    · obtain ⟨k, hk, rfl, ep⟩ := at_ g hg
      rw [sq_mo hk, e, q_zero] at hs
      by_cases q : k < mtt a b n
      · exact o1 k q
      · rw [if_neg q] at hs; split at hs <;> grind
    · obtain ⟨k, hk, rfl, ep⟩ := at_ g hg
      rw [sq_mo hk, e, q_zero] at hs
      by_cases q : k < mtt a b n
      · rw [if_pos q] at hs; grind
      · exact o2 k (Nat.le_of_not_lt q) hk
  · have pa' : 0 < gi a (mo a b n (mtt a b n)) := pa
    have pb' : 0 < gi b (mo a b n (mtt a b n)) := pb
    have m0 := D.m0 (k := mtt a b n) (by omega)
    have y0 := D.y_pos lt
    have key : (mD a b n : Rat) * (mX a b n).q = (mN a b n : Rat) := by
      rw [eq, Rat.divInt_eq_div, Rat.mul_comm]; exact div_mul_ (cast_pos (by omega))
    have eD : mD a b n = 2 * (gi a (mo a b n (mtt a b n)) * gi b (mo a b n (mtt a b n))) := by show dK _ _ _ = _; unfold dK; rw [Int.mul_assoc]
    have eN : mN a b n = gi a (mo a b n (mtt a b n)) * mY (mB a b n) n (mtt a b n) - gi b (mo a b n (mtt a b n)) * mM (mA a b n) (mtt a b n) := rfl
    rw [eD, eN] at key
    have eU0 : mU0 a b n = ((mM (mA a b n) (mtt a b n) : Int) : Rat) + (gi a (mo a b n (mtt a b n)) : Rat) * (mX a b n).q := eU0
    have eU1 : mU1 a b n = ((mY (mB a b n) n (mtt a b n) : Int) : Rat) - (gi b (mo a b n (mtt a b n)) : Rat) * (mX a b n).q := eU1
    rw [Rat.intCast_mul, Rat.intCast_mul, Rat.intCast_sub, Rat.intCast_mul, Rat.intCast_mul] at key
    refine ⟨2 * gi b (mo a b n (mtt a b n)), 2 * gi a (mo a b n (mtt a b n)), gi a (mo a b n (mtt a b n)) * mY (mB a b n) n (mtt a b n) + gi b (mo a b n (mtt a b n)) * mM (mA a b n) (mtt a b n), by omega, by omega, by omega, by omega, ?_, ?_, ?_, ?_, fun g hg hs => ?_, fun g hg hs => ?_⟩
    · have := Int.mul_pos pa' y0; have := Int.mul_nonneg (show 0 ≤ gi b (mo a b n (mtt a b n)) by omega) m0; omega
    · have k1 := prod_le (p := 1000) (q := 10000) ta.1 ta.2 (show 0 ≤ mY (mB a b n) n (mtt a b n) by omega) mb.2
      have k2 := prod_le (p := 1000) (q := 10000) tb.1 tb.2 m0 mb.1
      omega
    · rw [eU0, Rat.intCast_mul, Rat.intCast_add, Rat.intCast_mul, Rat.intCast_mul]
      have e2 : ((2 : Int) : Rat) = 2 := rfl
      rw [e2] at key ⊢
      grind
    · rw [eU1, Rat.intCast_mul, Rat.intCast_add, Rat.intCast_mul, Rat.intCast_mul]
      have e2 : ((2 : Int) : Rat) = 2 := rfl
      rw [e2] at key ⊢
      grind
    · obtain ⟨k, hk, rfl, ep⟩ := at_ g hg
      rw [sq_mo hk] at hs
      rcases Nat.lt_trichotomy k (mtt a b n) with q | q | q
      · have d : gi a (mo a b n (mtt a b n)) * gi b (mo a b n k) ≤ gi a (mo a b n k) * gi b (mo a b n (mtt a b n)) := D.desc k _ q lt
        have e1 : gi b (mo a b n k) * (2 * gi a (mo a b n (mtt a b n))) = 2 * (gi a (mo a b n (mtt a b n)) * gi b (mo a b n k)) := by ac_rfl
        have e2 : gi a (mo a b n k) * (2 * gi b (mo a b n (mtt a b n))) = 2 * (gi a (mo a b n k) * gi b (mo a b n (mtt a b n))) := by ac_rfl
        omega
      · rw [q]
        have e1 : gi b (mo a b n (mtt a b n)) * (2 * gi a (mo a b n (mtt a b n))) = gi a (mo a b n (mtt a b n)) * (2 * gi b (mo a b n (mtt a b n))) := by ac_rfl
        omega
      · rw [if_neg (by omega), if_neg (by omega)] at hs; grind
    · obtain ⟨k, hk, rfl, ep⟩ := at_ g hg
      rw [sq_mo hk] at hs
      rcases Nat.lt_trichotomy k (mtt a b n) with q | q | q
      · rw [if_pos q] at hs; grind
      · rw [q]
        have e1 : gi b (mo a b n (mtt a b n)) * (2 * gi a (mo a b n (mtt a b n))) = gi a (mo a b n (mtt a b n)) * (2 * gi b (mo a b n (mtt a b n))) := by ac_rfl
        omega
      · have d : gi a (mo a b n k) * gi b (mo a b n (mtt a b n)) ≤ gi a (mo a b n (mtt a b n)) * gi b (mo a b n k) := D.desc _ k q hk
        have e1 : gi b (mo a b n k) * (2 * gi a (mo a b n (mtt a b n))) = 2 * (gi a (mo a b n (mtt a b n)) * gi b (mo a b n k)) := by ac_rfl
        have e2 : gi a (mo a b n k) * (2 * gi b (mo a b n (mtt a b n))) = 2 * (gi a (mo a b n k) * gi b (mo a b n (mtt a b n))) := by ac_rfl
        omega
theorem MkOk.sq_bd (h : MkOk a b n) {g : Nat} (hg : g < n) : 0 ≤ sq a b n g ∧ sq a b n g ≤ 1 := by
  have X := h.xAt
  have := X.q0; have := X.q1
  rw [sq_at hg]
  split
  · grind
  · split <;> grind
theorem MkOk.eqm (h : MkOk a b n) : Eqm (fun g => (gi a g : Rat)) (fun g => (gi b g : Rat)) n (sq a b n) (mU0 a b n) (mU1 a b n) := by
  obtain ⟨al, be, Z, R⟩ := h.rep
  have pz := cast_pos R.z0; have pa := cast_pos R.a0; have pb := cast_pos R.b0
  have posU : ∀ {u v w : Rat}, 0 < v → 0 < w → u * v = w → 0 < u := by
    intro u v w hv hw e
    rcases Classical.em (0 < u) with c | c
    · exact c
    · exfalso
      have := mul_nn (a := -u) (b := v) (by grind) (by grind); grind
  have p0 := posU pa pz R.u0
  have p1 := posU pb pz R.u1
  have key : ∀ {x y : Int}, x * be ≤ y * al → (x : Rat) * mU0 a b n ≤ (y : Rat) * mU1 a b n := by
    intro x y hxy
    have hq := castle.2 hxy
    rw [Rat.intCast_mul, Rat.intCast_mul] at hq
    refine le_of_mul_r (c := (al : Rat) * (be : Rat)) ?_ (mul_pos_ pa pb)
    have k := mul_le_r hq (show (0 : Rat) ≤ (Z : Rat) by grind)
    have e1 : (x : Rat) * mU0 a b n * ((al : Rat) * (be : Rat)) = (x : Rat) * (be : Rat) * (mU0 a b n * (al : Rat)) := by grind
    have e2 : (y : Rat) * mU1 a b n * ((al : Rat) * (be : Rat)) = (y : Rat) * (al : Rat) * (mU1 a b n * (be : Rat)) := by grind
    rw [e1, e2, R.u0, R.u1]; exact k
  have key' : ∀ {x y : Int}, x * al ≤ y * be → (x : Rat) * mU1 a b n ≤ (y : Rat) * mU0 a b n := by
    intro x y hxy
    have hq := castle.2 hxy
    rw [Rat.intCast_mul, Rat.intCast_mul] at hq
    refine le_of_mul_r (c := (al : Rat) * (be : Rat)) ?_ (mul_pos_ pa pb)
    have k := mul_le_r hq (show (0 : Rat) ≤ (Z : Rat) by grind)
    have e1 : (x : Rat) * mU1 a b n * ((al : Rat) * (be : Rat)) = (x : Rat) * (al : Rat) * (mU1 a b n * (be : Rat)) := by grind
    have e2 : (y : Rat) * mU0 a b n * ((al : Rat) * (be : Rat)) = (y : Rat) * (be : Rat) * (mU0 a b n * (al : Rat)) := by grind
    rw [e1, e2, R.u0, R.u1]; exact k
  exact ⟨fun g hg => cast_nn (h.a0 g hg).1, fun g hg => cast_nn (h.b0 g hg).1, fun g hg => (h.sq_bd hg).1, fun g hg => (h.sq_bd hg).2, rfl, rfl, p0, p1,
    fun g hg hs => key (R.buy0 g hg hs), fun g hg hs => key' (R.buy1 g hg hs)⟩
end
end Go.Proofs.Ytpijllobpohpgaa
