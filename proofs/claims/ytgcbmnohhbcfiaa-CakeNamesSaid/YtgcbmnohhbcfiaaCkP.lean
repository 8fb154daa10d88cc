/- Cakes and their errors: no program in sight. -/
import Derived.Test.YtgcbmnohhbcfiaaRtSpec2
namespace Go.Proofs.Ytgcbmnohhbcfiaa
set_option linter.unusedVariables false
set_option linter.unusedSimpArgs false

structure Ck where
  len : Int
  cuts : List Int
  dens : List Int
theorem Ck.ext_ {a b : Ck} (h1 : a.len = b.len) (h2 : a.cuts = b.cuts) (h3 : a.dens = b.dens) : a = b := by cases a; cases b; simp_all
def Ck.Many (K : Ck) : Prop := 1000 < K.len ∨ 40 < K.cuts.length
instance (K : Ck) : Decidable K.Many := by unfold Ck.Many; infer_instance
/-- The ends are in order. -/
def Ck.Ends (K : Ck) : Prop := 1 ≤ K.len ∧ 2 ≤ K.cuts.length ∧ (K.dens.length : Int) = K.cuts.length - 1 ∧ gi K.cuts 0 = 0 ∧ gi K.cuts (K.cuts.length - 1) = K.len
instance (K : Ck) : Decidable K.Ends := by unfold Ck.Ends; infer_instance
def Ck.Rise (K : Ck) : Prop := ∀ i, i < K.cuts.length - 1 → gi K.cuts i < gi K.cuts (i + 1)
instance (K : Ck) : Decidable K.Rise := by unfold Ck.Rise; infer_instance
def Ck.Fit (K : Ck) : Prop := ∀ i, i < K.dens.length → 0 ≤ gi K.dens i ∧ gi K.dens i ≤ 12
instance (K : Ck) : Decidable K.Fit := by unfold Ck.Fit; infer_instance
def Ck.Some (K : Ck) : Prop := ¬ ∀ i, i < K.dens.length → gi K.dens i ≤ 0
instance (K : Ck) : Decidable K.Some := by unfold Ck.Some; infer_instance
def Ck.code (K : Ck) : Int := if K.Many then 4 else if K.Ends ∧ K.Rise ∧ K.Fit ∧ K.Some then 0 else 8
section
variable {K : Ck}
theorem Ck.code_many (h : K.Many) : K.code = 4 := by unfold Ck.code; rw [if_pos h]
theorem Ck.code_bad (h : ¬ K.Many) (k : ¬ (K.Ends ∧ K.Rise ∧ K.Fit ∧ K.Some)) : K.code = 8 := by unfold Ck.code; rw [if_neg h, if_neg k]
theorem Ck.code_ends (h : ¬ K.Many) (k : ¬ K.Ends) : K.code = 8 := Ck.code_bad h (fun x => k x.1)
theorem Ck.code_rise (h : ¬ K.Many) (k : ¬ K.Rise) : K.code = 8 := Ck.code_bad h (fun x => k x.2.1)
theorem Ck.code_fit (h : ¬ K.Many) (k : ¬ K.Fit) : K.code = 8 := Ck.code_bad h (fun x => k x.2.2.1)
theorem Ck.code_some (h : ¬ K.Many) (k : ¬ K.Some) : K.code = 8 := Ck.code_bad h (fun x => k x.2.2.2)
theorem Ck.code_good (h : ¬ K.Many) (h1 : K.Ends) (h2 : K.Rise) (h3 : K.Fit) (h4 : K.Some) : K.code = 0 := by unfold Ck.code; rw [if_neg h, if_pos ⟨h1, h2, h3, h4⟩]
/-- A cake in order. -/
structure Ck.Ok (K : Ck) : Prop where
  l1 : 1 ≤ K.len
  l2 : K.len ≤ 1000
  n1 : 1 ≤ K.dens.length
  n2 : K.dens.length ≤ 39
  nc : K.cuts.length = K.dens.length + 1
  c0 : gi K.cuts 0 = 0
  cn : gi K.cuts K.dens.length = K.len
  rise : ∀ i, i < K.dens.length → gi K.cuts i < gi K.cuts (i + 1)
  fit : ∀ i, i < K.dens.length → 0 ≤ gi K.dens i ∧ gi K.dens i ≤ 12
  some : ∃ i, i < K.dens.length ∧ 0 < gi K.dens i
theorem Ck.ok_code (h : K.code = 0) : K.Ok := by
  unfold Ck.code at h
  by_cases h1 : K.Many
  · rw [if_pos h1] at h; omega
  rw [if_neg h1] at h
  by_cases h2 : K.Ends ∧ K.Rise ∧ K.Fit ∧ K.Some
  · obtain ⟨⟨a, b, c, d, e⟩, f, g, k⟩ := h2
    have m1 : ¬ 1000 < K.len := fun q => h1 (Or.inl q)
    have m2 : ¬ 40 < K.cuts.length := fun q => h1 (Or.inr q)
    have el : K.cuts.length - 1 = K.dens.length := by omega
    unfold Ck.Rise at f
    rw [el] at e f
    refine ⟨a, by omega, by omega, by omega, by omega, d, e, f, g, ?_⟩
    rcases Classical.em (∃ i, i < K.dens.length ∧ 0 < gi K.dens i) with q | q
    · exact q
    · refine absurd (fun i hi => ?_) k
      rcases Int.lt_or_le 0 (gi K.dens i) with r | r
      · exact absurd ⟨i, hi, r⟩ q
      · exact r
  · rw [if_neg h2] at h; omega
theorem Ck.Ok.code (h : K.Ok) : K.code = 0 := by
  have := h.nc; have := h.n2; have := h.l2; have := h.n1
  refine Ck.code_good (fun q => by rcases q with q | q <;> omega) ⟨h.l1, by omega, by omega, h.c0, ?_⟩ (fun i hi => h.rise i (by omega)) h.fit (fun q => ?_)
  · rw [show K.cuts.length - 1 = K.dens.length by omega]; exact h.cn
  · obtain ⟨i, hi, k⟩ := h.some
    have := q i hi; omega
theorem Ck.Ok.mono (h : K.Ok) {i j : Nat} (hij : i ≤ j) (hj : j ≤ K.dens.length) : gi K.cuts i ≤ gi K.cuts j := by
  induction j with
  | zero => have : i = 0 := by omega
            subst this; exact Int.le_refl _
  | succ j ih =>
    by_cases e : i = j + 1
    · subst e; exact Int.le_refl _
    · have := ih (by omega) (by omega)
      have := h.rise j (by omega)
      omega
theorem Ck.Ok.cut_bd (h : K.Ok) {i : Nat} (hi : i ≤ K.dens.length) : 0 ≤ gi K.cuts i ∧ gi K.cuts i ≤ 1000 := by
  have a := h.mono (Nat.zero_le i) hi
  have b := h.mono hi (Nat.le_refl _)
  rw [h.c0] at a; rw [h.cn] at b
  have := h.l2
  omega
/-- The value of the first intervals. -/
def Ck.upTo (K : Ck) (k : Nat) : Int := sumTo (fun i => gi K.dens i * (gi K.cuts (i + 1) - gi K.cuts i)) k
def Ck.total (K : Ck) : Int := K.upTo K.dens.length
theorem Ck.upTo_succ (K : Ck) (k : Nat) : K.upTo (k + 1) = K.upTo k + gi K.dens k * (gi K.cuts (k + 1) - gi K.cuts k) := rfl
theorem Ck.Ok.upTo_bd (h : K.Ok) : ∀ {k : Nat}, k ≤ K.dens.length → 0 ≤ K.upTo k ∧ K.upTo k ≤ 12 * gi K.cuts k
  | 0, _ => by rw [h.c0]; exact ⟨Int.le_refl _, Int.le_refl _⟩
  | k + 1, hk => by
    have ih := h.upTo_bd (k := k) (by omega)
    have d := h.fit k (by omega)
    have r := h.rise k (by omega)
    rw [Ck.upTo_succ]
    have a := Int.mul_nonneg d.1 (show 0 ≤ gi K.cuts (k + 1) - gi K.cuts k by omega)
    have b := Int.mul_le_mul_of_nonneg_right d.2 (show 0 ≤ gi K.cuts (k + 1) - gi K.cuts k by omega)
    omega
theorem Ck.Ok.prod_bd (h : K.Ok) {k : Nat} (hk : k < K.dens.length) : 0 ≤ gi K.dens k * (gi K.cuts (k + 1) - gi K.cuts k) ∧ gi K.dens k * (gi K.cuts (k + 1) - gi K.cuts k) ≤ 12000 := by
  have a := h.upTo_bd (k := k) (by omega)
  have b := h.upTo_bd (k := k + 1) (by omega)
  have d := h.fit k (by omega)
  have r := h.rise k (by omega)
  have c := h.cut_bd (i := k + 1) (by omega)
  rw [Ck.upTo_succ] at b
  have e := Int.mul_nonneg d.1 (show 0 ≤ gi K.cuts (k + 1) - gi K.cuts k by omega)
  omega
end
/-- The least and the greatest of the first elements. -/
def mnTo (l : List Int) : Nat → Int
  | 0 => gi l 0
  | k + 1 => min (mnTo l k) (gi l (k + 1))
def mxTo (l : List Int) : Nat → Int
  | 0 => gi l 0
  | k + 1 => max (mxTo l k) (gi l (k + 1))
theorem mnTo_neg {l : List Int} : ∀ {k : Nat}, mnTo l k < 0 ↔ ∃ i, i ≤ k ∧ gi l i < 0
  | 0 => by
    constructor
    · intro h; exact ⟨0, Nat.le_refl _, h⟩
    · rintro ⟨i, hi, h⟩
      obtain rfl : i = 0 := by omega
      exact h
  | k + 1 => by
    have e : mnTo l (k + 1) < 0 ↔ mnTo l k < 0 ∨ gi l (k + 1) < 0 := by show min _ _ < 0 ↔ _; omega
    rw [e, mnTo_neg]
    constructor
    · rintro (⟨i, hi, h⟩ | h)
      · exact ⟨i, by omega, h⟩
      · exact ⟨k + 1, Nat.le_refl _, h⟩
    · rintro ⟨i, hi, h⟩
      by_cases c : i = k + 1
      · subst c; exact Or.inr h
      · exact Or.inl ⟨i, by omega, h⟩
theorem mxTo_gt {l : List Int} {b : Int} : ∀ {k : Nat}, b < mxTo l k ↔ ∃ i, i ≤ k ∧ b < gi l i
  | 0 => by
    constructor
    · intro h; exact ⟨0, Nat.le_refl _, h⟩
    · rintro ⟨i, hi, h⟩
      obtain rfl : i = 0 := by omega
      exact h
  | k + 1 => by
    have e : b < mxTo l (k + 1) ↔ b < mxTo l k ∨ b < gi l (k + 1) := by show b < max _ _ ↔ _; omega
    rw [e, mxTo_gt]
    constructor
    · rintro (⟨i, hi, h⟩ | h)
      · exact ⟨i, by omega, h⟩
      · exact ⟨k + 1, Nat.le_refl _, h⟩
    · rintro ⟨i, hi, h⟩
      by_cases c : i = k + 1
      · subst c; exact Or.inr h
      · exact Or.inl ⟨i, by omega, h⟩
/-- More than the statements consider. -/
def Ck.big (K : Ck) : Bool := decide (60 < K.cuts.length) || decide (60 < K.dens.length)
end Go.Proofs.Ytgcbmnohhbcfiaa
