/- The mathematics of lists of integers, and of sums: no program in sight. -/
namespace Go.Proofs.Ytgcbmnohhbcfiaa
set_option linter.unusedVariables false
set_option linter.unusedSimpArgs false

/-- The element k of a list of integers, or 0. -/
def gi (l : List Int) (k : Nat) : Int := l.getD k 0
/-- The list i of a list of lists, or the empty one. -/
def gr (l : List (List Int)) (i : Nat) : List Int := l.getD i []
theorem gi_get {l : List Int} {k : Nat} (h : k < l.length) : gi l k = l[k] := by
  simp [gi, List.getD_eq_getElem?_getD, List.getElem?_eq_getElem h]
theorem gr_get {l : List (List Int)} {k : Nat} (h : k < l.length) : gr l k = l[k] := by
  simp [gr, List.getD_eq_getElem?_getD, List.getElem?_eq_getElem h]
theorem gi_mem {l : List Int} {k : Nat} (h : k < l.length) : gi l k ∈ l := by rw [gi_get h]; exact List.getElem_mem h
theorem gr_mem {l : List (List Int)} {k : Nat} (h : k < l.length) : gr l k ∈ l := by rw [gr_get h]; exact List.getElem_mem h
theorem gi_none {l : List Int} {k : Nat} (h : l.length ≤ k) : gi l k = 0 := by
  simp [gi, List.getD_eq_getElem?_getD, List.getElem?_eq_none h]
theorem gr_none {l : List (List Int)} {k : Nat} (h : l.length ≤ k) : gr l k = [] := by
  simp [gr, List.getD_eq_getElem?_getD, List.getElem?_eq_none h]
theorem gi_ext {a b : List Int} (h : a.length = b.length) (hk : ∀ k, k < a.length → gi a k = gi b k) : a = b := by
  refine List.ext_getElem h fun k h1 h2 => ?_
  have := hk k h1
  rwa [gi_get h1, gi_get h2] at this
theorem mem_gi {l : List Int} {x : Int} (h : x ∈ l) : ∃ k, k < l.length ∧ gi l k = x := by
  obtain ⟨i, hi, rfl⟩ := List.mem_iff_getElem.1 h
  exact ⟨i, hi, gi_get hi⟩
theorem mem_gr {l : List (List Int)} {x : List Int} (h : x ∈ l) : ∃ k, k < l.length ∧ gr l k = x := by
  obtain ⟨i, hi, rfl⟩ := List.mem_iff_getElem.1 h
  exact ⟨i, hi, gr_get hi⟩

/-- The sum of the first n values of a function. -/
def sumTo (f : Nat → Int) : Nat → Int
  | 0 => 0
  | k + 1 => sumTo f k + f k

theorem sumTo_succ (f : Nat → Int) (k : Nat) : sumTo f (k + 1) = sumTo f k + f k := rfl
theorem sumTo_congr {f g : Nat → Int} : ∀ {k : Nat}, (∀ i, i < k → f i = g i) → sumTo f k = sumTo g k
  | 0, _ => rfl
  | k + 1, h => by rw [sumTo, sumTo, sumTo_congr (fun i hi => h i (by omega)), h k (by omega)]
theorem sumTo_bd {f : Nat → Int} {lo hi : Int} : ∀ {k : Nat}, (∀ i, i < k → lo ≤ f i ∧ f i ≤ hi) → lo * k ≤ sumTo f k ∧ sumTo f k ≤ hi * k
  | 0, _ => by simp [sumTo]
  | k + 1, h => by
    have h1 := sumTo_bd (k := k) (fun i hi => h i (by omega))
    have h2 := h k (by omega)
    have e1 : lo * ((k + 1 : Nat) : Int) = lo * (k : Int) + lo := by rw [Int.natCast_add, Int.mul_add]; simp
    have e2 : hi * ((k + 1 : Nat) : Int) = hi * (k : Int) + hi := by rw [Int.natCast_add, Int.mul_add]; simp
    rw [sumTo, e1, e2]; omega
theorem sumTo_nonneg {f : Nat → Int} {k : Nat} (h : ∀ i, i < k → 0 ≤ f i) : 0 ≤ sumTo f k := by
  induction k with
  | zero => simp [sumTo]
  | succ k ih => have := ih (fun i hi => h i (by omega)); have := h k (by omega); rw [sumTo]; omega
theorem sumTo_mono {f g : Nat → Int} : ∀ {k : Nat}, (∀ i, i < k → f i ≤ g i) → sumTo f k ≤ sumTo g k
  | 0, _ => by simp [sumTo]
  | k + 1, h => by
    have h1 := sumTo_mono (k := k) (fun i hi => h i (by omega))
    have h2 := h k (by omega)
    rw [sumTo, sumTo]; omega
theorem sumTo_add (f g : Nat → Int) : ∀ k, sumTo (fun i => f i + g i) k = sumTo f k + sumTo g k
  | 0 => by simp [sumTo]
  | k + 1 => by rw [sumTo, sumTo, sumTo, sumTo_add f g k]; omega
theorem sumTo_sub (f g : Nat → Int) : ∀ k, sumTo (fun i => f i - g i) k = sumTo f k - sumTo g k
  | 0 => by simp [sumTo]
  | k + 1 => by rw [sumTo, sumTo, sumTo, sumTo_sub f g k]; omega
theorem sumTo_mul (c : Int) (f : Nat → Int) : ∀ k, sumTo (fun i => c * f i) k = c * sumTo f k
  | 0 => by simp [sumTo]
  | k + 1 => by rw [sumTo, sumTo, sumTo_mul c f k, Int.mul_add]
theorem sumTo_zero (k : Nat) : sumTo (fun _ => 0) k = 0 := by
  induction k with
  | zero => rfl
  | succ k ih => rw [sumTo, ih]; rfl
theorem sumTo_const (c : Int) (k : Nat) : sumTo (fun _ => c) k = c * k := by
  induction k with
  | zero => simp [sumTo]
  | succ k ih => rw [sumTo, ih, Int.natCast_add, Int.mul_add]; simp
theorem sumTo_comm (f : Nat → Nat → Int) (n : Nat) : ∀ m, sumTo (fun i => sumTo (f i) m) n = sumTo (fun k => sumTo (fun i => f i k) n) m
  | 0 => by simp [sumTo, sumTo_zero]
  | m + 1 => by
    rw [sumTo, ← sumTo_comm f n m, ← sumTo_add]; rfl
theorem sumTo_single {f : Nat → Int} {i n : Nat} (hi : i < n) (h : ∀ j, j < n → j ≠ i → f j = 0) : sumTo f n = f i := by
  induction n with
  | zero => omega
  | succ n ih =>
    rw [sumTo]
    by_cases e : i = n
    · subst e
      rw [sumTo_congr (g := fun _ => 0) (fun j hj => h j (by omega) (by omega)), sumTo_zero]; omega
    · rw [ih (by omega) (fun j hj => h j (by omega)), h n (by omega) (by omega)]; omega
theorem sumTo_le_of_nonneg {f : Nat → Int} {i n : Nat} (h : ∀ j, j < n → 0 ≤ f j) (hi : i ≤ n) : sumTo f i ≤ sumTo f n := by
  induction n with
  | zero => have : i = 0 := by omega
            subst this; exact Int.le_refl _
  | succ n ih =>
    by_cases e : i = n + 1
    · subst e; exact Int.le_refl _
    · have := ih (fun j hj => h j (by omega)) (by omega); have := h n (by omega); rw [sumTo]; omega


end Go.Proofs.Ytgcbmnohhbcfiaa
