/- The mathematics of estates: no program in sight. -/
namespace Go.Proofs.Ytedgdmblpjfaiaa
set_option linter.unusedVariables false
set_option linter.unusedSimpArgs false

/-- The element k of a list of integers, or 0. -/
def gi (l : List Int) (k : Nat) : Int := l.getD k 0
/-- The list i of a list of lists, or the empty one. -/
def gr (l : List (List Int)) (i : Nat) : List Int := l.getD i []
theorem gi_get {l : List Int} {k : Nat} (h : k < l.length) : gi l k = l[k] := by
  simp [gi, List.getD_eq_getElem?_getD, List.getElem?_eq_getElem h]
theorem gr_get {l : List (List Int)} {k : Nat} (h : k < l.length) : gr l k = l[k] := by
  simp [gr, List.getD_eq_getElem?_getD, List.getElem?_eq_getElem h]
theorem gi_mem {l : List Int} {k : Nat} (h : k < l.length) : gi l k ∈ l := by rw [gi_get h]; exact List.getElem_mem h
theorem gr_mem {l : List (List Int)} {k : Nat} (h : k < l.length) : gr l k ∈ l := by rw [gr_get h]; exact List.getElem_mem h
theorem gi_none {l : List Int} {k : Nat} (h : l.length ≤ k) : gi l k = 0 := by
  simp [gi, List.getD_eq_getElem?_getD, List.getElem?_eq_none h]
theorem gr_none {l : List (List Int)} {k : Nat} (h : l.length ≤ k) : gr l k = [] := by
  simp [gr, List.getD_eq_getElem?_getD, List.getElem?_eq_none h]
theorem gi_ext {a b : List Int} (h : a.length = b.length) (hk : ∀ k, k < a.length → gi a k = gi b k) : a = b := by
  refine List.ext_getElem h fun k h1 h2 => ?_
  have := hk k h1
  rwa [gi_get h1, gi_get h2] at this
theorem mem_gi {l : List Int} {x : Int} (h : x ∈ l) : ∃ k, k < l.length ∧ gi l k = x := by
  obtain ⟨i, hi, rfl⟩ := List.mem_iff_getElem.1 h
  exact ⟨i, hi, gi_get hi⟩
theorem mem_gr {l : List (List Int)} {x : List Int} (h : x ∈ l) : ∃ k, k < l.length ∧ gr l k = x := by
  obtain ⟨i, hi, rfl⟩ := List.mem_iff_getElem.1 h
  exact ⟨i, hi, gr_get hi⟩

/-- The sum of the first n values of a function. -/
def sumTo (f : Nat → Int) : Nat → Int
  | 0 => 0
  | k + 1 => sumTo f k + f k

theorem sumTo_succ (f : Nat → Int) (k : Nat) : sumTo f (k + 1) = sumTo f k + f k := rfl
theorem sumTo_congr {f g : Nat → Int} : ∀ {k : Nat}, (∀ i, i < k → f i = g i) → sumTo f k = sumTo g k
  | 0, _ => rfl
  | k + 1, h => by rw [sumTo, sumTo, sumTo_congr (fun i hi => h i (by omega)), h k (by omega)]
theorem sumTo_bd {f : Nat → Int} {lo hi : Int} : ∀ {k : Nat}, (∀ i, i < k → lo ≤ f i ∧ f i ≤ hi) → lo * k ≤ sumTo f k ∧ sumTo f k ≤ hi * k
  | 0, _ => by simp [sumTo]
  | k + 1, h => by
    have h1 := sumTo_bd (k := k) (fun i hi => h i (by omega))
    have h2 := h k (by omega)
    have e1 : lo * ((k + 1 : Nat) : Int) = lo * (k : Int) + lo := by rw [Int.natCast_add, Int.mul_add]; simp
    have e2 : hi * ((k + 1 : Nat) : Int) = hi * (k : Int) + hi := by rw [Int.natCast_add, Int.mul_add]; simp
    rw [sumTo, e1, e2]; omega
theorem sumTo_nonneg {f : Nat → Int} {k : Nat} (h : ∀ i, i < k → 0 ≤ f i) : 0 ≤ sumTo f k := by
  induction k with
  | zero => simp [sumTo]
  | succ k ih => have := ih (fun i hi => h i (by omega)); have := h k (by omega); rw [sumTo]; omega
theorem sumTo_mono {f g : Nat → Int} : ∀ {k : Nat}, (∀ i, i < k → f i ≤ g i) → sumTo f k ≤ sumTo g k
  | 0, _ => by simp [sumTo]
  | k + 1, h => by
    have h1 := sumTo_mono (k := k) (fun i hi => h i (by omega))
    have h2 := h k (by omega)
    rw [sumTo, sumTo]; omega
theorem sumTo_add (f g : Nat → Int) : ∀ k, sumTo (fun i => f i + g i) k = sumTo f k + sumTo g k
  | 0 => by simp [sumTo]
  | k + 1 => by rw [sumTo, sumTo, sumTo, sumTo_add f g k]; omega
theorem sumTo_sub (f g : Nat → Int) : ∀ k, sumTo (fun i => f i - g i) k = sumTo f k - sumTo g k
  | 0 => by simp [sumTo]
  | k + 1 => by rw [sumTo, sumTo, sumTo, sumTo_sub f g k]; omega
theorem sumTo_mul (c : Int) (f : Nat → Int) : ∀ k, sumTo (fun i => c * f i) k = c * sumTo f k
  | 0 => by simp [sumTo]
  | k + 1 => by rw [sumTo, sumTo, sumTo_mul c f k, Int.mul_add]
theorem sumTo_zero (k : Nat) : sumTo (fun _ => 0) k = 0 := by
  induction k with
  | zero => rfl
  | succ k ih => rw [sumTo, ih]; rfl
theorem sumTo_const (c : Int) (k : Nat) : sumTo (fun _ => c) k = c * k := by
  induction k with
  | zero => simp [sumTo]
  | succ k ih => rw [sumTo, ih, Int.natCast_add, Int.mul_add]; simp
theorem sumTo_comm (f : Nat → Nat → Int) (n : Nat) : ∀ m, sumTo (fun i => sumTo (f i) m) n = sumTo (fun k => sumTo (fun i => f i k) n) m
  | 0 => by simp [sumTo, sumTo_zero]
  | m + 1 => by
    rw [sumTo, ← sumTo_comm f n m, ← sumTo_add]; rfl
theorem sumTo_single {f : Nat → Int} {i n : Nat} (hi : i < n) (h : ∀ j, j < n → j ≠ i → f j = 0) : sumTo f n = f i := by
  induction n with
  | zero => omega
  | succ n ih =>
    rw [sumTo]
    by_cases e : i = n
    · subst e
      rw [sumTo_congr (g := fun _ => 0) (fun j hj => h j (by omega) (by omega)), sumTo_zero]; omega
    · rw [ih (by omega) (fun j hj => h j (by omega)), h n (by omega) (by omega)]; omega
theorem sumTo_le_of_nonneg {f : Nat → Int} {i n : Nat} (h : ∀ j, j < n → 0 ≤ f j) (hi : i ≤ n) : sumTo f i ≤ sumTo f n := by
  induction n with
  | zero => have : i = 0 := by omega
            subst this; exact Int.le_refl _
  | succ n ih =>
    by_cases e : i = n + 1
    · subst e; exact Int.le_refl _
    · have := ih (fun j hj => h j (by omega)) (by omega); have := h n (by omega); rw [sumTo]; omega

structure Est where
  sh : List Int
  bd : List (List Int)

namespace Est
def n (E : Est) : Nat := E.sh.length
def row (E : Est) (i : Nat) : List Int := gr E.bd i
def bid (E : Est) (i k : Nat) : Int := gi (E.row i) k
def share (E : Est) (i : Nat) : Int := gi E.sh i
def m (E : Est) : Nat := (E.row 0).length
/-- What is left of the parts before the share i. -/
def left (E : Est) (i : Nat) : Int := 1000 - sumTo E.share i
def inb (x : Int) : Bool := decide (0 ≤ x) && decide (x ≤ 1000000)
def okAt (E : Est) (i : Nat) : Bool := decide (1 ≤ E.share i) && decide (E.share i ≤ E.left i) && decide ((E.row i).length = (E.row 0).length) && (E.row i).all inb
def good (E : Est) : Bool := (List.range E.n).all E.okAt
def wide (E : Est) : Bool := E.bd.any fun r => decide (30 < r.length)
def code (E : Est) : Int :=
  if 10 < E.sh.length ∨ 10 < E.bd.length ∨ E.wide = true then 4
  else if E.sh.length = 0 ∨ E.bd.length ≠ E.sh.length then 8
  else if E.good = true then 0 else 8

/-- The heir, of those before i, that bids most for an item, and has the least number. -/
def best (E : Est) (k : Nat) : Nat → Nat
  | 0 => 0
  | i + 1 => if E.bid (E.best k i) k < E.bid i k then i else E.best k i
def own (E : Est) (k : Nat) : Nat := E.best k E.n
/-- The worth of an heir of the items before k, if the items' owners are o. -/
def worthOf (E : Est) (o : Nat → Int) (i k : Nat) : Int := sumTo (fun k => if o k = (i : Int) then E.bid i k else 0) k
def worth (E : Est) (i k : Nat) : Int := E.worthOf (fun k => (E.own k : Int)) i k
def rowSum (E : Est) (i : Nat) : Int := sumTo (E.bid i) E.m
def claim (E : Est) (i : Nat) : Int := E.share i * E.rowSum i
def S (E : Est) : Int := sumTo E.share E.n
def pool (E : Est) : Int := E.S * sumTo (fun i => E.worth i E.m) E.n - sumTo E.claim E.n
def exact (E : Est) (i : Nat) : Int := E.S * (E.claim i - E.S * E.worth i E.m) + E.share i * E.pool

theorem good_iff {E : Est} : E.good = true ↔ ∀ i, i < E.n → E.okAt i = true := by
  simp [good, List.all_eq_true]
theorem code_cases (E : Est) : E.code = 0 ∨ E.code = 4 ∨ E.code = 8 := by unfold code; split <;> (try split) <;> (try split) <;> simp

/-- What validity gives. -/
structure Ok (E : Est) : Prop where
  n1 : 1 ≤ E.n
  n10 : E.n ≤ 10
  rows : E.bd.length = E.n
  m30 : E.m ≤ 30
  len : ∀ i, i < E.n → (E.row i).length = E.m
  s1 : ∀ i, i < E.n → 1 ≤ E.share i
  sl : ∀ i, i < E.n → E.share i ≤ E.left i
  bid0 : ∀ i k, i < E.n → k < E.m → 0 ≤ E.bid i k
  bid1 : ∀ i k, i < E.n → k < E.m → E.bid i k ≤ 1000000

theorem ok_of_code {E : Est} (h : E.code = 0) : E.Ok := by
  unfold code at h
  split at h
  · simp at h
  rename_i h1
  split at h
  · simp at h
  rename_i h2
  by_cases h3 : E.good = true
  rotate_left
  · rw [if_neg h3] at h; simp at h
  have h4 := good_iff.1 h3
  have hw : ¬ E.wide = true := by simp at h1; simp [h1.2.2]
  have hlen : ∀ i, i < E.n → (E.row i).length = E.m ∧ 1 ≤ E.share i ∧ E.share i ≤ E.left i ∧ ∀ x ∈ E.row i, inb x = true := by
    intro i hi
    have := h4 i hi
    simp only [okAt, Bool.and_eq_true, decide_eq_true_eq, List.all_eq_true] at this
    exact ⟨this.1.2, this.1.1.1, this.1.1.2, this.2⟩
  have hn : E.n = E.sh.length := rfl
  have hin : ∀ i k, i < E.n → k < E.m → inb (E.bid i k) = true := by
    intro i k hi hk
    obtain ⟨a, _, _, d⟩ := hlen i hi
    refine d _ ?_
    exact gi_mem (by omega)
  refine ⟨by omega, by omega, by omega, ?_, fun i hi => (hlen i hi).1, fun i hi => (hlen i hi).2.1, fun i hi => (hlen i hi).2.2.1, fun i k hi hk => ?_, fun i k hi hk => ?_⟩
  · rcases Nat.lt_or_ge 30 E.m with hm | hm
    · exfalso; apply hw
      unfold wide
      rw [List.any_eq_true]
      refine ⟨E.row 0, ?_, by simpa [m] using hm⟩
      exact gr_mem (by omega)
    · exact hm
  · have := hin i k hi hk; simp [inb] at this; exact this.1
  · have := hin i k hi hk; simp [inb] at this; exact this.2

theorem best_max (E : Est) (k : Nat) : ∀ i, i ≤ E.n → ∀ j, j < i → E.bid j k ≤ E.bid (E.best k i) k
  | 0, _, j, hj => by omega
  | i + 1, hi, j, hj => by
    have ih := best_max E k i (by omega)
    rw [best]
    by_cases e : E.bid (E.best k i) k < E.bid i k
    · rw [if_pos e]
      by_cases hj2 : j = i
      · subst hj2; exact Int.le_refl _
      · have := ih j (by omega); omega
    · rw [if_neg e]
      by_cases hj2 : j = i
      · subst hj2; omega
      · exact ih j (by omega)
theorem own_max (E : Est) (k j : Nat) (hj : j < E.n) : E.bid j k ≤ E.bid (E.own k) k := best_max E k E.n (Nat.le_refl _) j hj

section
variable {E : Est} (h : E.Ok)
include h
theorem Ok.sum_le : ∀ i, i ≤ E.n → (i : Int) ≤ sumTo E.share i ∧ sumTo E.share i ≤ 1000 := by
  intro i
  induction i with
  | zero => intro _; simp [sumTo]
  | succ i ih =>
    intro hi
    have a := ih (by omega)
    have b := h.s1 i (by omega)
    have c := h.sl i (by omega)
    unfold left at c
    rw [sumTo]; omega
theorem Ok.S_bd : 1 ≤ E.S ∧ E.S ≤ 1000 := by
  have := h.sum_le E.n (Nat.le_refl _); have := h.n1; unfold S; omega
theorem Ok.share_bd (i : Nat) (hi : i < E.n) : 1 ≤ E.share i ∧ E.share i ≤ 1000 := by
  have a := h.s1 i hi; have c := h.sl i hi; have := h.sum_le i (by omega); unfold left at c; omega
theorem Ok.best_lt (k : Nat) : ∀ i, i ≤ E.n → E.best k i < E.n
  | 0, _ => by have := h.n1; rw [best]; omega
  | i + 1, hi => by rw [best]; split; omega; exact Ok.best_lt k i (by omega)
theorem Ok.own_lt (k : Nat) : E.own k < E.n := h.best_lt k E.n (Nat.le_refl _)
theorem Ok.row_bd (i k : Nat) (hi : i < E.n) (hk : k ≤ E.m) : 0 ≤ sumTo (E.bid i) k ∧ sumTo (E.bid i) k ≤ 1000000 * k := by
  have := sumTo_bd (f := E.bid i) (lo := 0) (hi := 1000000) (k := k) (fun j hj => ⟨h.bid0 i j hi (by omega), h.bid1 i j hi (by omega)⟩)
  omega
theorem Ok.worthOf_bd (o : Nat → Int) (i k : Nat) (hi : i < E.n) (hk : k ≤ E.m) : 0 ≤ E.worthOf o i k ∧ E.worthOf o i k ≤ 1000000 * k := by
  have := sumTo_bd (f := fun k => if o k = (i : Int) then E.bid i k else 0) (lo := 0) (hi := 1000000) (k := k) (fun j hj => by
    have := h.bid0 i j hi (by omega); have := h.bid1 i j hi (by omega)
    split <;> omega)
  unfold worthOf; omega
theorem Ok.claim_bd (i : Nat) (hi : i < E.n) : 0 ≤ E.claim i ∧ E.claim i ≤ 30000000000 := by
  have a := h.row_bd i E.m hi (Nat.le_refl _)
  have b := h.share_bd i hi
  have c := h.m30
  unfold claim rowSum
  refine ⟨Int.mul_nonneg (by omega) a.1, ?_⟩
  have : E.share i * sumTo (E.bid i) E.m ≤ 1000 * 30000000 := Int.mul_le_mul b.2 (by omega) a.1 (by omega)
  omega
theorem Ok.worth_bd (i : Nat) (hi : i < E.n) : 0 ≤ E.worth i E.m ∧ E.worth i E.m ≤ 30000000 := by
  have := h.worthOf_bd (fun k => (E.own k : Int)) i E.m hi (Nat.le_refl _); have := h.m30; unfold worth; omega

end
end Est

end Go.Proofs.Ytedgdmblpjfaiaa
