/- The pool where all bid alike, and where one heir bids more: plain. -/
import Derived.Test.YtedgdmblpjfaiaaFairPlain
namespace Go.Proofs.Ytedgdmblpjfaiaa
set_option linter.unusedVariables false
set_option linter.unusedSimpArgs false

theorem gr_set {l : List (List Int)} {i j : Nat} {r : List Int} (hi : i < l.length) : gr (l.set i r) j = if j = i then r else gr l j := by
  simp only [gr, List.getD_eq_getElem?_getD, List.getElem?_set]
  by_cases e : i = j
  · subst e; simp [hi]
  · rw [if_neg e, if_neg (fun h => e h.symm)]
theorem gi_set {l : List Int} {i j : Nat} {r : Int} (hi : i < l.length) : gi (l.set i r) j = if j = i then r else gi l j := by
  simp only [gi, List.getD_eq_getElem?_getD, List.getElem?_set]
  by_cases e : i = j
  · subst e; simp [hi]
  · rw [if_neg e, if_neg (fun h => e h.symm)]

theorem sumTo_at {n i : Nat} (hi : i < n) (c : Int) : sumTo (fun j => if j = i then c else 0) n = c := by
  rw [sumTo_single (i := i) hi (fun j _ hne => if_neg hne), if_pos rfl]

namespace Est
/-- Validity, by its parts. -/
theorem code_of {E : Est} (n1 : 1 ≤ E.n) (n10 : E.n ≤ 10) (rows : E.bd.length = E.n) (m30 : E.m ≤ 30) (len : ∀ i, i < E.n → (E.row i).length = E.m) (s1 : ∀ i, i < E.n → 1 ≤ E.share i) (sl : ∀ i, i < E.n → E.share i ≤ E.left i)
    (b : ∀ i k, i < E.n → k < E.m → 0 ≤ E.bid i k ∧ E.bid i k ≤ 1000000) : E.code = 0 := by
  have hn : E.n = E.sh.length := rfl
  have hw : E.wide = false := by
    rw [wide, List.any_eq_false]
    intro r hr
    obtain ⟨k, hk, rfl⟩ := mem_gr hr
    have := len k (by omega)
    unfold row at this
    simp; omega
  have hg : E.good = true := by
    rw [good_iff]
    intro i hi
    simp only [okAt, Bool.and_eq_true, decide_eq_true_eq, List.all_eq_true]
    refine ⟨⟨⟨s1 i hi, sl i hi⟩, len i hi⟩, fun x hx => ?_⟩
    obtain ⟨k, hk, rfl⟩ := mem_gi hx
    have := b i k hi (by have := len i hi; omega)
    unfold bid at this
    simp [inb]; omega
  unfold code
  rw [if_neg (by rw [hw]; simp; omega), if_neg (by omega), if_pos hg]

theorem Ok.pool_eq {E : Est} (h : E.Ok) : E.pool = E.S * sumTo (fun k => E.bid (E.own k) k) E.m - sumTo (fun i => E.share i * E.rowSum i) E.n := by
  rw [pool, h.sum_worth]; rfl

/-- All bid as the first. -/
def alike (E : Est) : Est := ⟨E.sh, List.replicate E.sh.length (E.row 0)⟩
theorem alike_row {E : Est} {i : Nat} (hi : i < E.n) : E.alike.row i = E.row 0 := by
  have hl : i < (List.replicate E.sh.length (E.row 0)).length := by rw [List.length_replicate]; exact hi
  show gr (List.replicate E.sh.length (E.row 0)) i = E.row 0
  rw [gr_get hl]; simp
section
variable {E : Est} (h : E.Ok)
include h
theorem alike_m : E.alike.m = E.m := by
  show (E.alike.row 0).length = _
  rw [alike_row h.n1]; rfl
theorem alike_code : E.alike.code = 0 := by
  have hm := alike_m h
  refine code_of h.n1 h.n10 (by simp [alike, n]) (by rw [hm]; exact h.m30) (fun i hi => by rw [hm, alike_row (E := E) hi]; rfl) (fun i hi => h.s1 i hi) (fun i hi => h.sl i hi) (fun i k hi hk => ?_)
  rw [hm] at hk
  have e : E.alike.bid i k = E.bid 0 k := by unfold bid; rw [alike_row (E := E) hi]
  rw [e]
  exact ⟨h.bid0 0 k h.n1 hk, h.bid1 0 k h.n1 hk⟩
theorem alike_pool : E.alike.pool = 0 := by
  have hm := alike_m h
  have hk := ok_of_code (alike_code h)
  rw [hk.pool_eq, hm]
  have e1 : sumTo (fun k => E.alike.bid (E.alike.own k) k) E.m = sumTo (E.bid 0) E.m := sumTo_congr fun k _ => by
    show gi (E.alike.row (E.alike.own k)) k = gi (E.row 0) k
    rw [alike_row (E := E) (hk.own_lt k)]
  have e2 : sumTo (fun i => E.alike.share i * E.alike.rowSum i) E.alike.n = sumTo (fun i => sumTo (E.bid 0) E.m * E.share i) E.n := sumTo_congr fun i hi => by
    have : E.alike.rowSum i = sumTo (E.bid 0) E.m := by
      unfold rowSum; rw [hm]
      exact sumTo_congr fun k _ => by unfold bid; rw [alike_row (E := E) hi]
    rw [this, Int.mul_comm]; rfl
  have e3 : E.alike.S = E.S := rfl
  rw [e1, e2, e3, sumTo_mul, Int.mul_comm]
  show sumTo (E.bid 0) E.m * E.S - sumTo (E.bid 0) E.m * E.S = 0
  omega
end

/-- One heir bids more for one item. -/
def raise (E : Est) (i k : Nat) (x : Int) : Est := ⟨E.sh, E.bd.set i ((E.row i).set k (E.bid i k + x))⟩
section
variable {E : Est} (h : E.Ok) {i k : Nat} (hi : i < E.n) (hk : k < E.m) {x : Int}
include h hi
theorem raise_row (j : Nat) : (E.raise i k x).row j = if j = i then (E.row i).set k (E.bid i k + x) else E.row j := gr_set (by rw [h.rows]; exact hi)
theorem raise_m : (E.raise i k x).m = E.m := by
  show ((E.raise i k x).row 0).length = _
  rw [raise_row h hi]
  split
  · rename_i e; subst e; simp [m]
  · rfl
include hk
theorem raise_bid (j q : Nat) : (E.raise i k x).bid j q = E.bid j q + if j = i ∧ q = k then x else 0 := by
  show gi ((E.raise i k x).row j) q = _
  rw [raise_row h hi]
  by_cases e : j = i
  · subst e
    rw [if_pos rfl, gi_set (by rw [h.len j hi]; exact hk)]
    by_cases e2 : q = k
    · subst e2; simp
    · simp [e2]; rfl
  · simp [e]; rfl
theorem raise_code (x0 : 0 ≤ x) (x1 : x ≤ 1000000 - E.bid i k) : (E.raise i k x).code = 0 := by
  have hm := raise_m h hi (k := k) (x := x)
  refine code_of h.n1 h.n10 (by simpa [raise, n] using h.rows) (by rw [hm]; exact h.m30) (fun j hj => ?_) (fun j hj => h.s1 j hj) (fun j hj => h.sl j hj) (fun j q hj hq => ?_)
  · rw [hm, raise_row h hi]
    split
    · rw [List.length_set]; exact h.len i hi
    · exact h.len j hj
  · rw [hm] at hq
    have a := h.bid0 j q hj hq
    have b := h.bid1 j q hj hq
    rw [raise_bid h hi hk]
    split
    · rename_i e; obtain ⟨e1, e2⟩ := e; subst e1; subst e2; omega
    · omega
theorem raise_rowSum (j : Nat) : (E.raise i k x).rowSum j = E.rowSum j + if j = i then x else 0 := by
  unfold rowSum
  rw [raise_m h hi, sumTo_congr (fun q _ => raise_bid h hi hk j q), sumTo_add]
  congr 1
  by_cases e : j = i
  · rw [if_pos e, sumTo_single (i := k) hk (fun q _ hne => by simp [hne])]; simp [e]
  · rw [if_neg e, sumTo_congr (g := fun _ => 0) (fun q _ => by simp [e]), sumTo_zero]
theorem raise_claims : sumTo (fun j => (E.raise i k x).share j * (E.raise i k x).rowSum j) E.n = sumTo (fun j => E.share j * E.rowSum j) E.n + x * E.share i := by
  have e : ∀ j, j < E.n → (E.raise i k x).share j * (E.raise i k x).rowSum j = E.share j * E.rowSum j + if j = i then x * E.share i else 0 := fun j _ => by
    rw [raise_rowSum h hi hk, show (E.raise i k x).share j = E.share j from rfl, Int.mul_add]
    by_cases e : j = i
    · subst e; simp [Int.mul_comm]
    · simp [e]
  rw [sumTo_congr e, sumTo_add, sumTo_at hi]
theorem raise_best {q : Nat} (hq : q ≠ k) : ∀ j, (E.raise i k x).best q j = E.best q j
  | 0 => rfl
  | j + 1 => by rw [best, best, raise_best hq j, raise_bid h hi hk, raise_bid h hi hk]; simp [hq]
/-- The greatest bids. -/
theorem raise_top {q : Nat} (hq : q ≠ k) : (E.raise i k x).bid ((E.raise i k x).own q) q = E.bid (E.own q) q := by
  rw [raise_bid h hi hk, own, raise_best h hi hk hq]; simp [hq]; rfl
theorem raise_top_ge (x0 : 0 ≤ x) : E.bid (E.own k) k ≤ (E.raise i k x).bid ((E.raise i k x).own k) k := by
  have := (E.raise i k x).own_max k (E.own k) (h.own_lt k)
  rw [raise_bid h hi hk (E.own k)] at this
  split at this <;> omega
theorem raise_top_own (x0 : 0 ≤ x) (ho : E.own k = i) : (E.raise i k x).bid ((E.raise i k x).own k) k = E.bid (E.own k) k + x := by
  have a := (E.raise i k x).own_max k i hi
  rw [raise_bid h hi hk i] at a
  simp at a
  have hn : (E.raise i k x).own k < E.n := by
    have := h.n1
    exact (fun b : ∀ j, j ≤ E.n → (E.raise i k x).best k j < E.n => b E.n (Nat.le_refl _)) (fun j hj => by
      induction j with
      | zero => rw [best]; omega
      | succ j ih => rw [best]; split; omega; exact ih (by omega))
  have b := E.own_max k _ hn
  have c := raise_bid h hi hk (x := x) ((E.raise i k x).own k) k
  rw [ho] at b ⊢
  rw [c] at a ⊢
  split at a <;> split <;> omega
theorem raise_tops (x0 : 0 ≤ x) : sumTo (fun q => (E.raise i k x).bid ((E.raise i k x).own q) q) E.m = sumTo (fun q => E.bid (E.own q) q) E.m + ((E.raise i k x).bid ((E.raise i k x).own k) k - E.bid (E.own k) k) := by
  have e : ∀ q, q < E.m → (E.raise i k x).bid ((E.raise i k x).own q) q = E.bid (E.own q) q + if q = k then (E.raise i k x).bid ((E.raise i k x).own k) k - E.bid (E.own k) k else 0 := fun q _ => by
    by_cases e : q = k
    · subst e; simp; omega
    · rw [raise_top h hi hk e]; simp [e]
  rw [sumTo_congr e, sumTo_add, sumTo_at hk]
theorem raise_pool (x0 : 0 ≤ x) (x1 : x ≤ 1000000 - E.bid i k) :
    (E.raise i k x).pool = E.pool + E.S * ((E.raise i k x).bid ((E.raise i k x).own k) k - E.bid (E.own k) k) - x * E.share i := by
  have hk' := ok_of_code (raise_code h hi hk x0 x1)
  rw [hk'.pool_eq, h.pool_eq, raise_m h hi, raise_tops h hi hk x0, show (E.raise i k x).n = E.n from rfl, raise_claims h hi hk, show (E.raise i k x).S = E.S from rfl, Int.mul_add]
  omega
theorem raise_own (x0 : 0 ≤ x) (x1 : x ≤ 1000000 - E.bid i k) (ho : E.own k = i) : (E.raise i k x).pool = E.pool + x * (E.S - E.share i) := by
  have : E.bid (E.own k) k + x - E.bid (E.own k) k = x := by omega
  rw [raise_pool h hi hk x0 x1, raise_top_own h hi hk x0 ho, this, Int.mul_sub, Int.mul_comm x E.S]; omega
theorem raise_other (x0 : 0 ≤ x) (x1 : x ≤ 1000000 - E.bid i k) : E.pool - x * E.share i ≤ (E.raise i k x).pool := by
  have a := raise_top_ge h hi hk x0
  have b := h.S_bd
  have c := Int.mul_nonneg (show 0 ≤ E.S by omega) (show 0 ≤ (E.raise i k x).bid ((E.raise i k x).own k) k - E.bid (E.own k) k by omega)
  rw [raise_pool h hi hk x0 x1]; omega
end
end Est
end Go.Proofs.Ytedgdmblpjfaiaa
