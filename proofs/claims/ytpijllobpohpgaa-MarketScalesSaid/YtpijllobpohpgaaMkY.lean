/- The reference's way to the shares: the order by counting, sums, all stops one by one. No program in sight. -/
import Derived.Test.YtpijllobpohpgaaMa1
namespace Go.Proofs.Ytpijllobpohpgaa
set_option linter.unusedVariables false
set_option linter.unusedSimpArgs false

section
variable {a b : List Int} {n : Nat}
/-- A good is offered before another one. -/
def ahB (a b : List Int) (g h : Nat) : Bool := decide (gi a h * gi b g < gi a g * gi b h) || (decide (gi a g * gi b h = gi a h * gi b g) && decide (g < h))
theorem ah_prec {g h : Nat} : ahB a b g h = true ↔ Prec (mlt a b) g h := by
  unfold ahB Prec mlt
  simp only [Bool.or_eq_true, Bool.and_eq_true, decide_eq_true_eq, decide_eq_false_iff_not]
  omega
theorem MkOk.ah_pos (h : MkOk a b n) {g k : Nat} (hg : g < n) (hk : k < n) (hne : g ≠ k) : ahB a b g k = true ↔ mpos a b n g < mpos a b n k := by
  rw [ah_prec]
  constructor
  · intro p
    rcases Nat.lt_trichotomy (mpos a b n g) (mpos a b n k) with c | c | c
    · exact c
    · exfalso
      have e1 := mo_mpos (a := a) (b := b) hg; rw [c, mo_mpos hk] at e1; exact hne e1.symm
    · exfalso
      have q := h.sorted c (mpos_lt hg)
      rw [mo_mpos hk, mo_mpos hg] at q
      unfold Prec mlt at p q
      simp only [decide_eq_true_eq, decide_eq_false_iff_not] at p q
      omega
  · intro p
    have q := h.sorted p (mpos_lt hk)
    rwa [mo_mpos hg, mo_mpos hk] at q
/-- How many are ahead of a good. -/
def ahN (a b : List Int) (g : Nat) (h : Nat) : Int := if h ≠ g ∧ ahB a b h g = true then 1 else 0
theorem sum_below (p : Nat) : ∀ m, sumTo (fun k => if k < p then (1 : Int) else 0) m = min m p
  | 0 => by simp [sumTo]
  | m + 1 => by
    rw [sumTo, sum_below p m]
    split <;> omega
theorem MkOk.ah_count (h : MkOk a b n) {g : Nat} (hg : g < n) : sumTo (ahN a b g) n = mpos a b n g := by
  rw [← sumTo_perm (mord_perm a b n)]
  have e : sumTo (fun k => ahN a b g (gn (mord a b n) k)) n = sumTo (fun k => if k < mpos a b n g then (1 : Int) else 0) n := sumTo_congr fun k hk => by
    show ahN a b g (mo a b n k) = _
    unfold ahN
    by_cases q : mo a b n k = g
    · rw [if_neg (fun x => x.1 q), if_neg]
      have := mpos_mo (a := a) (b := b) hk; rw [q] at this; omega
    · have ap := h.ah_pos (mo_lt hk) hg q
      rw [mpos_mo hk] at ap
      by_cases c : k < mpos a b n g
      · rw [if_pos ⟨q, ap.2 c⟩, if_pos c]
      · rw [if_neg (fun x => c (ap.1 x.2)), if_neg c]
  rw [e, sum_below]
  have := mpos_lt (a := a) (b := b) hg
  omega
theorem ah_bd (g : Nat) (k : Nat) : 0 ≤ sumTo (ahN a b g) k ∧ sumTo (ahN a b g) k ≤ k := by
  have := sumTo_bd (f := ahN a b g) (lo := 0) (hi := 1) (k := k) (fun i hi => by unfold ahN; split <;> omega)
  omega
/-- The order as integers. -/
def mordI (a b : List Int) (n : Nat) : List Int := (mord a b n).map fun (k : Nat) => (k : Int)
theorem mordI_len (a b : List Int) (n : Nat) : (mordI a b n).length = n := by simp [mordI, mord_len]
theorem mordI_at {k : Nat} (h : k < n) : gi (mordI a b n) k = (mo a b n k : Int) := by
  have hl := mord_len a b n
  rw [gi_get (by simp [mordI]; omega)]
  unfold mordI mo
  rw [List.getElem_map, gn_get (by omega)]
/-- A list that has each good where it belongs is the order. -/
theorem ord_of {o : List Int} (hl : o.length = n) (h : ∀ j, j < n → mo a b n j < n → gi o j = (mo a b n j : Int)) : o = mordI a b n := by
  refine gi_ext (by rw [hl, mordI_len]) fun k hk => ?_
  rw [h k (by omega) (mo_lt (by omega)), mordI_at (by omega)]
theorem gi_set {l : List Int} {k j : Nat} {x : Int} (hk : k < l.length) : gi (l.set k x) j = if j = k then x else gi l j := by
  unfold gi
  rw [List.getD_eq_getElem?_getD, List.getD_eq_getElem?_getD]
  by_cases e : j = k
  · subst e; rw [List.getElem?_set_self hk, if_pos rfl]; rfl
  · rw [List.getElem?_set_ne (Ne.symm e), if_neg e]
theorem ord_step {o : List Int} {k : Nat} (hk : k < n) (hl : o.length = n) (h : ∀ j, j < n → mo a b n j < k → gi o j = (mo a b n j : Int)) :
    ∀ j, j < n → mo a b n j < k + 1 → gi (o.set (mpos a b n k) (k : Int)) j = (mo a b n j : Int) := by
  intro j hj hm
  have hp := mpos_lt (a := a) (b := b) hk
  rw [gi_set (by omega)]
  by_cases e : j = mpos a b n k
  · rw [if_pos e, e, mo_mpos hk]
  · rw [if_neg e]
    refine h j hj ?_
    rcases Nat.lt_or_ge (mo a b n j) k with q | q
    · exact q
    · have : mo a b n j = k := by omega
      exact absurd (by rw [← this, mpos_mo hj]) e
/-- The sums of the reference. -/
def sA (A : Nat → Int) (t : Nat) (k : Nat) : Int := if k < t then A k else 0
def sB (B : Nat → Int) (f : Nat) (k : Nat) : Int := if f ≤ k then B k else 0
theorem sA_sum {A : Nat → Int} {t : Nat} : ∀ m, sumTo (sA A t) m = sumTo A (min m t)
  | 0 => by simp [sumTo]
  | m + 1 => by
    rw [sumTo, sA_sum m]
    unfold sA
    by_cases c : m < t
    · rw [if_pos c, show min (m + 1) t = m + 1 by omega, show min m t = m by omega, sumTo]
    · rw [if_neg c, show min (m + 1) t = t by omega, show min m t = t by omega, Int.add_zero]
theorem sB_sum {B : Nat → Int} {f : Nat} : ∀ m, f ≤ m → sumTo (sB B f) m = sumTo B m - sumTo B f
  | 0, h => by have : f = 0 := by omega
               subst this; simp [sumTo]
  | m + 1, h => by
    by_cases c : f ≤ m
    · rw [sumTo, sB_sum m c, sumTo]; unfold sB; rw [if_pos c]; omega
    · have e : f = m + 1 := by omega
      subst e
      rw [sumTo_congr (g := fun _ => 0) (fun i hi => by unfold sB; rw [if_neg (by omega)]), sumTo_zero]; omega
theorem sum_M {t : Nat} (h : t ≤ n) : sumTo (sA (mA a b n) t) n = mM (mA a b n) t := by rw [sA_sum, show min n t = t by omega]; rfl
theorem sum_Y {t : Nat} (h : t ≤ n) : sumTo (sB (mB a b n) t) n = mY (mB a b n) n t := sB_sum n h
/-- Each of the goods stands right for a stop. -/
def stB (A B : Nat → Int) (n t k : Nat) : Bool := (decide (k < t) && decide (B k * mM A t ≤ A k * mY B n t)) || (decide (t ≤ k) && decide (A k * mY B n t ≤ B k * mM A t))
theorem okB_iff {A B : Nat → Int} {n t : Nat} (ht : t ≤ n) : okB A B n t ↔ 0 < mM A t ∧ 0 < mY B n t ∧ ∀ k, k < n → stB A B n t k = true := by
  unfold okB stB
  constructor
  · rintro ⟨m, y, h1, h2⟩
    refine ⟨m, y, fun k hk => ?_⟩
    rcases Nat.lt_or_ge k t with c | c
    · simp [c, h1 k c]
    · simp [c, h2 k c hk]
  · rintro ⟨m, y, h⟩
    refine ⟨m, y, fun k hk => ?_, fun k hk hn => ?_⟩
    · have := h k (by omega)
      simp only [Bool.or_eq_true, Bool.and_eq_true, decide_eq_true_eq] at this
      omega
    · have := h k hn
      simp only [Bool.or_eq_true, Bool.and_eq_true, decide_eq_true_eq] at this
      omega
end
end Go.Proofs.Ytpijllobpohpgaa
