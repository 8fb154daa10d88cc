/- How goods are divided between two: plain. -/
import Derived.Test.YtcjfcfgkejoeeaaAdV
import Derived.Test.YtcjfcfgkejoeeaaSortP
namespace Go.Proofs.Ytcjfcfgkejoeeaa
set_option linter.unusedVariables false
set_option linter.unusedSimpArgs false

/-- Who gets a good first. -/
def ini (bs : List (List Int)) (k : Nat) : Int := if gi (gr bs 0) k < gi (gr bs 1) k then 1 else 0
def iniL (bs : List (List Int)) (k : Nat) : List Int := (List.range k).map (ini bs)
/-- What agent i has, of the first k goods. -/
def hasTo (bs : List (List Int)) (i : Int) (k : Nat) : Int := sumTo (fun j => if ini bs j = i then gi (gr bs i.toNat) j else 0) k
def num (bs : List (List Int)) : Nat := (gr bs 0).length
def richN (bs : List (List Int)) : Nat := if hasTo bs 0 (num bs) < hasTo bs 1 (num bs) then 1 else 0
def own (bs : List (List Int)) (k : Nat) : Int := gi (gr bs (richN bs)) k
def oth (bs : List (List Int)) (k : Nat) : Int := gi (gr bs (1 - richN bs)) k
/-- What may be passed. -/
def inOrd (bs : List (List Int)) (k : Nat) : Bool := decide (ini bs k = richN bs) && decide (0 < oth bs k)
def ord0 (bs : List (List Int)) (k : Nat) : List Nat := (List.range k).filter (inOrd bs)
def cfD (bs : List (List Int)) (a b : Nat) : Int := cmpI (own bs a * oth bs b) (own bs b * oth bs a)
def ltD (bs : List (List Int)) : Nat → Nat → Bool := fun a b => decide (cfD bs a b < 0)
def ord (bs : List (List Int)) : List Nat := isort (ltD bs) (ord0 bs (num bs))
/-- The part of agent 0 of a good that is split. -/
def partOf (bs : List (List Int)) (more x : Int) : Int := if richN bs = 1 then more else x - more
/-- The goods are passed one behind the other. -/
def passR (bs : List (List Int)) : List Nat → List Int → Int → Int → Pt
  | [], ow, _, _ => ⟨ow, -1, ⟨0, 1⟩⟩
  | g :: r, ow, hr, ho =>
    if hr - ho ≤ 0 then ⟨ow, -1, ⟨0, 1⟩⟩
    else if hr - ho < own bs g + oth bs g then ⟨ow.set g 0, g, makeR (partOf bs (hr - ho) (own bs g + oth bs g)) (own bs g + oth bs g)⟩
    else passR bs r (ow.set g (1 - (richN bs : Int))) (hr - own bs g) (ho + oth bs g)
def hasR (bs : List (List Int)) : Int := hasTo bs (richN bs) (num bs)
def hasO (bs : List (List Int)) : Int := hasTo bs (1 - (richN bs : Int)) (num bs)
def divP (bs : List (List Int)) : Pt := passR bs (ord bs) (iniL bs (num bs)) (hasR bs) (hasO bs)

theorem iniL_succ (bs : List (List Int)) (k : Nat) : iniL bs (k + 1) = iniL bs k ++ [ini bs k] := by simp [iniL, List.range_succ]
theorem iniL_length (bs : List (List Int)) (k : Nat) : (iniL bs k).length = k := by simp [iniL]
theorem iniL_gi {bs : List (List Int)} {k j : Nat} (h : j < k) : gi (iniL bs k) j = ini bs j := by
  rw [gi_get (by rw [iniL_length]; exact h)]; simp [iniL]
theorem ini_cases (bs : List (List Int)) (k : Nat) : ini bs k = 0 ∨ ini bs k = 1 := by unfold ini; split <;> simp
theorem rich_cases (bs : List (List Int)) : richN bs = 0 ∨ richN bs = 1 := by unfold richN; split <;> simp
theorem ord0_succ (bs : List (List Int)) (k : Nat) : ord0 bs (k + 1) = if inOrd bs k = true then ord0 bs k ++ [k] else ord0 bs k := by
  unfold ord0; rw [List.range_succ, List.filter_append]
  by_cases h : inOrd bs k = true
  · rw [if_pos h]; simp [h]
  · rw [if_neg h]; simp [h]
theorem ord0_mem {bs : List (List Int)} {k x : Nat} : x ∈ ord0 bs k ↔ x < k ∧ inOrd bs x = true := by unfold ord0; rw [List.mem_filter, List.mem_range]
theorem ord0_length (bs : List (List Int)) (k : Nat) : (ord0 bs k).length ≤ k := by
  unfold ord0; have := List.length_filter_le (inOrd bs) (List.range k); simpa using this
theorem ord0_sorted (bs : List (List Int)) (k : Nat) : List.Pairwise (· < ·) (ord0 bs k) := by
  unfold ord0; exact List.Pairwise.filter _ (List.pairwise_lt_range)
theorem ord_mem {bs : List (List Int)} {x : Nat} : x ∈ ord bs ↔ x < num bs ∧ inOrd bs x = true := by
  unfold ord; rw [(isort_perm _).mem_iff, ord0_mem]
theorem ord_length (bs : List (List Int)) : (ord bs).length = (ord0 bs (num bs)).length := isort_length _
theorem ord_nodup (bs : List (List Int)) : (ord bs).Nodup := by
  unfold ord
  rw [(isort_perm _).nodup_iff]
  exact (ord0_sorted bs (num bs)).imp (fun h => by omega)
theorem inOrd_iff {bs : List (List Int)} {k : Nat} : inOrd bs k = true ↔ ini bs k = richN bs ∧ 0 < oth bs k := by simp [inOrd]

section
variable {bs : List (List Int)} {n : Nat}
theorem AdOk.num (h : AdOk bs n) : num bs = n := h.l0
theorem AdOk.v (h : AdOk bs n) {i : Nat} (hi : i < 2) {k : Nat} (hk : k < n) : 0 ≤ gi (gr bs i) k ∧ gi (gr bs i) k ≤ 1000 := by
  match i, hi with
  | 0, _ => exact h.v0 k hk
  | 1, _ => exact h.v1 k hk
theorem AdOk.own_bd (h : AdOk bs n) {k : Nat} (hk : k < n) : 0 ≤ own bs k ∧ own bs k ≤ 1000 := by
  have := rich_cases bs
  exact h.v (by omega) hk
theorem AdOk.oth_bd (h : AdOk bs n) {k : Nat} (hk : k < n) : 0 ≤ oth bs k ∧ oth bs k ≤ 1000 := by
  have := rich_cases bs
  exact h.v (by omega) hk
theorem AdOk.term (h : AdOk bs n) {i : Int} (hi : i = 0 ∨ i = 1) {j : Nat} (hj : j < n) : 0 ≤ (if ini bs j = i then gi (gr bs i.toNat) j else 0) ∧ (if ini bs j = i then gi (gr bs i.toNat) j else 0) ≤ 1000 := by
  have := h.v (i := i.toNat) (by omega) hj
  split <;> omega
theorem AdOk.has (h : AdOk bs n) {i : Int} (hi : i = 0 ∨ i = 1) {k : Nat} (hk : k ≤ n) : 0 ≤ hasTo bs i k ∧ hasTo bs i k ≤ 10000 := by
  have := sumTo_bd (f := fun j => if ini bs j = i then gi (gr bs i.toNat) j else 0) (lo := 0) (hi := 1000) (k := k) (fun j hj => h.term hi (by omega))
  have := h.n10
  unfold hasTo; omega
theorem hasTo_succ (i : Int) (k : Nat) : hasTo bs i (k + 1) = hasTo bs i k + if ini bs k = i then gi (gr bs i.toNat) k else 0 := rfl
/-- The order is one of those that may be passed. -/
theorem AdOk.weak (h : AdOk bs n) : WeakOn (fun k => k < n ∧ 0 < oth bs k) (ltD bs) := by
  have ho : ∀ k, k < n → 0 ≤ own bs k := fun k hk => (h.own_bd hk).1
  constructor
  · rintro a b - - hab
    simp only [ltD, decide_eq_true_eq, decide_eq_false_iff_not] at *
    unfold cfD cmpI at *
    split at hab
    · rw [if_neg (by omega), if_pos (by assumption)]; omega
    · split at hab <;> omega
  · rintro a b c ⟨ha, pa⟩ ⟨hb, pb⟩ ⟨hc, pc⟩ h1 h2
    simp only [ltD, decide_eq_false_iff_not] at *
    have e1 : own bs a * oth bs b ≤ own bs b * oth bs a := by
      rcases Int.lt_or_le (own bs b * oth bs a) (own bs a * oth bs b) with k | k
      · exact absurd (show cfD bs b a < 0 by unfold cfD cmpI; rw [if_pos k]; omega) h1
      · exact k
    have e2 : own bs b * oth bs c ≤ own bs c * oth bs b := by
      rcases Int.lt_or_le (own bs c * oth bs b) (own bs b * oth bs c) with k | k
      · exact absurd (show cfD bs c b < 0 by unfold cfD cmpI; rw [if_pos k]; omega) h2
      · exact k
    have e3 : own bs a * oth bs c ≤ own bs c * oth bs a := by
      have f1 := Int.mul_le_mul_of_nonneg_right e1 (Int.le_of_lt pc)
      have f2 := Int.mul_le_mul_of_nonneg_right e2 (Int.le_of_lt pa)
      have f3 : own bs a * oth bs c * oth bs b ≤ own bs c * oth bs a * oth bs b := by
        calc own bs a * oth bs c * oth bs b = own bs a * oth bs b * oth bs c := by rw [Int.mul_assoc, Int.mul_comm (oth bs c), ← Int.mul_assoc]
          _ ≤ own bs b * oth bs a * oth bs c := f1
          _ = own bs b * oth bs c * oth bs a := by rw [Int.mul_assoc, Int.mul_comm (oth bs a), ← Int.mul_assoc]
          _ ≤ own bs c * oth bs b * oth bs a := f2
          _ = own bs c * oth bs a * oth bs b := by rw [Int.mul_assoc, Int.mul_comm (oth bs b), ← Int.mul_assoc]
      exact Int.le_of_mul_le_mul_right f3 pb
    intro k
    unfold cfD cmpI at k
    split at k
    · omega
    · split at k <;> omega
theorem AdOk.sorted (h : AdOk bs n) : List.Pairwise (Prec (ltD bs)) (ord bs) := by
  refine isort_sorted h.weak _ (fun x hx => ?_) (ord0_sorted bs _)
  have := ord0_mem.1 hx
  rw [h.num] at this
  exact ⟨this.1, (inOrd_iff.1 this.2).2⟩
end
theorem passR_nil (bs : List (List Int)) (ow : List Int) (hr ho : Int) : passR bs [] ow hr ho = ⟨ow, -1, ⟨0, 1⟩⟩ := rfl
theorem passR_stop {bs : List (List Int)} {g : Nat} {l : List Nat} {ow : List Int} {hr ho : Int} (h : hr - ho ≤ 0) : passR bs (g :: l) ow hr ho = ⟨ow, -1, ⟨0, 1⟩⟩ := by rw [passR, if_pos h]
theorem passR_split {bs : List (List Int)} {g : Nat} {l : List Nat} {ow : List Int} {hr ho : Int} (h : ¬ hr - ho ≤ 0) (k : hr - ho < own bs g + oth bs g) : passR bs (g :: l) ow hr ho = ⟨ow.set g 0, g, makeR (partOf bs (hr - ho) (own bs g + oth bs g)) (own bs g + oth bs g)⟩ := by rw [passR, if_neg h, if_pos k]
theorem passR_pass {bs : List (List Int)} {g : Nat} {l : List Nat} {ow : List Int} {hr ho : Int} (h : ¬ hr - ho ≤ 0) (k : ¬ hr - ho < own bs g + oth bs g) : passR bs (g :: l) ow hr ho = passR bs l (ow.set g (1 - (richN bs : Int))) (hr - own bs g) (ho + oth bs g) := by rw [passR, if_neg h, if_neg k]
theorem ord_at {bs : List (List Int)} {t : Nat} (ht : t < (ord bs).length) : (ord bs).drop t = (ord bs)[t] :: (ord bs).drop (t + 1) := List.drop_eq_getElem_cons ht
theorem ord_lt {bs : List (List Int)} {t : Nat} (ht : t < (ord bs).length) : (ord bs)[t] < num bs ∧ inOrd bs (ord bs)[t] = true := ord_mem.1 (List.getElem_mem ht)
theorem makeR_ok {n d : Int} (hd : 0 < d) (hd' : d ≤ 1000000000000000000) (h0 : -1000000000000000000 ≤ n) (h1 : n ≤ 1000000000000000000) : (makeR n d).Ok ∧ (makeR n d).q = Rat.divInt n d := by
  have := mkR_divInt hd hd' h0 h1
  unfold makeR; rw [if_neg (by omega)]
  exact ⟨this.1, this.2.1⟩
end Go.Proofs.Ytcjfcfgkejoeeaa
