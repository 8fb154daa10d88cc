/- Payments: rounding down, what is left out, and who gets a cent more. Plain. -/
import Derived.Test.YtedgdmblpjfaiaaFindsB
import Derived.Test.YtedgdmblpjfaiaaSort
namespace Go.Proofs.Ytedgdmblpjfaiaa
open Go.RowKit
set_option linter.unusedVariables false
set_option linter.unusedSimpArgs false

namespace Est
def D (E : Est) : Int := E.S * E.S
def rest (E : Est) (i : Nat) : Int := E.exact i % E.D
def whole (E : Est) (i : Nat) : Int := E.exact i / E.D
def short (E : Est) : Int := -sumTo E.whole E.n
def ltR (E : Est) (a b : Nat) : Bool := decide (E.rest b < E.rest a)
def order (E : Est) : List Nat := isort E.ltR (List.range E.n)
/-- The payments when k heirs of the order have a cent more. -/
def payTo (E : Est) (k : Nat) (i : Nat) : Int := E.whole i + if i ∈ E.order.take k then 1 else 0
def pay (E : Est) (i : Nat) : Int := E.payTo E.short.toNat i

theorem exact_sum (E : Est) : sumTo E.exact E.n = 0 := by
  have e : sumTo E.exact E.n = E.S * (sumTo E.claim E.n - E.S * sumTo (fun i => E.worth i E.m) E.n) + E.S * E.pool := by
    have h1 : sumTo E.exact E.n = sumTo (fun i => E.S * (E.claim i - E.S * E.worth i E.m)) E.n + sumTo (fun i => E.pool * E.share i) E.n := by
      rw [← sumTo_add]; refine sumTo_congr fun i _ => ?_
      rw [Int.mul_comm E.pool]; rfl
    rw [h1, sumTo_mul, sumTo_sub, sumTo_mul, sumTo_mul, Int.mul_comm E.pool]; rfl
  rw [e, pool, ← Int.mul_add]
  have : sumTo E.claim E.n - E.S * sumTo (fun i => E.worth i E.m) E.n + (E.S * sumTo (fun i => E.worth i E.m) E.n - sumTo E.claim E.n) = 0 := by omega
  rw [this, Int.mul_zero]

theorem parts (E : Est) (i : Nat) : E.exact i = E.D * E.whole i + E.rest i := by unfold whole rest; have := Int.mul_ediv_add_emod (E.exact i) E.D; omega

theorem short_rest (E : Est) : E.D * E.short = sumTo E.rest E.n := by
  have e := exact_sum E
  have h1 : sumTo E.exact E.n = E.D * sumTo E.whole E.n + sumTo E.rest E.n := by
    rw [← sumTo_mul, ← sumTo_add]; exact sumTo_congr fun i _ => E.parts i
  have : E.D * E.short = -(E.D * sumTo E.whole E.n) := by unfold short; rw [Int.mul_neg]
  omega

section
variable {E : Est} (h : E.Ok)
include h
theorem Ok.D_bd : 1 ≤ E.D ∧ E.D ≤ 1000000 := by
  have a := h.S_bd
  have b := mul_bd (a := E.S) (x := E.S) (M := 1000) (by omega) (by omega) (by omega) (by omega) (by omega)
  have c : 1 * 1 ≤ E.S * E.S := Int.mul_le_mul a.1 a.1 (by omega) (by omega)
  unfold D; omega
theorem Ok.exact_bd (i : Nat) (hi : i < E.n) : -400000000000000 ≤ E.exact i ∧ E.exact i ≤ 400000000000000 := by
  have b0 := h.S_bd
  have b1 := h.claim_bd i hi
  have b2 := h.worth_bd i hi
  have b3 := h.pool_bd
  have b4 := h.share_bd i hi
  have m1 := mul_bd (a := E.S) (x := E.worth i E.m) (M := 30000000) (by omega) (by omega) (by omega) (by omega) (by omega)
  have m2 := mul_bd (a := E.S) (x := E.claim i - E.S * E.worth i E.m) (M := 60000000000) (by omega) (by omega) (by omega) (by omega) (by omega)
  have m3 := mul_bd (a := E.share i) (x := E.pool) (M := 300000000000) (by omega) (by omega) (by omega) (by omega) (by omega)
  unfold exact; omega
theorem Ok.rest_bd (i : Nat) : 0 ≤ E.rest i ∧ E.rest i < E.D := by
  have a := h.D_bd
  exact ⟨Int.emod_nonneg _ (by omega), Int.emod_lt_of_pos _ (by omega)⟩
theorem Ok.whole_bd (i : Nat) (hi : i < E.n) : -400000000000000 ≤ E.whole i ∧ E.whole i ≤ 400000000000000 := by
  have a := h.D_bd
  have b := h.exact_bd i hi
  have c := E.parts i
  have d := h.rest_bd i
  constructor
  · rcases Int.lt_or_le (E.whole i) 0 with hn | hp
    · have : E.D * E.whole i ≤ 1 * E.whole i := Int.mul_le_mul_of_nonpos_right a.1 (by omega)
      rcases Int.lt_or_le (E.whole i) (-400000000000000) with hq | hq
      · exfalso
        -- whole i ≤ -4e14 - 1: D * whole i + rest i < D * (whole i + 1) ≤ whole i + 1
        have h1 : E.D * (E.whole i + 1) ≤ 1 * (E.whole i + 1) := Int.mul_le_mul_of_nonpos_right a.1 (by omega)
        rw [Int.mul_add, Int.mul_one] at h1
        omega
      · exact hq
    · omega
  · rcases Int.lt_or_le (E.whole i) 0 with hn | hp
    · omega
    · have : 1 * E.whole i ≤ E.D * E.whole i := Int.mul_le_mul_of_nonneg_right a.1 hp
      omega
theorem Ok.short_bd : 0 ≤ E.short ∧ E.short < E.n := by
  have e := E.short_rest
  have a := h.D_bd
  have b := sumTo_bd (f := E.rest) (lo := 0) (hi := E.D - 1) (k := E.n) (fun i _ => by have := h.rest_bd i; omega)
  have hn := h.n1
  rw [Int.sub_mul] at b
  constructor
  · rcases Int.lt_or_le E.short 0 with hl | hl
    · exfalso
      have : E.D * E.short ≤ 1 * E.short := Int.mul_le_mul_of_nonpos_right a.1 (by omega)
      omega
    · exact hl
  · rcases Int.lt_or_le E.short E.n with hl | hl
    · exact hl
    · exfalso
      have : E.D * (E.n : Int) ≤ E.D * E.short := Int.mul_le_mul_of_nonneg_left hl (by omega)
      omega
end
theorem order_perm (E : Est) : E.order.Perm (List.range E.n) := isort_perm _
theorem order_length (E : Est) : E.order.length = E.n := by rw [E.order_perm.length_eq]; simp
theorem order_mem (E : Est) {x : Nat} : x ∈ E.order ↔ x < E.n := by rw [E.order_perm.mem_iff]; simp
theorem order_nodup (E : Est) : E.order.Nodup := E.order_perm.nodup_iff.2 List.nodup_range
end Est

/-- Go's way to the rest that is not negative. -/
theorem rem_eq {x d : Int} (hd : 0 < d) : (x.tmod d + d).tmod d = x % d := by
  have h1 := Int.tmod_lt_of_pos x hd
  have h2 : -d < x.tmod d := by
    have := Int.lt_tmod_of_pos x hd; omega
  rw [Int.tmod_eq_emod_of_nonneg (by omega), Int.add_emod_right]
  rcases Int.lt_or_le x 0 with hx | hx
  · have := Int.tmod_eq_emod (a := x) (b := d)
    rw [this]
    split
    · simp
    · rw [Int.sub_emod]; simp
      have : (d.natAbs : Int) = d := by omega
      rw [this]; simp
  · rw [Int.tmod_eq_emod_of_nonneg hx, Int.emod_emod]
theorem quo_eq {x d : Int} (hd : 0 < d) : (x - x % d).tdiv d = x / d := by
  have h : x - x % d = d * (x / d) := by have := Int.mul_ediv_add_emod x d; omega
  rw [h, Int.mul_tdiv_cancel_left _ (by omega)]
end Go.Proofs.Ytedgdmblpjfaiaa
