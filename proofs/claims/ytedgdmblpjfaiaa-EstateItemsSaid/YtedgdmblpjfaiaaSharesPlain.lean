/- An estate whose shares are all multiplied: plain. -/
import Derived.Test.YtedgdmblpjfaiaaFairPlain
namespace Go.Proofs.Ytedgdmblpjfaiaa
set_option linter.unusedVariables false
set_option linter.unusedSimpArgs false

def mulL (E : Est) (t : Int) (k : Nat) : List Int := mapL k fun i => E.share i * t
theorem mulL_length (E : Est) (t : Int) (k : Nat) : (mulL E t k).length = k := mapL_length _ _
theorem mulL_succ (E : Est) (t : Int) (k : Nat) : cellsL (mulL E t (k + 1)) = cellsL (mulL E t k) ++ [.int .i64 (E.share k * t)] := by
  simp [mulL, mapL, List.range_succ]

namespace Est
def mul (E : Est) (t : Int) : Est := ⟨mulL E t E.sh.length, E.bd⟩
section
variable (E : Est) (t : Int)
theorem mul_n : (E.mul t).n = E.n := mulL_length _ _ _
theorem mul_bid (i k : Nat) : (E.mul t).bid i k = E.bid i k := rfl
theorem mul_m : (E.mul t).m = E.m := rfl
theorem mul_share (i : Nat) : (E.mul t).share i = E.share i * t := by
  rcases Nat.lt_or_ge i E.sh.length with h | h
  · exact mapL_gi h
  · have e1 : (E.mul t).share i = 0 := gi_none (by rw [show (E.mul t).sh.length = E.sh.length from mulL_length _ _ _]; exact h)
    have e2 : E.share i = 0 := gi_none h
    rw [e1, e2]; simp
theorem mul_sum (k : Nat) : sumTo (E.mul t).share k = t * sumTo E.share k := by
  rw [← sumTo_mul]; exact sumTo_congr fun i _ => by rw [mul_share, Int.mul_comm]
theorem mul_S : (E.mul t).S = t * E.S := by rw [S, mul_n, mul_sum]; rfl
theorem mul_best (k : Nat) : ∀ i, (E.mul t).best k i = E.best k i
  | 0 => rfl
  | i + 1 => by rw [best, best, mul_best k i, mul_bid, mul_bid]
theorem mul_own (k : Nat) : (E.mul t).own k = E.own k := by rw [own, own, mul_best, mul_n]
theorem mul_worth (i k : Nat) : (E.mul t).worth i k = E.worth i k := by
  unfold worth worthOf
  exact sumTo_congr fun j _ => by simp only [mul_own, mul_bid]
theorem mul_claim (i : Nat) : (E.mul t).claim i = t * E.claim i := by
  have e : (E.mul t).rowSum i = E.rowSum i := rfl
  rw [claim, claim, mul_share, e, Int.mul_comm (E.share i) t, Int.mul_assoc]
theorem mul_pool : (E.mul t).pool = t * E.pool := by
  have e1 : sumTo (fun i => (E.mul t).worth i (E.mul t).m) (E.mul t).n = sumTo (fun i => E.worth i E.m) E.n := by
    rw [mul_n]; exact sumTo_congr fun i _ => mul_worth E t i _
  have e2 : sumTo (E.mul t).claim (E.mul t).n = t * sumTo E.claim E.n := by
    rw [mul_n, ← sumTo_mul]; exact sumTo_congr fun i _ => mul_claim E t i
  rw [pool, pool, e1, e2, mul_S, Int.mul_sub, Int.mul_assoc]
theorem mul_exact (i : Nat) : (E.mul t).exact i = t * t * E.exact i := by
  have e : (E.mul t).worth i (E.mul t).m = E.worth i E.m := mul_worth E t i _
  have c1 : t * E.S * (t * E.claim i - t * E.S * E.worth i E.m) = t * t * (E.S * (E.claim i - E.S * E.worth i E.m)) := by
    rw [Int.mul_assoc t E.S (E.worth i E.m), ← Int.mul_sub]; ac_rfl
  have c2 : E.share i * t * (t * E.pool) = t * t * (E.share i * E.pool) := by ac_rfl
  rw [exact, exact, mul_S, mul_claim, mul_pool, mul_share, e, c1, c2, Int.mul_add]
theorem mul_D : (E.mul t).D = t * t * E.D := by
  rw [D, D, mul_S]; ac_rfl
end
section
variable {E : Est} {t : Int} (ht : 1 ≤ t)
include ht
theorem sq_pos_ : 0 < t * t := Int.mul_pos (by omega) (by omega)
theorem mul_rest (i : Nat) : (E.mul t).rest i = t * t * E.rest i := by
  rw [rest, rest, mul_exact, mul_D, Int.mul_emod_mul_of_pos _ _ (sq_pos_ ht)]
theorem mul_whole (i : Nat) : (E.mul t).whole i = E.whole i := by
  rw [whole, whole, mul_exact, mul_D, Int.mul_ediv_mul_of_pos _ _ (sq_pos_ ht)]
theorem mul_short : (E.mul t).short = E.short := by
  rw [short, short, mul_n, sumTo_congr fun i _ => mul_whole ht i]
theorem mul_ltR : (E.mul t).ltR = E.ltR := by
  funext a b
  rw [ltR, ltR, mul_rest ht, mul_rest ht]
  have h := sq_pos_ ht
  by_cases q : E.rest b < E.rest a
  · have := Int.mul_lt_mul_of_pos_left q h
    rw [decide_eq_true q, decide_eq_true this]
  · have : ¬ t * t * E.rest b < t * t * E.rest a := fun h2 => q (Int.lt_of_mul_lt_mul_left h2 (by omega))
    rw [decide_eq_false q, decide_eq_false this]
theorem mul_order : (E.mul t).order = E.order := by rw [order, order, mul_ltR ht, mul_n]
theorem mul_pay (i : Nat) : (E.mul t).pay i = E.pay i := by
  rw [pay, pay, payTo, payTo, mul_whole ht, mul_order ht, mul_short ht]
theorem mul_payL : payL (E.mul t) = payL E := by
  have e : (E.mul t).sh.length = E.sh.length := mulL_length _ _ _
  unfold payL
  rw [e]; exact mapL_congr fun i _ => mul_pay ht i
theorem mul_code (hc : E.code = 0) (hS : t * E.S ≤ 1000) : (E.mul t).code = 0 := by
  have h := ok_of_code hc
  have e : (E.mul t).sh.length = E.sh.length := mulL_length _ _ _
  have e2 : (E.mul t).bd = E.bd := rfl
  have e3 : (E.mul t).wide = E.wide := rfl
  have hg : (E.mul t).good = true := by
    rw [good_iff]
    intro i hi
    rw [mul_n] at hi
    have ho : E.okAt i = true := by
      unfold code at hc
      split at hc
      · simp at hc
      split at hc
      · simp at hc
      split at hc
      · rename_i hg; exact good_iff.1 hg i hi
      · simp at hc
    have hs := h.share_bd i hi
    have hl := sumTo_le_of_nonneg (f := E.share) (i := i + 1) (n := E.n) (fun j hj => by have := h.share_bd j hj; omega) hi
    have hl2 : t * sumTo E.share (i + 1) ≤ t * E.S := Int.mul_le_mul_of_nonneg_left hl (by omega)
    rw [sumTo, Int.mul_add] at hl2
    have hp : 1 * 1 ≤ E.share i * t := Int.mul_le_mul hs.1 ht (by omega) (by omega)
    simp only [okAt, Bool.and_eq_true, decide_eq_true_eq] at ho ⊢
    refine ⟨⟨⟨?_, ?_⟩, ho.1.2⟩, ho.2⟩
    · rw [mul_share]; omega
    · rw [left, mul_sum, mul_share, Int.mul_comm (E.share i)]; omega
  unfold code at hc ⊢
  rw [e, e2, e3, if_pos hg]
  split at hc
  · simp at hc
  rename_i h1
  split at hc
  · simp at hc
  rename_i h2
  rw [if_neg h1, if_neg h2]
end
theorem mul_owners (E : Est) (t : Int) : ownersL (E.mul t) (E.mul t).m = ownersL E E.m := by
  unfold ownersL
  rw [mul_m]
  exact List.map_congr_left fun k _ => by rw [mul_own]
end Est
end Go.Proofs.Ytedgdmblpjfaiaa
