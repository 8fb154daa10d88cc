/- What is fair about the payments: plain. -/
import Derived.Test.YtedgdmblpjfaiaaPay
namespace Go.Proofs.Ytedgdmblpjfaiaa
set_option linter.unusedVariables false
set_option linter.unusedSimpArgs false

def sumL (f : Nat → Int) : List Nat → Int
  | [] => 0
  | x :: l => f x + sumL f l
theorem sumL_append (f : Nat → Int) (b : List Nat) : ∀ a, sumL f (a ++ b) = sumL f a + sumL f b
  | [] => by simp [sumL]
  | x :: a => by rw [List.cons_append, sumL, sumL, sumL_append f b a]; omega
theorem sumL_perm {f : Nat → Int} {a b : List Nat} (h : a.Perm b) : sumL f a = sumL f b := by
  induction h with
  | nil => rfl
  | cons x _ ih => rw [sumL, sumL, ih]
  | swap x y l => simp only [sumL]; omega
  | trans _ _ h1 h2 => exact h1.trans h2
theorem sumL_range (f : Nat → Int) : ∀ n, sumL f (List.range n) = sumTo f n
  | 0 => rfl
  | n + 1 => by rw [List.range_succ, sumL_append, sumL_range f n, sumTo]; simp [sumL]
theorem sumL_le {f : Nat → Int} {c : Int} : ∀ {l : List Nat}, (∀ x ∈ l, f x ≤ c) → sumL f l ≤ c * l.length
  | [], _ => by simp [sumL]
  | x :: l, h => by
    have h1 := sumL_le (l := l) (fun y hy => h y (by simp [hy]))
    have h2 := h x (by simp)
    have e : c * ((x :: l).length : Int) = c * (l.length : Int) + c := by rw [List.length_cons, Int.natCast_add, Int.mul_add]; simp
    rw [sumL, e]; omega
theorem sumL_zero {f : Nat → Int} : ∀ {l : List Nat}, (∀ x ∈ l, f x = 0) → sumL f l = 0
  | [], _ => rfl
  | x :: l, h => by rw [sumL, h x (by simp), sumL_zero (l := l) (fun y hy => h y (by simp [hy]))]; rfl
theorem sum_mem {n : Nat} : ∀ {l : List Nat}, l.Nodup → (∀ x ∈ l, x < n) → sumTo (fun i => if i ∈ l then 1 else 0) n = l.length
  | [], _, _ => by simp [sumTo_zero]
  | x :: l, hd, hl => by
    rw [List.nodup_cons] at hd
    have ih := sum_mem hd.2 (fun y hy => hl y (by simp [hy]))
    have e : sumTo (fun i => if i ∈ x :: l then (1 : Int) else 0) n = sumTo (fun i => (if i = x then (1 : Int) else 0) + if i ∈ l then 1 else 0) n := sumTo_congr fun i _ => by
      by_cases h : i = x
      · subst h; simp [hd.1]
      · by_cases h2 : i ∈ l <;> simp [h, h2]
    rw [e, sumTo_add, ih, sumTo_single (i := x) (hl x (by simp)) (fun j _ hne => if_neg hne), if_pos rfl, List.length_cons]
    omega

namespace Est
section
variable {E : Est} (h : E.Ok)
include h
theorem Ok.sum_worth : sumTo (fun i => E.worth i E.m) E.n = sumTo (fun k => E.bid (E.own k) k) E.m := by
  have e : sumTo (fun i => E.worth i E.m) E.n = sumTo (fun k => sumTo (fun i => if (E.own k : Int) = (i : Int) then E.bid i k else 0) E.n) E.m := sumTo_comm (fun i k => if (E.own k : Int) = (i : Int) then E.bid i k else 0) E.n E.m
  rw [e]
  refine sumTo_congr fun k _ => ?_
  rw [sumTo_single (i := E.own k) (h.own_lt k) (fun j _ hne => if_neg (by omega)), if_pos rfl]
theorem Ok.pool_nonneg : 0 ≤ E.pool := by
  have hb0 : 0 ≤ sumTo (fun k => E.bid (E.own k) k) E.m := sumTo_nonneg fun k hk => h.bid0 _ k (h.own_lt k) hk
  have e : sumTo E.claim E.n ≤ sumTo (fun i => sumTo (fun k => E.bid (E.own k) k) E.m * E.share i) E.n := sumTo_mono fun i hi => by
    have hs := h.share_bd i hi
    have hr : sumTo (E.bid i) E.m ≤ sumTo (fun k => E.bid (E.own k) k) E.m := sumTo_mono fun k _ => E.own_max k i hi
    have := Int.mul_le_mul_of_nonneg_left hr (show 0 ≤ E.share i by omega)
    rw [Int.mul_comm _ (E.share i)]; exact this
  rw [sumTo_mul] at e
  have : E.S * sumTo (fun i => E.worth i E.m) E.n = sumTo (fun k => E.bid (E.own k) k) E.m * sumTo E.share E.n := by rw [h.sum_worth, Int.mul_comm]; rfl
  unfold pool; omega
theorem Ok.exact_ge (i : Nat) (hi : i < E.n) : E.S * E.claim i - E.D * E.worth i E.m ≤ E.exact i := by
  have hp := Int.mul_nonneg (show 0 ≤ E.share i by have := h.share_bd i hi; omega) h.pool_nonneg
  have e : E.S * (E.claim i - E.S * E.worth i E.m) = E.S * E.claim i - E.D * E.worth i E.m := by rw [Int.mul_sub, ← Int.mul_assoc]; rfl
  unfold exact; omega
theorem Ok.extra_pos {o : Nat} (ho : o ∈ E.order.take E.short.toNat) : 0 < E.rest o := by
  have hs := h.short_bd
  have hD := h.D_bd
  rcases Int.lt_or_le 0 (E.rest o) with hp | hn
  · exact hp
  exfalso
  have h0 : E.rest o = 0 := by have := (h.rest_bd o).1; omega
  have hsum : sumTo E.rest E.n = sumL E.rest (E.order.take E.short.toNat) + sumL E.rest (E.order.drop E.short.toNat) := by
    rw [← sumL_append, List.take_append_drop, sumL_perm E.order_perm, sumL_range]
  have hsort : List.Pairwise (Prec E.ltR) E.order := isort_sorted ⟨fun a b hab => by simp only [ltR, decide_eq_true_eq, decide_eq_false_iff_not] at *; omega, fun a b c h1 h2 => by simp only [ltR, decide_eq_false_iff_not] at *; omega⟩ E.n
  obtain ⟨l1, l2, hl⟩ := List.append_of_mem ho
  have hord : E.order = l1 ++ o :: (l2 ++ E.order.drop E.short.toNat) := by
    rw [← List.cons_append, ← List.append_assoc, ← hl, List.take_append_drop]
  rw [hord] at hsort
  have hz : ∀ x ∈ l2 ++ E.order.drop E.short.toNat, E.rest x = 0 := by
    intro x hx
    have := (List.pairwise_cons.1 (List.pairwise_append.1 hsort).2.1).1 x hx
    have hx0 := (h.rest_bd x).1
    rcases this with h1 | ⟨h1, _⟩ <;> simp only [ltR, decide_eq_true_eq, decide_eq_false_iff_not] at h1 <;> omega
  have e1 : sumL E.rest (E.order.drop E.short.toNat) = 0 := sumL_zero fun x hx => hz x (by simp [hx])
  have e2 : sumL E.rest l2 = 0 := sumL_zero fun x hx => hz x (by simp [hx])
  have e3 := sumL_le (f := E.rest) (c := E.D - 1) (l := l1) (fun x _ => by have := h.rest_bd x; omega)
  have hlen : l1.length + 1 + l2.length = (E.order.take E.short.toNat).length := by rw [hl]; simp; omega
  have hlen2 : (E.order.take E.short.toNat).length = E.short.toNat := by rw [List.length_take, E.order_length]; omega
  rw [hl, sumL_append, sumL, h0, e2, e1] at hsum
  have hsr := E.short_rest
  have hle : (l1.length : Int) ≤ E.short - 1 := by omega
  have e4 : (E.D - 1) * (l1.length : Int) ≤ (E.D - 1) * (E.short - 1) := Int.mul_le_mul_of_nonneg_left hle (by omega)
  have e5 : (E.D - 1) * (E.short - 1) = E.D * E.short - E.D - E.short + 1 := by rw [Int.sub_mul, Int.mul_sub]; omega
  omega
theorem Ok.round (i : Nat) : E.exact i - E.D < E.D * E.pay i ∧ E.D * E.pay i < E.exact i + E.D := by
  have a := E.parts i
  have b := h.rest_bd i
  unfold pay payTo
  by_cases hm : i ∈ E.order.take E.short.toNat
  · have := h.extra_pos hm
    rw [if_pos hm, Int.mul_add, Int.mul_one]; omega
  · rw [if_neg hm, Int.add_zero]; omega
theorem Ok.pay_sum : sumTo E.pay E.n = 0 := by
  have hs := h.short_bd
  have e : sumTo E.pay E.n = sumTo E.whole E.n + sumTo (fun i => if i ∈ E.order.take E.short.toNat then 1 else 0) E.n := by
    rw [← sumTo_add]; rfl
  rw [e, sum_mem (List.Sublist.nodup (List.take_sublist _ _) E.order_nodup) (fun x hx => E.order_mem.1 (List.mem_of_mem_take hx)), List.length_take, E.order_length]
  have : E.short = -sumTo E.whole E.n := rfl
  omega
theorem Ok.claim_lt (i : Nat) (hi : i < E.n) : E.claim i - E.S < E.S * (E.worth i E.m + E.pay i) := by
  have a := h.exact_ge i hi
  have b := (h.round i).1
  have s := h.S_bd
  have e : E.D * (E.worth i E.m + E.pay i) = E.S * (E.S * (E.worth i E.m + E.pay i)) := by unfold D; rw [Int.mul_assoc]
  have e1 : E.D * (E.worth i E.m + E.pay i) = E.D * E.worth i E.m + E.D * E.pay i := Int.mul_add _ _ _
  have e2 : E.S * (E.claim i - E.S) = E.S * E.claim i - E.D := by rw [Int.mul_sub]; rfl
  have : E.S * (E.claim i - E.S) < E.S * (E.S * (E.worth i E.m + E.pay i)) := by omega
  exact Int.lt_of_mul_lt_mul_left this (by omega)
theorem Ok.pay_nonneg (i : Nat) (hi : i < E.n) (hw : E.worth i E.m = 0) : 0 ≤ E.pay i := by
  have a := h.exact_ge i hi
  have hD := h.D_bd
  have c := h.claim_bd i hi
  have s := h.S_bd
  have hc := Int.mul_nonneg (show 0 ≤ E.S by omega) c.1
  rw [hw, Int.mul_zero] at a
  have hq : 0 ≤ E.exact i := by omega
  have : 0 ≤ E.whole i := Int.ediv_nonneg hq (by omega)
  unfold pay payTo; split <;> omega
theorem Ok.pay_bd (i : Nat) (hi : i < E.n) : -1000000000 ≤ E.pay i ∧ E.pay i ≤ 1000000000 := by
  have hD := h.D_bd
  have r := h.round i
  have g := h.exact_ge i hi
  have wb := h.worth_bd i hi
  have cb := h.claim_bd i hi
  have sb := h.S_bd
  have shb := h.share_bd i hi
  have sc := Int.mul_nonneg (show 0 ≤ E.S by omega) cb.1
  -- share ≤ S
  have hsS : E.share i ≤ E.S := by
    have := sumTo_le_of_nonneg (f := E.share) (i := i + 1) (n := E.n) (fun j hj => by have := h.share_bd j hj; omega) hi
    have h2 := sumTo_nonneg (f := E.share) (k := i) (fun j hj => by have := h.share_bd j (by omega); omega)
    rw [sumTo] at this
    unfold S; omega
  have hrow := h.row_bd i E.m hi (Nat.le_refl _)
  have hm := h.m30
  -- claim ≤ S * 3e7
  have hc2 : E.claim i ≤ E.S * 30000000 := by
    have h1 : E.share i * sumTo (E.bid i) E.m ≤ E.share i * 30000000 := Int.mul_le_mul_of_nonneg_left (by omega) (by omega)
    have h2 : E.share i * 30000000 ≤ E.S * 30000000 := Int.mul_le_mul_of_nonneg_right hsS (by omega)
    have : E.claim i = E.share i * sumTo (E.bid i) E.m := rfl
    omega
  have hW := h.sumW_bd E.n (Nat.le_refl _)
  have hn := h.n10
  have hC := h.sumC_bd E.n (Nat.le_refl _)
  -- pool ≤ S * 3e8
  have hp2 : E.pool ≤ E.S * 300000000 := by
    have h1 : E.S * sumTo (fun i => E.worth i E.m) E.n ≤ E.S * 300000000 := Int.mul_le_mul_of_nonneg_left (by omega) (by omega)
    unfold pool; omega
  have hp0 := h.pool_nonneg
  have x1 : E.S * E.claim i ≤ E.D * 30000000 := by
    have := Int.mul_le_mul_of_nonneg_left hc2 (show 0 ≤ E.S by omega)
    rw [← Int.mul_assoc] at this; exact this
  have x2 : E.share i * E.pool ≤ E.D * 300000000 := by
    have h1 : E.share i * E.pool ≤ E.S * E.pool := Int.mul_le_mul_of_nonneg_right hsS hp0
    have h2 := Int.mul_le_mul_of_nonneg_left hp2 (show 0 ≤ E.S by omega)
    rw [← Int.mul_assoc] at h2
    have : E.S * E.S * 300000000 = E.D * 300000000 := rfl
    omega
  have x3 := Int.mul_nonneg (show 0 ≤ E.D by omega) wb.1
  have x4 : E.D * E.worth i E.m ≤ E.D * 30000000 := Int.mul_le_mul_of_nonneg_left wb.2 (by omega)
  have e : E.exact i = E.S * E.claim i - E.D * E.worth i E.m + E.share i * E.pool := by
    unfold exact; rw [Int.mul_sub, ← Int.mul_assoc]; rfl
  constructor
  · rcases Int.lt_or_le (E.pay i) (-1000000000) with hl | hl
    · exfalso
      have : E.D * E.pay i ≤ E.D * (-1000000000) := Int.mul_le_mul_of_nonneg_left (by omega) (by omega)
      omega
    · exact hl
  · rcases Int.lt_or_le 1000000000 (E.pay i) with hl | hl
    · exfalso
      have : E.D * 1000000000 ≤ E.D * E.pay i := Int.mul_le_mul_of_nonneg_left (by omega) (by omega)
      omega
    · exact hl
end
end Est

theorem worth_owners (E : Est) (i : Nat) : E.worthOf (gi (ownersL E E.m)) i E.m = E.worth i E.m := by
  unfold Est.worth Est.worthOf
  exact sumTo_congr fun k hk => by rw [ownersL_gi hk]
theorem payL_gi {E : Est} {i : Nat} (h : i < E.sh.length) : gi (payL E) i = E.pay i := mapL_gi h
theorem payL_length (E : Est) : (payL E).length = E.sh.length := mapL_length _ _

theorem accepted {E : Est} (hc : E.code = 0) (h : E.Ok) : accV E (ownersL E E.m) (payL E) = true := by
  have hf : (payL E).any farB = false := any_none fun j hj => by
    rw [payL_length] at hj
    rw [payL_gi hj]
    have := h.pay_bd j hj
    unfold farB; rw [Bool.or_eq_false_iff]; simp; omega
  rw [acc_sum hc (ownersL_length _ _) (payL_length E) (fun k hk => ?_) hf (fun i hi => ?_)]
  · rw [payL_length, show sumTo (gi (payL E)) E.sh.length = sumTo E.pay E.sh.length from sum_mapL (Nat.le_refl _)]
    rw [decide_eq_true_iff]; exact h.pay_sum
  · rw [ownersL_length] at hk
    exact ownOk_yes (ownersL_gi hk) (h.own_lt k) rfl
  · refine fair_yes ?_
    rw [ownersL_length, worth_owners, payL_gi hi]
    have := h.claim_lt i hi
    rw [Int.add_comm (E.pay i)]; omega
end Go.Proofs.Ytedgdmblpjfaiaa
