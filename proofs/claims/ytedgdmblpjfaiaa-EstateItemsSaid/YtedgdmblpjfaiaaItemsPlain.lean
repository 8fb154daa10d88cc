/- Two estates with the same heirs, put together: plain. -/
import Derived.Test.YtedgdmblpjfaiaaPoolPlain
namespace Go.Proofs.Ytedgdmblpjfaiaa
set_option linter.unusedVariables false
set_option linter.unusedSimpArgs false

theorem gi_cat {a b : List Int} {k : Nat} : gi (a ++ b) k = if k < a.length then gi a k else gi b (k - a.length) := by
  simp only [gi, List.getD_eq_getElem?_getD, List.getElem?_append]
  by_cases h : k < a.length
  · rw [if_pos h, if_pos h]
  · rw [if_neg h, if_neg h]
theorem sumTo_split (f : Nat → Int) (a : Nat) : ∀ b, sumTo f (a + b) = sumTo f a + sumTo (fun k => f (a + k)) b
  | 0 => by simp [sumTo]
  | b + 1 => by rw [← Nat.add_assoc, sumTo, sumTo, sumTo_split f a b]; omega

namespace Est
def cat (E F : Est) : Est := ⟨E.sh, List.zipWith (fun a b => a ++ b) E.bd F.bd⟩
theorem cat_n {E F : Est} (e : F.sh = E.sh) : F.n = E.n := by unfold n; rw [e]
theorem cat_share {E F : Est} (e : F.sh = E.sh) (i : Nat) : F.share i = E.share i := by unfold share; rw [e]
theorem cat_S {E F : Est} (e : F.sh = E.sh) : F.S = E.S := by
  unfold S
  rw [cat_n e]
  exact sumTo_congr fun i _ => cat_share e i
section
variable {E F : Est} (h : E.Ok) (g : F.Ok) (e : F.sh = E.sh)
include h g e
theorem cat_len : (E.cat F).bd.length = E.n := by
  show (List.zipWith (fun a b => a ++ b) E.bd F.bd).length = _
  rw [List.length_zipWith, h.rows, g.rows, cat_n e]; omega
theorem cat_row {i : Nat} (hi : i < E.n) : (E.cat F).row i = E.row i ++ F.row i := by
  have h1 := h.rows
  have h2 := g.rows
  have h3 := cat_n e
  have h4 := cat_len h g e
  show gr (E.cat F).bd i = gr E.bd i ++ gr F.bd i
  rw [gr_get (l := E.bd) (by omega), gr_get (l := F.bd) (by omega), gr_get (l := (E.cat F).bd) (by omega)]
  unfold cat
  simp
theorem cat_m : (E.cat F).m = E.m + F.m := by
  show ((E.cat F).row 0).length = _
  rw [cat_row h g e h.n1, List.length_append]; rfl
theorem cat_bid {i : Nat} (hi : i < E.n) (k : Nat) : (E.cat F).bid i k = if k < E.m then E.bid i k else F.bid i (k - E.m) := by
  show gi ((E.cat F).row i) k = _
  rw [cat_row h g e hi, gi_cat, h.len i hi]; rfl
theorem cat_code (hm : E.m + F.m ≤ 30) : (E.cat F).code = 0 := by
  have hn := cat_n e
  have h3 := cat_m h g e
  refine code_of h.n1 h.n10 (cat_len h g e) (by omega) (fun i hi => ?_) (fun i hi => h.s1 i hi) (fun i hi => h.sl i hi) (fun i k hi hk => ?_)
  · rw [h3, cat_row h g e hi, List.length_append, h.len i hi, g.len i (by rw [hn]; exact hi)]
  · have hi' : i < E.n := hi
    rw [cat_bid h g e hi']
    split
    · rename_i q; exact ⟨h.bid0 i k hi' q, h.bid1 i k hi' q⟩
    · exact ⟨g.bid0 i _ (by omega) (by omega), g.bid1 i _ (by omega) (by omega)⟩
theorem cat_best1 {k : Nat} (hk : k < E.m) : ∀ j, j ≤ E.n → (E.cat F).best k j = E.best k j
  | 0, _ => rfl
  | j + 1, hj => by
    have := h.best_lt k j (by omega)
    rw [best, best, cat_best1 hk j (by omega), cat_bid h g e (by omega), cat_bid h g e (by omega), if_pos hk, if_pos hk]
theorem cat_best2 {k : Nat} (hk : E.m ≤ k) : ∀ j, j ≤ E.n → (E.cat F).best k j = F.best (k - E.m) j
  | 0, _ => rfl
  | j + 1, hj => by
    have hn := cat_n e
    have := g.best_lt (k - E.m) j (by omega)
    rw [best, best, cat_best2 hk j (by omega), cat_bid h g e (by omega), cat_bid h g e (by omega)]
    simp only [if_neg (show ¬ k < E.m by omega)]
theorem cat_own1 {k : Nat} (hk : k < E.m) : (E.cat F).own k = E.own k := cat_best1 h g e hk E.n (Nat.le_refl _)
theorem cat_own2 (k : Nat) : (E.cat F).own (E.m + k) = F.own k := by
  have := cat_best2 h g e (k := E.m + k) (by omega) E.n (Nat.le_refl _)
  rw [Nat.add_sub_cancel_left] at this
  unfold own
  rw [cat_n e]
  exact this
theorem cat_bid1 {i k : Nat} (hi : i < E.n) (hk : k < E.m) : (E.cat F).bid i k = E.bid i k := by rw [cat_bid h g e hi, if_pos hk]
theorem cat_bid2 {i : Nat} (hi : i < E.n) (k : Nat) : (E.cat F).bid i (E.m + k) = F.bid i k := by rw [cat_bid h g e hi, if_neg (by omega), Nat.add_sub_cancel_left]
theorem cat_rowSum {i : Nat} (hi : i < E.n) : (E.cat F).rowSum i = E.rowSum i + F.rowSum i := by
  unfold rowSum
  rw [cat_m h g e, sumTo_split, sumTo_congr (fun k hk => cat_bid1 h g e hi hk), sumTo_congr (fun k _ => cat_bid2 h g e hi k)]
theorem cat_worth {i : Nat} (hi : i < E.n) : (E.cat F).worth i (E.cat F).m = E.worth i E.m + F.worth i F.m := by
  unfold worth worthOf
  rw [cat_m h g e, sumTo_split]
  rw [sumTo_congr (k := E.m) (g := fun k => if (E.own k : Int) = (i : Int) then E.bid i k else 0) (fun k hk => by simp only [cat_own1 h g e hk, cat_bid1 h g e hi hk])]
  rw [sumTo_congr (k := F.m) (g := fun k => if (F.own k : Int) = (i : Int) then F.bid i k else 0) (fun k hk => by simp only [cat_own2 h g e k, cat_bid2 h g e hi k])]
theorem cat_claim {i : Nat} (hi : i < E.n) : (E.cat F).claim i = E.claim i + F.claim i := by
  unfold claim
  rw [cat_rowSum h g e hi, cat_share e, ← Int.mul_add]; rfl
theorem cat_pool : (E.cat F).pool = E.pool + F.pool := by
  unfold pool
  have hn := cat_n e
  rw [cat_S e, hn, show (E.cat F).n = E.n from rfl, show (E.cat F).S = E.S from rfl, sumTo_congr (k := E.n) (fun i hi => cat_worth h g e hi), sumTo_congr (k := E.n) (fun i hi => cat_claim h g e hi), sumTo_add, sumTo_add, Int.mul_add]
  omega
theorem cat_exact {i : Nat} (hi : i < E.n) : (E.cat F).exact i = E.exact i + F.exact i := by
  unfold exact
  rw [cat_S e, cat_pool h g e, cat_claim h g e hi, cat_worth h g e hi, cat_share e, show (E.cat F).S = E.S from rfl, show (E.cat F).share i = E.share i from rfl]
  simp only [Int.mul_sub, Int.mul_add]
  omega
end
end Est
theorem cat_owners {E F : Est} (h : E.Ok) (g : F.Ok) (e : F.sh = E.sh) : ownersL (E.cat F) (E.cat F).m = ownersL E E.m ++ ownersL F F.m := by
  rw [Est.cat_m h g e]
  apply List.ext_getElem
  · simp [ownersL]
  · intro k h1 h2
    by_cases hk : k < E.m
    · rw [List.getElem_append_left (by simp [ownersL]; exact hk)]
      simp [ownersL, Est.cat_own1 h g e hk]
    · rw [List.getElem_append_right (by simp [ownersL]; omega)]
      have := Est.cat_own2 h g e (k - E.m)
      rw [show E.m + (k - E.m) = k by omega] at this
      simp [ownersL, this]
theorem cat_take {E F : Est} (h : E.Ok) (g : F.Ok) (e : F.sh = E.sh) {k : Nat} (hk : k < E.n) : (E.cat F).bd.take (k + 1) = (E.cat F).bd.take k ++ [gr E.bd k ++ gr F.bd k] := by
  have hl := Est.cat_len h g e
  have hr : gr (E.cat F).bd k = gr E.bd k ++ gr F.bd k := Est.cat_row h g e hk
  rw [List.take_add_one, List.getElem?_eq_getElem (by omega), ← gr_get (by omega), hr]; rfl
end Go.Proofs.Ytedgdmblpjfaiaa
