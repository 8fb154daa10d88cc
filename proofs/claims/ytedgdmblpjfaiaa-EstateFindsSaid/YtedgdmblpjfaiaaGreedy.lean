/- Whoever has the greatest rest and has no cent yet is the next one of the order: plain. -/
import Derived.Test.YtedgdmblpjfaiaaPayPlain
namespace Go.Proofs.Ytedgdmblpjfaiaa
set_option linter.unusedVariables false
set_option linter.unusedSimpArgs false

namespace Est
/-- The heir, of those before k that have no cent, whose rest is the greatest; -1: none. -/
def bst (E : Est) (t : Nat) : Nat → Int
  | 0 => -1
  | k + 1 => if k ∉ E.order.take t ∧ (E.bst t k < 0 ∨ E.rest (E.bst t k).toNat < E.rest k) then k else E.bst t k
theorem ltR_weak (E : Est) : Weak E.ltR := by
  constructor
  · intro a b h; simp [ltR] at h ⊢; omega
  · intro a b c h1 h2; simp [ltR] at h1 h2 ⊢; omega
theorem bst_inv (E : Est) (t : Nat) : ∀ k, (E.bst t k = -1 ∧ ∀ j, j < k → j ∈ E.order.take t) ∨ ∃ b : Nat, E.bst t k = b ∧ b < k ∧ b ∉ E.order.take t ∧ ∀ j, j < k → j ∉ E.order.take t → j ≠ b → Prec E.ltR b j
  | 0 => Or.inl ⟨rfl, fun j hj => by omega⟩
  | k + 1 => by
    rw [bst]
    rcases bst_inv E t k with ⟨h1, h2⟩ | ⟨b, h1, h2, h3, h4⟩
    · by_cases hk : k ∈ E.order.take t
      · rw [if_neg (fun h => h.1 hk)]
        refine Or.inl ⟨h1, fun j hj => ?_⟩
        by_cases e : j = k
        · subst e; exact hk
        · exact h2 j (by omega)
      · rw [if_pos ⟨hk, Or.inl (by omega)⟩]
        refine Or.inr ⟨k, rfl, by omega, hk, fun j hj hn hne => ?_⟩
        exact absurd (h2 j (by omega)) hn
    · rw [h1]
      by_cases hk : k ∈ E.order.take t
      · rw [if_neg (fun h => h.1 hk)]
        refine Or.inr ⟨b, rfl, by omega, h3, fun j hj hn hne => ?_⟩
        by_cases e : j = k
        · subst e; exact absurd hk hn
        · exact h4 j (by omega) hn hne
      · by_cases hr : E.rest b < E.rest k
        · rw [if_pos ⟨hk, Or.inr (by simpa using hr)⟩]
          refine Or.inr ⟨k, rfl, by omega, hk, fun j hj hn hne => Or.inl ?_⟩
          simp only [ltR, decide_eq_true_eq]
          by_cases e : j = b
          · subst e; exact hr
          · have := h4 j (by omega) hn e
            simp [Prec, ltR] at this
            omega
        · rw [if_neg (fun h => by rcases h.2 with h | h; omega; simp at h; omega)]
          refine Or.inr ⟨b, rfl, by omega, h3, fun j hj hn hne => ?_⟩
          by_cases e : j = k
          · subst e
            refine Or.inr ⟨?_, h2⟩
            simp [ltR]; omega
          · exact h4 j (by omega) hn hne
theorem order_notin {E : Est} {t o : Nat} (ho : E.order[t]? = some o) : o ∉ E.order.take t := by
  intro hm
  obtain ⟨hj, e⟩ := List.getElem?_eq_some_iff.1 ho
  have ht : E.order.take (t + 1) = E.order.take t ++ [o] := by rw [List.take_succ_eq_append_getElem hj, e]
  have hd := E.order_nodup
  rw [← List.take_append_drop (t + 1) E.order, ht] at hd
  have := (List.nodup_append.1 (List.nodup_append.1 hd).1).2.2
  exact this o hm o (by simp) rfl
theorem order_first {E : Est} {t o j : Nat} (ho : E.order[t]? = some o) (hj : j < E.n) (hn : j ∉ E.order.take t) (hne : j ≠ o) : Prec E.ltR o j := by
  have hs : List.Pairwise (Prec E.ltR) E.order := isort_sorted (ltR_weak E) E.n
  obtain ⟨ht, e⟩ := List.getElem?_eq_some_iff.1 ho
  have hm : j ∈ E.order := E.order_mem.2 hj
  obtain ⟨q, hq, e2⟩ := List.getElem_of_mem hm
  have hle : t < q := by
    rcases Nat.lt_or_ge q t with h | h
    · exact absurd (by rw [List.mem_take_iff_getElem]; exact ⟨q, by omega, e2⟩) hn
    · rcases Nat.eq_or_lt_of_le h with h | h
      · subst h; exact absurd (e2.symm.trans e) hne
      · exact h
  have := List.pairwise_iff_getElem.1 hs t q ht hq hle
  rw [e, e2] at this
  exact this
theorem bst_end {E : Est} {t o : Nat} (ho : E.order[t]? = some o) : E.bst t E.n = (o : Int) := by
  have h0 := order_notin ho
  have hlt : o < E.n := E.order_mem.1 (List.mem_of_getElem? ho)
  rcases E.bst_inv t E.n with ⟨_, h2⟩ | ⟨b, h1, h2, h3, h4⟩
  · exact absurd (h2 o hlt) h0
  · rw [h1]
    by_cases e : b = o
    · rw [e]
    · exfalso
      have p := order_first ho h2 h3 e
      have q := h4 o hlt h0 (fun h => e h.symm)
      simp [Prec, ltR] at p q
      omega
theorem bst_no {E : Est} {t k : Nat} (h : k ∈ E.order.take t) : E.bst t (k + 1) = E.bst t k := by rw [bst, if_neg (fun q => q.1 h)]
theorem bst_fst {E : Est} {t k : Nat} (h : k ∉ E.order.take t) (h1 : E.bst t k < 0) : E.bst t (k + 1) = k := by rw [bst, if_pos ⟨h, Or.inl h1⟩]
theorem bst_gtr {E : Est} {t k b : Nat} (h : k ∉ E.order.take t) (h1 : E.bst t k = b) (h2 : E.rest b < E.rest k) : E.bst t (k + 1) = k := by rw [bst, if_pos ⟨h, Or.inr (by rw [h1]; simpa using h2)⟩]
theorem bst_not {E : Est} {t k b : Nat} (h : k ∉ E.order.take t) (h1 : E.bst t k = b) (h2 : ¬ E.rest b < E.rest k) : E.bst t (k + 1) = b := by
  rw [bst, if_neg (fun q => by rcases q.2 with q | q; omega; rw [h1] at q; exact h2 (by simpa using q)), h1]
theorem bst_cases (E : Est) (t k : Nat) : E.bst t k = -1 ∨ ∃ b : Nat, E.bst t k = b ∧ b < k := by
  rcases E.bst_inv t k with h | ⟨b, h1, h2, _⟩
  · exact Or.inl h.1
  · exact Or.inr ⟨b, h1, h2⟩
end Est
end Go.Proofs.Ytedgdmblpjfaiaa
