/- MediatePrefix returns true for every bargain and every number of offers: lemmas. -/
import Derived.Test.YtigphmocjgojhaaTurns
namespace Go.Proofs.Ytigphmocjgojhaa
open Go.RowKit
set_option linter.unusedVariables false
set_option linter.unusedSimpArgs false

theorem few_offL (b : Bg) (m : Int) (k : Nat) : offL (b.few m) k = offL b k := by simp [offL, few_pr]

theorem few_off {b : Bg} {m : Int} {k : Nat} {w : World} {v : Value} (h : OffR w v (offL (b.few m) k)) : OffR w v (offL b k) := by rwa [few_offL] at h

/-- The first offers of a row. -/
theorem offR_take {w : World} {base : Nat} {g cap n k : Nat} {b : Bg} (h : w.ownsRow base 49 2 (.slice (some ⟨g, 0, none⟩) n cap) n (offCells b n)) (hk : k ≤ n) (hn : n ≤ 1000) : OffR w (.slice (some ⟨g, 0, none⟩) k cap) (offL b k) := by
  refine ⟨by rw [offL_length]; omega, ?_⟩
  by_cases h0 : k = 0
  · subst h0; exact Or.inl ⟨rfl, _, _, rfl⟩
  · obtain ⟨g', cap', hv, hg, hc, hcell⟩ := row_at h (by omega)
    simp only [Value.slice.injEq, Option.some.injEq, Addr.mk.injEq, and_true, true_and] at hv
    obtain ⟨rfl, rfl⟩ := hv
    refine Or.inr ⟨by rw [offL_length]; omega, g, 0, cap, by rw [offL_length], by rw [offL_length]; omega, hg, fun i x hx => ?_⟩
    have hi : i < k := by
      rcases Nat.lt_or_ge i k with h' | h'
      · exact h'
      · rw [List.getElem?_eq_none (by rw [offL_length]; exact h')] at hx; simp at hx
    rw [offL_get b k i hi] at hx
    simp only [Option.some.injEq] at hx
    subst hx
    have := hcell i (by omega)
    rw [Nat.zero_add]; exact this

/-- What the law compares of two deals without a mediator, and of two with one. -/
theorem few_run {b : Bg} {m : Nat} (h0 : 0 ≤ b.o) (h2 : (m : Int) ≤ b.o) : deal (b.few m) false = deal b false ∨ ((deal (b.few m) false).made = false ∧ ((deal b false).made = false ∨ (m : Int) ≤ (deal b false).after)) := by
  by_cases h : endN b false < m
  · exact Or.inl (few_deal2 h0 h2 h)
  · cases hm : (deal (b.few m) false).made with
    | true => exact Or.inl (few_deal1 h0 h2 hm)
    | false =>
      refine Or.inr ⟨rfl, ?_⟩
      cases hc : (deal b false).made with
      | false => exact Or.inl rfl
      | true => exact Or.inr (by rw [deal_after h0 hc]; omega)
theorem few_med {b : Bg} {m : Nat} (h0 : 0 ≤ b.o) (h2 : (m : Int) ≤ b.o) : deal (b.few m) true = deal b true ∨ ((deal (b.few m) true).made = false ∧ ((deal b true).made = false ∨ (m : Int) < (deal b true).after ∨ ((m : Int) = (deal b true).after ∧ (deal b true).by' ≠ 2))) := by
  by_cases h : endN b true < m
  · exact Or.inl (few_deal2 h0 h2 h)
  · cases hm : (deal (b.few m) true).made with
    | true => exact Or.inl (few_deal1 h0 h2 hm)
    | false =>
      by_cases h3 : endN b true = m ∧ (deal b true).by' = 2
      · exact Or.inl (few_deal3 h0 h2 h3.1 h3.2)
      · refine Or.inr ⟨rfl, ?_⟩
        cases hc : (deal b true).made with
        | false => exact Or.inl rfl
        | true =>
          rw [deal_after h0 hc]
          by_cases h4 : endN b true = m
          · exact Or.inr (Or.inr ⟨by omega, fun h5 => h3 ⟨h4, h5⟩⟩)
          · exact Or.inr (Or.inl (by omega))

end Go.Proofs.Ytigphmocjgojhaa
