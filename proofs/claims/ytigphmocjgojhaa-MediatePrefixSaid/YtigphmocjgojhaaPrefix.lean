/- MediatePrefix returns true for every bargain and every number of offers. -/
import Derived.Test.YtigphmocjgojhaaPrefixB0
import Derived.Test.YtigphmocjgojhaaPrefixB1
import Derived.Test.YtigphmocjgojhaaPrefixB2
import Derived.Test.YtigphmocjgojhaaPrefixB3
namespace Go.Proofs.Ytigphmocjgojhaa
open Go.RowKit
set_option linter.unusedVariables false
set_option linter.unusedSimpArgs false

set_option maxRecDepth 100000 in
set_option maxHeartbeats 2000000 in
theorem prefix_out (b : Bg) (x : Int) (w : World) (h : ¬ b.code = 0 ∨ x < 1 ∨ b.o < x) :
    Calls Try.prog 6 #[b.v, .int .i64 x] w fun e w' => e = .returned (.bool true) ∧ Below w.heap.size w w' := by
  by_cases hc : b.code = 0
  · have hce : (b.code != 0) = false := by simpa using hc
    have h2 := h.resolve_left (by simpa using hc)
    clear h hc
    by_cases h1 : x < 1
    · have g1 : decide (x < 1) = true := by simpa using h1
      clear h2
      go_enter Try.func6, Try.ntmps6
      dsimp only [List.append]
      go_wp2_with fail
      refine (alive_any _).mono ?_
      rintro e w1 ⟨rfl, hb1⟩
      have hB1 := heap_ext (heap_new rfl) hb1
      have D1 := bcall ((Below.refl _ w).alloc (Nat.le_refl _) _) (by simp) hb1
      have cB1 := fun j => cell_of_row w1 _ j _ _ _ hB1
      go_wp2_with fail
      refine (check_ref b _).mono ?_
      rintro e w2 ⟨rfl, hb2⟩
      have D2 := bcall D1 D1.size hb2
      go_wp2_with fail
      go_ret
      exact ⟨rfl, D2⟩
    · have h3 : b.o < x := h2.resolve_left h1
      have g1 : decide (x < 1) = false := by simpa using h1
      have g2 : decide (b.o < x) = true := by simpa using h3
      clear h2
      go_enter Try.func6, Try.ntmps6
      dsimp only [List.append]
      go_wp2_with fail
      refine (alive_any _).mono ?_
      rintro e w1 ⟨rfl, hb1⟩
      have hB1 := heap_ext (heap_new rfl) hb1
      have D1 := bcall ((Below.refl _ w).alloc (Nat.le_refl _) _) (by simp) hb1
      have cB1 := fun j => cell_of_row w1 _ j _ _ _ hB1
      go_wp2_with fail
      refine (check_ref b _).mono ?_
      rintro e w2 ⟨rfl, hb2⟩
      have hB2 := heap_ext hB1 hb2
      have cB2 := fun j => cell_of_row w2 _ j _ _ _ hB2
      have D2 := bcall D1 D1.size hb2
      go_wp2_with fail
      go_ret
      exact ⟨rfl, D2⟩
  · have hce : (b.code != 0) = true := by simpa using hc
    clear h hc
    go_enter Try.func6, Try.ntmps6
    dsimp only [List.append]
    go_wp2_with fail
    refine (alive_any _).mono ?_
    rintro e w1 ⟨rfl, hb1⟩
    have hB1 := heap_ext (heap_new rfl) hb1
    have D1 := bcall ((Below.refl _ w).alloc (Nat.le_refl _) _) (by simp) hb1
    have cB1 := fun j => cell_of_row w1 _ j _ _ _ hB1
    go_wp2_with fail
    refine (check_ref b _).mono ?_
    rintro e w2 ⟨rfl, hb2⟩
    have D2 := bcall D1 D1.size hb2
    go_wp2_with fail
    go_ret
    exact ⟨rfl, D2⟩

theorem prefix_walk (b : Bg) (x : Int) (w : World) :
    Calls Try.prog 6 #[b.v, .int .i64 x] w fun e w' => e = .returned (.bool true) ∧ Below w.heap.size w w' := by
  by_cases h : ¬ b.code = 0 ∨ x < 1 ∨ b.o < x
  · exact prefix_out b x w h
  · have hc : b.code = 0 := by
      by_cases hc : b.code = 0
      · exact hc
      · exact absurd (Or.inl hc) h
    obtain ⟨m, rfl⟩ : ∃ m : Nat, x = m := ⟨x.toNat, by omega⟩
    have h1 : 1 ≤ m := by omega
    have h2 : (m : Int) ≤ b.o := by omega
    by_cases hA : endN b false < m <;> by_cases hB : endN b true < m
    · exact prefix_ss b m w hc h1 h2 hA hB
    · exact prefix_sl b m w hc h1 h2 hA (by omega)
    · exact prefix_ls b m w hc h1 h2 (by omega) hB
    · exact prefix_ll b m w hc h1 h2 (by omega) (by omega)

end Go.Proofs.Ytigphmocjgojhaa
