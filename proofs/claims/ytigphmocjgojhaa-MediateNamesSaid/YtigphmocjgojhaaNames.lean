/- MediateNames returns true. -/
import Derived.Test.YtigphmocjgojhaaTurns
import Derived.BigGuardPart
namespace Go.Proofs.Ytigphmocjgojhaa
open Go.RowKit
set_option linter.unusedVariables false
set_option linter.unusedSimpArgs false

theorem given_lit (w : World) : Calls Try.prog 22 #[] w fun e w' => e = .returned (.agg #[.int .i64 100, .int .i64 60, .int .i64 1, .int .i64 2, .int .i64 40, .int .i64 80, .int .i64 1, .int .i64 2, .int .i64 10]) ∧ Below w.heap.size w w' := given_any w

theorem nf0 : Bg.code ⟨⟨100, 60, 1, 2⟩, ⟨40, 80, 1, 2⟩, 0⟩ = 8 := by kernel_rfl
theorem nf1 : Bg.code ⟨⟨100, 60, 1, 2⟩, ⟨40, 80, 1, 2⟩, 1001⟩ = 8 := by kernel_rfl
theorem nf2 : Bg.code ⟨⟨100, 60, 0, 2⟩, ⟨40, 80, 1, 2⟩, 10⟩ = 8 := by kernel_rfl
theorem nf3 : Bg.code ⟨⟨100, 60, 1, 2⟩, ⟨40, 80, 1, 11⟩, 10⟩ = 8 := by kernel_rfl
theorem nf4 : Bg.code ⟨⟨100, 101, 1, 2⟩, ⟨40, 80, 1, 2⟩, 10⟩ = 8 := by kernel_rfl
theorem nf5 : Bg.code ⟨⟨0, 0, 0, 0⟩, ⟨0, 0, 0, 0⟩, 0⟩ = 8 := by kernel_rfl
theorem nf6 : dealC ⟨⟨100, 60, 1, 2⟩, ⟨40, 80, 1, 2⟩, 0⟩ false = ⟨false, 0, 0, 0⟩ := by kernel_rfl
theorem nf7 : Bg.code ⟨⟨100, 60, 1, 2⟩, ⟨40, 80, 1, 2⟩, 0⟩ = 8 := by kernel_rfl
theorem nf8 : dealC ⟨⟨100, 60, 1, 2⟩, ⟨40, 80, 1, 2⟩, 1001⟩ true = ⟨false, 0, 0, 0⟩ := by kernel_rfl
theorem nf9 : Bg.code ⟨⟨100, 60, 1, 2⟩, ⟨40, 80, 1, 2⟩, 1001⟩ = 8 := by kernel_rfl
theorem nf10 : Bg.zlo ⟨⟨100, 81, 1, 2⟩, ⟨40, 80, 1, 2⟩, 10⟩ = 0 := by kernel_rfl
theorem nf11 : Bg.zhi ⟨⟨100, 81, 1, 2⟩, ⟨40, 80, 1, 2⟩, 10⟩ = 0 := by kernel_rfl
theorem nf12 : Bg.zcode ⟨⟨100, 81, 1, 2⟩, ⟨40, 80, 1, 2⟩, 10⟩ = 6 := by kernel_rfl
theorem nf13 : dealC ⟨⟨100, 81, 1, 2⟩, ⟨40, 80, 1, 2⟩, 10⟩ false = ⟨false, 0, 0, 0⟩ := by kernel_rfl
theorem nf14 : Bg.code ⟨⟨100, 81, 1, 2⟩, ⟨40, 80, 1, 2⟩, 10⟩ = 0 := by kernel_rfl
theorem nf15 : lenC ⟨⟨100, 81, 1, 2⟩, ⟨40, 80, 1, 2⟩, 10⟩ false = 10 := by kernel_rfl
theorem nf16 : dealC ⟨⟨100, 81, 1, 2⟩, ⟨40, 80, 1, 2⟩, 10⟩ true = ⟨false, 0, 0, 0⟩ := by kernel_rfl
theorem nf17 : Bg.code ⟨⟨100, 81, 1, 2⟩, ⟨40, 80, 1, 2⟩, 10⟩ = 0 := by kernel_rfl
theorem nf18 : dealC ⟨⟨80, 60, 1, 2⟩, ⟨80, 80, 1, 2⟩, 10⟩ false = ⟨true, 80, 1, 1⟩ := by kernel_rfl
theorem nf19 : Bg.code ⟨⟨80, 60, 1, 2⟩, ⟨80, 80, 1, 2⟩, 10⟩ = 0 := by kernel_rfl
theorem nf20 : lenC ⟨⟨80, 60, 1, 2⟩, ⟨80, 80, 1, 2⟩, 10⟩ false = 1 := by kernel_rfl
theorem nf21 : dealC ⟨⟨100, 60, 1, 2⟩, ⟨40, 80, 1, 2⟩, 2⟩ false = ⟨false, 0, 0, 0⟩ := by kernel_rfl
theorem nf22 : Bg.code ⟨⟨100, 60, 1, 2⟩, ⟨40, 80, 1, 2⟩, 2⟩ = 0 := by kernel_rfl
theorem nf23 : dealC ⟨⟨100, 60, 1, 2⟩, ⟨40, 80, 1, 2⟩, 2⟩ true = ⟨true, 70, 2, 2⟩ := by kernel_rfl
theorem nf24 : Bg.code ⟨⟨100, 60, 1, 2⟩, ⟨40, 80, 1, 2⟩, 2⟩ = 0 := by kernel_rfl
theorem nf25 : nextV ⟨0, 10, 1, 3⟩ 0 = 4 := by kernel_rfl
theorem nf26 : nextC ⟨0, 10, 1, 3⟩ 0 = 0 := by kernel_rfl
theorem nf27 : nextV ⟨0, 10, 1, 3⟩ 9 = 10 := by kernel_rfl
theorem nf28 : nextC ⟨0, 10, 1, 3⟩ 9 = 0 := by kernel_rfl
theorem nf29 : nextV ⟨0, 10, 1, 3⟩ 10 = 10 := by kernel_rfl
theorem nf30 : nextC ⟨0, 10, 1, 3⟩ 10 = 0 := by kernel_rfl
theorem nf31 : nextV ⟨0, 10, 1, 3⟩ 11 = 0 := by kernel_rfl
theorem nf32 : nextC ⟨0, 10, 1, 3⟩ 11 = 2 := by kernel_rfl
theorem nf33 : nextV ⟨0, 10, 1, 3⟩ (-1) = 0 := by kernel_rfl
theorem nf34 : nextC ⟨0, 10, 1, 3⟩ (-1) = 2 := by kernel_rfl
theorem nf35 : nextV ⟨0, 0, 2, 1⟩ 0 = 0 := by kernel_rfl
theorem nf36 : nextC ⟨0, 0, 2, 1⟩ 0 = 8 := by kernel_rfl
theorem nf37 : nextV ⟨1000000000, 0, 9, 10⟩ 1000000000 = 100000000 := by kernel_rfl
theorem nf38 : nextC ⟨1000000000, 0, 9, 10⟩ 1000000000 = 0 := by kernel_rfl

set_option maxRecDepth 100000 in
set_option maxHeartbeats 8000000 in
theorem names_walk (w : World) : Calls Try.prog 8 #[] w fun e w' => e = .returned (.bool true) ∧ Below w.heap.size w w' := by
  go_enter Try.func8, Try.ntmps8
  dsimp only [List.append]
  go_wp2_with fail
  refine (given_lit _).mono ?_
  rintro e w1 ⟨rfl, hb1⟩
  have D1 := bcall (Below.refl w.heap.size w) (by first | omega | (simp; done) | (simp; omega)) hb1
  have sz1 := D1.size
  clear hb1
  go_wp2_with fail
  refine (given_lit _).mono ?_
  rintro e w2 ⟨rfl, hb2⟩
  have D2 := bcall D1 (by first | omega | (simp; done) | (simp; omega)) hb2
  have sz2 := D2.size
  clear D1 hb2
  go_wp2_with fail
  refine (given_lit _).mono ?_
  rintro e w3 ⟨rfl, hb3⟩
  have D3 := bcall D2 (by first | omega | (simp; done) | (simp; omega)) hb3
  have sz3 := D3.size
  clear D2 hb3
  go_wp2_with fail
  refine (given_lit _).mono ?_
  rintro e w4 ⟨rfl, hb4⟩
  have D4 := bcall D3 (by first | omega | (simp; done) | (simp; omega)) hb4
  have sz4 := D4.size
  clear D3 hb4
  go_wp2_with fail
  refine (given_lit _).mono ?_
  rintro e w5 ⟨rfl, hb5⟩
  have D5 := bcall D4 (by first | omega | (simp; done) | (simp; omega)) hb5
  have sz5 := D5.size
  clear D4 hb5
  go_wp2_with fail
  refine (check_any ⟨⟨100, 60, 1, 2⟩, ⟨40, 80, 1, 2⟩, 0⟩ _).mono ?_
  rintro e w6 ⟨rfl, hb6⟩
  rw [nf0]
  have hLo6 := heap_ext (heap_old (heap_old (heap_old (heap_old (heap_new rfl))))) hb6
  have hHi6 := heap_ext (heap_old (heap_old (heap_old (heap_new (g := w5.heap.size + 1) (by simp))))) hb6
  have hNo6 := heap_ext (heap_old (heap_old (heap_new (g := w5.heap.size + 1 + 1) (by simp)))) hb6
  have hPa6 := heap_ext (heap_old (heap_new (g := w5.heap.size + 1 + 1 + 1) (by simp))) hb6
  have hTu6 := heap_ext (heap_new (g := w5.heap.size + 1 + 1 + 1 + 1) (by simp)) hb6
  have D6 := bcall (((((D5.alloc (by first | omega | (simp; done) | (simp; omega)) _).alloc (by first | omega | (simp; done) | (simp; omega)) _).alloc (by first | omega | (simp; done) | (simp; omega)) _).alloc (by first | omega | (simp; done) | (simp; omega)) _).alloc (by first | omega | (simp; done) | (simp; omega)) _) (by first | omega | (simp; done) | (simp; omega)) hb6
  have sz6 := D6.size
  clear D5 hb6
  have cLo6 := fun j => cell_of_row w6 _ j _ _ _ hLo6
  have zLo6 := lt_some hLo6
  have nLo6 : ¬ w5.heap.size = w6.heap.size := by omega
  have cHi6 := fun j => cell_of_row w6 _ j _ _ _ hHi6
  have zHi6 := lt_some hHi6
  have nHi6 : ¬ w5.heap.size + 1 = w6.heap.size := by omega
  have cNo6 := fun j => cell_of_row w6 _ j _ _ _ hNo6
  have zNo6 := lt_some hNo6
  have nNo6 : ¬ w5.heap.size + 1 + 1 = w6.heap.size := by omega
  have cPa6 := fun j => cell_of_row w6 _ j _ _ _ hPa6
  have zPa6 := lt_some hPa6
  have nPa6 : ¬ w5.heap.size + 1 + 1 + 1 = w6.heap.size := by omega
  have cTu6 := fun j => cell_of_row w6 _ j _ _ _ hTu6
  have zTu6 := lt_some hTu6
  have nTu6 : ¬ w5.heap.size + 1 + 1 + 1 + 1 = w6.heap.size := by omega
  go_wp2_with fail
  refine (check_any ⟨⟨100, 60, 1, 2⟩, ⟨40, 80, 1, 2⟩, 1001⟩ _).mono ?_
  rintro e w7 ⟨rfl, hb7⟩
  rw [nf1]
  have hLo7 := heap_ext hLo6 hb7
  have hHi7 := heap_ext hHi6 hb7
  have hNo7 := heap_ext hNo6 hb7
  have hPa7 := heap_ext hPa6 hb7
  have hTu7 := heap_ext hTu6 hb7
  have D7 := bcall D6 (by first | omega | (simp; done) | (simp; omega)) hb7
  have sz7 := D7.size
  clear hLo6 hHi6 hNo6 hPa6 hTu6 D6 hb7 cLo6 zLo6 nLo6 cHi6 zHi6 nHi6 cNo6 zNo6 nNo6 cPa6 zPa6 nPa6 cTu6 zTu6 nTu6
  have cLo7 := fun j => cell_of_row w7 _ j _ _ _ hLo7
  have zLo7 := lt_some hLo7
  have nLo7 : ¬ w5.heap.size = w7.heap.size := by omega
  have cHi7 := fun j => cell_of_row w7 _ j _ _ _ hHi7
  have zHi7 := lt_some hHi7
  have nHi7 : ¬ w5.heap.size + 1 = w7.heap.size := by omega
  have cNo7 := fun j => cell_of_row w7 _ j _ _ _ hNo7
  have zNo7 := lt_some hNo7
  have nNo7 : ¬ w5.heap.size + 1 + 1 = w7.heap.size := by omega
  have cPa7 := fun j => cell_of_row w7 _ j _ _ _ hPa7
  have zPa7 := lt_some hPa7
  have nPa7 : ¬ w5.heap.size + 1 + 1 + 1 = w7.heap.size := by omega
  have cTu7 := fun j => cell_of_row w7 _ j _ _ _ hTu7
  have zTu7 := lt_some hTu7
  have nTu7 : ¬ w5.heap.size + 1 + 1 + 1 + 1 = w7.heap.size := by omega
  go_wp2_with fail
  refine (check_any ⟨⟨100, 60, 0, 2⟩, ⟨40, 80, 1, 2⟩, 10⟩ _).mono ?_
  rintro e w8 ⟨rfl, hb8⟩
  rw [nf2]
  have hLo8 := heap_ext hLo7 hb8
  have hHi8 := heap_ext hHi7 hb8
  have hNo8 := heap_ext hNo7 hb8
  have hPa8 := heap_ext hPa7 hb8
  have hTu8 := heap_ext hTu7 hb8
  have D8 := bcall D7 (by first | omega | (simp; done) | (simp; omega)) hb8
  have sz8 := D8.size
  clear hLo7 hHi7 hNo7 hPa7 hTu7 D7 hb8 cLo7 zLo7 nLo7 cHi7 zHi7 nHi7 cNo7 zNo7 nNo7 cPa7 zPa7 nPa7 cTu7 zTu7 nTu7
  have cLo8 := fun j => cell_of_row w8 _ j _ _ _ hLo8
  have zLo8 := lt_some hLo8
  have nLo8 : ¬ w5.heap.size = w8.heap.size := by omega
  have cHi8 := fun j => cell_of_row w8 _ j _ _ _ hHi8
  have zHi8 := lt_some hHi8
  have nHi8 : ¬ w5.heap.size + 1 = w8.heap.size := by omega
  have cNo8 := fun j => cell_of_row w8 _ j _ _ _ hNo8
  have zNo8 := lt_some hNo8
  have nNo8 : ¬ w5.heap.size + 1 + 1 = w8.heap.size := by omega
  have cPa8 := fun j => cell_of_row w8 _ j _ _ _ hPa8
  have zPa8 := lt_some hPa8
  have nPa8 : ¬ w5.heap.size + 1 + 1 + 1 = w8.heap.size := by omega
  have cTu8 := fun j => cell_of_row w8 _ j _ _ _ hTu8
  have zTu8 := lt_some hTu8
  have nTu8 : ¬ w5.heap.size + 1 + 1 + 1 + 1 = w8.heap.size := by omega
  go_wp2_with fail
  refine (check_any ⟨⟨100, 60, 1, 2⟩, ⟨40, 80, 1, 11⟩, 10⟩ _).mono ?_
  rintro e w9 ⟨rfl, hb9⟩
  rw [nf3]
  have hLo9 := heap_ext hLo8 hb9
  have hHi9 := heap_ext hHi8 hb9
  have hNo9 := heap_ext hNo8 hb9
  have hPa9 := heap_ext hPa8 hb9
  have hTu9 := heap_ext hTu8 hb9
  have D9 := bcall D8 (by first | omega | (simp; done) | (simp; omega)) hb9
  have sz9 := D9.size
  clear hLo8 hHi8 hNo8 hPa8 hTu8 D8 hb9 cLo8 zLo8 nLo8 cHi8 zHi8 nHi8 cNo8 zNo8 nNo8 cPa8 zPa8 nPa8 cTu8 zTu8 nTu8
  have cLo9 := fun j => cell_of_row w9 _ j _ _ _ hLo9
  have zLo9 := lt_some hLo9
  have nLo9 : ¬ w5.heap.size = w9.heap.size := by omega
  have cHi9 := fun j => cell_of_row w9 _ j _ _ _ hHi9
  have zHi9 := lt_some hHi9
  have nHi9 : ¬ w5.heap.size + 1 = w9.heap.size := by omega
  have cNo9 := fun j => cell_of_row w9 _ j _ _ _ hNo9
  have zNo9 := lt_some hNo9
  have nNo9 : ¬ w5.heap.size + 1 + 1 = w9.heap.size := by omega
  have cPa9 := fun j => cell_of_row w9 _ j _ _ _ hPa9
  have zPa9 := lt_some hPa9
  have nPa9 : ¬ w5.heap.size + 1 + 1 + 1 = w9.heap.size := by omega
  have cTu9 := fun j => cell_of_row w9 _ j _ _ _ hTu9
  have zTu9 := lt_some hTu9
  have nTu9 : ¬ w5.heap.size + 1 + 1 + 1 + 1 = w9.heap.size := by omega
  go_wp2_with fail
  refine (check_any ⟨⟨100, 101, 1, 2⟩, ⟨40, 80, 1, 2⟩, 10⟩ _).mono ?_
  rintro e w10 ⟨rfl, hb10⟩
  rw [nf4]
  have hLo10 := heap_ext hLo9 hb10
  have hHi10 := heap_ext hHi9 hb10
  have hNo10 := heap_ext hNo9 hb10
  have hPa10 := heap_ext hPa9 hb10
  have hTu10 := heap_ext hTu9 hb10
  have D10 := bcall D9 (by first | omega | (simp; done) | (simp; omega)) hb10
  have sz10 := D10.size
  clear hLo9 hHi9 hNo9 hPa9 hTu9 D9 hb10 cLo9 zLo9 nLo9 cHi9 zHi9 nHi9 cNo9 zNo9 nNo9 cPa9 zPa9 nPa9 cTu9 zTu9 nTu9
  have cLo10 := fun j => cell_of_row w10 _ j _ _ _ hLo10
  have zLo10 := lt_some hLo10
  have nLo10 : ¬ w5.heap.size = w10.heap.size := by omega
  have cHi10 := fun j => cell_of_row w10 _ j _ _ _ hHi10
  have zHi10 := lt_some hHi10
  have nHi10 : ¬ w5.heap.size + 1 = w10.heap.size := by omega
  have cNo10 := fun j => cell_of_row w10 _ j _ _ _ hNo10
  have zNo10 := lt_some hNo10
  have nNo10 : ¬ w5.heap.size + 1 + 1 = w10.heap.size := by omega
  have cPa10 := fun j => cell_of_row w10 _ j _ _ _ hPa10
  have zPa10 := lt_some hPa10
  have nPa10 : ¬ w5.heap.size + 1 + 1 + 1 = w10.heap.size := by omega
  have cTu10 := fun j => cell_of_row w10 _ j _ _ _ hTu10
  have zTu10 := lt_some hTu10
  have nTu10 : ¬ w5.heap.size + 1 + 1 + 1 + 1 = w10.heap.size := by omega
  go_wp2_with fail
  refine (check_any ⟨⟨0, 0, 0, 0⟩, ⟨0, 0, 0, 0⟩, 0⟩ _).mono ?_
  rintro e w11 ⟨rfl, hb11⟩
  rw [nf5]
  have hLo11 := heap_ext hLo10 hb11
  have hHi11 := heap_ext hHi10 hb11
  have hNo11 := heap_ext hNo10 hb11
  have hPa11 := heap_ext hPa10 hb11
  have hTu11 := heap_ext hTu10 hb11
  have D11 := bcall D10 (by first | omega | (simp; done) | (simp; omega)) hb11
  have sz11 := D11.size
  clear hLo10 hHi10 hNo10 hPa10 hTu10 D10 hb11 cLo10 zLo10 nLo10 cHi10 zHi10 nHi10 cNo10 zNo10 nNo10 cPa10 zPa10 nPa10 cTu10 zTu10 nTu10
  have cLo11 := fun j => cell_of_row w11 _ j _ _ _ hLo11
  have zLo11 := lt_some hLo11
  have nLo11 : ¬ w5.heap.size = w11.heap.size := by omega
  have cHi11 := fun j => cell_of_row w11 _ j _ _ _ hHi11
  have zHi11 := lt_some hHi11
  have nHi11 : ¬ w5.heap.size + 1 = w11.heap.size := by omega
  have cNo11 := fun j => cell_of_row w11 _ j _ _ _ hNo11
  have zNo11 := lt_some hNo11
  have nNo11 : ¬ w5.heap.size + 1 + 1 = w11.heap.size := by omega
  have cPa11 := fun j => cell_of_row w11 _ j _ _ _ hPa11
  have zPa11 := lt_some hPa11
  have nPa11 : ¬ w5.heap.size + 1 + 1 + 1 = w11.heap.size := by omega
  have cTu11 := fun j => cell_of_row w11 _ j _ _ _ hTu11
  have zTu11 := lt_some hTu11
  have nTu11 : ¬ w5.heap.size + 1 + 1 + 1 + 1 = w11.heap.size := by omega
  go_wp2_with fail
  refine (Run_any ⟨⟨100, 60, 1, 2⟩, ⟨40, 80, 1, 2⟩, 0⟩ _).mono ?_
  rintro e w12 ⟨sa, he, hr, hb12⟩
  rw [nf6, nf7] at he
  simp only [Deal.v] at he
  subst he
  have hLo12 := heap_ext hLo11 hb12
  have hHi12 := heap_ext hHi11 hb12
  have D12 := bcall D11 (by first | omega | (simp; done) | (simp; omega)) hb12
  have sz12 := D12.size
  clear hLo11 hHi11 D11 hb12 cLo11 zLo11 nLo11 cHi11 zHi11 nHi11 cNo11 zNo11 nNo11 cPa11 zPa11 nPa11 cTu11 zTu11 nTu11 hNo11 hPa11 hTu11
  clear hr
  have cHi12 := fun j => cell_of_row w12 _ j _ _ _ hHi12
  have zHi12 := lt_some hHi12
  have nHi12 : ¬ w5.heap.size + 1 = w12.heap.size := by omega
  go_wp2_with fail
  refine (Mediate_any ⟨⟨100, 60, 1, 2⟩, ⟨40, 80, 1, 2⟩, 1001⟩ _).mono ?_
  rintro e w13 ⟨sb, he, hr, hb13⟩
  rw [nf8, nf9] at he
  simp only [Deal.v] at he
  subst he
  have hHi13 := heap_ext (heap_old hHi12) hb13
  have D13 := bcall (D12.alloc (by first | omega | (simp; done) | (simp; omega)) _) (by first | omega | (simp; done) | (simp; omega)) hb13
  have sz13 := D13.size
  clear hHi12 D12 hb13 hLo12 cHi12 zHi12 nHi12
  clear hr
  go_wp2_with fail
  refine (given_lit _).mono ?_
  rintro e w14 ⟨rfl, hb14⟩
  have D14 := bcall (D13.alloc (by first | omega | (simp; done) | (simp; omega)) _) (by first | omega | (simp; done) | (simp; omega)) hb14
  have sz14 := D14.size
  clear D13 hb14 hHi13
  go_wp2_with fail
  refine (zone_any ⟨⟨100, 81, 1, 2⟩, ⟨40, 80, 1, 2⟩, 10⟩ _).mono ?_
  rintro e w15 ⟨rfl, hb15⟩
  rw [nf10, nf11, nf12]
  have hAp15 := heap_ext (heap_new rfl) hb15
  have D15 := bcall (D14.alloc (by first | omega | (simp; done) | (simp; omega)) _) (by first | omega | (simp; done) | (simp; omega)) hb15
  have sz15 := D15.size
  clear D14 hb15
  have cAp15 := fun j => cell_of_row w15 _ j _ _ _ hAp15
  have zAp15 := lt_some hAp15
  have nAp15 : ¬ w14.heap.size = w15.heap.size := by omega
  go_wp2_with fail
  refine (Run_any ⟨⟨100, 81, 1, 2⟩, ⟨40, 80, 1, 2⟩, 10⟩ _).mono ?_
  rintro e w16 ⟨sl, he, hr, hb16⟩
  rw [nf13, nf14] at he
  simp only [Deal.v] at he
  subst he
  rw [nf15] at hr
  obtain ⟨gl, capl, hvl, -, hcapl, -⟩ := row_at hr (by omega)
  subst hvl
  have hAp16 := heap_ext hAp15 hb16
  have D16 := bcall D15 (by first | omega | (simp; done) | (simp; omega)) hb16
  have sz16 := D16.size
  clear hAp15 D15 hb16 cAp15 zAp15 nAp15
  clear hr
  have cAp16 := fun j => cell_of_row w16 _ j _ _ _ hAp16
  have zAp16 := lt_some hAp16
  have nAp16 : ¬ w14.heap.size = w16.heap.size := by omega
  go_wp2_with fail
  refine (Mediate_any ⟨⟨100, 81, 1, 2⟩, ⟨40, 80, 1, 2⟩, 10⟩ _).mono ?_
  rintro e w17 ⟨sx, he, hr, hb17⟩
  rw [nf16, nf17] at he
  simp only [Deal.v] at he
  subst he
  have hAp17 := heap_ext (heap_old hAp16) hb17
  have hD17 := heap_ext (heap_new rfl) hb17
  have D17 := bcall (D16.alloc (by first | omega | (simp; done) | (simp; omega)) _) (by first | omega | (simp; done) | (simp; omega)) hb17
  have sz17 := D17.size
  clear hAp16 D16 hb17 cAp16 zAp16 nAp16
  clear hr
  go_wp2_with fail
  refine (given_lit _).mono ?_
  rintro e w18 ⟨rfl, hb18⟩
  have hD18 := heap_ext (heap_old hD17) hb18
  have hSt18 := heap_ext (heap_new rfl) hb18
  have D18 := bcall (D17.alloc (by first | omega | (simp; done) | (simp; omega)) _) (by first | omega | (simp; done) | (simp; omega)) hb18
  have sz18 := D18.size
  clear hD17 D17 hb18 hAp17
  go_wp2_with fail
  refine (Run_any ⟨⟨80, 60, 1, 2⟩, ⟨80, 80, 1, 2⟩, 10⟩ _).mono ?_
  rintro e w19 ⟨sm, he, hr, hb19⟩
  rw [nf18, nf19] at he
  simp only [Deal.v] at he
  subst he
  rw [nf20] at hr
  obtain ⟨gm, capm, hvm, -, hcapm, -⟩ := row_at hr (by omega)
  subst hvm
  have hD19 := heap_ext (heap_old hD18) hb19
  have hSt19 := heap_ext (heap_old hSt18) hb19
  have hEa19 := heap_ext (heap_new rfl) hb19
  have D19 := bcall (D18.alloc (by first | omega | (simp; done) | (simp; omega)) _) (by first | omega | (simp; done) | (simp; omega)) hb19
  have sz19 := D19.size
  clear hD18 hSt18 D18 hb19
  clear hr
  go_wp2_with fail
  refine (given_lit _).mono ?_
  rintro e w20 ⟨rfl, hb20⟩
  have hD20 := heap_ext (heap_old hD19) hb20
  have hSt20 := heap_ext (heap_old hSt19) hb20
  have hAt20 := heap_ext (heap_new rfl) hb20
  have D20 := bcall (D19.alloc (by first | omega | (simp; done) | (simp; omega)) _) (by first | omega | (simp; done) | (simp; omega)) hb20
  have sz20 := D20.size
  clear hD19 hSt19 D19 hb20 hEa19
  go_wp2_with fail
  refine (Run_any ⟨⟨100, 60, 1, 2⟩, ⟨40, 80, 1, 2⟩, 2⟩ _).mono ?_
  rintro e w21 ⟨sy, he, hr, hb21⟩
  rw [nf21, nf22] at he
  simp only [Deal.v] at he
  subst he
  have hD21 := heap_ext (heap_old hD20) hb21
  have hSt21 := heap_ext (heap_old hSt20) hb21
  have hAt21 := heap_ext (heap_old hAt20) hb21
  have hTw21 := heap_ext (heap_new rfl) hb21
  have D21 := bcall (D20.alloc (by first | omega | (simp; done) | (simp; omega)) _) (by first | omega | (simp; done) | (simp; omega)) hb21
  have sz21 := D21.size
  clear hD20 hSt20 hAt20 D20 hb21
  clear hr
  have cTw21 := fun j => cell_of_row w21 _ j _ _ _ hTw21
  have zTw21 := lt_some hTw21
  have nTw21 : ¬ w20.heap.size = w21.heap.size := by omega
  go_wp2_with fail
  refine (Mediate_any ⟨⟨100, 60, 1, 2⟩, ⟨40, 80, 1, 2⟩, 2⟩ _).mono ?_
  rintro e w22 ⟨sz, he, hr, hb22⟩
  rw [nf23, nf24] at he
  simp only [Deal.v] at he
  subst he
  have hD22 := heap_ext (heap_old hD21) hb22
  have hSt22 := heap_ext (heap_old hSt21) hb22
  have hAt22 := heap_ext (heap_old hAt21) hb22
  have hTw22 := heap_ext (heap_old hTw21) hb22
  have hN222 := heap_ext (heap_new rfl) hb22
  have D22 := bcall (D21.alloc (by first | omega | (simp; done) | (simp; omega)) _) (by first | omega | (simp; done) | (simp; omega)) hb22
  have sz22 := D22.size
  clear hD21 hSt21 hAt21 hTw21 D21 hb22 cTw21 zTw21 nTw21
  clear hr
  go_wp2_with fail
  refine (next_any ⟨0, 10, 1, 3⟩ 0 _).mono ?_
  rintro e w23 ⟨rfl, hb23⟩
  rw [nf25, nf26]
  have hD23 := heap_ext (heap_old (heap_old hD22)) hb23
  have hSt23 := heap_ext (heap_old (heap_old hSt22)) hb23
  have hAt23 := heap_ext (heap_old (heap_old hAt22)) hb23
  have hN223 := heap_ext (heap_old (heap_old hN222)) hb23
  have hHa23 := heap_ext (heap_old (heap_new rfl)) hb23
  have hTh23 := heap_ext (heap_new (g := w22.heap.size + 1) (by simp)) hb23
  have D23 := bcall ((D22.alloc (by first | omega | (simp; done) | (simp; omega)) _).alloc (by first | omega | (simp; done) | (simp; omega)) _) (by first | omega | (simp; done) | (simp; omega)) hb23
  have sz23 := D23.size
  clear hD22 hSt22 hAt22 hN222 D22 hb23 hTw22
  have cTh23 := fun j => cell_of_row w23 _ j _ _ _ hTh23
  have zTh23 := lt_some hTh23
  have nTh23 : ¬ w22.heap.size + 1 = w23.heap.size := by omega
  go_wp2_with fail
  refine (next_any ⟨0, 10, 1, 3⟩ 9 _).mono ?_
  rintro e w24 ⟨rfl, hb24⟩
  rw [nf27, nf28]
  have hD24 := heap_ext hD23 hb24
  have hSt24 := heap_ext hSt23 hb24
  have hAt24 := heap_ext hAt23 hb24
  have hN224 := heap_ext hN223 hb24
  have hHa24 := heap_ext hHa23 hb24
  have hTh24 := heap_ext hTh23 hb24
  have D24 := bcall D23 (by first | omega | (simp; done) | (simp; omega)) hb24
  have sz24 := D24.size
  clear hD23 hSt23 hAt23 hN223 hHa23 hTh23 D23 hb24 cTh23 zTh23 nTh23
  have cTh24 := fun j => cell_of_row w24 _ j _ _ _ hTh24
  have zTh24 := lt_some hTh24
  have nTh24 : ¬ w22.heap.size + 1 = w24.heap.size := by omega
  go_wp2_with fail
  refine (next_any ⟨0, 10, 1, 3⟩ 10 _).mono ?_
  rintro e w25 ⟨rfl, hb25⟩
  rw [nf29, nf30]
  have hD25 := heap_ext hD24 hb25
  have hSt25 := heap_ext hSt24 hb25
  have hAt25 := heap_ext hAt24 hb25
  have hN225 := heap_ext hN224 hb25
  have hHa25 := heap_ext hHa24 hb25
  have hTh25 := heap_ext hTh24 hb25
  have D25 := bcall D24 (by first | omega | (simp; done) | (simp; omega)) hb25
  have sz25 := D25.size
  clear hD24 hSt24 hAt24 hN224 hHa24 hTh24 D24 hb25 cTh24 zTh24 nTh24
  have cTh25 := fun j => cell_of_row w25 _ j _ _ _ hTh25
  have zTh25 := lt_some hTh25
  have nTh25 : ¬ w22.heap.size + 1 = w25.heap.size := by omega
  go_wp2_with fail
  refine (next_any ⟨0, 10, 1, 3⟩ 11 _).mono ?_
  rintro e w26 ⟨rfl, hb26⟩
  rw [nf31, nf32]
  have hD26 := heap_ext hD25 hb26
  have hSt26 := heap_ext hSt25 hb26
  have hAt26 := heap_ext hAt25 hb26
  have hN226 := heap_ext hN225 hb26
  have hHa26 := heap_ext hHa25 hb26
  have hTh26 := heap_ext hTh25 hb26
  have D26 := bcall D25 (by first | omega | (simp; done) | (simp; omega)) hb26
  have sz26 := D26.size
  clear hD25 hSt25 hAt25 hN225 hHa25 hTh25 D25 hb26 cTh25 zTh25 nTh25
  have cTh26 := fun j => cell_of_row w26 _ j _ _ _ hTh26
  have zTh26 := lt_some hTh26
  have nTh26 : ¬ w22.heap.size + 1 = w26.heap.size := by omega
  go_wp2_with fail
  refine (next_any ⟨0, 10, 1, 3⟩ (-1) _).mono ?_
  rintro e w27 ⟨rfl, hb27⟩
  rw [nf33, nf34]
  have hD27 := heap_ext hD26 hb27
  have hSt27 := heap_ext hSt26 hb27
  have hAt27 := heap_ext hAt26 hb27
  have hN227 := heap_ext hN226 hb27
  have hHa27 := heap_ext hHa26 hb27
  have hTh27 := heap_ext hTh26 hb27
  have D27 := bcall D26 (by first | omega | (simp; done) | (simp; omega)) hb27
  have sz27 := D27.size
  clear hD26 hSt26 hAt26 hN226 hHa26 hTh26 D26 hb27 cTh26 zTh26 nTh26
  have cTh27 := fun j => cell_of_row w27 _ j _ _ _ hTh27
  have zTh27 := lt_some hTh27
  have nTh27 : ¬ w22.heap.size + 1 = w27.heap.size := by omega
  go_wp2_with fail
  refine (next_any ⟨0, 0, 2, 1⟩ 0 _).mono ?_
  rintro e w28 ⟨rfl, hb28⟩
  rw [nf35, nf36]
  have hD28 := heap_ext hD27 hb28
  have hSt28 := heap_ext hSt27 hb28
  have hAt28 := heap_ext hAt27 hb28
  have hN228 := heap_ext hN227 hb28
  have hHa28 := heap_ext hHa27 hb28
  have D28 := bcall D27 (by first | omega | (simp; done) | (simp; omega)) hb28
  have sz28 := D28.size
  clear hD27 hSt27 hAt27 hN227 hHa27 D27 hb28 cTh27 zTh27 nTh27 hTh27
  go_wp2_with fail
  refine (next_any ⟨1000000000, 0, 9, 10⟩ 1000000000 _).mono ?_
  rintro e w29 ⟨rfl, hb29⟩
  rw [nf37, nf38]
  have hD29 := heap_ext (heap_old hD28) hb29
  have hSt29 := heap_ext (heap_old hSt28) hb29
  have hAt29 := heap_ext (heap_old hAt28) hb29
  have hN229 := heap_ext (heap_old hN228) hb29
  have hHa29 := heap_ext (heap_old hHa28) hb29
  have hMo29 := heap_ext (heap_new rfl) hb29
  have D29 := bcall (D28.alloc (by first | omega | (simp; done) | (simp; omega)) _) (by first | omega | (simp; done) | (simp; omega)) hb29
  have sz29 := D29.size
  clear hD28 hSt28 hAt28 hN228 hHa28 D28 hb29
  have cD29 := fun j => cell_of_row w29 _ j _ _ _ hD29
  have zD29 := lt_some hD29
  have nD29 : ¬ w16.heap.size = w29.heap.size := by omega
  have cSt29 := fun j => cell_of_row w29 _ j _ _ _ hSt29
  have zSt29 := lt_some hSt29
  have nSt29 : ¬ w17.heap.size = w29.heap.size := by omega
  have cAt29 := fun j => cell_of_row w29 _ j _ _ _ hAt29
  have zAt29 := lt_some hAt29
  have nAt29 : ¬ w19.heap.size = w29.heap.size := by omega
  have cN229 := fun j => cell_of_row w29 _ j _ _ _ hN229
  have zN229 := lt_some hN229
  have nN229 : ¬ w21.heap.size = w29.heap.size := by omega
  have cHa29 := fun j => cell_of_row w29 _ j _ _ _ hHa29
  have zHa29 := lt_some hHa29
  have nHa29 : ¬ w22.heap.size = w29.heap.size := by omega
  go_wp2_with fail
  refine (alive_any _).mono ?_
  rintro e w30 ⟨rfl, hb30⟩
  have hD30 := heap_ext hD29 hb30
  have hSt30 := heap_ext hSt29 hb30
  have hAt30 := heap_ext hAt29 hb30
  have hN230 := heap_ext hN229 hb30
  have hHa30 := heap_ext hHa29 hb30
  have D30 := bcall D29 (by first | omega | (simp; done) | (simp; omega)) hb30
  have sz30 := D30.size
  clear hD29 hSt29 hAt29 hN229 hHa29 D29 hb30 hMo29 cD29 zD29 nD29 cSt29 zSt29 nSt29 cAt29 zAt29 nAt29 cN229 zN229 nN229 cHa29 zHa29 nHa29
  go_wp2
  go_ret
  exact ⟨rfl, D30⟩

end Go.Proofs.Ytigphmocjgojhaa
