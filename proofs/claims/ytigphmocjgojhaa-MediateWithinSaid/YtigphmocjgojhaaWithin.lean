/- MediateWithin returns true for every bargain. -/
import Derived.Test.YtigphmocjgojhaaFits
import Derived.BigGuardPart
namespace Go.Proofs.Ytigphmocjgojhaa
open Go.RowKit
set_option linter.unusedVariables false
set_option linter.unusedSimpArgs false

theorem long_code {b : Bg} (hc : b.code = 0) : (b.few 1000).code = 0 := by
  obtain ⟨a1, a2, a3, a4, a5, a6⟩ := (code_iff b).1 hc
  exact (code_iff _).2 ⟨a1, a2, a3, a4, by simp [Bg.few], by simp [Bg.few]⟩

theorem run_by {b : Bg} (h0 : 0 ≤ b.o) : (deal b false).by' ≠ 2 := by
  rcases stop_cases (deal_stop b false h0) with ⟨a, _⟩ | ⟨_, _, a⟩ | ⟨_, _, _, _, a⟩
  · simp at a
  · rw [a]; simp
  · rw [a]; simp only; omega

set_option maxRecDepth 100000 in
set_option maxHeartbeats 8000000 in
theorem within_zone (b : Bg) (w : World) (hc : b.code = 0) (hz : b.s.l ≤ b.b.l) :
    Calls Try.prog 9 #[b.v] w fun e w' => e = .returned (.bool true) ∧ Below w.heap.size w w' := by
  obtain ⟨-, -, -, -, h5, h6⟩ := (code_iff b).1 hc
  have HC := Lib.hid hc
  have HCL := Lib.hid (long_code hc)
  have hce : (b.code != 0) = false := by simpa using hc
  obtain ⟨n1, hn1⟩ : ∃ n, n = endN b false := ⟨_, rfl⟩
  obtain ⟨n2, hn2⟩ : ∃ n, n = endN b true := ⟨_, rfl⟩
  have N1 := Lib.hid hn1
  have N2 := Lib.hid hn2
  have Nc := Lib.hid (show lenC b false = n1 by rw [hn1]; simp [lenC, hc])
  have Nu := Lib.hid (show lenC b true = n2 by rw [hn2]; simp [lenC, hc])
  obtain ⟨⟨c0, c1, c2, c3⟩, hdc⟩ : ∃ d, d = deal b false := ⟨_, rfl⟩
  have Ec := Lib.hid (show dealC b false = ⟨c0, c1, c2, c3⟩ by rw [hdc]; simp [dealC, hc])
  have HDc := Lib.hid hdc
  obtain ⟨⟨u0, u1, u2, u3⟩, hdu⟩ : ∃ d, d = deal b true := ⟨_, rfl⟩
  have Eu := Lib.hid (show dealC b true = ⟨u0, u1, u2, u3⟩ by rw [hdu]; simp [dealC, hc])
  have HDu := Lib.hid hdu
  obtain ⟨⟨x0, x1, x2, x3⟩, hdx⟩ : ∃ d, d = deal (b.few 1000) false := ⟨_, rfl⟩
  have Ex := Lib.hid (show dealC (b.few 1000) false = ⟨x0, x1, x2, x3⟩ by rw [hdx]; simp [dealC, HCL.out])
  have HDx := Lib.hid hdx
  obtain ⟨⟨y0, y1, y2, y3⟩, hdy⟩ : ∃ d, d = deal (b.few 1000) true := ⟨_, rfl⟩
  have Ey := Lib.hid (show dealC (b.few 1000) true = ⟨y0, y1, y2, y3⟩ by rw [hdy]; simp [dealC, HCL.out])
  have HDy := Lib.hid hdy
  have Z1 := Lib.hid (show b.zlo = b.s.l by rw [Bg.zlo, if_neg (by simp [hc]), if_neg (by omega)])
  have Z2 := Lib.hid (show b.zhi = b.b.l by rw [Bg.zhi, if_neg (by simp [hc]), if_neg (by omega)])
  have Z3 := Lib.hid (show b.zcode = 0 by rw [Bg.zcode, if_neg (by simp [hc]), if_neg (by omega)])
  have hby : (c3 == 2) = false := by have := run_by (b := b) (by omega); rw [← hdc] at this; simpa using this
  obtain rfl : x0 = true := by have := long_deal (b := b.few 1000) HCL.out rfl hz false; rw [← hdx] at this; exact this
  obtain rfl : y0 = true := by have := long_deal (b := b.few 1000) HCL.out rfl hz true; rw [← hdy] at this; exact this
  clear hdc hdu hdx hdy hn1 hn2 hc
  go_enter Try.func9, Try.ntmps9
  try dsimp only [List.append]
  go_wp2_with fail
  refine (alive_any _).mono ?_
  rintro e w1 ⟨rfl, hb1⟩
  have hB1 := heap_ext (heap_new rfl) hb1
  have D1 := bcall ((Below.refl w.heap.size w).alloc (by first | omega | (simp; done) | (simp; omega)) _) (by first | omega | (simp; done) | (simp; omega)) hb1
  have sz1 := D1.size
  clear hb1
  have cB1 := fun j => cell_of_row w1 _ j _ _ _ hB1
  have zB1 := lt_some hB1
  have nB1 : ¬ w.heap.size = w1.heap.size := by omega
  go_wp2_with fail
  refine (check_ref b _).mono ?_
  rintro e w2 ⟨rfl, hb2⟩
  have hB2 := heap_ext hB1 hb2
  have D2 := bcall D1 (by first | omega | (simp; done) | (simp; omega)) hb2
  have sz2 := D2.size
  clear hB1 D1 hb2 cB1 zB1 nB1
  have cB2 := fun j => cell_of_row w2 _ j _ _ _ hB2
  have zB2 := lt_some hB2
  have nB2 : ¬ w.heap.size = w2.heap.size := by omega
  go_wp2_with fail
  refine (Run_any b _).mono ?_
  rintro e w3 ⟨sc, he, hr, hb3⟩
  rw [Ec.out, HC.out] at he
  simp only [Deal.v] at he
  subst he
  rw [Nc.out] at hr
  have hB3 := heap_ext hB2 hb3
  have D3 := bcall D2 (by first | omega | (simp; done) | (simp; omega)) hb3
  have sz3 := D3.size
  have oc3 := (show OffRow w3 sc b n1 from ⟨_, hr⟩)
  clear hB2 D2 hb3 cB2 zB2 nB2
  clear hr
  have cB3 := fun j => cell_of_row w3 _ j _ _ _ hB3
  have zB3 := lt_some hB3
  have nB3 : ¬ w.heap.size = w3.heap.size := by omega
  go_wp2_with fail
  refine (Mediate_any b _).mono ?_
  rintro e w4 ⟨su, he, hr, hb4⟩
  rw [Eu.out, HC.out] at he
  simp only [Deal.v] at he
  subst he
  rw [Nu.out] at hr
  have hB4 := heap_ext (heap_old hB3) hb4
  have hC4 := heap_ext (heap_new rfl) hb4
  have oc4 := (oc3.ext ((Below.refl w3.heap.size w3).alloc (by first | omega | (simp; done) | (simp; omega)) _)).ext hb4
  have D4 := bcall (D3.alloc (by first | omega | (simp; done) | (simp; omega)) _) (by first | omega | (simp; done) | (simp; omega)) hb4
  have sz4 := D4.size
  have ou4 := (show OffRow w4 su b n2 from ⟨_, hr⟩)
  clear hB3 oc3 D3 hb4 cB3 zB3 nB3
  clear hr
  have cB4 := fun j => cell_of_row w4 _ j _ _ _ hB4
  have zB4 := lt_some hB4
  have nB4 : ¬ w.heap.size = w4.heap.size := by omega
  go_wp2_with fail
  refine (zone_any b _).mono ?_
  rintro e w5 ⟨rfl, hb5⟩
  rw [Z1.out, Z2.out, Z3.out]
  have hB5 := heap_ext (heap_old hB4) hb5
  have hC5 := heap_ext (heap_old hC4) hb5
  have hU5 := heap_ext (heap_new rfl) hb5
  have oc5 := (oc4.ext ((Below.refl w4.heap.size w4).alloc (by first | omega | (simp; done) | (simp; omega)) _)).ext hb5
  have ou5 := (ou4.ext ((Below.refl w4.heap.size w4).alloc (by first | omega | (simp; done) | (simp; omega)) _)).ext hb5
  have D5 := bcall (D4.alloc (by first | omega | (simp; done) | (simp; omega)) _) (by first | omega | (simp; done) | (simp; omega)) hb5
  have sz5 := D5.size
  clear hB4 hC4 oc4 ou4 D4 hb5 cB4 zB4 nB4
  have cB5 := fun j => cell_of_row w5 _ j _ _ _ hB5
  have zB5 := lt_some hB5
  have nB5 : ¬ w.heap.size = w5.heap.size := by omega
  have cC5 := fun j => cell_of_row w5 _ j _ _ _ hC5
  have zC5 := lt_some hC5
  have nC5 : ¬ w3.heap.size = w5.heap.size := by omega
  have cU5 := fun j => cell_of_row w5 _ j _ _ _ hU5
  have zU5 := lt_some hU5
  have nU5 : ¬ w4.heap.size = w5.heap.size := by omega
  go_wp2_with fail
  refine (fits_any b false sc ⟨c0, c1, c2, c3⟩ n1 _ HC.out N1.out HDc.out oc5).mono ?_
  rintro e w6 ⟨rfl, hb6⟩
  have hB6 := heap_ext hB5 hb6
  have hC6 := heap_ext hC5 hb6
  have hU6 := heap_ext hU5 hb6
  have oc6 := oc5.ext hb6
  have ou6 := ou5.ext hb6
  have D6 := bcall D5 (by first | omega | (simp; done) | (simp; omega)) hb6
  have sz6 := D6.size
  clear hB5 hC5 hU5 oc5 ou5 D5 hb6 cB5 zB5 nB5 cC5 zC5 nC5 cU5 zU5 nU5
  have cB6 := fun j => cell_of_row w6 _ j _ _ _ hB6
  have zB6 := lt_some hB6
  have nB6 : ¬ w.heap.size = w6.heap.size := by omega
  have cC6 := fun j => cell_of_row w6 _ j _ _ _ hC6
  have zC6 := lt_some hC6
  have nC6 : ¬ w3.heap.size = w6.heap.size := by omega
  have cU6 := fun j => cell_of_row w6 _ j _ _ _ hU6
  have zU6 := lt_some hU6
  have nU6 : ¬ w4.heap.size = w6.heap.size := by omega
  go_wp2_with fail
  refine (fits_any b true su ⟨u0, u1, u2, u3⟩ n2 _ HC.out N2.out HDu.out ou6).mono ?_
  rintro e w7 ⟨rfl, hb7⟩
  have hB7 := heap_ext hB6 hb7
  have hC7 := heap_ext hC6 hb7
  have hU7 := heap_ext hU6 hb7
  have oc7 := oc6.ext hb7
  have ou7 := ou6.ext hb7
  have D7 := bcall D6 (by first | omega | (simp; done) | (simp; omega)) hb7
  have sz7 := D7.size
  clear hB6 hC6 hU6 oc6 ou6 D6 hb7 cB6 zB6 nB6 cC6 zC6 nC6 cU6 zU6 nU6
  have cB7 := fun j => cell_of_row w7 _ j _ _ _ hB7
  have zB7 := lt_some hB7
  have nB7 : ¬ w.heap.size = w7.heap.size := by omega
  have cC7 := fun j => cell_of_row w7 _ j _ _ _ hC7
  have zC7 := lt_some hC7
  have nC7 : ¬ w3.heap.size = w7.heap.size := by omega
  have cU7 := fun j => cell_of_row w7 _ j _ _ _ hU7
  have zU7 := lt_some hU7
  have nU7 : ¬ w4.heap.size = w7.heap.size := by omega
  go_wp2_with fail
  refine (Run_any (b.few 1000) _).mono ?_
  rintro e w8 ⟨sx, he, hr, hb8⟩
  rw [Ex.out, HCL.out] at he
  simp only [Deal.v] at he
  subst he
  clear hr
  have hB8 := heap_ext (heap_old hB7) hb8
  have hC8 := heap_ext (heap_old hC7) hb8
  have hU8 := heap_ext (heap_old hU7) hb8
  have hL8 := heap_ext (heap_new rfl) hb8
  have D8 := bcall (D7.alloc (by first | omega | (simp; done) | (simp; omega)) _) (by first | omega | (simp; done) | (simp; omega)) hb8
  have sz8 := D8.size
  clear hB7 hC7 hU7 D7 hb8 cB7 zB7 nB7 cC7 zC7 nC7 cU7 zU7 nU7
  have cL8 := fun j => cell_of_row w8 _ j _ _ _ hL8
  have zL8 := lt_some hL8
  have nL8 : ¬ w7.heap.size = w8.heap.size := by omega
  go_wp2_with fail
  refine (Mediate_any (b.few 1000) _).mono ?_
  rintro e w9 ⟨sy, he, hr, hb9⟩
  rw [Ey.out, HCL.out] at he
  simp only [Deal.v] at he
  subst he
  clear hr
  have hB9 := heap_ext (heap_old hB8) hb9
  have hC9 := heap_ext (heap_old hC8) hb9
  have hU9 := heap_ext (heap_old hU8) hb9
  have hL9 := heap_ext (heap_old hL8) hb9
  have hX9 := heap_ext (heap_new rfl) hb9
  have D9 := bcall (D8.alloc (by first | omega | (simp; done) | (simp; omega)) _) (by first | omega | (simp; done) | (simp; omega)) hb9
  have sz9 := D9.size
  clear hB8 hC8 hU8 hL8 D8 hb9 cL8 zL8 nL8
  have cX9 := fun j => cell_of_row w9 _ j _ _ _ hX9
  have zX9 := lt_some hX9
  have nX9 : ¬ w8.heap.size = w9.heap.size := by omega
  go_wp2_with fail
  go_ret
  exact ⟨rfl, D9.alloc (by first | omega | (simp; done) | (simp; omega)) _⟩

set_option maxRecDepth 100000 in
set_option maxHeartbeats 8000000 in
theorem within_none (b : Bg) (w : World) (hc : b.code = 0) (hz : b.b.l < b.s.l) :
    Calls Try.prog 9 #[b.v] w fun e w' => e = .returned (.bool true) ∧ Below w.heap.size w w' := by
  obtain ⟨-, -, -, -, h5, h6⟩ := (code_iff b).1 hc
  have HC := Lib.hid hc
  have HCL := Lib.hid (long_code hc)
  have hce : (b.code != 0) = false := by simpa using hc
  obtain ⟨n1, hn1⟩ : ∃ n, n = endN b false := ⟨_, rfl⟩
  obtain ⟨n2, hn2⟩ : ∃ n, n = endN b true := ⟨_, rfl⟩
  have N1 := Lib.hid hn1
  have N2 := Lib.hid hn2
  have Nc := Lib.hid (show lenC b false = n1 by rw [hn1]; simp [lenC, hc])
  have Nu := Lib.hid (show lenC b true = n2 by rw [hn2]; simp [lenC, hc])
  obtain ⟨⟨c0, c1, c2, c3⟩, hdc⟩ : ∃ d, d = deal b false := ⟨_, rfl⟩
  have Ec := Lib.hid (show dealC b false = ⟨c0, c1, c2, c3⟩ by rw [hdc]; simp [dealC, hc])
  have HDc := Lib.hid hdc
  obtain ⟨⟨u0, u1, u2, u3⟩, hdu⟩ : ∃ d, d = deal b true := ⟨_, rfl⟩
  have Eu := Lib.hid (show dealC b true = ⟨u0, u1, u2, u3⟩ by rw [hdu]; simp [dealC, hc])
  have HDu := Lib.hid hdu
  have Z1 := Lib.hid (show b.zlo = 0 by rw [Bg.zlo, if_neg (by simp [hc]), if_pos (by omega)])
  have Z2 := Lib.hid (show b.zhi = 0 by rw [Bg.zhi, if_neg (by simp [hc]), if_pos (by omega)])
  have Z3 := Lib.hid (show b.zcode = 6 by rw [Bg.zcode, if_neg (by simp [hc]), if_pos (by omega)])
  obtain rfl : c0 = false := by have := no_zone_no_deal hc (med := false) hz; rw [← hdc] at this; exact this
  obtain rfl : u0 = false := by have := no_zone_no_deal hc (med := true) hz; rw [← hdu] at this; exact this
  have hz2 : decide (b.b.l < b.s.l) = true := by simpa using hz
  clear hdc hdu hn1 hn2 hc
  go_enter Try.func9, Try.ntmps9
  try dsimp only [List.append]
  go_wp2_with fail
  refine (alive_any _).mono ?_
  rintro e w1 ⟨rfl, hb1⟩
  have hB1 := heap_ext (heap_new rfl) hb1
  have D1 := bcall ((Below.refl w.heap.size w).alloc (by first | omega | (simp; done) | (simp; omega)) _) (by first | omega | (simp; done) | (simp; omega)) hb1
  have sz1 := D1.size
  clear hb1
  have cB1 := fun j => cell_of_row w1 _ j _ _ _ hB1
  have zB1 := lt_some hB1
  have nB1 : ¬ w.heap.size = w1.heap.size := by omega
  go_wp2_with fail
  refine (check_ref b _).mono ?_
  rintro e w2 ⟨rfl, hb2⟩
  have hB2 := heap_ext hB1 hb2
  have D2 := bcall D1 (by first | omega | (simp; done) | (simp; omega)) hb2
  have sz2 := D2.size
  clear hB1 D1 hb2 cB1 zB1 nB1
  have cB2 := fun j => cell_of_row w2 _ j _ _ _ hB2
  have zB2 := lt_some hB2
  have nB2 : ¬ w.heap.size = w2.heap.size := by omega
  go_wp2_with fail
  refine (Run_any b _).mono ?_
  rintro e w3 ⟨sc, he, hr, hb3⟩
  rw [Ec.out, HC.out] at he
  simp only [Deal.v] at he
  subst he
  rw [Nc.out] at hr
  have hB3 := heap_ext hB2 hb3
  have D3 := bcall D2 (by first | omega | (simp; done) | (simp; omega)) hb3
  have sz3 := D3.size
  have oc3 := (show OffRow w3 sc b n1 from ⟨_, hr⟩)
  clear hB2 D2 hb3 cB2 zB2 nB2
  clear hr
  have cB3 := fun j => cell_of_row w3 _ j _ _ _ hB3
  have zB3 := lt_some hB3
  have nB3 : ¬ w.heap.size = w3.heap.size := by omega
  go_wp2_with fail
  refine (Mediate_any b _).mono ?_
  rintro e w4 ⟨su, he, hr, hb4⟩
  rw [Eu.out, HC.out] at he
  simp only [Deal.v] at he
  subst he
  rw [Nu.out] at hr
  have hB4 := heap_ext (heap_old hB3) hb4
  have hC4 := heap_ext (heap_new rfl) hb4
  have oc4 := (oc3.ext ((Below.refl w3.heap.size w3).alloc (by first | omega | (simp; done) | (simp; omega)) _)).ext hb4
  have D4 := bcall (D3.alloc (by first | omega | (simp; done) | (simp; omega)) _) (by first | omega | (simp; done) | (simp; omega)) hb4
  have sz4 := D4.size
  have ou4 := (show OffRow w4 su b n2 from ⟨_, hr⟩)
  clear hB3 oc3 D3 hb4 cB3 zB3 nB3
  clear hr
  have cB4 := fun j => cell_of_row w4 _ j _ _ _ hB4
  have zB4 := lt_some hB4
  have nB4 : ¬ w.heap.size = w4.heap.size := by omega
  go_wp2_with fail
  refine (zone_any b _).mono ?_
  rintro e w5 ⟨rfl, hb5⟩
  rw [Z1.out, Z2.out, Z3.out]
  have hB5 := heap_ext (heap_old hB4) hb5
  have hC5 := heap_ext (heap_old hC4) hb5
  have hU5 := heap_ext (heap_new rfl) hb5
  have oc5 := (oc4.ext ((Below.refl w4.heap.size w4).alloc (by first | omega | (simp; done) | (simp; omega)) _)).ext hb5
  have ou5 := (ou4.ext ((Below.refl w4.heap.size w4).alloc (by first | omega | (simp; done) | (simp; omega)) _)).ext hb5
  have D5 := bcall (D4.alloc (by first | omega | (simp; done) | (simp; omega)) _) (by first | omega | (simp; done) | (simp; omega)) hb5
  have sz5 := D5.size
  clear hB4 hC4 oc4 ou4 D4 hb5 cB4 zB4 nB4
  have cB5 := fun j => cell_of_row w5 _ j _ _ _ hB5
  have zB5 := lt_some hB5
  have nB5 : ¬ w.heap.size = w5.heap.size := by omega
  have cC5 := fun j => cell_of_row w5 _ j _ _ _ hC5
  have zC5 := lt_some hC5
  have nC5 : ¬ w3.heap.size = w5.heap.size := by omega
  have cU5 := fun j => cell_of_row w5 _ j _ _ _ hU5
  have zU5 := lt_some hU5
  have nU5 : ¬ w4.heap.size = w5.heap.size := by omega
  go_wp2_with fail
  refine (fits_any b false sc ⟨false, c1, c2, c3⟩ n1 _ HC.out N1.out HDc.out oc5).mono ?_
  rintro e w6 ⟨rfl, hb6⟩
  have hB6 := heap_ext hB5 hb6
  have hC6 := heap_ext hC5 hb6
  have hU6 := heap_ext hU5 hb6
  have oc6 := oc5.ext hb6
  have ou6 := ou5.ext hb6
  have D6 := bcall D5 (by first | omega | (simp; done) | (simp; omega)) hb6
  have sz6 := D6.size
  clear hB5 hC5 hU5 oc5 ou5 D5 hb6 cB5 zB5 nB5 cC5 zC5 nC5 cU5 zU5 nU5
  have cB6 := fun j => cell_of_row w6 _ j _ _ _ hB6
  have zB6 := lt_some hB6
  have nB6 : ¬ w.heap.size = w6.heap.size := by omega
  have cC6 := fun j => cell_of_row w6 _ j _ _ _ hC6
  have zC6 := lt_some hC6
  have nC6 : ¬ w3.heap.size = w6.heap.size := by omega
  have cU6 := fun j => cell_of_row w6 _ j _ _ _ hU6
  have zU6 := lt_some hU6
  have nU6 : ¬ w4.heap.size = w6.heap.size := by omega
  go_wp2_with fail
  refine (fits_any b true su ⟨false, u1, u2, u3⟩ n2 _ HC.out N2.out HDu.out ou6).mono ?_
  rintro e w7 ⟨rfl, hb7⟩
  have hB7 := heap_ext hB6 hb7
  have hC7 := heap_ext hC6 hb7
  have hU7 := heap_ext hU6 hb7
  have oc7 := oc6.ext hb7
  have ou7 := ou6.ext hb7
  have D7 := bcall D6 (by first | omega | (simp; done) | (simp; omega)) hb7
  have sz7 := D7.size
  clear hB6 hC6 hU6 oc6 ou6 D6 hb7 cB6 zB6 nB6 cC6 zC6 nC6 cU6 zU6 nU6
  have cB7 := fun j => cell_of_row w7 _ j _ _ _ hB7
  have zB7 := lt_some hB7
  have nB7 : ¬ w.heap.size = w7.heap.size := by omega
  have cC7 := fun j => cell_of_row w7 _ j _ _ _ hC7
  have zC7 := lt_some hC7
  have nC7 : ¬ w3.heap.size = w7.heap.size := by omega
  have cU7 := fun j => cell_of_row w7 _ j _ _ _ hU7
  have zU7 := lt_some hU7
  have nU7 : ¬ w4.heap.size = w7.heap.size := by omega
  go_wp2_with fail
  go_ret
  exact ⟨rfl, D7⟩

set_option maxHeartbeats 2000000 in
theorem within_walk (b : Bg) (w : World) :
    Calls Try.prog 9 #[b.v] w fun e w' => e = .returned (.bool true) ∧ Below w.heap.size w w' := by
  by_cases hc : b.code = 0
  · by_cases hz : b.s.l ≤ b.b.l
    · exact within_zone b w hc hz
    · exact within_none b w hc (by omega)
  · have hce : (b.code != 0) = true := by simpa using hc
    clear hc
    go_enter Try.func9, Try.ntmps9
    go_wp2_with fail
    refine (alive_any _).mono ?_
    rintro e w1 ⟨rfl, hb1⟩
    have hB1 := heap_ext (heap_new rfl) hb1
    have D1 := bcall ((Below.refl _ w).alloc (Nat.le_refl _) _) (by simp) hb1
    have cB1 := fun j => cell_of_row w1 _ j _ _ _ hB1
    go_wp2_with fail
    refine (check_ref b _).mono ?_
    rintro e w2 ⟨rfl, hb2⟩
    have D2 := bcall D1 D1.size hb2
    go_wp2_with fail
    go_ret
    exact ⟨rfl, D2⟩

end Go.Proofs.Ytigphmocjgojhaa
