/- The small functions of mediate and of its reference: what each call computes. -/
import Derived.Test.YtigphmocjgojhaaKit
import Derived.Test.YtigphmocjgojhaaPlain
namespace Go.Proofs.Ytigphmocjgojhaa
open Go.RowKit
set_option linter.unusedVariables false
set_option linter.unusedSimpArgs false

set_option maxHeartbeats 400000 in
theorem price_any (n : Int) (w : World) :
    Calls Try.prog 31 #[.int .i64 n] w fun e w' => e = .returned (.bool (priceB n)) ∧ w = w' := by
  go_enter Try.func31, Try.ntmps31
  go_wp2
  all_goals (go_ret; exact ⟨by simp [priceB]; omega, rfl⟩)

set_option maxHeartbeats 400000 in
theorem valid_any (s : St) (w : World) :
    Calls Try.prog 24 #[s.v] w fun e w' => e = .returned (.bool s.ok) ∧ Below w.heap.size w w' := by
  go_enter Try.func24, Try.ntmps24
  go_wp2_with (go_at_call 31; refine (price_any _ _).mono ?_; rintro e w' ⟨rfl, rfl⟩)
  all_goals (go_ret; exact ⟨by simp [St.ok, *]; try omega, (Below.refl _ _).alloc (Nat.le_refl _) _⟩)

set_option maxHeartbeats 400000 in
theorem stance_any (s : St) (w : World) :
    Calls Try.prog 25 #[s.v] w fun e w' => e = .returned (.bool s.ok) ∧ Below w.heap.size w w' := by
  go_enter Try.func25, Try.ntmps25
  go_wp2
  all_goals (go_ret; exact ⟨by simp [St.ok, priceB, *]; try omega, (Below.refl _ _).alloc (Nat.le_refl _) _⟩)

set_option maxHeartbeats 400000 in
theorem check_any (b : Bg) (w : World) :
    Calls Try.prog 14 #[b.v] w fun e w' => e = .returned (.int .i64 b.code) ∧ Below w.heap.size w w' := by
  unfold Bg.v
  go_enter Try.func14, Try.ntmps14
  go_wp2_with fail
  refine (valid_any b.s _).mono ?_
  rintro e w1 ⟨rfl, hb1⟩
  obtain ⟨hc1, hf1⟩ := bcell hb1
  have hz1 : w.heap.size < w1.heap.size := by have := hb1.size; simp at this; omega
  go_wp2_with (go_at_call 24; refine (valid_any b.b _).mono ?_; rintro e w2 ⟨rfl, hb2⟩; obtain ⟨hc2, hf2⟩ := bcell hb2)
  all_goals (go_ret; exact ⟨ret_int (by clear hb1 hc1 hf1; go_light; unfold Bg.code; grind), by first | exact bcall (bcall ((Below.refl _ _).alloc (Nat.le_refl _) _) (by simp) hb1) (by omega) hb2 | exact bcall ((Below.refl _ _).alloc (Nat.le_refl _) _) (by simp) hb1⟩)

set_option maxHeartbeats 400000 in
theorem check_ref (b : Bg) (w : World) :
    Calls Try.prog 15 #[b.v] w fun e w' => e = .returned (.int .i64 b.code) ∧ Below w.heap.size w w' := by
  unfold Bg.v
  go_enter Try.func15, Try.ntmps15
  go_wp2_with fail
  refine (stance_any b.s _).mono ?_
  rintro e w1 ⟨rfl, hb1⟩
  obtain ⟨hc1, hf1⟩ := bcell hb1
  have hz1 : w.heap.size < w1.heap.size := by have := hb1.size; simp at this; omega
  go_wp2_with (go_at_call 25; refine (stance_any b.b _).mono ?_; rintro e w2 ⟨rfl, hb2⟩; obtain ⟨hc2, hf2⟩ := bcell hb2)
  all_goals (go_ret; exact ⟨ret_int (by clear hb1 hc1 hf1; go_light; unfold Bg.code; grind), by first | exact bcall (bcall ((Below.refl _ _).alloc (Nat.le_refl _) _) (by simp) hb1) (by omega) hb2 | exact bcall ((Below.refl _ _).alloc (Nat.le_refl _) _) (by simp) hb1⟩)

set_option maxHeartbeats 400000 in
theorem zone_any (b : Bg) (w : World) :
    Calls Try.prog 10 #[b.v] w fun e w' => e = .returned (.tuple #[.int .i64 b.zlo, .int .i64 b.zhi, .int .i64 b.zcode]) ∧ Below w.heap.size w w' := by
  have HC := Lib.hid (code_cases b)
  unfold Bg.v
  go_enter Try.func10, Try.ntmps10
  go_wp2_with (go_at_call 14; refine (check_any b _).mono ?_; rintro e w1 ⟨rfl, hb1⟩; obtain ⟨hc1, hf1⟩ := bcell hb1)
  all_goals (try (go_quiet (fail); go_wp2))
  all_goals (go_ret3; have hB := bcall ((Below.refl _ _).alloc (Nat.le_refl _) _) (by simp) hb1; refine ⟨ret_three (vint ?_) (vint ?_) (vint ?_), by first | exact hB | exact below_drewN hB _⟩)
  all_goals (clear hb1 hc1 hf1 hB; go_light; have h8 := HC.out; clear HC; (try (simp only [bne_iff_ne, ne_eq, bne_eq_false_iff_eq] at *)); simp only [Bg.zlo, Bg.zhi, Bg.zcode]; grind)

set_option maxHeartbeats 400000 in
theorem zone_ref (b : Bg) (w : World) :
    Calls Try.prog 11 #[b.v] w fun e w' => e = .returned (.tuple #[.int .i64 b.zlo, .int .i64 b.zhi, .int .i64 b.zcode]) ∧ Below w.heap.size w w' := by
  have HC := Lib.hid (code_cases b)
  unfold Bg.v
  go_enter Try.func11, Try.ntmps11
  go_wp2_with (go_at_call 15; refine (check_ref b _).mono ?_; rintro e w1 ⟨rfl, hb1⟩; obtain ⟨hc1, hf1⟩ := bcell hb1)
  all_goals (try (go_quiet (fail); go_wp2))
  all_goals (go_ret3; have hB := bcall ((Below.refl _ _).alloc (Nat.le_refl _) _) (by simp) hb1; refine ⟨ret_three (vint ?_) (vint ?_) (vint ?_), by first | exact hB | exact below_drewN hB _⟩)
  all_goals (clear hb1 hc1 hf1 hB; go_light; have h8 := HC.out; clear HC; (try (simp only [bne_iff_ne, ne_eq, bne_eq_false_iff_eq] at *)); simp only [Bg.zlo, Bg.zhi, Bg.zcode]; grind)

/-- The reference's step: from a price that may lie anywhere between the two ends. -/
theorem refnext_any (s : St) (p : Int) (w : World) (hok : s.ok = true) (hp0 : 0 ≤ p) (hp1 : p ≤ 1000000000) :
    Calls Try.prog 26 #[s.v, .int .i64 p] w fun e w' => e = .returned (.int .i64 (nxt s p)) ∧ Below w.heap.size w w' := by
  have h := (ok_iff s).1 hok
  obtain ⟨⟨h1, h2⟩, ⟨h3, h4⟩, h5, h6, h7⟩ := h
  have HR := Lib.hid (ref_nxt (s := s) (p := p) h5 h6 h7)
  clear hok
  by_cases hlt : s.l < p
  · obtain ⟨q1, q2, q3, q4⟩ := step_bd (x := p - s.l) (n := s.n) (d := s.d) (by omega) (by omega) h5 h6 h7
    rw [if_pos hlt, show max (s.l - p) (p - s.l) = p - s.l from by omega] at HR
    have hlt2 : s.l - p < p - s.l := by omega
    go_enter Try.func26, Try.ntmps26
    go_wp2
    all_goals go_ret
    all_goals exact ⟨ret_int HR.out, (Below.refl _ _).alloc (Nat.le_refl _) _⟩
  · obtain ⟨q1, q2, q3, q4⟩ := step_bd (x := s.l - p) (n := s.n) (d := s.d) (by omega) (by omega) h5 h6 h7
    rw [if_neg hlt, show max (s.l - p) (p - s.l) = s.l - p from by omega] at HR
    have hlt2 : p - s.l ≤ s.l - p := by omega
    go_enter Try.func26, Try.ntmps26
    go_wp2
    all_goals go_ret
    all_goals exact ⟨ret_int HR.out, (Below.refl _ _).alloc (Nat.le_refl _) _⟩

set_option maxHeartbeats 1000000 in
theorem next_any (s : St) (p : Int) (w : World) :
    Calls Try.prog 12 #[s.v, .int .i64 p] w fun e w' => e = .returned (.tuple #[.int .i64 (nextV s p), .int .i64 (nextC s p)]) ∧ Below w.heap.size w w' := by
  by_cases hok : s.ok = true
  · have h := (ok_iff s).1 hok
    obtain ⟨⟨h1, h2⟩, ⟨h3, h4⟩, h5, h6, h7⟩ := h
    by_cases hin : inW s p = true
    · have hi := hin
      simp only [inW, Bool.and_eq_true, decide_eq_true_eq] at hi
      obtain ⟨i1, i2⟩ := hi
      obtain ⟨p1, p2⟩ := prod_bd (x := s.l - p) (m := s.d - s.n) (by omega) (by omega) (by omega) (by omega)
      obtain ⟨t1, t2⟩ := tdiv_bd p1 p2 (d := s.d) (by omega) (by omega)
      have HV := Lib.hid (show nextV s p = nxt s p by simp [nextV, hok, hin])
      have HCo := Lib.hid (show nextC s p = 0 by simp [nextC, hok, hin])
      clear hin
      go_enter Try.func12, Try.ntmps12
      go_wp2_with (go_at_call 24; refine (valid_any s _).mono ?_; rintro e w1 ⟨rfl, hb1⟩; obtain ⟨hc1, hf1⟩ := bcell hb1)
      all_goals (go_ret2; have hB := bcall ((Below.refl _ _).alloc (Nat.le_refl _) _) (by simp) hb1)
      all_goals (exact ⟨ret_two (vint (by rw [HV.out]; rfl)) (vint HCo.out.symm), hB⟩)
    · have HV := Lib.hid (show nextV s p = 0 by simp [nextV, hin])
      have HCo := Lib.hid (show nextC s p = 2 by simp [nextC, hok, hin])
      have hi : ¬ (min s.f s.l ≤ p ∧ p ≤ max s.f s.l) := by simpa [inW] using hin
      have hi2 : p < min s.f s.l ∨ max s.f s.l < p := by omega
      clear hin hi
      rcases hi2 with hi | hi
      all_goals
        go_enter Try.func12, Try.ntmps12
        go_wp2_with (go_at_call 24; refine (valid_any s _).mono ?_; rintro e w1 ⟨rfl, hb1⟩; obtain ⟨hc1, hf1⟩ := bcell hb1)
        all_goals (go_ret2; have hB := bcall ((Below.refl _ _).alloc (Nat.le_refl _) _) (by simp) hb1)
        all_goals (exact ⟨ret_two (vint HV.out.symm) (vint HCo.out.symm), hB⟩)
  · have HV := Lib.hid (show nextV s p = 0 by simp [nextV, hok])
    have HCo := Lib.hid (show nextC s p = 8 by simp [nextC, hok])
    go_enter Try.func12, Try.ntmps12
    go_wp2_with (go_at_call 24; refine (valid_any s _).mono ?_; rintro e w1 ⟨rfl, hb1⟩; obtain ⟨hc1, hf1⟩ := bcell hb1)
    all_goals (go_ret2; have hB := bcall ((Below.refl _ _).alloc (Nat.le_refl _) _) (by simp) hb1)
    all_goals (exact ⟨ret_two (vint HV.out.symm) (vint HCo.out.symm), hB⟩)

set_option maxHeartbeats 1000000 in
theorem next_ref (s : St) (p : Int) (w : World) :
    Calls Try.prog 13 #[s.v, .int .i64 p] w fun e w' => e = .returned (.tuple #[.int .i64 (nextV s p), .int .i64 (nextC s p)]) ∧ Below w.heap.size w w' := by
  by_cases hok : s.ok = true
  · have h := (ok_iff s).1 hok
    obtain ⟨⟨h1, h2⟩, ⟨h3, h4⟩, h5, h6, h7⟩ := h
    by_cases hin : inW s p = true
    · have hi := hin
      simp only [inW, Bool.and_eq_true, decide_eq_true_eq] at hi
      obtain ⟨i1, i2⟩ := hi
      have HV := Lib.hid (show nextV s p = nxt s p by simp [nextV, hok, hin])
      have HCo := Lib.hid (show nextC s p = 0 by simp [nextC, hok, hin])
      have HOK := Lib.hid hok
      clear hin
      go_enter Try.func13, Try.ntmps13
      go_wp2_with (first | (go_at_call 25; refine (stance_any s _).mono ?_; rintro e w1 ⟨rfl, hb1⟩; obtain ⟨hc1, hf1⟩ := bcell hb1; have hz1 : w.heap.size < w1.heap.size := by have := hb1.size; simp at this; omega) | (go_at_call 26; refine (refnext_any s p _ HOK.out (by omega) (by omega)).mono ?_; rintro e w2 ⟨rfl, hb2⟩; obtain ⟨hc2, hf2⟩ := bcell hb2))
      all_goals (go_ret2; have hB := bcall (bcall ((Below.refl _ _).alloc (Nat.le_refl _) _) (by simp) hb1) (by omega) hb2)
      all_goals (exact ⟨ret_two (vint (by rw [HV.out])) (vint HCo.out.symm), hB⟩)
    · have HV := Lib.hid (show nextV s p = 0 by simp [nextV, hin])
      have HCo := Lib.hid (show nextC s p = 2 by simp [nextC, hok, hin])
      have hi : ¬ (min s.f s.l ≤ p ∧ p ≤ max s.f s.l) := by simpa [inW] using hin
      have hi2 : p < min s.f s.l ∨ max s.f s.l < p := by omega
      clear hin hi
      rcases hi2 with hi | hi
      all_goals
        go_enter Try.func13, Try.ntmps13
        go_wp2_with (go_at_call 25; refine (stance_any s _).mono ?_; rintro e w1 ⟨rfl, hb1⟩; obtain ⟨hc1, hf1⟩ := bcell hb1)
        all_goals (go_ret2; have hB := bcall ((Below.refl _ _).alloc (Nat.le_refl _) _) (by simp) hb1)
        all_goals (exact ⟨ret_two (vint HV.out.symm) (vint HCo.out.symm), hB⟩)
  · have HV := Lib.hid (show nextV s p = 0 by simp [nextV, hok])
    have HCo := Lib.hid (show nextC s p = 8 by simp [nextC, hok])
    go_enter Try.func13, Try.ntmps13
    go_wp2_with (go_at_call 25; refine (stance_any s _).mono ?_; rintro e w1 ⟨rfl, hb1⟩; obtain ⟨hc1, hf1⟩ := bcell hb1)
    all_goals (go_ret2; have hB := bcall ((Below.refl _ _).alloc (Nat.le_refl _) _) (by simp) hb1)
    all_goals (exact ⟨ret_two (vint HV.out.symm) (vint HCo.out.symm), hB⟩)

end Go.Proofs.Ytigphmocjgojhaa
