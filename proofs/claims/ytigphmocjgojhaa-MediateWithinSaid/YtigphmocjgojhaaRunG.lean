/- Run and Mediate, of the program and of the reference: one contract for all four. -/
import Derived.Test.YtigphmocjgojhaaRunE
import Derived.Test.YtigphmocjgojhaaRunF
import Derived.Test.YtigphmocjgojhaaRefB
import Derived.Test.YtigphmocjgojhaaRefC
namespace Go.Proofs.Ytigphmocjgojhaa
open Go.RowKit
set_option linter.unusedVariables false
set_option linter.unusedSimpArgs false

def lenC (b : Bg) (med : Bool) : Nat := if b.code = 0 then endN b med else 0
def dealC (b : Bg) (med : Bool) : Deal := if b.code = 0 then deal b med else ⟨false, 0, 0, 0⟩

/-- What Run and Mediate leave: the offers, the deal, the error. -/
def RunRes (b : Bg) (med : Bool) (w : World) (e : Ending) (w' : World) : Prop :=
  ∃ v, e = .returned (.tuple #[v, (dealC b med).v, .int .i64 b.code]) ∧ w'.ownsRow w.heap.size 49 2 v (lenC b med) (offCells b (lenC b med)) ∧ Below w.heap.size w w'

theorem RunRes.bad {b : Bg} {med : Bool} {w w' : World} (h : ¬ b.code = 0) (hb : Below w.heap.size w w') : RunRes b med w (.returned (.tuple #[.slice none 0 0, .agg #[.bool false, .int .i64 0, .int .i64 0, .int .u8 0], .int .i64 b.code])) w' := by
  refine ⟨.slice none 0 0, ?_, ?_, hb⟩
  · simp only [dealC, if_neg h]
  simp only [lenC, if_neg h]; exact World.ownsRow_nil _ _ _ _
theorem RunRes.bad8 {b : Bg} {med : Bool} {w w' : World} (h : ¬ b.code = 0) (hb : Below w.heap.size w w') : RunRes b med w (.returned (.tuple #[.slice none 0 0, .agg #[.bool false, .int .i64 0, .int .i64 0, .int .u8 0], .int .i64 8])) w' := by
  have := RunRes.bad (med := med) h hb
  rwa [show b.code = 8 from (code_cases b).resolve_left h] at this

theorem RunRes.good {b : Bg} {med : Bool} {w w' : World} {v : Value} {base : Nat} (h : b.code = 0) (hrow : w'.ownsRow base 49 2 v (endN b med) (offCells b (endN b med))) (hbase : w.heap.size ≤ base) (hb : Below w.heap.size w w') :
    RunRes b med w (.returned (.tuple #[v, (deal b med).v, .int .i64 0])) w' := by
  refine ⟨v, ?_, ?_, hb⟩
  · rw [dealC, if_pos h, h]
  · simp only [lenC, if_pos h]; exact ownsRow_base hrow hbase

set_option maxHeartbeats 1000000 in
theorem Run_any (b : Bg) (w : World) : Calls Try.prog 16 #[b.v] w (RunRes b false w) := by
  by_cases hc : b.code = 0
  · have HC := Lib.hid hc
    have hce : (b.code != 0) = false := by simpa using hc
    clear hc
    go_enter Try.func16, Try.ntmps16
    go_wp2_with fail
    refine (check_any b _).mono ?_
    rintro e w1 ⟨rfl, hb1⟩
    obtain ⟨hc1, hf1⟩ := bcell hb1
    have hz1 : w.heap.size < w1.heap.size ∧ w.heap.size + 1 < w1.heap.size := by have := hb1.size; simp at this; omega
    obtain ⟨hz1, hz2⟩ := hz1
    go_wp2_with fail
    refine (run_none b _ HC.out).mono ?_
    rintro e w2 ⟨v, he, hrow, hb2⟩
    simp only [Deal.v] at he
    subst he
    obtain ⟨hc2, hf2⟩ := bcell hb2
    have hz3 : w.heap.size < w2.heap.size ∧ w.heap.size + 1 < w2.heap.size := by have := hb2.size; omega
    obtain ⟨hz3, hz4⟩ := hz3
    have hz5 : ¬ w.heap.size + 1 = w2.heap.size := by omega
    go_wp2_with fail
    go_region
    go_wp2_with fail
    exact bodyPost_ret (v := .tuple #[v, (deal b false).v, .int .i64 0]) (by simp [results, Try.results16, go_sem, hc2, hc1, hz1, hz2, hz4, hz5]) rfl
      (RunRes.good HC.out ((ownsRow_set_ne (ownsRow_set_ne (ownsRow_set_ne (ownsRow_set_ne hrow hz2) hz2) hz2) hz2).alloc _).drew (by omega)
        ((((((bcall (bcall (((Below.refl _ _).alloc (Nat.le_refl _) _).alloc (by simp) _) (by simp; omega) hb1) (by omega) hb2).setCell (by simp) _).setCell (by simp) _).setCell (by simp) _).setCell (by simp) _).alloc (by simp; omega) _).drew)
  · have HC := Lib.hid hc
    have hce : (b.code != 0) = true := by simpa using hc
    clear hc
    go_enter Try.func16, Try.ntmps16
    go_wp2_with fail
    refine (check_any b _).mono ?_
    rintro e w1 ⟨rfl, hb1⟩
    obtain ⟨hc1, hf1⟩ := bcell hb1
    have hz1 : w.heap.size < w1.heap.size ∧ w.heap.size + 1 < w1.heap.size := by have := hb1.size; simp at this; omega
    obtain ⟨hz1, hz2⟩ := hz1
    go_wp2_with fail
    exact bodyPost_ret (v := .tuple #[.slice none 0 0, .agg #[.bool false, .int .i64 0, .int .i64 0, .int .u8 0], .int .i64 b.code]) (by simp [results, Try.results16, go_sem, hc1, hz1, hz2]) rfl
      (RunRes.bad HC.out (((((bcall (((Below.refl _ _).alloc (Nat.le_refl _) _).alloc (by simp) _) (by simp; omega) hb1).setCell (by simp) _).setCell (by simp) _).setCell (by simp) _).setCell (by simp) _))

set_option maxHeartbeats 1000000 in
theorem Mediate_any (b : Bg) (w : World) : Calls Try.prog 18 #[b.v] w (RunRes b true w) := by
  by_cases hc : b.code = 0
  · have HC := Lib.hid hc
    have hce : (b.code != 0) = false := by simpa using hc
    clear hc
    go_enter Try.func18, Try.ntmps18
    go_wp2_with fail
    refine (check_any b _).mono ?_
    rintro e w1 ⟨rfl, hb1⟩
    obtain ⟨hc1, hf1⟩ := bcell hb1
    have hz1 : w.heap.size < w1.heap.size ∧ w.heap.size + 1 < w1.heap.size := by have := hb1.size; simp at this; omega
    obtain ⟨hz1, hz2⟩ := hz1
    go_wp2_with fail
    refine (run_half b _ HC.out).mono ?_
    rintro e w2 ⟨v, he, hrow, hb2⟩
    simp only [Deal.v] at he
    subst he
    obtain ⟨hc2, hf2⟩ := bcell hb2
    have hz3 : w.heap.size < w2.heap.size ∧ w.heap.size + 1 < w2.heap.size := by have := hb2.size; omega
    obtain ⟨hz3, hz4⟩ := hz3
    have hz5 : ¬ w.heap.size + 1 = w2.heap.size := by omega
    go_wp2_with fail
    go_region
    go_wp2_with fail
    exact bodyPost_ret (v := .tuple #[v, (deal b true).v, .int .i64 0]) (by simp [results, Try.results18, go_sem, hc2, hc1, hz1, hz2, hz4, hz5]) rfl
      (RunRes.good HC.out ((ownsRow_set_ne (ownsRow_set_ne (ownsRow_set_ne (ownsRow_set_ne hrow hz2) hz2) hz2) hz2).alloc _).drew (by omega)
        ((((((bcall (bcall (((Below.refl _ _).alloc (Nat.le_refl _) _).alloc (by simp) _) (by simp; omega) hb1) (by omega) hb2).setCell (by simp) _).setCell (by simp) _).setCell (by simp) _).setCell (by simp) _).alloc (by simp; omega) _).drew)
  · have HC := Lib.hid hc
    have hce : (b.code != 0) = true := by simpa using hc
    clear hc
    go_enter Try.func18, Try.ntmps18
    go_wp2_with fail
    refine (check_any b _).mono ?_
    rintro e w1 ⟨rfl, hb1⟩
    obtain ⟨hc1, hf1⟩ := bcell hb1
    have hz1 : w.heap.size < w1.heap.size ∧ w.heap.size + 1 < w1.heap.size := by have := hb1.size; simp at this; omega
    obtain ⟨hz1, hz2⟩ := hz1
    go_wp2_with fail
    exact bodyPost_ret (v := .tuple #[.slice none 0 0, .agg #[.bool false, .int .i64 0, .int .i64 0, .int .u8 0], .int .i64 b.code]) (by simp [results, Try.results18, go_sem, hc1, hz1, hz2]) rfl
      (RunRes.bad HC.out (((((bcall (((Below.refl _ _).alloc (Nat.le_refl _) _).alloc (by simp) _) (by simp; omega) hb1).setCell (by simp) _).setCell (by simp) _).setCell (by simp) _).setCell (by simp) _))

set_option maxHeartbeats 1000000 in
theorem Run_ref (b : Bg) (w : World) : Calls Try.prog 17 #[b.v] w (RunRes b false w) := by
  by_cases hc : b.code = 0
  · have HC := Lib.hid hc
    have hce : (b.code != 0) = false := by simpa using hc
    clear hc
    go_enter Try.func17, Try.ntmps17
    go_wp2_with fail
    refine (check_ref b _).mono ?_
    rintro e w1 ⟨rfl, hb1⟩
    obtain ⟨hc1, hf1⟩ := bcell hb1
    have hz1 : w.heap.size < w1.heap.size ∧ w.heap.size + 1 < w1.heap.size := by have := hb1.size; simp at this; omega
    obtain ⟨hz1, hz2⟩ := hz1
    go_wp2_with fail
    refine (refrun_plain b _ HC.out).mono ?_
    rintro e w2 ⟨v, he, hrow, hb2⟩
    simp only [Deal.v] at he
    subst he
    obtain ⟨hc2, hf2⟩ := bcell hb2
    have hz3 : w.heap.size < w2.heap.size ∧ w.heap.size + 1 < w2.heap.size := by have := hb2.size; omega
    obtain ⟨hz3, hz4⟩ := hz3
    have hz5 : ¬ w.heap.size + 1 = w2.heap.size := by omega
    go_wp2_with fail
    go_region
    go_wp2_with fail
    exact bodyPost_ret (v := .tuple #[v, (deal b false).v, .int .i64 0]) (by simp [results, Try.results17, go_sem, hc2, hc1, hz1, hz2, hz4, hz5]) rfl
      (RunRes.good HC.out ((ownsRow_set_ne (ownsRow_set_ne (ownsRow_set_ne (ownsRow_set_ne hrow hz2) hz2) hz2) hz2).alloc _).drew (by omega)
        ((((((bcall (bcall (((Below.refl _ _).alloc (Nat.le_refl _) _).alloc (by simp) _) (by simp; omega) hb1) (by omega) hb2).setCell (by simp) _).setCell (by simp) _).setCell (by simp) _).setCell (by simp) _).alloc (by simp; omega) _).drew)
  · have HC := Lib.hid hc
    have hce : (b.code != 0) = true := by simpa using hc
    clear hc
    go_enter Try.func17, Try.ntmps17
    go_wp2_with fail
    refine (check_ref b _).mono ?_
    rintro e w1 ⟨rfl, hb1⟩
    obtain ⟨hc1, hf1⟩ := bcell hb1
    have hz1 : w.heap.size < w1.heap.size ∧ w.heap.size + 1 < w1.heap.size := by have := hb1.size; simp at this; omega
    obtain ⟨hz1, hz2⟩ := hz1
    go_wp2_with fail
    exact bodyPost_ret (v := .tuple #[.slice none 0 0, .agg #[.bool false, .int .i64 0, .int .i64 0, .int .u8 0], .int .i64 8]) (by simp [results, Try.results17, go_sem, hc1, hz1, hz2]) rfl
      (RunRes.bad8 HC.out (((((bcall (((Below.refl _ _).alloc (Nat.le_refl _) _).alloc (by simp) _) (by simp; omega) hb1).setCell (by simp) _).setCell (by simp) _).setCell (by simp) _).setCell (by simp) _))

set_option maxHeartbeats 1000000 in
theorem Mediate_ref (b : Bg) (w : World) : Calls Try.prog 19 #[b.v] w (RunRes b true w) := by
  by_cases hc : b.code = 0
  · have HC := Lib.hid hc
    have hce : (b.code != 0) = false := by simpa using hc
    clear hc
    go_enter Try.func19, Try.ntmps19
    go_wp2_with fail
    refine (check_ref b _).mono ?_
    rintro e w1 ⟨rfl, hb1⟩
    obtain ⟨hc1, hf1⟩ := bcell hb1
    have hz1 : w.heap.size < w1.heap.size ∧ w.heap.size + 1 < w1.heap.size := by have := hb1.size; simp at this; omega
    obtain ⟨hz1, hz2⟩ := hz1
    go_wp2_with fail
    refine (refrun_med b _ HC.out).mono ?_
    rintro e w2 ⟨v, he, hrow, hb2⟩
    simp only [Deal.v] at he
    subst he
    obtain ⟨hc2, hf2⟩ := bcell hb2
    have hz3 : w.heap.size < w2.heap.size ∧ w.heap.size + 1 < w2.heap.size := by have := hb2.size; omega
    obtain ⟨hz3, hz4⟩ := hz3
    have hz5 : ¬ w.heap.size + 1 = w2.heap.size := by omega
    go_wp2_with fail
    go_region
    go_wp2_with fail
    exact bodyPost_ret (v := .tuple #[v, (deal b true).v, .int .i64 0]) (by simp [results, Try.results19, go_sem, hc2, hc1, hz1, hz2, hz4, hz5]) rfl
      (RunRes.good HC.out ((ownsRow_set_ne (ownsRow_set_ne (ownsRow_set_ne (ownsRow_set_ne hrow hz2) hz2) hz2) hz2).alloc _).drew (by omega)
        ((((((bcall (bcall (((Below.refl _ _).alloc (Nat.le_refl _) _).alloc (by simp) _) (by simp; omega) hb1) (by omega) hb2).setCell (by simp) _).setCell (by simp) _).setCell (by simp) _).setCell (by simp) _).alloc (by simp; omega) _).drew)
  · have HC := Lib.hid hc
    have hce : (b.code != 0) = true := by simpa using hc
    clear hc
    go_enter Try.func19, Try.ntmps19
    go_wp2_with fail
    refine (check_ref b _).mono ?_
    rintro e w1 ⟨rfl, hb1⟩
    obtain ⟨hc1, hf1⟩ := bcell hb1
    have hz1 : w.heap.size < w1.heap.size ∧ w.heap.size + 1 < w1.heap.size := by have := hb1.size; simp at this; omega
    obtain ⟨hz1, hz2⟩ := hz1
    go_wp2_with fail
    exact bodyPost_ret (v := .tuple #[.slice none 0 0, .agg #[.bool false, .int .i64 0, .int .i64 0, .int .u8 0], .int .i64 8]) (by simp [results, Try.results19, go_sem, hc1, hz1, hz2]) rfl
      (RunRes.bad8 HC.out (((((bcall (((Below.refl _ _).alloc (Nat.le_refl _) _).alloc (by simp) _) (by simp; omega) hb1).setCell (by simp) _).setCell (by simp) _).setCell (by simp) _).setCell (by simp) _))

end Go.Proofs.Ytigphmocjgojhaa
