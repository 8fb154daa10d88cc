/- Words of our own for ratios in memory, and numbers of two words. -/
import Derived.Test.YtgcbmnohhbcfiaaRtA
import Derived.Test.YtgcbmnohhbcfiaaRtSpec2
namespace Go.Proofs.Ytgcbmnohhbcfiaa
open Go.RowKit
set_option linter.unusedVariables false
set_option linter.unusedSimpArgs false

def hi64 (x : Int) : Int := x / 18446744073709551616
def lo64 (x : Int) : Int := x % 18446744073709551616
theorem lo64_bd (x : Int) : 0 ≤ lo64 x ∧ lo64 x ≤ 18446744073709551615 := by unfold lo64; omega
theorem hi64_bd {x : Int} (h : 0 ≤ x) (k : x < 340282366920938463463374607431768211456) : 0 ≤ hi64 x ∧ hi64 x ≤ 18446744073709551615 := by unfold hi64; omega
theorem hi_lo (x : Int) : hi64 x * 18446744073709551616 + lo64 x = x := by unfold hi64 lo64; omega

def borI (x y : Int) : Int := if x < y then 1 else 0
theorem borI_bd (x y : Int) : 0 ≤ borI x y ∧ borI x y ≤ 1 := by unfold borI; split <;> omega
/-- Two words, added, subtracted and compared. -/
theorem two_add {X Y : Int} (hX : 0 ≤ X) (hY : 0 ≤ Y) (k : X + Y < 340282366920938463463374607431768211456) : lo64 (lo64 X + lo64 Y) = lo64 (X + Y) ∧ lo64 (hi64 X + hi64 Y + hi64 (lo64 X + lo64 Y)) = hi64 (X + Y) := by unfold lo64 hi64; omega
theorem two_sub {X Y : Int} (hY : 0 ≤ Y) (h : Y ≤ X) (k : X < 340282366920938463463374607431768211456) : lo64 (lo64 X - lo64 Y) = lo64 (X - Y) ∧ lo64 (hi64 X - hi64 Y - borI (lo64 X) (lo64 Y)) = hi64 (X - Y) := by
  unfold borI lo64 hi64; split <;> omega
theorem gcdI_comm (x y : Int) : gcdI x y = gcdI y x := by unfold gcdI; rw [Int.gcd_comm]
theorem two_zero {X : Int} (h : hi64 X = 0) (k : lo64 X = 0) : X = 0 := by unfold hi64 at h; unfold lo64 at k; omega

theorem two_lt {X Y : Int} (h : X < Y) : hi64 X < hi64 Y ∨ (hi64 X = hi64 Y ∧ lo64 X < lo64 Y) := by unfold hi64 lo64; omega
theorem two_ge {X Y : Int} (h : ¬ X < Y) : hi64 Y < hi64 X ∨ (hi64 X = hi64 Y ∧ ¬ lo64 X < lo64 Y) := by unfold hi64 lo64; omega
theorem absI_mul {x y : Int} (h : 0 < y) : absI x * y = absI (x * y) := by
  unfold absI; rw [Int.natAbs_mul, Int.natCast_mul]; congr 1; omega
theorem mul_sign {x y : Int} (h : 0 < y) : (x < 0 ↔ x * y < 0) := by
  constructor
  · intro k; exact Int.mul_neg_of_neg_of_pos k h
  · intro k
    rcases Int.lt_or_le x 0 with h1 | h1
    · exact h1
    · have := Int.mul_nonneg h1 (show 0 ≤ y by omega); omega
/-- What the sum's two words are to be, and its sign. -/
structure MidOk (X Y s1 s2 : Int) : Prop where
  x : X = absI s1
  y : Y = absI s2
theorem MidOk.same {X Y s1 s2 : Int} (h : MidOk X Y s1 s2) (k : (s1 < 0 ↔ s2 < 0)) : X + Y = absI (s1 + s2) := by
  have := h.x; have := h.y; unfold absI at *; omega
theorem MidOk.diff1 {X Y s1 s2 : Int} (h : MidOk X Y s1 s2) (k : ¬ (s1 < 0 ↔ s2 < 0)) (l : X < Y) : Y - X = absI (s1 + s2) ∧ ((!decide (s1 < 0)) = decide (s1 + s2 < 0)) := by
  have := h.x; have := h.y; unfold absI at *
  refine ⟨by omega, ?_⟩
  by_cases e : s1 < 0 <;> simp [e] <;> omega
theorem MidOk.diff2 {X Y s1 s2 : Int} (h : MidOk X Y s1 s2) (k : ¬ (s1 < 0 ↔ s2 < 0)) (l : ¬ X < Y) : X - Y = absI (s1 + s2) ∧ (s1 + s2 ≠ 0 → decide (s1 < 0) = decide (s1 + s2 < 0)) := by
  have := h.x; have := h.y; unfold absI at *
  refine ⟨by omega, fun hne => ?_⟩
  by_cases e : s1 < 0 <;> simp [e] <;> omega
theorem MidOk.sgn {X Y s1 s2 : Int} (h : MidOk X Y s1 s2) (k : (s1 < 0 ↔ s2 < 0)) : s1 + s2 ≠ 0 → decide (s1 < 0) = decide (s1 + s2 < 0) := by
  have := h.x; have := h.y; unfold absI at *
  intro hne
  by_cases e : s1 < 0 <;> simp [e] <;> omega

/-- The boxes of two ratios, and a result's. -/
structure TwoIn (w : World) (a b : Rt) (wr : World) : Prop where
  below : Below w.heap.size w wr
  ba : wr.heap[w.heap.size]? = some (rB a)
  bb : wr.heap[w.heap.size + 1]? = some (rB b)
  r : wr.heap[w.heap.size + 2]? = some (rB ⟨0, 0⟩)
theorem TwoIn.next {w : World} {a b : Rt} {wr w1 : World} (h : TwoIn w a b wr) (hb : Below wr.heap.size wr w1) : TwoIn w a b w1 :=
  ⟨bcall h.below h.below.size hb, heap_ext h.ba hb, heap_ext h.bb hb, heap_ext h.r hb⟩
theorem TwoIn.start (w : World) (a b : Rt) : TwoIn w a b (((w.alloc (rB a)).alloc (rB b)).alloc (rB ⟨0, 0⟩)) :=
  ⟨((one_alloc w _).alloc (by simp) _).alloc (by simp; omega) _, heap_old (heap_old (heap_new rfl)), heap_old (heap_new (by simp)), heap_new (by simp)⟩
theorem TwoIn.end_ {w : World} {a b : Rt} {wr : World} (h : TwoIn w a b wr) (x y : Value) : Below w.heap.size w ((wr.setCell ⟨w.heap.size + 2, 0, none⟩ x).setCell ⟨w.heap.size + 2, 1, none⟩ y) :=
  (h.below.setCell (by simp) _).setCell (by simp) _
/-- The boxes of two ratios. -/
structure DuoIn (w : World) (a b : Rt) (wr : World) : Prop where
  below : Below w.heap.size w wr
  ba : wr.heap[w.heap.size]? = some (rB a)
  bb : wr.heap[w.heap.size + 1]? = some (rB b)
theorem DuoIn.next {w : World} {a b : Rt} {wr w1 : World} (h : DuoIn w a b wr) (hb : Below wr.heap.size wr w1) : DuoIn w a b w1 :=
  ⟨bcall h.below h.below.size hb, heap_ext h.ba hb, heap_ext h.bb hb⟩
theorem DuoIn.start (w : World) (a b : Rt) : DuoIn w a b ((w.alloc (rB a)).alloc (rB b)) :=
  ⟨(one_alloc w _).alloc (by simp) _, heap_old (heap_new rfl), heap_new (by simp)⟩

theorem TwoIn.setB {w : World} {a b : Rt} {wr : World} (h : TwoIn w a b wr) (z : Int) : TwoIn w a ⟨z, b.d⟩ (wr.setCell ⟨w.heap.size + 1, 0, none⟩ (.int .i64 z)) := by
  refine ⟨h.below.setCell (by simp) _, ?_, ?_, ?_⟩
  · rw [heap_set_ne (by omega)]; exact h.ba
  · rw [heap_set h.bb]; rfl
  · rw [heap_set_ne (by omega)]; exact h.r
end Go.Proofs.Ytgcbmnohhbcfiaa
