/- Bargains in plain Lean: stances, the next offer, and its bounds. No program in sight. -/
import Derived.WalkKit
namespace Go.Proofs.Ytigphmocjgojhaa
open Go.RowKit
set_option linter.unusedVariables false
set_option linter.unusedSimpArgs false

def priceB (n : Int) : Bool := decide (0 ≤ n) && decide (n ≤ 1000000000)

structure St where
  f : Int
  l : Int
  n : Int
  d : Int
structure Bg where
  s : St
  b : St
  o : Int

abbrev St.v (s : St) : Value := .agg #[.int .i64 s.f, .int .i64 s.l, .int .i64 s.n, .int .i64 s.d]
abbrev Bg.v (b : Bg) : Value := .agg #[.int .i64 b.s.f, .int .i64 b.s.l, .int .i64 b.s.n, .int .i64 b.s.d, .int .i64 b.b.f, .int .i64 b.b.l, .int .i64 b.b.n, .int .i64 b.b.d, .int .i64 b.o]

def St.ok (s : St) : Bool := priceB s.f && priceB s.l && decide (1 ≤ s.n) && decide (s.n ≤ s.d) && decide (s.d ≤ 10)
def Bg.code (b : Bg) : Int := if b.s.ok = true ∧ b.b.ok = true ∧ b.s.l ≤ b.s.f ∧ b.b.f ≤ b.b.l ∧ 1 ≤ b.o ∧ b.o ≤ 1000 then 0 else 8
def Bg.zlo (b : Bg) : Int := if b.code ≠ 0 then 0 else if b.s.l > b.b.l then 0 else b.s.l
def Bg.zhi (b : Bg) : Int := if b.code ≠ 0 then 0 else if b.s.l > b.b.l then 0 else b.b.l
def Bg.zcode (b : Bg) : Int := if b.code ≠ 0 then 8 else if b.s.l > b.b.l then 6 else 0

def nxt (s : St) (p : Int) : Int := s.l - ((s.l - p) * (s.d - s.n)).tdiv s.d
def inW (s : St) (p : Int) : Bool := decide (min s.f s.l ≤ p) && decide (p ≤ max s.f s.l)
def nextV (s : St) (p : Int) : Int := if s.ok = true ∧ inW s p = true then nxt s p else 0
def nextC (s : St) (p : Int) : Int := if s.ok = true then (if inW s p = true then 0 else 2) else 8

theorem ok_iff (s : St) : s.ok = true ↔ (0 ≤ s.f ∧ s.f ≤ 1000000000) ∧ (0 ≤ s.l ∧ s.l ≤ 1000000000) ∧ 1 ≤ s.n ∧ s.n ≤ s.d ∧ s.d ≤ 10 := by
  simp [St.ok, priceB, and_assoc]

theorem code_cases (b : Bg) : b.code = 0 ∨ b.code = 8 := by unfold Bg.code; split <;> simp

theorem d_cases {d : Int} (h1 : 1 ≤ d) (h2 : d ≤ 10) : d = 1 ∨ d = 2 ∨ d = 3 ∨ d = 4 ∨ d = 5 ∨ d = 6 ∨ d = 7 ∨ d = 8 ∨ d = 9 ∨ d = 10 := by omega

/-- The product in 'Next' fits. -/
theorem prod_bd {x m : Int} (hx : -1000000000 ≤ x) (hx' : x ≤ 1000000000) (hm : 0 ≤ m) (hm' : m ≤ 10) : -10000000000 ≤ x * m ∧ x * m ≤ 10000000000 := by
  have : m = 0 ∨ m = 1 ∨ m = 2 ∨ m = 3 ∨ m = 4 ∨ m = 5 ∨ m = 6 ∨ m = 7 ∨ m = 8 ∨ m = 9 ∨ m = 10 := by omega
  rcases this with rfl | rfl | rfl | rfl | rfl | rfl | rfl | rfl | rfl | rfl | rfl <;> omega

theorem tdiv_bd {a d : Int} (h1 : -10000000000 ≤ a) (h2 : a ≤ 10000000000) (hd : 1 ≤ d) (hd2 : d ≤ 10) : -10000000000 ≤ a.tdiv d ∧ a.tdiv d ≤ 10000000000 := by
  by_cases h : 0 ≤ a
  · rw [Int.tdiv_eq_ediv_of_nonneg h]
    rcases d_cases hd hd2 with rfl | rfl | rfl | rfl | rfl | rfl | rfl | rfl | rfl | rfl <;> omega
  · obtain ⟨b, rfl⟩ : ∃ b, a = -b := ⟨-a, by omega⟩
    rw [Int.neg_tdiv, Int.tdiv_eq_ediv_of_nonneg (by omega)]
    rcases d_cases hd hd2 with rfl | rfl | rfl | rfl | rfl | rfl | rfl | rfl | rfl | rfl <;> omega

/-- Above the limit: the next price, in divisions that round down. -/
theorem nxt_ge {s : St} {p : Int} (hp : s.l ≤ p) (hd : 1 ≤ s.d) (hn : s.n ≤ s.d) : nxt s p = s.l + ((p - s.l) * (s.d - s.n)) / s.d := by
  unfold nxt
  have : (s.l - p) * (s.d - s.n) = -((p - s.l) * (s.d - s.n)) := by rw [← Int.neg_mul]; congr 1; omega
  rw [this, Int.neg_tdiv, Int.tdiv_eq_ediv_of_nonneg (Int.mul_nonneg (by omega) (by omega))]; omega

theorem nxt_le {s : St} {p : Int} (hp : p ≤ s.l) (hn : s.n ≤ s.d) : nxt s p = s.l - ((s.l - p) * (s.d - s.n)) / s.d := by
  unfold nxt
  rw [Int.tdiv_eq_ediv_of_nonneg (Int.mul_nonneg (by omega) (by omega))]

/-- What is left of a way of x: its bounds, and the step as the reference has it. -/
theorem left_eq {x n d : Int} (hx : 0 ≤ x) (h1 : 1 ≤ n) (h2 : n ≤ d) (h3 : d ≤ 10) :
    0 ≤ x * (d - n) / d ∧ 10 * (x * (d - n) / d) ≤ 9 * x ∧ (x * n + d - 1) / d = x - x * (d - n) / d := by
  rcases d_cases (by omega) h3 with rfl | rfl | rfl | rfl | rfl | rfl | rfl | rfl | rfl | rfl <;>
    (have hn : n = 1 ∨ n = 2 ∨ n = 3 ∨ n = 4 ∨ n = 5 ∨ n = 6 ∨ n = 7 ∨ n = 8 ∨ n = 9 ∨ n = 10 := by omega
     rcases hn with rfl | rfl | rfl | rfl | rfl | rfl | rfl | rfl | rfl | rfl <;> omega)

theorem step_bd {x n d : Int} (hx : 0 ≤ x) (hx2 : x ≤ 1000000000) (h1 : 1 ≤ n) (h2 : n ≤ d) (h3 : d ≤ 10) : 0 ≤ x * n ∧ x * n ≤ 10000000000 ∧ 0 ≤ (x * n + d - 1) / d ∧ (x * n + d - 1) / d ≤ x := by
  have := left_eq hx h1 h2 h3
  have hb := prod_bd (x := x) (m := n) (by omega) hx2 (by omega) (by omega)
  exact ⟨Int.mul_nonneg hx (by omega), hb.2, by omega, by omega⟩

/-- The reference's next offer is the program's. -/
theorem ref_nxt {s : St} {p : Int} (h1 : 1 ≤ s.n) (h2 : s.n ≤ s.d) (h3 : s.d ≤ 10) :
    (if s.l < p then p - (max (s.l - p) (p - s.l) * s.n + s.d - 1) / s.d else p + (max (s.l - p) (p - s.l) * s.n + s.d - 1) / s.d) = nxt s p := by
  by_cases h : s.l < p
  · have e : max (s.l - p) (p - s.l) = p - s.l := by omega
    have := left_eq (x := p - s.l) (by omega) h1 h2 h3
    rw [if_pos h, nxt_ge (by omega) (by omega) h2, e, this.2.2]; omega
  · have e : max (s.l - p) (p - s.l) = s.l - p := by omega
    have := left_eq (x := s.l - p) (by omega) h1 h2 h3
    rw [if_neg h, nxt_le (by omega) h2, e, this.2.2]; omega

end Go.Proofs.Ytigphmocjgojhaa
