/- The consequences of a bargain, in plain Lean: fewer offers, moved prices, agreements within both limits. No program in sight. -/
import Derived.Test.YtigphmocjgojhaaBargain
namespace Go.Proofs.Ytigphmocjgojhaa
set_option linter.unusedVariables false
set_option linter.unusedSimpArgs false

/-! ### Fewer offers -/
def Bg.few (b : Bg) (n : Int) : Bg := ⟨b.s, b.b, n⟩

theorem few_pr (b : Bg) (m : Int) : ∀ n, pr (b.few m) n = pr b n
  | 0 => rfl
  | 1 => rfl
  | n + 2 => by simp only [pr, few_pr b m n]; rfl

theorem few_acc (b : Bg) (m : Int) (n : Nat) : accAt (b.few m) n = accAt b n := by simp [accAt, few_pr]
theorem few_half (b : Bg) (m : Int) (n : Nat) : halfP (b.few m) n = halfP b n := by simp [halfP, few_pr]
theorem few_zone (b : Bg) (m p : Int) : zoneB (b.few m) p = zoneB b p := rfl

theorem few_code {b : Bg} {m : Int} (hc : b.code = 0) (h1 : 1 ≤ m) (h2 : m ≤ b.o) : (b.few m).code = 0 := by
  obtain ⟨a1, a2, a3, a4, a5, a6⟩ := (code_iff b).1 hc
  exact (code_iff _).2 ⟨a1, a2, a3, a4, h1, by simp [Bg.few]; omega⟩

theorem few_stop {b : Bg} {med : Bool} {m : Int} {n : Nat} (h : (n : Int) < m) (h2 : m ≤ b.o) : stop (b.few m) med n = stop b med n := by
  have e1 : ¬ (n : Int) = m := by omega
  have e2 : ¬ (n : Int) = b.o := by omega
  simp only [stop, few_half, few_zone, few_acc, few_pr]
  rw [show (b.few m).o = m from rfl, if_neg e1, if_neg e2]

theorem few_end {b : Bg} {med : Bool} {m : Nat} (h0 : 0 ≤ b.o) (h2 : (m : Int) ≤ b.o) : endN (b.few m) med = min m (endN b med) := by
  obtain ⟨i1, i2, i3⟩ := endN_spec b med h0
  by_cases h : endN b med < m
  · rw [Nat.min_eq_right (by omega)]
    refine endN_eq (by simp [Bg.few]; omega) (fun i hi => ?_) ?_
    · rw [few_stop (by omega) h2]; exact i2 i hi
    · rw [few_stop (by omega) h2]; exact i3
  · rw [Nat.min_eq_left (by omega)]
    refine endN_eq (by simp [Bg.few]) (fun i hi => ?_) (stop_o _ _ _ rfl)
    rw [few_stop (by omega) h2]; exact i2 i (by omega)

/-- What a stop can be. -/
theorem stop_cases {b : Bg} {med : Bool} {n : Nat} {d : Deal} (h : stop b med n = some d) :
    (med = true ∧ 0 < n ∧ n % 2 = 0 ∧ zoneB b (halfP b n) = true ∧ d = ⟨true, halfP b n, n, 2⟩) ∨
    (¬ (med = true ∧ 0 < n ∧ n % 2 = 0 ∧ zoneB b (halfP b n) = true) ∧ (n : Int) = b.o ∧ d = ⟨false, 0, 0, 0⟩) ∨
    (¬ (med = true ∧ 0 < n ∧ n % 2 = 0 ∧ zoneB b (halfP b n) = true) ∧ (n : Int) ≠ b.o ∧ 0 < n ∧ accAt b n = true ∧ d = ⟨true, pr b (n - 1), n, (n % 2 : Nat)⟩) := by
  unfold stop at h
  split at h
  · rename_i h1; simp only [Option.some.injEq] at h; exact Or.inl ⟨h1.1, h1.2.1, h1.2.2.1, h1.2.2.2, h.symm⟩
  · rename_i h1
    split at h
    · rename_i h2; simp only [Option.some.injEq] at h; exact Or.inr (Or.inl ⟨h1, h2, h.symm⟩)
    · rename_i h2
      split at h
      · rename_i h3; simp only [Option.some.injEq] at h; exact Or.inr (Or.inr ⟨h1, h2, h3.1, h3.2, h.symm⟩)
      · simp at h

theorem deal_stop (b : Bg) (med : Bool) (ho : 0 ≤ b.o) : stop b med (endN b med) = some (deal b med) := by
  have := (endN_spec b med ho).2.2
  rw [deal]; cases hs : stop b med (endN b med) with
  | none => rw [hs] at this; simp at this
  | some d => rfl

/-- If the one with fewer offers has a deal, it is the other's. -/
theorem few_deal1 {b : Bg} {med : Bool} {m : Nat} (h0 : 0 ≤ b.o) (h2 : (m : Int) ≤ b.o) (hm : (deal (b.few m) med).made = true) : deal (b.few m) med = deal b med := by
  have e := few_end (med := med) h0 h2
  have s1 := deal_stop (b.few m) med (by simp [Bg.few])
  have s2 := deal_stop b med h0
  by_cases h : endN b med < m
  · rw [e, Nat.min_eq_right (by omega), few_stop (by omega) h2, s2] at s1
    simpa using s1.symm
  · rw [e, Nat.min_eq_left (by omega)] at s1
    rcases stop_cases s1 with ⟨a1, a2, a3, a4, a5⟩ | ⟨_, _, a5⟩ | ⟨_, a2, _⟩
    · have hs : stop b med m = some ⟨true, halfP b m, m, 2⟩ := by
        unfold stop; rw [if_pos ⟨a1, a2, a3, by rw [few_half, few_zone] at a4; exact a4⟩]
      have he : endN b med = m := endN_eq h2 (fun i hi => (endN_spec b med h0).2.1 i (by omega)) (by simp [hs])
      rw [he, hs] at s2
      rw [a5, few_half]; simpa using s2
    · rw [a5] at hm; simp at hm
    · exact absurd rfl a2

/-- If the other's deal was made by then, it is the same. -/
theorem few_deal2 {b : Bg} {med : Bool} {m : Nat} (h0 : 0 ≤ b.o) (h2 : (m : Int) ≤ b.o) (h : endN b med < m) : deal (b.few m) med = deal b med := by
  have e := few_end (med := med) h0 h2
  have s1 := deal_stop (b.few m) med (by simp [Bg.few])
  rw [e, Nat.min_eq_right (by omega), few_stop (by omega) h2, deal_stop b med h0] at s1
  simpa using s1.symm
theorem few_deal3 {b : Bg} {med : Bool} {m : Nat} (h0 : 0 ≤ b.o) (h2 : (m : Int) ≤ b.o) (h : endN b med = m) (hm : (deal b med).by' = 2) : deal (b.few m) med = deal b med := by
  have e := few_end (med := med) h0 h2
  have s1 := deal_stop (b.few m) med (by simp [Bg.few])
  have s2 := deal_stop b med h0
  rw [e, h, Nat.min_self] at s1
  rw [h] at s2
  rcases stop_cases s2 with ⟨a1, a2, a3, a4, a5⟩ | ⟨_, _, a5⟩ | ⟨_, _, _, _, a5⟩
  · have : stop (b.few m) med m = some ⟨true, halfP b m, m, 2⟩ := by
      unfold stop; rw [if_pos ⟨a1, a2, a3, by rw [few_half, few_zone]; exact a4⟩, few_half]
    rw [this] at s1; rw [a5]; simpa using s1.symm
  · rw [a5] at hm; simp at hm
  · rw [a5] at hm
    simp only at hm; omega

/-- A deal that is made comes after as many offers as there are. -/
theorem deal_after {b : Bg} {med : Bool} (h0 : 0 ≤ b.o) (h : (deal b med).made = true) : (deal b med).after = endN b med := by
  rcases stop_cases (deal_stop b med h0) with ⟨_, _, _, _, a⟩ | ⟨_, _, a⟩ | ⟨_, _, _, _, a⟩
  · rw [a]
  · rw [a] at h; simp at h
  · rw [a]

/-! ### Moved prices -/
def St.mv (s : St) (x : Int) : St := ⟨s.f + x, s.l + x, s.n, s.d⟩
def Bg.mv (b : Bg) (x : Int) : Bg := ⟨b.s.mv x, b.b.mv x, b.o⟩

theorem mv_nxt (s : St) (p x : Int) : nxt (s.mv x) (p + x) = nxt s p + x := by
  simp only [nxt, St.mv]; rw [show s.l + x - (p + x) = s.l - p by omega]; omega
theorem mv_pr (b : Bg) (x : Int) : ∀ n, pr (b.mv x) n = pr b n + x
  | 0 => rfl
  | 1 => rfl
  | n + 2 => by
    simp only [pr, mv_pr b x n]
    rw [← mv_nxt]; congr 1; split <;> rfl
theorem mv_acc (b : Bg) (x : Int) (n : Nat) : accAt (b.mv x) n = accAt b n := by
  simp only [accAt, mv_pr, Int.add_le_add_iff_right]
theorem mv_half (b : Bg) (x : Int) (n : Nat) : halfP (b.mv x) n = halfP b n + x := by
  simp only [halfP, mv_pr]; omega
theorem mv_zone (b : Bg) (x p : Int) : zoneB (b.mv x) (p + x) = zoneB b p := by
  simp only [zoneB, Bg.mv, St.mv, Int.add_le_add_iff_right]
def Deal.mv (d : Deal) (x : Int) : Deal := if d.made then ⟨true, d.price + x, d.after, d.by'⟩ else d
theorem mv_stop (b : Bg) (med : Bool) (x : Int) (n : Nat) : stop (b.mv x) med n = (stop b med n).map (·.mv x) := by
  simp only [stop, mv_half, mv_zone, mv_acc, mv_pr]
  rw [show (b.mv x).o = b.o from rfl]
  split
  · rfl
  · split
    · rfl
    · split <;> rfl
theorem mv_end (b : Bg) (med : Bool) (x : Int) (h0 : 0 ≤ b.o) : endN (b.mv x) med = endN b med := by
  obtain ⟨i1, i2, i3⟩ := endN_spec b med h0
  exact endN_eq i1 (fun i hi => by rw [mv_stop, i2 i hi]; rfl) (by rw [mv_stop, Option.isSome_map]; exact i3)
theorem mv_deal (b : Bg) (med : Bool) (x : Int) (h0 : 0 ≤ b.o) : deal (b.mv x) med = (deal b med).mv x := by
  have s1 := deal_stop (b.mv x) med h0
  rw [mv_end b med x h0, mv_stop, deal_stop b med h0] at s1
  simpa using s1.symm

/-! ### Within both limits -/
/-- After k steps of its own a price is at most what k times nine tenths leave. -/
def shr : Nat → Nat → Nat
  | 0, x => x
  | k + 1, x => shr k (9 * x / 10)
theorem shr_mono : ∀ k x y, x ≤ y → shr k x ≤ shr k y
  | 0, _, _, h => h
  | k + 1, x, y, h => shr_mono k _ _ (by omega)
theorem shr_succ : ∀ k x, shr (k + 1) x = 9 * shr k x / 10
  | 0, x => rfl
  | k + 1, x => by rw [shr, shr_succ k]; rfl
theorem shr_end : shr 200 1000000000 = 0 := by decide +kernel

theorem pr_far {b : Bg} (hc : b.code = 0) : ∀ k, pr b (2 * k) - b.s.l ≤ shr k 1000000000 ∧ b.b.l - pr b (2 * k + 1) ≤ shr k 1000000000
  | 0 => by
    obtain ⟨h1, h2, h3, h4, _⟩ := (code_iff b).1 hc
    have a := (ok_iff b.s).1 h1
    have c := (ok_iff b.b).1 h2
    simp [pr, shr]; omega
  | k + 1 => by
    obtain ⟨h1, h2, h3, h4, _⟩ := (code_iff b).1 hc
    have ih := pr_far hc k
    have p1 := (pr_bd hc (2 * k)).1 (by omega)
    have p2 := (pr_bd hc (2 * k + 1)).2 (by omega)
    have d := nxt_down (p := pr b (2 * k)) h1 p1.1
    have u := nxt_up (p := pr b (2 * k + 1)) h2 p2.2
    rw [show 2 * (k + 1) = 2 * k + 2 by omega, show 2 * k + 2 + 1 = 2 * k + 1 + 2 by omega]
    simp only [pr]
    rw [if_pos (show 2 * k % 2 = 0 by omega), if_neg (show ¬ (2 * k + 1) % 2 = 0 by omega), shr_succ]
    generalize shr k 1000000000 = z at *
    omega

/-- With a zone, a bargain of a thousand offers ends in a deal. -/
theorem long_deal {b : Bg} (hc : b.code = 0) (ho : b.o = 1000) (hz : b.s.l ≤ b.b.l) (med : Bool) : (deal b med).made = true := by
  have h0 : 0 ≤ b.o := by omega
  obtain ⟨i1, i2, i3⟩ := endN_spec b med h0
  have f := pr_far hc 200
  rw [shr_end] at f
  have p0 := (pr_bd hc 400).1 (by omega)
  have p1 := (pr_bd hc 401).2 (by omega)
  have ha : accAt b 401 = true := by
    simp only [accAt]; rw [if_pos (by decide)]; simp only [decide_eq_true_eq]; show pr b 400 ≤ _; simp at f; omega
  have hs : stop b med 401 ≠ none := by
    unfold stop
    split
    · simp
    · split
      · simp
      · rw [if_pos ⟨by omega, ha⟩]; simp
  have hle : endN b med ≤ 401 := by
    rcases Nat.lt_or_ge 401 (endN b med) with h | h
    · exact absurd (i2 401 h) hs
    · exact h
  rcases stop_cases (deal_stop b med h0) with ⟨_, _, _, _, a⟩ | ⟨_, a2, a⟩ | ⟨_, _, _, _, a⟩
  · rw [a]
  · omega
  · rw [a]

/-- A deal's price is within both limits. -/
theorem deal_zone {b : Bg} (hc : b.code = 0) {med : Bool} (h : (deal b med).made = true) : b.s.l ≤ (deal b med).price ∧ (deal b med).price ≤ b.b.l := by
  have h0 : 0 ≤ b.o := by have := (code_iff b).1 hc; omega
  rcases stop_cases (deal_stop b med h0) with ⟨_, _, _, a4, a⟩ | ⟨_, a2, a⟩ | ⟨_, _, a3, a4, a⟩
  · rw [a]; simpa [zoneB] using a4
  · rw [a] at h; simp at h
  · rw [a]
    generalize endN b med = n at *
    have e : n - 1 + 1 = n := by omega
    have q0 := pr_bd hc (n - 1)
    have q1 := pr_bd hc n
    simp only [accAt] at a4
    split at a4
    · rename_i hp
      have := q0.1 (by omega); have := q1.2 hp
      simp only [decide_eq_true_eq] at a4
      simp only; omega
    · rename_i hp
      have := q0.2 (by omega); have := q1.1 (by omega)
      simp only [decide_eq_true_eq] at a4
      simp only; omega

theorem no_zone_no_deal {b : Bg} (hc : b.code = 0) {med : Bool} (hz : b.b.l < b.s.l) : (deal b med).made = false := by
  cases h : (deal b med).made with
  | false => rfl
  | true => have := deal_zone hc h; omega

end Go.Proofs.Ytigphmocjgojhaa
