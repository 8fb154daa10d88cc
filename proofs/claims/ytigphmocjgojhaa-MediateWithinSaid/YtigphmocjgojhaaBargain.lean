/- A bargain's offers and its end, in plain Lean: prices, where it stops, and by what deal. No program in sight. -/
import Derived.Test.YtigphmocjgojhaaPlain
namespace Go.Proofs.Ytigphmocjgojhaa
set_option linter.unusedVariables false
set_option linter.unusedSimpArgs false

/-- The price of offer n, were there no end. -/
def pr (b : Bg) : Nat → Int
  | 0 => b.s.f
  | 1 => b.b.f
  | n + 2 => nxt (if n % 2 = 0 then b.s else b.b) (pr b n)

structure Deal where
  made : Bool
  price : Int
  after : Int
  by' : Int

def halfP (b : Bg) (n : Nat) : Int := (pr b (n - 1) + pr b (n - 2)) / 2
def zoneB (b : Bg) (p : Int) : Bool := decide (b.s.l ≤ p) && decide (p ≤ b.b.l)
def accAt (b : Bg) (n : Nat) : Bool := if n % 2 = 1 then decide (pr b (n - 1) ≤ pr b n) else decide (pr b n ≤ pr b (n - 1))
/-- Does the bargain stop when n offers were made, and how? -/
def stop (b : Bg) (med : Bool) (n : Nat) : Option Deal :=
  if med = true ∧ 0 < n ∧ n % 2 = 0 ∧ zoneB b (halfP b n) = true then some ⟨true, halfP b n, n, 2⟩
  else if (n : Int) = b.o then some ⟨false, 0, 0, 0⟩
  else if 0 < n ∧ accAt b n = true then some ⟨true, pr b (n - 1), n, (n % 2 : Nat)⟩
  else none
def endFrom (b : Bg) (med : Bool) : Nat → Nat → Nat
  | 0, n => n
  | k + 1, n => if (stop b med n).isSome then n else endFrom b med k (n + 1)
def endN (b : Bg) (med : Bool) : Nat := endFrom b med b.o.toNat 0
def deal (b : Bg) (med : Bool) : Deal := (stop b med (endN b med)).getD ⟨false, 0, 0, 0⟩

theorem code_iff (b : Bg) : b.code = 0 ↔ b.s.ok = true ∧ b.b.ok = true ∧ b.s.l ≤ b.s.f ∧ b.b.f ≤ b.b.l ∧ 1 ≤ b.o ∧ b.o ≤ 1000 := by
  unfold Bg.code; split <;> simp_all

/-- The stance of the party that makes offer n. -/
def sta (b : Bg) (n : Nat) : St := if n % 2 = 0 then b.s else b.b

theorem nxt_down {s : St} {p : Int} (hok : s.ok = true) (h1 : s.l ≤ p) : s.l ≤ nxt s p ∧ nxt s p ≤ p ∧ (10 * (nxt s p - s.l) ≤ 9 * (p - s.l)) := by
  obtain ⟨_, _, h5, h6, h7⟩ := (ok_iff s).1 hok
  have := left_eq (x := p - s.l) (by omega) h5 h6 h7
  rw [nxt_ge h1 (by omega) h6]; omega
theorem nxt_up {s : St} {p : Int} (hok : s.ok = true) (h1 : p ≤ s.l) : nxt s p ≤ s.l ∧ p ≤ nxt s p ∧ (10 * (s.l - nxt s p) ≤ 9 * (s.l - p)) := by
  obtain ⟨_, _, h5, h6, h7⟩ := (ok_iff s).1 hok
  have := left_eq (x := s.l - p) (by omega) h5 h6 h7
  rw [nxt_le h1 h6]; omega

theorem pr_bd {b : Bg} (hc : b.code = 0) : ∀ n, (n % 2 = 0 → b.s.l ≤ pr b n ∧ pr b n ≤ b.s.f) ∧ (n % 2 = 1 → b.b.f ≤ pr b n ∧ pr b n ≤ b.b.l)
  | 0 => by
    obtain ⟨_, _, h3, h4, _⟩ := (code_iff b).1 hc
    simp [pr, h3]
  | 1 => by
    obtain ⟨_, _, h3, h4, _⟩ := (code_iff b).1 hc
    simp [pr, h4]
  | n + 2 => by
    obtain ⟨h1, h2, h3, h4, _⟩ := (code_iff b).1 hc
    obtain ⟨i1, i2⟩ := pr_bd hc n
    refine ⟨fun hn => ?_, fun hn => ?_⟩
    · obtain ⟨j1, j2⟩ := i1 (by omega)
      have := nxt_down (p := pr b n) h1 j1
      simp only [pr, if_pos (show n % 2 = 0 by omega)]; omega
    · obtain ⟨j1, j2⟩ := i2 (by omega)
      have := nxt_up (p := pr b n) h2 j2
      simp only [pr, if_neg (show ¬ n % 2 = 0 by omega)]; omega

theorem pr_rng {b : Bg} (hc : b.code = 0) (n : Nat) : 0 ≤ pr b n ∧ pr b n ≤ 1000000000 := by
  obtain ⟨h1, h2, h3, h4, _⟩ := (code_iff b).1 hc
  have a := (ok_iff b.s).1 h1
  have c := (ok_iff b.b).1 h2
  have := pr_bd hc n
  rcases Nat.mod_two_eq_zero_or_one n with h | h
  · have := this.1 h; omega
  · have := this.2 h; omega

theorem pr_next {b : Bg} (hc : b.code = 0) (n : Nat) : inW (sta b n) (pr b n) = true ∧ nextV (sta b n) (pr b n) = pr b (n + 2) ∧ nextC (sta b n) (pr b n) = 0 ∧ (sta b n).ok = true := by
  obtain ⟨h1, h2, h3, h4, _⟩ := (code_iff b).1 hc
  have hb := pr_bd hc n
  have hok : (sta b n).ok = true := by unfold sta; split <;> assumption
  have hw : inW (sta b n) (pr b n) = true := by
    rcases Nat.mod_two_eq_zero_or_one n with h | h
    · have := hb.1 h
      rw [show sta b n = b.s by simp [sta, h]]
      simp only [inW, Bool.and_eq_true, decide_eq_true_eq]; omega
    · have := hb.2 h
      rw [show sta b n = b.b by simp [sta, h]]
      simp only [inW, Bool.and_eq_true, decide_eq_true_eq]; omega
  exact ⟨hw, by rw [nextV, if_pos ⟨hok, hw⟩, pr, sta], by simp [nextC, hok, hw], hok⟩

theorem endFrom_stop {b : Bg} {med : Bool} : ∀ (k n : Nat), (∀ i, i < n → stop b med i = none) → ∀ m, n ≤ m → m ≤ n + k → (∀ i, i < m → stop b med i = none) → (stop b med m).isSome → endFrom b med k n = m
  | 0, n, _, m, h1, h2, _, _ => by simp [endFrom]; omega
  | k + 1, n, hn, m, h1, h2, hm, hs => by
    by_cases h : n = m
    · subst h; simp [endFrom, hs]
    · have h0 := hm n (by omega)
      simp only [endFrom, h0]
      exact endFrom_stop k (n + 1) (fun i hi => hm i (by omega)) m (by omega) (by omega) hm hs

/-- Where it first stops, it ends. -/
theorem endN_eq {b : Bg} {med : Bool} {n : Nat} (hn : (n : Int) ≤ b.o) (h : ∀ i, i < n → stop b med i = none) (hs : (stop b med n).isSome) : endN b med = n :=
  endFrom_stop _ 0 (fun i hi => by omega) n (by omega) (by omega) h hs

theorem stop_o (b : Bg) (med : Bool) (n : Nat) (h : (n : Int) = b.o) : (stop b med n).isSome := by
  unfold stop; split <;> simp [h]

/-- There is an end, within the offers. -/
theorem endN_spec (b : Bg) (med : Bool) (ho : 0 ≤ b.o) : (endN b med : Int) ≤ b.o ∧ (∀ i, i < endN b med → stop b med i = none) ∧ (stop b med (endN b med)).isSome := by
  have key : ∀ k n : Nat, (n : Int) + k = b.o → (∀ i, i < n → stop b med i = none) → ∃ m : Nat, (m : Int) ≤ b.o ∧ (∀ i, i < m → stop b med i = none) ∧ (stop b med m).isSome := by
    intro k
    induction k with
    | zero => intro n hn h; exact ⟨n, by omega, h, stop_o _ _ _ (by omega)⟩
    | succ k ih =>
      intro n hn h
      by_cases hs : (stop b med n).isSome
      · exact ⟨n, by omega, h, hs⟩
      · exact ih (n + 1) (by omega) (fun i hi => by
          by_cases hi' : i < n
          · exact h i hi'
          · have : i = n := by omega
            subst this; simpa using hs)
  obtain ⟨m, h1, h2, h3⟩ := key b.o.toNat 0 (by omega) (fun i hi => by omega)
  rw [endN_eq h1 h2 h3]; exact ⟨h1, h2, h3⟩

end Go.Proofs.Ytigphmocjgojhaa
