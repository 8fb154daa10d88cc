/- The mathematics of ratios: no program in sight. -/
import Derived.Test.YtgcbmnohhbcfiaaPlain
namespace Go.Proofs.Ytgcbmnohhbcfiaa
set_option linter.unusedVariables false
set_option linter.unusedSimpArgs false

/-- A ratio: two numbers. -/
structure Rt where
  n : Int
  d : Int
theorem Rt.ext_ {a b : Rt} (h : a.n = b.n) (k : a.d = b.d) : a = b := by cases a; cases b; simp_all
instance : DecidableEq Rt := fun a b => if h : a.n = b.n ∧ a.d = b.d then isTrue (Rt.ext_ h.1 h.2) else isFalse (fun e => h (by subst e; exact ⟨rfl, rfl⟩))
def absI (a : Int) : Int := (a.natAbs : Int)
def gcdI (a b : Int) : Int := (Int.gcd a b : Int)
def maxI (a b : Int) : Int := if a < b then b else a
theorem absI_nonneg (a : Int) : 0 ≤ absI a := by unfold absI; omega
theorem absI_pos {a : Int} (h : 0 ≤ a) : absI a = a := by unfold absI; omega
theorem absI_neg {a : Int} (h : a < 0) : absI a = -a := by unfold absI; omega
theorem absI_lt {a : Int} (h : -9223372036854775808 ≤ a) (k : a ≤ 9223372036854775807) : absI a ≤ 9223372036854775808 := by unfold absI; omega
theorem gcdI_nonneg (a b : Int) : 0 ≤ gcdI a b := by unfold gcdI; omega
theorem gcdI_zero {a : Int} (h : 0 ≤ a) : gcdI a 0 = a := by unfold gcdI; rw [Int.gcd_zero_right]; omega
theorem gcdI_step {a b : Int} (h : 0 ≤ a) (k : 0 ≤ b) : gcdI b (a % b) = gcdI a b := by
  obtain ⟨a, rfl⟩ := Int.eq_ofNat_of_zero_le h
  obtain ⟨b, rfl⟩ := Int.eq_ofNat_of_zero_le k
  unfold gcdI
  rw [← Int.natCast_emod, Int.gcd_natCast_natCast, Int.gcd_natCast_natCast, Nat.gcd_comm b, ← Nat.gcd_rec, Nat.gcd_comm]
theorem gcdI_abs (a b : Int) : gcdI (absI a) b = gcdI a b := by
  unfold gcdI absI Int.gcd; simp
theorem gcdI_le {a b : Int} (h : 0 < b) : gcdI a b ≤ b := by
  unfold gcdI
  exact Int.gcd_le_right a h
theorem gcdI_pos {a b : Int} (h : 0 < b) : 0 < gcdI a b := by
  unfold gcdI
  have := Int.gcd_pos_of_ne_zero_right (a := a) (show b ≠ 0 by omega)
  omega

/-- The two numbers are of 64 bits. -/
structure Rt.wf (a : Rt) : Prop where
  n0 : -9223372036854775808 ≤ a.n
  n1 : a.n ≤ 9223372036854775807
  d0 : -9223372036854775808 ≤ a.d
  d1 : a.d ≤ 9223372036854775807
/-- A valid ratio. -/
structure Rt.Ok (a : Rt) : Prop where
  n0 : -1000000000000000000 ≤ a.n
  n1 : a.n ≤ 1000000000000000000
  d0 : 1 ≤ a.d
  d1 : a.d ≤ 1000000000000000000
  g : gcdI a.n a.d = 1
def Rt.okB (a : Rt) : Bool := decide (1 ≤ a.d) && decide (maxI (absI a.n) a.d ≤ 1000000000000000000) && decide (gcdI a.n a.d ≤ 1)
theorem Rt.ok_iff {a : Rt} : a.okB = true ↔ a.Ok := by
  simp only [Rt.okB, Bool.and_eq_true, decide_eq_true_eq]
  constructor
  · rintro ⟨⟨h1, h2⟩, h3⟩
    have := absI_nonneg a.n
    have h4 : absI a.n ≤ 1000000000000000000 ∧ a.d ≤ 1000000000000000000 := by unfold maxI at h2; split at h2 <;> omega
    have := gcdI_pos (a := a.n) (b := a.d) (by omega)
    unfold absI at h4
    exact ⟨by omega, by omega, h1, h4.2, by omega⟩
  · rintro ⟨h1, h2, h3, h4, h5⟩
    refine ⟨⟨h3, ?_⟩, by omega⟩
    unfold maxI absI; split <;> omega
theorem Rt.Ok.wf {a : Rt} (h : a.Ok) : a.wf := ⟨by have := h.n0; omega, by have := h.n1; omega, by have := h.d0; omega, by have := h.d1; omega⟩
def Rt.code (a : Rt) : Int := if a.okB then 0 else 8
theorem Rt.code_ok {a : Rt} (h : a.Ok) : a.code = 0 := by unfold Rt.code; rw [if_pos (Rt.ok_iff.2 h)]
theorem Rt.ok_code {a : Rt} (h : a.code = 0) : a.Ok := by
  unfold Rt.code at h; split at h
  · rename_i h1; exact Rt.ok_iff.1 h1
  · omega
theorem Rt.code_bad {a : Rt} (h : ¬ a.Ok) : a.code = 8 := by unfold Rt.code; rw [if_neg (fun k => h (Rt.ok_iff.1 k))]
theorem Rt.bad1 {a : Rt} (h : a.d < 1) : a.code = 8 := Rt.code_bad fun k => by have := k.d0; omega
theorem Rt.bad2 {a : Rt} (h : 1 ≤ a.d) (k : 1000000000000000000 < maxI (absI a.n) a.d) : a.code = 8 := Rt.code_bad fun o => by
  have := o.n0; have := o.n1; have := o.d1
  unfold maxI absI at k; split at k <;> omega
theorem Rt.bad3 {a : Rt} (k : 1 < gcdI a.n a.d) : a.code = 8 := Rt.code_bad fun o => by have := o.g; omega
theorem Rt.good {a : Rt} (h1 : 1 ≤ a.d) (h2 : maxI (absI a.n) a.d ≤ 1000000000000000000) (h3 : gcdI a.n a.d ≤ 1) : a.code = 0 :=
  Rt.code_ok (Rt.ok_iff.1 (by simp [Rt.okB, h1, h2, h3]))
/-- The first error of two ratios. -/
def code2 (a b : Rt) : Int := if a.code ≠ 0 then a.code else b.code
theorem code2_ok {a b : Rt} (h : a.Ok) (k : b.Ok) : code2 a b = 0 := by simp [code2, Rt.code_ok h, Rt.code_ok k]
theorem ok_code2 {a b : Rt} (h : code2 a b = 0) : a.Ok ∧ b.Ok := by
  unfold code2 at h
  by_cases k : a.code = 0
  · rw [if_neg (by simpa using k)] at h; exact ⟨Rt.ok_code k, Rt.ok_code h⟩
  · rw [if_pos k] at h; exact absurd h k

end Go.Proofs.Ytgcbmnohhbcfiaa
