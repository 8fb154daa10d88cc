/- What Make of package ratio reckons: no program in sight. -/
import Derived.Test.YtpijllobpohpgaaRtSpec2
namespace Go.Proofs.Ytpijllobpohpgaa
set_option linter.unusedVariables false
set_option linter.unusedSimpArgs false

/-- A fraction with all that is common taken out. -/
structure MakeOf (n d : Int) (g N D : Int) (m : Bool) : Prop where
  g0 : 0 < g
  gl : g ≤ absI d
  N0 : 0 ≤ N
  Nl : N ≤ absI n
  D0 : 0 < D
  Dl : D ≤ absI d
  cop : Int.gcd (if m then -N else N) D = 1
  eq : Rat.divInt n d = Rat.divInt (if m then -N else N) D
theorem makeOf {n d : Int} (hd : d ≠ 0) : MakeOf n d (gcdI (absI n) (absI d)) (absI n / gcdI (absI n) (absI d)) (absI d / gcdI (absI n) (absI d)) (decide (n < 0) != decide (d < 0)) := by
  have a0 : 0 < absI d := by unfold absI; omega
  have g0 := gcdI_pos (a := absI n) a0
  have gl := gcdI_le (a := absI n) a0
  have n0 := absI_nonneg n
  have hc : Int.gcd (absI n / gcdI (absI n) (absI d)) (absI d / gcdI (absI n) (absI d)) = 1 := gcd_quot (x := absI n) (y := absI d) (by unfold gcdI at g0; omega)
  have d1 : gcdI (absI n) (absI d) ∣ absI n := Int.gcd_dvd_left _ _
  have d2 : gcdI (absI n) (absI d) ∣ absI d := Int.gcd_dvd_right _ _
  generalize gcdI (absI n) (absI d) = g at *
  obtain ⟨N, hN⟩ := d1
  obtain ⟨D, hD⟩ := d2
  have e1 : absI n / g = N := by rw [hN]; exact Int.mul_ediv_cancel_left _ (by omega)
  have e2 : absI d / g = D := by rw [hD]; exact Int.mul_ediv_cancel_left _ (by omega)
  have N0 : 0 ≤ N := by rw [← e1]; exact Int.ediv_nonneg n0 (by omega)
  have D0 : 0 ≤ D := by rw [← e2]; exact Int.ediv_nonneg (by omega) (by omega)
  have D1 : D ≠ 0 := by rintro rfl; rw [Int.mul_zero] at hD; omega
  rw [e1, e2] at hc ⊢
  have hn : n = if n < 0 then -(g * N) else g * N := by split <;> (unfold absI at hN; omega)
  have hd' : d = if d < 0 then -(g * D) else g * D := by split <;> (unfold absI at hD; omega)
  refine ⟨g0, gl, N0, by rw [← e1]; exact Int.ediv_le_self _ n0, by omega, by rw [← e2]; exact Int.ediv_le_self _ (by omega), ?_, ?_⟩
  · split
    · rw [Int.neg_gcd]; exact hc
    · exact hc
  · by_cases h1 : n < 0 <;> by_cases h2 : d < 0
    · rw [if_pos h1] at hn; rw [if_pos h2] at hd'
      rw [decide_eq_true h1, decide_eq_true h2, hn, hd', Rat.neg_divInt_neg, Rat.divInt_mul_left (by omega)]; rfl
    · rw [if_pos h1] at hn; rw [if_neg h2] at hd'
      rw [decide_eq_true h1, decide_eq_false h2, hn, hd', show -(g * N) = g * (-N) by rw [Int.mul_neg], Rat.divInt_mul_left (by omega)]; rfl
    · rw [if_neg h1] at hn; rw [if_pos h2] at hd'
      rw [decide_eq_false h1, decide_eq_true h2, hn, hd', Rat.divInt_neg', show -(g * N) = g * (-N) by rw [Int.mul_neg], Rat.divInt_mul_left (by omega)]; rfl
    · rw [if_neg h1] at hn; rw [if_neg h2] at hd'
      rw [decide_eq_false h1, decide_eq_false h2, hn, hd', Rat.divInt_mul_left (by omega)]; rfl
def makeR (n d : Int) : Rt := if d = 0 then ⟨0, 0⟩ else mkR (Rat.divInt n d)
def makeC (n d : Int) : Int := if d = 0 then 18 else mkC (Rat.divInt n d)
theorem MakeOf.fin {n d g N D : Int} {m : Bool} (s : MakeOf n d g N D m) : (if 1000000000000000000 < maxI N D then (⟨0, 0⟩ : Rt) else if m then ⟨-N, D⟩ else ⟨N, D⟩) = mkR (Rat.divInt n d)
    ∧ (if 1000000000000000000 < maxI N D then (16 : Int) else 0) = mkC (Rat.divInt n d) := by
  rw [s.eq]
  exact sign_mk s.N0 s.D0 rfl s.cop
end Go.Proofs.Ytpijllobpohpgaa
