/- What follows of the division's weights: nobody can have more, both have half, and what does not change it: plain. -/
import Derived.Test.YtcjfcfgkejoeeaaDvC
namespace Go.Proofs.Ytcjfcfgkejoeeaa
set_option linter.unusedVariables false
set_option linter.unusedSimpArgs false

section
variable {bs : List (List Int)} {d e : Pt}
theorem divP_code (h : adCode bs = 0) : (divP bs).code bs = 0 := by
  have H := ad_ok h
  have D := divP_ok H
  have ho : (divP bs).OwOk bs := by
    refine ⟨⟨D.len, fun k hk => ?_⟩, fun k hk => ?_⟩
    · have := D.z1 k (by rw [← D.len]; exact hk); have := H.two; omega
    · have := D.z1 k (by rw [← D.len]; exact hk); omega
  rcases D.sp with ⟨s, p⟩ | ⟨s1, s2, s3, s4, s5, s6⟩
  · exact pt_whole h ho s (by rw [p]; exact ⟨rfl, rfl⟩)
  · exact pt_good h ho (by omega) ⟨⟨s1.1, by rw [D.len]; exact s1.2⟩, s2⟩ ⟨Rt.code_ok s3, s4, s5, by omega⟩
theorem divP_pt (h : adCode bs = 0) : PtOk bs (divP bs) (num bs) := ptOk (divP_code h)
theorem divP_sum (h : adCode bs = 0) : (divP bs).sum bs 0 (num bs) = (divP bs).sum bs 1 (num bs) := by
  have D := (divP_ok (ad_ok h)).eq
  rcases rich_cases bs with r | r <;> rw [r] at D
  · exact D
  · exact D.symm

/-- The weights by which no division is worth more in all. -/
structure Best (bs : List (List Int)) (d : Pt) (s t : Int) : Prop where
  s0 : 0 < s
  t0 : 0 < t
  sp : ∀ k, k < num bs → (k : Int) = d.sp → s * gi (gr bs 0) k = t * gi (gr bs 1) k
  o0 : ∀ k, k < num bs → (k : Int) ≠ d.sp → gi d.ow k = 0 → t * gi (gr bs 1) k ≤ s * gi (gr bs 0) k
  o1 : ∀ k, k < num bs → (k : Int) ≠ d.sp → gi d.ow k = 1 → s * gi (gr bs 0) k ≤ t * gi (gr bs 1) k
theorem divP_best (h : adCode bs = 0) : ∃ s t, Best bs (divP bs) s t := by
  obtain ⟨s, t, hs, ht, hc⟩ := (divP_ok (ad_ok h)).cert
  rcases rich_cases bs with r | r
  · have e1 : own bs = gi (gr bs 0) := by funext k; unfold own; rw [r]
    have e2 : oth bs = gi (gr bs 1) := by funext k; unfold oth; rw [r]
    rw [e1, e2, r] at hc
    exact ⟨s, t, hs, ht, fun k hk => (hc k hk).1, fun k hk e o => (hc k hk).2.1 e (by rw [o]; rfl), fun k hk e o => (hc k hk).2.2 e (by rw [o]; rfl)⟩
  · have e1 : own bs = gi (gr bs 1) := by funext k; unfold own; rw [r]
    have e2 : oth bs = gi (gr bs 0) := by funext k; unfold oth; rw [r]
    rw [e1, e2, r] at hc
    exact ⟨t, s, ht, hs, fun k hk e => ((hc k hk).1 e).symm, fun k hk e o => (hc k hk).2.2 e (by rw [o]; rfl), fun k hk e o => (hc k hk).2.1 e (by rw [o]; rfl)⟩

/-- What agent i has of a good, times the denominator. -/
def Pt.sh (d : Pt) (i k : Nat) : Int := if (k : Int) = d.sp then (if i = 0 then d.p.n else d.p.d - d.p.n) else if gi d.ow k = i then d.p.d else 0
theorem term_sh (i k : Nat) : d.term bs i k = gi (gr bs i) k * d.sh i k := by
  unfold Pt.term Pt.sh
  split
  · rfl
  · split
    · rfl
    · simp
theorem sh_sum {n : Nat} (h : PtOk bs d n) {k : Nat} (hk : k < n) : 0 ≤ d.sh 0 k ∧ 0 ≤ d.sh 1 k ∧ d.sh 0 k + d.sh 1 k = d.p.d := by
  have := h.d0; have := h.n0; have := h.n1
  unfold Pt.sh
  by_cases e : (k : Int) = d.sp
  · rw [if_pos e, if_pos e]; simp only [if_true, Nat.one_ne_zero, if_false]; omega
  · rw [if_neg e, if_neg e]
    rcases h.ow k hk with o | o
    · rw [o]; simp; omega
    · rw [o]; simp; omega
def top (bs : List (List Int)) (s t : Int) (k : Nat) : Int := maxI (s * gi (gr bs 0) k) (t * gi (gr bs 1) k)
theorem top_ge (s t : Int) (k : Nat) : s * gi (gr bs 0) k ≤ top bs s t k ∧ t * gi (gr bs 1) k ≤ top bs s t k := by
  unfold top maxI; split <;> omega
theorem lin_le {s t p q E x y m : Int} (hp : 0 ≤ p) (hq : 0 ≤ q) (hE : p + q = E) (hx : s * x ≤ m) (hy : t * y ≤ m) : s * (x * p) + t * (y * q) ≤ E * m := by
  have a := Int.mul_le_mul_of_nonneg_right hx hp
  have b := Int.mul_le_mul_of_nonneg_right hy hq
  rw [← hE, Int.add_mul, ← Int.mul_assoc, ← Int.mul_assoc, Int.mul_comm p, Int.mul_comm q]; omega
theorem sum_le {n : Nat} (h : PtOk bs e n) (s t : Int) : s * e.sum bs 0 n + t * e.sum bs 1 n ≤ e.p.d * sumTo (top bs s t) n := by
  unfold Pt.sum
  rw [← sumTo_mul, ← sumTo_mul, ← sumTo_mul, ← sumTo_add]
  refine sumTo_mono (fun k hk => ?_)
  simp only [term_sh]
  obtain ⟨a, b, c⟩ := sh_sum h hk
  exact lin_le a b c (top_ge s t k).1 (top_ge s t k).2
theorem Best.all {s t : Int} (h : Best bs d s t) (p : PtOk bs d (num bs)) : s * d.sum bs 0 (num bs) + t * d.sum bs 1 (num bs) = d.p.d * sumTo (top bs s t) (num bs) := by
  unfold Pt.sum
  rw [← sumTo_mul, ← sumTo_mul, ← sumTo_mul, ← sumTo_add]
  refine sumTo_congr (fun k hk => ?_)
  simp only [term_sh]
  obtain ⟨a, b, c⟩ := sh_sum p hk
  by_cases e : (k : Int) = d.sp
  · have q := h.sp k hk e
    have : top bs s t k = s * gi (gr bs 0) k := by unfold top maxI; split <;> omega
    rw [this, ← c, Int.add_mul, ← Int.mul_assoc, ← Int.mul_assoc, q, Int.mul_comm, Int.mul_comm (d.sh 1 k)]
  · rcases p.ow k hk with o | o
    · have q := h.o0 k hk e o
      have : top bs s t k = s * gi (gr bs 0) k := by unfold top maxI; split <;> omega
      have s0 : d.sh 0 k = d.p.d := by unfold Pt.sh; rw [if_neg e, o]; simp
      have s1 : d.sh 1 k = 0 := by omega
      rw [this, s0, s1, Int.mul_zero, Int.mul_zero, Int.add_zero, ← Int.mul_assoc, Int.mul_comm]
    · have q := h.o1 k hk e o
      have : top bs s t k = t * gi (gr bs 1) k := by unfold top maxI; split <;> omega
      have s1 : d.sh 1 k = d.p.d := by unfold Pt.sh; rw [if_neg e, o]; simp
      have s0 : d.sh 0 k = 0 := by omega
      rw [this, s0, s1, Int.mul_zero, Int.mul_zero, Int.zero_add, ← Int.mul_assoc, Int.mul_comm]
/-- No division gives one more and the other one not less. -/
theorem fair_sums {s t : Int} (h : Best bs d s t) (p : PtOk bs d (num bs)) (eq : d.sum bs 0 (num bs) = d.sum bs 1 (num bs)) (pe : PtOk bs e (num bs))
    (h0 : d.sum bs 0 (num bs) * e.p.d ≤ e.sum bs 0 (num bs) * d.p.d) (h1 : d.sum bs 1 (num bs) * e.p.d ≤ e.sum bs 1 (num bs) * d.p.d) :
    e.sum bs 0 (num bs) * d.p.d = d.sum bs 0 (num bs) * e.p.d ∧ e.sum bs 1 (num bs) * d.p.d = d.sum bs 1 (num bs) * e.p.d := by
  have a := h.all p
  have b := sum_le pe s t
  have d0 := p.d0
  rw [← eq] at a h1 ⊢
  generalize d.sum bs 0 (num bs) = S at *
  generalize e.sum bs 0 (num bs) = U at *
  generalize e.sum bs 1 (num bs) = V at *
  generalize sumTo (top bs s t) (num bs) = W at *
  have b' := Int.mul_le_mul_of_nonneg_right b (show 0 ≤ d.p.d by omega)
  have a' : (s * S + t * S) * e.p.d = e.p.d * W * d.p.d := by rw [a, Int.mul_comm, Int.mul_comm d.p.d, ← Int.mul_assoc]
  rw [← a', Int.add_mul, Int.add_mul, Int.mul_assoc, Int.mul_assoc, Int.mul_assoc, Int.mul_assoc] at b'
  have s0 := h.s0; have t0 := h.t0
  have x0 := Int.mul_le_mul_of_nonneg_left h0 (show 0 ≤ s by omega)
  have x1 := Int.mul_le_mul_of_nonneg_left h1 (show 0 ≤ t by omega)
  constructor
  · exact Int.eq_of_mul_eq_mul_left (show s ≠ 0 by omega) (by omega)
  · exact Int.eq_of_mul_eq_mul_left (show t ≠ 0 by omega) (by omega)
theorem half_sum {s t : Int} (h : Best bs d s t) (p : PtOk bs d (num bs)) (eq : d.sum bs 0 (num bs) = d.sum bs 1 (num bs)) (ht : sumTo (gi (gr bs 0)) (num bs) = sumTo (gi (gr bs 1)) (num bs)) :
    sumTo (gi (gr bs 0)) (num bs) * d.p.d ≤ 2 * d.sum bs 0 (num bs) := by
  have a := h.all p
  rw [← eq] at a
  have w0 : s * sumTo (gi (gr bs 0)) (num bs) ≤ sumTo (top bs s t) (num bs) := by rw [← sumTo_mul]; exact sumTo_mono (fun k hk => (top_ge s t k).1)
  have w1 : t * sumTo (gi (gr bs 0)) (num bs) ≤ sumTo (top bs s t) (num bs) := by rw [ht, ← sumTo_mul]; exact sumTo_mono (fun k hk => (top_ge s t k).2)
  have d0 := p.d0; have s0 := h.s0; have t0 := h.t0
  generalize d.sum bs 0 (num bs) = S at *
  generalize sumTo (gi (gr bs 0)) (num bs) = T at *
  generalize sumTo (top bs s t) (num bs) = W at *
  have x : (s + t) * T ≤ 2 * W := by rw [Int.add_mul]; omega
  have y := Int.mul_le_mul_of_nonneg_left x (show 0 ≤ d.p.d by omega)
  have z : d.p.d * (2 * W) = (s + t) * (2 * S) := by
    rw [Int.mul_left_comm, ← a, Int.add_mul, Int.mul_left_comm s, Int.mul_left_comm t]; omega
  rw [z, Int.mul_left_comm] at y
  have := Int.le_of_mul_le_mul_left y (show 0 < s + t by omega)
  rw [Int.mul_comm T]; exact this
/-- The goods in the order of ratios. -/
theorem Best.order {s t : Int} (h : Best bs d s t) {j k : Nat} (hj : j < num bs) (hk : k < num bs) (v : ∀ i k, i < 2 → k < num bs → 0 ≤ gi (gr bs i) k)
    (h0 : (j : Int) = d.sp ∨ gi d.ow j = 0) (h1 : (k : Int) = d.sp ∨ gi d.ow k = 1) (z : ∀ k, k < num bs → gi d.ow k = 0 ∨ gi d.ow k = 1) (hs : ∀ k, k < num bs → (k : Int) = d.sp → gi d.ow k = 0) :
    gi (gr bs 0) k * gi (gr bs 1) j ≤ gi (gr bs 0) j * gi (gr bs 1) k := by
  have a : t * gi (gr bs 1) j ≤ s * gi (gr bs 0) j := by
    by_cases e : (j : Int) = d.sp
    · have := h.sp j hj e; omega
    · exact h.o0 j hj e (h0.resolve_left e)
  have b : s * gi (gr bs 0) k ≤ t * gi (gr bs 1) k := by
    by_cases e : (k : Int) = d.sp
    · have := h.sp k hk e; omega
    · exact h.o1 k hk e (h1.resolve_left e)
  have s0 := h.s0; have t0 := h.t0
  have v1 := v 0 j (by omega) hj; have v2 := v 1 j (by omega) hj; have v3 := v 0 k (by omega) hk; have v4 := v 1 k (by omega) hk
  generalize gi (gr bs 0) j = p at *
  generalize gi (gr bs 1) j = q at *
  generalize gi (gr bs 0) k = x at *
  generalize gi (gr bs 1) k = y at *
  have m := Int.mul_le_mul a b (Int.mul_nonneg (by omega) v3) (Int.mul_nonneg (by omega) v1)
  have e1 : t * q * (s * x) = (s * t) * (x * q) := by rw [Int.mul_comm t q, Int.mul_assoc, Int.mul_left_comm t s x, ← Int.mul_assoc s t x, Int.mul_left_comm, Int.mul_comm q x]
  have e2 : s * p * (t * y) = (s * t) * (p * y) := by rw [Int.mul_assoc, Int.mul_left_comm p t y, ← Int.mul_assoc]
  rw [e1, e2] at m
  exact Int.le_of_mul_le_mul_left m (Int.mul_pos s0 t0)
end
end Go.Proofs.Ytcjfcfgkejoeeaa
