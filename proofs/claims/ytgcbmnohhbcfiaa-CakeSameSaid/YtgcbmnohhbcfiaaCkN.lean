/- Values add up; marks and values are inverse: no program in sight. -/
import Derived.Test.YtgcbmnohhbcfiaaCkW
namespace Go.Proofs.Ytgcbmnohhbcfiaa
set_option linter.unusedVariables false
set_option linter.unusedSimpArgs false

section
variable {K : Ck} {a b e v p : Rt}
theorem zero_q : (Rt.mk 0 1).q = 0 := by rw [whole_q]; rfl
theorem whole_val (h : K.Ok) : K.valC ⟨0, 1⟩ ⟨K.len, 1⟩ = 0 ∧ K.val ⟨0, 1⟩ ⟨K.len, 1⟩ = ⟨K.total, 1⟩ := by
  have l1 := h.l1; have l2 := h.l2
  have c := h.val_int (x := 0) (y := K.len) (by omega) (by omega) (by omega)
  have V := h.val_ok (a := ⟨0, 1⟩) (b := ⟨K.len, 1⟩) zero_ok (len_ok (by omega) (by omega)) (by rw [zero_q]; grind) (by rw [zero_q, whole_q]; exact Rat.intCast_nonneg.2 (by omega)) (by rw [whole_q]; grind)
  refine ⟨c, ?_⟩
  have t := h.total_bd
  refine q_inj (V.v c).1 (int_ok (by omega) (by omega)) ?_
  rw [(V.v c).2, zero_q, whole_q, whole_q, h.V_zero, h.V_len]; grind
theorem val_nonneg (h : K.Ok) (ha : a.Ok) (hb : b.Ok) (a0 : 0 ≤ a.q) (hab : a.q ≤ b.q) (hl : b.q ≤ (K.len : Rat)) (hc : K.valC a b = 0) : 0 ≤ (K.val a b).n := by
  have V := (h.val_ok ha hb a0 hab hl).v hc
  have m := h.V_mono hab
  exact (num_q V.1).1.2 (by rw [V.2]; grind)
theorem val_add (h : K.Ok) (ha : a.Ok) (hb : b.Ok) (he : e.Ok) (a0 : 0 ≤ a.q) (hab : a.q ≤ b.q) (hbe : b.q ≤ e.q) (hl : e.q ≤ (K.len : Rat)) (h1 : K.valC a b = 0) (h2 : K.valC b e = 0) (h3 : K.valC a e = 0) :
    addC (K.val a b) (K.val b e) = 0 ∧ addR (K.val a b) (K.val b e) = K.val a e := by
  have X := (h.val_ok ha hb a0 hab (by grind)).v h1
  have Y := (h.val_ok hb he (by grind) hbe hl).v h2
  have Z := (h.val_ok ha he a0 (by grind) hl).v h3
  have k := add_ok (code2_ok X.1 Y.1)
  have q : (K.val a b).q + (K.val b e).q = (K.val a e).q := by rw [X.2, Y.2, Z.2]; grind
  rw [k.1, k.2, q]
  exact ⟨mkC_q Z.1, mkR_q Z.1⟩
/-- The mark for a value: what is between is that value. -/
theorem mark_val (h : K.Ok) (ha : a.Ok) (hv : v.Ok) (a0 : 0 ≤ a.q) (al : a.q ≤ (K.len : Rat)) (v0 : 0 ≤ v.q) (hc : K.markC a v = 0) :
    (K.mark a v).Ok ∧ a.q ≤ (K.mark a v).q ∧ (K.mark a v).q ≤ (K.len : Rat) ∧ (K.valC a (K.mark a v) = 0 ∨ K.valC a (K.mark a v) = 16) ∧ (K.valC a (K.mark a v) = 0 → K.val a (K.mark a v) = v) := by
  obtain ⟨m1, m2, m3, m4, m5⟩ := (h.mark_ok ha hv a0 al v0).m hc
  have V := h.val_ok ha m1 a0 m2 m3
  refine ⟨m1, m2, m3, V.c, fun z => ?_⟩
  exact q_inj (V.v z).1 hv (by rw [(V.v z).2, m4])
theorem mark_before (h : K.Ok) (ha : a.Ok) (hv : v.Ok) (hp : p.Ok) (a0 : 0 ≤ a.q) (al : a.q ≤ (K.len : Rat)) (v0 : 0 ≤ v.q) (hc : K.markC a v = 0) (hap : a.q ≤ p.q) (hl : p.q ≤ (K.len : Rat)) (lt : p.q < (K.mark a v).q) (z : K.valC a p = 0) :
    ltB (K.val a p) v = true := by
  obtain ⟨m1, m2, m3, m4, m5⟩ := (h.mark_ok ha hv a0 al v0).m hc
  have V := (h.val_ok ha hp a0 hap hl).v z
  exact (ltB_q V.1 hv).2 (by rw [V.2]; exact m5 _ hap lt)
theorem mark_none (h : K.Ok) (ha : a.Ok) (hv : v.Ok) (a0 : 0 ≤ a.q) (al : a.q ≤ (K.len : Rat)) (v0 : 0 ≤ v.q) (hc : K.markC a v = 6) (z : K.valC a ⟨K.len, 1⟩ = 0) : ltB (K.val a ⟨K.len, 1⟩) v = true := by
  have n := (h.mark_ok ha hv a0 al v0).n hc
  have l1 := h.l1; have l2 := h.l2
  have V := (h.val_ok (b := ⟨K.len, 1⟩) ha (len_ok (by omega) (by omega)) a0 (by rw [whole_q]; exact al) (by rw [whole_q]; grind)).v z
  exact (ltB_q V.1 hv).2 (by rw [V.2, whole_q]; exact n)
/-- The mark for the value between two points is at most the second one. -/
theorem val_mark (h : K.Ok) (ha : a.Ok) (hb : b.Ok) (a0 : 0 ≤ a.q) (hab : a.q ≤ b.q) (hl : b.q ≤ (K.len : Rat)) (z : K.valC a b = 0) :
    (K.val a b).Ok ∧ (K.markC a (K.val a b) = 0 ∨ K.markC a (K.val a b) = 16) ∧ (K.markC a (K.val a b) = 0 → (K.mark a (K.val a b)).q ≤ b.q) := by
  have V := (h.val_ok ha hb a0 hab hl).v z
  have m := h.V_mono hab
  have v0 : 0 ≤ (K.val a b).q := by rw [V.2]; grind
  have M := h.mark_ok ha V.1 a0 (by grind) v0
  refine ⟨V.1, ?_, fun k => ?_⟩
  · rcases M.c with k | k | k
    · exact Or.inl k
    · have := M.n k
      have := h.V_mono hl
      rw [V.2] at *; grind
    · exact Or.inr k
  · obtain ⟨m1, m2, m3, m4, m5⟩ := M.m k
    rcases Classical.em ((K.mark a (K.val a b)).q ≤ b.q) with c | c
    · exact c
    · have := m5 b.q hab (by grind)
      rw [V.2] at this; grind
end
end Go.Proofs.Ytgcbmnohhbcfiaa
