/- The reference's value and mark, reckoned: its steps are the program's. No program in sight. -/
import Derived.Test.YtgcbmnohhbcfiaaCkX
import Derived.Test.YtgcbmnohhbcfiaaCm12
namespace Go.Proofs.Ytgcbmnohhbcfiaa
set_option linter.unusedVariables false
set_option linter.unusedSimpArgs false

/-- Where a piece of an interval begins, and what it is worth. -/
def Ck.wFrom (K : Ck) (i : Nat) (a : Rt) : Rt := if ltB a ⟨gi K.cuts i, 1⟩ = true then ⟨gi K.cuts i, 1⟩ else a
def Ck.wtC (K : Ck) (i : Nat) (a b : Rt) : Int := if ltB (K.wFrom i a) (K.vEnd b i) = false ∨ gi K.dens i = 0 then 0 else pieceC (K.wFrom i a) (K.vEnd b i) (gi K.dens i)
def Ck.wtR (K : Ck) (i : Nat) (a b : Rt) : Rt := if ltB (K.wFrom i a) (K.vEnd b i) = false ∨ gi K.dens i = 0 then ⟨0, 1⟩ else if subC (K.vEnd b i) (K.wFrom i a) ≠ 0 then ⟨0, 0⟩ else pieceR (K.wFrom i a) (K.vEnd b i) (gi K.dens i)
section
variable {K : Ck} {a b v : Rt} {k : Nat}
theorem Ck.Ok.wFrom_ok (h : K.Ok) (ha : a.Ok) {i : Nat} (hi : i ≤ K.dens.length) : (K.wFrom i a).Ok ∧ (K.wFrom i a).q = max a.q (gi K.cuts i : Rat) := by
  have c := h.cut_ok hi
  unfold Ck.wFrom
  cases e : ltB a ⟨gi K.cuts i, 1⟩ with
  | true => have := (ltB_q ha c).1 e; rw [whole_q] at this; rw [if_pos rfl]; exact ⟨c, by rw [whole_q]; grind⟩
  | false => have := (ltB_qf ha c).1 e; rw [whole_q] at this; rw [if_neg (by decide)]; exact ⟨ha, by grind⟩
theorem add_zero_ {s : Rt} (h : s.Ok) : addC s ⟨0, 1⟩ = 0 ∧ addR s ⟨0, 1⟩ = s := by
  have z : (Rt.mk 0 1).q = 0 := by rw [whole_q]; rfl
  have e := add_ok (code2_ok h zero_ok)
  rw [z, show s.q + 0 = s.q by grind] at e
  have i : inR s.q := Classical.byContradiction fun hin => by
    have e2 := (mkR_out hin).1
    rw [mkR_q h] at e2
    have d := h.d0
    rw [e2] at d
    exact absurd d (by decide)
  exact ⟨by rw [e.2]; exact if_pos i, by rw [e.1]; exact mkR_q h⟩
theorem wt_zero (h : ltB (K.wFrom k a) (K.vEnd b k) = false ∨ gi K.dens k = 0) : K.wtC k a b = 0 ∧ K.wtR k a b = ⟨0, 1⟩ := ⟨if_pos h, if_pos h⟩
theorem wt_piece (h : ltB (K.wFrom k a) (K.vEnd b k) = true) (d : gi K.dens k ≠ 0) : K.wtC k a b = pieceC (K.wFrom k a) (K.vEnd b k) (gi K.dens k) ∧ (K.wtC k a b = 0 → K.wtR k a b = pieceR (K.wFrom k a) (K.vEnd b k) (gi K.dens k)) := by
  have n : ¬ (ltB (K.wFrom k a) (K.vEnd b k) = false ∨ gi K.dens k = 0) := by rw [h]; simp; exact d
  have e : K.wtC k a b = pieceC (K.wFrom k a) (K.vEnd b k) (gi K.dens k) := if_neg n
  refine ⟨e, fun z => ?_⟩
  rw [e] at z
  unfold Ck.wtR
  rw [if_neg n, if_neg (fun q => by unfold pieceC at z; rw [if_pos q] at z; exact q z)]
theorem wt_ok (h : K.Ok) (ha : a.Ok) (hb : b.Ok) (hk : k < K.dens.length) : (K.wtC k a b = 0 ∧ (K.wtR k a b).Ok) ∨ K.wtC k a b = 16 := by
  have F := h.wFrom_ok ha (i := k) (by omega)
  have E := h.vEnd_ok hb hk
  have f := h.fit k hk
  cases l : ltB (K.wFrom k a) (K.vEnd b k) with
  | false => have := wt_zero (K := K) (Or.inl l); exact Or.inl ⟨this.1, by rw [this.2]; exact zero_ok⟩
  | true =>
  by_cases d : gi K.dens k = 0
  · have := wt_zero (K := K) (a := a) (b := b) (Or.inr d); exact Or.inl ⟨this.1, by rw [this.2]; exact zero_ok⟩
  have p := wt_piece (K := K) l d
  rcases piece_step (d := gi K.dens k) F.1 E.1 f.1 f.2 with ⟨_, p1, _, p2, _⟩ | p1
  · exact Or.inl ⟨by rw [p.1]; exact p1, by rw [p.2 (by rw [p.1]; exact p1)]; exact p2⟩
  · exact Or.inr (by rw [p.1]; exact p1)
/-- One step of the value. -/
structure VRef (K : Ck) (a b : Rt) (k : Nat) (s : VS) : Prop where
  bad : K.wtC k a b ≠ 0 → (K.vStep b k s).e = K.wtC k a b
  sum : K.wtC k a b = 0 → addC s.sum (K.wtR k a b) ≠ 0 → (K.vStep b k s).e = addC s.sum (K.wtR k a b)
  go : K.wtC k a b = 0 → addC s.sum (K.wtR k a b) = 0 → (K.vStep b k s).e = 0 ∧ (K.vStep b k s).sum = addR s.sum (K.wtR k a b)
theorem vref (h : K.Ok) (ha : a.Ok) (hb : b.Ok) (hab : a.q ≤ b.q) (hk : k < K.dens.length) {s : VS} (hs : VOk K a b k s) (e0 : s.e = 0) : VRef K a b k s := by
  have F := h.wFrom_ok ha (i := k) (by omega)
  have E := h.vEnd_ok hb hk
  have r := h.riseQ (i := k) hk
  have aq := hs.aq e0
  cases l : ltB s.at_ (K.vEnd b k) with
  | false =>
    have lq := (ltB_qf hs.at_ E.1).1 l
    have z := wt_zero (K := K) (a := a) (b := b) (k := k) (Or.inl ((ltB_qf F.1 E.1).2 (by grind)))
    have y := add_zero_ hs.sum
    have v := vStep_skip (K := K) (b := b) (i := k) e0 l
    rw [← z.2] at y
    refine ⟨fun q => absurd z.1 q, fun _ q => absurd y.1 q, fun _ _ => ?_⟩
    rw [v]; exact ⟨e0, y.2.symm⟩
  | true =>
    have lq := (ltB_q hs.at_ E.1).1 l
    have fe : s.at_ = K.wFrom k a := q_inj hs.at_ F.1 (by grind)
    by_cases d : gi K.dens k = 0
    · have z := wt_zero (K := K) (a := a) (b := b) (k := k) (Or.inr d)
      have y := add_zero_ hs.sum
      have v := vStep_none (K := K) (b := b) (i := k) e0 l d
      rw [← z.2] at y
      refine ⟨fun q => absurd z.1 q, fun _ q => absurd y.1 q, fun _ _ => ?_⟩
      rw [v]; exact ⟨rfl, y.2.symm⟩
    · have p := wt_piece (K := K) (a := a) (b := b) (k := k) (by rw [← fe]; exact l) d
      rw [← fe] at p
      have u : K.vStep b k s = if pieceC s.at_ (K.vEnd b k) (gi K.dens k) ≠ 0 then ⟨s.at_, s.sum, pieceC s.at_ (K.vEnd b k) (gi K.dens k)⟩
          else if addC s.sum (pieceR s.at_ (K.vEnd b k) (gi K.dens k)) ≠ 0 then ⟨s.at_, s.sum, addC s.sum (pieceR s.at_ (K.vEnd b k) (gi K.dens k))⟩
          else ⟨K.vEnd b k, addR s.sum (pieceR s.at_ (K.vEnd b k) (gi K.dens k)), 0⟩ := by
        unfold Ck.vStep; rw [if_neg (by omega), if_neg (by rw [l]; decide), if_neg d]
      rw [← p.1] at u
      refine ⟨fun q => ?_, fun q q2 => ?_, fun q q2 => ?_⟩
      · rw [u, if_pos q]
      · rw [p.2 q] at q2 ⊢; rw [u, if_neg (by omega), if_pos q2]
      · rw [p.2 q] at q2 ⊢; rw [u, if_neg (by omega), if_neg (by omega)]; exact ⟨rfl, rfl⟩
/-- The piece behind a point of the interval. -/
theorem wt_in (h : K.Ok) {p : Rt} (hp : p.Ok) (hk : k < K.dens.length) (h0 : (gi K.cuts k : Rat) ≤ p.q) (l : ltB p ⟨gi K.cuts (k + 1), 1⟩ = true) (d : gi K.dens k ≠ 0) :
    K.wtC k p ⟨gi K.cuts (k + 1), 1⟩ = pieceC p ⟨gi K.cuts (k + 1), 1⟩ (gi K.dens k) ∧ (K.wtC k p ⟨gi K.cuts (k + 1), 1⟩ = 0 → K.wtR k p ⟨gi K.cuts (k + 1), 1⟩ = pieceR p ⟨gi K.cuts (k + 1), 1⟩ (gi K.dens k)) := by
  have c := h.cut_ok (i := k + 1) (by omega)
  have c0 := h.cut_ok (i := k) (by omega)
  have fe : K.wFrom k p = p := by unfold Ck.wFrom; rw [(ltB_qf hp c0).2 (by rw [whole_q]; exact h0), if_neg (by decide)]
  have ve : K.vEnd ⟨gi K.cuts (k + 1), 1⟩ k = ⟨gi K.cuts (k + 1), 1⟩ := by unfold Ck.vEnd; split <;> rfl
  have q := wt_piece (K := K) (a := p) (b := ⟨gi K.cuts (k + 1), 1⟩) (k := k) (by rw [fe, ve]; exact l) d
  rwa [fe, ve] at q
end
end Go.Proofs.Ytgcbmnohhbcfiaa
