/- What the laws say of the equilibrium: its prices are the only ones, its shares the first, no product is greater. No program in sight. -/
import Derived.Test.YtpijllobpohpgaaMkV
import Derived.Test.YtpijllobpohpgaaMa2
namespace Go.Proofs.Ytpijllobpohpgaa
set_option linter.unusedVariables false
set_option linter.unusedSimpArgs false

theorem ok_inj {a b : Rt} (ha : a.Ok) (hb : b.Ok) (h : a.q = b.q) : a = b := by rw [← mkR_q ha, ← mkR_q hb, h]
section
variable {bs : List (List Int)} {p l : List Rt}
/-- What is accepted pays as the equilibrium does. -/
theorem acc_pay (h : mkCode bs = 0) (ha : accB bs p l = true) :
    Pay (fun g => (gi (gr bs 0) g : Rat)) (fun g => (gi (gr bs 1) g : Rat)) (gr bs 0).length (fun g => (gR l g).q) (mU0 (gr bs 0) (gr bs 1) (gr bs 0).length) (mU1 (gr bs 0) (gr bs 1) (gr bs 0).length) (fun g => (gR p g).q) := by
  obtain ⟨_, m⟩ := mk_ok h
  obtain ⟨hp, hv, po, A⟩ := acc_of h ha
  obtain ⟨g0, l0, p0⟩ := m.sa
  obtain ⟨g1, l1, p1⟩ := m.sb
  have Y := A.toPay (fun g hg => cast_nn (m.a0 g hg).1) (fun g hg => cast_nn (m.b0 g hg).1) ⟨g0, l0, cast_pos p0⟩ ⟨g1, l1, cast_pos p1⟩
  obtain ⟨e0, e1⟩ := m.pay.unique Y
  rw [e0, e1]
  exact Y
/-- Prices that are accepted are those of the equilibrium. -/
theorem acc_prices (h : mkCode bs = 0) (ha : accB bs p l = true) : mPs (gr bs 0) (gr bs 1) (gr bs 0).length = p := by
  obtain ⟨_, m⟩ := mk_ok h
  obtain ⟨hp, hv, po, A⟩ := acc_of h ha
  have Y := acc_pay h ha
  obtain ⟨al, be, Z, R⟩ := m.rep
  refine gR_ext (by rw [ps_len, hp]) fun g hg => ?_
  rw [ps_len] at hg
  obtain ⟨_, _, _, _, e, ok, q, _⟩ := m.pr R hg
  rw [ps_at hg]
  exact ok_inj ok (po g hg) (by rw [q]; exact m.pay.prices Y hg)
/-- Where other shares that are accepted differ first, they are less. -/
theorem acc_first (h : mkCode bs = 0) (ha : accB bs p l = true) {g : Nat} (hg : g < (gr bs 0).length) (before : ∀ j, j < g → gR (mSh (gr bs 0) (gr bs 1) (gr bs 0).length) j = gR l j)
    (ne : gR (mSh (gr bs 0) (gr bs 1) (gr bs 0).length) g ≠ gR l g) : ltB (gR l g) (gR (mSh (gr bs 0) (gr bs 1) (gr bs 0).length) g) = true := by
  obtain ⟨_, m⟩ := mk_ok h
  obtain ⟨hp, hv, po, A⟩ := acc_of h ha
  have Y := acc_pay h ha
  have os := (m.sh_ok hg).1
  have ol := ((valid_ok hv).2 g hg).1
  unfold ltB
  refine decide_eq_true ?_
  rcases Classical.em ((gR l g).q < (gR (mSh (gr bs 0) (gr bs 1) (gr bs 0).length) g).q) with c | c
  · exact c
  · exfalso
    have lt : sq (gr bs 0) (gr bs 1) (gr bs 0).length g < (gR l g).q := by
      have le := Rat.not_lt.1 c
      have n1 : (gR (mSh (gr bs 0) (gr bs 1) (gr bs 0).length) g).q ≠ (gR l g).q := fun e => ne (ok_inj os ol e)
      show (gR (mSh (gr bs 0) (gr bs 1) (gr bs 0).length) g).q < _
      grind
    have X := m.pay
    have P : Pay (fun g => (gi (gr bs 0) g : Rat)) (fun g => (gi (gr bs 1) g : Rat)) (gr bs 0).length (fun g => (gR l g).q) (mU0 (gr bs 0) (gr bs 1) (gr bs 0).length) (mU1 (gr bs 0) (gr bs 1) (gr bs 0).length) (mE (gr bs 0) (gr bs 1) (gr bs 0).length) := by
      have e := fun g hg => X.prices Y (g := g) hg
      exact ⟨Y.a0, Y.b0, Y.s0, Y.s1, Y.u0, Y.u1, Y.p0, Y.p1, fun g hg => by rw [e g hg]; exact Y.le0 g hg, fun g hg => by rw [e g hg]; exact Y.le1 g hg, fun g hg hs => by rw [e g hg]; exact Y.eq0 g hg hs, fun g hg hs => by rw [e g hg]; exact Y.eq1 g hg hs⟩
    refine X.first P hg (m.acc.pos g hg) (fun j hj => ?_) lt fun j hj hn ea eb => ?_
    · show (gR _ j).q = _; rw [before j hj]
    · have s1 : sq (gr bs 0) (gr bs 1) (gr bs 0).length g < 1 := by have := Y.s1 g hg; grind
      have l0 : 0 < (gR l g).q := by have := (m.sq_bd hg).1; grind
      have ga := P.eq0 g hg l0
      have gb := X.eq1 g hg s1
      have e : gi (gr bs 0) g * gi (gr bs 1) j = gi (gr bs 0) j * gi (gr bs 1) g := by
        have q : ((gi (gr bs 0) g * gi (gr bs 1) j : Int) : Rat) = ((gi (gr bs 0) j * gi (gr bs 1) g : Int) : Rat) := by
          rw [Rat.intCast_mul, Rat.intCast_mul, ea, eb, ← ga, ← gb]; grind
        exact Rat.intCast_inj.1 q
      have t := m.tie hj hn e
      rw [sq_at hn]
      have k : ¬ mpos (gr bs 0) (gr bs 1) (gr bs 0).length g < mtt (gr bs 0) (gr bs 1) (gr bs 0).length := fun q => by
        rw [sq_at hg, if_pos q] at s1; grind
      rw [if_neg (by omega), if_neg (by omega)]
/-- No shares are worth more together. -/
theorem sh_greatest (h : mkCode bs = 0) (hv : validB (gr bs 0).length l = true) : sumQ (fun g => (gi (gr bs 0) g : Rat) * (gR l g).q) (gr bs 0).length * sumQ (fun g => (gi (gr bs 1) g : Rat) * (1 - (gR l g).q)) (gr bs 0).length ≤ mU0 (gr bs 0) (gr bs 1) (gr bs 0).length * mU1 (gr bs 0) (gr bs 1) (gr bs 0).length := by
  obtain ⟨_, m⟩ := mk_ok h
  have V := (valid_ok hv).2
  exact m.pay.greatest (fun g hg => (q_le0 (V g hg).1).2 (V g hg).2.1) (fun g hg => (q_le1 (V g hg).1).2 (V g hg).2.2)
end
/-- Shares over one small denominator. -/
theorem grid_le {n : Nat} {l : List Rt} {M : Int} (hv : validB n l = true) (hp : plainB l = true) (m1 : 1 ≤ M) (hM : ∀ g, g < n → (gR l g).d ≤ M) : ∃ D x, Grid n (fun g => (gR l g).q) D x ∧ D ≤ M := by
  obtain ⟨hl, hs⟩ := valid_ok hv
  obtain ⟨p1, p2⟩ := plain_ok hp
  by_cases c : ∃ g, g < n ∧ 1 < (gR l g).d
  · obtain ⟨g0, hg0, hd⟩ := c
    have oth : ∀ g, g < n → g ≠ g0 → (gR l g).d = 1 := fun g hg hne => by
      have d0 := (hs g hg).1.d0
      rcases Int.lt_or_le 1 (gR l g).d with q | q
      · exfalso
        have := sum_one (f := divB l) (n := l.length) (fun i _ => by unfold divB; split <;> omega) (show g < l.length by omega) (show g0 < l.length by omega) hne
        have e1 : divB l g = 1 := by unfold divB; rw [if_pos q]
        have e2 : divB l g0 = 1 := by unfold divB; rw [if_pos hd]
        omega
      · omega
    refine ⟨(gR l g0).d, fun g => if g = g0 then (gR l g).n else (gR l g).n * (gR l g0).d, ⟨by omega, p1 g0 (by omega), fun g hg => ?_, fun g hg => ?_, fun g hg => ?_⟩, hM g0 hg0⟩
    · have := (hs g hg).2.1
      show 0 ≤ (if g = g0 then (gR l g).n else (gR l g).n * (gR l g0).d)
      split
      · exact this
      · exact Int.mul_nonneg this (by omega)
    · show (if g = g0 then (gR l g).n else (gR l g).n * (gR l g0).d) ≤ (gR l g0).d
      split
      · rename_i e; subst e; exact (hs g hg).2.2
      · rename_i e
        have a := (hs g hg).2.1; have b := (hs g hg).2.2; rw [oth g hg e] at b
        rcases (show (gR l g).n = 0 ∨ (gR l g).n = 1 by omega) with z | z <;> rw [z] <;> omega
    · show (gR l g).q = Rat.divInt (if g = g0 then (gR l g).n else (gR l g).n * (gR l g0).d) (gR l g0).d
      split
      · rename_i e; subst e; rfl
      · rename_i e
        unfold Rt.q; rw [oth g hg e]
        have := Rat.divInt_mul_right (n := (gR l g).n) (d := 1) (a := (gR l g0).d) (by omega)
        rw [Int.one_mul] at this
        exact this.symm
  · refine ⟨1, fun g => (gR l g).n, ⟨by omega, by omega, fun g hg => (hs g hg).2.1, fun g hg => ?_, fun g hg => ?_⟩, m1⟩
    · have := (hs g hg).2.2; have := (hs g hg).1.d0
      have : ¬ 1 < (gR l g).d := fun q => c ⟨g, hg, q⟩
      show (gR l g).n ≤ 1
      omega
    · have := (hs g hg).1.d0
      have : ¬ 1 < (gR l g).d := fun q => c ⟨g, hg, q⟩
      have e : (gR l g).d = 1 := by omega
      unfold Rt.q; rw [e]
theorem worthR_ok {bs : List (List Int)} {l : List Rt} (h : mkCode bs = 0) (hv : validB (gr bs 0).length l = true) (hp : plainB l = true) {i : Nat} (hi : i < 2) :
    worthC bs l i = 0 ∧ worthR bs l i = mkR (sumQ (fun g => (gi (gr bs i) g : Rat) * pq i (gR l g).q) (gr bs 0).length) := by
  have c : worthC bs l i = 0 := worthC_ok h (by omega) ⟨hv, hp⟩
  refine ⟨c, ?_⟩
  unfold worthR
  rw [if_pos c, Int.toNat_natCast, (worth_some h hv hp hi).1]; rfl
theorem worth_sh {bs : List (List Int)} (h : mkCode bs = 0) {i : Nat} (hi : i < 2) : worthC bs (mSh (gr bs 0) (gr bs 1) (gr bs 0).length) i = 0 ∧ worthR bs (mSh (gr bs 0) (gr bs 1) (gr bs 0).length) i = mkR (mU (gr bs 0) (gr bs 1) (gr bs 0).length i) := by
  obtain ⟨_, m⟩ := mk_ok h
  have c : worthC bs (mSh (gr bs 0) (gr bs 1) (gr bs 0).length) i = 0 := worthC_ok h (by omega) ⟨m.sh_valid, m.sh_plain⟩
  refine ⟨c, ?_⟩
  unfold worthR
  rw [if_pos c, Int.toNat_natCast, sh_worth h hi]; rfl
theorem great_law {bs : List (List Int)} {l : List Rt} (h : mkCode bs = 0) (hv : validB (gr bs 0).length l = true) (hp : plainB l = true) (hd : ∀ g, g < (gr bs 0).length → (gR l g).d ≤ 1000) :
    mulC (mkR (mU (gr bs 0) (gr bs 1) (gr bs 0).length 0)) (mkR (mU (gr bs 0) (gr bs 1) (gr bs 0).length 1)) = 0 ∧ mulC (worthR bs l 0) (worthR bs l 1) = 0 ∧
    (mulR (mkR (mU (gr bs 0) (gr bs 1) (gr bs 0).length 0)) (mkR (mU (gr bs 0) (gr bs 1) (gr bs 0).length 1))).Ok ∧ (mulR (worthR bs l 0) (worthR bs l 1)).Ok ∧
    ltB (mulR (mkR (mU (gr bs 0) (gr bs 1) (gr bs 0).length 0)) (mkR (mU (gr bs 0) (gr bs 1) (gr bs 0).length 1))) (mulR (worthR bs l 0) (worthR bs l 1)) = false := by
  obtain ⟨_, m⟩ := mk_ok h
  have n10 := m.n10
  obtain ⟨al, be, Z, R⟩ := m.rep
  have i0 := R.u_in 0
  have i1 := R.u_in 1
  have a0 := R.a0; have a1 := R.a1; have b0 := R.b0; have b1 := R.b1; have z0 := R.z0; have z1 := R.z1
  have ab0 := Int.mul_pos a0 b0
  have ab1 := prod_le (p := 10000) (q := 10000) (show 0 ≤ al by omega) a1 (show 0 ≤ be by omega) b1
  have zz := prod_le (p := 100000000) (q := 100000000) (show 0 ≤ Z by omega) z1 (show 0 ≤ Z by omega) z1
  have e0 : mU (gr bs 0) (gr bs 1) (gr bs 0).length 0 = Rat.divInt Z al := frac_of R.a0 R.u0
  have e1 : mU (gr bs 0) (gr bs 1) (gr bs 0).length 1 = Rat.divInt Z be := frac_of R.b0 R.u1
  have ip : inR ((mkR (mU (gr bs 0) (gr bs 1) (gr bs 0).length 0)).q * (mkR (mU (gr bs 0) (gr bs 1) (gr bs 0).length 1)).q) := by
    rw [q_mkR i0.1, q_mkR i1.1, e0, e1, mulF a0 b0]
    exact inR_frac ab0 (by omega) (by omega) (by omega)
  have M := mul_in (mkR_ok i0.1) (mkR_ok i1.1) ip
  obtain ⟨D, x, G, D1⟩ := grid_le hv hp (by omega) hd
  have key : ∀ i : Nat, i < 2 → ∃ s : Int, 0 ≤ s ∧ s ≤ 10000000 ∧ sumQ (fun g => (gi (gr bs i) g : Rat) * pq i (gR l g).q) (gr bs 0).length = Rat.divInt s D := fun i hi => by
    have GP := G.part i
    have RB := row_bd h hi
    have s := GP.sum n10 (M := 1000) (by omega) RB.2 (Nat.le_refl _)
    have b := sumTo_bd (f := fun g => gi (gr bs i) g * px i D (x g)) (lo := 0) (hi := 1000000) (k := (gr bs 0).length) (fun g hg => by
      have := prod_le (p := 1000) (q := 1000) (RB.2 g hg).1 (RB.2 g hg).2 (GP.x0 g hg) (by have := GP.x1 g hg; omega)
      exact ⟨this.1, by omega⟩)
    exact ⟨_, by omega, by omega, s.1⟩
  obtain ⟨s0, p0, p1, k0⟩ := key 0 (by omega)
  obtain ⟨s1, q0, q1, k1⟩ := key 1 (by omega)
  have d0 := G.d0
  have dd0 := Int.mul_pos d0 d0
  have dd1 := prod_le (p := 1000) (q := 1000) (show 0 ≤ D by omega) D1 (show 0 ≤ D by omega) D1
  have ss := prod_le (p := 10000000) (q := 10000000) p0 p1 q0 q1
  have w0 : worthC bs l 0 = 0 ∧ worthR bs l 0 = mkR (sumQ (fun g => (gi (gr bs 0) g : Rat) * pq 0 (gR l g).q) (gr bs 0).length) := worthR_ok h hv hp (i := 0) (by omega)
  have w1 : worthC bs l 1 = 0 ∧ worthR bs l 1 = mkR (sumQ (fun g => (gi (gr bs 1) g : Rat) * pq 1 (gR l g).q) (gr bs 0).length) := worthR_ok h hv hp (i := 1) (by omega)
  have j0 := (worth_some h hv hp (i := 0) (by omega)).2
  have j1 := (worth_some h hv hp (i := 1) (by omega)).2
  have ip2 : inR ((worthR bs l 0).q * (worthR bs l 1).q) := by
    rw [w0.2, w1.2, q_mkR j0, q_mkR j1, k0, k1, mulF d0 d0]
    exact inR_frac dd0 (by omega) (by omega) (by omega)
  have N := mul_in (by rw [w0.2]; exact mkR_ok j0) (by rw [w1.2]; exact mkR_ok j1) ip2
  refine ⟨M.1, N.1, by rw [M.2]; exact mkR_ok ip, by rw [N.2]; exact mkR_ok ip2, ?_⟩
  unfold ltB
  rw [M.2, N.2, q_mkR ip, q_mkR ip2, q_mkR i0.1, q_mkR i1.1, w0.2, w1.2, q_mkR j0, q_mkR j1]
  exact decide_eq_false (Rat.not_lt.2 (sh_greatest h hv))
end Go.Proofs.Ytpijllobpohpgaa

namespace Go.Proofs.Ytpijllobpohpgaa
set_option linter.unusedVariables false
set_option linter.unusedSimpArgs false

theorem two_ok : Rt.Ok ⟨2, 1⟩ := whole_ok (by decide) (by decide)
section
variable {bs : List (List Int)}
/-- Prices add up to 2. -/
theorem clears_sum (h : mkCode bs = 0) : (∀ k, k < (mPs (gr bs 0) (gr bs 1) (gr bs 0).length).length → (gR (mPs (gr bs 0) (gr bs 1) (gr bs 0).length) k).Ok) ∧
    (∀ k, k ≤ (mPs (gr bs 0) (gr bs 1) (gr bs 0).length).length → inR (sumQ (fun k => (gR (mPs (gr bs 0) (gr bs 1) (gr bs 0).length) k).q) k)) ∧
    mkR (sumQ (fun k => (gR (mPs (gr bs 0) (gr bs 1) (gr bs 0).length) k).q) (mPs (gr bs 0) (gr bs 1) (gr bs 0).length).length) = ⟨2, 1⟩ := by
  obtain ⟨_, m⟩ := mk_ok h
  obtain ⟨al, be, Z, R⟩ := m.rep
  have n10 := m.n10
  have z0 := R.z0; have z1 := R.z1
  have C := fun g (hg : g < (gr bs 0).length) => m.pr R hg
  have Q : ∀ k, k < (gr bs 0).length → (gR (mPs (gr bs 0) (gr bs 1) (gr bs 0).length) k).Ok ∧ (gR (mPs (gr bs 0) (gr bs 1) (gr bs 0).length) k).q = mE (gr bs 0) (gr bs 1) (gr bs 0).length k := fun k hk => by
    obtain ⟨_, _, _, _, e, ok, q, _⟩ := C k hk
    rw [ps_at hk]; exact ⟨ok, q⟩
  have E : ∀ k, k ≤ (gr bs 0).length → sumQ (fun k => (gR (mPs (gr bs 0) (gr bs 1) (gr bs 0).length) k).q) k = Rat.divInt (sumTo (fun g => if hg : g < (gr bs 0).length then (C g hg).choose else 0) k) Z := fun k hk => by
    rw [← sumQ_frac _ (by omega)]
    refine sumQ_congr fun g hg => ?_
    have hg : g < (gr bs 0).length := by omega
    obtain ⟨_, _, ec, _⟩ := (C g hg).choose_spec
    rw [(Q g hg).2]; simp only [dif_pos hg]; exact ec
  rw [ps_len]
  refine ⟨fun k hk => (Q k hk).1, fun k hk => ?_, ?_⟩
  · have b := sumTo_bd (f := fun g => if hg : g < (gr bs 0).length then (C g hg).choose else 0) (lo := 0) (hi := 10000000) (k := k) (fun g hg => by
      have hg : g < (gr bs 0).length := by omega
      obtain ⟨c0, c1, _⟩ := (C g hg).choose_spec
      simp only [dif_pos hg]; omega)
    rw [E k hk]; exact inR_frac z0 (by omega) (by omega) (by omega)
  · have t : sumQ (fun k => (gR (mPs (gr bs 0) (gr bs 1) (gr bs 0).length) k).q) (gr bs 0).length = Rt.q ⟨2, 1⟩ := by
      rw [whole_q, sumQ_congr (g := mE (gr bs 0) (gr bs 1) (gr bs 0).length) (fun k hk => (Q k hk).2), m.pay.total]; rfl
    rw [t]; exact mkR_q two_ok
/-- Each agent has half of its values at least. -/
theorem clears_half (h : mkCode bs = 0) {i : Nat} (hi : i < 2) : 1 ≤ (mkR (mU (gr bs 0) (gr bs 1) (gr bs 0).length i)).d ∧ (mkR (mU (gr bs 0) (gr bs 1) (gr bs 0).length i)).d ≤ 10000 ∧ 0 ≤ (mkR (mU (gr bs 0) (gr bs 1) (gr bs 0).length i)).n ∧ (mkR (mU (gr bs 0) (gr bs 1) (gr bs 0).length i)).n ≤ 1000000000000000000 ∧
    0 ≤ sumTo (gi (gr bs i)) (gr bs 0).length ∧ sumTo (gi (gr bs i)) (gr bs 0).length ≤ 10000 ∧
    sumTo (gi (gr bs i)) (gr bs 0).length * (mkR (mU (gr bs 0) (gr bs 1) (gr bs 0).length i)).d ≤ 2 * (mkR (mU (gr bs 0) (gr bs 1) (gr bs 0).length i)).n := by
  obtain ⟨_, m⟩ := mk_ok h
  obtain ⟨al, be, Z, R⟩ := m.rep
  have n10 := m.n10
  have P := m.pay
  have ui := R.u_in i
  have ok := mkR_ok ui.1
  have RB := row_bd h hi
  have sb := sumTo_bd (f := gi (gr bs i)) (lo := 0) (hi := 1000) (k := (gr bs 0).length) RB.2
  have den : (mkR (mU (gr bs 0) (gr bs 1) (gr bs 0).length i)).d ≤ 10000 := by
    have a1 := R.a1; have b1 := R.b1
    unfold mkR; rw [if_pos ui.1]
    show ((mU (gr bs 0) (gr bs 1) (gr bs 0).length i).den : Int) ≤ 10000
    match i, hi with
    | 0, _ => rw [show mU (gr bs 0) (gr bs 1) (gr bs 0).length 0 = Rat.divInt Z al from frac_of R.a0 R.u0]; exact Int.le_trans (den_frac R.a0) a1
    | 1, _ => rw [show mU (gr bs 0) (gr bs 1) (gr bs 0).length 1 = Rat.divInt Z be from frac_of R.b0 R.u1]; exact Int.le_trans (den_frac R.b0) b1
  have half : ((sumTo (gi (gr bs i)) (gr bs 0).length : Int) : Rat) ≤ 2 * mU (gr bs 0) (gr bs 1) (gr bs 0).length i := by
    rw [← sumQ_int, ← P.total, ← sumQ_mul']
    match i, hi with
    | 0, _ => exact sumQ_mono fun g hg => P.le0 g hg
    | 1, _ => exact sumQ_mono fun g hg => P.le1 g hg
  refine ⟨ok.d0, den, (q_le0 ok).1 (by rw [q_mkR ui.1]; have := ui.2; grind), ok.n1, by omega, by omega, ?_⟩
  have e := q_mkR ui.1
  rw [q_div] at e
  have pd : (0 : Rat) < ((mkR (mU (gr bs 0) (gr bs 1) (gr bs 0).length i)).d : Rat) := cast_pos (by have := ok.d0; omega)
  have e2 : mU (gr bs 0) (gr bs 1) (gr bs 0).length i * ((mkR (mU (gr bs 0) (gr bs 1) (gr bs 0).length i)).d : Rat) = ((mkR (mU (gr bs 0) (gr bs 1) (gr bs 0).length i)).n : Rat) := by
    conv => lhs; lhs; rw [← e]
    exact div_mul_ pd
  refine castle.1 ?_
  rw [Rat.intCast_mul, Rat.intCast_mul, ← e2]
  have := mul_le_r half (show (0 : Rat) ≤ ((mkR (mU (gr bs 0) (gr bs 1) (gr bs 0).length i)).d : Rat) by grind)
  show _ ≤ (2 : Rat) * _
  grind
/-- Each price is a value divided by a rate. -/
theorem clears_mul (h : mkCode bs = 0) {k : Nat} (hk : k < (gr bs 0).length) : mulC (gR (mPs (gr bs 0) (gr bs 1) (gr bs 0).length) k) (mkR (mU (gr bs 0) (gr bs 1) (gr bs 0).length (mOwn (gr bs 0) (gr bs 1) (gr bs 0).length k))) = 0 ∧
    mulR (gR (mPs (gr bs 0) (gr bs 1) (gr bs 0).length) k) (mkR (mU (gr bs 0) (gr bs 1) (gr bs 0).length (mOwn (gr bs 0) (gr bs 1) (gr bs 0).length k))) = ⟨gi (gr bs (mOwn (gr bs 0) (gr bs 1) (gr bs 0).length k)) k, 1⟩ := by
  obtain ⟨_, m⟩ := mk_ok h
  obtain ⟨al, be, Z, R⟩ := m.rep
  obtain ⟨_, _, _, _, e, ok, q, _⟩ := m.pr R hk
  have ui := R.u_in (mOwn (gr bs 0) (gr bs 1) (gr bs 0).length k)
  have val : mVal (gr bs 0) (gr bs 1) (gr bs 0).length k = gi (gr bs (mOwn (gr bs 0) (gr bs 1) (gr bs 0).length k)) k := by unfold mVal mOwn; split <;> rfl
  have lt : mOwn (gr bs 0) (gr bs 1) (gr bs 0).length k < 2 := by unfold mOwn; split <;> omega
  have rb := (row_bd h lt).2 k hk
  have wo := whole_ok (n := gi (gr bs (mOwn (gr bs 0) (gr bs 1) (gr bs 0).length k)) k) (by omega) (by omega)
  have pr : (mPr (gr bs 0) (gr bs 1) (gr bs 0).length k).q * (mkR (mU (gr bs 0) (gr bs 1) (gr bs 0).length (mOwn (gr bs 0) (gr bs 1) (gr bs 0).length k))).q = Rt.q ⟨gi (gr bs (mOwn (gr bs 0) (gr bs 1) (gr bs 0).length k)) k, 1⟩ := by
    rw [q, q_mkR ui.1, m.mE_eq hk, div_mul_ ui.2, whole_q, val]
  have M := mul_in ok (mkR_ok ui.1) (by rw [pr]; exact wo.inR)
  rw [ps_at hk]
  exact ⟨M.1, by rw [M.2, pr]; exact mkR_q wo⟩
theorem clears_own {k : Nat} : (mOwn (gr bs 0) (gr bs 1) (gr bs 0).length k = 0 ∧ 0 < (gR (mSh (gr bs 0) (gr bs 1) (gr bs 0).length) k).n) ∨ (mOwn (gr bs 0) (gr bs 1) (gr bs 0).length k = 1 ∧ ¬ 0 < (gR (mSh (gr bs 0) (gr bs 1) (gr bs 0).length) k).n) := by
  unfold mOwn
  by_cases c : 0 < (gR (mSh (gr bs 0) (gr bs 1) (gr bs 0).length) k).n
  · left; rw [if_pos c]; exact ⟨rfl, c⟩
  · right; rw [if_neg c]; exact ⟨rfl, c⟩
theorem clears_acc (h : mkCode bs = 0) : accR bs (mPs (gr bs 0) (gr bs 1) (gr bs 0).length) (mSh (gr bs 0) (gr bs 1) (gr bs 0).length) = true := by rw [acc_ok h]; exact sh_accept h
end
end Go.Proofs.Ytpijllobpohpgaa
