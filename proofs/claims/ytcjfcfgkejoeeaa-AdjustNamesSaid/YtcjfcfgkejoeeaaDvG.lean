/- The values of the division, agents that change places, greater values: plain. -/
import Derived.Test.YtcjfcfgkejoeeaaDvF
namespace Go.Proofs.Ytcjfcfgkejoeeaa
set_option linter.unusedVariables false
set_option linter.unusedSimpArgs false

theorem cross_q {a : Rt} {N E : Int} (h : a.Ok) (hE : 0 < E) (hq : a.q = Rat.divInt N E) : a.n * E = N * a.d := by
  have d0 := h.d0
  unfold Rt.q at hq
  exact (Rat.divInt_eq_divInt_iff (by omega) (by omega)).1 hq
theorem den_le {a : Rt} {N E : Int} (h : a.Ok) (hE : 0 < E) (hq : a.q = Rat.divInt N E) : a.d ≤ E := by
  have e := cross_q h hE hq
  have dv : a.d ∣ a.n * E := by rw [e]; exact Int.dvd_mul_left _ _
  have n1 : a.d.natAbs ∣ a.n.natAbs * E.natAbs := by rw [← Int.natAbs_mul]; exact Int.natAbs_dvd_natAbs.2 dv
  have g1 : Nat.Coprime a.d.natAbs a.n.natAbs := by have := h.cop; rw [Int.gcd_comm] at this; exact this
  have := Int.natAbs_dvd_natAbs.1 (Nat.Coprime.dvd_of_dvd_mul_left g1 n1)
  exact Int.le_of_dvd hE this
theorem lt_cross {a b : Rt} {N E M D : Int} (ha : a.Ok) (hb : b.Ok) (hE : 0 < E) (hD : 0 < D) (ea : a.n * E = N * a.d) (eb : b.n * D = M * b.d) : a.n * b.d < b.n * a.d ↔ N * D < M * E := by
  have d0 := ha.d0; have d1 := hb.d0
  have k1 : (a.n * b.d) * (E * D) = (N * D) * (a.d * b.d) := by
    rw [show (a.n * b.d) * (E * D) = (a.n * E) * (b.d * D) by simp only [Int.mul_assoc, Int.mul_left_comm, Int.mul_comm], ea]; simp only [Int.mul_assoc, Int.mul_left_comm, Int.mul_comm]
  have k2 : (b.n * a.d) * (E * D) = (M * E) * (a.d * b.d) := by
    rw [show (b.n * a.d) * (E * D) = (b.n * D) * (a.d * E) by simp only [Int.mul_assoc, Int.mul_left_comm, Int.mul_comm], eb]; simp only [Int.mul_assoc, Int.mul_left_comm, Int.mul_comm]
  have p1 : 0 < E * D := Int.mul_pos hE hD
  have p2 : 0 < a.d * b.d := Int.mul_pos (by omega) (by omega)
  rw [← Int.mul_lt_mul_right p1, k1, k2, Int.mul_lt_mul_right p2]
section
variable {bs : List (List Int)} {d e : Pt} {n : Nat}
theorem val_ok (h : PtOk bs e n) {i : Nat} (hi : i < 2) : (e.val bs i).Ok ∧ (e.val bs i).q = Rat.divInt (e.sum bs i n) e.p.d := by
  have := h.up hi (Nat.le_refl n)
  rwa [h.up_last] at this
theorem val_cross (h : PtOk bs e n) {i : Nat} (hi : i < 2) : (e.val bs i).n * e.p.d = e.sum bs i n * (e.val bs i).d := cross_q (val_ok h hi).1 (by have := h.d0; omega) (val_ok h hi).2
theorem val_eq {cs : List (List Int)} (h : PtOk bs d n) (k : PtOk cs e n) {i j : Nat} (q : d.sum bs i n * e.p.d = e.sum cs j n * d.p.d) : d.val bs i = e.val cs j := by
  have := h.d0; have := k.d0
  unfold Pt.val
  rw [h.len, k.len]
  congr 1
  exact (Rat.divInt_eq_divInt_iff (by omega) (by omega)).2 q
theorem divP_val (h : adCode bs = 0) : (divP bs).val bs 0 = (divP bs).val bs 1 := by
  have p := divP_pt h
  exact val_eq p p (by rw [divP_sum h])
/-- Nobody can have more, if the other one is to have not less. -/
theorem fair_vals (h : adCode bs = 0) (he : e.code bs = 0) :
    (e.val bs 0).n * ((divP bs).val bs 0).d < ((divP bs).val bs 0).n * (e.val bs 0).d ∨ (e.val bs 1).n * ((divP bs).val bs 1).d < ((divP bs).val bs 1).n * (e.val bs 1).d ∨ (e.val bs 0 = (divP bs).val bs 0 ∧ e.val bs 1 = (divP bs).val bs 1) := by
  have p := divP_pt h
  have q : PtOk bs e (num bs) := ptOk he
  obtain ⟨s, t, B⟩ := divP_best h
  have d0 := p.d0; have e0 := q.d0
  rw [lt_cross (val_ok q (show 0 < 2 by omega)).1 (val_ok p (show 0 < 2 by omega)).1 (by omega) (by omega) (val_cross q (by omega)) (val_cross p (by omega)),
    lt_cross (val_ok q (show 1 < 2 by omega)).1 (val_ok p (show 1 < 2 by omega)).1 (by omega) (by omega) (val_cross q (by omega)) (val_cross p (by omega))]
  by_cases c1 : e.sum bs 0 (num bs) * (divP bs).p.d < (divP bs).sum bs 0 (num bs) * e.p.d
  · exact Or.inl c1
  by_cases c2 : e.sum bs 1 (num bs) * (divP bs).p.d < (divP bs).sum bs 1 (num bs) * e.p.d
  · exact Or.inr (Or.inl c2)
  obtain ⟨x, y⟩ := fair_sums B p (divP_sum h) q (by omega) (by omega)
  exact Or.inr (Or.inr ⟨val_eq q p x, val_eq q p y⟩)
theorem half_val (h : adCode bs = 0) : tot (gr bs 0) * ((divP bs).val bs 0).d ≤ 2 * ((divP bs).val bs 0).n := by
  have p := divP_pt h
  obtain ⟨s, t, B⟩ := divP_best h
  have A : AdOk bs (num bs) := ad_ok h
  have T := A.t1
  unfold tot at T ⊢
  rw [A.l0, A.l1] at T
  rw [A.l0]
  have k := half_sum B p (divP_sum h) T
  have c := val_cross p (show 0 < 2 by omega)
  have d0 := p.d0
  have v0 := (val_ok p (show 0 < 2 by omega)).1.d0
  generalize (divP bs).val bs 0 = x at *
  generalize (divP bs).sum bs 0 (num bs) = S at *
  generalize sumTo (gi (gr bs 0)) (num bs) = T0 at *
  generalize (divP bs).p.d = D at *
  have m := Int.mul_le_mul_of_nonneg_right k (show 0 ≤ x.d by omega)
  refine Int.le_of_mul_le_mul_right (a := D) ?_ (by omega)
  rw [show 2 * x.n * D = 2 * (x.n * D) by rw [Int.mul_assoc], c, ← Int.mul_assoc 2, Int.mul_right_comm]
  exact m
theorem val_den (h : adCode bs = 0) : ((divP bs).val bs 0).d ≤ 2000 := by
  have p := divP_pt h
  have v := val_ok p (show 0 < 2 by omega)
  have a := den_le v.1 (by have := p.d0; omega) v.2
  have D := (divP_ok (ad_ok h)).sp
  rcases D with ⟨_, e⟩ | ⟨_, _, _, _, _, e⟩
  · rw [e] at a; simp only at a; omega
  · omega

/-- The agents change places. -/
def swapB (bs : List (List Int)) : List (List Int) := [gr bs 1, gr bs 0]
theorem swap0 (bs : List (List Int)) : gr (swapB bs) 0 = gr bs 1 := rfl
theorem swap1 (bs : List (List Int)) : gr (swapB bs) 1 = gr bs 0 := rfl
theorem swap_sum_le (h : PtOk (swapB bs) e n) (s t : Int) : s * e.sum (swapB bs) 1 n + t * e.sum (swapB bs) 0 n ≤ e.p.d * sumTo (top bs s t) n := by
  unfold Pt.sum
  rw [← sumTo_mul, ← sumTo_mul, ← sumTo_mul, ← sumTo_add]
  refine sumTo_mono (fun k hk => ?_)
  simp only [term_sh, swap0, swap1]
  obtain ⟨a, b, c⟩ := sh_sum h hk
  exact lin_le b a (by omega) (top_ge s t k).1 (top_ge s t k).2
theorem swap_code (h : adCode bs = 0) : adCode (swapB bs) = 0 := by
  have A : AdOk bs (num bs) := ad_ok h
  have two := A.two
  have gd : gdCode (swapB bs) = 0 := by
    refine gd_good (not_many (by simp [swapB]) (fun i hi => ?_)) (by simp [swapB]) (fun i hi => ?_)
    · match i, hi with
      | 0, _ => rw [swap0, A.l1]; exact A.n10
      | 1, _ => rw [swap1, A.l0]; exact A.n10
    · match i, hi with
      | 0, _ => exact ⟨rfl, fun k hk => A.v1 k (by rw [swap0, A.l1] at hk; exact hk)⟩
      | 1, _ => exact ⟨by rw [swap0, swap1, A.l0, A.l1], fun k hk => A.v0 k (by rw [swap1, A.l0] at hk; exact hk)⟩
  exact ad_good gd rfl (by rw [swap0, ← A.t1]; exact A.t0) (by rw [swap0, swap1]; exact A.t1.symm)
theorem swap_num (h : adCode bs = 0) : num (swapB bs) = num bs := by
  have A : AdOk bs (num bs) := ad_ok h
  unfold num; rw [swap0, A.l1]; rfl
theorem swap_swap (h : adCode bs = 0) : swapB (swapB bs) = bs := by
  have A : AdOk bs (num bs) := ad_ok h
  have two := A.two
  match bs, two with
  | [a, b], _ => rfl
theorem swap_le (h : adCode bs = 0) : (divP (swapB bs)).sum (swapB bs) 0 (num bs) * (divP bs).p.d ≤ (divP bs).sum bs 0 (num bs) * (divP (swapB bs)).p.d := by
  have h' := swap_code h
  have p := divP_pt h
  have q := divP_pt h'
  rw [swap_num h] at q
  obtain ⟨s, t, B⟩ := divP_best h
  have a := B.all p
  have b := swap_sum_le (bs := bs) q s t
  have e1 := divP_sum h
  have e2 := divP_sum h'
  rw [swap_num h] at e2
  rw [← e1] at a
  rw [← e2] at b
  have d0 := p.d0; have s0 := B.s0; have t0 := B.t0
  generalize (divP bs).sum bs 0 (num bs) = S at *
  generalize (divP (swapB bs)).sum (swapB bs) 0 (num bs) = S' at *
  generalize sumTo (top bs s t) (num bs) = W at *
  generalize (divP bs).p.d = D at *
  generalize (divP (swapB bs)).p.d = D' at *
  have m := Int.mul_le_mul_of_nonneg_right b (show 0 ≤ D by omega)
  have x : D' * W * D = (s * S + t * S) * D' := by rw [a, Int.mul_comm, Int.mul_comm D' W, ← Int.mul_assoc]
  rw [x, ← Int.add_mul, ← Int.add_mul, Int.mul_assoc, Int.mul_assoc] at m
  exact Int.le_of_mul_le_mul_left m (by omega)
theorem swap_val (h : adCode bs = 0) : (divP bs).val bs 0 = (divP (swapB bs)).val (swapB bs) 0 := by
  have a := swap_le h
  have b := swap_le (swap_code h)
  rw [swap_swap h, swap_num h] at b
  have q := divP_pt (swap_code h)
  rw [swap_num h] at q
  exact val_eq (divP_pt h) q (by omega)
end

/-- All values so many times as great. -/
def moreL (m : Int) (l : List Int) : List Int := l.map (· * m)
def moreB (m : Int) (bs : List (List Int)) : List (List Int) := [moreL m (gr bs 0), moreL m (gr bs 1)]
theorem moreL_gi (m : Int) (l : List Int) (k : Nat) : gi (moreL m l) k = m * gi l k := by
  rcases Nat.lt_or_ge k l.length with h | h
  · rw [gi_get (by simpa [moreL] using h), gi_get h]; simp [moreL, Int.mul_comm]
  · rw [gi_none (by simpa [moreL] using h), gi_none h]; simp
section
variable {bs : List (List Int)} {m : Int}
theorem more0 : gr (moreB m bs) 0 = moreL m (gr bs 0) := rfl
theorem more1 : gr (moreB m bs) 1 = moreL m (gr bs 1) := rfl
theorem more_row {i : Nat} (hi : i < 2) : gr (moreB m bs) i = moreL m (gr bs i) := by
  match i, hi with
  | 0, _ => rfl
  | 1, _ => rfl
theorem more_num : num (moreB m bs) = num bs := by unfold num; rw [more0]; simp [moreL]
theorem more_ini (hm : 0 < m) (k : Nat) : ini (moreB m bs) k = ini bs k := by
  unfold ini; rw [more0, more1, moreL_gi, moreL_gi]
  by_cases c : gi (gr bs 0) k < gi (gr bs 1) k
  · rw [if_pos c, if_pos (Int.mul_lt_mul_of_pos_left c hm)]
  · rw [if_neg c, if_neg (fun q => c (Int.lt_of_mul_lt_mul_left q (by omega)))]
theorem more_has (hm : 0 < m) (i : Int) (hi : i = 0 ∨ i = 1) (k : Nat) : hasTo (moreB m bs) i k = m * hasTo bs i k := by
  unfold hasTo; rw [← sumTo_mul]
  refine sumTo_congr (fun j hj => ?_)
  rw [more_ini hm, more_row (by omega), moreL_gi]
  split <;> simp
theorem more_rich (hm : 0 < m) : richN (moreB m bs) = richN bs := by
  unfold richN
  rw [more_num, more_has hm 0 (Or.inl rfl), more_has hm 1 (Or.inr rfl)]
  by_cases c : hasTo bs 0 (num bs) < hasTo bs 1 (num bs)
  · rw [if_pos c, if_pos (Int.mul_lt_mul_of_pos_left c hm)]
  · rw [if_neg c, if_neg (fun q => c (Int.lt_of_mul_lt_mul_left q (by omega)))]
theorem more_own (hm : 0 < m) (k : Nat) : own (moreB m bs) k = m * own bs k := by
  unfold own; rw [more_rich hm, more_row (by have := rich_cases bs; omega), moreL_gi]
theorem more_oth (hm : 0 < m) (k : Nat) : oth (moreB m bs) k = m * oth bs k := by
  unfold oth; rw [more_rich hm, more_row (by have := rich_cases bs; omega), moreL_gi]
theorem more_in (hm : 0 < m) (k : Nat) : inOrd (moreB m bs) k = inOrd bs k := by
  unfold inOrd; rw [more_ini hm, more_rich hm, more_oth hm]
  congr 1
  have : (0 < m * oth bs k) ↔ 0 < oth bs k := ⟨fun h => by rcases Int.lt_or_le 0 (oth bs k) with c | c; exact c; exact absurd (Int.mul_nonpos_of_nonneg_of_nonpos (show 0 ≤ m by omega) c) (by omega), fun h => Int.mul_pos hm h⟩
  simp [this]
theorem cmpI_mul {x y c : Int} (hc : 0 < c) : cmpI (c * x) (c * y) = cmpI x y := by
  unfold cmpI
  have e1 : (c * x < c * y) ↔ x < y := ⟨fun q => Int.lt_of_mul_lt_mul_left q (by omega), fun q => Int.mul_lt_mul_of_pos_left q hc⟩
  have e2 : (c * y < c * x) ↔ y < x := ⟨fun q => Int.lt_of_mul_lt_mul_left q (by omega), fun q => Int.mul_lt_mul_of_pos_left q hc⟩
  simp only [e1, e2]
theorem more_lt (hm : 0 < m) : ltD (moreB m bs) = ltD bs := by
  funext a b
  unfold ltD cfD
  rw [more_own hm, more_own hm, more_oth hm, more_oth hm]
  have e : ∀ x y : Int, m * x * (m * y) = (m * m) * (x * y) := fun x y => by simp only [Int.mul_assoc, Int.mul_left_comm, Int.mul_comm]
  rw [e, e, cmpI_mul (Int.mul_pos hm hm)]
theorem more_ord (hm : 0 < m) : ord (moreB m bs) = ord bs := by
  unfold ord ord0
  rw [more_lt hm, more_num]
  congr 1
  exact List.filter_congr (fun x _ => more_in hm x)
theorem makeR_mul {a b c : Int} (hc : 0 < c) (hb : 0 < b) : makeR (c * a) (c * b) = makeR a b := by
  have := Int.mul_pos hc hb
  unfold makeR
  rw [if_neg (by omega), if_neg (by omega)]
  congr 1
  exact (Rat.divInt_eq_divInt_iff (by omega) (by omega)).2 (by simp only [Int.mul_assoc, Int.mul_left_comm, Int.mul_comm])
theorem more_pass (hm : 0 < m) : ∀ (l : List Nat) (ow : List Int) (hr ho : Int), (∀ k ∈ l, 0 < own bs k + oth bs k) → passR (moreB m bs) l ow (m * hr) (m * ho) = passR bs l ow hr ho
  | [], _, _, _, _ => rfl
  | g :: l, ow, hr, ho, hp => by
    have hg := hp g (List.mem_cons_self ..)
    have e1 : (m * hr - m * ho ≤ 0) ↔ hr - ho ≤ 0 := by
      rw [← Int.mul_sub]
      exact ⟨fun q => by rcases Int.lt_or_le 0 (hr - ho) with c | c; exact absurd (Int.mul_pos hm c) (by omega); exact c, fun q => Int.mul_nonpos_of_nonneg_of_nonpos (by omega) q⟩
    have e2 : (m * hr - m * ho < own (moreB m bs) g + oth (moreB m bs) g) ↔ hr - ho < own bs g + oth bs g := by
      rw [more_own hm, more_oth hm, ← Int.mul_sub, ← Int.mul_add]
      exact ⟨fun q => Int.lt_of_mul_lt_mul_left q (by omega), fun q => Int.mul_lt_mul_of_pos_left q hm⟩
    by_cases c1 : hr - ho ≤ 0
    · rw [passR_stop c1, passR_stop (e1.2 c1)]
    by_cases c2 : hr - ho < own bs g + oth bs g
    · rw [passR_split c1 c2, passR_split (fun q => c1 (e1.1 q)) (e2.2 c2)]
      congr 1
      rw [more_own hm, more_oth hm, ← Int.mul_add]
      have : partOf (moreB m bs) (m * hr - m * ho) (m * (own bs g + oth bs g)) = m * partOf bs (hr - ho) (own bs g + oth bs g) := by
        unfold partOf; rw [more_rich hm, ← Int.mul_sub]
        split
        · rfl
        · rw [← Int.mul_sub]
      rw [this, makeR_mul hm hg]
    · rw [passR_pass c1 c2, passR_pass (fun q => c1 (e1.1 q)) (fun q => c2 (e2.1 q)), more_own hm, more_oth hm, more_rich hm, ← Int.mul_sub, ← Int.mul_add]
      exact more_pass hm l _ _ _ (fun k hk => hp k (List.mem_cons_of_mem _ hk))
theorem more_div (h : adCode bs = 0) (hm : 0 < m) : divP (moreB m bs) = divP bs := by
  have A : AdOk bs (num bs) := ad_ok h
  have r := rich_cases bs
  have P := ad_start A
  unfold divP
  have e1 : hasR (moreB m bs) = m * hasR bs := by unfold hasR; rw [more_num, more_rich hm, more_has hm _ (by omega)]
  have e2 : hasO (moreB m bs) = m * hasO bs := by unfold hasO; rw [more_num, more_rich hm, more_has hm _ (by omega)]
  have e3 : iniL (moreB m bs) (num (moreB m bs)) = iniL bs (num bs) := by unfold iniL; rw [more_num]; exact List.map_congr_left (fun k _ => more_ini hm k)
  rw [e1, e2, e3, more_ord hm]
  exact more_pass hm _ _ _ _ (fun k hk => by have := P.mem k hk; omega)
theorem more_code (h : adCode bs = 0) (hm : 0 < m) (hg : gdCode (moreB m bs) = 0) : adCode (moreB m bs) = 0 := by
  have A : AdOk bs (num bs) := ad_ok h
  have e : ∀ l : List Int, tot (moreL m l) = m * tot l := fun l => by
    unfold tot; rw [← sumTo_mul]
    simp only [moreL, List.length_map]
    exact sumTo_congr (fun k _ => moreL_gi m l k)
  refine ad_good hg rfl ?_ ?_
  · rw [more0, e]
    intro q
    rcases Int.mul_eq_zero.1 q with c | c
    · omega
    · exact A.t0 c
  · rw [more0, more1, e, e, A.t1]
end
end Go.Proofs.Ytcjfcfgkejoeeaa
