/- Values times a number, and the agents the other way about. No program in sight. -/
import Derived.Test.YtpijllobpohpgaaMa8
namespace Go.Proofs.Ytpijllobpohpgaa
set_option linter.unusedVariables false
set_option linter.unusedSimpArgs false

theorem code_of_ok {bs : List (List Int)} (h2 : bs.length = 2) (m : MkOk (gr bs 0) (gr bs 1) (gr bs 0).length) : mkCode bs = 0 := by
  refine mk_good (not_mkMany (by omega) fun i hi => ?_) ⟨⟨h2, m.n0, m.lb.symm⟩, fun g hg => ?_, m.sa, m.sb⟩
  · match i, (show i < 2 by omega) with
    | 0, _ => exact m.n10
    | 1, _ => rw [m.lb]; exact m.n10
  · have a := m.a0 g hg; have b := m.b0 g hg
    unfold goodB
    rw [decide_eq_true a.1, decide_eq_true a.2, decide_eq_true b.1, decide_eq_true b.2]
    rcases m.ab g hg with q | q
    · rw [decide_eq_true q]; rfl
    · rw [decide_eq_true q]; simp
section
variable {a b a' b' : List Int} {n : Nat} {s r : Int}
theorem MkOk.swap (m : MkOk a b n) : MkOk b a n := ⟨m.lb, m.la, m.n0, m.n10, m.b0, m.a0, fun g hg => (m.ab g hg).symm, m.sb, m.sa⟩
/-- The prices are the same with the agents the other way about. -/
theorem MkOk.ps_swap (m : MkOk a b n) : mPs b a n = mPs a b n := by
  have k := m.swap
  have P := m.pay
  have Q := k.pay
  have X : Pay (fun g => (gi a g : Rat)) (fun g => (gi b g : Rat)) n (fun g => 1 - sq b a n g) (mU1 b a n) (mU0 b a n) (mE b a n) := by
    refine ⟨Q.b0, Q.a0, fun g hg => by have := Q.s1 g hg; grind, fun g hg => by have := Q.s0 g hg; grind, Q.u1, ?_, Q.p1, Q.p0, Q.le1, Q.le0, fun g hg hs => Q.eq1 g hg (by grind), fun g hg hs => Q.eq0 g hg (by grind)⟩
    rw [Q.u0]
    exact sumQ_congr fun g hg => by grind
  obtain ⟨al, be, Z, R⟩ := m.rep
  obtain ⟨al', be', Z', R'⟩ := k.rep
  refine gR_ext (by rw [ps_len, ps_len]) fun g hg => ?_
  rw [ps_len] at hg
  obtain ⟨_, _, _, _, _, o1, q1, _⟩ := m.pr R hg
  obtain ⟨_, _, _, _, _, o2, q2, _⟩ := k.pr R' hg
  rw [ps_at hg, ps_at hg]
  exact ok_inj o2 o1 (by rw [q1, q2]; exact (P.prices X hg).symm)
/-- All values times a number each. -/
structure Scl (a b a' b' : List Int) (s r : Int) : Prop where
  s0 : 0 < s
  r0 : 0 < r
  ea : ∀ g, gi a' g = gi a g * s
  eb : ∀ g, gi b' g = gi b g * r
theorem Scl.mlt_ (h : Scl a b a' b' s r) : mlt a' b' = mlt a b := by
  funext g k
  unfold mlt
  rw [h.ea, h.ea, h.eb, h.eb]
  have p := Int.mul_pos h.s0 h.r0
  have e1 : gi a k * s * (gi b g * r) = gi a k * gi b g * (s * r) := by ac_rfl
  have e2 : gi a g * s * (gi b k * r) = gi a g * gi b k * (s * r) := by ac_rfl
  rw [e1, e2]
  congr 1
  exact propext ⟨fun q => Int.lt_of_mul_lt_mul_right q (by omega), fun q => Int.mul_lt_mul_of_pos_right q p⟩
theorem Scl.mord_ (h : Scl a b a' b' s r) : mord a' b' n = mord a b n := by unfold mord; rw [h.mlt_]
theorem Scl.mo_ (h : Scl a b a' b' s r) (k : Nat) : mo a' b' n k = mo a b n k := by unfold mo; rw [h.mord_]
theorem Scl.mpos_ (h : Scl a b a' b' s r) (g : Nat) : mpos a' b' n g = mpos a b n g := by unfold mpos; rw [h.mord_]
theorem Scl.mA_ (h : Scl a b a' b' s r) (k : Nat) : mA a' b' n k = mA a b n k * s := by show gi a' (mo a' b' n k) = gi a (mo a b n k) * s; rw [h.mo_, h.ea]
theorem Scl.mB_ (h : Scl a b a' b' s r) (k : Nat) : mB a' b' n k = mB a b n k * r := by show gi b' (mo a' b' n k) = gi b (mo a b n k) * r; rw [h.mo_, h.eb]
theorem sumTo_mul_r (c : Int) (f : Nat → Int) (k : Nat) : sumTo (fun i => f i * c) k = sumTo f k * c := by
  rw [Int.mul_comm, ← sumTo_mul]; exact sumTo_congr fun i _ => Int.mul_comm _ _
theorem Scl.mM_ (h : Scl a b a' b' s r) (k : Nat) : mM (mA a' b' n) k = mM (mA a b n) k * s := by
  unfold mM; rw [← sumTo_mul_r]; exact sumTo_congr fun i _ => h.mA_ i
theorem Scl.mY_ (h : Scl a b a' b' s r) (k : Nat) : mY (mB a' b' n) n k = mY (mB a b n) n k * r := by
  unfold mY
  rw [Int.sub_mul, ← sumTo_mul_r, ← sumTo_mul_r, sumTo_congr (g := fun i => mB a b n i * r) (fun i _ => h.mB_ i), sumTo_congr (k := k) (g := fun i => mB a b n i * r) (fun i _ => h.mB_ i)]
theorem Scl.nK_ (h : Scl a b a' b' s r) (k : Nat) : nK (mA a' b' n) (mB a' b' n) n k = nK (mA a b n) (mB a b n) n k * (s * r) := by
  unfold nK
  rw [h.mA_, h.mB_, h.mM_, h.mY_, Int.sub_mul]
  congr 1 <;> ac_rfl
theorem Scl.dK_ (h : Scl a b a' b' s r) (k : Nat) : dK (mA a' b' n) (mB a' b' n) k = dK (mA a b n) (mB a b n) k * (s * r) := by
  unfold dK; rw [h.mA_, h.mB_]; ac_rfl
theorem Scl.go_ (h : Scl a b a' b' s r) : goB (mA a' b' n) (mB a' b' n) n = goB (mA a b n) (mB a b n) n := by
  funext k
  have p := Int.mul_pos h.s0 h.r0
  unfold goB
  rw [h.nK_, h.dK_, h.mA_]
  congr 1
  · congr 1
    exact propext ⟨fun q => by
      rcases Int.lt_or_le 0 (mA a b n k) with c | c
      · exact c
      · have := Int.mul_nonneg (show 0 ≤ -mA a b n k by omega) (show 0 ≤ s by have := h.s0; omega)
        rw [Int.neg_mul] at this; omega, fun q => Int.mul_pos q h.s0⟩
  · congr 1
    exact propext ⟨fun q => Int.le_of_mul_le_mul_right q p, fun q => Int.mul_le_mul_of_nonneg_right q (by omega)⟩
theorem Scl.mT_ (h : Scl a b a' b' s r) : mT (mA a' b' n) (mB a' b' n) n = mT (mA a b n) (mB a b n) n := by unfold mT; rw [h.go_]
theorem make_scale {x d c : Int} (hc : 0 < c) : makeR (x * c) (d * c) = makeR x d := by
  unfold makeR
  by_cases e : d = 0
  · rw [if_pos e, if_pos (by rw [e, Int.zero_mul])]
  · rw [if_neg e, if_neg (by
      intro q
      rcases Int.mul_eq_zero.1 q with q | q <;> omega), Rat.divInt_mul_right (by omega)]
theorem Scl.mX_ (h : Scl a b a' b' s r) : mX a' b' n = mX a b n := by
  have p := Int.mul_pos h.s0 h.r0
  unfold mX
  rw [h.mT_, h.nK_, h.dK_, make_scale p]
  by_cases c : nK (mA a b n) (mB a b n) n (mT (mA a b n) (mB a b n) n) ≤ 0
  · rw [if_pos c, if_pos]
    have := Int.mul_nonneg (show 0 ≤ -nK (mA a b n) (mB a b n) n (mT (mA a b n) (mB a b n) n) by omega) (show 0 ≤ s * r by omega)
    rw [Int.neg_mul] at this; omega
  · rw [if_neg c, if_neg]
    have := Int.mul_pos (show 0 < nK (mA a b n) (mB a b n) n (mT (mA a b n) (mB a b n) n) by omega) p
    omega
/-- The shares are the same. -/
theorem Scl.sh (h : Scl a b a' b' s r) : mSh a' b' n = mSh a b n := by
  unfold mSh splitR
  rw [h.mT_, h.mX_]
  congr 1
  funext g
  rw [h.mpos_]
theorem Scl.u0 (h : Scl a b a' b' s r) : mU0 a' b' n = mU0 a b n * (s : Rat) := by
  unfold mU0 sq
  rw [h.sh, ← sumQ_mul']
  exact sumQ_congr fun g _ => by rw [h.ea, Rat.intCast_mul]; grind
theorem Scl.u1 (h : Scl a b a' b' s r) : mU1 a' b' n = mU1 a b n * (r : Rat) := by
  unfold mU1 sq
  rw [h.sh, ← sumQ_mul']
  exact sumQ_congr fun g _ => by rw [h.eb, Rat.intCast_mul]; grind
theorem div_scale {x u c : Rat} (hu : 0 < u) (hc : 0 < c) : x * c / (u * c) = x / u := by
  have p := mul_pos_ hu hc
  refine eq_of_mul_r (c := u * c) ?_ p
  rw [div_mul_ p]
  have e : x / u * u = x := div_mul_ hu
  have : x / u * (u * c) = x / u * u * c := by grind
  rw [this, e]
/-- The prices are the same. -/
theorem Scl.ps (h : Scl a b a' b' s r) (m : MkOk a b n) (m' : MkOk a' b' n) : mPs a' b' n = mPs a b n := by
  obtain ⟨al, be, Z, R⟩ := m.rep
  obtain ⟨al', be', Z', R'⟩ := m'.rep
  refine gR_ext (by rw [ps_len, ps_len]) fun g hg => ?_
  rw [ps_len] at hg
  obtain ⟨_, _, _, _, _, o1, q1, _⟩ := m.pr R hg
  obtain ⟨_, _, _, _, _, o2, q2, _⟩ := m'.pr R' hg
  rw [ps_at hg, ps_at hg]
  refine ok_inj o2 o1 ?_
  rw [q1, q2, m.mE_eq hg, m'.mE_eq hg]
  unfold mVal mOwn mU
  rw [h.sh]
  have ps := cast_pos h.s0
  have pr := cast_pos h.r0
  by_cases c : 0 < (gR (mSh a b n) g).n
  · simp only [if_pos c, if_true]
    rw [h.ea, h.u0, Rat.intCast_mul]
    exact div_scale m.pay.p0 ps
  · simp only [if_neg c]
    rw [if_neg (by decide), if_neg (by decide), h.eb, h.u1, Rat.intCast_mul]
    exact div_scale m.pay.p1 pr
theorem gi_scl (t : Int) (l : List Int) (g : Nat) : gi (l.map (· * t)) g = gi l g * t := by
  unfold gi
  rw [List.getD_eq_getElem?_getD, List.getD_eq_getElem?_getD, List.getElem?_map]
  cases l[g]? <;> simp
end
/-- The values after the agent's are taken times a number. -/
def sclB (bs : List (List Int)) (i t : Int) : List (List Int) := if i = 0 then [(gr bs 0).map (· * t), gr bs 1] else [gr bs 0, (gr bs 1).map (· * t)]
theorem sclB_two (bs : List (List Int)) (i t : Int) : (sclB bs i t).length = 2 := by unfold sclB; split <;> rfl
theorem scl_len (bs : List (List Int)) (i t : Int) : (gr (sclB bs i t) 0).length = (gr bs 0).length := by
  unfold sclB; split
  · show ((gr bs 0).map (· * t)).length = _; simp
  · rfl
theorem scl_of (bs : List (List Int)) {i t : Int} (ht : 0 < t) : Scl (gr bs 0) (gr bs 1) (gr (sclB bs i t) 0) (gr (sclB bs i t) 1) (if i = 0 then t else 1) (if i = 0 then 1 else t) := by
  unfold sclB
  split
  · exact ⟨ht, by decide, fun g => gi_scl t _ g, fun g => (Int.mul_one _).symm⟩
  · exact ⟨by decide, ht, fun g => (Int.mul_one _).symm, fun g => gi_scl t _ g⟩
/-- What MarketScales says. -/
theorem scales_law {bs : List (List Int)} {t : Int} {i : Nat} (h : mkCode bs = 0) (hi : i < 2) (ht : 0 < t) (h' : mkCode (sclB bs i t) = 0) (t1 : t ≤ 1000) :
    mPs (gr (sclB bs i t) 0) (gr (sclB bs i t) 1) (gr (sclB bs i t) 0).length = mPs (gr bs 0) (gr bs 1) (gr bs 0).length ∧
    mSh (gr (sclB bs i t) 0) (gr (sclB bs i t) 1) (gr (sclB bs i t) 0).length = mSh (gr bs 0) (gr bs 1) (gr bs 0).length ∧
    mulC (mkR (mU (gr bs 0) (gr bs 1) (gr bs 0).length i)) ⟨t, 1⟩ = 0 ∧
    mulR (mkR (mU (gr bs 0) (gr bs 1) (gr bs 0).length i)) ⟨t, 1⟩ = mkR (mU (gr (sclB bs i t) 0) (gr (sclB bs i t) 1) (gr (sclB bs i t) 0).length i) := by
  obtain ⟨_, m⟩ := mk_ok h
  obtain ⟨_, m'⟩ := mk_ok h'
  have S := scl_of bs (i := i) ht
  rw [scl_len] at m' ⊢
  obtain ⟨al, be, Z, R⟩ := m.rep
  obtain ⟨al', be', Z', R'⟩ := m'.rep
  have u := R.u_in i
  have u' := R'.u_in i
  have wo : Rt.Ok ⟨t, 1⟩ := whole_ok (by omega) (by omega)
  have e : mU (gr (sclB bs i t) 0) (gr (sclB bs i t) 1) (gr bs 0).length i = mU (gr bs 0) (gr bs 1) (gr bs 0).length i * (t : Rat) := by
    match i, hi with
    | 0, _ => exact S.u0
    | 1, _ => exact S.u1
  have pr : (mkR (mU (gr bs 0) (gr bs 1) (gr bs 0).length i)).q * Rt.q ⟨t, 1⟩ = mU (gr (sclB bs i t) 0) (gr (sclB bs i t) 1) (gr bs 0).length i := by
    rw [q_mkR u.1, whole_q, e]
  have M := mul_in (mkR_ok u.1) wo (by rw [pr]; exact u'.1)
  exact ⟨S.ps m m', S.sh, M.1, by rw [M.2, pr]⟩
/-- The agents the other way about. -/
theorem turned_law {bs : List (List Int)} (h : mkCode bs = 0) : mkCode [gr bs 1, gr bs 0] = 0 ∧
    mPs (gr [gr bs 1, gr bs 0] 0) (gr [gr bs 1, gr bs 0] 1) (gr [gr bs 1, gr bs 0] 0).length = mPs (gr bs 0) (gr bs 1) (gr bs 0).length := by
  obtain ⟨_, m⟩ := mk_ok h
  have k : MkOk (gr bs 1) (gr bs 0) (gr bs 1).length := by rw [m.lb]; exact m.swap
  refine ⟨code_of_ok rfl k, ?_⟩
  show mPs (gr bs 1) (gr bs 0) (gr bs 1).length = _
  rw [m.lb]; exact m.ps_swap
end Go.Proofs.Ytpijllobpohpgaa
