/- The shares of the equilibrium are shares, its rates and prices are in range, and it is accepted; what is accepted pays. No program in sight. -/
import Derived.Test.YtpijllobpohpgaaMa7
import Derived.Test.YtpijllobpohpgaaMa6
namespace Go.Proofs.Ytpijllobpohpgaa
set_option linter.unusedVariables false
set_option linter.unusedSimpArgs false

theorem q_le0 {r : Rt} (h : r.Ok) : 0 ≤ r.q ↔ 0 ≤ r.n := by
  have := le_q ok_zero h
  rw [q_zero] at this
  rw [← this]; simp
theorem q_lt0 {r : Rt} (h : r.Ok) : 0 < r.q ↔ 0 < r.n := by
  have := lt_q ok_zero h
  rw [q_zero] at this
  rw [← this]; simp
theorem q_le1 {r : Rt} (h : r.Ok) : r.q ≤ 1 ↔ r.n ≤ r.d := by
  have := le_q h ok_one
  rw [q_one] at this
  rw [← this]; simp
theorem sum_at (t : Nat) : ∀ m, sumTo (fun k => if k = t then (1 : Int) else 0) m = if t < m then 1 else 0
  | 0 => by simp [sumTo]
  | m + 1 => by
    rw [sumTo, sum_at t m]
    split <;> split <;> split <;> omega
section
variable {a b : List Int} {n : Nat}
theorem sh_at {g : Nat} (h : g < n) : gR (mSh a b n) g = if mpos a b n g < mtt a b n then ⟨1, 1⟩ else if mpos a b n g = mtt a b n then mX a b n else ⟨0, 1⟩ := splitR_at h
theorem sh_len : (mSh a b n).length = n := splitR_len _ _
theorem MkOk.sh_ok (h : MkOk a b n) {g : Nat} (hg : g < n) : (gR (mSh a b n) g).Ok ∧ 0 ≤ (gR (mSh a b n) g).n ∧ (gR (mSh a b n) g).n ≤ (gR (mSh a b n) g).d ∧ (gR (mSh a b n) g).d ≤ 2000000 := by
  have X := h.xAt
  rw [sh_at hg]
  split
  · exact ⟨ok_one, by decide, by decide, by decide⟩
  · split
    · exact ⟨X.ok, (q_le0 X.ok).1 X.q0, (q_le1 X.ok).1 (by have := X.q1; grind), X.den⟩
    · exact ⟨ok_zero, by decide, by decide, by decide⟩
theorem MkOk.sh_valid (h : MkOk a b n) : validB n (mSh a b n) = true := by
  unfold validB
  rw [Bool.and_eq_true, decide_eq_true_eq, List.all_eq_true]
  refine ⟨fun x hx => ?_, sh_len⟩
  obtain ⟨k, hk, rfl⟩ := mem_gR hx
  rw [sh_len] at hk
  obtain ⟨o, n0, n1, _⟩ := h.sh_ok hk
  unfold shB
  rw [decide_eq_true (Rt.code_ok o), decide_eq_true n0, decide_eq_true n1]; rfl
theorem MkOk.sh_plain (h : MkOk a b n) : plainB (mSh a b n) = true := by
  rw [plain_all (fun j hj => (h.sh_ok (by rwa [sh_len] at hj)).2.2.2), decide_eq_true_eq, sh_len, ← sumTo_perm (mord_perm a b n)]
  refine Int.le_trans (sumTo_mono (g := fun k => if k = mtt a b n then (1 : Int) else 0) fun k hk => ?_) (by rw [sum_at]; split <;> omega)
  show divB (mSh a b n) (mo a b n k) ≤ _
  unfold divB
  rw [sh_at (mo_lt hk), mpos_mo hk]
  rcases Nat.lt_trichotomy k (mtt a b n) with c | c | c
  · rw [if_pos c]; split <;> split <;> first | omega | (rename_i x _; exact absurd x (by decide))
  · rw [if_neg (show ¬ k < mtt a b n by omega), if_pos c, if_pos c]; split <;> omega
  · rw [if_neg (show ¬ k < mtt a b n by omega), if_neg (show ¬ k = mtt a b n by omega)]; split <;> first | omega | (rename_i x; exact absurd x (by decide))
/-- The rates. -/
def mU (a b : List Int) (n i : Nat) : Rat := if i = 0 then mU0 a b n else mU1 a b n
theorem frac_of {x : Rat} {al Z : Int} (ha : 0 < al) (e : x * (al : Rat) = (Z : Rat)) : x = Rat.divInt Z al := by
  have p := cast_pos ha
  refine eq_of_mul_r (c := (al : Rat)) ?_ p
  rw [e, Rat.divInt_eq_div, div_mul_ p]
theorem Rep.u_in {al be Z : Int} (R : Rep a b n al be Z) (i : Nat) : inR (mU a b n i) ∧ 0 < mU a b n i := by
  have a0 := R.a0; have a1 := R.a1; have b0 := R.b0; have b1 := R.b1; have z0 := R.z0; have z1 := R.z1
  unfold mU
  split
  · rw [frac_of R.a0 R.u0]; exact ⟨inR_frac (by omega) (by omega) (by omega) (by omega), (frac_lt R.a0).1.2 R.z0⟩
  · rw [frac_of R.b0 R.u1]; exact ⟨inR_frac (by omega) (by omega) (by omega) (by omega), (frac_lt R.b0).1.2 R.z0⟩
theorem own_sq (h : MkOk a b n) {g : Nat} (hg : g < n) : 0 < sq a b n g ↔ 0 < (gR (mSh a b n) g).n := q_lt0 (h.sh_ok hg).1
/-- The price of a good. -/
def mOwn (a b : List Int) (n g : Nat) : Nat := if 0 < (gR (mSh a b n) g).n then 0 else 1
def mVal (a b : List Int) (n g : Nat) : Int := if 0 < (gR (mSh a b n) g).n then gi a g else gi b g
def mPr (a b : List Int) (n g : Nat) : Rt := divR ⟨mVal a b n g, 1⟩ (mkR (mU a b n (mOwn a b n g)))
def mPs (a b : List Int) (n : Nat) : List Rt := (List.range n).map (mPr a b n)
def mE (a b : List Int) (n : Nat) : Nat → Rat := eqP (fun g => (gi a g : Rat)) (fun g => (gi b g : Rat)) (sq a b n) (mU0 a b n) (mU1 a b n)
theorem ps_len : (mPs a b n).length = n := by simp [mPs]
theorem ps_at {g : Nat} (h : g < n) : gR (mPs a b n) g = mPr a b n g := gR_map h
theorem ratio_of {v u Z al : Int} {U : Rat} (z : 0 < Z) (hu : 0 < U) (e : U * (al : Rat) = (Z : Rat)) : (v : Rat) / U = Rat.divInt (v * al) Z := by
  have p := cast_pos z
  refine eq_of_mul_r (c := (Z : Rat)) ?_ p
  rw [Rat.divInt_eq_div, div_mul_ p, ← e, Rat.intCast_mul]
  have k : (v : Rat) / U * U = (v : Rat) := div_mul_ hu
  have : (v : Rat) / U * (U * (al : Rat)) = (v : Rat) / U * U * (al : Rat) := by grind
  rw [this, k]
theorem MkOk.mE_eq (h : MkOk a b n) {g : Nat} (hg : g < n) : mE a b n g = (mVal a b n g : Rat) / mU a b n (mOwn a b n g) := by
  unfold mE eqP mVal mOwn mU
  by_cases c : 0 < sq a b n g
  · rw [if_pos c, if_pos ((own_sq h hg).1 c), if_pos ((own_sq h hg).1 c), if_pos rfl]
  · rw [if_neg c, if_neg (fun k => c ((own_sq h hg).2 k)), if_neg (fun k => c ((own_sq h hg).2 k)), if_neg (by decide)]
/-- The prices as fractions of one number. -/
theorem MkOk.pr (h : MkOk a b n) {al be Z : Int} (R : Rep a b n al be Z) {g : Nat} (hg : g < n) :
    ∃ c : Int, 0 < c ∧ c ≤ 10000000 ∧ mE a b n g = Rat.divInt c Z ∧ mPr a b n g = mkR (mE a b n g) ∧ (mPr a b n g).Ok ∧ (mPr a b n g).q = mE a b n g ∧ divC ⟨mVal a b n g, 1⟩ (mkR (mU a b n (mOwn a b n g))) = 0 := by
  have a0 := R.a0; have a1 := R.a1; have b0 := R.b0; have b1 := R.b1; have z0 := R.z0; have z1 := R.z1
  have va := h.a0 g hg; have vb := h.b0 g hg; have ab := h.ab g hg
  have key : ∃ c : Int, 0 < c ∧ c ≤ 10000000 ∧ (mVal a b n g : Rat) / mU a b n (mOwn a b n g) = Rat.divInt c Z ∧ (0 ≤ mVal a b n g ∧ mVal a b n g ≤ 1000) := by
    by_cases c : 0 < sq a b n g
    · have e1 : mVal a b n g = gi a g := by unfold mVal; rw [if_pos ((own_sq h hg).1 c)]
      have e2 : mU a b n (mOwn a b n g) = mU0 a b n := by unfold mOwn mU; rw [if_pos ((own_sq h hg).1 c), if_pos rfl]
      have pu : 0 < mU0 a b n := (R.u_in 0).2
      have bu := R.buy0 g hg c
      have pa : 0 < gi a g := by
        rcases Int.lt_or_le 0 (gi a g) with q | q
        · exact q
        · exfalso
          have z : gi a g = 0 := by omega
          rw [z, Int.zero_mul] at bu
          have := Int.mul_pos (show 0 < gi b g by omega) b0; omega
      refine ⟨gi a g * al, Int.mul_pos pa a0, ?_, ?_, ?_⟩
      · have := prod_le (p := 1000) (q := 10000) va.1 va.2 (show 0 ≤ al by omega) a1; omega
      · rw [e1, e2]; exact ratio_of (u := 0) z0 pu R.u0
      · rw [e1]; exact va
    · have e1 : mVal a b n g = gi b g := by unfold mVal; rw [if_neg (fun k => c ((own_sq h hg).2 k))]
      have e2 : mU a b n (mOwn a b n g) = mU1 a b n := by unfold mOwn mU; rw [if_neg (fun k => c ((own_sq h hg).2 k)), if_neg (by decide)]
      have pu : 0 < mU1 a b n := (R.u_in 1).2
      have bu := R.buy1 g hg (by have := (h.sq_bd hg).1; grind)
      have pa : 0 < gi b g := by
        rcases Int.lt_or_le 0 (gi b g) with q | q
        · exact q
        · exfalso
          have z : gi b g = 0 := by omega
          rw [z, Int.zero_mul] at bu
          have := Int.mul_pos (show 0 < gi a g by omega) a0; omega
      refine ⟨gi b g * be, Int.mul_pos pa b0, ?_, ?_, ?_⟩
      · have := prod_le (p := 1000) (q := 10000) vb.1 vb.2 (show 0 ≤ be by omega) b1; omega
      · rw [e1, e2]; exact ratio_of (u := 0) z0 pu R.u1
      · rw [e1]; exact vb
  obtain ⟨c, c0, c1, ec, vv⟩ := key
  have ui := R.u_in (mOwn a b n g)
  have uo := mkR_ok ui.1
  have un : (mkR (mU a b n (mOwn a b n g))).n ≠ 0 := by
    have := (q_lt0 uo).1 (by rw [q_mkR ui.1]; exact ui.2); omega
  have dv := div_ok (code2_ok (whole_ok (n := mVal a b n g) (by omega) (by omega)) uo) un
  rw [whole_q, q_mkR ui.1, ← h.mE_eq hg] at dv
  rw [← h.mE_eq hg] at ec
  have i : inR (mE a b n g) := by rw [ec]; exact inR_frac (by omega) (by omega) (by omega) (by omega)
  have e : mPr a b n g = mkR (mE a b n g) := dv.1
  refine ⟨c, c0, c1, ec, e, by rw [e]; exact mkR_ok i, by rw [e]; exact q_mkR i, ?_⟩
  rw [dv.2]; unfold mkC; rw [if_pos i]
theorem MkOk.pay (h : MkOk a b n) : Pay (fun g => (gi a g : Rat)) (fun g => (gi b g : Rat)) n (sq a b n) (mU0 a b n) (mU1 a b n) (mE a b n) := h.eqm.pay
theorem MkOk.acc (h : MkOk a b n) : Acc (fun g => (gi a g : Rat)) (fun g => (gi b g : Rat)) n (sq a b n) (mE a b n) := by
  obtain ⟨al, be, Z, R⟩ := h.rep
  refine h.pay.acc fun g hg => ?_
  obtain ⟨c, c0, _, ec, _⟩ := h.pr R hg
  rw [ec]; exact (frac_lt R.z0).1.2 c0
end
/-- The rates are what the shares are worth. -/
theorem sh_worth {bs : List (List Int)} (h : mkCode bs = 0) {i : Nat} (hi : i < 2) :
    worthS bs (mSh (gr bs 0) (gr bs 1) (gr bs 0).length) i = some (mkR (mU (gr bs 0) (gr bs 1) (gr bs 0).length i)) := by
  obtain ⟨_, m⟩ := mk_ok h
  have k := (worth_some h m.sh_valid m.sh_plain hi).1
  rw [k]
  match i, hi with
  | 0, _ => rfl
  | 1, _ => rfl
theorem mulF {c x Z D : Int} (hZ : 0 < Z) (hD : 0 < D) : Rat.divInt c Z * Rat.divInt x D = Rat.divInt (c * x) (Z * D) := Rat.divInt_mul_divInt _ _ 
/-- Prices and shares of small numbers that pay are accepted. -/
theorem accB_of {bs : List (List Int)} (h : mkCode bs = 0) {p l : List Rt} {c : Nat → Int} {Z : Int} (hv : validB (gr bs 0).length l = true) (hpl : plainB l = true) (hp : p.length = (gr bs 0).length)
    (pc : ∀ g, g < (gr bs 0).length → (gR p g).Ok ∧ (gR p g).q = Rat.divInt (c g) Z ∧ 0 < c g ∧ c g ≤ 10000000) (z0 : 0 < Z) (z1 : Z ≤ 100000000)
    (A : Acc (fun g => (gi (gr bs 0) g : Rat)) (fun g => (gi (gr bs 1) g : Rat)) (gr bs 0).length (fun g => (gR l g).q) (fun g => (gR p g).q)) : accB bs p l = true := by
  obtain ⟨_, m⟩ := mk_ok h
  obtain ⟨hl, hs⟩ := valid_ok hv
  obtain ⟨D, x, G⟩ := grid hv hpl
  refine acc_all hv hp (anyq_none fun j hj => ?_) fun i hi => ?_
  · obtain ⟨o, e, c0, _⟩ := pc j (by omega)
    have : 0 < (gR p j).n := (q_lt0 o).1 (by rw [e]; exact (frac_lt z0).1.2 c0)
    unfold badB
    rw [decide_eq_true (Rt.code_ok o), decide_eq_true (show 1 ≤ (gR p j).n by omega)]; rfl
  · have GP := G.part i
    have d0 := GP.d0; have d1 := GP.d1
    have RB := row_bd h hi
    have P := fun g (hg : g < (gr bs 0).length) => part_ok (hs g hg).1 (hs g hg).2.1 (hs g hg).2.2 i
    have zd := prod_le (p := 100000000) (q := 2000000) (show 0 ≤ Z by omega) z1 (show 0 ≤ D by omega) d1
    have zd0 : 0 < Z * D := Int.mul_pos z0 d0
    have CX := fun g (hg : g < (gr bs 0).length) => prod_le (p := 10000000) (q := 2000000) (show 0 ≤ c g by have := (pc g hg).2.2.1; omega) (pc g hg).2.2.2 (GP.x0 g hg) (show px i D (x g) ≤ 2000000 by have := GP.x1 g hg; omega)
    have e1 : ∀ g, g < (gr bs 0).length → (gR p g).q * (partR i (gR l g)).q = Rat.divInt (c g * px i D (x g)) (Z * D) := fun g hg => by
      rw [(P g hg).2, (pc g hg).2.1, show pq i (gR l g).q = Rat.divInt _ D from GP.eq g hg, mulF z0 d0]
    have n10 := m.n10
    have e2 : ∀ k, k ≤ (gr bs 0).length → sumQ (fun g => (gR p g).q * (partR i (gR l g)).q) k = Rat.divInt (sumTo (fun g => c g * px i D (x g)) k) (Z * D) := fun k hk => by
      rw [← sumQ_frac _ (by omega)]
      exact sumQ_congr fun g hg => e1 g (by omega)
    have e3 : ∀ k, k ≤ (gr bs 0).length → inR (sumQ (fun g => (gR p g).q * (partR i (gR l g)).q) k) := fun k hk => by
      rw [e2 k hk]
      have := sumTo_bd (f := fun g => c g * px i D (x g)) (lo := 0) (hi := 20000000000000) (k := k) (fun g hg => by have := CX g (by omega); omega)
      exact inR_frac zd0 (by omega) (by omega) (by omega)
    have t := totS_in (f := gR p) (h := fun g => partR i (gR l g)) (n := (gr bs 0).length) (fun k hk => ⟨(pc k hk).1, (P k hk).1, by
      rw [e1 k hk]; have := CX k hk; exact inR_frac zd0 (by omega) (by omega) (by omega)⟩) e3
    have one : sumQ (fun g => (gR p g).q * (partR i (gR l g)).q) (gr bs 0).length = 1 := by
      rw [sumQ_congr (g := fun g => (gR p g).q * pq i (gR l g).q) (fun g hg => by rw [(P g hg).2])]
      match i, hi with
      | 0, _ => exact A.pay0
      | 1, _ => exact A.pay1
    have m1 : mkR 1 = ⟨1, 1⟩ := by rw [← q_one]; exact mkR_q ok_one
    unfold acc1
    rw [Bool.and_eq_true]
    constructor
    · unfold paysB; rw [t, one, m1]; rfl
    · rw [buys_iff]
      intro g hg k hk hn
      have V := RB.2
      have gp := (pc g hg); have kp := (pc k hk)
      have wo := fun g (hg : g < (gr bs 0).length) => whole_ok (n := gi (gr bs i) g) (by have := V g hg; omega) (by have := V g hg; omega)
      have inp : ∀ g k, g < (gr bs 0).length → k < (gr bs 0).length → inR ((gR p g).q * Rt.q ⟨gi (gr bs i) k, 1⟩) := fun g k hg hk => by
        rw [whole_q, (pc g hg).2.1, Rat.mul_comm, int_mul_frac]
        have b := prod_le (p := 1000) (q := 10000000) (V k hk).1 (V k hk).2 (show 0 ≤ c g by have := (pc g hg).2.2.1; omega) (pc g hg).2.2.2
        exact inR_frac z0 (by omega) (by omega) (by omega)
      have m1 := mul_in kp.1 (wo g hg) (inp k g hk hg)
      have m2 := mul_in gp.1 (wo k hk) (inp g k hg hk)
      unfold betB
      rw [m1.1, m2.1, m1.2, m2.2]
      have lt : ltB (mkR ((gR p k).q * Rt.q ⟨gi (gr bs i) g, 1⟩)) (mkR ((gR p g).q * Rt.q ⟨gi (gr bs i) k, 1⟩)) = false := by
        unfold ltB
        rw [q_mkR (inp k g hk hg), q_mkR (inp g k hg hk), whole_q, whole_q]
        refine decide_eq_false (Rat.not_lt.2 ?_)
        have pos : 0 < pq i (gR l g).q := by rw [← (P g hg).2]; exact (q_lt0 (P g hg).1).2 hn
        match i, hi with
        | 0, _ => exact A.buy0 g hg pos k hk
        | 1, _ => exact A.buy1 g hg pos k hk
      rw [lt]; rfl
/-- What is accepted pays. -/
theorem acc_of {bs : List (List Int)} (h : mkCode bs = 0) {p l : List Rt} (ha : accB bs p l = true) : p.length = (gr bs 0).length ∧ validB (gr bs 0).length l = true ∧ (∀ g, g < (gr bs 0).length → (gR p g).Ok) ∧
    Acc (fun g => (gi (gr bs 0) g : Rat)) (fun g => (gi (gr bs 1) g : Rat)) (gr bs 0).length (fun g => (gR l g).q) (fun g => (gR p g).q) := by
  obtain ⟨_, m⟩ := mk_ok h
  unfold accB at ha
  simp only [Bool.and_eq_true, decide_eq_true_eq, Bool.not_eq_true'] at ha
  obtain ⟨⟨⟨⟨hv, hp⟩, hb⟩, h0⟩, h1⟩ := ha
  obtain ⟨hl, hs⟩ := valid_ok hv
  have PO := prices_ok hb
  have PK := fun g (hg : g < (gr bs 0).length) => PO g (by omega)
  have P := fun g (hg : g < (gr bs 0).length) i => part_ok (hs g hg).1 (hs g hg).2.1 (hs g hg).2.2 i
  have half : ∀ i : Nat, acc1 bs p l i (gr bs 0).length = true → sumQ (fun g => (gR p g).q * pq i (gR l g).q) (gr bs 0).length = 1 ∧ ∀ g, g < (gr bs 0).length → 0 < pq i (gR l g).q → ∀ k, k < (gr bs 0).length → (gR p g).q * (gi (gr bs i) k : Rat) ≤ (gR p k).q * (gi (gr bs i) g : Rat) := by
    intro i hi
    unfold acc1 at hi
    rw [Bool.and_eq_true] at hi
    obtain ⟨pa, bu⟩ := hi
    constructor
    · unfold paysB at pa
      cases e : totS (gR p) (fun g => partR i (gR l g)) (gr bs 0).length with
      | none => rw [e] at pa; simp at pa
      | some s =>
        rw [e] at pa
        simp only [decide_eq_true_eq] at pa
        have := (totS_q e).2
        rw [pa, q_one] at this
        rw [this]
        exact sumQ_congr fun g hg => by rw [(P g hg i).2]
    · rw [buys_iff] at bu
      intro g hg pos k hk
      have b := bu g hg k hk ((q_lt0 (P g hg i).1).1 (by rw [(P g hg i).2]; exact pos))
      unfold betB at b
      simp only [Bool.or_eq_false_iff, decide_eq_false_iff_not, Decidable.not_not] at b
      obtain ⟨⟨m1, m2⟩, lt⟩ := b
      have k1 := mul_zero_ok m1
      have k2 := mul_zero_ok m2
      unfold ltB at lt
      rw [decide_eq_false_iff_not, k1.2.2.2, k2.2.2.2, whole_q, whole_q] at lt
      exact Rat.not_lt.1 lt
  obtain ⟨p0, b0⟩ := half 0 h0
  obtain ⟨p1, b1⟩ := half 1 h1
  refine ⟨hp, hv, fun g hg => (PK g hg).1, ?_⟩
  exact ⟨fun g hg => (q_le0 (hs g hg).1).2 (hs g hg).2.1, fun g hg => (q_le1 (hs g hg).1).2 (hs g hg).2.2, fun g hg => (q_lt0 (PK g hg).1).2 (by have := (PK g hg).2; omega), p0, p1, b0, b1⟩
/-- The equilibrium is accepted. -/
theorem sh_accept {bs : List (List Int)} (h : mkCode bs = 0) : accB bs (mPs (gr bs 0) (gr bs 1) (gr bs 0).length) (mSh (gr bs 0) (gr bs 1) (gr bs 0).length) = true := by
  obtain ⟨_, m⟩ := mk_ok h
  obtain ⟨al, be, Z, R⟩ := m.rep
  have C := fun g (hg : g < (gr bs 0).length) => m.pr R hg
  have A := m.acc
  refine accB_of (c := fun g => if hg : g < (gr bs 0).length then (C g hg).choose else 0) h m.sh_valid m.sh_plain ps_len (fun g hg => ?_) R.z0 R.z1 ?_
  · simp only [dif_pos hg]
    obtain ⟨c0, c1, ec, _, ok, q, _⟩ := (C g hg).choose_spec
    rw [ps_at hg]
    exact ⟨ok, q.trans ec, c0, c1⟩
  · have e : ∀ g, g < (gr bs 0).length → (gR (mPs (gr bs 0) (gr bs 1) (gr bs 0).length) g).q = mE (gr bs 0) (gr bs 1) (gr bs 0).length g := fun g hg => by
      obtain ⟨_, _, _, _, _, _, q, _⟩ := C g hg
      rw [ps_at hg]; exact q
    exact ⟨A.s0, A.s1, fun g hg => by show 0 < (gR _ g).q; rw [e g hg]; exact A.pos g hg, by refine Eq.trans ?_ A.pay0; exact sumQ_congr fun g hg => by show (gR _ g).q * _ = _; rw [e g hg]; rfl, by refine Eq.trans ?_ A.pay1; exact sumQ_congr fun g hg => by show (gR _ g).q * _ = _; rw [e g hg]; rfl,
      fun g hg hs k hk => by show (gR _ g).q * _ ≤ (gR _ k).q * _; rw [e g hg, e k hk]; exact A.buy0 g hg hs k hk, fun g hg hs k hk => by show (gR _ g).q * _ ≤ (gR _ k).q * _; rw [e g hg, e k hk]; exact A.buy1 g hg hs k hk⟩
end Go.Proofs.Ytpijllobpohpgaa
