/- What a division is worth to each of two: plain. -/
import Derived.Test.YtcjfcfgkejoeeaaAdP
import Derived.Test.YtcjfcfgkejoeeaaMkP
namespace Go.Proofs.Ytcjfcfgkejoeeaa
set_option linter.unusedVariables false
set_option linter.unusedSimpArgs false

/-- A number over a denominator has a ratio if both are small. -/
theorem inR_divInt {n d : Int} (hd : 0 < d) (hd' : d ≤ 1000000000000000000) (h0 : -1000000000000000000 ≤ n) (h1 : n ≤ 1000000000000000000) : inR (Rat.divInt n d) := by
  have M := makeOf (n := n) (d := d) (by omega)
  have e := M.eq
  rw [e]
  have := M.N0; have := M.Nl; have D0 := M.D0; have := M.Dl
  rw [mk_pair D0 M.cop]
  unfold absI at *
  split <;> omega
theorem mkR_divInt {n d : Int} (hd : 0 < d) (hd' : d ≤ 1000000000000000000) (h0 : -1000000000000000000 ≤ n) (h1 : n ≤ 1000000000000000000) : (mkR (Rat.divInt n d)).Ok ∧ (mkR (Rat.divInt n d)).q = Rat.divInt n d ∧ mkC (Rat.divInt n d) = 0 := by
  have h := inR_divInt hd hd' h0 h1
  exact ⟨mkR_ok h, q_mkR h, by unfold mkC; rw [if_pos h]⟩
theorem of_ok {n : Int} (h0 : -1000000000000000000 ≤ n) (h1 : n ≤ 1000000000000000000) : Rt.Ok ⟨n, 1⟩ := by
  refine ⟨?_, ?_, ?_, ?_, ?_⟩ <;> (try simp only) <;> first | omega | (unfold gcdI; simp)
theorem of_q (n : Int) : Rt.q ⟨n, 1⟩ = Rat.divInt n 1 := rfl
theorem divInt_add {a b d : Int} (hd : d ≠ 0) : Rat.divInt a d + Rat.divInt b d = Rat.divInt (a + b) d := by
  rw [Rat.divInt_add_divInt _ _ hd hd, ← Int.add_mul, Rat.divInt_mul_right hd]
theorem divInt_mul_of {a n d : Int} : Rat.divInt a 1 * Rat.divInt n d = Rat.divInt (a * n) d := by
  rw [Rat.divInt_mul_divInt, Int.one_mul]
theorem divInt_one {a d : Int} (hd : d ≠ 0) : Rat.divInt a 1 = Rat.divInt (a * d) d := by
  have := Rat.divInt_mul_right (n := a) (d := 1) hd
  rw [Int.one_mul] at this
  exact this.symm

/-- What a good is worth to an agent, times the denominator of the part. -/
def Pt.term (bs : List (List Int)) (d : Pt) (i : Nat) (j : Nat) : Int :=
  if (j : Int) = d.sp then gi (gr bs i) j * (if i = 0 then d.p.n else d.p.d - d.p.n) else if gi d.ow j = i then gi (gr bs i) j * d.p.d else 0
def Pt.sum (bs : List (List Int)) (d : Pt) (i : Nat) (k : Nat) : Int := sumTo (d.term bs i) k
/-- What it has in all. -/
def Pt.val (bs : List (List Int)) (d : Pt) (i : Nat) : Rt := mkR (Rat.divInt (d.sum bs i d.ow.length) d.p.d)

/-- A division in order, as the values are reckoned. -/
structure PtOk (bs : List (List Int)) (d : Pt) (n : Nat) : Prop where
  ad : AdOk bs n
  len : d.ow.length = n
  ow : ∀ k, k < n → gi d.ow k = 0 ∨ gi d.ow k = 1
  p : d.p.Ok
  n0 : 0 ≤ d.p.n
  n1 : d.p.n ≤ d.p.d
  d1 : d.p.d ≤ 1000000
theorem ptOk {bs : List (List Int)} {d : Pt} (h : d.code bs = 0) : PtOk bs d (gr bs 0).length := by
  obtain ⟨h1, h2, h3⟩ := pt_ok h
  have A := ad_ok h1
  have L := h2.1.1
  refine ⟨A, L, ?_, ?_, ?_, ?_, ?_⟩
  · intro k hk
    have a := h2.1.2 k (by omega)
    have b := h2.2 k (by omega)
    have := A.two
    omega
  all_goals rcases h3 with ⟨_, e⟩ | ⟨_, hs, hp⟩
  · rw [e]; exact of_ok (by omega) (by omega)
  · exact Rt.ok_code hp.1
  · rw [e]; decide
  · have := hp.2.1; omega
  · rw [e]; decide
  · have := hp.2.2.1; omega
  · rw [e]; decide
  · exact hp.2.2.2
section
variable {bs : List (List Int)} {d : Pt} {n : Nat}
theorem PtOk.v (h : PtOk bs d n) {i : Nat} (hi : i < 2) {k : Nat} (hk : k < n) : 0 ≤ gi (gr bs i) k ∧ gi (gr bs i) k ≤ 1000 := by
  match i, hi with
  | 0, _ => exact h.ad.v0 k hk
  | 1, _ => exact h.ad.v1 k hk
theorem PtOk.d0 (h : PtOk bs d n) : 1 ≤ d.p.d := h.p.d0
theorem prod_bd {a b : Int} (h0 : 0 ≤ a) (h1 : a ≤ 1000) (k0 : 0 ≤ b) (k1 : b ≤ 1000000) : 0 ≤ a * b ∧ a * b ≤ 1000000000 := by
  have := Int.mul_nonneg h0 k0
  have : a * b ≤ 1000 * 1000000 := Int.mul_le_mul h1 k1 k0 (by omega)
  omega
theorem PtOk.term_bd (h : PtOk bs d n) {i : Nat} (hi : i < 2) {k : Nat} (hk : k < n) : 0 ≤ d.term bs i k ∧ d.term bs i k ≤ 1000000000 := by
  have v := h.v hi hk
  have := h.d0; have := h.d1; have := h.n0; have := h.n1
  unfold Pt.term
  split
  · split
    · exact prod_bd v.1 v.2 (by omega) (by omega)
    · exact prod_bd v.1 v.2 (by omega) (by omega)
  · split
    · exact prod_bd v.1 v.2 (by omega) (by omega)
    · omega
theorem PtOk.sum_bd (h : PtOk bs d n) {i : Nat} (hi : i < 2) {k : Nat} (hk : k ≤ n) : 0 ≤ d.sum bs i k ∧ d.sum bs i k ≤ 10000000000 := by
  have := sumTo_bd (f := d.term bs i) (lo := 0) (hi := 1000000000) (k := k) (fun j hj => h.term_bd hi (by omega))
  have := h.ad.n10
  unfold Pt.sum; omega
theorem Pt.sum_succ (bs : List (List Int)) (d : Pt) (i k : Nat) : d.sum bs i (k + 1) = d.sum bs i k + d.term bs i k := rfl
/-- Make of a sum is the value. -/
theorem PtOk.make (h : PtOk bs d n) (i : Nat) : makeR (d.sum bs i n) d.p.d = d.val bs i := by
  have := h.d0
  unfold makeR Pt.val; rw [if_neg (by omega), h.len]
/-- The sum so far, as a ratio. -/
def Pt.upTo (bs : List (List Int)) (d : Pt) (i k : Nat) : Rt := mkR (Rat.divInt (d.sum bs i k) d.p.d)
theorem PtOk.up (h : PtOk bs d n) {i : Nat} (hi : i < 2) {k : Nat} (hk : k ≤ n) : (d.upTo bs i k).Ok ∧ (d.upTo bs i k).q = Rat.divInt (d.sum bs i k) d.p.d := by
  have s := h.sum_bd hi hk
  have := h.d0; have := h.d1
  have := mkR_divInt (n := d.sum bs i k) (d := d.p.d) (by omega) (by omega) (by omega) (by omega)
  exact ⟨this.1, this.2.1⟩
theorem PtOk.up_zero (h : PtOk bs d n) (i : Nat) : d.upTo bs i 0 = ⟨0, 1⟩ := by
  have := h.d0
  unfold Pt.upTo Pt.sum
  have e : Rat.divInt (sumTo (d.term bs i) 0) d.p.d = Rat.divInt 0 1 := by simp [sumTo]
  rw [e]
  exact (mkR_pair (by omega) rfl (by omega)).1
theorem PtOk.up_last (h : PtOk bs d n) (i : Nat) : d.upTo bs i n = d.val bs i := by unfold Pt.upTo Pt.val; rw [h.len]
/-- The part of agent i. -/
def Pt.part (d : Pt) (i : Nat) : Rt := if i = 0 then d.p else ⟨d.p.d - d.p.n, d.p.d⟩
theorem PtOk.part_ok (h : PtOk bs d n) (i : Nat) : (d.part i).Ok := by
  have := h.d0; have := h.d1; have := h.n0; have := h.n1
  unfold Pt.part
  split
  · exact h.p
  · refine ⟨?_, ?_, ?_, ?_, ?_⟩ <;> simp only <;> try omega
    have g := h.p.g
    unfold gcdI at *
    have e : Int.gcd (d.p.d - d.p.n) d.p.d = Int.gcd d.p.n d.p.d := by
      rw [Int.gcd_comm, Int.gcd_comm d.p.n, Int.gcd_self_sub_right]
    rw [e]; exact g
theorem PtOk.part_sub (h : PtOk bs d n) : subR ⟨1, 1⟩ d.p = d.part 1 := by
  have o1 := of_ok (n := 1) (by omega) (by omega)
  rw [(sub_ok (code2_ok o1 h.p)).1]
  have hp := h.part_ok 1
  have := h.d0
  have e : Rt.q ⟨1, 1⟩ - d.p.q = (d.part 1).q := by
    unfold Pt.part Rt.q
    simp only [Nat.one_ne_zero, if_false]
    rw [Rat.sub_eq_add_neg, Rat.neg_divInt, divInt_one (a := 1) (d := d.p.d) (by omega), divInt_add (by omega)]
    congr 1; omega
  rw [e, mkR_q hp]
/-- A good's share, as a ratio. -/
theorem PtOk.term_split (h : PtOk bs d n) {i : Nat} (hi : i < 2) {k : Nat} (hk : k < n) (e : (k : Int) = d.sp) : (mulR ⟨gi (gr bs i) k, 1⟩ (d.part i)).Ok ∧ (mulR ⟨gi (gr bs i) k, 1⟩ (d.part i)).q = Rat.divInt (d.term bs i k) d.p.d := by
  have v := h.v hi hk
  have o1 := of_ok (n := gi (gr bs i) k) (by omega) (by omega)
  rw [(mul_ok (code2_ok o1 (h.part_ok i))).1]
  have t := h.term_bd hi hk
  have := h.d0; have := h.d1
  have e2 : Rt.q ⟨gi (gr bs i) k, 1⟩ * (d.part i).q = Rat.divInt (d.term bs i k) d.p.d := by
    unfold Pt.term Pt.part Rt.q
    rw [if_pos e]
    split <;> simp only [divInt_mul_of]
  rw [e2]
  have m := mkR_divInt (n := d.term bs i k) (d := d.p.d) (by omega) (by omega) (by omega) (by omega)
  exact ⟨m.1, m.2.1⟩
theorem PtOk.term_whole (h : PtOk bs d n) {i : Nat} (hi : i < 2) {k : Nat} (hk : k < n) (e : (k : Int) ≠ d.sp) (eo : gi d.ow k = i) : Rt.Ok ⟨gi (gr bs i) k, 1⟩ ∧ Rt.q ⟨gi (gr bs i) k, 1⟩ = Rat.divInt (d.term bs i k) d.p.d := by
  have v := h.v hi hk
  have := h.d0
  refine ⟨of_ok (by omega) (by omega), ?_⟩
  unfold Pt.term Rt.q
  rw [if_neg e, if_pos eo]
  exact divInt_one (by omega)
theorem PtOk.term_none (h : PtOk bs d n) {i k : Nat} (e : (k : Int) ≠ d.sp) (eo : gi d.ow k ≠ i) : d.upTo bs i (k + 1) = d.upTo bs i k := by
  unfold Pt.upTo; rw [Pt.sum_succ]; unfold Pt.term; rw [if_neg e, if_neg eo, Int.add_zero]
theorem PtOk.add (h : PtOk bs d n) {i : Nat} (hi : i < 2) {k : Nat} (hk : k < n) {x : Rt} (ox : x.Ok) (ex : x.q = Rat.divInt (d.term bs i k) d.p.d) : addR (d.upTo bs i k) x = d.upTo bs i (k + 1) := by
  have u := h.up hi (show k ≤ n by omega)
  have := h.d0
  rw [(add_ok (code2_ok u.1 ox)).1, u.2, ex, divInt_add (by omega)]
  rfl
end
end Go.Proofs.Ytcjfcfgkejoeeaa
