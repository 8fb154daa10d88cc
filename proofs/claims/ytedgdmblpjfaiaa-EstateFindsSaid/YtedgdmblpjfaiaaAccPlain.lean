/- What Accept answers, and what reckon leaves to a caller. -/
import Derived.Test.YtedgdmblpjfaiaaReckonW
namespace Go.Proofs.Ytedgdmblpjfaiaa
open Go.RowKit
set_option linter.unusedVariables false
set_option linter.unusedSimpArgs false

theorem mul_bd {a x M : Int} (h0 : 0 ≤ a) (h1 : a ≤ 1000) (hl : -M ≤ x) (hh : x ≤ M) (hM : 0 ≤ M) : -(1000 * M) ≤ a * x ∧ a * x ≤ 1000 * M := by
  have e1 : a * x ≤ a * M := Int.mul_le_mul_of_nonneg_left hh h0
  have e2 : a * M ≤ 1000 * M := Int.mul_le_mul_of_nonneg_right h1 hM
  have e3 : a * (-M) ≤ a * x := Int.mul_le_mul_of_nonneg_left hl h0
  rw [Int.mul_neg] at e3
  omega

def ownOk (E : Est) (os : List Int) (k : Nat) : Bool := decide (0 ≤ gi os k) && decide (gi os k < (E.n : Int)) && decide (E.bid (gi os k).toNat k = E.bid (E.own k) k)
def fairAt (E : Est) (os ps : List Int) (i : Nat) : Bool := decide (E.claim i - E.S < E.S * (gi ps i + E.worthOf (gi os) i os.length))
def accB (E : Est) (os ps : List Int) : Bool :=
  decide (os.length = E.m) && (decide (ps.length = E.n) && ((List.range os.length).all (ownOk E os) && (!ps.any farB && ((List.range E.n).all (fairAt E os ps) && decide (sumTo (gi ps) ps.length = 0)))))
def accV (E : Est) (os ps : List Int) : Bool := decide (E.code = 0) && accB E os ps

section
variable {E : Est} {os ps : List Int}
theorem acc_code (h : E.code ≠ 0) : accV E os ps = false := by simp [accV, h]
theorem acc_len1 (h : os.length ≠ E.m) : accV E os ps = false := by simp [accV, accB, h]
theorem acc_len2 (h : ps.length ≠ E.n) : accV E os ps = false := by simp [accV, accB, h]
theorem all_false {p : Nat → Bool} {n k : Nat} (hk : k < n) (h : p k = false) : (List.range n).all p = false := by
  rw [List.all_eq_false]; exact ⟨k, by simpa using hk, by simp [h]⟩
theorem acc_own {k : Nat} (hk : k < os.length) (h : ownOk E os k = false) : accV E os ps = false := by simp only [accV, accB, all_false hk h]; simp
theorem acc_far (h : ps.any farB = true) : accV E os ps = false := by simp [accV, accB, h]
theorem acc_fair {i : Nat} (hi : i < E.n) (h : fairAt E os ps i = false) : accV E os ps = false := by simp only [accV, accB, all_false hi h]; simp
theorem acc_sum (hc : E.code = 0) (h1 : os.length = E.m) (h2 : ps.length = E.n) (h3 : ∀ k, k < os.length → ownOk E os k = true) (h4 : ps.any farB = false) (h5 : ∀ i, i < E.n → fairAt E os ps i = true) :
    accV E os ps = decide (sumTo (gi ps) ps.length = 0) := by
  have a : (List.range os.length).all (ownOk E os) = true := by rw [List.all_eq_true]; intro k hk; exact h3 k (by simpa using hk)
  have b : (List.range E.n).all (fairAt E os ps) = true := by rw [List.all_eq_true]; intro k hk; exact h5 k (by simpa using hk)
  unfold accV accB; rw [a, b, h4, decide_eq_true hc, decide_eq_true h1, decide_eq_true h2]; simp
theorem ownOk_neg {k : Nat} (h : gi os k < 0) : ownOk E os k = false := by unfold ownOk; rw [decide_eq_false (by omega : ¬ 0 ≤ gi os k)]; rfl
theorem ownOk_big {k : Nat} (h : (E.n : Int) ≤ gi os k) : ownOk E os k = false := by unfold ownOk; rw [decide_eq_false (by omega : ¬ gi os k < (E.n : Int))]; simp
theorem ownOk_ne {k o : Nat} (ho : gi os k = (o : Int)) (h : E.bid o k ≠ E.bid (E.own k) k) : ownOk E os k = false := by unfold ownOk; rw [ho]; simp [h]
theorem ownOk_yes {k o : Nat} (ho : gi os k = (o : Int)) (hn : o < E.n) (h : E.bid o k = E.bid (E.own k) k) : ownOk E os k = true := by unfold ownOk; rw [ho]; simp [h]; omega
theorem fair_no {i : Nat} (h : E.S * (gi ps i + E.worthOf (gi os) i os.length) ≤ E.claim i - E.S) : fairAt E os ps i = false := by unfold fairAt; rw [decide_eq_false_iff_not]; omega
theorem fair_yes {i : Nat} (h : ¬ E.S * (gi ps i + E.worthOf (gi os) i os.length) ≤ E.claim i - E.S) : fairAt E os ps i = true := by unfold fairAt; rw [decide_eq_true_iff]; omega
theorem far_not {x : Int} (h : farB x = false) : -1000000000 ≤ x ∧ x ≤ 1000000000 := by unfold farB at h; simp at h; exact h
theorem far_all (h : ps.any farB = false) {i : Nat} (hi : i < ps.length) : -1000000000 ≤ gi ps i ∧ gi ps i ≤ 1000000000 := by
  have := (List.any_eq_false.1 h) _ (gi_mem hi); exact far_not (by simpa using this)
theorem sum_far (h : ps.any farB = false) {k : Nat} (hk : k ≤ ps.length) : -1000000000 * (k : Int) ≤ sumTo (gi ps) k ∧ sumTo (gi ps) k ≤ 1000000000 * k :=
  sumTo_bd fun i hi => far_all h (by omega)
end

def worthsL (E : Est) : List Int := (List.range E.sh.length).map fun i => E.worth i E.m
theorem worthsL_length (E : Est) : (worthsL E).length = E.sh.length := by simp [worthsL]
theorem worthsL_gi {E : Est} {i : Nat} (h : i < E.sh.length) : gi (worthsL E) i = E.worth i E.m := by
  rw [gi_get (by rw [worthsL_length]; exact h)]; simp [worthsL]

/-- The reckoned estate at block g, for a caller. -/
structure Reck (w : World) (g : Nat) (E : Est) (A : Option Addr) (c : Nat) (R : Option Addr) (d : Nat) (O : Option Addr) (oc : Nat) (W : Option Addr) (wc : Nat) (C : Option Addr) (cc : Nat) : Prop where
  g : w.heap[g]? = some (.cells #[.slice A E.sh.length c, .slice R E.bd.length d, .int .i64 E.S, .slice O E.m oc, .slice W E.sh.length wc, .slice C E.sh.length cc] 57 (0, 0))
  ow : Ints w.heap.size w O (ownersL E E.m)
  wo : Ints w.heap.size w W (worthsL E)
  cl : Ints w.heap.size w C (claimsL E E.sh.length)

theorem Reck.next {w w' : World} {g : Nat} {E : Est} {A : Option Addr} {c : Nat} {R : Option Addr} {d : Nat} {O : Option Addr} {oc : Nat} {W : Option Addr} {wc : Nat} {C : Option Addr} {cc : Nat}
    (h : Reck w g E A c R d O oc W wc C cc) (hb : Below w.heap.size w w') : Reck w' g E A c R d O oc W wc C cc :=
  ⟨heap_ext h.g hb, h.ow.next hb, h.wo.next hb, h.cl.next hb⟩

theorem Reck.of {E : Est} {A : Option Addr} {c : Nat} {R : Option Addr} {d : Nat} {w w' : World} {e : Ending} (h : RkPost E A c R d w e w') :
    ∃ g O oc W wc C cc, e = .returned (.pointer (some ⟨g, 0, none⟩)) ∧ Reck w' g E A c R d O oc W wc C cc ∧ Below w.heap.size w w' := by
  obtain ⟨vO, vC, he, h⟩ := h
  obtain ⟨O, oc, rfl, _, _, hO⟩ := Ints.of_row (xs := ownersL E E.m) (by rw [ownersL_length]; exact h.ow)
  obtain ⟨C, cc, rfl, _, _, hC⟩ := Ints.of_row (xs := claimsL E E.n) (by rw [claimsL_length]; exact h.cl)
  refine ⟨_, O, oc, some ⟨w.heap.size + 1, 0, none⟩, E.sh.length, C, cc, he, ⟨?_, hO, ?_, hC⟩, h.below⟩
  · have := h.g
    rw [ownersL_length, claimsL_length] at this
    exact this
  · intro h0
    refine ⟨_, rfl, by have := lt_some h.g; simp; omega, fun k hk => ?_⟩
    rw [worthsL_length] at hk
    rw [worthsL_gi hk, add_mk, Nat.zero_add]
    exact h.ws.cell hk
end Go.Proofs.Ytedgdmblpjfaiaa
