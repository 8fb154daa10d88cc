/- The value function of a cake: no program in sight. -/
import Derived.Test.YtgcbmnohhbcfiaaCm1
import Derived.Test.YtgcbmnohhbcfiaaCm4
import Derived.Test.YtgcbmnohhbcfiaaCm2
import Derived.Lib.SmallJoins
import Derived.Deep.RegionHeld3
import Derived.Deep.DrawnRows
import Derived.Test.YtgcbmnohhbcfiaaCm3
import Derived.Test.YtgcbmnohhbcfiaaShelf
import Derived.Laws.Externs
import Derived.Shelf.Spec.BitsCarry
namespace Go.Proofs.Ytgcbmnohhbcfiaa
set_option linter.unusedVariables false
set_option linter.unusedSimpArgs false

def sumQ (f : Nat → Rat) : Nat → Rat
  | 0 => 0
  | k + 1 => sumQ f k + f k
theorem sumQ_congr {f g : Nat → Rat} : ∀ {k : Nat}, (∀ i, i < k → f i = g i) → sumQ f k = sumQ g k
  | 0, _ => rfl
  | k + 1, h => by rw [sumQ, sumQ, sumQ_congr (fun i hi => h i (by omega)), h k (by omega)]
theorem sumQ_sub (f g : Nat → Rat) : ∀ k, sumQ f k - sumQ g k = sumQ (fun i => f i - g i) k
  | 0 => by simp only [sumQ]; grind
  | k + 1 => by have := sumQ_sub f g k; simp only [sumQ]; grind
theorem sumQ_zero {f : Nat → Rat} : ∀ {k : Nat}, (∀ i, i < k → f i = 0) → sumQ f k = 0
  | 0, _ => rfl
  | k + 1, h => by rw [sumQ, sumQ_zero (fun i hi => h i (by omega)), h k (by omega)]; grind
theorem sumQ_nonneg {f : Nat → Rat} : ∀ {k : Nat}, (∀ i, i < k → 0 ≤ f i) → 0 ≤ sumQ f k
  | 0, _ => by simp [sumQ]
  | k + 1, h => by have := sumQ_nonneg (k := k) (fun i hi => h i (by omega)); have := h k (by omega); simp only [sumQ]; grind
theorem sumQ_single {f : Nat → Rat} {i : Nat} : ∀ {n : Nat}, i < n → (∀ j, j < n → j ≠ i → f j = 0) → sumQ f n = f i
  | 0, h, _ => by omega
  | n + 1, hi, h => by
    rw [sumQ]
    by_cases e : i = n
    · subst e; rw [sumQ_zero (fun j hj => h j (by omega) (by omega))]; grind
    · rw [sumQ_single (i := i) (by omega) (fun j hj => h j (by omega)), h n (by omega) (by omega)]; grind
theorem sumQ_int (f : Nat → Int) : ∀ k, sumQ (fun i => ((f i : Int) : Rat)) k = ((sumTo f k : Int) : Rat)
  | 0 => by simp [sumQ, sumTo]
  | k + 1 => by rw [sumQ, sumTo, sumQ_int f k, Rat.intCast_add]

theorem whole_q (n : Int) : (Rt.mk n 1).q = (n : Rat) := by unfold Rt.q; exact Rat.num_divInt_den (n : Rat)
theorem ltB_q {a b : Rt} (ha : a.Ok) (hb : b.Ok) : ltB a b = true ↔ a.q < b.q := by
  unfold ltB; rw [decide_eq_true_iff]
theorem ltB_qf {a b : Rt} (ha : a.Ok) (hb : b.Ok) : ltB a b = false ↔ b.q ≤ a.q := by
  rw [← Bool.not_eq_true, ltB_q ha hb, Rat.not_lt]
theorem num_q {a : Rt} (ha : a.Ok) : (0 ≤ a.n ↔ 0 ≤ a.q) ∧ (0 < a.n ↔ 0 < a.q) := by
  rw [← ha.num]
  refine ⟨Rat.num_nonneg, ?_⟩
  have := Rat.num_nonneg (q := -a.q)
  rw [Rat.neg_num] at this
  constructor
  · intro h; rcases Classical.em (0 < a.q) with k | k
    · exact k
    · have := this.2 (by grind); omega
  · intro h; rcases Int.lt_or_le 0 a.q.num with k | k
    · exact k
    · have := this.1 (by omega); grind
theorem inR_int {n : Int} (h0 : -1000000000000000000 ≤ n) (h1 : n ≤ 1000000000000000000) : inR (n : Rat) := by
  unfold inR; rw [Rat.num_intCast, Rat.den_intCast]; omega
theorem mkR_int {n : Int} (h0 : -1000000000000000000 ≤ n) (h1 : n ≤ 1000000000000000000) : mkR (n : Rat) = ⟨n, 1⟩ ∧ mkC (n : Rat) = 0 := by
  have h := inR_int h0 h1
  unfold mkR mkC; rw [if_pos h, if_pos h, Rat.num_intCast, Rat.den_intCast]; exact ⟨rfl, rfl⟩

/-- The value up to a point. -/
def Ck.V (K : Ck) (x : Rat) : Rat := sumQ (fun i => (gi K.dens i : Rat) * (min x (gi K.cuts (i + 1) : Rat) - min x (gi K.cuts i : Rat))) K.dens.length
theorem Ck.Ok.riseQ {K : Ck} (h : K.Ok) {i : Nat} (hi : i < K.dens.length) : (gi K.cuts i : Rat) < (gi K.cuts (i + 1) : Rat) := Rat.intCast_lt_intCast.2 (h.rise i hi)
theorem Ck.Ok.monoQ {K : Ck} (h : K.Ok) {i j : Nat} (hij : i ≤ j) (hj : j ≤ K.dens.length) : (gi K.cuts i : Rat) ≤ (gi K.cuts j : Rat) := Rat.intCast_le_intCast.2 (h.mono hij hj)
theorem Ck.Ok.fitQ {K : Ck} (h : K.Ok) {i : Nat} (hi : i < K.dens.length) : (0 : Rat) ≤ (gi K.dens i : Rat) := Rat.intCast_le_intCast.2 (h.fit i hi).1
theorem Ck.Ok.V_mono {K : Ck} (h : K.Ok) {x y : Rat} (hxy : x ≤ y) : K.V x ≤ K.V y := by
  have : 0 ≤ K.V y - K.V x := by
    unfold Ck.V
    rw [sumQ_sub]
    refine sumQ_nonneg fun i hi => ?_
    have r := h.riseQ hi
    have d := h.fitQ hi
    have e : 0 ≤ (min y (gi K.cuts (i + 1) : Rat) - min y (gi K.cuts i : Rat)) - (min x (gi K.cuts (i + 1) : Rat) - min x (gi K.cuts i : Rat)) := by grind
    have := Rat.mul_nonneg d e
    grind
  grind
/-- Within an interval the value grows by its density. -/
theorem Ck.Ok.V_in {K : Ck} (h : K.Ok) {i : Nat} (hi : i < K.dens.length) {x y : Rat} (h0 : (gi K.cuts i : Rat) ≤ x) (h1 : x ≤ y) (h2 : y ≤ (gi K.cuts (i + 1) : Rat)) : K.V y - K.V x = (gi K.dens i : Rat) * (y - x) := by
  unfold Ck.V
  rw [sumQ_sub, sumQ_single hi]
  · have r := h.riseQ hi
    have e1 : min y (gi K.cuts (i + 1) : Rat) - min y (gi K.cuts i : Rat) = y - (gi K.cuts i : Rat) := by grind
    have e2 : min x (gi K.cuts (i + 1) : Rat) - min x (gi K.cuts i : Rat) = x - (gi K.cuts i : Rat) := by grind
    rw [e1, e2]; grind
  · intro j hj hne
    have r := h.riseQ hj
    rcases Nat.lt_or_ge j i with k | k
    · have m := h.monoQ (show j + 1 ≤ i by omega) (by omega)
      have e1 : min y (gi K.cuts (j + 1) : Rat) - min y (gi K.cuts j : Rat) = min x (gi K.cuts (j + 1) : Rat) - min x (gi K.cuts j : Rat) := by grind
      rw [e1]; grind
    · have m := h.monoQ (show i + 1 ≤ j by omega) (by omega)
      have e1 : min y (gi K.cuts (j + 1) : Rat) - min y (gi K.cuts j : Rat) = min x (gi K.cuts (j + 1) : Rat) - min x (gi K.cuts j : Rat) := by grind
      rw [e1]; grind
theorem Ck.Ok.c0Q {K : Ck} (h : K.Ok) : (gi K.cuts 0 : Rat) = 0 := by rw [h.c0]; rfl
theorem Ck.Ok.cnQ {K : Ck} (h : K.Ok) : (gi K.cuts K.dens.length : Rat) = (K.len : Rat) := by rw [h.cn]
theorem Ck.Ok.V_zero {K : Ck} (h : K.Ok) : K.V 0 = 0 := by
  unfold Ck.V
  refine sumQ_zero fun i hi => ?_
  have m := h.monoQ (Nat.zero_le i) (by omega)
  have m' := h.monoQ (Nat.zero_le (i + 1)) (by omega)
  rw [h.c0Q] at m m'
  have e : min (0 : Rat) (gi K.cuts (i + 1) : Rat) - min (0 : Rat) (gi K.cuts i : Rat) = 0 := by grind
  rw [e]; grind
theorem Ck.Ok.V_cut {K : Ck} (h : K.Ok) {k : Nat} (hk : k ≤ K.dens.length) : K.V (gi K.cuts k : Rat) = ((K.upTo k : Int) : Rat) := by
  induction k with
  | zero => rw [h.c0Q, h.V_zero]; rfl
  | succ k ih =>
    have e := h.V_in (i := k) (by omega) (x := (gi K.cuts k : Rat)) (y := (gi K.cuts (k + 1) : Rat)) (by grind) (by have := h.riseQ (i := k) (by omega); grind) (by grind)
    rw [ih (by omega)] at e
    rw [Ck.upTo_succ, Rat.intCast_add, Rat.intCast_mul, Rat.intCast_sub]; grind
theorem Ck.Ok.V_len {K : Ck} (h : K.Ok) : K.V (K.len : Rat) = ((K.total : Int) : Rat) := by rw [← h.cnQ, h.V_cut (Nat.le_refl _)]; rfl
theorem Ck.Ok.total_bd {K : Ck} (h : K.Ok) : 1 ≤ K.total ∧ K.total ≤ 12 * K.len := by
  have a := h.upTo_bd (Nat.le_refl _)
  rw [h.cn] at a
  refine ⟨?_, a.2⟩
  obtain ⟨i, hi, hp⟩ := h.some
  have e : K.upTo (i + 1) ≤ K.upTo K.dens.length := by
    have : ∀ j, i + 1 ≤ j → j ≤ K.dens.length → K.upTo (i + 1) ≤ K.upTo j := by
      intro j
      induction j with
      | zero => omega
      | succ j ih =>
        intro h1 h2
        by_cases c : i + 1 = j + 1
        · rw [c]; exact Int.le_refl _
        · have := ih (by omega) (by omega)
          have p := (h.prod_bd (k := j) (by omega)).1
          have q := Ck.upTo_succ K j
          omega
    exact this _ (by omega) (Nat.le_refl _)
  have b := (h.upTo_bd (k := i) (by omega)).1
  have r := h.rise i hi
  have p : 1 ≤ gi K.dens i * (gi K.cuts (i + 1) - gi K.cuts i) := by
    have := Int.mul_pos hp (show 0 < gi K.cuts (i + 1) - gi K.cuts i by omega)
    omega
  have s := Ck.upTo_succ K i
  have t : K.total = K.upTo K.dens.length := rfl
  omega
end Go.Proofs.Ytgcbmnohhbcfiaa

namespace Go.Proofs.Ytgcbmnohhbcfiaa
open Go.RowKit Go.ChangeShapes Go.WideShapes Go.ChangeAt Go.Joins Go.Deep
set_option linter.unusedVariables false
set_option linter.unusedSimpArgs false

theorem cell_lt {w : World} {p : Addr} {v : Value} (h : w.cell? p = some v) : p.block < w.heap.size := by
  rcases Nat.lt_or_ge p.block w.heap.size with hlt | hge
  · exact hlt
  · unfold World.cell? at h; rw [Array.getElem?_eq_none hge] at h; simp at h

theorem take_getD (zs : List Int) (n k : Nat) (hk : k < n) : gi (zs.take n) k = zs.getD k 0 := by
  simp [gi, List.getD_eq_getElem?_getD, List.getElem?_take, hk]

theorem cells3 : Try.prog.cellsOf 3 = 1 := by kernel_rfl
section
variable {H : Type} {enc : TypeId × Value → H} {w : World} {held : Bool}

theorem open_ints_ {fuel : Nat} {cs : List Value} {x : DataW H × List MemPlace} (h : DataW.trod enc Try.prog w 0 (fun _ => true) held fuel 22 cs = some x) :
    ∃ (A : Option Addr) (c : Nat) (xs : List Int), cs = [.slice A xs.length c] ∧ xs.length ≤ c ∧ c ≤ maxLen ∧ Ints w.heap.size w A xs ∧ ∀ z ∈ xs, (Lit.int .i64 z).wf = true := by
  rcases open_ints Try.underlying22 Try.underlying3 cells3 h with ⟨rfl, _⟩ | ⟨a, len, cap, zs, rfl, _, hl, hm, hz, _, hc, hwf⟩
  · exact ⟨none, 0, [], rfl, Nat.le_refl _, by unfold maxLen; omega, Ints.nil_, by simp⟩
  · simp only [if_true] at hz
    have hlen : (zs.take len).length = len := by simp; omega
    refine ⟨some a, cap, zs.take len, by rw [hlen], by omega, hm, fun h0 => ⟨a, rfl, cell_lt (hc 0 (by omega)) |> fun h => by simpa [block_add] using h, fun k hk => ?_⟩, fun z hz => hwf z (List.mem_of_mem_take hz)⟩
    rw [take_getD _ _ _ (by omega)]
    exact hc k (by omega)

set_option maxRecDepth 100000 in
theorem open_list {v : Value} {d : DataW H} {p : List MemPlace} {r : Reach} {b0 : Nat} (hv : Value.okWide Try.prog w r b0 22 v) (h : DataW.Trod enc Try.prog w 0 (fun _ => true) held 22 v d p) :
    ∃ (A : Option Addr) (c : Nat) (xs : List Int), v = .slice A xs.length c ∧ xs.length ≤ c ∧ c ≤ maxLen ∧ Ints w.heap.size w A xs ∧ ∀ z ∈ xs, (Lit.int .i64 z).wf = true := by
  obtain ⟨a0, len, cap, rfl⟩ := okWide_slice Try.underlying22 hv
  obtain ⟨fuel, hf⟩ := h
  obtain ⟨A, c, xs, e, r1, r2, r3, r4⟩ := open_ints_ hf
  exact ⟨A, c, xs, List.singleton_inj.1 e, r1, r2, r3, r4⟩

end
theorem wf_i64 {x : Int} (h : (Lit.int .i64 x).wf = true) : -9223372036854775808 ≤ x ∧ x ≤ 9223372036854775807 := by
  simp only [Lit.wf, Bool.and_eq_true, decide_eq_true_eq] at h
  exact ⟨h.1, h.2⟩
end Go.Proofs.Ytgcbmnohhbcfiaa

namespace Go.Proofs.Ytgcbmnohhbcfiaa
open Go.RowKit Go.ChangeShapes Go.WideShapes Go.ChangeAt Go.Joins Go.Deep
set_option linter.unusedVariables false
set_option linter.unusedSimpArgs false

theorem cellsQ : Try.prog.cellsOf 37 = 2 := by kernel_rfl
theorem cellsL : Try.prog.cellsOf 2 = 1 := by kernel_rfl
section
variable {H : Type} {enc : TypeId × Value → H} {w : World} {held : Bool}

set_option maxRecDepth 100000 in
theorem open_rt {v : Value} {d : DataW H} {p : List MemPlace} {r : Reach} {b0 : Nat} (hv : Value.okWide Try.prog w r b0 37 v) (h : DataW.Trod enc Try.prog w 0 (fun _ => true) held 37 v d p) :
    ∃ a : Rt, v = rV a ∧ a.wf := by
  obtain ⟨v0, v1, y0, y1, n, rfl, _, _, h0, h1⟩ := open_agg2 Try.underlying37 (by kernel_rfl) cellsQ hv h
  obtain ⟨n0, e0, _, w0⟩ := DataW.trod_int Try.underlying2 h0
  obtain ⟨n1, e1, _, w1⟩ := DataW.trod_int Try.underlying2 h1
  obtain rfl : v0 = _ := List.singleton_inj.1 e0
  obtain rfl : v1 = _ := List.singleton_inj.1 e1
  have a0 := wf_i64 w0
  have a1 := wf_i64 w1
  exact ⟨⟨n0, n1⟩, rfl, ⟨a0.1, a0.2, a1.1, a1.2⟩⟩
end
end Go.Proofs.Ytgcbmnohhbcfiaa

namespace Go.Proofs.Ytgcbmnohhbcfiaa
open Go.RowKit Go.ChangeShapes Go.WideShapes Go.ChangeAt Go.Joins Go.Deep
set_option linter.unusedVariables false
set_option linter.unusedSimpArgs false

/-- A cake by value: its length, the cuts, the densities. -/
structure CIn (B : Nat) (w : World) (A : Option Addr) (c : Nat) (R : Option Addr) (d : Nat) (K : Ck) : Prop where
  cuts : Ints B w A K.cuts
  dens : Ints B w R K.dens
  lc : K.cuts.length ≤ c
  mc : c ≤ maxLen
  ld : K.dens.length ≤ d
  md : d ≤ maxLen
  w0 : -9223372036854775808 ≤ K.len
  w1 : K.len ≤ 9223372036854775807
theorem CIn.below {B : Nat} {w w' : World} {A : Option Addr} {c : Nat} {R : Option Addr} {d : Nat} {K : Ck} (h : CIn B w A c R d K) (hb : Below B w w') : CIn B w' A c R d K := ⟨h.cuts.below hb, h.dens.below hb, h.lc, h.mc, h.ld, h.md, h.w0, h.w1⟩
theorem CIn.next {w w' : World} {A : Option Addr} {c : Nat} {R : Option Addr} {d : Nat} {K : Ck} (h : CIn w.heap.size w A c R d K) (hb : Below w.heap.size w w') : CIn w'.heap.size w' A c R d K := ⟨h.cuts.next hb, h.dens.next hb, h.lc, h.mc, h.ld, h.md, h.w0, h.w1⟩
theorem CIn.drewN {B : Nat} {w : World} {A : Option Addr} {c : Nat} {R : Option Addr} {d : Nat} {K : Ck} (h : CIn B w A c R d K) (n : Nat) : CIn B (w.drewN n) A c R d K := ⟨h.cuts.drewN n, h.dens.drewN n, h.lc, h.mc, h.ld, h.md, h.w0, h.w1⟩
abbrev cV (A : Option Addr) (c : Nat) (R : Option Addr) (d : Nat) (K : Ck) : Value := .agg #[.int .i64 K.len, .slice A K.cuts.length c, .slice R K.dens.length d]
abbrev cB (A : Option Addr) (c : Nat) (R : Option Addr) (d : Nat) (K : Ck) : Obj := .cells #[.int .i64 K.len, .slice A K.cuts.length c, .slice R K.dens.length d] 24
theorem cellsLI : Try.prog.cellsOf 22 = 1 := by kernel_rfl
theorem cellsC : Try.prog.cellsOf 24 = 3 := by kernel_rfl
section
variable {H : Type} {enc : TypeId × Value → H} {w : World} {held : Bool}
set_option maxRecDepth 100000 in
theorem open_cake {v : Value} {d : DataW H} {p : List MemPlace} {r : Reach} {b0 : Nat} (hv : Value.okWide Try.prog w r b0 24 v) (h : DataW.Trod enc Try.prog w 0 (fun _ => true) held 24 v d p) :
    ∃ (K : Ck) (A : Option Addr) (c : Nat) (R : Option Addr) (d : Nat), v = cV A c R d K ∧ CIn w.heap.size w A c R d K := by
  obtain ⟨cs, rfl, hsz⟩ := okWide_struct Try.underlying24 hv
  obtain ⟨c0, c1, c2, rfl⟩ := array3 (hsz.trans cellsC)
  obtain ⟨fuel, hf⟩ := h
  obtain ⟨y0, y1, y2, n, hx, _, h0, h1, h2⟩ := trod_struct3 Try.underlying24 hf
  rw [cells3] at h0
  rw [cellsLI] at h1 h2
  obtain ⟨n1, e1, _, w1⟩ := DataW.trod_int Try.underlying3 h0
  obtain ⟨A, c, xs, e0, l0, m0, i0, _⟩ := open_ints_ h1
  obtain ⟨R, d, ys, e2, l2, m2, i2, _⟩ := open_ints_ h2
  have e1 : [c0] = _ := e1
  have e0 : [c1] = _ := e0
  have e2 : [c2] = _ := e2
  obtain rfl : c0 = _ := List.singleton_inj.1 e1
  obtain rfl : c1 = _ := List.singleton_inj.1 e0
  obtain rfl : c2 = _ := List.singleton_inj.1 e2
  have a := wf_i64 w1
  exact ⟨⟨n1, xs, ys⟩, A, c, R, d, rfl, i0, i2, l0, m0, l2, m2, a.1, a.2⟩
end
end Go.Proofs.Ytgcbmnohhbcfiaa

namespace Go.Proofs.Ytgcbmnohhbcfiaa
open Go.RowKit
set_option linter.unusedVariables false
set_option linter.unusedSimpArgs false

def orL : List Int → Int
  | [] => 0
  | x :: l => if x ≠ 0 then x else orL l
theorem orL_at {l : List Int} {k : Nat} (hk : k < l.length) (h : ∀ j, j < k → gi l j = 0) (h0 : gi l k ≠ 0) : orL l = gi l k := by
  induction l generalizing k with
  | nil => simp at hk
  | cons x l ih =>
    cases k with
    | zero =>
      have : gi (x :: l) 0 = x := rfl
      rw [this] at h0 ⊢; rw [orL, if_pos h0]
    | succ k =>
      have e : gi (x :: l) (k + 1) = gi l k := by simp [gi]
      have e0 : x = 0 := h 0 (by omega)
      rw [e] at h0 ⊢
      rw [orL, if_neg (by simpa using e0)]
      exact ih (by simpa using hk) (fun j hj => by have := h (j + 1) (by omega); simpa [gi] using this) h0
theorem orL_end {l : List Int} (h : ∀ j, j < l.length → gi l j = 0) : orL l = 0 := by
  induction l with
  | nil => rfl
  | cons x l ih =>
    have e0 : x = 0 := h 0 (by simp)
    rw [orL, if_neg (by simpa using e0)]
    exact ih (fun j hj => by have := h (j + 1) (by simpa using hj); simpa [gi] using this)

set_option maxHeartbeats 1000000 in
theorem or_any (A : Option Addr) (c : Nat) (xs : List Int) (w : World) (hx : Ints w.heap.size w A xs) (hm : xs.length ≤ maxLen) :
    Calls Try.prog 121 #[.slice A xs.length c] w fun e w' => e = .returned (.int .i64 (orL xs)) ∧ w = w' := by
  unfold maxLen at hm
  go_enter Try.func121, Try.ntmps121
  go_wp2
  go_loop [8] (fun i => ∃ k : Nat, k ≤ xs.length ∧ i = .int .i64 k ∧ Hid (∀ j, j < k → gi xs j = 0)) (fun i => xs.length - (intOf i).toNat)
  case atStart => exact ⟨0, Nat.zero_le _, rfl, Lib.hid fun j hj => by omega⟩
  case round =>
    obtain ⟨k, hk, rfl, hno⟩ := hrel
    by_cases hlt : k < xs.length
    · obtain ⟨ad, rfl, hb, hc⟩ := hx.at_ hlt
      by_cases h0 : gi xs k = 0
      · have HN := Lib.hid (show ∀ j, j < k + 1 → gi xs j = 0 from fun j hj => by
          by_cases e : j = k
          · subst e; exact h0
          · exact hno.out j (by omega))
        rw [h0] at hc
        clear h0 hno
        go_wp2
        go_round
        case rel => exact ⟨k + 1, by omega, by go_num, HN⟩
        case measure => simp [intOf]; omega
      · have HO := Lib.hid (orL_at hlt hno.out h0)
        have q : (gi xs k != 0) = true := by simpa using h0
        clear h0 hno
        go_wp2
        go_ret
        exact ⟨ret_int HO.out.symm, rfl⟩
    · obtain rfl : k = xs.length := by omega
      have HO := Lib.hid (orL_end hno.out)
      clear hno
      go_wp2
      go_ret
      exact ⟨ret_int HO.out.symm, rfl⟩

theorem ints_lit2 (w : World) (x y : Int) (t : TypeId) : Ints (w.alloc (.cells #[.int .i64 x, .int .i64 y] t)).heap.size (w.alloc (.cells #[.int .i64 x, .int .i64 y] t)) (some ⟨w.heap.size, 0, none⟩) [x, y] := fun _ => by
  refine ⟨_, rfl, by simp, fun k hk => ?_⟩
  have h := cell_of_row _ _ k _ _ _ (heap_alloc_new w (.cells #[.int .i64 x, .int .i64 y] t))
  rw [add_mk, Nat.zero_add, h]
  match k, hk with
  | 0, _ => rfl
  | 1, _ => rfl

set_option maxRecDepth 100000 in
set_option maxHeartbeats 2000000 in
theorem rcheck2_any (a b : Rt) (h : a.wf) (k : b.wf) (w : World) :
    Calls Try.prog 97 #[rV a, rV b] w fun e w' => e = .returned (.int .i64 (code2 a b)) ∧ Below w.heap.size w w' := by
  have HA := Lib.hid (fun (W : World) => rcheck_any a h W)
  have HB := Lib.hid (fun (W : World) => rcheck_any b k W)
  have HO := Lib.hid (fun (W : World) (c : Nat) => or_any (some ⟨W.heap.size, 0, none⟩) c [a.code, b.code] _ (ints_lit2 W a.code b.code 27) (by unfold maxLen; simp))
  have HC := Lib.hid (show orL [a.code, b.code] = code2 a b by
    unfold code2; simp only [orL]
    split
    · rfl
    · split
      · rfl
      · omega)
  rw [HC.out] at HO
  have hb1 : ((w.alloc (rB a)).alloc (rB b)).heap[w.heap.size]? = some (rB a) := heap_old (heap_new rfl)
  have hb2 : ((w.alloc (rB a)).alloc (rB b)).heap[w.heap.size + 1]? = some (rB b) := heap_new (by simp)
  have hBe : Below w.heap.size w ((w.alloc (rB a)).alloc (rB b)) := (one_alloc w (rB a)).alloc (by simp) _
  clear h k
  go_enter Try.func97, Try.ntmps97
  go_wp2_with fail
  generalize (w.alloc _).alloc _ = w2 at hb1 hb2 hBe ⊢
  have z1 := lt_some hb1
  have z2 := lt_some hb2
  have c1 := fun j => cell_of_row _ _ j _ _ _ hb1
  have c2 := fun j => cell_of_row _ _ j _ _ _ hb2
  clear hb1 hb2
  have HK := Lib.hid (fun (W : World) (hb : Below w2.heap.size w2 W) => show W.cell? ⟨w.heap.size, 0, none⟩ = some (.int .i64 a.n) ∧ W.cell? ⟨w.heap.size, 1, none⟩ = some (.int .i64 a.d) ∧ W.cell? ⟨w.heap.size + 1, 0, none⟩ = some (.int .i64 b.n) ∧ W.cell? ⟨w.heap.size + 1, 1, none⟩ = some (.int .i64 b.d) from
    ⟨(hb.cell (p := ⟨w.heap.size, 0, none⟩) z1).trans (c1 0), (hb.cell (p := ⟨w.heap.size, 1, none⟩) z1).trans (c1 1), (hb.cell (p := ⟨w.heap.size + 1, 0, none⟩) z2).trans (c2 0), (hb.cell (p := ⟨w.heap.size + 1, 1, none⟩) z2).trans (c2 1)⟩)
  have HL0 := Lib.hid ((Below.refl w2.heap.size w2).drew)
  clear c1 c2
  go_region_held3 (fun W => W.cell? ⟨w.heap.size, 0, none⟩ = some (.int .i64 a.n) ∧ W.cell? ⟨w.heap.size, 1, none⟩ = some (.int .i64 a.d) ∧ W.cell? ⟨w.heap.size + 1, 0, none⟩ = some (.int .i64 b.n) ∧ W.cell? ⟨w.heap.size + 1, 1, none⟩ = some (.int .i64 b.d))
    (first
      | exact HK.out _ HL2.out
      | exact HK.out _ (HL2.out.alloc HL2.out.size _)
      | exact HK.out _ HL1.out
      | exact HK.out _ HL0.out)
    (first
      | (go_at_call 89; (with_reducible refine (HA.out _).mono ?_); rintro e w5 ⟨rfl, hb5⟩; first | have HL2 := Lib.hid (bcall HL1.out HL1.out.size hb5) | have HL1 := Lib.hid (bcall HL0.out HL0.out.size hb5))
      | (go_at_call 89; (with_reducible refine (HB.out _).mono ?_); rintro e w5 ⟨rfl, hb5⟩; first | have HL2 := Lib.hid (bcall HL1.out HL1.out.size hb5) | have HL1 := Lib.hid (bcall HL0.out HL0.out.size hb5))
      | (go_at_call 121; refine (HO.out _ _).mono ?_; rintro e w5 ⟨rfl, rfl⟩))
  all_goals
    go_wp2_with fail
    go_ret
    exact ⟨rfl, bcall hBe hBe.size (HL2.out.alloc HL2.out.size _)⟩
end Go.Proofs.Ytgcbmnohhbcfiaa

namespace Go.Proofs.Ytgcbmnohhbcfiaa
open Go.RowKit
set_option linter.unusedVariables false
set_option linter.unusedSimpArgs false

theorem mul64_any (x y : Int) (w : World) (hx : 0 ≤ x) (hx' : x ≤ 18446744073709551615) (hy : 0 ≤ y) (hy' : y ≤ 18446744073709551615) :
    Calls Try.prog 99 #[.int .u64 x, .int .u64 y] w fun e w' => e = .returned (.tuple #[.int .u64 (hi64 (x * y)), .int .u64 (lo64 (x * y))]) ∧ Below w.heap.size w w' := by
  obtain ⟨x, rfl⟩ := Int.eq_ofNat_of_zero_le hx
  obtain ⟨y, rfl⟩ := Int.eq_ofNat_of_zero_le hy
  refine (Try.bits_Mul64 x y (by omega) (by omega) w).mono fun e w' ⟨he, hw⟩ => ?_
  subst hw; subst he
  refine ⟨?_, Below.refl _ _⟩
  unfold hi64 lo64
  simp
theorem add64_ (x y c : Int) (hx : 0 ≤ x) (hy : 0 ≤ y) (hc0 : 0 ≤ c) (hc : c ≤ 1) (w : World) : (callFunc 101 #[.int .u64 x, .int .u64 y, .int .u64 c]).run Try.prog w =
    .ok (.value (.tuple #[.int .u64 (lo64 (x + y + c)), .int .u64 (hi64 (x + y + c))])) w := by
  obtain ⟨x, rfl⟩ := Int.eq_ofNat_of_zero_le hx
  obtain ⟨y, rfl⟩ := Int.eq_ofNat_of_zero_le hy
  obtain ⟨c, rfl⟩ := Int.eq_ofNat_of_zero_le hc0
  rw [run_callFunc_extern Try.func101 (by kernel_rfl) (by kernel_rfl) (by kernel_rfl) (e := add64Entry) (by kernel_rfl), run_add64 x y c (by omega) (by omega) (by omega) (by omega)]
  simp only [Result.andThen]
  unfold lo64 hi64
  congr 5 <;> omega
theorem add64_0 (x y : Int) (hx : 0 ≤ x) (hy : 0 ≤ y) (w : World) : (callFunc 101 #[.int .u64 x, .int .u64 y, .int .u64 0]).run Try.prog w =
    .ok (.value (.tuple #[.int .u64 (lo64 (x + y)), .int .u64 (hi64 (x + y))])) w := by
  simpa using add64_ x y 0 hx hy (Int.le_refl 0) (by decide) w
theorem sub64_ (x y b : Int) (hx : 0 ≤ x) (hy : 0 ≤ y) (hy' : y < 18446744073709551616) (hb0 : 0 ≤ b) (hb : b ≤ 1) (w : World) : (callFunc 102 #[.int .u64 x, .int .u64 y, .int .u64 b]).run Try.prog w =
    .ok (.value (.tuple #[.int .u64 (lo64 (x - y - b)), .int .u64 (borI x (y + b))])) w := by
  obtain ⟨x, rfl⟩ := Int.eq_ofNat_of_zero_le hx
  obtain ⟨y, rfl⟩ := Int.eq_ofNat_of_zero_le hy
  obtain ⟨b, rfl⟩ := Int.eq_ofNat_of_zero_le hb0
  rw [run_callFunc_extern Try.func102 (by kernel_rfl) (by kernel_rfl) (by kernel_rfl) (e := sub64Entry) (by kernel_rfl), run_sub64 x y b (by omega)]
  simp only [Result.andThen]
  have e1 : (((x + 18446744073709551616 - y - b) % 18446744073709551616 : Nat) : Int) = lo64 ((x : Int) - y - b) := by unfold lo64; omega
  have e2 : ((if x < y + b then 1 else 0 : Nat) : Int) = borI x (y + b) := by unfold borI; split <;> split <;> omega
  rw [e1, e2]
theorem sub64_0 (x y : Int) (hx : 0 ≤ x) (hy : 0 ≤ y) (hy' : y < 18446744073709551616) (w : World) : (callFunc 102 #[.int .u64 x, .int .u64 y, .int .u64 0]).run Try.prog w =
    .ok (.value (.tuple #[.int .u64 (lo64 (x - y)), .int .u64 (borI x y)])) w := by
  simpa using sub64_ x y 0 hx hy hy' (Int.le_refl 0) (by decide) w

end Go.Proofs.Ytgcbmnohhbcfiaa
