/- Check of cakes, the program's and the reference's. -/
import Derived.Test.YtgcbmnohhbcfiaaCm8
namespace Go.Proofs.Ytgcbmnohhbcfiaa
open Go.RowKit Go.Deep
set_option linter.unusedVariables false
set_option linter.unusedSimpArgs false

theorem fit_not {K : Ck} {i : Nat} (hi : i < K.dens.length) (h : ¬ (0 ≤ gi K.dens i ∧ gi K.dens i ≤ 12)) : ¬ K.Fit := fun f => h (f i hi)
theorem fit_mn {K : Ck} (h0 : 0 < K.dens.length) (h : mnTo K.dens (K.dens.length - 1) < 0) : ¬ K.Fit := fun f => by
  obtain ⟨i, hi, q⟩ := mnTo_neg.1 h
  have := f i (by omega); omega
theorem fit_mx {K : Ck} (h0 : 0 < K.dens.length) (h : 12 < mxTo K.dens (K.dens.length - 1)) : ¬ K.Fit := fun f => by
  obtain ⟨i, hi, q⟩ := mxTo_gt.1 h
  have := f i (by omega); omega
theorem some_mx {K : Ck} (h0 : 0 < K.dens.length) (h : mxTo K.dens (K.dens.length - 1) = 0) : ¬ K.Some := fun s => s (fun i hi => by
  rcases Int.lt_or_le 0 (gi K.dens i) with q | q
  · have := (mxTo_gt (l := K.dens) (b := 0) (k := K.dens.length - 1)).2 ⟨i, by omega, q⟩
    omega
  · exact q)
theorem fit_of {K : Ck} (h1 : ¬ mnTo K.dens (K.dens.length - 1) < 0) (h2 : ¬ 12 < mxTo K.dens (K.dens.length - 1)) : K.Fit := fun i hi => by
  constructor
  · rcases Int.lt_or_le (gi K.dens i) 0 with q | q
    · exact absurd (mnTo_neg.2 ⟨i, by omega, q⟩) h1
    · exact q
  · rcases Int.lt_or_le 12 (gi K.dens i) with q | q
    · exact absurd (mxTo_gt.2 ⟨i, by omega, q⟩) h2
    · exact q
theorem some_of {K : Ck} (h0 : 0 < K.dens.length) (h1 : ¬ mnTo K.dens (K.dens.length - 1) < 0) (h3 : ¬ mxTo K.dens (K.dens.length - 1) = 0) : K.Some := fun s => by
  have f0 : 0 ≤ gi K.dens 0 := by
    rcases Int.lt_or_le (gi K.dens 0) 0 with q | q
    · exact absurd (mnTo_neg.2 ⟨0, by omega, q⟩) h1
    · exact q
  have a : -1 < mxTo K.dens (K.dens.length - 1) := mxTo_gt.2 ⟨0, by omega, by omega⟩
  have b : 0 < mxTo K.dens (K.dens.length - 1) := by omega
  obtain ⟨i, hi, q⟩ := mxTo_gt.1 b
  have := s i (by omega); omega
/-- A density among the first k is more than 0. -/
def someB (l : List Int) : Nat → Bool
  | 0 => false
  | k + 1 => someB l k || decide (0 < gi l k)
theorem someB_iff {l : List Int} : ∀ {k : Nat}, someB l k = true ↔ ∃ i, i < k ∧ 0 < gi l i
  | 0 => by simp [someB]
  | k + 1 => by
    rw [someB, Bool.or_eq_true, someB_iff, decide_eq_true_eq]
    constructor
    · rintro (⟨i, h1, h2⟩ | h)
      · exact ⟨i, by omega, h2⟩
      · exact ⟨k, by omega, h⟩
    · rintro ⟨i, h1, h2⟩
      by_cases e : i = k
      · subst e; exact Or.inr h2
      · exact Or.inl ⟨i, by omega, h2⟩
theorem someB_some {K : Ck} : someB K.dens K.dens.length = true ↔ K.Some := by
  rw [someB_iff]
  constructor
  · rintro ⟨i, h1, h2⟩ s
    have := s i h1; omega
  · intro s
    rcases Classical.em (∃ i, i < K.dens.length ∧ 0 < gi K.dens i) with e | e
    · exact e
    · exact absurd (fun i hi => by rcases Int.lt_or_le 0 (gi K.dens i) with q | q; exact absurd ⟨i, hi, q⟩ e; exact q) s

set_option maxRecDepth 100000 in
set_option maxHeartbeats 8000000 in
theorem ccheck_any (K : Ck) (A : Option Addr) (c : Nat) (R : Option Addr) (d : Nat) (w : World) (h : CIn w.heap.size w A c R d K) :
    Calls Try.prog 26 #[cV A c R d K] w fun e w' => e = .returned (.int .i64 K.code) ∧ Below w.heap.size w w' := by
  have HB0 := Lib.hid (one_alloc w (cB A c R d K))
  have hg : (w.alloc (cB A c R d K)).heap[w.heap.size]? = some (cB A c R d K) := heap_new rfl
  have lc := Nat.le_trans h.lc h.mc
  have ld := Nat.le_trans h.ld h.md
  have w0 := h.w0
  have w1 := h.w1
  unfold maxLen at lc ld
  have HH := Lib.hid h
  have cg := fun j => cell_of_row _ _ j _ _ _ hg
  have zg := lt_some hg
  clear h
  go_enter Try.func26, Try.ntmps26
  by_cases q1 : 1000 < K.len
  · have d1 : decide (1000 < K.len) = true := by simpa using q1
    have HE := Lib.hid (Ck.code_many (Or.inl q1))
    go_wp2_with fail
    go_ret
    exact ⟨by rw [HE.out]; first | done | rfl, HB0.out⟩
  have d1 : decide (1000 < K.len) = false := by simpa using q1
  by_cases q2 : 40 < K.cuts.length
  · have d2 : decide ((40 : Int) < (K.cuts.length : Int)) = true := by simp; omega
    have d2' : decide (40 < K.cuts.length) = true := by simp; omega
    have HE := Lib.hid (Ck.code_many (Or.inr q2))
    go_wp2_with fail
    go_ret
    exact ⟨by rw [HE.out]; first | done | rfl, HB0.out⟩
  have d2 : decide ((40 : Int) < (K.cuts.length : Int)) = false := by simp; omega
  have d2' : decide (40 < K.cuts.length) = false := by simp; omega
  have HM := Lib.hid (show ¬ K.Many from fun x => x.elim q1 q2)
  have x1 : IntKind.i64.wrap ((K.cuts.length : Int) - 1) = (K.cuts.length : Int) - 1 := IntWalk.i64_in _ (by omega)
  have x1' : wrap64 ((K.cuts.length : Int) - 1) = (K.cuts.length : Int) - 1 := IntWalk.wrap64_in _ (by omega)
  by_cases q3 : K.len < 1
  · have d3 : decide (K.len < 1) = true := by simpa using q3
    have HE := Lib.hid (Ck.code_ends HM.out (fun x => by have := x.1; omega))
    go_wp2_with fail
    go_quiet (fail)
    go_wp2_with fail
    go_ret
    exact ⟨by rw [HE.out]; first | done | rfl, below_drewN HB0.out _⟩
  have d3 : decide (K.len < 1) = false := by simpa using q3
  by_cases q4 : K.cuts.length < 2
  · have d4 : decide ((K.cuts.length : Int) < 2) = true := by simp; omega
    have d4' : decide (K.cuts.length < 2) = true := by simp; omega
    have HE := Lib.hid (Ck.code_ends HM.out (fun x => by have := x.2.1; omega))
    go_wp2_with fail
    go_quiet (fail)
    go_wp2_with fail
    go_ret
    exact ⟨by rw [HE.out]; first | done | rfl, below_drewN HB0.out _⟩
  have d4 : decide ((K.cuts.length : Int) < 2) = false := by simp; omega
  have d4' : decide (K.cuts.length < 2) = false := by simp; omega
  by_cases q5 : (K.dens.length : Int) = (K.cuts.length : Int) - 1
  rotate_left
  · have d5 : ((K.dens.length : Int) != (K.cuts.length : Int) - 1) = true := by simpa using q5
    have HE := Lib.hid (Ck.code_ends HM.out (fun x => q5 x.2.2.1))
    go_wp2_with fail
    go_quiet (fail)
    go_wp2_with fail
    go_ret
    exact ⟨by rw [HE.out]; first | done | rfl, below_drewN HB0.out _⟩
  have d5 : ((K.dens.length : Int) != (K.cuts.length : Int) - 1) = false := by simpa using q5
  have HL := Lib.hid q5
  obtain ⟨ad, rfl, hb0, hc0⟩ := HH.out.cuts.at_ (show 0 < K.cuts.length by omega)
  obtain ⟨ad', e1, hb1, hc1⟩ := HH.out.cuts.at_ (show K.cuts.length - 1 < K.cuts.length by omega)
  obtain rfl : ad = ad' := by simpa using e1
  rw [show ad.add 0 = ad by simp [Addr.add]] at hc0
  have HC := Lib.hid (fun (W : World) (hb : Below w.heap.size w W) => show W.cell? ad = some (.int .i64 (gi K.cuts 0)) ∧ W.cell? (ad.add (K.cuts.length - 1)) = some (.int .i64 (gi K.cuts (K.cuts.length - 1))) from
    ⟨(hb.cell hb0).trans hc0, (hb.cell (by rw [block_add]; exact hb1)).trans hc1⟩)
  obtain ⟨k0, k1⟩ := HC.out _ HB0.out
  have y1 : ((K.cuts.length : Int) - 1).toNat = K.cuts.length - 1 := by omega
  have y2 : (0 : Int) ≤ (K.cuts.length : Int) - 1 := by omega
  have y3 : (K.cuts.length : Int) - 1 < (K.cuts.length : Int) := by omega
  have y4 : (0 : Int) < (K.cuts.length : Int) := by omega
  have y5 : 0 < K.cuts.length := by omega
  have y6 : K.cuts.length - 1 < K.cuts.length := by omega
  clear e1 hb0 hc0 hb1 hc1 q5
  by_cases q6 : gi K.cuts 0 = 0
  rotate_left
  · have d6 : (gi K.cuts 0 != 0) = true := by simpa using q6
    have HE := Lib.hid (Ck.code_ends HM.out (fun x => q6 x.2.2.2.1))
    go_wp2_with fail
    go_quiet (fail)
    go_wp2_with fail
    go_ret
    exact ⟨by rw [HE.out]; first | done | rfl, below_drewN HB0.out _⟩
  have d6 : (gi K.cuts 0 != 0) = false := by simpa using q6
  by_cases q7 : gi K.cuts (K.cuts.length - 1) = K.len
  rotate_left
  · have d7 : (gi K.cuts (K.cuts.length - 1) != K.len) = true := by simpa using q7
    have HE := Lib.hid (Ck.code_ends HM.out (fun x => q7 x.2.2.2.2))
    go_wp2_with fail
    go_quiet (fail)
    go_wp2_with fail
    go_ret
    exact ⟨by rw [HE.out]; first | done | rfl, below_drewN HB0.out _⟩
  have d7 : (gi K.cuts (K.cuts.length - 1) != K.len) = false := by simpa using q7
  have HEN := Lib.hid (show K.Ends from ⟨by omega, by omega, HL.out, q6, q7⟩)
  have m0 : K.dens.length = K.cuts.length - 1 := by have := HL.out; omega
  have HM0 := Lib.hid m0
  clear q6 q7 m0
  go_wp2_with fail
  go_quiet (fail)
  clear k0 k1 cg zg
  go_wp2_with fail
  have hgq : ((w.alloc (cB (some ad) c R d K)).drewN nq).heap[w.heap.size]? = some (cB (some ad) c R d K) := hg
  have HBq := Lib.hid (below_drewN HB0.out nq)
  generalize (w.alloc _).drewN nq = w2 at *
  have lb : K.cuts.length ≤ 40 := by clear lc ld x1 x1' y1 y2 y3 y4 y5 y6; omega
  have lb2 : 2 ≤ K.cuts.length := by clear lc ld x1 x1' y1 y2 y3 y4 y5 y6; omega
  clear y1 y2 y3 y4 y5 y6 x1 x1' d1 d2 d2' d3 d4 d4' d5 d6 d7 q1 q2 q3 q4 lc ld
  go_loopw [50] (fun s50 wr => ∃ i : Nat, i ≤ K.cuts.length - 1 ∧ s50 = .int .i64 i ∧ (∀ j, j < i → gi K.cuts j < gi K.cuts (j + 1)) ∧ Below w.heap.size w wr ∧ wr.heap[w.heap.size]? = some (cB (some ad) c R d K)) (fun s50 _ => K.cuts.length - 1 - (intOf s50).toNat)
  case atStart => exact ⟨0, Nat.zero_le _, rfl, fun j hj => absurd hj (Nat.not_lt_zero _), HBq.out, hgq⟩
  case round =>
    obtain ⟨i, hi, rfl, hris, hB, hg⟩ := hrel
    have cg := fun j => cell_of_row _ _ j _ _ _ hg
    have zg := lt_some hg
    by_cases hlt : i < K.cuts.length - 1
    · obtain ⟨ae, e1, hb0, hc0⟩ := HH.out.cuts.at_ (show i < K.cuts.length by omega)
      obtain rfl : ad = ae := by simpa using e1
      obtain ⟨ae, e2, hb1, hc1⟩ := HH.out.cuts.at_ (show i + 1 < K.cuts.length by omega)
      obtain rfl : ad = ae := by simpa using e2
      have k0 := (hB.cell (p := ad.add i) (by rw [block_add]; exact hb0)).trans hc0
      have k1 := (hB.cell (p := ad.add (i + 1)) (by rw [block_add]; exact hb1)).trans hc1
      have k1b : wr.cell? ⟨ad.block, ad.off + (i + 1), none⟩ = some (.int .i64 (gi K.cuts (i + 1))) := k1
      have z1 : (i : Int) < (K.cuts.length : Int) - 1 := by omega
      have z2 : (i : Int) < (K.cuts.length : Int) := by omega
      have z3 : (0 : Int) ≤ (i : Int) := by omega
      have z4 : (i : Int) + 1 < (K.cuts.length : Int) := by omega
      have z5 : (0 : Int) ≤ (i : Int) + 1 := by omega
      have z6 : ((i : Int) + 1).toNat = i + 1 := by omega
      have z7 : i < K.cuts.length := by omega
      have z8 : i + 1 < K.cuts.length := by omega
      have x2 : IntKind.i64.wrap ((i : Int) + 1) = (i : Int) + 1 := IntWalk.i64_in _ (by omega)
      have x2' : wrap64 ((i : Int) + 1) = (i : Int) + 1 := IntWalk.wrap64_in _ (by omega)
      have HBr := Lib.hid hB
      have HGr := Lib.hid hg
      have HRI := Lib.hid hris
      clear e1 e2 hb0 hb1 hc0 hc1 hB hg hris
      by_cases q : gi K.cuts (i + 1) ≤ gi K.cuts i
      · have d8 : decide (gi K.cuts (i + 1) ≤ gi K.cuts i) = true := by simpa using q
        have HE := Lib.hid (Ck.code_rise HM.out (fun x => by have := x i hlt; omega))
        go_wp2_with fail
        go_quiet (fail)
        go_wp2_with fail
        go_ret
        exact ⟨by rw [HE.out]; first | done | rfl, below_drewN HBr.out _⟩
      · have d8 : decide (gi K.cuts (i + 1) ≤ gi K.cuts i) = false := by simpa using q
        go_wp2_with fail
        go_quiet (fail)
        go_wp2_with fail
        exact ⟨⟨i + 1, by omega, by go_num, fun j hj => by
          by_cases e : j = i
          · subst e; omega
          · exact HRI.out j (by omega), below_drewN HBr.out _, HGr.out⟩, by simp [intOf]; omega⟩
    · obtain rfl : i = K.cuts.length - 1 := by omega
      have z0 : decide (((K.cuts.length - 1 : Nat) : Int) < (K.cuts.length : Int) - 1) = false := decide_eq_false (by omega)
      have HRI := Lib.hid (show K.Rise from hris)
      have HBr := Lib.hid hB
      have m0 := HM0.out
      have mp : 0 < K.dens.length := by omega
      have HMN := Lib.hid (fun (W : World) (hW : Below w.heap.size w W) => min_any R d K.dens W (HH.out.dens.next hW) mp (Nat.le_trans HH.out.ld HH.out.md))
      have HMX := Lib.hid (fun (W : World) (hW : Below w.heap.size w W) => max_any R d K.dens W (HH.out.dens.next hW) mp (Nat.le_trans HH.out.ld HH.out.md))
      obtain ⟨mn, hmn⟩ : ∃ mn, mn = mnTo K.dens (K.dens.length - 1) := ⟨_, rfl⟩
      obtain ⟨mx, hmx⟩ : ∃ mx, mx = mxTo K.dens (K.dens.length - 1) := ⟨_, rfl⟩
      rw [← hmn] at HMN
      rw [← hmx] at HMX
      have HN := Lib.hid hmn
      have HX := Lib.hid hmx
      have HP := Lib.hid mp
      clear m0 mp hris hB hmn hmx hi hlt
      go_wp2_with fail
      refine (HMN.out _ HBr.out).mono ?_
      rintro e w3 ⟨rfl, hb⟩
      have HB3 := Lib.hid (bcall HBr.out HBr.out.size hb)
      have hg := heap_ext hg hb
      clear cg zg hb
      have cg := fun j => cell_of_row _ _ j _ _ _ hg
      have zg := lt_some hg
      by_cases r1 : mn < 0
      · have e1 : decide (mn < 0) = true := by simpa using r1
        have HE := Lib.hid (Ck.code_fit HM.out (fit_mn HP.out (HN.out ▸ r1)))
        go_wp2_with fail
        go_ret
        exact ⟨by rw [HE.out]; first | done | rfl, HB3.out⟩
      have R1 := Lib.hid r1
      have e1 : decide (mn < 0) = false := by simpa using r1
      go_wp2_with fail
      refine (HMX.out _ HB3.out).mono ?_
      rintro e w4 ⟨rfl, hb⟩
      have HB4 := Lib.hid (bcall HB3.out HB3.out.size hb)
      have hg := heap_ext hg hb
      clear cg zg hb
      have cg := fun j => cell_of_row _ _ j _ _ _ hg
      have zg := lt_some hg
      by_cases r2 : 12 < mx
      · have e2 : decide (12 < mx) = true := by simpa using r2
        have HE := Lib.hid (Ck.code_fit HM.out (fit_mx HP.out (HX.out ▸ r2)))
        go_wp2_with fail
        go_ret
        exact ⟨by rw [HE.out]; first | done | rfl, HB4.out⟩
      have R2 := Lib.hid r2
      have e2 : decide (12 < mx) = false := by simpa using r2
      go_wp2_with fail
      refine (HMX.out _ HB4.out).mono ?_
      rintro e w5 ⟨rfl, hb⟩
      have HB5 := Lib.hid (bcall HB4.out HB4.out.size hb)
      clear cg zg hb
      by_cases r3 : mx = 0
      · have e3 : (mx == 0) = true := by simpa using r3
        have HE := Lib.hid (Ck.code_some HM.out (some_mx HP.out (HX.out ▸ r3)))
        go_wp2_with fail
        go_ret
        exact ⟨by rw [HE.out]; first | done | rfl, HB5.out⟩
      have R3 := Lib.hid r3
      have e3 : (mx == 0) = false := by simpa using r3
      have HE := Lib.hid (Ck.code_good HM.out HEN.out HRI.out (fit_of (by have := R1.out; have := HN.out; omega) (by have := R2.out; have := HX.out; omega)) (some_of HP.out (by have := R1.out; have := HN.out; omega) (by have := R3.out; have := HX.out; omega)))
      go_wp2_with fail
      go_ret
      exact ⟨by rw [HE.out]; first | done | rfl, HB5.out⟩
end Go.Proofs.Ytgcbmnohhbcfiaa

namespace Go.Proofs.Ytgcbmnohhbcfiaa
open Go.RowKit Go.Deep
set_option linter.unusedVariables false
set_option linter.unusedSimpArgs false

set_option maxRecDepth 100000 in
set_option maxHeartbeats 8000000 in
theorem fckcheck_any (K : Ck) (A : Option Addr) (c : Nat) (R : Option Addr) (d : Nat) (w : World) (h : CIn w.heap.size w A c R d K) :
    Calls Try.prog 27 #[cV A c R d K] w fun e w' => e = .returned (.int .i64 K.code) ∧ Below w.heap.size w w' := by
  have HB0 := Lib.hid (one_alloc w (cB A c R d K))
  have hg : (w.alloc (cB A c R d K)).heap[w.heap.size]? = some (cB A c R d K) := heap_new rfl
  have lc := Nat.le_trans h.lc h.mc
  have ld := Nat.le_trans h.ld h.md
  have w0 := h.w0
  have w1 := h.w1
  unfold maxLen at lc ld
  have HH := Lib.hid h
  have cg := fun j => cell_of_row _ _ j _ _ _ hg
  have zg := lt_some hg
  clear h
  go_enter Try.func27, Try.ntmps27
  by_cases q1 : 1000 < K.len
  · have d1 : decide (1000 < K.len) = true := by simpa using q1
    have HE := Lib.hid (Ck.code_many (Or.inl q1))
    go_wp2_with fail
    go_ret
    exact ⟨by rw [HE.out]; first | done | rfl, HB0.out⟩
  have d1 : decide (1000 < K.len) = false := by simpa using q1
  by_cases q2 : 40 < K.cuts.length
  · have d2 : decide ((40 : Int) < (K.cuts.length : Int)) = true := by simp; omega
    have d2' : decide (40 < K.cuts.length) = true := by simp; omega
    have HE := Lib.hid (Ck.code_many (Or.inr q2))
    go_wp2_with fail
    go_ret
    exact ⟨by rw [HE.out]; first | done | rfl, HB0.out⟩
  have d2 : decide ((40 : Int) < (K.cuts.length : Int)) = false := by simp; omega
  have d2' : decide (40 < K.cuts.length) = false := by simp; omega
  have HM := Lib.hid (show ¬ K.Many from fun x => x.elim q1 q2)
  have x1 : IntKind.i64.wrap ((K.cuts.length : Int) - 1) = (K.cuts.length : Int) - 1 := IntWalk.i64_in _ (by omega)
  have x1' : wrap64 ((K.cuts.length : Int) - 1) = (K.cuts.length : Int) - 1 := IntWalk.wrap64_in _ (by omega)
  by_cases q3 : K.len < 1
  · have d3 : decide (K.len < 1) = true := by simpa using q3
    have HE := Lib.hid (Ck.code_ends HM.out (fun x => by have := x.1; omega))
    go_wp2_with fail
    go_quiet (fail)
    go_wp2_with fail
    go_ret
    exact ⟨by rw [HE.out]; first | done | rfl, below_drewN HB0.out _⟩
  have d3 : decide (K.len < 1) = false := by simpa using q3
  by_cases q4 : K.cuts.length < 2
  · have d4 : decide ((K.cuts.length : Int) < 2) = true := by simp; omega
    have d4' : decide (K.cuts.length < 2) = true := by simp; omega
    have HE := Lib.hid (Ck.code_ends HM.out (fun x => by have := x.2.1; omega))
    go_wp2_with fail
    go_quiet (fail)
    go_wp2_with fail
    go_ret
    exact ⟨by rw [HE.out]; first | done | rfl, below_drewN HB0.out _⟩
  have d4 : decide ((K.cuts.length : Int) < 2) = false := by simp; omega
  have d4' : decide (K.cuts.length < 2) = false := by simp; omega
  by_cases q5 : (K.dens.length : Int) = (K.cuts.length : Int) - 1
  rotate_left
  · have d5 : ((K.dens.length : Int) != (K.cuts.length : Int) - 1) = true := by simpa using q5
    have HE := Lib.hid (Ck.code_ends HM.out (fun x => q5 x.2.2.1))
    go_wp2_with fail
    go_quiet (fail)
    go_wp2_with fail
    go_ret
    exact ⟨by rw [HE.out]; first | done | rfl, below_drewN HB0.out _⟩
  have d5 : ((K.dens.length : Int) != (K.cuts.length : Int) - 1) = false := by simpa using q5
  have HL := Lib.hid q5
  obtain ⟨ad, rfl, hb0, hc0⟩ := HH.out.cuts.at_ (show 0 < K.cuts.length by omega)
  obtain ⟨ad', e1, hb1, hc1⟩ := HH.out.cuts.at_ (show K.cuts.length - 1 < K.cuts.length by omega)
  obtain rfl : ad = ad' := by simpa using e1
  rw [show ad.add 0 = ad by simp [Addr.add]] at hc0
  have HC := Lib.hid (fun (W : World) (hb : Below w.heap.size w W) => show W.cell? ad = some (.int .i64 (gi K.cuts 0)) ∧ W.cell? (ad.add (K.cuts.length - 1)) = some (.int .i64 (gi K.cuts (K.cuts.length - 1))) from
    ⟨(hb.cell hb0).trans hc0, (hb.cell (by rw [block_add]; exact hb1)).trans hc1⟩)
  obtain ⟨k0, k1⟩ := HC.out _ HB0.out
  have y1 : ((K.cuts.length : Int) - 1).toNat = K.cuts.length - 1 := by omega
  have y2 : (0 : Int) ≤ (K.cuts.length : Int) - 1 := by omega
  have y3 : (K.cuts.length : Int) - 1 < (K.cuts.length : Int) := by omega
  have y4 : (0 : Int) < (K.cuts.length : Int) := by omega
  have y5 : 0 < K.cuts.length := by omega
  have y6 : K.cuts.length - 1 < K.cuts.length := by omega
  clear e1 hb0 hc0 hb1 hc1 q5
  by_cases q6 : gi K.cuts 0 = 0
  rotate_left
  · have d6 : (gi K.cuts 0 != 0) = true := by simpa using q6
    have HE := Lib.hid (Ck.code_ends HM.out (fun x => q6 x.2.2.2.1))
    go_wp2_with fail
    go_quiet (fail)
    go_wp2_with fail
    go_ret
    exact ⟨by rw [HE.out]; first | done | rfl, below_drewN HB0.out _⟩
  have d6 : (gi K.cuts 0 != 0) = false := by simpa using q6
  by_cases q7 : gi K.cuts (K.cuts.length - 1) = K.len
  rotate_left
  · have d7 : (gi K.cuts (K.cuts.length - 1) != K.len) = true := by simpa using q7
    have HE := Lib.hid (Ck.code_ends HM.out (fun x => q7 x.2.2.2.2))
    go_wp2_with fail
    go_quiet (fail)
    go_wp2_with fail
    go_ret
    exact ⟨by rw [HE.out]; first | done | rfl, below_drewN HB0.out _⟩
  have d7 : (gi K.cuts (K.cuts.length - 1) != K.len) = false := by simpa using q7
  have HEN := Lib.hid (show K.Ends from ⟨by omega, by omega, HL.out, q6, q7⟩)
  have m0 : K.dens.length = K.cuts.length - 1 := by have := HL.out; omega
  have HM0 := Lib.hid m0
  clear q6 q7 m0
  go_wp2_with fail
  go_quiet (fail)
  clear k0 k1 cg zg
  go_wp2_with fail
  have hgq : ((w.alloc (cB (some ad) c R d K)).drewN nq).heap[w.heap.size]? = some (cB (some ad) c R d K) := hg
  have HBq := Lib.hid (below_drewN HB0.out nq)
  generalize (w.alloc _).drewN nq = w2 at *
  have lb : K.cuts.length ≤ 40 := by clear lc ld x1 x1' y1 y2 y3 y4 y5 y6; omega
  have lb2 : 2 ≤ K.cuts.length := by clear lc ld x1 x1' y1 y2 y3 y4 y5 y6; omega
  clear y1 y2 y3 y4 y5 y6 x1 x1' d1 d2 d2' d3 d4 d4' d5 d6 d7 q1 q2 q3 q4 lc ld
  go_loopw [3, 4] (fun s3 s4 wr => ∃ i : Nat, i ≤ K.dens.length ∧ s4 = .int .i64 i ∧ s3 = .bool (someB K.dens i) ∧ (∀ j, j < i → gi K.cuts j < gi K.cuts (j + 1) ∧ 0 ≤ gi K.dens j ∧ gi K.dens j ≤ 12) ∧ Below w.heap.size w wr ∧ wr.heap[w.heap.size]? = some (cB (some ad) c R d K)) (fun _ s4 _ => K.dens.length - (intOf s4).toNat)
  case atStart => exact ⟨0, Nat.zero_le _, rfl, rfl, fun j hj => absurd hj (Nat.not_lt_zero _), HBq.out, hgq⟩
  case round =>
    obtain ⟨i, hi, rfl, rfl, hris, hB, hg⟩ := hrel
    have cg := fun j => cell_of_row _ _ j _ _ _ hg
    have zg := lt_some hg
    by_cases hlt : i < K.dens.length
    · have m0 := HM0.out
      have hin : i < K.cuts.length - 1 := by omega
      have HLE := Lib.hid (show i + 1 ≤ K.dens.length by omega)
      have HME := Lib.hid (show K.dens.length - (i + 1) < K.dens.length - i by omega)
      obtain ⟨ae, e1, hb0, hc0⟩ := HH.out.cuts.at_ (show i < K.cuts.length by omega)
      obtain rfl : ad = ae := by simpa using e1
      obtain ⟨ae, e2, hb1, hc1⟩ := HH.out.cuts.at_ (show i + 1 < K.cuts.length by omega)
      obtain rfl : ad = ae := by simpa using e2
      obtain ⟨rd, rfl, hb2, hc2⟩ := HH.out.dens.at_ hlt
      have k0 := (hB.cell (p := ad.add i) (by rw [block_add]; exact hb0)).trans hc0
      have k1 := (hB.cell (p := ad.add (i + 1)) (by rw [block_add]; exact hb1)).trans hc1
      have k1b : wr.cell? ⟨ad.block, ad.off + (i + 1), none⟩ = some (.int .i64 (gi K.cuts (i + 1))) := k1
      have k2 := (hB.cell (p := rd.add i) (by rw [block_add]; exact hb2)).trans hc2
      have z1 : (i : Int) < (K.dens.length : Int) := by omega
      have z2 : (i : Int) < (K.cuts.length : Int) := by omega
      have z3 : (0 : Int) ≤ (i : Int) := by omega
      have z4 : (i : Int) + 1 < (K.cuts.length : Int) := by omega
      have z5 : (0 : Int) ≤ (i : Int) + 1 := by omega
      have z6 : ((i : Int) + 1).toNat = i + 1 := by omega
      have z7 : i < K.cuts.length := by omega
      have z8 : i + 1 < K.cuts.length := by omega
      have x2 : IntKind.i64.wrap ((i : Int) + 1) = (i : Int) + 1 := IntWalk.i64_in _ (by omega)
      have x2' : wrap64 ((i : Int) + 1) = (i : Int) + 1 := IntWalk.wrap64_in _ (by omega)
      have HBr := Lib.hid hB
      have HGr := Lib.hid hg
      have HRI := Lib.hid hris
      clear e1 e2 hb0 hb1 hc0 hc1 hb2 hc2 hB hg hris m0
      by_cases q : gi K.cuts (i + 1) ≤ gi K.cuts i
      · have d8 : decide (gi K.cuts (i + 1) ≤ gi K.cuts i) = true := by simpa using q
        have HE := Lib.hid (Ck.code_rise HM.out (fun x => absurd (x i hin) (Int.not_lt.2 q)))
        go_wp2_with fail
        go_quiet (fail)
        go_wp2_with fail
        go_ret
        exact ⟨by rw [HE.out]; first | done | rfl, below_drewN HBr.out _⟩
      have d8 : decide (gi K.cuts (i + 1) ≤ gi K.cuts i) = false := by simpa using q
      by_cases q8 : gi K.dens i < 0
      · have d9 : decide (gi K.dens i < 0) = true := by simpa using q8
        have FN : ¬ (0 ≤ gi K.dens i ∧ gi K.dens i ≤ 12) := fun z => absurd z.1 (Int.not_le.2 q8)
        have HE := Lib.hid (Ck.code_fit HM.out (fit_not hlt FN))
        go_wp2_with fail
        go_quiet (fail)
        go_wp2_with fail
        go_ret
        exact ⟨by rw [HE.out]; first | done | rfl, below_drewN HBr.out _⟩
      have d9 : decide (gi K.dens i < 0) = false := by simpa using q8
      by_cases q9 : 12 < gi K.dens i
      · have d10 : decide (12 < gi K.dens i) = true := by simpa using q9
        have FN : ¬ (0 ≤ gi K.dens i ∧ gi K.dens i ≤ 12) := fun z => absurd z.2 (Int.not_le.2 q9)
        have HE := Lib.hid (Ck.code_fit HM.out (fit_not hlt FN))
        go_wp2_with fail
        go_quiet (fail)
        go_wp2_with fail
        go_ret
        exact ⟨by rw [HE.out]; first | done | rfl, below_drewN HBr.out _⟩
      have d10 : decide (12 < gi K.dens i) = false := by simpa using q9
      have HRJ := Lib.hid (show ∀ j, j < i + 1 → gi K.cuts j < gi K.cuts (j + 1) ∧ 0 ≤ gi K.dens j ∧ gi K.dens j ≤ 12 from fun j hj => by
        by_cases e : j = i
        · rw [e]; exact ⟨Int.not_le.1 q, Int.not_lt.1 q8, Int.not_lt.1 q9⟩
        · exact HRI.out j (Nat.lt_of_le_of_ne (Nat.lt_succ_iff.1 hj) e))
      have HSB := Lib.hid (show someB K.dens (i + 1) = (someB K.dens i || decide (0 < gi K.dens i)) from rfl)
      generalize someB K.dens i = sb at *
      cases sb with
      | true =>
        have HSE := Lib.hid (show someB K.dens (i + 1) = true by rw [HSB.out]; rfl)
        clear HSB
        go_wp2_with fail
        go_quiet (fail)
        go_wp2_with fail
        exact ⟨⟨i + 1, HLE.out, by go_num, by rw [HSE.out], HRJ.out, below_drewN HBr.out _, HGr.out⟩, by simpa [intOf] using HME.out⟩
      | false =>
        by_cases q10 : 0 < gi K.dens i
        · have d11 : decide (0 < gi K.dens i) = true := by simpa using q10
          have HSE := Lib.hid (show someB K.dens (i + 1) = true by rw [HSB.out, d11]; rfl)
          clear HSB
          go_wp2_with fail
          go_quiet (fail)
          go_wp2_with fail
          exact ⟨⟨i + 1, HLE.out, by go_num, by rw [HSE.out], HRJ.out, below_drewN HBr.out _, HGr.out⟩, by simpa [intOf] using HME.out⟩
        · have d11 : decide (0 < gi K.dens i) = false := by simpa using q10
          have HSE := Lib.hid (show someB K.dens (i + 1) = false by rw [HSB.out, d11]; rfl)
          clear HSB
          go_wp2_with fail
          go_quiet (fail)
          go_wp2_with fail
          exact ⟨⟨i + 1, HLE.out, by go_num, by rw [HSE.out], HRJ.out, below_drewN HBr.out _, HGr.out⟩, by simpa [intOf] using HME.out⟩
    · obtain rfl : i = K.dens.length := by omega
      have HRI := Lib.hid (show K.Rise from fun j hj => (hris j (by have := HM0.out; omega)).1)
      have HFT := Lib.hid (show K.Fit from fun j hj => (hris j hj).2)
      have HBr := Lib.hid hB
      have HSI := Lib.hid (someB_some (K := K))
      clear hris hB
      generalize someB K.dens K.dens.length = sb at *
      cases sb with
      | false =>
        have HE := Lib.hid (Ck.code_some HM.out (fun x => by have := HSI.out.2 x; cases this))
        go_wp2_with fail
        go_ret
        exact ⟨by rw [HE.out]; first | done | rfl, HBr.out⟩
      | true =>
        have HE := Lib.hid (Ck.code_good HM.out HEN.out HRI.out HFT.out (HSI.out.1 rfl))
        go_wp2_with fail
        go_ret
        exact ⟨by rw [HE.out]; first | done | rfl, HBr.out⟩
end Go.Proofs.Ytgcbmnohhbcfiaa

namespace Go.Proofs.Ytgcbmnohhbcfiaa
open Go.RowKit Go.Deep
set_option linter.unusedVariables false
set_option linter.unusedSimpArgs false

/-- What both tell of the whole. -/
def Ck.tot (K : Ck) : Int := if K.code = 0 then K.total else 0

set_option maxRecDepth 100000 in
set_option maxHeartbeats 8000000 in
theorem fwhole_any (K : Ck) (A : Option Addr) (c : Nat) (R : Option Addr) (d : Nat) (w : World) (h : CIn w.heap.size w A c R d K) (hk : K.Ok) :
    Calls Try.prog 80 #[cV A c R d K] w fun e w' => e = .returned (.int .i64 K.total) ∧ Below w.heap.size w w' := by
  have HB0 := Lib.hid (one_alloc w (cB A c R d K))
  have hg : (w.alloc (cB A c R d K)).heap[w.heap.size]? = some (cB A c R d K) := heap_new rfl
  have HG0 := Lib.hid hg
  have HH := Lib.hid h
  have HK := Lib.hid hk
  clear h hk hg
  go_enter Try.func80, Try.ntmps80
  go_wp2_with fail
  go_loopw [3, 4] (fun s3 s4 wr => ∃ i : Nat, i ≤ K.dens.length ∧ s4 = .int .i64 i ∧ s3 = .int .i64 (K.upTo i) ∧ Below w.heap.size w wr ∧ wr.heap[w.heap.size]? = some (cB A c R d K)) (fun _ s4 _ => K.dens.length - (intOf s4).toNat)
  case atStart => exact ⟨0, Nat.zero_le _, rfl, rfl, HB0.out, HG0.out⟩
  case round =>
    obtain ⟨i, hi, rfl, rfl, hB, hg⟩ := hrel
    have cg := fun j => cell_of_row _ _ j _ _ _ hg
    have zg := lt_some hg
    by_cases hlt : i < K.dens.length
    · have nc := HK.out.nc
      have n2 := HK.out.n2
      obtain ⟨ad, rfl, hb0, hc0⟩ := HH.out.cuts.at_ (show i < K.cuts.length by omega)
      obtain ⟨ae, e1, hb1, hc1⟩ := HH.out.cuts.at_ (show i + 1 < K.cuts.length by omega)
      obtain rfl : ad = ae := by simpa using e1
      obtain ⟨rd, rfl, hb2, hc2⟩ := HH.out.dens.at_ hlt
      have k0 := (hB.cell (p := ad.add i) (by rw [block_add]; exact hb0)).trans hc0
      have k1 := (hB.cell (p := ad.add (i + 1)) (by rw [block_add]; exact hb1)).trans hc1
      have k1b : wr.cell? ⟨ad.block, ad.off + (i + 1), none⟩ = some (.int .i64 (gi K.cuts (i + 1))) := k1
      have k2 := (hB.cell (p := rd.add i) (by rw [block_add]; exact hb2)).trans hc2
      have z1 : (i : Int) < (K.dens.length : Int) := by omega
      have z2 : (i : Int) < (K.cuts.length : Int) := by omega
      have z3 : (0 : Int) ≤ (i : Int) := by omega
      have z4 : (i : Int) + 1 < (K.cuts.length : Int) := by omega
      have z5 : (0 : Int) ≤ (i : Int) + 1 := by omega
      have z6 : ((i : Int) + 1).toNat = i + 1 := by omega
      have z7 : i < K.cuts.length := by omega
      have z8 : i + 1 < K.cuts.length := by omega
      have HLE := Lib.hid (show i + 1 ≤ K.dens.length by omega)
      have HME := Lib.hid (show K.dens.length - (i + 1) < K.dens.length - i by omega)
      have u1 := HK.out.upTo_bd (k := i) (by omega)
      have u2 := HK.out.prod_bd hlt
      have u3 := HK.out.cut_bd (i := i) (by omega)
      have u4 := HK.out.cut_bd (i := i + 1) (by omega)
      have HS := Lib.hid (K.upTo_succ i)
      have x1 : IntKind.i64.wrap (gi K.cuts (i + 1) - gi K.cuts i) = gi K.cuts (i + 1) - gi K.cuts i := IntWalk.i64_in _ (by omega)
      have x2 : IntKind.i64.wrap (gi K.dens i * (gi K.cuts (i + 1) - gi K.cuts i)) = gi K.dens i * (gi K.cuts (i + 1) - gi K.cuts i) := IntWalk.i64_in _ (by omega)
      have x3 : IntKind.i64.wrap (K.upTo i + gi K.dens i * (gi K.cuts (i + 1) - gi K.cuts i)) = K.upTo i + gi K.dens i * (gi K.cuts (i + 1) - gi K.cuts i) := IntWalk.i64_in _ (by omega)
      have x1' : wrap64 (gi K.cuts (i + 1) - gi K.cuts i) = gi K.cuts (i + 1) - gi K.cuts i := IntWalk.wrap64_in _ (by omega)
      have x2' : wrap64 (gi K.dens i * (gi K.cuts (i + 1) - gi K.cuts i)) = gi K.dens i * (gi K.cuts (i + 1) - gi K.cuts i) := IntWalk.wrap64_in _ (by omega)
      have x3' : wrap64 (K.upTo i + gi K.dens i * (gi K.cuts (i + 1) - gi K.cuts i)) = K.upTo i + gi K.dens i * (gi K.cuts (i + 1) - gi K.cuts i) := IntWalk.wrap64_in _ (by omega)
      have y1 : IntKind.i64.wrap ((i : Int) + 1) = (i : Int) + 1 := IntWalk.i64_in _ (by omega)
      have y1' : wrap64 ((i : Int) + 1) = (i : Int) + 1 := IntWalk.wrap64_in _ (by omega)
      have HBr := Lib.hid hB
      have HGr := Lib.hid hg
      clear e1 hb0 hb1 hb2 hc0 hc1 hc2 hB hg u1 u2 u3 u4 nc n2
      generalize gi K.cuts i = a0 at *
      generalize gi K.cuts (i + 1) = a1 at *
      generalize gi K.dens i = a2 at *
      generalize K.upTo i = s at *
      go_wp2_with fail
      go_quiet (fail)
      go_wp2_with fail
      exact ⟨⟨i + 1, HLE.out, by go_num, by rw [HS.out], below_drewN HBr.out _, HGr.out⟩, by simpa [intOf] using HME.out⟩
    · obtain rfl : i = K.dens.length := by omega
      have HBr := Lib.hid hB
      clear hB
      go_wp2_with fail
      go_ret
      exact ⟨rfl, HBr.out⟩

set_option maxRecDepth 100000 in
set_option maxHeartbeats 8000000 in
theorem ctotal_any (K : Ck) (A : Option Addr) (c : Nat) (R : Option Addr) (d : Nat) (w : World) (h : CIn w.heap.size w A c R d K) :
    Calls Try.prog 22 #[cV A c R d K] w fun e w' => e = .returned (.tuple #[.int .i64 K.tot, .int .i64 K.code]) ∧ Below w.heap.size w w' := by
  have HB0 := Lib.hid (one_alloc w (cB A c R d K))
  have hg : (w.alloc (cB A c R d K)).heap[w.heap.size]? = some (cB A c R d K) := heap_new rfl
  have HH := Lib.hid h
  have HC := Lib.hid (fun (W : World) (hW : Below w.heap.size w W) => ccheck_any K A c R d W (h.next hW))
  have cg := fun j => cell_of_row _ _ j _ _ _ hg
  clear h
  by_cases hc : K.code = 0
  rotate_left
  · have q : (K.code != 0) = true := by simpa using hc
    have HT := Lib.hid (show K.tot = 0 by unfold Ck.tot; rw [if_neg hc])
    rw [HT.out]
    clear hc
    generalize K.code = code at *
    go_enter Try.func22, Try.ntmps22
    go_wp2_with fail
    refine (HC.out _ HB0.out).mono ?_
    rintro e w1 ⟨rfl, hb1⟩
    clear cg
    go_wp2_with fail
    refine bodyPost_ret (v := .tuple #[.int .i64 0, .int .i64 code]) (by simp [results, Try.results22, go_sem]) rfl ?_
    exact ⟨rfl, bcall HB0.out HB0.out.size hb1⟩
  have HK := Lib.hid (Ck.ok_code hc)
  have HT := Lib.hid (show K.tot = K.total by unfold Ck.tot; rw [if_pos hc])
  rw [HT.out, hc]
  rw [hc] at HC
  clear hc HT
  go_enter Try.func22, Try.ntmps22
  go_wp2_with fail
  refine (HC.out _ HB0.out).mono ?_
  rintro e w1 ⟨rfl, hb1⟩
  have HB1 := Lib.hid (bcall HB0.out HB0.out.size hb1)
  have hg1 := heap_ext hg hb1
  have HG1 := Lib.hid hg1
  clear cg hg hb1
  have cg := fun j => cell_of_row _ _ j _ _ _ hg1
  have zg := lt_some hg1
  go_wp2_with fail
  clear cg zg hg1
  go_loopw [5, 16] (fun s5 s16 wr => ∃ i : Nat, i ≤ K.dens.length ∧ s16 = .int .i64 i ∧ s5 = .int .i64 (K.upTo i) ∧ Below w.heap.size w wr ∧ wr.heap[w.heap.size]? = some (cB A c R d K)) (fun _ s16 _ => K.dens.length - (intOf s16).toNat)
  case atStart => exact ⟨0, Nat.zero_le _, rfl, rfl, HB1.out, HG1.out⟩
  case round =>
    obtain ⟨i, hi, rfl, rfl, hB, hg⟩ := hrel
    have cg := fun j => cell_of_row _ _ j _ _ _ hg
    have zg := lt_some hg
    by_cases hlt : i < K.dens.length
    · have nc := HK.out.nc
      have n2 := HK.out.n2
      obtain ⟨ad, rfl, hb0, hc0⟩ := HH.out.cuts.at_ (show i < K.cuts.length by omega)
      obtain ⟨ae, e1, hb1, hc1⟩ := HH.out.cuts.at_ (show i + 1 < K.cuts.length by omega)
      obtain rfl : ad = ae := by simpa using e1
      obtain ⟨rd, rfl, hb2, hc2⟩ := HH.out.dens.at_ hlt
      have k0 := (hB.cell (p := ad.add i) (by rw [block_add]; exact hb0)).trans hc0
      have k1 := (hB.cell (p := ad.add (i + 1)) (by rw [block_add]; exact hb1)).trans hc1
      have k1b : wr.cell? ⟨ad.block, ad.off + (i + 1), none⟩ = some (.int .i64 (gi K.cuts (i + 1))) := k1
      have k2 := (hB.cell (p := rd.add i) (by rw [block_add]; exact hb2)).trans hc2
      have z1 : (i : Int) < (K.dens.length : Int) := by omega
      have z2 : (i : Int) < (K.cuts.length : Int) := by omega
      have z3 : (0 : Int) ≤ (i : Int) := by omega
      have z4 : (i : Int) + 1 < (K.cuts.length : Int) := by omega
      have z5 : (0 : Int) ≤ (i : Int) + 1 := by omega
      have z6 : ((i : Int) + 1).toNat = i + 1 := by omega
      have z7 : i < K.cuts.length := by omega
      have z8 : i + 1 < K.cuts.length := by omega
      have HLE := Lib.hid (show i + 1 ≤ K.dens.length by omega)
      have HME := Lib.hid (show K.dens.length - (i + 1) < K.dens.length - i by omega)
      have u1 := HK.out.upTo_bd (k := i) (by omega)
      have u2 := HK.out.prod_bd hlt
      have u3 := HK.out.cut_bd (i := i) (by omega)
      have u4 := HK.out.cut_bd (i := i + 1) (by omega)
      have HS := Lib.hid (K.upTo_succ i)
      have x1 : IntKind.i64.wrap (gi K.cuts (i + 1) - gi K.cuts i) = gi K.cuts (i + 1) - gi K.cuts i := IntWalk.i64_in _ (by omega)
      have x2 : IntKind.i64.wrap (gi K.dens i * (gi K.cuts (i + 1) - gi K.cuts i)) = gi K.dens i * (gi K.cuts (i + 1) - gi K.cuts i) := IntWalk.i64_in _ (by omega)
      have x3 : IntKind.i64.wrap (K.upTo i + gi K.dens i * (gi K.cuts (i + 1) - gi K.cuts i)) = K.upTo i + gi K.dens i * (gi K.cuts (i + 1) - gi K.cuts i) := IntWalk.i64_in _ (by omega)
      have x1' : wrap64 (gi K.cuts (i + 1) - gi K.cuts i) = gi K.cuts (i + 1) - gi K.cuts i := IntWalk.wrap64_in _ (by omega)
      have x2' : wrap64 (gi K.dens i * (gi K.cuts (i + 1) - gi K.cuts i)) = gi K.dens i * (gi K.cuts (i + 1) - gi K.cuts i) := IntWalk.wrap64_in _ (by omega)
      have x3' : wrap64 (K.upTo i + gi K.dens i * (gi K.cuts (i + 1) - gi K.cuts i)) = K.upTo i + gi K.dens i * (gi K.cuts (i + 1) - gi K.cuts i) := IntWalk.wrap64_in _ (by omega)
      have y1 : IntKind.i64.wrap ((i : Int) + 1) = (i : Int) + 1 := IntWalk.i64_in _ (by omega)
      have y1' : wrap64 ((i : Int) + 1) = (i : Int) + 1 := IntWalk.wrap64_in _ (by omega)
      have HBr := Lib.hid hB
      have HGr := Lib.hid hg
      clear e1 hb0 hb1 hb2 hc0 hc1 hc2 hB hg u1 u2 u3 u4 nc n2
      generalize gi K.cuts i = a0 at *
      generalize gi K.cuts (i + 1) = a1 at *
      generalize gi K.dens i = a2 at *
      generalize K.upTo i = s at *
      go_wp2_with fail
      go_quiet (fail)
      go_wp2_with fail
      exact ⟨⟨i + 1, HLE.out, by go_num, by rw [HS.out], below_drewN HBr.out _, HGr.out⟩, by simpa [intOf] using HME.out⟩
    · obtain rfl : i = K.dens.length := by omega
      have HBr := Lib.hid hB
      clear hB
      go_wp2_with fail
      refine bodyPost_ret (v := .tuple #[.int .i64 (K.upTo K.dens.length), .int .i64 0]) (by simp [results, Try.results22, go_sem]) rfl ?_
      exact ⟨rfl, HBr.out⟩

set_option maxRecDepth 100000 in
set_option maxHeartbeats 8000000 in
theorem ftotal_any (K : Ck) (A : Option Addr) (c : Nat) (R : Option Addr) (d : Nat) (w : World) (h : CIn w.heap.size w A c R d K) :
    Calls Try.prog 23 #[cV A c R d K] w fun e w' => e = .returned (.tuple #[.int .i64 K.tot, .int .i64 K.code]) ∧ Below w.heap.size w w' := by
  have HB0 := Lib.hid (one_alloc w (cB A c R d K))
  have hg : (w.alloc (cB A c R d K)).heap[w.heap.size]? = some (cB A c R d K) := heap_new rfl
  have HH := Lib.hid h
  have HC := Lib.hid (fun (W : World) (hW : Below w.heap.size w W) => fckcheck_any K A c R d W (h.next hW))
  have cg := fun j => cell_of_row _ _ j _ _ _ hg
  clear h
  by_cases hc : K.code = 0
  rotate_left
  · have q : (K.code != 0) = true := by simpa using hc
    have HT := Lib.hid (show K.tot = 0 by unfold Ck.tot; rw [if_neg hc])
    rw [HT.out]
    clear hc
    generalize K.code = code at *
    go_enter Try.func23, Try.ntmps23
    go_wp2_with fail
    refine (HC.out _ HB0.out).mono ?_
    rintro e w1 ⟨rfl, hb1⟩
    have HB1 := Lib.hid (bcall HB0.out HB0.out.size hb1)
    have hg1 := heap_ext hg hb1
    clear cg hg hb1
    have cg := fun j => cell_of_row _ _ j _ _ _ hg1
    go_wp2_with fail
    refine (HC.out _ HB1.out).mono ?_
    rintro e w2 ⟨rfl, hb2⟩
    clear cg
    go_wp2_with fail
    refine bodyPost_ret (v := .tuple #[.int .i64 0, .int .i64 code]) (by simp [results, Try.results23, go_sem]) rfl ?_
    exact ⟨rfl, bcall HB1.out HB1.out.size hb2⟩
  have HW := Lib.hid (fun (W : World) (hW : Below w.heap.size w W) => fwhole_any K A c R d W (HH.out.next hW) (Ck.ok_code hc))
  have HT := Lib.hid (show K.tot = K.total by unfold Ck.tot; rw [if_pos hc])
  rw [HT.out, hc]
  rw [hc] at HC
  clear hc HT
  go_enter Try.func23, Try.ntmps23
  go_wp2_with fail
  refine (HC.out _ HB0.out).mono ?_
  rintro e w1 ⟨rfl, hb1⟩
  have HB1 := Lib.hid (bcall HB0.out HB0.out.size hb1)
  have hg1 := heap_ext hg hb1
  clear cg hg hb1
  have cg := fun j => cell_of_row _ _ j _ _ _ hg1
  go_wp2_with fail
  refine (HW.out _ HB1.out).mono ?_
  rintro e w2 ⟨rfl, hb2⟩
  clear cg
  go_wp2_with fail
  refine bodyPost_ret (v := .tuple #[.int .i64 K.total, .int .i64 0]) (by simp [results, Try.results23, go_sem]) rfl ?_
  exact ⟨rfl, bcall HB1.out HB1.out.size hb2⟩
end Go.Proofs.Ytgcbmnohhbcfiaa

namespace Go.Proofs.Ytgcbmnohhbcfiaa
open Go.RowKit Go.Deep
set_option linter.unusedVariables false
set_option linter.unusedSimpArgs false

def sameK (a b : Ck) : Bool := decide (a.len = b.len) && sameL a.cuts b.cuts && sameL a.dens b.dens
theorem sameK_self (a : Ck) : sameK a a = true := by simp [sameK, sameL]
theorem sameK_eq {a b : Ck} (h : sameK a b = true) : a = b := by
  simp only [sameK, sameL, Bool.and_eq_true, decide_eq_true_eq] at h
  exact Ck.ext_ h.1.1 h.1.2 h.2
/-- Two cakes as arguments. -/
theorem two_boxes (K L : Ck) (A R B S : Option Addr) (c d e f : Nat) (w : World) : Below w.heap.size w ((w.alloc (cB A c R d K)).alloc (cB B e S f L)) ∧ ((w.alloc (cB A c R d K)).alloc (cB B e S f L)).heap[w.heap.size]? = some (cB A c R d K) ∧ ((w.alloc (cB A c R d K)).alloc (cB B e S f L)).heap[w.heap.size + 1]? = some (cB B e S f L) :=
  ⟨(one_alloc w _).alloc (by simp) _, heap_old (heap_new rfl), heap_new (by simp)⟩
set_option maxRecDepth 100000 in
set_option maxHeartbeats 4000000 in
theorem csame_any (K L : Ck) (A : Option Addr) (c : Nat) (R : Option Addr) (d : Nat) (B : Option Addr) (e : Nat) (S : Option Addr) (f : Nat) (w : World) (hk : CIn w.heap.size w A c R d K) (hl : CIn w.heap.size w B e S f L) :
    Calls Try.prog 28 #[cV A c R d K, cV B e S f L] w fun x w' => x = .returned (.bool (sameK K L)) ∧ Below w.heap.size w w' := by
  obtain ⟨HB0, ha, hb⟩ := two_boxes K L A R B S c d e f w
  have HBel0 := Lib.hid HB0
  have HE1 := Lib.hid (fun (W : World) (hW : Below w.heap.size w W) => equal_any A B c e K.cuts L.cuts W (hk.next hW).cuts (hl.next hW).cuts (Nat.le_trans hk.lc hk.mc) (Nat.le_trans hl.lc hl.mc))
  have HE2 := Lib.hid (fun (W : World) (hW : Below w.heap.size w W) => equal_any R S d f K.dens L.dens W (hk.next hW).dens (hl.next hW).dens (Nat.le_trans hk.ld hk.md) (Nat.le_trans hl.ld hl.md))
  clear hk hl HB0
  have ca := fun j => cell_of_row _ _ j _ _ _ ha
  have cb := fun j => cell_of_row _ _ j _ _ _ hb
  have za := lt_some ha
  have zb := lt_some hb
  by_cases q1 : K.len = L.len
  rotate_left
  · have b1 : (K.len == L.len) = false := by simpa using q1
    have HR := Lib.hid (show sameK K L = false by unfold sameK; rw [decide_eq_false q1]; rfl)
    rw [HR.out]
    clear HR q1
    go_enter Try.func28, Try.ntmps28
    go_wp2_with fail
    go_ret
    exact ⟨rfl, HBel0.out⟩
  have b1 : (K.len == L.len) = true := by simpa using q1
  obtain ⟨e1, he1⟩ : ∃ b, b = sameL K.cuts L.cuts := ⟨_, rfl⟩
  obtain ⟨e2, he2⟩ : ∃ b, b = sameL K.dens L.dens := ⟨_, rfl⟩
  rw [← he1] at HE1
  rw [← he2] at HE2
  have HR := Lib.hid (show sameK K L = (e1 && e2) by unfold sameK; rw [decide_eq_true q1, ← he1, ← he2]; simp)
  clear he1 he2 q1
  go_enter Try.func28, Try.ntmps28
  go_wp2_with fail
  refine (HE1.out _ HBel0.out).mono ?_
  rintro x w1 ⟨rfl, hb1⟩
  have HB1 := Lib.hid (bcall HBel0.out HBel0.out.size hb1)
  cases e1 with
  | false =>
    go_wp2_with fail
    go_ret
    exact ⟨ret_bool (by rw [HR.out]; rfl), HB1.out⟩
  | true =>
  have ha := heap_ext ha hb1
  have hb := heap_ext hb hb1
  clear ca cb za zb hb1
  have ca := fun j => cell_of_row _ _ j _ _ _ ha
  have cb := fun j => cell_of_row _ _ j _ _ _ hb
  have za := lt_some ha
  have zb := lt_some hb
  go_wp2_with fail
  refine (HE2.out _ HB1.out).mono ?_
  rintro x w2 ⟨rfl, hb2⟩
  go_wp2_with fail
  go_ret
  exact ⟨ret_bool (by rw [HR.out]; rfl), bcall HB1.out HB1.out.size hb2⟩
set_option maxRecDepth 100000 in
set_option maxHeartbeats 8000000 in
theorem fsame_any (K L : Ck) (A : Option Addr) (c : Nat) (R : Option Addr) (d : Nat) (B : Option Addr) (e : Nat) (S : Option Addr) (f : Nat) (w : World) (hk : CIn w.heap.size w A c R d K) (hl : CIn w.heap.size w B e S f L) :
    Calls Try.prog 21 #[cV A c R d K, cV B e S f L] w fun x w' => x = .returned (.bool (sameK K L)) ∧ Below w.heap.size w w' := by
  obtain ⟨HB0, ha, hb⟩ := two_boxes K L A R B S c d e f w
  have HBel0 := Lib.hid HB0
  have m1 := Nat.le_trans hk.lc hk.mc
  have m2 := Nat.le_trans hk.ld hk.md
  have m3 := Nat.le_trans hl.lc hl.mc
  have m4 := Nat.le_trans hl.ld hl.md
  unfold maxLen at m1 m2 m3 m4
  have HX := Lib.hid (fun (W : World) (hW : Below w.heap.size w W) => hk.next hW)
  have HY := Lib.hid (fun (W : World) (hW : Below w.heap.size w W) => hl.next hW)
  clear hk hl HB0
  have ca := fun j => cell_of_row _ _ j _ _ _ ha
  have cb := fun j => cell_of_row _ _ j _ _ _ hb
  have za := lt_some ha
  have zb := lt_some hb
  by_cases q1 : K.len = L.len
  rotate_left
  · have bq1 : (K.len != L.len) = true := by simp; omega
    have HR := Lib.hid (show sameK K L = false by simp only [sameK, decide_eq_false q1]; rfl)
    rw [HR.out]
    clear HR q1
    go_enter Try.func21, Try.ntmps21
    go_wp2_with fail
    go_ret
    exact ⟨rfl, HBel0.out⟩
  have bq1 : (K.len != L.len) = false := by simp [q1]
  have HQ1 := Lib.hid q1
  clear q1
  by_cases q2 : K.cuts.length = L.cuts.length
  rotate_left
  · have bq2 : ((K.cuts.length : Int) != (L.cuts.length : Int)) = true := by simp; omega
    have HR := Lib.hid (show sameK K L = false by simp only [sameK, sameL, decide_eq_false (show ¬ K.cuts = L.cuts from fun x => q2 (by rw [x]))]; simp)
    rw [HR.out]
    clear HR q2
    go_enter Try.func21, Try.ntmps21
    go_wp2_with fail
    go_ret
    exact ⟨rfl, HBel0.out⟩
  have bq2 : ((K.cuts.length : Int) != (L.cuts.length : Int)) = false := by simp [q2]
  have HQ2 := Lib.hid q2
  clear q2
  by_cases q3 : K.dens.length = L.dens.length
  rotate_left
  · have bq3 : ((K.dens.length : Int) != (L.dens.length : Int)) = true := by simp; omega
    have HR := Lib.hid (show sameK K L = false by simp only [sameK, sameL, decide_eq_false (show ¬ K.dens = L.dens from fun x => q3 (by rw [x]))]; simp)
    rw [HR.out]
    clear HR q3
    go_enter Try.func21, Try.ntmps21
    go_wp2_with fail
    go_ret
    exact ⟨rfl, HBel0.out⟩
  have bq3 : ((K.dens.length : Int) != (L.dens.length : Int)) = false := by simp [q3]
  have HQ3 := Lib.hid q3
  clear q3
  go_enter Try.func21, Try.ntmps21
  go_wp2_with fail
  clear bq1 bq2 bq3
  obtain ⟨w0, hw0⟩ : ∃ w0, w0 = (w.alloc (cB A c R d K)).alloc (cB B e S f L) := ⟨_, rfl⟩
  rw [← hw0] at HBel0 ha hb ca cb za zb ⊢
  clear hw0
  go_loopw [5] (fun i wr => ∃ k : Nat, k ≤ K.cuts.length ∧ i = .int .i64 k ∧ Hid (∀ j, j < k → gi K.cuts j = gi L.cuts j) ∧ Below w0.heap.size w0 wr) (fun i _ => K.cuts.length - (intOf i).toNat)
  case atStart => exact ⟨0, Nat.zero_le _, rfl, Lib.hid fun j hj => by omega, Below.refl _ _⟩
  case round =>
    obtain ⟨k, hk, rfl, hno, hB⟩ := hrel
    have hA := bcall HBel0.out HBel0.out.size hB
    have ha := heap_ext ha hB
    have hb := heap_ext hb hB
    clear ca cb za zb
    have ca := fun j => cell_of_row _ _ j _ _ _ ha
    have cb := fun j => cell_of_row _ _ j _ _ _ hb
    have za := lt_some ha
    have zb := lt_some hb
    by_cases hlt : k < K.cuts.length
    · obtain ⟨ad, rfl, _, hc⟩ := (HX.out _ hA).cuts.at_ hlt
      have hlt' : k < L.cuts.length := by rw [← HQ2.out]; exact hlt
      obtain ⟨bd, rfl, _, hc'⟩ := (HY.out _ hA).cuts.at_ hlt'
      by_cases hq : gi K.cuts k = gi L.cuts k
      · have hqb : (gi K.cuts k != gi L.cuts k) = false := by simp [hq]
        have HS := Lib.hid (show ∀ j, j < k + 1 → gi K.cuts j = gi L.cuts j from fun j hj => by
          by_cases x : j = k
          · subst x; exact hq
          · exact hno.out j (by omega))
        clear hq hno
        go_wp2_with fail
        go_quiet (fail)
        go_wp2_with fail
        go_roundw
        case rel => exact ⟨k + 1, by omega, by go_num, HS, below_drewN hB _⟩
        case measure => simp [intOf]; omega
      · have hqb : (gi K.cuts k != gi L.cuts k) = true := by simp [hq]
        have HR := Lib.hid (show sameK K L = false by simp only [sameK, sameL, decide_eq_false (show ¬ K.cuts = L.cuts from fun x => hq (by rw [x]))]; simp)
        clear hq hno
        go_wp2_with fail
        go_quiet (fail)
        go_wp2_with fail
        go_ret
        exact ⟨ret_bool HR.out.symm, below_drewN hA _⟩
    · obtain rfl : k = K.cuts.length := by omega
      have HC := Lib.hid (gi_ext HQ2.out hno.out)
      clear hno
      go_wp2_with fail
      obtain ⟨w1, hw1⟩ : ∃ w1, w1 = wr := ⟨_, rfl⟩
      rw [← hw1] at hA hB ha hb ca cb za zb ⊢
      clear hw1
      have HA1 := Lib.hid hA
      have ha1 := ha
      have hb1 := hb
      clear hA hB hk hlt
      go_loopw [6] (fun i wr => ∃ k : Nat, k ≤ K.dens.length ∧ i = .int .i64 k ∧ Hid (∀ j, j < k → gi K.dens j = gi L.dens j) ∧ Below w1.heap.size w1 wr) (fun i _ => K.dens.length - (intOf i).toNat)
      case atStart => exact ⟨0, Nat.zero_le _, rfl, Lib.hid fun j hj => by omega, Below.refl _ _⟩
      case round =>
        obtain ⟨k, hk, rfl, hno, hB⟩ := hrel
        have hA := bcall HA1.out HA1.out.size hB
        have ha := heap_ext ha1 hB
        have hb := heap_ext hb1 hB
        clear ca cb za zb
        have ca := fun j => cell_of_row _ _ j _ _ _ ha
        have cb := fun j => cell_of_row _ _ j _ _ _ hb
        have za := lt_some ha
        have zb := lt_some hb
        by_cases hlt : k < K.dens.length
        · obtain ⟨ad, rfl, _, hc⟩ := (HX.out _ hA).dens.at_ hlt
          have hlt' : k < L.dens.length := by rw [← HQ3.out]; exact hlt
          obtain ⟨bd, rfl, _, hc'⟩ := (HY.out _ hA).dens.at_ hlt'
          by_cases hq : gi K.dens k = gi L.dens k
          · have hqb : (gi K.dens k != gi L.dens k) = false := by simp [hq]
            have HS := Lib.hid (show ∀ j, j < k + 1 → gi K.dens j = gi L.dens j from fun j hj => by
              by_cases x : j = k
              · subst x; exact hq
              · exact hno.out j (by omega))
            clear hq hno
            go_wp2_with fail
            go_quiet (fail)
            go_wp2_with fail
            go_roundw
            case rel => exact ⟨k + 1, by omega, by go_num, HS, below_drewN hB _⟩
            case measure => simp [intOf]; omega
          · have hqb : (gi K.dens k != gi L.dens k) = true := by simp [hq]
            have HR := Lib.hid (show sameK K L = false by simp only [sameK, sameL, decide_eq_false (show ¬ K.dens = L.dens from fun x => hq (by rw [x]))]; simp)
            clear hq hno
            go_wp2_with fail
            go_quiet (fail)
            go_wp2_with fail
            go_ret
            exact ⟨ret_bool HR.out.symm, below_drewN hA _⟩
        · obtain rfl : k = K.dens.length := by omega
          have HR := Lib.hid (show sameK K L = true by
            have hd := gi_ext HQ3.out hno.out
            simp only [sameK, sameL, decide_eq_true HQ1.out, decide_eq_true HC.out, decide_eq_true hd]; rfl)
          clear hno
          go_wp2_with fail
          go_ret
          exact ⟨ret_bool HR.out.symm, hA⟩
end Go.Proofs.Ytgcbmnohhbcfiaa
