/- Check of cakes, the program's and the reference's. -/
import Derived.Test.YtgcbmnohhbcfiaaCkA
namespace Go.Proofs.Ytgcbmnohhbcfiaa
open Go.RowKit Go.Deep
set_option linter.unusedVariables false
set_option linter.unusedSimpArgs false

theorem fit_not {K : Ck} {i : Nat} (hi : i < K.dens.length) (h : ¬ (0 ≤ gi K.dens i ∧ gi K.dens i ≤ 12)) : ¬ K.Fit := fun f => h (f i hi)
theorem fit_mn {K : Ck} (h0 : 0 < K.dens.length) (h : mnTo K.dens (K.dens.length - 1) < 0) : ¬ K.Fit := fun f => by
  obtain ⟨i, hi, q⟩ := mnTo_neg.1 h
  have := f i (by omega); omega
theorem fit_mx {K : Ck} (h0 : 0 < K.dens.length) (h : 12 < mxTo K.dens (K.dens.length - 1)) : ¬ K.Fit := fun f => by
  obtain ⟨i, hi, q⟩ := mxTo_gt.1 h
  have := f i (by omega); omega
theorem some_mx {K : Ck} (h0 : 0 < K.dens.length) (h : mxTo K.dens (K.dens.length - 1) = 0) : ¬ K.Some := fun s => s (fun i hi => by
  rcases Int.lt_or_le 0 (gi K.dens i) with q | q
  · have := (mxTo_gt (l := K.dens) (b := 0) (k := K.dens.length - 1)).2 ⟨i, by omega, q⟩
    omega
  · exact q)
theorem fit_of {K : Ck} (h1 : ¬ mnTo K.dens (K.dens.length - 1) < 0) (h2 : ¬ 12 < mxTo K.dens (K.dens.length - 1)) : K.Fit := fun i hi => by
  constructor
  · rcases Int.lt_or_le (gi K.dens i) 0 with q | q
    · exact absurd (mnTo_neg.2 ⟨i, by omega, q⟩) h1
    · exact q
  · rcases Int.lt_or_le 12 (gi K.dens i) with q | q
    · exact absurd (mxTo_gt.2 ⟨i, by omega, q⟩) h2
    · exact q
theorem some_of {K : Ck} (h0 : 0 < K.dens.length) (h1 : ¬ mnTo K.dens (K.dens.length - 1) < 0) (h3 : ¬ mxTo K.dens (K.dens.length - 1) = 0) : K.Some := fun s => by
  have f0 : 0 ≤ gi K.dens 0 := by
    rcases Int.lt_or_le (gi K.dens 0) 0 with q | q
    · exact absurd (mnTo_neg.2 ⟨0, by omega, q⟩) h1
    · exact q
  have a : -1 < mxTo K.dens (K.dens.length - 1) := mxTo_gt.2 ⟨0, by omega, by omega⟩
  have b : 0 < mxTo K.dens (K.dens.length - 1) := by omega
  obtain ⟨i, hi, q⟩ := mxTo_gt.1 b
  have := s i (by omega); omega
/-- A density among the first k is more than 0. -/
def someB (l : List Int) : Nat → Bool
  | 0 => false
  | k + 1 => someB l k || decide (0 < gi l k)
theorem someB_iff {l : List Int} : ∀ {k : Nat}, someB l k = true ↔ ∃ i, i < k ∧ 0 < gi l i
  | 0 => by simp [someB]
  | k + 1 => by
    rw [someB, Bool.or_eq_true, someB_iff, decide_eq_true_eq]
    constructor
    · rintro (⟨i, h1, h2⟩ | h)
      · exact ⟨i, by omega, h2⟩
      · exact ⟨k, by omega, h⟩
    · rintro ⟨i, h1, h2⟩
      by_cases e : i = k
      · subst e; exact Or.inr h2
      · exact Or.inl ⟨i, by omega, h2⟩
theorem someB_some {K : Ck} : someB K.dens K.dens.length = true ↔ K.Some := by
  rw [someB_iff]
  constructor
  · rintro ⟨i, h1, h2⟩ s
    have := s i h1; omega
  · intro s
    rcases Classical.em (∃ i, i < K.dens.length ∧ 0 < gi K.dens i) with e | e
    · exact e
    · exact absurd (fun i hi => by rcases Int.lt_or_le 0 (gi K.dens i) with q | q; exact absurd ⟨i, hi, q⟩ e; exact q) s

set_option maxRecDepth 100000 in
set_option maxHeartbeats 8000000 in
theorem ccheck_any (K : Ck) (A : Option Addr) (c : Nat) (R : Option Addr) (d : Nat) (w : World) (h : CIn w.heap.size w A c R d K) :
    Calls Try.prog 26 #[cV A c R d K] w fun e w' => e = .returned (.int .i64 K.code) ∧ Below w.heap.size w w' := by
  have HB0 := Lib.hid (one_alloc w (cB A c R d K))
  have hg : (w.alloc (cB A c R d K)).heap[w.heap.size]? = some (cB A c R d K) := heap_new rfl
  have lc := Nat.le_trans h.lc h.mc
  have ld := Nat.le_trans h.ld h.md
  have w0 := h.w0
  have w1 := h.w1
  unfold maxLen at lc ld
  have HH := Lib.hid h
  have cg := fun j => cell_of_row _ _ j _ _ _ hg
  have zg := lt_some hg
  clear h
  go_enter Try.func26, Try.ntmps26
  by_cases q1 : 1000 < K.len
  · have d1 : decide (1000 < K.len) = true := by simpa using q1
    have HE := Lib.hid (Ck.code_many (Or.inl q1))
    go_wp2_with fail
    go_ret
    exact ⟨by rw [HE.out]; first | done | rfl, HB0.out⟩
  have d1 : decide (1000 < K.len) = false := by simpa using q1
  by_cases q2 : 40 < K.cuts.length
  · have d2 : decide ((40 : Int) < (K.cuts.length : Int)) = true := by simp; omega
    have d2' : decide (40 < K.cuts.length) = true := by simp; omega
    have HE := Lib.hid (Ck.code_many (Or.inr q2))
    go_wp2_with fail
    go_ret
    exact ⟨by rw [HE.out]; first | done | rfl, HB0.out⟩
  have d2 : decide ((40 : Int) < (K.cuts.length : Int)) = false := by simp; omega
  have d2' : decide (40 < K.cuts.length) = false := by simp; omega
  have HM := Lib.hid (show ¬ K.Many from fun x => x.elim q1 q2)
  have x1 : IntKind.i64.wrap ((K.cuts.length : Int) - 1) = (K.cuts.length : Int) - 1 := IntWalk.i64_in _ (by omega)
  have x1' : wrap64 ((K.cuts.length : Int) - 1) = (K.cuts.length : Int) - 1 := IntWalk.wrap64_in _ (by omega)
  by_cases q3 : K.len < 1
  · have d3 : decide (K.len < 1) = true := by simpa using q3
    have HE := Lib.hid (Ck.code_ends HM.out (fun x => by have := x.1; omega))
    go_wp2_with fail
    go_quiet (fail)
    go_wp2_with fail
    go_ret
    exact ⟨by rw [HE.out]; first | done | rfl, below_drewN HB0.out _⟩
  have d3 : decide (K.len < 1) = false := by simpa using q3
  by_cases q4 : K.cuts.length < 2
  · have d4 : decide ((K.cuts.length : Int) < 2) = true := by simp; omega
    have d4' : decide (K.cuts.length < 2) = true := by simp; omega
    have HE := Lib.hid (Ck.code_ends HM.out (fun x => by have := x.2.1; omega))
    go_wp2_with fail
    go_quiet (fail)
    go_wp2_with fail
    go_ret
    exact ⟨by rw [HE.out]; first | done | rfl, below_drewN HB0.out _⟩
  have d4 : decide ((K.cuts.length : Int) < 2) = false := by simp; omega
  have d4' : decide (K.cuts.length < 2) = false := by simp; omega
  by_cases q5 : (K.dens.length : Int) = (K.cuts.length : Int) - 1
  rotate_left
  · have d5 : ((K.dens.length : Int) != (K.cuts.length : Int) - 1) = true := by simpa using q5
    have HE := Lib.hid (Ck.code_ends HM.out (fun x => q5 x.2.2.1))
    go_wp2_with fail
    go_quiet (fail)
    go_wp2_with fail
    go_ret
    exact ⟨by rw [HE.out]; first | done | rfl, below_drewN HB0.out _⟩
  have d5 : ((K.dens.length : Int) != (K.cuts.length : Int) - 1) = false := by simpa using q5
  have HL := Lib.hid q5
  obtain ⟨ad, rfl, hb0, hc0⟩ := HH.out.cuts.at_ (show 0 < K.cuts.length by omega)
  obtain ⟨ad', e1, hb1, hc1⟩ := HH.out.cuts.at_ (show K.cuts.length - 1 < K.cuts.length by omega)
  obtain rfl : ad = ad' := by simpa using e1
  rw [show ad.add 0 = ad by simp [Addr.add]] at hc0
  have HC := Lib.hid (fun (W : World) (hb : Below w.heap.size w W) => show W.cell? ad = some (.int .i64 (gi K.cuts 0)) ∧ W.cell? (ad.add (K.cuts.length - 1)) = some (.int .i64 (gi K.cuts (K.cuts.length - 1))) from
    ⟨(hb.cell hb0).trans hc0, (hb.cell (by rw [block_add]; exact hb1)).trans hc1⟩)
  obtain ⟨k0, k1⟩ := HC.out _ HB0.out
  have y1 : ((K.cuts.length : Int) - 1).toNat = K.cuts.length - 1 := by omega
  have y2 : (0 : Int) ≤ (K.cuts.length : Int) - 1 := by omega
  have y3 : (K.cuts.length : Int) - 1 < (K.cuts.length : Int) := by omega
  have y4 : (0 : Int) < (K.cuts.length : Int) := by omega
  have y5 : 0 < K.cuts.length := by omega
  have y6 : K.cuts.length - 1 < K.cuts.length := by omega
  clear e1 hb0 hc0 hb1 hc1 q5
  by_cases q6 : gi K.cuts 0 = 0
  rotate_left
  · have d6 : (gi K.cuts 0 != 0) = true := by simpa using q6
    have HE := Lib.hid (Ck.code_ends HM.out (fun x => q6 x.2.2.2.1))
    go_wp2_with fail
    go_quiet (fail)
    go_wp2_with fail
    go_ret
    exact ⟨by rw [HE.out]; first | done | rfl, below_drewN HB0.out _⟩
  have d6 : (gi K.cuts 0 != 0) = false := by simpa using q6
  by_cases q7 : gi K.cuts (K.cuts.length - 1) = K.len
  rotate_left
  · have d7 : (gi K.cuts (K.cuts.length - 1) != K.len) = true := by simpa using q7
    have HE := Lib.hid (Ck.code_ends HM.out (fun x => q7 x.2.2.2.2))
    go_wp2_with fail
    go_quiet (fail)
    go_wp2_with fail
    go_ret
    exact ⟨by rw [HE.out]; first | done | rfl, below_drewN HB0.out _⟩
  have d7 : (gi K.cuts (K.cuts.length - 1) != K.len) = false := by simpa using q7
  have HEN := Lib.hid (show K.Ends from ⟨by omega, by omega, HL.out, q6, q7⟩)
  have m0 : K.dens.length = K.cuts.length - 1 := by have := HL.out; omega
  have HM0 := Lib.hid m0
  clear q6 q7 m0
  go_wp2_with fail
  go_quiet (fail)
  clear k0 k1 cg zg
  go_wp2_with fail
  have hgq : ((w.alloc (cB (some ad) c R d K)).drewN nq).heap[w.heap.size]? = some (cB (some ad) c R d K) := hg
  have HBq := Lib.hid (below_drewN HB0.out nq)
  generalize (w.alloc _).drewN nq = w2 at *
  have lb : K.cuts.length ≤ 40 := by clear lc ld x1 x1' y1 y2 y3 y4 y5 y6; omega
  have lb2 : 2 ≤ K.cuts.length := by clear lc ld x1 x1' y1 y2 y3 y4 y5 y6; omega
  clear y1 y2 y3 y4 y5 y6 x1 x1' d1 d2 d2' d3 d4 d4' d5 d6 d7 q1 q2 q3 q4 lc ld
  go_loopw [50] (fun s50 wr => ∃ i : Nat, i ≤ K.cuts.length - 1 ∧ s50 = .int .i64 i ∧ (∀ j, j < i → gi K.cuts j < gi K.cuts (j + 1)) ∧ Below w.heap.size w wr ∧ wr.heap[w.heap.size]? = some (cB (some ad) c R d K)) (fun s50 _ => K.cuts.length - 1 - (intOf s50).toNat)
  case atStart => exact ⟨0, Nat.zero_le _, rfl, fun j hj => absurd hj (Nat.not_lt_zero _), HBq.out, hgq⟩
  case round =>
    obtain ⟨i, hi, rfl, hris, hB, hg⟩ := hrel
    have cg := fun j => cell_of_row _ _ j _ _ _ hg
    have zg := lt_some hg
    by_cases hlt : i < K.cuts.length - 1
    · obtain ⟨ae, e1, hb0, hc0⟩ := HH.out.cuts.at_ (show i < K.cuts.length by omega)
      obtain rfl : ad = ae := by simpa using e1
      obtain ⟨ae, e2, hb1, hc1⟩ := HH.out.cuts.at_ (show i + 1 < K.cuts.length by omega)
      obtain rfl : ad = ae := by simpa using e2
      have k0 := (hB.cell (p := ad.add i) (by rw [block_add]; exact hb0)).trans hc0
      have k1 := (hB.cell (p := ad.add (i + 1)) (by rw [block_add]; exact hb1)).trans hc1
      have k1b : wr.cell? ⟨ad.block, ad.off + (i + 1), none⟩ = some (.int .i64 (gi K.cuts (i + 1))) := k1
      have z1 : (i : Int) < (K.cuts.length : Int) - 1 := by omega
      have z2 : (i : Int) < (K.cuts.length : Int) := by omega
      have z3 : (0 : Int) ≤ (i : Int) := by omega
      have z4 : (i : Int) + 1 < (K.cuts.length : Int) := by omega
      have z5 : (0 : Int) ≤ (i : Int) + 1 := by omega
      have z6 : ((i : Int) + 1).toNat = i + 1 := by omega
      have z7 : i < K.cuts.length := by omega
      have z8 : i + 1 < K.cuts.length := by omega
      have x2 : IntKind.i64.wrap ((i : Int) + 1) = (i : Int) + 1 := IntWalk.i64_in _ (by omega)
      have x2' : wrap64 ((i : Int) + 1) = (i : Int) + 1 := IntWalk.wrap64_in _ (by omega)
      have HBr := Lib.hid hB
      have HGr := Lib.hid hg
      have HRI := Lib.hid hris
      clear e1 e2 hb0 hb1 hc0 hc1 hB hg hris
      by_cases q : gi K.cuts (i + 1) ≤ gi K.cuts i
      · have d8 : decide (gi K.cuts (i + 1) ≤ gi K.cuts i) = true := by simpa using q
        have HE := Lib.hid (Ck.code_rise HM.out (fun x => by have := x i hlt; omega))
        go_wp2_with fail
        go_quiet (fail)
        go_wp2_with fail
        go_ret
        exact ⟨by rw [HE.out]; first | done | rfl, below_drewN HBr.out _⟩
      · have d8 : decide (gi K.cuts (i + 1) ≤ gi K.cuts i) = false := by simpa using q
        go_wp2_with fail
        go_quiet (fail)
        go_wp2_with fail
        exact ⟨⟨i + 1, by omega, by go_num, fun j hj => by
          by_cases e : j = i
          · subst e; omega
          · exact HRI.out j (by omega), below_drewN HBr.out _, HGr.out⟩, by simp [intOf]; omega⟩
    · obtain rfl : i = K.cuts.length - 1 := by omega
      have z0 : decide (((K.cuts.length - 1 : Nat) : Int) < (K.cuts.length : Int) - 1) = false := decide_eq_false (by omega)
      have HRI := Lib.hid (show K.Rise from hris)
      have HBr := Lib.hid hB
      have m0 := HM0.out
      have mp : 0 < K.dens.length := by omega
      have HMN := Lib.hid (fun (W : World) (hW : Below w.heap.size w W) => min_any R d K.dens W (HH.out.dens.next hW) mp (Nat.le_trans HH.out.ld HH.out.md))
      have HMX := Lib.hid (fun (W : World) (hW : Below w.heap.size w W) => max_any R d K.dens W (HH.out.dens.next hW) mp (Nat.le_trans HH.out.ld HH.out.md))
      obtain ⟨mn, hmn⟩ : ∃ mn, mn = mnTo K.dens (K.dens.length - 1) := ⟨_, rfl⟩
      obtain ⟨mx, hmx⟩ : ∃ mx, mx = mxTo K.dens (K.dens.length - 1) := ⟨_, rfl⟩
      rw [← hmn] at HMN
      rw [← hmx] at HMX
      have HN := Lib.hid hmn
      have HX := Lib.hid hmx
      have HP := Lib.hid mp
      clear m0 mp hris hB hmn hmx hi hlt
      go_wp2_with fail
      refine (HMN.out _ HBr.out).mono ?_
      rintro e w3 ⟨rfl, hb⟩
      have HB3 := Lib.hid (bcall HBr.out HBr.out.size hb)
      have hg := heap_ext hg hb
      clear cg zg hb
      have cg := fun j => cell_of_row _ _ j _ _ _ hg
      have zg := lt_some hg
      by_cases r1 : mn < 0
      · have e1 : decide (mn < 0) = true := by simpa using r1
        have HE := Lib.hid (Ck.code_fit HM.out (fit_mn HP.out (HN.out ▸ r1)))
        go_wp2_with fail
        go_ret
        exact ⟨by rw [HE.out]; first | done | rfl, HB3.out⟩
      have R1 := Lib.hid r1
      have e1 : decide (mn < 0) = false := by simpa using r1
      go_wp2_with fail
      refine (HMX.out _ HB3.out).mono ?_
      rintro e w4 ⟨rfl, hb⟩
      have HB4 := Lib.hid (bcall HB3.out HB3.out.size hb)
      have hg := heap_ext hg hb
      clear cg zg hb
      have cg := fun j => cell_of_row _ _ j _ _ _ hg
      have zg := lt_some hg
      by_cases r2 : 12 < mx
      · have e2 : decide (12 < mx) = true := by simpa using r2
        have HE := Lib.hid (Ck.code_fit HM.out (fit_mx HP.out (HX.out ▸ r2)))
        go_wp2_with fail
        go_ret
        exact ⟨by rw [HE.out]; first | done | rfl, HB4.out⟩
      have R2 := Lib.hid r2
      have e2 : decide (12 < mx) = false := by simpa using r2
      go_wp2_with fail
      refine (HMX.out _ HB4.out).mono ?_
      rintro e w5 ⟨rfl, hb⟩
      have HB5 := Lib.hid (bcall HB4.out HB4.out.size hb)
      clear cg zg hb
      by_cases r3 : mx = 0
      · have e3 : (mx == 0) = true := by simpa using r3
        have HE := Lib.hid (Ck.code_some HM.out (some_mx HP.out (HX.out ▸ r3)))
        go_wp2_with fail
        go_ret
        exact ⟨by rw [HE.out]; first | done | rfl, HB5.out⟩
      have R3 := Lib.hid r3
      have e3 : (mx == 0) = false := by simpa using r3
      have HE := Lib.hid (Ck.code_good HM.out HEN.out HRI.out (fit_of (by have := R1.out; have := HN.out; omega) (by have := R2.out; have := HX.out; omega)) (some_of HP.out (by have := R1.out; have := HN.out; omega) (by have := R3.out; have := HX.out; omega)))
      go_wp2_with fail
      go_ret
      exact ⟨by rw [HE.out]; first | done | rfl, HB5.out⟩
end Go.Proofs.Ytgcbmnohhbcfiaa
