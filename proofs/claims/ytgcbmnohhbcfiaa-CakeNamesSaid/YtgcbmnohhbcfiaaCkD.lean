/- Check of cakes, the reference's. -/
import Derived.Test.YtgcbmnohhbcfiaaCkC
namespace Go.Proofs.Ytgcbmnohhbcfiaa
open Go.RowKit Go.Deep
set_option linter.unusedVariables false
set_option linter.unusedSimpArgs false

set_option maxRecDepth 100000 in
set_option maxHeartbeats 8000000 in
theorem fckcheck_any (K : Ck) (A : Option Addr) (c : Nat) (R : Option Addr) (d : Nat) (w : World) (h : CIn w.heap.size w A c R d K) :
    Calls Try.prog 27 #[cV A c R d K] w fun e w' => e = .returned (.int .i64 K.code) ∧ Below w.heap.size w w' := by
  have HB0 := Lib.hid (one_alloc w (cB A c R d K))
  have hg : (w.alloc (cB A c R d K)).heap[w.heap.size]? = some (cB A c R d K) := heap_new rfl
  have lc := Nat.le_trans h.lc h.mc
  have ld := Nat.le_trans h.ld h.md
  have w0 := h.w0
  have w1 := h.w1
  unfold maxLen at lc ld
  have HH := Lib.hid h
  have cg := fun j => cell_of_row _ _ j _ _ _ hg
  have zg := lt_some hg
  clear h
  go_enter Try.func27, Try.ntmps27
  by_cases q1 : 1000 < K.len
  · have d1 : decide (1000 < K.len) = true := by simpa using q1
    have HE := Lib.hid (Ck.code_many (Or.inl q1))
    go_wp2_with fail
    go_ret
    exact ⟨by rw [HE.out]; first | done | rfl, HB0.out⟩
  have d1 : decide (1000 < K.len) = false := by simpa using q1
  by_cases q2 : 40 < K.cuts.length
  · have d2 : decide ((40 : Int) < (K.cuts.length : Int)) = true := by simp; omega
    have d2' : decide (40 < K.cuts.length) = true := by simp; omega
    have HE := Lib.hid (Ck.code_many (Or.inr q2))
    go_wp2_with fail
    go_ret
    exact ⟨by rw [HE.out]; first | done | rfl, HB0.out⟩
  have d2 : decide ((40 : Int) < (K.cuts.length : Int)) = false := by simp; omega
  have d2' : decide (40 < K.cuts.length) = false := by simp; omega
  have HM := Lib.hid (show ¬ K.Many from fun x => x.elim q1 q2)
  have x1 : IntKind.i64.wrap ((K.cuts.length : Int) - 1) = (K.cuts.length : Int) - 1 := IntWalk.i64_in _ (by omega)
  have x1' : wrap64 ((K.cuts.length : Int) - 1) = (K.cuts.length : Int) - 1 := IntWalk.wrap64_in _ (by omega)
  by_cases q3 : K.len < 1
  · have d3 : decide (K.len < 1) = true := by simpa using q3
    have HE := Lib.hid (Ck.code_ends HM.out (fun x => by have := x.1; omega))
    go_wp2_with fail
    go_quiet (fail)
    go_wp2_with fail
    go_ret
    exact ⟨by rw [HE.out]; first | done | rfl, below_drewN HB0.out _⟩
  have d3 : decide (K.len < 1) = false := by simpa using q3
  by_cases q4 : K.cuts.length < 2
  · have d4 : decide ((K.cuts.length : Int) < 2) = true := by simp; omega
    have d4' : decide (K.cuts.length < 2) = true := by simp; omega
    have HE := Lib.hid (Ck.code_ends HM.out (fun x => by have := x.2.1; omega))
    go_wp2_with fail
    go_quiet (fail)
    go_wp2_with fail
    go_ret
    exact ⟨by rw [HE.out]; first | done | rfl, below_drewN HB0.out _⟩
  have d4 : decide ((K.cuts.length : Int) < 2) = false := by simp; omega
  have d4' : decide (K.cuts.length < 2) = false := by simp; omega
  by_cases q5 : (K.dens.length : Int) = (K.cuts.length : Int) - 1
  rotate_left
  · have d5 : ((K.dens.length : Int) != (K.cuts.length : Int) - 1) = true := by simpa using q5
    have HE := Lib.hid (Ck.code_ends HM.out (fun x => q5 x.2.2.1))
    go_wp2_with fail
    go_quiet (fail)
    go_wp2_with fail
    go_ret
    exact ⟨by rw [HE.out]; first | done | rfl, below_drewN HB0.out _⟩
  have d5 : ((K.dens.length : Int) != (K.cuts.length : Int) - 1) = false := by simpa using q5
  have HL := Lib.hid q5
  obtain ⟨ad, rfl, hb0, hc0⟩ := HH.out.cuts.at_ (show 0 < K.cuts.length by omega)
  obtain ⟨ad', e1, hb1, hc1⟩ := HH.out.cuts.at_ (show K.cuts.length - 1 < K.cuts.length by omega)
  obtain rfl : ad = ad' := by simpa using e1
  rw [show ad.add 0 = ad by simp [Addr.add]] at hc0
  have HC := Lib.hid (fun (W : World) (hb : Below w.heap.size w W) => show W.cell? ad = some (.int .i64 (gi K.cuts 0)) ∧ W.cell? (ad.add (K.cuts.length - 1)) = some (.int .i64 (gi K.cuts (K.cuts.length - 1))) from
    ⟨(hb.cell hb0).trans hc0, (hb.cell (by rw [block_add]; exact hb1)).trans hc1⟩)
  obtain ⟨k0, k1⟩ := HC.out _ HB0.out
  have y1 : ((K.cuts.length : Int) - 1).toNat = K.cuts.length - 1 := by omega
  have y2 : (0 : Int) ≤ (K.cuts.length : Int) - 1 := by omega
  have y3 : (K.cuts.length : Int) - 1 < (K.cuts.length : Int) := by omega
  have y4 : (0 : Int) < (K.cuts.length : Int) := by omega
  have y5 : 0 < K.cuts.length := by omega
  have y6 : K.cuts.length - 1 < K.cuts.length := by omega
  clear e1 hb0 hc0 hb1 hc1 q5
  by_cases q6 : gi K.cuts 0 = 0
  rotate_left
  · have d6 : (gi K.cuts 0 != 0) = true := by simpa using q6
    have HE := Lib.hid (Ck.code_ends HM.out (fun x => q6 x.2.2.2.1))
    go_wp2_with fail
    go_quiet (fail)
    go_wp2_with fail
    go_ret
    exact ⟨by rw [HE.out]; first | done | rfl, below_drewN HB0.out _⟩
  have d6 : (gi K.cuts 0 != 0) = false := by simpa using q6
  by_cases q7 : gi K.cuts (K.cuts.length - 1) = K.len
  rotate_left
  · have d7 : (gi K.cuts (K.cuts.length - 1) != K.len) = true := by simpa using q7
    have HE := Lib.hid (Ck.code_ends HM.out (fun x => q7 x.2.2.2.2))
    go_wp2_with fail
    go_quiet (fail)
    go_wp2_with fail
    go_ret
    exact ⟨by rw [HE.out]; first | done | rfl, below_drewN HB0.out _⟩
  have d7 : (gi K.cuts (K.cuts.length - 1) != K.len) = false := by simpa using q7
  have HEN := Lib.hid (show K.Ends from ⟨by omega, by omega, HL.out, q6, q7⟩)
  have m0 : K.dens.length = K.cuts.length - 1 := by have := HL.out; omega
  have HM0 := Lib.hid m0
  clear q6 q7 m0
  go_wp2_with fail
  go_quiet (fail)
  clear k0 k1 cg zg
  go_wp2_with fail
  have hgq : ((w.alloc (cB (some ad) c R d K)).drewN nq).heap[w.heap.size]? = some (cB (some ad) c R d K) := hg
  have HBq := Lib.hid (below_drewN HB0.out nq)
  generalize (w.alloc _).drewN nq = w2 at *
  have lb : K.cuts.length ≤ 40 := by clear lc ld x1 x1' y1 y2 y3 y4 y5 y6; omega
  have lb2 : 2 ≤ K.cuts.length := by clear lc ld x1 x1' y1 y2 y3 y4 y5 y6; omega
  clear y1 y2 y3 y4 y5 y6 x1 x1' d1 d2 d2' d3 d4 d4' d5 d6 d7 q1 q2 q3 q4 lc ld
  go_loopw [3, 4] (fun s3 s4 wr => ∃ i : Nat, i ≤ K.dens.length ∧ s4 = .int .i64 i ∧ s3 = .bool (someB K.dens i) ∧ (∀ j, j < i → gi K.cuts j < gi K.cuts (j + 1) ∧ 0 ≤ gi K.dens j ∧ gi K.dens j ≤ 12) ∧ Below w.heap.size w wr ∧ wr.heap[w.heap.size]? = some (cB (some ad) c R d K)) (fun _ s4 _ => K.dens.length - (intOf s4).toNat)
  case atStart => exact ⟨0, Nat.zero_le _, rfl, rfl, fun j hj => absurd hj (Nat.not_lt_zero _), HBq.out, hgq⟩
  case round =>
    obtain ⟨i, hi, rfl, rfl, hris, hB, hg⟩ := hrel
    have cg := fun j => cell_of_row _ _ j _ _ _ hg
    have zg := lt_some hg
    by_cases hlt : i < K.dens.length
    · have m0 := HM0.out
      have hin : i < K.cuts.length - 1 := by omega
      have HLE := Lib.hid (show i + 1 ≤ K.dens.length by omega)
      have HME := Lib.hid (show K.dens.length - (i + 1) < K.dens.length - i by omega)
      obtain ⟨ae, e1, hb0, hc0⟩ := HH.out.cuts.at_ (show i < K.cuts.length by omega)
      obtain rfl : ad = ae := by simpa using e1
      obtain ⟨ae, e2, hb1, hc1⟩ := HH.out.cuts.at_ (show i + 1 < K.cuts.length by omega)
      obtain rfl : ad = ae := by simpa using e2
      obtain ⟨rd, rfl, hb2, hc2⟩ := HH.out.dens.at_ hlt
      have k0 := (hB.cell (p := ad.add i) (by rw [block_add]; exact hb0)).trans hc0
      have k1 := (hB.cell (p := ad.add (i + 1)) (by rw [block_add]; exact hb1)).trans hc1
      have k1b : wr.cell? ⟨ad.block, ad.off + (i + 1), none⟩ = some (.int .i64 (gi K.cuts (i + 1))) := k1
      have k2 := (hB.cell (p := rd.add i) (by rw [block_add]; exact hb2)).trans hc2
      have z1 : (i : Int) < (K.dens.length : Int) := by omega
      have z2 : (i : Int) < (K.cuts.length : Int) := by omega
      have z3 : (0 : Int) ≤ (i : Int) := by omega
      have z4 : (i : Int) + 1 < (K.cuts.length : Int) := by omega
      have z5 : (0 : Int) ≤ (i : Int) + 1 := by omega
      have z6 : ((i : Int) + 1).toNat = i + 1 := by omega
      have z7 : i < K.cuts.length := by omega
      have z8 : i + 1 < K.cuts.length := by omega
      have x2 : IntKind.i64.wrap ((i : Int) + 1) = (i : Int) + 1 := IntWalk.i64_in _ (by omega)
      have x2' : wrap64 ((i : Int) + 1) = (i : Int) + 1 := IntWalk.wrap64_in _ (by omega)
      have HBr := Lib.hid hB
      have HGr := Lib.hid hg
      have HRI := Lib.hid hris
      clear e1 e2 hb0 hb1 hc0 hc1 hb2 hc2 hB hg hris m0
      by_cases q : gi K.cuts (i + 1) ≤ gi K.cuts i
      · have d8 : decide (gi K.cuts (i + 1) ≤ gi K.cuts i) = true := by simpa using q
        have HE := Lib.hid (Ck.code_rise HM.out (fun x => absurd (x i hin) (Int.not_lt.2 q)))
        go_wp2_with fail
        go_quiet (fail)
        go_wp2_with fail
        go_ret
        exact ⟨by rw [HE.out]; first | done | rfl, below_drewN HBr.out _⟩
      have d8 : decide (gi K.cuts (i + 1) ≤ gi K.cuts i) = false := by simpa using q
      by_cases q8 : gi K.dens i < 0
      · have d9 : decide (gi K.dens i < 0) = true := by simpa using q8
        have FN : ¬ (0 ≤ gi K.dens i ∧ gi K.dens i ≤ 12) := fun z => absurd z.1 (Int.not_le.2 q8)
        have HE := Lib.hid (Ck.code_fit HM.out (fit_not hlt FN))
        go_wp2_with fail
        go_quiet (fail)
        go_wp2_with fail
        go_ret
        exact ⟨by rw [HE.out]; first | done | rfl, below_drewN HBr.out _⟩
      have d9 : decide (gi K.dens i < 0) = false := by simpa using q8
      by_cases q9 : 12 < gi K.dens i
      · have d10 : decide (12 < gi K.dens i) = true := by simpa using q9
        have FN : ¬ (0 ≤ gi K.dens i ∧ gi K.dens i ≤ 12) := fun z => absurd z.2 (Int.not_le.2 q9)
        have HE := Lib.hid (Ck.code_fit HM.out (fit_not hlt FN))
        go_wp2_with fail
        go_quiet (fail)
        go_wp2_with fail
        go_ret
        exact ⟨by rw [HE.out]; first | done | rfl, below_drewN HBr.out _⟩
      have d10 : decide (12 < gi K.dens i) = false := by simpa using q9
      have HRJ := Lib.hid (show ∀ j, j < i + 1 → gi K.cuts j < gi K.cuts (j + 1) ∧ 0 ≤ gi K.dens j ∧ gi K.dens j ≤ 12 from fun j hj => by
        by_cases e : j = i
        · rw [e]; exact ⟨Int.not_le.1 q, Int.not_lt.1 q8, Int.not_lt.1 q9⟩
        · exact HRI.out j (Nat.lt_of_le_of_ne (Nat.lt_succ_iff.1 hj) e))
      have HSB := Lib.hid (show someB K.dens (i + 1) = (someB K.dens i || decide (0 < gi K.dens i)) from rfl)
      generalize someB K.dens i = sb at *
      cases sb with
      | true =>
        have HSE := Lib.hid (show someB K.dens (i + 1) = true by rw [HSB.out]; rfl)
        clear HSB
        go_wp2_with fail
        go_quiet (fail)
        go_wp2_with fail
        exact ⟨⟨i + 1, HLE.out, by go_num, by rw [HSE.out], HRJ.out, below_drewN HBr.out _, HGr.out⟩, by simpa [intOf] using HME.out⟩
      | false =>
        by_cases q10 : 0 < gi K.dens i
        · have d11 : decide (0 < gi K.dens i) = true := by simpa using q10
          have HSE := Lib.hid (show someB K.dens (i + 1) = true by rw [HSB.out, d11]; rfl)
          clear HSB
          go_wp2_with fail
          go_quiet (fail)
          go_wp2_with fail
          exact ⟨⟨i + 1, HLE.out, by go_num, by rw [HSE.out], HRJ.out, below_drewN HBr.out _, HGr.out⟩, by simpa [intOf] using HME.out⟩
        · have d11 : decide (0 < gi K.dens i) = false := by simpa using q10
          have HSE := Lib.hid (show someB K.dens (i + 1) = false by rw [HSB.out, d11]; rfl)
          clear HSB
          go_wp2_with fail
          go_quiet (fail)
          go_wp2_with fail
          exact ⟨⟨i + 1, HLE.out, by go_num, by rw [HSE.out], HRJ.out, below_drewN HBr.out _, HGr.out⟩, by simpa [intOf] using HME.out⟩
    · obtain rfl : i = K.dens.length := by omega
      have HRI := Lib.hid (show K.Rise from fun j hj => (hris j (by have := HM0.out; omega)).1)
      have HFT := Lib.hid (show K.Fit from fun j hj => (hris j hj).2)
      have HBr := Lib.hid hB
      have HSI := Lib.hid (someB_some (K := K))
      clear hris hB
      generalize someB K.dens K.dens.length = sb at *
      cases sb with
      | false =>
        have HE := Lib.hid (Ck.code_some HM.out (fun x => by have := HSI.out.2 x; cases this))
        go_wp2_with fail
        go_ret
        exact ⟨by rw [HE.out]; first | done | rfl, HBr.out⟩
      | true =>
        have HE := Lib.hid (Ck.code_good HM.out HEN.out HRI.out HFT.out (HSI.out.1 rfl))
        go_wp2_with fail
        go_ret
        exact ⟨by rw [HE.out]; first | done | rfl, HBr.out⟩
end Go.Proofs.Ytgcbmnohhbcfiaa
