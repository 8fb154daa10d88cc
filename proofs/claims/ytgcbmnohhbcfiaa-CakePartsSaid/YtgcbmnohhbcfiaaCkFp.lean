/- Part of cakes, the reference's. -/
import Derived.Test.YtgcbmnohhbcfiaaCkPt
import Derived.Test.YtgcbmnohhbcfiaaCkD
namespace Go.Proofs.Ytgcbmnohhbcfiaa
open Go.RowKit Go.Deep
set_option linter.unusedVariables false
set_option linter.unusedSimpArgs false

set_option maxRecDepth 100000 in
set_option maxHeartbeats 16000000 in
theorem fpart_any (K : Ck) (A : Option Addr) (c : Nat) (R : Option Addr) (d : Nat) (f t : Int) (hf0 : -9223372036854775808 ≤ f) (hf1 : f ≤ 9223372036854775807) (ht0 : -9223372036854775808 ≤ t) (ht1 : t ≤ 9223372036854775807) (w : World) (h : CIn w.heap.size w A c R d K) :
    Calls Try.prog 20 #[cV A c R d K, .int .i64 f, .int .i64 t] w (KRes (K.part? f t) (K.partC f t) w) := by
  obtain ⟨i0, hi0, hz0, hz1, hz2⟩ := info_parts info3
  have hM0 : Mx w [(w.heap.size + 1, kO 0 (.slice none 0 0) (.slice none 0 0)), (w.heap.size, cB A c R d K)] [] ((w.alloc (cB A c R d K)).alloc (kO 0 (.slice none 0 0) (.slice none 0 0))) :=
    ((Mx.of_bx (Bx.start w)).new rfl _).new (by simp) _
  have HH := Lib.hid h
  have HC := Lib.hid (fun (W : World) (hW : Below w.heap.size w W) => fckcheck_any K A c R d W (h.next hW))
  clear h
  unfold KRes
  go_enter Try.func20, Try.ntmps20
  go_upto_region 1 with fail
  generalize hw0 : (w.alloc (cB A c R d K)).alloc (kO 0 (.slice none 0 0) (.slice none 0 0)) = w0 at *
  clear hw0
  generalize w.heap.size + 1 = gO at *
  have c_K := fun j => cell_of_row _ _ j _ _ _ (hM0.get 1 rfl)
  have z_K := hM0.lt 1 rfl
  by_cases hc : K.code = 0
  rotate_left
  · have q : (K.code != 0) = true := by simpa using hc
    obtain ⟨code, hco⟩ : ∃ x, x = K.code := ⟨_, rfl⟩
    have HN := Lib.hid (show K.part? f t = Ck.zero ∧ K.partC f t = code by
      have e : K.partC f t = code := by unfold Ck.partC; rw [if_pos hc, hco]
      exact ⟨by unfold Ck.part?; rw [if_neg (by rw [e, hco]; exact hc)], e⟩)
    rw [← hco] at HC q
    clear hc hco
    go_wp2_with fail
    refine (HC.out _ hM0.below).mono ?_
    rintro e w1 ⟨rfl, hb⟩
    have hB1 := hM0.next hb
    clear c_K z_K hb hM0
    have c_K := fun j => cell_of_row _ _ j _ _ _ (hB1.get 1 rfl)
    have z_K := hB1.lt 1 rfl
    go_wp2_with fail
    refine (HC.out _ hB1.below).mono ?_
    rintro e w2 ⟨rfl, hb⟩
    have hB2 := hB1.next hb
    clear c_K z_K hb hB1
    have c_out := fun j => cell_of_row _ _ j _ _ _ (hB2.get 0 rfl)
    have z_out := hB2.lt 0 rfl
    have f_out := fun j => frozen_of_row _ _ j _ _ (hB2.get 0 rfl)
    have HE := Lib.hid (hB2.put3 0 rfl (.int .i64 0) (.slice none 0 0) (.slice none 0 0)).below
    clear hB2
    go_wp2_with fail
    refine bodyPost_ret (v := .tuple #[kV 0 (.slice none 0 0) (.slice none 0 0), .int .i64 (code)]) (by simp [results, Try.results20, go_sem, c_out, f_out, z_out]) rfl ?_
    exact ⟨(.slice none 0 0), (.slice none 0 0), by rw [HN.out.1, HN.out.2]; rfl, by rw [HN.out.1]; exact KOwn.zero _ _, HE.out⟩
  have q : (K.code != 0) = false := by simpa using hc
  have HK := Lib.hid (Ck.ok_code hc)
  have HA := Lib.hid (fun (h : K.pArg f t) => show K.part? f t = Ck.zero ∧ K.partC f t = 2 by
    have e : K.partC f t = 2 := by unfold Ck.partC; rw [if_neg (by omega), if_pos h]
    exact ⟨by unfold Ck.part?; rw [if_neg (by omega)], e⟩)
  have HB := Lib.hid (fun (h : ¬ K.pArg f t) => show K.partC f t = if (K.part f t).code ≠ 0 then 6 else 0 by unfold Ck.partC; rw [if_neg (by omega), if_neg h])
  rw [hc] at HC q
  clear hc
  go_wp2_with fail
  refine (HC.out _ hM0.below).mono ?_
  rintro e w1 ⟨rfl, hb⟩
  have hB1 := hM0.next hb
  clear c_K z_K hb hM0
  have c_K := fun j => cell_of_row _ _ j _ _ _ (hB1.get 1 rfl)
  have z_K := hB1.lt 1 rfl
  by_cases h1 : f < 0
  · have a1 : decide (f < 0) = true := by simpa using h1
    have HX := Lib.hid (HA.out (Or.inl h1))
    clear h1
    have c_out := fun j => cell_of_row _ _ j _ _ _ (hB1.get 0 rfl)
    have z_out := hB1.lt 0 rfl
    have f_out := fun j => frozen_of_row _ _ j _ _ (hB1.get 0 rfl)
    have HE := Lib.hid (hB1.put3 0 rfl (.int .i64 0) (.slice none 0 0) (.slice none 0 0)).below
    clear hB1
    go_wp2_with fail
    refine bodyPost_ret (v := .tuple #[kV 0 (.slice none 0 0) (.slice none 0 0), .int .i64 (2)]) (by simp [results, Try.results20, go_sem, c_out, f_out, z_out]) rfl ?_
    exact ⟨(.slice none 0 0), (.slice none 0 0), by rw [HX.out.1, HX.out.2]; rfl, by rw [HX.out.1]; exact KOwn.zero _ _, HE.out⟩
  have a1 : decide (f < 0) = false := by simpa using h1
  have Ha1 := Lib.hid h1
  clear h1
  by_cases h1 : K.len < t
  · have a2 : decide (K.len < t) = true := by simpa using h1
    have HX := Lib.hid (HA.out (Or.inr (Or.inl h1)))
    clear h1
    have c_out := fun j => cell_of_row _ _ j _ _ _ (hB1.get 0 rfl)
    have z_out := hB1.lt 0 rfl
    have f_out := fun j => frozen_of_row _ _ j _ _ (hB1.get 0 rfl)
    have HE := Lib.hid (hB1.put3 0 rfl (.int .i64 0) (.slice none 0 0) (.slice none 0 0)).below
    clear hB1
    go_wp2_with fail
    refine bodyPost_ret (v := .tuple #[kV 0 (.slice none 0 0) (.slice none 0 0), .int .i64 (2)]) (by simp [results, Try.results20, go_sem, c_out, f_out, z_out]) rfl ?_
    exact ⟨(.slice none 0 0), (.slice none 0 0), by rw [HX.out.1, HX.out.2]; rfl, by rw [HX.out.1]; exact KOwn.zero _ _, HE.out⟩
  have a2 : decide (K.len < t) = false := by simpa using h1
  have Ha2 := Lib.hid h1
  clear h1
  by_cases h1 : t ≤ f
  · have a3 : decide (t ≤ f) = true := by simpa using h1
    have HX := Lib.hid (HA.out (Or.inr (Or.inr h1)))
    clear h1
    have c_out := fun j => cell_of_row _ _ j _ _ _ (hB1.get 0 rfl)
    have z_out := hB1.lt 0 rfl
    have f_out := fun j => frozen_of_row _ _ j _ _ (hB1.get 0 rfl)
    have HE := Lib.hid (hB1.put3 0 rfl (.int .i64 0) (.slice none 0 0) (.slice none 0 0)).below
    clear hB1
    go_wp2_with fail
    refine bodyPost_ret (v := .tuple #[kV 0 (.slice none 0 0) (.slice none 0 0), .int .i64 (2)]) (by simp [results, Try.results20, go_sem, c_out, f_out, z_out]) rfl ?_
    exact ⟨(.slice none 0 0), (.slice none 0 0), by rw [HX.out.1, HX.out.2]; rfl, by rw [HX.out.1]; exact KOwn.zero _ _, HE.out⟩
  have a3 : decide (t ≤ f) = false := by simpa using h1
  have Ha3 := Lib.hid h1
  clear h1
  have HP := Lib.hid (show 0 ≤ f ∧ f < t ∧ t ≤ K.len by have := Ha1.out; have := Ha2.out; have := Ha3.out; omega)
  have HB := Lib.hid (HB.out (fun h => h.elim Ha1.out (fun h => h.elim Ha2.out Ha3.out)))
  clear HA
  have HX1 := Lib.hid (show -9223372036854775808 ≤ t - f ∧ t - f ≤ 9223372036854775807 by have := HP.out; have := HK.out.l2; omega)
  have x1 : IntKind.i64.wrap (t - f) = t - f := IntWalk.i64_in _ HX1.out
  have x1' : wrap64 (t - f) = t - f := IntWalk.wrap64_in _ HX1.out
  go_upto_region 6 with fail
  clear a1 a2 a3 x1 x1' Ha1 Ha2 Ha3
  have hB2a := hB1.addR (one_alloc w1 (.cells #[.int .i64 0] 3)) ⟨(.slice (some ⟨w1.heap.size, 0, none⟩) 1 1), 3, 1, 1, [.int .i64 0]⟩ (World.ownsRow_lit w1 #[.int .i64 0] 1 (Nat.le_refl _) (by unfold maxLen; omega) rfl)
  have hB2 := hB2a.new (g := w1.heap.size + 1) (by simp) (kO (t - f) (.slice (some ⟨w1.heap.size, 0, none⟩) 1 1) (.slice none 0 0))
  clear c_K z_K hB1 hB2a
  generalize w1.heap.size + 1 = g4 at *
  generalize w1.heap.size = g0 at *
  generalize (w1.alloc (.cells #[.int .i64 0] 3)).alloc _ = w4 at *
  have c_K := fun j => cell_of_row _ _ j _ _ _ (hB2.get 2 rfl)
  have z_K := hB2.lt 2 rfl
  go_wp2_with fail
  clear c_K z_K
  have HM4 := Lib.hid hB2
  clear hB2
  go_loopw [9] (fun s9 wr => ∃ (k : Nat) (vc vd : Value), k ≤ K.dens.length ∧ s9 = .int .i64 k ∧ Mx w [(g4, kO (t - f) vc vd), (gO, kO 0 (.slice none 0 0) (.slice none 0 0)), (w.heap.size, cB A c R d K)] [iR vd (pDens K f t k), iR vc (pCuts K f t k)] wr) (fun s9 _ => K.dens.length - (intOf s9).toNat)
  case atStart => exact ⟨0, _, _, Nat.zero_le _, rfl, HM4.out.nil 3 1⟩
  case round =>
    obtain ⟨k, vc, vd, hk, rfl, hMr⟩ := hrel
    clear HM4
    by_cases hlt : k < K.dens.length
    rotate_left
    · obtain rfl : k = K.dens.length := by omega
      clear hlt hk
      have HR1 : wr.ownsRow w.heap.size 3 1 vc (pCuts K f t K.dens.length).length (intsV (pCuts K f t K.dens.length)) := hMr.row 1 rfl
      have HR2 : wr.ownsRow w.heap.size 3 1 vd (pDens K f t K.dens.length).length (intsV (pDens K f t K.dens.length)) := hMr.row 0 rfl
      obtain ⟨A2, c2, rfl, _, _⟩ := own_nil_len HR1
      obtain ⟨A3, c3, rfl, _, _⟩ := own_nil_len HR2
      have HKO := Lib.hid (fun (W : World) (r1 : W.ownsRow w.heap.size 3 1 (.slice A2 (pCuts K f t K.dens.length).length c2) (pCuts K f t K.dens.length).length (intsV (pCuts K f t K.dens.length))) (r2 : W.ownsRow w.heap.size 3 1 (.slice A3 (pDens K f t K.dens.length).length c3) (pDens K f t K.dens.length).length (intsV (pDens K f t K.dens.length))) => show KOwn w.heap.size W (.slice A2 (K.part f t).cuts.length c2) (.slice A3 (K.part f t).dens.length c3) (K.part f t) from ⟨r1, r2, HX1.out.1, HX1.out.2⟩)
      have HCC := Lib.hid (fckcheck_any (K.part f t) A2 c2 A3 c3 _ ((HKO.out _ HR1 HR2).fresh.here))
      have HLC := Lib.hid (show (K.part f t).cuts = pCuts K f t K.dens.length ∧ (K.part f t).dens = pDens K f t K.dens.length ∧ (K.part f t).len = t - f from ⟨rfl, rfl, rfl⟩)
      have HKR := Lib.hid (fun (W : World) (hb : Below wr.heap.size wr W) => HKO.out W ((hMr.next hb).row 1 rfl) ((hMr.next hb).row 0 rfl))
      clear HR1 HR2
      obtain ⟨pc, hpc⟩ : ∃ x, x = (K.part f t).code := ⟨_, rfl⟩
      have HPC := Lib.hid hpc
      clear hpc
      have hcc := HCC.out
      dsimp only [cV] at hcc
      rw [HLC.out.1, HLC.out.2.1, HLC.out.2.2, ← HPC.out] at hcc
      clear HCC
      have c_o4 := fun j => cell_of_row _ _ j _ _ _ (hMr.get 0 rfl)
      have z_o4 := hMr.lt 0 rfl
      have c_K := fun j => cell_of_row _ _ j _ _ _ (hMr.get 2 rfl)
      have z_K := hMr.lt 2 rfl
      go_wp2_with fail
      refine hcc.mono ?_
      rintro e w61 ⟨rfl, hb⟩
      have hB61 := hMr.next hb
      clear hcc
      clear c_o4 z_o4 c_K z_K hb hMr
      by_cases hz : pc ≠ 0
      · have pq : (pc != 0) = true := by simpa using hz
        have HN := Lib.hid (show K.part? f t = Ck.zero ∧ K.partC f t = 6 by
          have e : K.partC f t = 6 := by rw [HB.out, ← HPC.out, if_pos hz]
          exact ⟨by unfold Ck.part?; rw [if_neg (by omega)], e⟩)
        clear hz
        have c_out := fun j => cell_of_row _ _ j _ _ _ (hB61.get 1 rfl)
        have z_out := hB61.lt 1 rfl
        have f_out := fun j => frozen_of_row _ _ j _ _ (hB61.get 1 rfl)
        have HE := Lib.hid (hB61.put3 1 rfl (.int .i64 0) (.slice none 0 0) (.slice none 0 0)).below
        clear hB61
        go_wp2_with fail
        refine bodyPost_ret (v := .tuple #[kV 0 (.slice none 0 0) (.slice none 0 0), .int .i64 (6)]) (by simp [results, Try.results20, go_sem, c_out, f_out, z_out]) rfl ?_
        exact ⟨(.slice none 0 0), (.slice none 0 0), by rw [HN.out.1, HN.out.2]; rfl, by rw [HN.out.1]; exact KOwn.zero _ _, HE.out⟩
      have pq : (pc != 0) = false := by simpa using hz
      have HN := Lib.hid (show K.part? f t = K.part f t ∧ K.partC f t = 0 by
        have e : K.partC f t = 0 := by rw [HB.out, ← HPC.out, if_neg hz]
        exact ⟨by unfold Ck.part?; rw [if_pos e], e⟩)
      clear hz
      have c_o4 := fun j => cell_of_row _ _ j _ _ _ (hB61.get 0 rfl)
      have z_o4 := hB61.lt 0 rfl
      have c_out := fun j => cell_of_row _ _ j _ _ _ (hB61.get 1 rfl)
      have z_out := hB61.lt 1 rfl
      have f_out := fun j => frozen_of_row _ _ j _ _ (hB61.get 1 rfl)
      have HE := Lib.hid (hB61.put3 1 rfl (.int .i64 (t - f)) (.slice A2 (pCuts K f t K.dens.length).length c2) (.slice A3 (pDens K f t K.dens.length).length c3))
      clear hB61
      go_wp2_with fail
      refine bodyPost_ret (v := .tuple #[kV (t - f) (.slice A2 (pCuts K f t K.dens.length).length c2) (.slice A3 (pDens K f t K.dens.length).length c3), .int .i64 0]) (by simp [results, Try.results20, go_sem, c_out, f_out, z_out]) rfl ?_
      refine ⟨_, _, by rw [HN.out.1, HN.out.2, HLC.out.2.2], ?_, HE.out.below⟩
      rw [HN.out.1]
      exact HKO.out _ (HE.out.row 1 rfl) (HE.out.row 0 rfl)
    have n1 := HK.out.n1
    have n2 := HK.out.n2
    have nc := HK.out.nc
    obtain ⟨ad, rfl, hb1, hc1⟩ := HH.out.cuts.at_ (show k < K.cuts.length by omega)
    obtain ⟨rd, rfl, hb2, hc2⟩ := HH.out.dens.at_ hlt
    obtain ⟨ae, e3, hb3, hc3⟩ := HH.out.cuts.at_ (show k + 1 < K.cuts.length by omega)
    obtain rfl : ad = ae := by simpa using e3
    have HF := Lib.hid (fun (W : World) (hW : Below w.heap.size w W) => show W.cell? (ad.add k) = some (.int .i64 (gi K.cuts k)) ∧ W.cell? (rd.add k) = some (.int .i64 (gi K.dens k)) ∧ W.cell? (ad.add (k + 1)) = some (.int .i64 (gi K.cuts (k + 1))) ∧ W.cell? ⟨ad.block, ad.off + (k + 1), none⟩ = some (.int .i64 (gi K.cuts (k + 1))) from
      ⟨(hW.cell (by rw [block_add]; exact hb1)).trans hc1, (hW.cell (by rw [block_add]; exact hb2)).trans hc2, (hW.cell (by rw [block_add]; exact hb3)).trans hc3, (hW.cell (p := ad.add (k + 1)) (by rw [block_add]; exact hb3)).trans hc3⟩)
    clear hb1 hc1 hb2 hc2 hb3 hc3 e3
    have z1 : (k : Int) < (K.dens.length : Int) := by omega
    have z2 : (k : Int) < (K.cuts.length : Int) := by omega
    have z3 : (0 : Int) ≤ (k : Int) := by omega
    have z4 : (k : Int) + 1 < (K.cuts.length : Int) := by omega
    have z5 : (0 : Int) ≤ (k : Int) + 1 := by omega
    have z6 : ((k : Int) + 1).toNat = k + 1 := by omega
    have y1 : IntKind.i64.wrap ((k : Int) + 1) = (k : Int) + 1 := IntWalk.i64_in _ (by omega)
    have y1' : wrap64 ((k : Int) + 1) = (k : Int) + 1 := IntWalk.wrap64_in _ (by omega)
    have HLE := Lib.hid (show k + 1 ≤ K.dens.length by omega)
    have HME := Lib.hid (show K.dens.length - (k + 1) < K.dens.length - k by omega)
    have HCB := Lib.hid (HK.out.cut_bd (i := k + 1) (by omega))
    have HNL := Lib.hid (show (pCuts K f t k).length ≤ 41 ∧ (pDens K f t k).length ≤ 40 ∧ k ≤ 39 by have := pLen (K := K) (f := f) (t := t) k; have := pLen_le (K := K) (f := f) (t := t) k; omega)
    have HB1 := Lib.hid (show (pCuts K f t k).length + 1 ≤ maxLen ∧ ((pCuts K f t k).length + 1) * 8 ≤ 140737488355328 by have := HNL.out; unfold maxLen; omega)
    have HB2 := Lib.hid (show (pDens K f t k).length + 1 ≤ maxLen ∧ ((pDens K f t k).length + 1) * 8 ≤ 140737488355328 by have := HNL.out; unfold maxLen; omega)
    have fc := (HF.out _ hMr.below).1
    have fe := (HF.out _ hMr.below).2.2.1
    have fe' := (HF.out _ hMr.below).2.2.2
    have HIN := Lib.hid (show pIn K f t k = (decide (gi K.cuts k < t) && decide (f < gi K.cuts (k + 1))) from rfl)
    clear n1 n2 nc hk
    have c_o4 := fun j => cell_of_row _ _ j _ _ _ (hMr.get 0 rfl)
    have z_o4 := hMr.lt 0 rfl
    have c_K := fun j => cell_of_row _ _ j _ _ _ (hMr.get 2 rfl)
    have z_K := hMr.lt 2 rfl
    by_cases hq : gi K.cuts k < t
    rotate_left
    · have hq1 : decide (gi K.cuts k < t) = false := by simpa using hq
      clear hq
      have HY := Lib.hid (And.intro (pCuts_no (K := K) (f := f) (t := t) (k := k) (by rw [HIN.out]; simp [hq1])) (pDens_no (K := K) (f := f) (t := t) (k := k) (by rw [HIN.out]; simp [hq1])))
      have HZ := Lib.hid hMr
      clear hMr
      go_wp2_with fail
      exact ⟨⟨k + 1, vc, vd, HLE.out, by go_num, by rw [HY.out.1, HY.out.2]; exact HZ.out⟩, by simpa [intOf] using HME.out⟩
    have hq1 : decide (gi K.cuts k < t) = true := by simpa using hq
    clear hq
    by_cases hq : f < gi K.cuts (k + 1)
    rotate_left
    · have hq2 : decide (f < gi K.cuts (k + 1)) = false := by simpa using hq
      clear hq
      have HY := Lib.hid (And.intro (pCuts_no (K := K) (f := f) (t := t) (k := k) (by rw [HIN.out]; simp [hq1, hq2])) (pDens_no (K := K) (f := f) (t := t) (k := k) (by rw [HIN.out]; simp [hq1, hq2])))
      have HZ := Lib.hid hMr
      clear hMr
      go_wp2_with fail
      exact ⟨⟨k + 1, vc, vd, HLE.out, by go_num, by rw [HY.out.1, HY.out.2]; exact HZ.out⟩, by simpa [intOf] using HME.out⟩
    have hq2 : decide (f < gi K.cuts (k + 1)) = true := by simpa using hq
    clear hq
    have HY := Lib.hid (And.intro (pCuts_yes (K := K) (f := f) (t := t) (k := k) (by rw [HIN.out]; simp [hq1, hq2])) (pDens_yes (K := K) (f := f) (t := t) (k := k) (by rw [HIN.out]; simp [hq1, hq2])))
    have HX2 := Lib.hid (show -9223372036854775808 ≤ min t (gi K.cuts (k + 1)) - f ∧ min t (gi K.cuts (k + 1)) - f ≤ 9223372036854775807 by have := HP.out; have := HCB.out; have := HK.out.l2; omega)
    have x2 : IntKind.i64.wrap (min t (gi K.cuts (k + 1)) - f) = min t (gi K.cuts (k + 1)) - f := IntWalk.i64_in _ HX2.out
    have x2' : wrap64 (min t (gi K.cuts (k + 1)) - f) = min t (gi K.cuts (k + 1)) - f := IntWalk.wrap64_in _ HX2.out
    go_upto_region 10 with fail
    clear c_o4 z_o4 c_K z_K
    refine wp_region_R (Bx w [(gO, kO 0 (.slice none 0 0) (.slice none 0 0)), (w.heap.size, cB (some ad) c (some rd) d K)]) 16 (by kernel_rfl) (by rfl) ((hMr.keep (List.Sublist.cons _ (List.Sublist.cons_cons _ (List.Sublist.cons_cons _ (List.nil_sublist _))))).drew) (fun wq1 hbq => ?_)
    have hB61 := hMr.next hbq
    clear hMr hbq
    refine wpAnyE_goR (Bx.grows _ _) (hB61.keep (List.Sublist.cons _ (List.Sublist.cons_cons _ (List.Sublist.cons_cons _ (List.nil_sublist _))))) [0, 2, 3, 4, 5, 6, 7, 8, 9, 10, 11] 5 (by kernel_rfl) ?_
    apply Exists.intro
    refine ⟨fun G hG hN => ?_, ?_⟩
    · have c_out := fun (e : GE (Bx w [(gO, kO 0 (.slice none 0 0) (.slice none 0 0)), (w.heap.size, cB (some ad) c (some rd) d K)]) G) j => cell_of_row e.w _ j _ _ _ ((GE.h e).get 0 rfl)
      have z_out := fun (e : GE (Bx w [(gO, kO 0 (.slice none 0 0) (.slice none 0 0)), (w.heap.size, cB (some ad) c (some rd) d K)]) G) => (GE.h e).lt 0 rfl
      have c_K := fun (e : GE (Bx w [(gO, kO 0 (.slice none 0 0) (.slice none 0 0)), (w.heap.size, cB (some ad) c (some rd) d K)]) G) j => cell_of_row e.w _ j _ _ _ ((GE.h e).get 1 rfl)
      have z_K := fun (e : GE (Bx w [(gO, kO 0 (.slice none 0 0) (.slice none 0 0)), (w.heap.size, cB (some ad) c (some rd) d K)]) G) => (GE.h e).lt 1 rfl
      have fc := fun (e : GE (Bx w [(gO, kO 0 (.slice none 0 0) (.slice none 0 0)), (w.heap.size, cB (some ad) c (some rd) d K)]) G) => (HF.out e.w (GE.h e).below).1
      have fd := fun (e : GE (Bx w [(gO, kO 0 (.slice none 0 0) (.slice none 0 0)), (w.heap.size, cB (some ad) c (some rd) d K)]) G) => (HF.out e.w (GE.h e).below).2.1
      have fe := fun (e : GE (Bx w [(gO, kO 0 (.slice none 0 0) (.slice none 0 0)), (w.heap.size, cB (some ad) c (some rd) d K)]) G) => (HF.out e.w (GE.h e).below).2.2.1
      have fe2 := fun (e : GE (Bx w [(gO, kO 0 (.slice none 0 0) (.slice none 0 0)), (w.heap.size, cB (some ad) c (some rd) d K)]) G) => (HF.out e.w (GE.h e).below).2.2.2
      simp only [pickOps, List.getElem?_toArray, List.getElem?_cons_zero, List.getElem?_cons_succ]
      repeat (first | go_big_quiet_step (fail) | quiet_step (fail))
      exact wpQuiet_nil rfl
    refine wpAnyE_all (rs := [1, 12]) (by kernel_rfl) (by simp) (fun wa2 hwa2 hRwa2 i hi => ?_)
    have hB62 := hB61.next hwa2
    clear hB61 hwa2 hRwa2
    rcases List.mem_cons.1 hi with rfl | hi
    · refine wpOp_step rfl (fun Kc hKc => ?_)
      have c_o4 := fun j => cell_of_row _ _ j _ _ _ (hB62.get 0 rfl)
      have z_o4 := hB62.lt 0 rfl
      go_simp
      refine hKc _ _ ⟨(hB62.keep (List.Sublist.cons _ (List.Sublist.cons_cons _ (List.Sublist.cons_cons _ (List.nil_sublist _))))), ?_⟩
      clear hKc Kc
      clear c_o4 z_o4
      refine wpAnyE_all (rs := [12]) (by kernel_rfl) (by simp) (fun wa3 hwa3 hRwa3 i hi => ?_)
      have hB63 := hB62.next hwa3
      clear hB62 hwa3 hRwa3
      obtain rfl := List.mem_singleton.1 hi
      refine wpOp_step rfl (fun Kc hKc => ?_)
      go_simp
      have hB64 := hB63.new (g := wa3.heap.size) rfl (.cells #[.int .i64 (min t (gi K.cuts (k + 1)) - f)] 3)
      refine hKc _ _ ⟨(hB64.keep (List.Sublist.cons _ (List.Sublist.cons _ (List.Sublist.cons_cons _ (List.Sublist.cons_cons _ (List.nil_sublist _)))))), ?_⟩
      clear hKc Kc hB63
      generalize wa3.heap.size = gl at *
      generalize wa3.alloc _ = wb4 at *
      refine wpAnyE_all (rs := [13]) (by kernel_rfl) (by simp) (fun wa5 hwa5 hRwa5 i hi => ?_)
      have hB65 := hB64.next hwa5
      clear hB64 hwa5 hRwa5
      obtain rfl := List.mem_singleton.1 hi
      refine wpOp_step rfl (fun Kc hKc => ?_)
      refine step_append_any _ rfl (.tmp 60) (.tmp 71) 22 rfl w.heap.size 3 i0 (.int .i64 0) 1 8 Try.underlying22 hi0 hz0 hz1 hz2 rfl (by omega) vc (pCuts K f t k).length (intsV (pCuts K f t k)) rfl (hB65.row 1 rfl) _ (some ⟨gl, 0, none⟩) 1 1 [.int .i64 (min t (gi K.cuts (k + 1)) - f)] rfl (reads_one (hB65.get 0 rfl)) (one_one _) HB1.out.1 HB1.out.2 hB65.below.size ?_
      intro v2 wb6 hown hgr hat
      obtain ⟨A2, c2, rfl, _, _⟩ := own_nil_len hown
      have hB66 := hB65.grow 1 rfl hgr hown hat
      refine hKc _ _ ⟨(hB66.keep (List.Sublist.cons _ (List.Sublist.cons _ (List.Sublist.cons_cons _ (List.Sublist.cons_cons _ (List.nil_sublist _)))))), ?_⟩
      clear hKc Kc hB65 hown hgr hat
      refine wpAnyE_goR (Bx.grows _ _) (hB66.keep (List.Sublist.cons _ (List.Sublist.cons _ (List.Sublist.cons_cons _ (List.Sublist.cons_cons _ (List.nil_sublist _)))))) [14] 1 (by kernel_rfl) ?_
      apply Exists.intro
      refine ⟨fun G hG hN => ?_, ?_⟩
      · have c_out := fun (e : GE (Bx w [(gO, kO 0 (.slice none 0 0) (.slice none 0 0)), (w.heap.size, cB (some ad) c (some rd) d K)]) G) j => cell_of_row e.w _ j _ _ _ ((GE.h e).get 0 rfl)
        have z_out := fun (e : GE (Bx w [(gO, kO 0 (.slice none 0 0) (.slice none 0 0)), (w.heap.size, cB (some ad) c (some rd) d K)]) G) => (GE.h e).lt 0 rfl
        have c_K := fun (e : GE (Bx w [(gO, kO 0 (.slice none 0 0) (.slice none 0 0)), (w.heap.size, cB (some ad) c (some rd) d K)]) G) j => cell_of_row e.w _ j _ _ _ ((GE.h e).get 1 rfl)
        have z_K := fun (e : GE (Bx w [(gO, kO 0 (.slice none 0 0) (.slice none 0 0)), (w.heap.size, cB (some ad) c (some rd) d K)]) G) => (GE.h e).lt 1 rfl
        have fc := fun (e : GE (Bx w [(gO, kO 0 (.slice none 0 0) (.slice none 0 0)), (w.heap.size, cB (some ad) c (some rd) d K)]) G) => (HF.out e.w (GE.h e).below).1
        have fd := fun (e : GE (Bx w [(gO, kO 0 (.slice none 0 0) (.slice none 0 0)), (w.heap.size, cB (some ad) c (some rd) d K)]) G) => (HF.out e.w (GE.h e).below).2.1
        have fe := fun (e : GE (Bx w [(gO, kO 0 (.slice none 0 0) (.slice none 0 0)), (w.heap.size, cB (some ad) c (some rd) d K)]) G) => (HF.out e.w (GE.h e).below).2.2.1
        have fe2 := fun (e : GE (Bx w [(gO, kO 0 (.slice none 0 0) (.slice none 0 0)), (w.heap.size, cB (some ad) c (some rd) d K)]) G) => (HF.out e.w (GE.h e).below).2.2.2
        simp only [pickOps, List.getElem?_toArray, List.getElem?_cons_zero, List.getElem?_cons_succ]
        repeat (first | go_big_quiet_step (fail) | quiet_step (fail))
        exact wpQuiet_nil rfl
      refine wpAnyE_all (rs := [15]) (by kernel_rfl) (by simp) (fun wa7 hwa7 hRwa7 i hi => ?_)
      have hB67 := hB66.next hwa7
      clear hB66 hwa7 hRwa7
      obtain rfl := List.mem_singleton.1 hi
      refine wpOp_step rfl (fun Kc hKc => ?_)
      have c_o4 := fun j => cell_of_row _ _ j _ _ _ (hB67.get 1 rfl)
      have z_o4 := hB67.lt 1 rfl
      have f_o4 := fun j => frozen_of_row _ _ j _ _ (hB67.get 1 rfl)
      go_simp
      have hB68 := hB67.set 1 rfl 1 ((.slice A2 ((pCuts K f t k).length + 1) c2))
      refine hKc _ _ ⟨(hB68.keep (List.Sublist.cons _ (List.Sublist.cons _ (List.Sublist.cons_cons _ (List.Sublist.cons_cons _ (List.nil_sublist _)))))), ?_⟩
      clear c_o4 z_o4 f_o4 hKc Kc hB67
      generalize wa7.setCell _ _ = wb8 at *
      refine wpAnyE_done (by kernel_rfl) (fun wd9 hwd9 hRwd9 => ?_) _
      refine NoPanic.normal ?_
      have hB69 := hB68.next hwd9
      clear hB68 hwd9 hRwd9
      have hZ : Mx w [(g4, kO (t - f) (.slice A2 ((pCuts K f t k).length + 1) c2) vd), (gO, kO 0 (.slice none 0 0) (.slice none 0 0)), (w.heap.size, cB (some ad) c (some rd) d K)] [iR vd (pDens K f t k), iR (.slice A2 ((pCuts K f t k).length + 1) c2) (pCuts K f t k ++ [(min t (gi K.cuts (k + 1)) - f)])] wd9 := by
        have hz := hB69.drop
        have e : iR (.slice A2 ((pCuts K f t k).length + 1) c2) (pCuts K f t k ++ [(min t (gi K.cuts (k + 1)) - f)]) = ⟨(.slice A2 ((pCuts K f t k).length + 1) c2), 3, 1, (pCuts K f t k).length + 1, intsV (pCuts K f t k) ++ [.int .i64 (min t (gi K.cuts (k + 1)) - f)]⟩ := by simp
        rw [e]; exact hz
      clear hB69
      go_wp2_with fail
      refine wp_region_R (Bx w [(gO, kO 0 (.slice none 0 0) (.slice none 0 0)), (w.heap.size, cB (some ad) c (some rd) d K)]) 11 (by kernel_rfl) (by rfl) ((hZ.keep (List.Sublist.cons _ (List.Sublist.cons_cons _ (List.Sublist.cons_cons _ (List.nil_sublist _))))).drew) (fun wq10 hbq => ?_)
      have hB81 := hZ.next hbq
      clear hZ hbq
      refine wpAnyE_goR (Bx.grows _ _) (hB81.keep (List.Sublist.cons _ (List.Sublist.cons_cons _ (List.Sublist.cons_cons _ (List.nil_sublist _))))) [0, 2, 3, 4, 5, 6] 5 (by kernel_rfl) ?_
      apply Exists.intro
      refine ⟨fun G hG hN => ?_, ?_⟩
      · have c_out := fun (e : GE (Bx w [(gO, kO 0 (.slice none 0 0) (.slice none 0 0)), (w.heap.size, cB (some ad) c (some rd) d K)]) G) j => cell_of_row e.w _ j _ _ _ ((GE.h e).get 0 rfl)
        have z_out := fun (e : GE (Bx w [(gO, kO 0 (.slice none 0 0) (.slice none 0 0)), (w.heap.size, cB (some ad) c (some rd) d K)]) G) => (GE.h e).lt 0 rfl
        have c_K := fun (e : GE (Bx w [(gO, kO 0 (.slice none 0 0) (.slice none 0 0)), (w.heap.size, cB (some ad) c (some rd) d K)]) G) j => cell_of_row e.w _ j _ _ _ ((GE.h e).get 1 rfl)
        have z_K := fun (e : GE (Bx w [(gO, kO 0 (.slice none 0 0) (.slice none 0 0)), (w.heap.size, cB (some ad) c (some rd) d K)]) G) => (GE.h e).lt 1 rfl
        have fc := fun (e : GE (Bx w [(gO, kO 0 (.slice none 0 0) (.slice none 0 0)), (w.heap.size, cB (some ad) c (some rd) d K)]) G) => (HF.out e.w (GE.h e).below).1
        have fd := fun (e : GE (Bx w [(gO, kO 0 (.slice none 0 0) (.slice none 0 0)), (w.heap.size, cB (some ad) c (some rd) d K)]) G) => (HF.out e.w (GE.h e).below).2.1
        have fe := fun (e : GE (Bx w [(gO, kO 0 (.slice none 0 0) (.slice none 0 0)), (w.heap.size, cB (some ad) c (some rd) d K)]) G) => (HF.out e.w (GE.h e).below).2.2.1
        have fe2 := fun (e : GE (Bx w [(gO, kO 0 (.slice none 0 0) (.slice none 0 0)), (w.heap.size, cB (some ad) c (some rd) d K)]) G) => (HF.out e.w (GE.h e).below).2.2.2
        simp only [pickOps, List.getElem?_toArray, List.getElem?_cons_zero, List.getElem?_cons_succ]
        repeat (first | go_big_quiet_step (fail) | quiet_step (fail))
        exact wpQuiet_nil rfl
      refine wpAnyE_all (rs := [1, 7]) (by kernel_rfl) (by simp) (fun wa11 hwa11 hRwa11 i hi => ?_)
      have hB82 := hB81.next hwa11
      clear hB81 hwa11 hRwa11
      rcases List.mem_cons.1 hi with rfl | hi
      · refine wpOp_step rfl (fun Kc hKc => ?_)
        have c_o4 := fun j => cell_of_row _ _ j _ _ _ (hB82.get 0 rfl)
        have z_o4 := hB82.lt 0 rfl
        go_simp
        refine hKc _ _ ⟨(hB82.keep (List.Sublist.cons _ (List.Sublist.cons_cons _ (List.Sublist.cons_cons _ (List.nil_sublist _))))), ?_⟩
        clear hKc Kc
        clear c_o4 z_o4
        refine wpAnyE_all (rs := [7]) (by kernel_rfl) (by simp) (fun wa12 hwa12 hRwa12 i hi => ?_)
        have hB83 := hB82.next hwa12
        clear hB82 hwa12 hRwa12
        obtain rfl := List.mem_singleton.1 hi
        refine wpOp_step rfl (fun Kc hKc => ?_)
        go_simp
        have hB84 := hB83.new (g := wa12.heap.size) rfl (.cells #[.int .i64 (gi K.dens k)] 3)
        refine hKc _ _ ⟨(hB84.keep (List.Sublist.cons _ (List.Sublist.cons _ (List.Sublist.cons_cons _ (List.Sublist.cons_cons _ (List.nil_sublist _)))))), ?_⟩
        clear hKc Kc hB83
        generalize wa12.heap.size = gm at *
        generalize wa12.alloc _ = wb13 at *
        refine wpAnyE_all (rs := [8]) (by kernel_rfl) (by simp) (fun wa14 hwa14 hRwa14 i hi => ?_)
        have hB85 := hB84.next hwa14
        clear hB84 hwa14 hRwa14
        obtain rfl := List.mem_singleton.1 hi
        refine wpOp_step rfl (fun Kc hKc => ?_)
        refine step_append_any _ rfl (.tmp 75) (.tmp 81) 22 rfl w.heap.size 3 i0 (.int .i64 0) 1 8 Try.underlying22 hi0 hz0 hz1 hz2 rfl (by omega) vd (pDens K f t k).length (intsV (pDens K f t k)) rfl (hB85.row 0 rfl) _ (some ⟨gm, 0, none⟩) 1 1 [.int .i64 (gi K.dens k)] rfl (reads_one (hB85.get 0 rfl)) (one_one _) HB2.out.1 HB2.out.2 hB85.below.size ?_
        intro v3 wb15 hown hgr hat
        obtain ⟨A3, c3, rfl, _, _⟩ := own_nil_len hown
        have hB86 := hB85.grow 0 rfl hgr hown hat
        refine hKc _ _ ⟨(hB86.keep (List.Sublist.cons _ (List.Sublist.cons _ (List.Sublist.cons_cons _ (List.Sublist.cons_cons _ (List.nil_sublist _)))))), ?_⟩
        clear hKc Kc hB85 hown hgr hat
        refine wpAnyE_goR (Bx.grows _ _) (hB86.keep (List.Sublist.cons _ (List.Sublist.cons _ (List.Sublist.cons_cons _ (List.Sublist.cons_cons _ (List.nil_sublist _)))))) [9] 1 (by kernel_rfl) ?_
        apply Exists.intro
        refine ⟨fun G hG hN => ?_, ?_⟩
        · have c_out := fun (e : GE (Bx w [(gO, kO 0 (.slice none 0 0) (.slice none 0 0)), (w.heap.size, cB (some ad) c (some rd) d K)]) G) j => cell_of_row e.w _ j _ _ _ ((GE.h e).get 0 rfl)
          have z_out := fun (e : GE (Bx w [(gO, kO 0 (.slice none 0 0) (.slice none 0 0)), (w.heap.size, cB (some ad) c (some rd) d K)]) G) => (GE.h e).lt 0 rfl
          have c_K := fun (e : GE (Bx w [(gO, kO 0 (.slice none 0 0) (.slice none 0 0)), (w.heap.size, cB (some ad) c (some rd) d K)]) G) j => cell_of_row e.w _ j _ _ _ ((GE.h e).get 1 rfl)
          have z_K := fun (e : GE (Bx w [(gO, kO 0 (.slice none 0 0) (.slice none 0 0)), (w.heap.size, cB (some ad) c (some rd) d K)]) G) => (GE.h e).lt 1 rfl
          have fc := fun (e : GE (Bx w [(gO, kO 0 (.slice none 0 0) (.slice none 0 0)), (w.heap.size, cB (some ad) c (some rd) d K)]) G) => (HF.out e.w (GE.h e).below).1
          have fd := fun (e : GE (Bx w [(gO, kO 0 (.slice none 0 0) (.slice none 0 0)), (w.heap.size, cB (some ad) c (some rd) d K)]) G) => (HF.out e.w (GE.h e).below).2.1
          have fe := fun (e : GE (Bx w [(gO, kO 0 (.slice none 0 0) (.slice none 0 0)), (w.heap.size, cB (some ad) c (some rd) d K)]) G) => (HF.out e.w (GE.h e).below).2.2.1
          have fe2 := fun (e : GE (Bx w [(gO, kO 0 (.slice none 0 0) (.slice none 0 0)), (w.heap.size, cB (some ad) c (some rd) d K)]) G) => (HF.out e.w (GE.h e).below).2.2.2
          simp only [pickOps, List.getElem?_toArray, List.getElem?_cons_zero, List.getElem?_cons_succ]
          repeat (first | go_big_quiet_step (fail) | quiet_step (fail))
          exact wpQuiet_nil rfl
        refine wpAnyE_all (rs := [10]) (by kernel_rfl) (by simp) (fun wa16 hwa16 hRwa16 i hi => ?_)
        have hB87 := hB86.next hwa16
        clear hB86 hwa16 hRwa16
        obtain rfl := List.mem_singleton.1 hi
        refine wpOp_step rfl (fun Kc hKc => ?_)
        have c_o4 := fun j => cell_of_row _ _ j _ _ _ (hB87.get 1 rfl)
        have z_o4 := hB87.lt 1 rfl
        have f_o4 := fun j => frozen_of_row _ _ j _ _ (hB87.get 1 rfl)
        go_simp
        have hB88 := hB87.set 1 rfl 2 ((.slice A3 ((pDens K f t k).length + 1) c3))
        refine hKc _ _ ⟨(hB88.keep (List.Sublist.cons _ (List.Sublist.cons _ (List.Sublist.cons_cons _ (List.Sublist.cons_cons _ (List.nil_sublist _)))))), ?_⟩
        clear c_o4 z_o4 f_o4 hKc Kc hB87
        generalize wa16.setCell _ _ = wb17 at *
        refine wpAnyE_done (by kernel_rfl) (fun wd18 hwd18 hRwd18 => ?_) _
        refine NoPanic.normal ?_
        have hB89 := hB88.next hwd18
        clear hB88 hwd18 hRwd18
        have HZ := Lib.hid (show Mx w [(g4, kO (t - f) (.slice A2 ((pCuts K f t k).length + 1) c2) (.slice A3 ((pDens K f t k).length + 1) c3)), (gO, kO 0 (.slice none 0 0) (.slice none 0 0)), (w.heap.size, cB (some ad) c (some rd) d K)] [iR (.slice A3 ((pDens K f t k).length + 1) c3) (pDens K f t k ++ [gi K.dens k]), iR (.slice A2 ((pCuts K f t k).length + 1) c2) (pCuts K f t k ++ [(min t (gi K.cuts (k + 1)) - f)])] _ by
          have hz := hB89.drop
          have e : iR (.slice A3 ((pDens K f t k).length + 1) c3) (pDens K f t k ++ [gi K.dens k]) = ⟨(.slice A3 ((pDens K f t k).length + 1) c3), 3, 1, (pDens K f t k).length + 1, intsV (pDens K f t k) ++ [.int .i64 (gi K.dens k)]⟩ := by simp
          rw [e]; exact hz)
        clear hB89
        go_wp2_with fail
        exact ⟨⟨k + 1, (.slice A2 ((pCuts K f t k).length + 1) c2), (.slice A3 ((pDens K f t k).length + 1) c3), HLE.out, by go_num, by rw [HY.out.1, HY.out.2]; exact HZ.out⟩, by simpa [intOf] using HME.out⟩
      · obtain rfl := List.mem_singleton.1 hi
        refine wpOp_step rfl (fun Kc hKc => ?_)
        go_simp
        have hB83 := hB82.new (g := wa11.heap.size) rfl (.cells #[.int .i64 (gi K.dens k)] 3)
        refine hKc _ _ ⟨(hB83.keep (List.Sublist.cons _ (List.Sublist.cons _ (List.Sublist.cons_cons _ (List.Sublist.cons_cons _ (List.nil_sublist _)))))), ?_⟩
        clear hKc Kc hB82
        generalize wa11.heap.size = gm at *
        generalize wa11.alloc _ = wb19 at *
        refine wpAnyE_all (rs := [1]) (by kernel_rfl) (by simp) (fun wa20 hwa20 hRwa20 i hi => ?_)
        have hB84 := hB83.next hwa20
        clear hB83 hwa20 hRwa20
        obtain rfl := List.mem_singleton.1 hi
        refine wpOp_step rfl (fun Kc hKc => ?_)
        have c_o4 := fun j => cell_of_row _ _ j _ _ _ (hB84.get 1 rfl)
        have z_o4 := hB84.lt 1 rfl
        go_simp
        refine hKc _ _ ⟨(hB84.keep (List.Sublist.cons _ (List.Sublist.cons _ (List.Sublist.cons_cons _ (List.Sublist.cons_cons _ (List.nil_sublist _)))))), ?_⟩
        clear hKc Kc
        clear c_o4 z_o4
        refine wpAnyE_all (rs := [8]) (by kernel_rfl) (by simp) (fun wa21 hwa21 hRwa21 i hi => ?_)
        have hB85 := hB84.next hwa21
        clear hB84 hwa21 hRwa21
        obtain rfl := List.mem_singleton.1 hi
        refine wpOp_step rfl (fun Kc hKc => ?_)
        refine step_append_any _ rfl (.tmp 75) (.tmp 81) 22 rfl w.heap.size 3 i0 (.int .i64 0) 1 8 Try.underlying22 hi0 hz0 hz1 hz2 rfl (by omega) vd (pDens K f t k).length (intsV (pDens K f t k)) rfl (hB85.row 0 rfl) _ (some ⟨gm, 0, none⟩) 1 1 [.int .i64 (gi K.dens k)] rfl (reads_one (hB85.get 0 rfl)) (one_one _) HB2.out.1 HB2.out.2 hB85.below.size ?_
        intro v3 wb22 hown hgr hat
        obtain ⟨A3, c3, rfl, _, _⟩ := own_nil_len hown
        have hB86 := hB85.grow 0 rfl hgr hown hat
        refine hKc _ _ ⟨(hB86.keep (List.Sublist.cons _ (List.Sublist.cons _ (List.Sublist.cons_cons _ (List.Sublist.cons_cons _ (List.nil_sublist _)))))), ?_⟩
        clear hKc Kc hB85 hown hgr hat
        refine wpAnyE_goR (Bx.grows _ _) (hB86.keep (List.Sublist.cons _ (List.Sublist.cons _ (List.Sublist.cons_cons _ (List.Sublist.cons_cons _ (List.nil_sublist _)))))) [9] 1 (by kernel_rfl) ?_
        apply Exists.intro
        refine ⟨fun G hG hN => ?_, ?_⟩
        · have c_out := fun (e : GE (Bx w [(gO, kO 0 (.slice none 0 0) (.slice none 0 0)), (w.heap.size, cB (some ad) c (some rd) d K)]) G) j => cell_of_row e.w _ j _ _ _ ((GE.h e).get 0 rfl)
          have z_out := fun (e : GE (Bx w [(gO, kO 0 (.slice none 0 0) (.slice none 0 0)), (w.heap.size, cB (some ad) c (some rd) d K)]) G) => (GE.h e).lt 0 rfl
          have c_K := fun (e : GE (Bx w [(gO, kO 0 (.slice none 0 0) (.slice none 0 0)), (w.heap.size, cB (some ad) c (some rd) d K)]) G) j => cell_of_row e.w _ j _ _ _ ((GE.h e).get 1 rfl)
          have z_K := fun (e : GE (Bx w [(gO, kO 0 (.slice none 0 0) (.slice none 0 0)), (w.heap.size, cB (some ad) c (some rd) d K)]) G) => (GE.h e).lt 1 rfl
          have fc := fun (e : GE (Bx w [(gO, kO 0 (.slice none 0 0) (.slice none 0 0)), (w.heap.size, cB (some ad) c (some rd) d K)]) G) => (HF.out e.w (GE.h e).below).1
          have fd := fun (e : GE (Bx w [(gO, kO 0 (.slice none 0 0) (.slice none 0 0)), (w.heap.size, cB (some ad) c (some rd) d K)]) G) => (HF.out e.w (GE.h e).below).2.1
          have fe := fun (e : GE (Bx w [(gO, kO 0 (.slice none 0 0) (.slice none 0 0)), (w.heap.size, cB (some ad) c (some rd) d K)]) G) => (HF.out e.w (GE.h e).below).2.2.1
          have fe2 := fun (e : GE (Bx w [(gO, kO 0 (.slice none 0 0) (.slice none 0 0)), (w.heap.size, cB (some ad) c (some rd) d K)]) G) => (HF.out e.w (GE.h e).below).2.2.2
          simp only [pickOps, List.getElem?_toArray, List.getElem?_cons_zero, List.getElem?_cons_succ]
          repeat (first | go_big_quiet_step (fail) | quiet_step (fail))
          exact wpQuiet_nil rfl
        refine wpAnyE_all (rs := [10]) (by kernel_rfl) (by simp) (fun wa23 hwa23 hRwa23 i hi => ?_)
        have hB87 := hB86.next hwa23
        clear hB86 hwa23 hRwa23
        obtain rfl := List.mem_singleton.1 hi
        refine wpOp_step rfl (fun Kc hKc => ?_)
        have c_o4 := fun j => cell_of_row _ _ j _ _ _ (hB87.get 1 rfl)
        have z_o4 := hB87.lt 1 rfl
        have f_o4 := fun j => frozen_of_row _ _ j _ _ (hB87.get 1 rfl)
        go_simp
        have hB88 := hB87.set 1 rfl 2 ((.slice A3 ((pDens K f t k).length + 1) c3))
        refine hKc _ _ ⟨(hB88.keep (List.Sublist.cons _ (List.Sublist.cons _ (List.Sublist.cons_cons _ (List.Sublist.cons_cons _ (List.nil_sublist _)))))), ?_⟩
        clear c_o4 z_o4 f_o4 hKc Kc hB87
        generalize wa23.setCell _ _ = wb24 at *
        refine wpAnyE_done (by kernel_rfl) (fun wd25 hwd25 hRwd25 => ?_) _
        refine NoPanic.normal ?_
        have hB89 := hB88.next hwd25
        clear hB88 hwd25 hRwd25
        have HZ := Lib.hid (show Mx w [(g4, kO (t - f) (.slice A2 ((pCuts K f t k).length + 1) c2) (.slice A3 ((pDens K f t k).length + 1) c3)), (gO, kO 0 (.slice none 0 0) (.slice none 0 0)), (w.heap.size, cB (some ad) c (some rd) d K)] [iR (.slice A3 ((pDens K f t k).length + 1) c3) (pDens K f t k ++ [gi K.dens k]), iR (.slice A2 ((pCuts K f t k).length + 1) c2) (pCuts K f t k ++ [(min t (gi K.cuts (k + 1)) - f)])] _ by
          have hz := hB89.drop
          have e : iR (.slice A3 ((pDens K f t k).length + 1) c3) (pDens K f t k ++ [gi K.dens k]) = ⟨(.slice A3 ((pDens K f t k).length + 1) c3), 3, 1, (pDens K f t k).length + 1, intsV (pDens K f t k) ++ [.int .i64 (gi K.dens k)]⟩ := by simp
          rw [e]; exact hz)
        clear hB89
        go_wp2_with fail
        exact ⟨⟨k + 1, (.slice A2 ((pCuts K f t k).length + 1) c2), (.slice A3 ((pDens K f t k).length + 1) c3), HLE.out, by go_num, by rw [HY.out.1, HY.out.2]; exact HZ.out⟩, by simpa [intOf] using HME.out⟩
    · obtain rfl := List.mem_singleton.1 hi
      refine wpOp_step rfl (fun Kc hKc => ?_)
      go_simp
      have hB63 := hB62.new (g := wa2.heap.size) rfl (.cells #[.int .i64 (min t (gi K.cuts (k + 1)) - f)] 3)
      refine hKc _ _ ⟨(hB63.keep (List.Sublist.cons _ (List.Sublist.cons _ (List.Sublist.cons_cons _ (List.Sublist.cons_cons _ (List.nil_sublist _)))))), ?_⟩
      clear hKc Kc hB62
      generalize wa2.heap.size = gl at *
      generalize wa2.alloc _ = wb26 at *
      refine wpAnyE_all (rs := [1]) (by kernel_rfl) (by simp) (fun wa27 hwa27 hRwa27 i hi => ?_)
      have hB64 := hB63.next hwa27
      clear hB63 hwa27 hRwa27
      obtain rfl := List.mem_singleton.1 hi
      refine wpOp_step rfl (fun Kc hKc => ?_)
      have c_o4 := fun j => cell_of_row _ _ j _ _ _ (hB64.get 1 rfl)
      have z_o4 := hB64.lt 1 rfl
      go_simp
      refine hKc _ _ ⟨(hB64.keep (List.Sublist.cons _ (List.Sublist.cons _ (List.Sublist.cons_cons _ (List.Sublist.cons_cons _ (List.nil_sublist _)))))), ?_⟩
      clear hKc Kc
      clear c_o4 z_o4
      refine wpAnyE_all (rs := [13]) (by kernel_rfl) (by simp) (fun wa28 hwa28 hRwa28 i hi => ?_)
      have hB65 := hB64.next hwa28
      clear hB64 hwa28 hRwa28
      obtain rfl := List.mem_singleton.1 hi
      refine wpOp_step rfl (fun Kc hKc => ?_)
      refine step_append_any _ rfl (.tmp 60) (.tmp 71) 22 rfl w.heap.size 3 i0 (.int .i64 0) 1 8 Try.underlying22 hi0 hz0 hz1 hz2 rfl (by omega) vc (pCuts K f t k).length (intsV (pCuts K f t k)) rfl (hB65.row 1 rfl) _ (some ⟨gl, 0, none⟩) 1 1 [.int .i64 (min t (gi K.cuts (k + 1)) - f)] rfl (reads_one (hB65.get 0 rfl)) (one_one _) HB1.out.1 HB1.out.2 hB65.below.size ?_
      intro v2 wb29 hown hgr hat
      obtain ⟨A2, c2, rfl, _, _⟩ := own_nil_len hown
      have hB66 := hB65.grow 1 rfl hgr hown hat
      refine hKc _ _ ⟨(hB66.keep (List.Sublist.cons _ (List.Sublist.cons _ (List.Sublist.cons_cons _ (List.Sublist.cons_cons _ (List.nil_sublist _)))))), ?_⟩
      clear hKc Kc hB65 hown hgr hat
      refine wpAnyE_goR (Bx.grows _ _) (hB66.keep (List.Sublist.cons _ (List.Sublist.cons _ (List.Sublist.cons_cons _ (List.Sublist.cons_cons _ (List.nil_sublist _)))))) [14] 1 (by kernel_rfl) ?_
      apply Exists.intro
      refine ⟨fun G hG hN => ?_, ?_⟩
      · have c_out := fun (e : GE (Bx w [(gO, kO 0 (.slice none 0 0) (.slice none 0 0)), (w.heap.size, cB (some ad) c (some rd) d K)]) G) j => cell_of_row e.w _ j _ _ _ ((GE.h e).get 0 rfl)
        have z_out := fun (e : GE (Bx w [(gO, kO 0 (.slice none 0 0) (.slice none 0 0)), (w.heap.size, cB (some ad) c (some rd) d K)]) G) => (GE.h e).lt 0 rfl
        have c_K := fun (e : GE (Bx w [(gO, kO 0 (.slice none 0 0) (.slice none 0 0)), (w.heap.size, cB (some ad) c (some rd) d K)]) G) j => cell_of_row e.w _ j _ _ _ ((GE.h e).get 1 rfl)
        have z_K := fun (e : GE (Bx w [(gO, kO 0 (.slice none 0 0) (.slice none 0 0)), (w.heap.size, cB (some ad) c (some rd) d K)]) G) => (GE.h e).lt 1 rfl
        have fc := fun (e : GE (Bx w [(gO, kO 0 (.slice none 0 0) (.slice none 0 0)), (w.heap.size, cB (some ad) c (some rd) d K)]) G) => (HF.out e.w (GE.h e).below).1
        have fd := fun (e : GE (Bx w [(gO, kO 0 (.slice none 0 0) (.slice none 0 0)), (w.heap.size, cB (some ad) c (some rd) d K)]) G) => (HF.out e.w (GE.h e).below).2.1
        have fe := fun (e : GE (Bx w [(gO, kO 0 (.slice none 0 0) (.slice none 0 0)), (w.heap.size, cB (some ad) c (some rd) d K)]) G) => (HF.out e.w (GE.h e).below).2.2.1
        have fe2 := fun (e : GE (Bx w [(gO, kO 0 (.slice none 0 0) (.slice none 0 0)), (w.heap.size, cB (some ad) c (some rd) d K)]) G) => (HF.out e.w (GE.h e).below).2.2.2
        simp only [pickOps, List.getElem?_toArray, List.getElem?_cons_zero, List.getElem?_cons_succ]
        repeat (first | go_big_quiet_step (fail) | quiet_step (fail))
        exact wpQuiet_nil rfl
      refine wpAnyE_all (rs := [15]) (by kernel_rfl) (by simp) (fun wa30 hwa30 hRwa30 i hi => ?_)
      have hB67 := hB66.next hwa30
      clear hB66 hwa30 hRwa30
      obtain rfl := List.mem_singleton.1 hi
      refine wpOp_step rfl (fun Kc hKc => ?_)
      have c_o4 := fun j => cell_of_row _ _ j _ _ _ (hB67.get 1 rfl)
      have z_o4 := hB67.lt 1 rfl
      have f_o4 := fun j => frozen_of_row _ _ j _ _ (hB67.get 1 rfl)
      go_simp
      have hB68 := hB67.set 1 rfl 1 ((.slice A2 ((pCuts K f t k).length + 1) c2))
      refine hKc _ _ ⟨(hB68.keep (List.Sublist.cons _ (List.Sublist.cons _ (List.Sublist.cons_cons _ (List.Sublist.cons_cons _ (List.nil_sublist _)))))), ?_⟩
      clear c_o4 z_o4 f_o4 hKc Kc hB67
      generalize wa30.setCell _ _ = wb31 at *
      refine wpAnyE_done (by kernel_rfl) (fun wd32 hwd32 hRwd32 => ?_) _
      refine NoPanic.normal ?_
      have hB69 := hB68.next hwd32
      clear hB68 hwd32 hRwd32
      have hZ : Mx w [(g4, kO (t - f) (.slice A2 ((pCuts K f t k).length + 1) c2) vd), (gO, kO 0 (.slice none 0 0) (.slice none 0 0)), (w.heap.size, cB (some ad) c (some rd) d K)] [iR vd (pDens K f t k), iR (.slice A2 ((pCuts K f t k).length + 1) c2) (pCuts K f t k ++ [(min t (gi K.cuts (k + 1)) - f)])] wd32 := by
        have hz := hB69.drop
        have e : iR (.slice A2 ((pCuts K f t k).length + 1) c2) (pCuts K f t k ++ [(min t (gi K.cuts (k + 1)) - f)]) = ⟨(.slice A2 ((pCuts K f t k).length + 1) c2), 3, 1, (pCuts K f t k).length + 1, intsV (pCuts K f t k) ++ [.int .i64 (min t (gi K.cuts (k + 1)) - f)]⟩ := by simp
        rw [e]; exact hz
      clear hB69
      go_wp2_with fail
      refine wp_region_R (Bx w [(gO, kO 0 (.slice none 0 0) (.slice none 0 0)), (w.heap.size, cB (some ad) c (some rd) d K)]) 11 (by kernel_rfl) (by rfl) ((hZ.keep (List.Sublist.cons _ (List.Sublist.cons_cons _ (List.Sublist.cons_cons _ (List.nil_sublist _))))).drew) (fun wq33 hbq => ?_)
      have hB81 := hZ.next hbq
      clear hZ hbq
      refine wpAnyE_goR (Bx.grows _ _) (hB81.keep (List.Sublist.cons _ (List.Sublist.cons_cons _ (List.Sublist.cons_cons _ (List.nil_sublist _))))) [0, 2, 3, 4, 5, 6] 5 (by kernel_rfl) ?_
      apply Exists.intro
      refine ⟨fun G hG hN => ?_, ?_⟩
      · have c_out := fun (e : GE (Bx w [(gO, kO 0 (.slice none 0 0) (.slice none 0 0)), (w.heap.size, cB (some ad) c (some rd) d K)]) G) j => cell_of_row e.w _ j _ _ _ ((GE.h e).get 0 rfl)
        have z_out := fun (e : GE (Bx w [(gO, kO 0 (.slice none 0 0) (.slice none 0 0)), (w.heap.size, cB (some ad) c (some rd) d K)]) G) => (GE.h e).lt 0 rfl
        have c_K := fun (e : GE (Bx w [(gO, kO 0 (.slice none 0 0) (.slice none 0 0)), (w.heap.size, cB (some ad) c (some rd) d K)]) G) j => cell_of_row e.w _ j _ _ _ ((GE.h e).get 1 rfl)
        have z_K := fun (e : GE (Bx w [(gO, kO 0 (.slice none 0 0) (.slice none 0 0)), (w.heap.size, cB (some ad) c (some rd) d K)]) G) => (GE.h e).lt 1 rfl
        have fc := fun (e : GE (Bx w [(gO, kO 0 (.slice none 0 0) (.slice none 0 0)), (w.heap.size, cB (some ad) c (some rd) d K)]) G) => (HF.out e.w (GE.h e).below).1
        have fd := fun (e : GE (Bx w [(gO, kO 0 (.slice none 0 0) (.slice none 0 0)), (w.heap.size, cB (some ad) c (some rd) d K)]) G) => (HF.out e.w (GE.h e).below).2.1
        have fe := fun (e : GE (Bx w [(gO, kO 0 (.slice none 0 0) (.slice none 0 0)), (w.heap.size, cB (some ad) c (some rd) d K)]) G) => (HF.out e.w (GE.h e).below).2.2.1
        have fe2 := fun (e : GE (Bx w [(gO, kO 0 (.slice none 0 0) (.slice none 0 0)), (w.heap.size, cB (some ad) c (some rd) d K)]) G) => (HF.out e.w (GE.h e).below).2.2.2
        simp only [pickOps, List.getElem?_toArray, List.getElem?_cons_zero, List.getElem?_cons_succ]
        repeat (first | go_big_quiet_step (fail) | quiet_step (fail))
        exact wpQuiet_nil rfl
      refine wpAnyE_all (rs := [1, 7]) (by kernel_rfl) (by simp) (fun wa34 hwa34 hRwa34 i hi => ?_)
      have hB82 := hB81.next hwa34
      clear hB81 hwa34 hRwa34
      rcases List.mem_cons.1 hi with rfl | hi
      · refine wpOp_step rfl (fun Kc hKc => ?_)
        have c_o4 := fun j => cell_of_row _ _ j _ _ _ (hB82.get 0 rfl)
        have z_o4 := hB82.lt 0 rfl
        go_simp
        refine hKc _ _ ⟨(hB82.keep (List.Sublist.cons _ (List.Sublist.cons_cons _ (List.Sublist.cons_cons _ (List.nil_sublist _))))), ?_⟩
        clear hKc Kc
        clear c_o4 z_o4
        refine wpAnyE_all (rs := [7]) (by kernel_rfl) (by simp) (fun wa35 hwa35 hRwa35 i hi => ?_)
        have hB83 := hB82.next hwa35
        clear hB82 hwa35 hRwa35
        obtain rfl := List.mem_singleton.1 hi
        refine wpOp_step rfl (fun Kc hKc => ?_)
        go_simp
        have hB84 := hB83.new (g := wa35.heap.size) rfl (.cells #[.int .i64 (gi K.dens k)] 3)
        refine hKc _ _ ⟨(hB84.keep (List.Sublist.cons _ (List.Sublist.cons _ (List.Sublist.cons_cons _ (List.Sublist.cons_cons _ (List.nil_sublist _)))))), ?_⟩
        clear hKc Kc hB83
        generalize wa35.heap.size = gm at *
        generalize wa35.alloc _ = wb36 at *
        refine wpAnyE_all (rs := [8]) (by kernel_rfl) (by simp) (fun wa37 hwa37 hRwa37 i hi => ?_)
        have hB85 := hB84.next hwa37
        clear hB84 hwa37 hRwa37
        obtain rfl := List.mem_singleton.1 hi
        refine wpOp_step rfl (fun Kc hKc => ?_)
        refine step_append_any _ rfl (.tmp 75) (.tmp 81) 22 rfl w.heap.size 3 i0 (.int .i64 0) 1 8 Try.underlying22 hi0 hz0 hz1 hz2 rfl (by omega) vd (pDens K f t k).length (intsV (pDens K f t k)) rfl (hB85.row 0 rfl) _ (some ⟨gm, 0, none⟩) 1 1 [.int .i64 (gi K.dens k)] rfl (reads_one (hB85.get 0 rfl)) (one_one _) HB2.out.1 HB2.out.2 hB85.below.size ?_
        intro v3 wb38 hown hgr hat
        obtain ⟨A3, c3, rfl, _, _⟩ := own_nil_len hown
        have hB86 := hB85.grow 0 rfl hgr hown hat
        refine hKc _ _ ⟨(hB86.keep (List.Sublist.cons _ (List.Sublist.cons _ (List.Sublist.cons_cons _ (List.Sublist.cons_cons _ (List.nil_sublist _)))))), ?_⟩
        clear hKc Kc hB85 hown hgr hat
        refine wpAnyE_goR (Bx.grows _ _) (hB86.keep (List.Sublist.cons _ (List.Sublist.cons _ (List.Sublist.cons_cons _ (List.Sublist.cons_cons _ (List.nil_sublist _)))))) [9] 1 (by kernel_rfl) ?_
        apply Exists.intro
        refine ⟨fun G hG hN => ?_, ?_⟩
        · have c_out := fun (e : GE (Bx w [(gO, kO 0 (.slice none 0 0) (.slice none 0 0)), (w.heap.size, cB (some ad) c (some rd) d K)]) G) j => cell_of_row e.w _ j _ _ _ ((GE.h e).get 0 rfl)
          have z_out := fun (e : GE (Bx w [(gO, kO 0 (.slice none 0 0) (.slice none 0 0)), (w.heap.size, cB (some ad) c (some rd) d K)]) G) => (GE.h e).lt 0 rfl
          have c_K := fun (e : GE (Bx w [(gO, kO 0 (.slice none 0 0) (.slice none 0 0)), (w.heap.size, cB (some ad) c (some rd) d K)]) G) j => cell_of_row e.w _ j _ _ _ ((GE.h e).get 1 rfl)
          have z_K := fun (e : GE (Bx w [(gO, kO 0 (.slice none 0 0) (.slice none 0 0)), (w.heap.size, cB (some ad) c (some rd) d K)]) G) => (GE.h e).lt 1 rfl
          have fc := fun (e : GE (Bx w [(gO, kO 0 (.slice none 0 0) (.slice none 0 0)), (w.heap.size, cB (some ad) c (some rd) d K)]) G) => (HF.out e.w (GE.h e).below).1
          have fd := fun (e : GE (Bx w [(gO, kO 0 (.slice none 0 0) (.slice none 0 0)), (w.heap.size, cB (some ad) c (some rd) d K)]) G) => (HF.out e.w (GE.h e).below).2.1
          have fe := fun (e : GE (Bx w [(gO, kO 0 (.slice none 0 0) (.slice none 0 0)), (w.heap.size, cB (some ad) c (some rd) d K)]) G) => (HF.out e.w (GE.h e).below).2.2.1
          have fe2 := fun (e : GE (Bx w [(gO, kO 0 (.slice none 0 0) (.slice none 0 0)), (w.heap.size, cB (some ad) c (some rd) d K)]) G) => (HF.out e.w (GE.h e).below).2.2.2
          simp only [pickOps, List.getElem?_toArray, List.getElem?_cons_zero, List.getElem?_cons_succ]
          repeat (first | go_big_quiet_step (fail) | quiet_step (fail))
          exact wpQuiet_nil rfl
        refine wpAnyE_all (rs := [10]) (by kernel_rfl) (by simp) (fun wa39 hwa39 hRwa39 i hi => ?_)
        have hB87 := hB86.next hwa39
        clear hB86 hwa39 hRwa39
        obtain rfl := List.mem_singleton.1 hi
        refine wpOp_step rfl (fun Kc hKc => ?_)
        have c_o4 := fun j => cell_of_row _ _ j _ _ _ (hB87.get 1 rfl)
        have z_o4 := hB87.lt 1 rfl
        have f_o4 := fun j => frozen_of_row _ _ j _ _ (hB87.get 1 rfl)
        go_simp
        have hB88 := hB87.set 1 rfl 2 ((.slice A3 ((pDens K f t k).length + 1) c3))
        refine hKc _ _ ⟨(hB88.keep (List.Sublist.cons _ (List.Sublist.cons _ (List.Sublist.cons_cons _ (List.Sublist.cons_cons _ (List.nil_sublist _)))))), ?_⟩
        clear c_o4 z_o4 f_o4 hKc Kc hB87
        generalize wa39.setCell _ _ = wb40 at *
        refine wpAnyE_done (by kernel_rfl) (fun wd41 hwd41 hRwd41 => ?_) _
        refine NoPanic.normal ?_
        have hB89 := hB88.next hwd41
        clear hB88 hwd41 hRwd41
        have HZ := Lib.hid (show Mx w [(g4, kO (t - f) (.slice A2 ((pCuts K f t k).length + 1) c2) (.slice A3 ((pDens K f t k).length + 1) c3)), (gO, kO 0 (.slice none 0 0) (.slice none 0 0)), (w.heap.size, cB (some ad) c (some rd) d K)] [iR (.slice A3 ((pDens K f t k).length + 1) c3) (pDens K f t k ++ [gi K.dens k]), iR (.slice A2 ((pCuts K f t k).length + 1) c2) (pCuts K f t k ++ [(min t (gi K.cuts (k + 1)) - f)])] _ by
          have hz := hB89.drop
          have e : iR (.slice A3 ((pDens K f t k).length + 1) c3) (pDens K f t k ++ [gi K.dens k]) = ⟨(.slice A3 ((pDens K f t k).length + 1) c3), 3, 1, (pDens K f t k).length + 1, intsV (pDens K f t k) ++ [.int .i64 (gi K.dens k)]⟩ := by simp
          rw [e]; exact hz)
        clear hB89
        go_wp2_with fail
        exact ⟨⟨k + 1, (.slice A2 ((pCuts K f t k).length + 1) c2), (.slice A3 ((pDens K f t k).length + 1) c3), HLE.out, by go_num, by rw [HY.out.1, HY.out.2]; exact HZ.out⟩, by simpa [intOf] using HME.out⟩
      · obtain rfl := List.mem_singleton.1 hi
        refine wpOp_step rfl (fun Kc hKc => ?_)
        go_simp
        have hB83 := hB82.new (g := wa34.heap.size) rfl (.cells #[.int .i64 (gi K.dens k)] 3)
        refine hKc _ _ ⟨(hB83.keep (List.Sublist.cons _ (List.Sublist.cons _ (List.Sublist.cons_cons _ (List.Sublist.cons_cons _ (List.nil_sublist _)))))), ?_⟩
        clear hKc Kc hB82
        generalize wa34.heap.size = gm at *
        generalize wa34.alloc _ = wb42 at *
        refine wpAnyE_all (rs := [1]) (by kernel_rfl) (by simp) (fun wa43 hwa43 hRwa43 i hi => ?_)
        have hB84 := hB83.next hwa43
        clear hB83 hwa43 hRwa43
        obtain rfl := List.mem_singleton.1 hi
        refine wpOp_step rfl (fun Kc hKc => ?_)
        have c_o4 := fun j => cell_of_row _ _ j _ _ _ (hB84.get 1 rfl)
        have z_o4 := hB84.lt 1 rfl
        go_simp
        refine hKc _ _ ⟨(hB84.keep (List.Sublist.cons _ (List.Sublist.cons _ (List.Sublist.cons_cons _ (List.Sublist.cons_cons _ (List.nil_sublist _)))))), ?_⟩
        clear hKc Kc
        clear c_o4 z_o4
        refine wpAnyE_all (rs := [8]) (by kernel_rfl) (by simp) (fun wa44 hwa44 hRwa44 i hi => ?_)
        have hB85 := hB84.next hwa44
        clear hB84 hwa44 hRwa44
        obtain rfl := List.mem_singleton.1 hi
        refine wpOp_step rfl (fun Kc hKc => ?_)
        refine step_append_any _ rfl (.tmp 75) (.tmp 81) 22 rfl w.heap.size 3 i0 (.int .i64 0) 1 8 Try.underlying22 hi0 hz0 hz1 hz2 rfl (by omega) vd (pDens K f t k).length (intsV (pDens K f t k)) rfl (hB85.row 0 rfl) _ (some ⟨gm, 0, none⟩) 1 1 [.int .i64 (gi K.dens k)] rfl (reads_one (hB85.get 0 rfl)) (one_one _) HB2.out.1 HB2.out.2 hB85.below.size ?_
        intro v3 wb45 hown hgr hat
        obtain ⟨A3, c3, rfl, _, _⟩ := own_nil_len hown
        have hB86 := hB85.grow 0 rfl hgr hown hat
        refine hKc _ _ ⟨(hB86.keep (List.Sublist.cons _ (List.Sublist.cons _ (List.Sublist.cons_cons _ (List.Sublist.cons_cons _ (List.nil_sublist _)))))), ?_⟩
        clear hKc Kc hB85 hown hgr hat
        refine wpAnyE_goR (Bx.grows _ _) (hB86.keep (List.Sublist.cons _ (List.Sublist.cons _ (List.Sublist.cons_cons _ (List.Sublist.cons_cons _ (List.nil_sublist _)))))) [9] 1 (by kernel_rfl) ?_
        apply Exists.intro
        refine ⟨fun G hG hN => ?_, ?_⟩
        · have c_out := fun (e : GE (Bx w [(gO, kO 0 (.slice none 0 0) (.slice none 0 0)), (w.heap.size, cB (some ad) c (some rd) d K)]) G) j => cell_of_row e.w _ j _ _ _ ((GE.h e).get 0 rfl)
          have z_out := fun (e : GE (Bx w [(gO, kO 0 (.slice none 0 0) (.slice none 0 0)), (w.heap.size, cB (some ad) c (some rd) d K)]) G) => (GE.h e).lt 0 rfl
          have c_K := fun (e : GE (Bx w [(gO, kO 0 (.slice none 0 0) (.slice none 0 0)), (w.heap.size, cB (some ad) c (some rd) d K)]) G) j => cell_of_row e.w _ j _ _ _ ((GE.h e).get 1 rfl)
          have z_K := fun (e : GE (Bx w [(gO, kO 0 (.slice none 0 0) (.slice none 0 0)), (w.heap.size, cB (some ad) c (some rd) d K)]) G) => (GE.h e).lt 1 rfl
          have fc := fun (e : GE (Bx w [(gO, kO 0 (.slice none 0 0) (.slice none 0 0)), (w.heap.size, cB (some ad) c (some rd) d K)]) G) => (HF.out e.w (GE.h e).below).1
          have fd := fun (e : GE (Bx w [(gO, kO 0 (.slice none 0 0) (.slice none 0 0)), (w.heap.size, cB (some ad) c (some rd) d K)]) G) => (HF.out e.w (GE.h e).below).2.1
          have fe := fun (e : GE (Bx w [(gO, kO 0 (.slice none 0 0) (.slice none 0 0)), (w.heap.size, cB (some ad) c (some rd) d K)]) G) => (HF.out e.w (GE.h e).below).2.2.1
          have fe2 := fun (e : GE (Bx w [(gO, kO 0 (.slice none 0 0) (.slice none 0 0)), (w.heap.size, cB (some ad) c (some rd) d K)]) G) => (HF.out e.w (GE.h e).below).2.2.2
          simp only [pickOps, List.getElem?_toArray, List.getElem?_cons_zero, List.getElem?_cons_succ]
          repeat (first | go_big_quiet_step (fail) | quiet_step (fail))
          exact wpQuiet_nil rfl
        refine wpAnyE_all (rs := [10]) (by kernel_rfl) (by simp) (fun wa46 hwa46 hRwa46 i hi => ?_)
        have hB87 := hB86.next hwa46
        clear hB86 hwa46 hRwa46
        obtain rfl := List.mem_singleton.1 hi
        refine wpOp_step rfl (fun Kc hKc => ?_)
        have c_o4 := fun j => cell_of_row _ _ j _ _ _ (hB87.get 1 rfl)
        have z_o4 := hB87.lt 1 rfl
        have f_o4 := fun j => frozen_of_row _ _ j _ _ (hB87.get 1 rfl)
        go_simp
        have hB88 := hB87.set 1 rfl 2 ((.slice A3 ((pDens K f t k).length + 1) c3))
        refine hKc _ _ ⟨(hB88.keep (List.Sublist.cons _ (List.Sublist.cons _ (List.Sublist.cons_cons _ (List.Sublist.cons_cons _ (List.nil_sublist _)))))), ?_⟩
        clear c_o4 z_o4 f_o4 hKc Kc hB87
        generalize wa46.setCell _ _ = wb47 at *
        refine wpAnyE_done (by kernel_rfl) (fun wd48 hwd48 hRwd48 => ?_) _
        refine NoPanic.normal ?_
        have hB89 := hB88.next hwd48
        clear hB88 hwd48 hRwd48
        have HZ := Lib.hid (show Mx w [(g4, kO (t - f) (.slice A2 ((pCuts K f t k).length + 1) c2) (.slice A3 ((pDens K f t k).length + 1) c3)), (gO, kO 0 (.slice none 0 0) (.slice none 0 0)), (w.heap.size, cB (some ad) c (some rd) d K)] [iR (.slice A3 ((pDens K f t k).length + 1) c3) (pDens K f t k ++ [gi K.dens k]), iR (.slice A2 ((pCuts K f t k).length + 1) c2) (pCuts K f t k ++ [(min t (gi K.cuts (k + 1)) - f)])] _ by
          have hz := hB89.drop
          have e : iR (.slice A3 ((pDens K f t k).length + 1) c3) (pDens K f t k ++ [gi K.dens k]) = ⟨(.slice A3 ((pDens K f t k).length + 1) c3), 3, 1, (pDens K f t k).length + 1, intsV (pDens K f t k) ++ [.int .i64 (gi K.dens k)]⟩ := by simp
          rw [e]; exact hz)
        clear hB89
        go_wp2_with fail
        exact ⟨⟨k + 1, (.slice A2 ((pCuts K f t k).length + 1) c2), (.slice A3 ((pDens K f t k).length + 1) c3), HLE.out, by go_num, by rw [HY.out.1, HY.out.2]; exact HZ.out⟩, by simpa [intOf] using HME.out⟩
end Go.Proofs.Ytgcbmnohhbcfiaa
