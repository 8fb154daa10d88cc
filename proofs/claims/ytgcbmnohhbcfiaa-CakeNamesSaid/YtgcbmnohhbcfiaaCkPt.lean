/- Part of cakes, the program's. -/
import Derived.Test.YtgcbmnohhbcfiaaCkNm
namespace Go.Proofs.Ytgcbmnohhbcfiaa
open Go.RowKit Go.Deep
set_option linter.unusedVariables false
set_option linter.unusedSimpArgs false

theorem sizeOf3 (w : World) : Sem.run Try.prog (Go.sizeOf 3) w = .ok 1 w := by
  obtain ⟨i0, hi0, hz0, hz1, hz2⟩ := info_parts info3
  simp [sizeOf, typeInfo, hi0, hz1, go_sem]
theorem slice3_run (a : Addr) (n c i j : Nat) (hij : i ≤ j) (hj : j + 1 ≤ c) (w : World) : Sem.run Try.prog (Instr.sliceAt 22 (.slice (some a) n c) (some (.int .i64 (i : Int))) (some (.int .i64 ((j : Int) + 1))) (some (.int .i64 ((j : Int) + 1)))) w = .ok (.slice (some (a.add i)) (j + 1 - i) (j + 1 - i)) w := by
  have hu : Try.prog.underlying 22 = some (.slice (Try.prog.elem 22)) := by rw [Program.elem, Try.underlying22]
  have he : Try.prog.elem 22 = 3 := by rw [Program.elem, Try.underlying22]
  have h1 := run_sliceAt_slice (P := Try.prog) w 22 (.slice (some a) n c) (some (.int .i64 (i : Int))) (some (.int .i64 ((j : Int) + 1))) (some (.int .i64 ((j : Int) + 1))) hu
  have h2 := run_slice_lhm (P := Try.prog) w 22 (some a) n c hu .i64 .i64 .i64 (i : Int) ((j : Int) + 1) ((j : Int) + 1) (by omega) (by omega) (by omega) (by omega)
  refine (h1.trans h2).trans ?_
  rw [he, sizeOf3]
  have e1 : ((i : Int)).toNat = i := by omega
  have e2 : ((j : Int) + 1).toNat = j + 1 := by omega
  rw [e1, e2]
  simp only [sliced, Result.andThen]
  rw [if_neg (by omega)]
  simp
theorem slice2_run (a : Addr) (n c i j : Nat) (hij : i ≤ j) (hj : j + 1 ≤ c) (w : World) : Sem.run Try.prog (Instr.sliceAt 22 (.slice (some a) n c) (some (.int .i64 (i : Int))) (some (.int .i64 ((j : Int) + 1))) none) w = .ok (.slice (some (a.add i)) (j + 1 - i) (c - i)) w := by
  have hu : Try.prog.underlying 22 = some (.slice (Try.prog.elem 22)) := by rw [Program.elem, Try.underlying22]
  have he : Try.prog.elem 22 = 3 := by rw [Program.elem, Try.underlying22]
  have h1 := run_sliceAt_slice (P := Try.prog) w 22 (.slice (some a) n c) (some (.int .i64 (i : Int))) (some (.int .i64 ((j : Int) + 1))) none hu
  have h2 := run_slice_lh (P := Try.prog) w 22 (some a) n c hu .i64 .i64 (i : Int) ((j : Int) + 1) (by omega) (by omega) (by omega)
  refine (h1.trans h2).trans ?_
  rw [he, sizeOf3]
  have e1 : ((i : Int)).toNat = i := by omega
  have e2 : ((j : Int) + 1).toNat = j + 1 := by omega
  rw [e1, e2]
  simp only [sliced, Result.andThen]
  rw [if_neg (by omega)]
  simp
theorem max_bd {c f t l : Int} (h1 : 0 ≤ c ∧ c ≤ 1000) (h2 : ¬ f < 0) (h3 : ¬ l < t) (h4 : ¬ t ≤ f) (h5 : l ≤ 1000) : -9223372036854775808 ≤ max c f - f ∧ max c f - f ≤ 9223372036854775807 := by omega
theorem gi_part (l : List Int) (i j k : Nat) (hk : i + k < j) : gi ((l.take j).drop i) k = gi l (i + k) := by
  simp [gi, List.getD_eq_getElem?_getD, List.getElem?_drop, List.getElem?_take, hk]
theorem Ints.part {B : Nat} {w : World} {A : Addr} {xs : List Int} (h : Ints B w (some A) xs) {i j : Nat} (hij : i ≤ j) (hj : j < xs.length) : Ints B w (some (A.add i)) ((xs.take (j + 1)).drop i) := fun _ => by
  obtain ⟨ad, e, hb, hc⟩ := h (by omega)
  obtain rfl : A = ad := by simpa using e
  refine ⟨_, rfl, by rw [block_add]; exact hb, fun k hk => ?_⟩
  have hk' : i + k < j + 1 := by simp at hk; omega
  rw [add_add_, gi_part _ _ _ _ hk']; exact hc _ (by omega)
theorem part_len (l : List Int) {i j : Nat} (hj : j < l.length) : ((l.take (j + 1)).drop i).length = j + 1 - i := by simp; omega
set_option maxRecDepth 100000 in
set_option maxHeartbeats 16000000 in
theorem cpart_any (K : Ck) (A : Option Addr) (c : Nat) (R : Option Addr) (d : Nat) (f t : Int) (hf0 : -9223372036854775808 ≤ f) (hf1 : f ≤ 9223372036854775807) (ht0 : -9223372036854775808 ≤ t) (ht1 : t ≤ 9223372036854775807) (w : World) (h : CIn w.heap.size w A c R d K) :
    Calls Try.prog 19 #[cV A c R d K, .int .i64 f, .int .i64 t] w (KRes (K.part? f t) (K.partC f t) w) := by
  obtain ⟨i0, hi0, hz0, hz1, hz2⟩ := info_parts info3
  have hM0 : Mx w [(w.heap.size + 1, kO 0 (.slice none 0 0) (.slice none 0 0)), (w.heap.size, cB A c R d K)] [] ((w.alloc (cB A c R d K)).alloc (kO 0 (.slice none 0 0) (.slice none 0 0))) :=
    ((Mx.of_bx (Bx.start w)).new rfl _).new (by simp) _
  have HH := Lib.hid h
  have HC := Lib.hid (fun (W : World) (hW : Below w.heap.size w W) => ccheck_any K A c R d W (h.next hW))
  have HW0 := Lib.hid (And.intro hf0 (And.intro hf1 (And.intro ht0 ht1)))
  clear h hf0 hf1 ht0 ht1
  unfold KRes
  go_enter Try.func19, Try.ntmps19
  go_upto_region 1 with fail
  generalize hw0 : (w.alloc (cB A c R d K)).alloc (kO 0 (.slice none 0 0) (.slice none 0 0)) = w0 at *
  clear hw0
  generalize w.heap.size + 1 = gO at *
  have c_K := fun j => cell_of_row _ _ j _ _ _ (hM0.get 1 rfl)
  have z_K := hM0.lt 1 rfl
  by_cases hc : K.code = 0
  rotate_left
  · have q : (K.code != 0) = true := by simpa using hc
    obtain ⟨code, hco⟩ : ∃ x, x = K.code := ⟨_, rfl⟩
    have HN := Lib.hid (show K.part? f t = Ck.zero ∧ K.partC f t = code by
      have e : K.partC f t = code := by unfold Ck.partC; rw [if_pos hc, hco]
      exact ⟨by unfold Ck.part?; rw [if_neg (by rw [e, hco]; exact hc)], e⟩)
    rw [← hco] at HC q
    clear hc hco
    go_wp2_with fail
    refine (HC.out _ hM0.below).mono ?_
    rintro e w1 ⟨rfl, hb⟩
    have hB1 := hM0.next hb
    clear c_K z_K hb hM0
    have c_out := fun j => cell_of_row _ _ j _ _ _ (hB1.get 0 rfl)
    have z_out := hB1.lt 0 rfl
    have f_out := fun j => frozen_of_row _ _ j _ _ (hB1.get 0 rfl)
    have HE := Lib.hid (hB1.put3 0 rfl (.int .i64 0) (.slice none 0 0) (.slice none 0 0)).below
    clear hB1
    go_wp2_with fail
    refine bodyPost_ret (v := .tuple #[kV 0 (.slice none 0 0) (.slice none 0 0), .int .i64 (code)]) (by simp [results, Try.results19, go_sem, c_out, f_out, z_out]) rfl ?_
    exact ⟨(.slice none 0 0), (.slice none 0 0), by rw [HN.out.1, HN.out.2]; rfl, by rw [HN.out.1]; exact KOwn.zero _ _, HE.out⟩
  have q : (K.code != 0) = false := by simpa using hc
  have HK := Lib.hid (Ck.ok_code hc)
  have HA := Lib.hid (fun (h : K.pArg f t) => show K.part? f t = Ck.zero ∧ K.partC f t = 2 by
    have e : K.partC f t = 2 := by unfold Ck.partC; rw [if_neg (by omega), if_pos h]
    exact ⟨by unfold Ck.part?; rw [if_neg (by omega)], e⟩)
  have HB := Lib.hid (fun (h : ¬ K.pArg f t) => show K.partC f t = if (K.part f t).code ≠ 0 then 6 else 0 by unfold Ck.partC; rw [if_neg (by omega), if_neg h])
  rw [hc] at HC q
  clear hc
  go_wp2_with fail
  refine (HC.out _ hM0.below).mono ?_
  rintro e w1 ⟨rfl, hb⟩
  have hB1 := hM0.next hb
  clear c_K z_K hb hM0
  have c_K := fun j => cell_of_row _ _ j _ _ _ (hB1.get 1 rfl)
  have z_K := hB1.lt 1 rfl
  by_cases h1 : f < 0
  · have a1 : decide (f < 0) = true := by simpa using h1
    have HX := Lib.hid (HA.out (Or.inl h1))
    clear h1
    have c_out := fun j => cell_of_row _ _ j _ _ _ (hB1.get 0 rfl)
    have z_out := hB1.lt 0 rfl
    have f_out := fun j => frozen_of_row _ _ j _ _ (hB1.get 0 rfl)
    have HE := Lib.hid (hB1.put3 0 rfl (.int .i64 0) (.slice none 0 0) (.slice none 0 0)).below
    clear hB1
    go_wp2_with fail
    refine bodyPost_ret (v := .tuple #[kV 0 (.slice none 0 0) (.slice none 0 0), .int .i64 (2)]) (by simp [results, Try.results19, go_sem, c_out, f_out, z_out]) rfl ?_
    exact ⟨(.slice none 0 0), (.slice none 0 0), by rw [HX.out.1, HX.out.2]; rfl, by rw [HX.out.1]; exact KOwn.zero _ _, HE.out⟩
  have a1 : decide (f < 0) = false := by simpa using h1
  have Ha1 := Lib.hid h1
  clear h1
  by_cases h1 : K.len < t
  · have a2 : decide (K.len < t) = true := by simpa using h1
    have HX := Lib.hid (HA.out (Or.inr (Or.inl h1)))
    clear h1
    have c_out := fun j => cell_of_row _ _ j _ _ _ (hB1.get 0 rfl)
    have z_out := hB1.lt 0 rfl
    have f_out := fun j => frozen_of_row _ _ j _ _ (hB1.get 0 rfl)
    have HE := Lib.hid (hB1.put3 0 rfl (.int .i64 0) (.slice none 0 0) (.slice none 0 0)).below
    clear hB1
    go_wp2_with fail
    refine bodyPost_ret (v := .tuple #[kV 0 (.slice none 0 0) (.slice none 0 0), .int .i64 (2)]) (by simp [results, Try.results19, go_sem, c_out, f_out, z_out]) rfl ?_
    exact ⟨(.slice none 0 0), (.slice none 0 0), by rw [HX.out.1, HX.out.2]; rfl, by rw [HX.out.1]; exact KOwn.zero _ _, HE.out⟩
  have a2 : decide (K.len < t) = false := by simpa using h1
  have Ha2 := Lib.hid h1
  clear h1
  by_cases h1 : t ≤ f
  · have a3 : decide (t ≤ f) = true := by simpa using h1
    have HX := Lib.hid (HA.out (Or.inr (Or.inr h1)))
    clear h1
    have c_out := fun j => cell_of_row _ _ j _ _ _ (hB1.get 0 rfl)
    have z_out := hB1.lt 0 rfl
    have f_out := fun j => frozen_of_row _ _ j _ _ (hB1.get 0 rfl)
    have HE := Lib.hid (hB1.put3 0 rfl (.int .i64 0) (.slice none 0 0) (.slice none 0 0)).below
    clear hB1
    go_wp2_with fail
    refine bodyPost_ret (v := .tuple #[kV 0 (.slice none 0 0) (.slice none 0 0), .int .i64 (2)]) (by simp [results, Try.results19, go_sem, c_out, f_out, z_out]) rfl ?_
    exact ⟨(.slice none 0 0), (.slice none 0 0), by rw [HX.out.1, HX.out.2]; rfl, by rw [HX.out.1]; exact KOwn.zero _ _, HE.out⟩
  have a3 : decide (t ≤ f) = false := by simpa using h1
  have Ha3 := Lib.hid h1
  clear h1
  have HB := Lib.hid (HB.out (fun h => h.elim Ha1.out (fun h => h.elim Ha2.out Ha3.out)))
  clear HA
  go_upto_region 6 with fail
  clear a1 a2 a3
  go_wp2_with fail
  clear c_K z_K
  have HM0 := Lib.hid hB1
  clear hB1
  go_loopw [9] (fun s9 wr => ∃ i : Nat, i < K.dens.length ∧ s9 = .int .i64 i ∧ gi K.cuts i ≤ f ∧ Mx w [(gO, kO 0 (.slice none 0 0) (.slice none 0 0)), (w.heap.size, cB A c R d K)] [] wr) (fun s9 _ => K.dens.length - (intOf s9).toNat)
  case atStart => exact ⟨0, by have := HK.out.n1; omega, rfl, by rw [HK.out.c0]; have := Ha1.out; omega, HM0.out⟩
  case round =>
    obtain ⟨i, hi, rfl, hci, hMr⟩ := hrel
    clear HM0
    have HI := Lib.hid (And.intro hi hci)
    clear hi hci
    have n2 := HK.out.n2
    have nc := HK.out.nc
    have hi := HI.out.1
    obtain ⟨ad, rfl, hb1, hc1⟩ := HH.out.cuts.at_ (show i + 1 < K.cuts.length by omega)
    have HF1 := Lib.hid (fun (W : World) (hW : Below w.heap.size w W) => show W.cell? ⟨ad.block, ad.off + (i + 1), none⟩ = some (.int .i64 (gi K.cuts (i + 1))) from (hW.cell (p := ad.add (i + 1)) (by rw [block_add]; exact hb1)).trans hc1)
    have z1 : (i : Int) < (K.dens.length : Int) := by omega
    have z3 : (0 : Int) ≤ (i : Int) := by omega
    have z4 : (i : Int) + 1 < (K.cuts.length : Int) := by omega
    have z5 : (0 : Int) ≤ (i : Int) + 1 := by omega
    have z6 : ((i : Int) + 1).toNat = i + 1 := by omega
    have y1 : IntKind.i64.wrap ((i : Int) + 1) = (i : Int) + 1 := IntWalk.i64_in _ (by omega)
    have y1' : wrap64 ((i : Int) + 1) = (i : Int) + 1 := IntWalk.wrap64_in _ (by omega)
    clear n2 nc hi hb1 hc1
    have f1 := HF1.out _ hMr.below
    have c_K := fun j => cell_of_row _ _ j _ _ _ (hMr.get 1 rfl)
    have z_K := hMr.lt 1 rfl
    by_cases hq : gi K.cuts (i + 1) ≤ f
    · have q1 : decide (gi K.cuts (i + 1) ≤ f) = true := by simpa using hq
      have HZ := Lib.hid (show i + 1 < K.dens.length ∧ gi K.cuts (i + 1) ≤ f ∧ K.dens.length - (i + 1) < K.dens.length - i from by
        have := HI.out.1
        refine ⟨?_, hq, by omega⟩
        rcases Nat.lt_or_ge (i + 1) K.dens.length with z | z
        · exact z
        · have e : i + 1 = K.dens.length := by omega
          rw [e, HK.out.cn] at hq
          have := Ha2.out; have := Ha3.out; omega)
      have HM := Lib.hid hMr
      clear hMr hq
      go_wp2_with fail
      exact ⟨⟨i + 1, HZ.out.1, by go_num, HZ.out.2.1, HM.out⟩, by simpa [intOf] using HZ.out.2.2⟩
    have q1 : decide (gi K.cuts (i + 1) ≤ f) = false := by simpa using hq
    have HI1 := Lib.hid (show f < gi K.cuts (i + 1) by omega)
    have HMi := Lib.hid hMr
    clear hq hMr
    go_wp2_with fail
    clear c_K z_K f1 q1 z1 z3 z4 z5 z6 y1 y1'
    go_loopw [10] (fun s10 wx => ∃ j : Nat, i ≤ j ∧ j < K.dens.length ∧ s10 = .int .i64 j ∧ gi K.cuts j < t ∧ Mx w [(gO, kO 0 (.slice none 0 0) (.slice none 0 0)), (w.heap.size, cB (some ad) c R d K)] [] wx) (fun s10 _ => K.dens.length - (intOf s10).toNat)
    case atStart => exact ⟨i, Nat.le_refl _, HI.out.1, rfl, by have := HI.out.2; have := Ha3.out; omega, HMi.out⟩
    case round =>
      obtain ⟨j, hij, hj, rfl, hcj, hMs⟩ := hrel
      clear HMi HF1
      have HIi := Lib.hid (And.intro hij HI.out)
      have HI := Lib.hid (And.intro hj hcj)
      clear hij hj hcj
      have n2 := HK.out.n2
      have nc := HK.out.nc
      have hi := HI.out.1
      obtain ⟨ae, eae, hb1, hc1⟩ := HH.out.cuts.at_ (show j + 1 < K.cuts.length by omega)
      obtain rfl : ad = ae := by simpa using eae
      clear eae
      have HF2 := Lib.hid (fun (W : World) (hW : Below w.heap.size w W) => show W.cell? ⟨ad.block, ad.off + (j + 1), none⟩ = some (.int .i64 (gi K.cuts (j + 1))) from (hW.cell (p := ad.add (j + 1)) (by rw [block_add]; exact hb1)).trans hc1)
      have z1 : (j : Int) < (K.dens.length : Int) := by omega
      have z3 : (0 : Int) ≤ (j : Int) := by omega
      have z4 : (j : Int) + 1 < (K.cuts.length : Int) := by omega
      have z5 : (0 : Int) ≤ (j : Int) + 1 := by omega
      have z6 : ((j : Int) + 1).toNat = j + 1 := by omega
      have y1 : IntKind.i64.wrap ((j : Int) + 1) = (j : Int) + 1 := IntWalk.i64_in _ (by omega)
      have y1' : wrap64 ((j : Int) + 1) = (j : Int) + 1 := IntWalk.wrap64_in _ (by omega)
      clear n2 nc hi hb1 hc1
      have f1 := HF2.out _ hMs.below
      have c_K := fun j => cell_of_row _ _ j _ _ _ (hMs.get 1 rfl)
      have z_K := hMs.lt 1 rfl
      by_cases hq : gi K.cuts (j + 1) < t
      · have q1 : decide (gi K.cuts (j + 1) < t) = true := by simpa using hq
        have HZ := Lib.hid (show i ≤ j + 1 ∧ j + 1 < K.dens.length ∧ gi K.cuts (j + 1) < t ∧ K.dens.length - (j + 1) < K.dens.length - j from by
          have := HI.out.1; have := HIi.out.1
          refine ⟨by omega, ?_, hq, by omega⟩
          rcases Nat.lt_or_ge (j + 1) K.dens.length with z | z
          · exact z
          · have e : j + 1 = K.dens.length := by omega
            rw [e, HK.out.cn] at hq
            have := Ha2.out; omega)
        have HM := Lib.hid hMs
        clear hMs hq
        go_wp2_with fail
        exact ⟨⟨j + 1, HZ.out.1, HZ.out.2.1, by go_num, HZ.out.2.2.1, HM.out⟩, by simpa [intOf] using HZ.out.2.2.2⟩
      have q1 : decide (gi K.cuts (j + 1) < t) = false := by simpa using hq
      have HP := Lib.hid (show PAt K f t i j from ⟨HIi.out.1, HI.out.1, HIi.out.2.2, HI1.out, HI.out.2, by omega⟩)
      have HPE := Lib.hid (HP.out.part HK.out)
      obtain ⟨rd, rfl, _, _⟩ := HH.out.dens.at_ HP.out.jn
      have hs3 := slice3_run rd K.dens.length d i j HP.out.ij (by have := HP.out.jn; have := HH.out.ld; omega)
      have hs2 := slice2_run ad K.cuts.length c i j HP.out.ij (by have := HP.out.jn; have := HH.out.lc; have := HK.out.nc; omega)
      have HDL0 := part_len K.dens (i := i) HP.out.jn
      obtain ⟨M, hM⟩ : ∃ M, M = j + 1 - i := ⟨_, rfl⟩
      obtain ⟨dl, hdl⟩ : ∃ x, x = (K.dens.take (j + 1)).drop i := ⟨_, rfl⟩
      rw [← hM] at hs3 hs2
      rw [← hM, ← hdl] at HDL0 HPE
      have HPI := Lib.hid (fun (B : Nat) (W : World) (h : Ints B W (some rd) K.dens) => show Ints B W (some (rd.add i)) dl from by rw [hdl]; exact h.part HP.out.ij HP.out.jn)
      have HDL := Lib.hid HDL0
      have HM := Lib.hid (show M = j + 1 - i ∧ M ≤ 39 by have := HP.out.jn; have := HK.out.n2; omega)
      have HMB := Lib.hid (show M ≤ maxLen ∧ M * 8 ≤ 140737488355328 by have := HM.out; unfold maxLen; omega)
      clear hM hdl HDL0
      have HX1 := Lib.hid (show -9223372036854775808 ≤ t - f ∧ t - f ≤ 9223372036854775807 by have := Ha1.out; have := Ha2.out; have := Ha3.out; have := HK.out.l2; omega)
      have x1 : IntKind.i64.wrap (t - f) = t - f := IntWalk.i64_in _ HX1.out
      have x1' : wrap64 (t - f) = t - f := IntWalk.wrap64_in _ HX1.out
      clear hq
      go_upto_region 13 with (at_builtin; refine wpList_append_any _ rfl (.tmp 58) (.tmp 66) 22 rfl w.heap.size 3 i0 (.int .i64 0) 1 8 Try.underlying22 hi0 hz0 hz1 hz2 rfl (by omega) (.slice (some ⟨wr.heap.size, 0, none⟩) 0 0) 0 [] rfl (World.ownsRow_lit wr #[] 0 hMs.below.size (by unfold maxLen; omega) rfl) _ (some (rd.add i)) M M (intsV dl) rfl (by have hr := (HPI.out _ _ (HH.out.next (hMs.new rfl (.cells #[] 3)).below).dens).reads; rw [HDL.out] at hr; exact hr) (one_cells _) (by rw [Nat.zero_add]; exact HMB.out.1) (by rw [Nat.zero_add]; exact HMB.out.2) (hMs.new rfl (.cells #[] 3)).below.size ?_; intro v2 wq hown hgr hat; obtain ⟨A1, c1, rfl, _, _⟩ := own_nil_len hown; have hz2g := (hMs.addR (one_alloc wr (.cells #[] 3)) ⟨.slice (some ⟨wr.heap.size, 0, none⟩) 0 0, 3, 1, 0, []⟩ (World.ownsRow_lit wr #[] 0 (Nat.le_refl _) (by unfold maxLen; omega) rfl)).grow 0 rfl hgr hown hat)
      simp only [Nat.zero_add, List.nil_append] at hz2g
      have hB41 := hz2g.new rfl (kO (t - f) (.slice none 0 0) (.slice A1 M c1))
      clear c_K z_K hMs hown hgr hat hz2g f1 q1 hs3 x1 x1'
      generalize wq.heap.size = g11 at *
      generalize wq.alloc _ = wr2 at *
      have c_K := fun j => cell_of_row _ _ j _ _ _ (hB41.get 2 rfl)
      have z_K := hB41.lt 2 rfl
      go_wp2_with fail
      clear c_K z_K hs2 z1 z3 z4 z5 z6 y1 y1'
      have HM5 := Lib.hid hB41
      clear hB41
      go_loopw [13, 76] (fun _ s76 wy => ∃ (m : Nat) (vc : Value), m ≤ M ∧ s76 = .int .i64 m ∧ Mx w [(g11, kO (t - f) vc (.slice A1 M c1)), (gO, kO 0 (.slice none 0 0) (.slice none 0 0)), (w.heap.size, cB (some ad) c (some rd) d K)] [iR vc (qCuts K f i m), ⟨(.slice A1 M c1), 3, 1, M, intsV dl⟩] wy) (fun _ s76 _ => M - (intOf s76).toNat)
      case atStart => exact ⟨0, (.slice none 0 0), Nat.zero_le _, rfl, HM5.out.nil 3 1⟩
      case round =>
        obtain ⟨m, vc, hm, rfl, hMu⟩ := hrel
        clear HM5
        by_cases hlt : m < M
        rotate_left
        · obtain rfl : M = m := by omega
          clear hlt hm
          have c_o11 := fun j => cell_of_row _ _ j _ _ _ (hMu.get 0 rfl)
          have z_o11 := hMu.lt 0 rfl
          have c_K := fun j => cell_of_row _ _ j _ _ _ (hMu.get 2 rfl)
          have z_K := hMu.lt 2 rfl
          have HQL := Lib.hid (qLen (K := K) (f := f) i M)
          have HB1 := Lib.hid (show (qCuts K f i M).length + 1 ≤ maxLen ∧ ((qCuts K f i M).length + 1) * 8 ≤ 140737488355328 by have := HQL.out; have := HM.out; unfold maxLen; omega)
          have x1 : IntKind.i64.wrap (t - f) = t - f := IntWalk.i64_in _ HX1.out
          have x1' : wrap64 (t - f) = t - f := IntWalk.wrap64_in _ HX1.out
          have hB61n := hMu.new rfl ((.cells #[.int .i64 (t - f)] 3))
          go_upto_region 19 with (at_builtin; refine wpList_append_any _ rfl (.tmp 92) (.tmp 96) 22 rfl w.heap.size 3 i0 (.int .i64 0) 1 8 Try.underlying22 hi0 hz0 hz1 hz2 rfl (by omega) vc (qCuts K f i M).length (intsV (qCuts K f i M)) rfl (hB61n.row 0 rfl) _ (some ⟨wr.heap.size, 0, none⟩) 1 1 [.int .i64 (t - f)] rfl (reads_one (hB61n.get 0 rfl)) (one_one _) HB1.out.1 HB1.out.2 hB61n.below.size ?_; intro v2 wb1 hown hgr hat; obtain ⟨A2, c2, rfl, _, _⟩ := own_nil_len hown; have hB61g := hB61n.grow 0 rfl hgr hown hat; have c_o112 := fun j => cell_of_row _ _ j _ _ _ (hB61g.get 1 rfl); have f_o112 := fun j => frozen_of_row _ _ j _ _ (hB61g.get 1 rfl); have z_o112 := hB61g.lt 1 rfl)
          have hB61 := (hB61g.set 1 rfl 1 ((.slice A2 ((qCuts K f i M).length + 1) c2))).drop
          clear c_o11 z_o11 c_K z_K hB61n hB61g hMu hown hgr hat c_o112 f_o112 z_o112
          generalize wb1.setCell _ _ = wb2 at *
          clear x1 x1'
          have hlen : (qCuts K f i M ++ [t - f]).length = (qCuts K f i M).length + 1 := by simp
          have HR1 := hB61.row 0 rfl
          have HR2 := hB61.row 1 rfl
          simp only [intsV_append] at HR1
          have HKO := Lib.hid (fun (W : World) (r1 : W.ownsRow w.heap.size 3 1 (.slice A2 ((qCuts K f i M).length + 1) c2) ((qCuts K f i M).length + 1) (intsV (qCuts K f i M ++ [t - f]))) (r2 : W.ownsRow w.heap.size 3 1 (.slice A1 M c1) M (intsV dl)) => show KOwn w.heap.size W (.slice A2 (K.part f t).cuts.length c2) (.slice A1 (K.part f t).dens.length c1) (K.part f t) from by
            rw [HPE.out]
            refine ⟨by simp only [hlen]; exact r1, by simp only [HDL.out]; exact r2, ?_, ?_⟩
            · have := Ha1.out; have := Ha2.out; have := Ha3.out; have := HK.out.l2; show _ ≤ t - f; omega
            · have := Ha1.out; have := Ha2.out; have := Ha3.out; have := HK.out.l2; show t - f ≤ _; omega)
          have HLC := Lib.hid (show (K.part f t).cuts.length = (qCuts K f i M).length + 1 ∧ (K.part f t).dens.length = M ∧ (K.part f t).len = t - f from by rw [HPE.out]; exact ⟨hlen, HDL.out, rfl⟩)
          have HCC := Lib.hid (ccheck_any (K.part f t) A2 c2 A1 c1 _ ((HKO.out _ HR1 HR2).fresh.here))
          clear HR1 HR2 hlen
          have HKR := Lib.hid (fun (W : World) (hb : Below wb2.heap.size wb2 W) => HKO.out W ((hB61.next hb).row 0 rfl |> fun r => by simpa only [intsV_append] using r) ((hB61.next hb).row 1 rfl))
          obtain ⟨pl, hpl⟩ : ∃ x, x = (qCuts K f i M).length + 1 := ⟨_, rfl⟩
          obtain ⟨pc, hpc⟩ : ∃ x, x = (K.part f t).code := ⟨_, rfl⟩
          have HPC := Lib.hid hpc
          clear hpc hpl pl
          have hcc := HCC.out
          dsimp only [cV] at hcc
          rw [HLC.out.1, HLC.out.2.1, HLC.out.2.2, ← HPC.out] at hcc
          clear HCC
          have c_o11 := fun j => cell_of_row _ _ j _ _ _ (hB61.get 0 rfl)
          have z_o11 := hB61.lt 0 rfl
          go_wp2_with fail
          refine hcc.mono ?_
          rintro e w62 ⟨rfl, hb⟩
          have hB62 := hB61.next hb
          have HKZ := Lib.hid (HKR.out _ hb)
          clear hcc HKR
          clear c_o11 z_o11 hb hB61
          by_cases hz : pc ≠ 0
          · have pq : (pc != 0) = true := by simpa using hz
            have HN := Lib.hid (show K.part? f t = Ck.zero ∧ K.partC f t = 6 by
              have e : K.partC f t = 6 := by rw [HB.out, ← HPC.out, if_pos hz]
              exact ⟨by unfold Ck.part?; rw [if_neg (by omega)], e⟩)
            clear hz
            have c_out := fun j => cell_of_row _ _ j _ _ _ (hB62.get 1 rfl)
            have z_out := hB62.lt 1 rfl
            have f_out := fun j => frozen_of_row _ _ j _ _ (hB62.get 1 rfl)
            have HE := Lib.hid (hB62.put3 1 rfl (.int .i64 0) (.slice none 0 0) (.slice none 0 0)).below
            clear hB62
            go_wp2_with fail
            refine bodyPost_ret (v := .tuple #[kV 0 (.slice none 0 0) (.slice none 0 0), .int .i64 (6)]) (by simp [results, Try.results19, go_sem, c_out, f_out, z_out]) rfl ?_
            exact ⟨(.slice none 0 0), (.slice none 0 0), by rw [HN.out.1, HN.out.2]; rfl, by rw [HN.out.1]; exact KOwn.zero _ _, HE.out⟩
          have pq : (pc != 0) = false := by simpa using hz
          have HN := Lib.hid (show K.part? f t = K.part f t ∧ K.partC f t = 0 by
            have e : K.partC f t = 0 := by rw [HB.out, ← HPC.out, if_neg hz]
            exact ⟨by unfold Ck.part?; rw [if_pos e], e⟩)
          clear hz
          have c_o11 := fun j => cell_of_row _ _ j _ _ _ (hB62.get 0 rfl)
          have z_o11 := hB62.lt 0 rfl
          have c_out := fun j => cell_of_row _ _ j _ _ _ (hB62.get 1 rfl)
          have z_out := hB62.lt 1 rfl
          have f_out := fun j => frozen_of_row _ _ j _ _ (hB62.get 1 rfl)
          have HE := Lib.hid (hB62.put3 1 rfl (.int .i64 (t - f)) (.slice A2 ((qCuts K f i M).length + 1) c2) (.slice A1 M c1))
          clear hB62
          go_wp2_with fail
          refine bodyPost_ret (v := .tuple #[kV (t - f) (.slice A2 ((qCuts K f i M).length + 1) c2) (.slice A1 M c1), .int .i64 0]) (by simp [results, Try.results19, go_sem, c_out, f_out, z_out]) rfl ?_
          refine ⟨_, _, by rw [HN.out.1, HN.out.2, HLC.out.2.2], ?_, HE.out.below⟩
          rw [HN.out.1]
          have h5 := HKO.out _ (HE.out.row 0 rfl |> fun r => by simpa only [intsV_append] using r) (HE.out.row 1 rfl)
          rw [HLC.out.1, HLC.out.2.1] at h5
          exact h5
        have HLT := Lib.hid hlt
        have HME := Lib.hid (And.intro (Nat.succ_le_of_lt hlt) (Nat.sub_lt_sub_left hlt (Nat.lt_succ_self m)))
        have HQL := Lib.hid (qLen (K := K) (f := f) i m)
        have HB1 := Lib.hid (show (qCuts K f i m).length + 1 ≤ maxLen ∧ ((qCuts K f i m).length + 1) * 8 ≤ 140737488355328 by have := HQL.out; have := HM.out; unfold maxLen; omega)
        obtain ⟨ag, eag, hb1, hc1⟩ := HH.out.cuts.at_ (show i + m < K.cuts.length by have := HP.out.jn; have := HK.out.nc; have := HM.out; omega)
        obtain rfl : ad = ag := by simpa using eag
        have HCB := Lib.hid (HK.out.cut_bd (i := i + m) (by have := HP.out.jn; have := HM.out; omega))
        have HF3 := Lib.hid (fun (W : World) (hW : Below w.heap.size w W) => show W.cell? ((ad.add i).add m) = some (.int .i64 (gi K.cuts (i + m))) from by rw [add_add_]; exact (hW.cell (by rw [block_add]; exact hb1)).trans hc1)
        have f3 := HF3.out _ hMu.below
        have z1 : (m : Int) < (M : Int) := by omega
        have z3 : (0 : Int) ≤ (m : Int) := by omega
        have y1 : IntKind.i64.wrap ((m : Int) + 1) = (m : Int) + 1 := IntWalk.i64_in _ (by have := HM.out; omega)
        have y1' : wrap64 ((m : Int) + 1) = (m : Int) + 1 := IntWalk.wrap64_in _ (by have := HM.out; omega)
        have HX2 := Lib.hid (show -9223372036854775808 ≤ max (gi K.cuts (i + m)) f - f ∧ max (gi K.cuts (i + m)) f - f ≤ 9223372036854775807 from max_bd HCB.out (Int.not_lt.2 (by have := Ha1.out; first | exact this | exact Int.not_lt.1 this)) (Int.not_lt.2 (by have := Ha2.out; first | exact this | exact Int.not_lt.1 this)) (Int.not_le.2 (by have := Ha3.out; first | exact this | exact Int.not_le.1 this)) HK.out.l2)
        have x2 : IntKind.i64.wrap (max (gi K.cuts (i + m)) f - f) = max (gi K.cuts (i + m)) f - f := IntWalk.i64_in _ HX2.out
        have x2' : wrap64 (max (gi K.cuts (i + m)) f - f) = max (gi K.cuts (i + m)) f - f := IntWalk.wrap64_in _ HX2.out
        clear hb1 hc1 eag hm
        go_upto_region 16 with fail
        have c_o11 := fun j => cell_of_row _ _ j _ _ _ (hMu.get 0 rfl)
        have z_o11 := hMu.lt 0 rfl
        have hB61n := hMu.new rfl ((.cells #[.int .i64 (max (gi K.cuts (i + m)) f - f)] 3))
        go_upto_region 17 with (at_builtin; refine wpList_append_any _ rfl (.tmp 81) (.tmp 87) 22 rfl w.heap.size 3 i0 (.int .i64 0) 1 8 Try.underlying22 hi0 hz0 hz1 hz2 rfl (by omega) vc (qCuts K f i m).length (intsV (qCuts K f i m)) rfl (hB61n.row 0 rfl) _ (some ⟨wr.heap.size, 0, none⟩) 1 1 [.int .i64 (max (gi K.cuts (i + m)) f - f)] rfl (reads_one (hB61n.get 0 rfl)) (one_one _) HB1.out.1 HB1.out.2 hB61n.below.size ?_; intro v2 wb3 hown hgr hat; obtain ⟨A2, c2, rfl, _, _⟩ := own_nil_len hown; have hB61g := hB61n.grow 0 rfl hgr hown hat; have c_o112 := fun j => cell_of_row _ _ j _ _ _ (hB61g.get 1 rfl); have f_o112 := fun j => frozen_of_row _ _ j _ _ (hB61g.get 1 rfl); have z_o112 := hB61g.lt 1 rfl)
        have hB61 := (hB61g.set 1 rfl 1 ((.slice A2 ((qCuts K f i m).length + 1) c2))).drop
        clear c_o11 z_o11 hB61n hB61g hMu hown hgr hat c_o112 f_o112 z_o112
        generalize wb3.setCell _ _ = wb4 at *
        have HZ := Lib.hid (show Mx w [(g11, kO (t - f) (.slice A2 ((qCuts K f i m).length + 1) c2) (.slice A1 M c1)), (gO, kO 0 (.slice none 0 0) (.slice none 0 0)), (w.heap.size, cB (some ad) c (some rd) d K)] [iR (.slice A2 ((qCuts K f i m).length + 1) c2) (qCuts K f i (m + 1)), ⟨(.slice A1 M c1), 3, 1, M, intsV dl⟩] _ by
          have hz := hB61
          have e : iR (.slice A2 ((qCuts K f i m).length + 1) c2) (qCuts K f i (m + 1)) = ⟨(.slice A2 ((qCuts K f i m).length + 1) c2), 3, 1, (qCuts K f i m).length + 1, intsV (qCuts K f i m) ++ [.int .i64 (max (gi K.cuts (i + m)) f - f)]⟩ := by rw [qCuts]; simp
          rw [e]; exact hz)
        clear hB61 f3
        go_wp2_with fail
        exact ⟨⟨m + 1, (.slice A2 ((qCuts K f i m).length + 1) c2), HME.out.1, by go_num, HZ.out⟩, by simpa [intOf] using HME.out.2⟩
end Go.Proofs.Ytgcbmnohhbcfiaa
