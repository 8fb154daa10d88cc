/- Density of cakes, of both. -/
import Derived.Test.YtgcbmnohhbcfiaaCkT
import Derived.Test.YtgcbmnohhbcfiaaRfD
namespace Go.Proofs.Ytgcbmnohhbcfiaa
open Go.RowKit Go.Deep
set_option linter.unusedVariables false
set_option linter.unusedSimpArgs false

/-- The interval that holds a point, looked for from the last one. -/
def densAt (K : Ck) (p : Rt) : Nat → Nat
  | 0 => 0
  | k + 1 => if ltB p ⟨gi K.cuts (k + 1), 1⟩ = true then densAt K p k else k + 1
def Ck.at_ (K : Ck) (p : Rt) : Nat := densAt K p (K.dens.length - 1)
def Ck.denC (K : Ck) (p : Rt) : Int := if K.code = 0 then if pointB K.len p = true then 0 else 2 else K.code
def Ck.den (K : Ck) (p : Rt) : Int := if K.code = 0 then if pointB K.len p = true then gi K.dens (K.at_ p) else 0 else 0
theorem point_ok {n : Int} {p : Rt} (h : pointB n p = true) : p.Ok ∧ ltB p ⟨0, 1⟩ = false := by
  simp only [pointB, Bool.and_eq_true, decide_eq_true_eq] at h
  have ok := Rt.ok_code h.1.1
  refine ⟨ok, ?_⟩
  unfold ltB
  rw [decide_eq_false_iff_not, ← lt_q ok (len_ok (n := 0) (by omega) (by omega))]
  have := h.1.2
  show ¬ p.n * 1 < 0 * p.d
  omega

set_option maxRecDepth 100000 in
set_option maxHeartbeats 8000000 in
theorem cdensity_any (K : Ck) (A : Option Addr) (c : Nat) (R : Option Addr) (d : Nat) (p : Rt) (hp : p.wf) (w : World) (h : CIn w.heap.size w A c R d K) :
    Calls Try.prog 24 #[cV A c R d K, rV p] w fun e w' => e = .returned (.tuple #[.int .i64 (K.den p), .int .i64 (K.denC p)]) ∧ Below w.heap.size w w' := by
  have HB0 := Lib.hid (show Below w.heap.size w ((w.alloc (cB A c R d K)).alloc (rB p)) from (one_alloc w _).alloc (by simp) _)
  have hg : ((w.alloc (cB A c R d K)).alloc (rB p)).heap[w.heap.size]? = some (cB A c R d K) := heap_old (heap_new rfl)
  have hp0 : ((w.alloc (cB A c R d K)).alloc (rB p)).heap[w.heap.size + 1]? = some (rB p) := heap_new (by simp)
  have HH := Lib.hid h
  have HWF := Lib.hid hp
  have HC := Lib.hid (fun (W : World) (hW : Below w.heap.size w W) => ccheck_any K A c R d W (h.next hW))
  have cg := fun j => cell_of_row _ _ j _ _ _ hg
  have cp := fun j => cell_of_row _ _ j _ _ _ hp0
  clear h hp
  by_cases hc : K.code = 0
  rotate_left
  · have q : (K.code != 0) = true := by simpa using hc
    have HT := Lib.hid (show K.den p = 0 ∧ K.denC p = K.code by unfold Ck.den Ck.denC; rw [if_neg hc, if_neg hc]; exact ⟨rfl, rfl⟩)
    rw [HT.out.1, HT.out.2]
    clear hc HT
    generalize K.code = code at *
    go_enter Try.func24, Try.ntmps24
    go_wp2_with fail
    refine (HC.out _ HB0.out).mono ?_
    rintro e w1 ⟨rfl, hb1⟩
    have HB1 := Lib.hid (bcall HB0.out HB0.out.size hb1)
    have hg1 := heap_ext hg hb1
    clear cg cp hg hb1
    have cg := fun j => cell_of_row _ _ j _ _ _ hg1
    go_wp2_with fail
    refine bodyPost_ret (v := .tuple #[.int .i64 0, .int .i64 code]) (by simp [results, Try.results24, go_sem]) rfl ?_
    exact ⟨rfl, HB1.out⟩
  have HK := Lib.hid (Ck.ok_code hc)
  have l1 := HK.out.l1
  have l2 := HK.out.l2
  have HPT := Lib.hid (fun (W : World) => cpoint_any K A c R d p HWF.out (by omega) l2 W)
  have HDC := Lib.hid (show K.denC p = if pointB K.len p = true then 0 else 2 by unfold Ck.denC; rw [if_pos hc])
  have HDD := Lib.hid (show K.den p = if pointB K.len p = true then gi K.dens (K.at_ p) else 0 by unfold Ck.den; rw [if_pos hc])
  rw [hc] at HC
  clear hc
  go_enter Try.func24, Try.ntmps24
  go_wp2_with fail
  refine (HC.out _ HB0.out).mono ?_
  rintro e w1 ⟨rfl, hb1⟩
  have HB1 := Lib.hid (bcall HB0.out HB0.out.size hb1)
  have hg1 := heap_ext hg hb1
  have hp1 := heap_ext hp0 hb1
  clear cg cp hg hp0 hb1 HC
  have cg := fun j => cell_of_row _ _ j _ _ _ hg1
  have cp := fun j => cell_of_row _ _ j _ _ _ hp1
  have zg := lt_some hg1
  have zp := lt_some hp1
  by_cases hq : pointB K.len p = true
  rotate_left
  · have hq' : pointB K.len p = false := by simpa using hq
    have HE := Lib.hid (show K.den p = 0 ∧ K.denC p = 2 by rw [HDD.out, HDC.out, if_neg hq, if_neg hq]; exact ⟨rfl, rfl⟩)
    rw [hq'] at HPT
    clear hq hq'
    go_wp2_with fail
    refine (HPT.out _).mono ?_
    rintro e w2 ⟨rfl, hb2⟩
    clear cg cp zg zp
    go_wp2_with fail
    refine bodyPost_ret (v := .tuple #[.int .i64 0, .int .i64 2]) (by simp [results, Try.results24, go_sem]) rfl ?_
    exact ⟨by rw [HE.out.1, HE.out.2], bcall HB1.out HB1.out.size hb2⟩
  have HE := Lib.hid (show K.den p = gi K.dens (K.at_ p) ∧ K.denC p = 0 by rw [HDD.out, HDC.out, if_pos hq, if_pos hq]; exact ⟨rfl, rfl⟩)
  have HP := Lib.hid (point_ok hq)
  rw [hq] at HPT
  clear hq HDC HDD
  go_wp2_with fail
  refine (HPT.out _).mono ?_
  rintro e w2 ⟨rfl, hb2⟩
  have HB2 := Lib.hid (bcall HB1.out HB1.out.size hb2)
  have hg2 := heap_ext hg1 hb2
  have hp2 := heap_ext hp1 hb2
  have HG2 := Lib.hid hg2
  have HP2 := Lib.hid hp2
  clear cg cp zg zp hb2 hg1 hp1 HPT
  have cg := fun j => cell_of_row _ _ j _ _ _ hg2
  have zg := lt_some hg2
  have n1 := HK.out.n1
  have n2 := HK.out.n2
  have HME0 := Lib.hid (show K.dens.length - 1 ≤ K.dens.length - 1 from Nat.le_refl _)
  have HCS := Lib.hid (show ((K.dens.length - 1 : Nat) : Int) = (K.dens.length : Int) - 1 by omega)
  have y2 : IntKind.i64.wrap ((K.dens.length : Int) - 1) = (K.dens.length : Int) - 1 := IntWalk.i64_in _ (by omega)
  have y2' : wrap64 ((K.dens.length : Int) - 1) = (K.dens.length : Int) - 1 := IntWalk.wrap64_in _ (by omega)
  go_wp2_with fail
  clear cg zg hg2 hp2 y2 y2' l1 l2
  go_loopw [7] (fun s wr => ∃ i : Nat, i ≤ K.dens.length - 1 ∧ s = .int .i64 i ∧ K.at_ p = densAt K p i ∧ Below w.heap.size w wr ∧ wr.heap[w.heap.size]? = some (cB A c R d K) ∧ wr.heap[w.heap.size + 1]? = some (rB p)) (fun s _ => (intOf s).toNat)
  case atStart => exact ⟨K.dens.length - 1, HME0.out, by rw [HCS.out], rfl, HB2.out, HG2.out, HP2.out⟩
  case round =>
    obtain ⟨i, hi, rfl, hat, hB, hg, hp⟩ := hrel
    have HAT := Lib.hid hat
    have HBr := Lib.hid hB
    have nc := HK.out.nc
    have cb := HK.out.cut_bd (i := i) (by omega)
    obtain ⟨ad, rfl, hb0, hc0⟩ := HH.out.cuts.at_ (show i < K.cuts.length by omega)
    obtain ⟨rd, rfl, hb2, hc2⟩ := HH.out.dens.at_ (show i < K.dens.length by omega)
    have k0 := (hB.cell (p := ad.add i) (by rw [block_add]; exact hb0)).trans hc0
    have k2 := (hB.cell (p := rd.add i) (by rw [block_add]; exact hb2)).trans hc2
    have kb : (ad.add i).block < wr.heap.size := by rw [block_add]; exact Nat.lt_of_lt_of_le hb0 hB.size
    have HF := Lib.hid (fun (W : World) (hW : Below wr.heap.size wr W) => show W.cell? ⟨w.heap.size, 2, none⟩ = some (.slice (some rd) K.dens.length d) ∧ W.cell? (rd.add i) = some (.int .i64 (gi K.dens i)) from ⟨cell_of_row _ _ 2 _ _ _ (heap_ext hg hW), (hW.cell (by rw [block_add]; exact Nat.lt_of_lt_of_le hb2 hB.size)).trans k2⟩)
    have HGr := Lib.hid hg
    have HPr := Lib.hid hp
    have cg := fun j => cell_of_row _ _ j _ _ _ hg
    have cp := fun j => cell_of_row _ _ j _ _ _ hp
    have zg := lt_some hg
    have zp := lt_some hp
    have z2 : (i : Int) < (K.cuts.length : Int) := by omega
    have z3 : (0 : Int) ≤ (i : Int) := by omega
    have z4 : (i : Int) < (K.dens.length : Int) := by omega
    have z5 : i < K.cuts.length := by omega
    have z6 : i < K.dens.length := by omega
    have HKL := Lib.hid (len_ok (n := gi K.cuts i) (by omega) (by omega))
    have HLT := Lib.hid (fun (W : World) => cless_any p ⟨gi K.cuts i, 1⟩ HP.out.1 HKL.out W)
    have HCZ := Lib.hid HK.out.c0
    by_cases i0 : i = 0
    · have HIS := Lib.hid (show K.at_ p = i by rw [hat, i0]; rfl)
      have HLF := Lib.hid (show ltB p ⟨gi K.cuts i, 1⟩ = false by rw [i0, HCZ.out]; exact HP.out.2)
      rw [HLF.out] at HLT
      clear nc cb hat hB hg hp hb0 hc0 hb2 hc2 hi i0
      go_wp2_with fail
      refine wp_region_ext (by kernel_rfl) (by kernel_rfl) ?_
      repeat (first | go_big_quiet_step ((first | (go_at_call 83; exact calls_ext (whole_any _ _)) | (go_at_call 82; exact calls_ext (HLT.out _)))) | quiet_step ((first | (go_at_call 83; exact calls_ext (whole_any _ _)) | (go_at_call 82; exact calls_ext (HLT.out _)))))
      refine wpQuiet_nil ?_
      rintro _ ⟨⟨w4, hb4⟩, rfl⟩
      have HB4 := Lib.hid (bcall HBr.out HBr.out.size hb4)
      obtain ⟨m0, m1⟩ := HF.out _ hb4
      have zg4 := lt_some (heap_ext HGr.out hb4)
      clear hb4 cg cp zg zp k0 k2 kb
      go_wp2_with fail
      refine bodyPost_ret (v := .tuple #[.int .i64 (gi K.dens i), .int .i64 0]) (by simp [results, Try.results24, go_sem]) rfl ?_
      exact ⟨by rw [HE.out.1, HE.out.2, HIS.out], HB4.out⟩
    · obtain ⟨b, hb⟩ : ∃ b, b = ltB p ⟨gi K.cuts i, 1⟩ := ⟨_, rfl⟩
      rw [← hb] at HLT
      have HDA := Lib.hid (show densAt K p i = if ltB p ⟨gi K.cuts i, 1⟩ = true then densAt K p (i - 1) else i from by
        obtain ⟨j, rfl⟩ : ∃ j, i = j + 1 := ⟨i - 1, by omega⟩
        rfl)
      have HLE := Lib.hid (show i - 1 ≤ K.dens.length - 1 by omega)
      have HCI := Lib.hid (show ((i - 1 : Nat) : Int) = (i : Int) - 1 by omega)
      have HMI := Lib.hid (show ((i - 1 : Nat) : Int).toNat < i from by omega)
      have y1 : IntKind.i64.wrap ((i : Int) - 1) = (i : Int) - 1 := IntWalk.i64_in _ (by omega)
      have y1' : wrap64 ((i : Int) - 1) = (i : Int) - 1 := IntWalk.wrap64_in _ (by omega)
      cases b with
      | true =>
        have HAN := Lib.hid (show K.at_ p = densAt K p (i - 1) by rw [hat, HDA.out, if_pos hb.symm])
        clear nc cb hat hB hg hp hb0 hc0 hb2 hc2 hi hb
        go_wp2_with fail
        refine wp_region_ext (by kernel_rfl) (by kernel_rfl) ?_
        repeat (first | go_big_quiet_step ((first | (go_at_call 83; exact calls_ext (whole_any _ _)) | (go_at_call 82; exact calls_ext (HLT.out _)))) | quiet_step ((first | (go_at_call 83; exact calls_ext (whole_any _ _)) | (go_at_call 82; exact calls_ext (HLT.out _)))))
        refine wpQuiet_nil ?_
        rintro _ ⟨⟨w4, hb4⟩, rfl⟩
        have HR := Lib.hid (And.intro (bcall HBr.out HBr.out.size hb4) (And.intro (heap_ext HGr.out hb4) (heap_ext HPr.out hb4)))
        clear hb4 cg cp zg zp k0 k2 kb
        go_wp2_with fail
        exact ⟨⟨i - 1, HLE.out, by rw [HCI.out], HAN.out, HR.out⟩, by rw [show intOf (Value.int .i64 ((i : Int) - 1)) = (i : Int) - 1 from rfl, ← HCI.out]; exact HMI.out⟩
      | false =>
        have HIS := Lib.hid (show K.at_ p = i by rw [hat, HDA.out, if_neg (by rw [← hb]; decide)])
        clear nc cb hat hB hg hp hb0 hc0 hb2 hc2 hi hb y1 y1'
        go_wp2_with fail
        refine wp_region_ext (by kernel_rfl) (by kernel_rfl) ?_
        repeat (first | go_big_quiet_step ((first | (go_at_call 83; exact calls_ext (whole_any _ _)) | (go_at_call 82; exact calls_ext (HLT.out _)))) | quiet_step ((first | (go_at_call 83; exact calls_ext (whole_any _ _)) | (go_at_call 82; exact calls_ext (HLT.out _)))))
        refine wpQuiet_nil ?_
        rintro _ ⟨⟨w4, hb4⟩, rfl⟩
        have HB4 := Lib.hid (bcall HBr.out HBr.out.size hb4)
        obtain ⟨m0, m1⟩ := HF.out _ hb4
        have zg4 := lt_some (heap_ext HGr.out hb4)
        clear hb4 cg cp zg zp k0 k2 kb
        go_wp2_with fail
        refine bodyPost_ret (v := .tuple #[.int .i64 (gi K.dens i), .int .i64 0]) (by simp [results, Try.results24, go_sem]) rfl ?_
        exact ⟨by rw [HE.out.1, HE.out.2, HIS.out], HB4.out⟩

set_option maxRecDepth 100000 in
set_option maxHeartbeats 8000000 in
theorem fdensity_any (K : Ck) (A : Option Addr) (c : Nat) (R : Option Addr) (d : Nat) (p : Rt) (hp : p.wf) (w : World) (h : CIn w.heap.size w A c R d K) :
    Calls Try.prog 25 #[cV A c R d K, rV p] w fun e w' => e = .returned (.tuple #[.int .i64 (K.den p), .int .i64 (K.denC p)]) ∧ Below w.heap.size w w' := by
  have HB0 := Lib.hid (show Below w.heap.size w ((w.alloc (cB A c R d K)).alloc (rB p)) from (one_alloc w _).alloc (by simp) _)
  have hg : ((w.alloc (cB A c R d K)).alloc (rB p)).heap[w.heap.size]? = some (cB A c R d K) := heap_old (heap_new rfl)
  have hp0 : ((w.alloc (cB A c R d K)).alloc (rB p)).heap[w.heap.size + 1]? = some (rB p) := heap_new (by simp)
  have HH := Lib.hid h
  have HWF := Lib.hid hp
  have HC := Lib.hid (fun (W : World) (hW : Below w.heap.size w W) => fckcheck_any K A c R d W (h.next hW))
  have cg := fun j => cell_of_row _ _ j _ _ _ hg
  have cp := fun j => cell_of_row _ _ j _ _ _ hp0
  clear h hp
  by_cases hc : K.code = 0
  rotate_left
  · have q : (K.code != 0) = true := by simpa using hc
    have HT := Lib.hid (show K.den p = 0 ∧ K.denC p = K.code by unfold Ck.den Ck.denC; rw [if_neg hc, if_neg hc]; exact ⟨rfl, rfl⟩)
    rw [HT.out.1, HT.out.2]
    clear hc HT
    generalize K.code = code at *
    go_enter Try.func25, Try.ntmps25
    go_wp2_with fail
    refine (HC.out _ HB0.out).mono ?_
    rintro e w1 ⟨rfl, hb1⟩
    have HB1 := Lib.hid (bcall HB0.out HB0.out.size hb1)
    have hg1 := heap_ext hg hb1
    clear cg cp hg hb1
    have cg := fun j => cell_of_row _ _ j _ _ _ hg1
    go_wp2_with fail
    refine (HC.out _ HB1.out).mono ?_
    rintro e w2 ⟨rfl, hb2⟩
    clear cg
    go_wp2_with fail
    refine bodyPost_ret (v := .tuple #[.int .i64 0, .int .i64 code]) (by simp [results, Try.results25, go_sem]) rfl ?_
    exact ⟨rfl, bcall HB1.out HB1.out.size hb2⟩
  have HK := Lib.hid (Ck.ok_code hc)
  have l1 := HK.out.l1
  have l2 := HK.out.l2
  have HPT := Lib.hid (fun (W : World) => fpoint_any K.len p HWF.out (by omega) l2 W)
  have HDC := Lib.hid (show K.denC p = if pointB K.len p = true then 0 else 2 by unfold Ck.denC; rw [if_pos hc])
  have HDD := Lib.hid (show K.den p = if pointB K.len p = true then gi K.dens (K.at_ p) else 0 by unfold Ck.den; rw [if_pos hc])
  rw [hc] at HC
  clear hc
  go_enter Try.func25, Try.ntmps25
  go_wp2_with fail
  refine (HC.out _ HB0.out).mono ?_
  rintro e w1 ⟨rfl, hb1⟩
  have HB1 := Lib.hid (bcall HB0.out HB0.out.size hb1)
  have hg1 := heap_ext hg hb1
  have hp1 := heap_ext hp0 hb1
  clear cg cp hg hp0 hb1 HC
  have cg := fun j => cell_of_row _ _ j _ _ _ hg1
  have cp := fun j => cell_of_row _ _ j _ _ _ hp1
  have zg := lt_some hg1
  have zp := lt_some hp1
  by_cases hq : pointB K.len p = true
  rotate_left
  · have hq' : pointB K.len p = false := by simpa using hq
    have HE := Lib.hid (show K.den p = 0 ∧ K.denC p = 2 by rw [HDD.out, HDC.out, if_neg hq, if_neg hq]; exact ⟨rfl, rfl⟩)
    rw [hq'] at HPT
    clear hq hq'
    go_wp2_with fail
    refine (HPT.out _).mono ?_
    rintro e w2 ⟨rfl, hb2⟩
    clear cg cp zg zp
    go_wp2_with fail
    refine bodyPost_ret (v := .tuple #[.int .i64 0, .int .i64 2]) (by simp [results, Try.results25, go_sem]) rfl ?_
    exact ⟨by rw [HE.out.1, HE.out.2], bcall HB1.out HB1.out.size hb2⟩
  have HE := Lib.hid (show K.den p = gi K.dens (K.at_ p) ∧ K.denC p = 0 by rw [HDD.out, HDC.out, if_pos hq, if_pos hq]; exact ⟨rfl, rfl⟩)
  have HP := Lib.hid (point_ok hq)
  rw [hq] at HPT
  clear hq HDC HDD
  go_wp2_with fail
  refine (HPT.out _).mono ?_
  rintro e w2 ⟨rfl, hb2⟩
  have HB2 := Lib.hid (bcall HB1.out HB1.out.size hb2)
  have hg2 := heap_ext hg1 hb2
  have hp2 := heap_ext hp1 hb2
  have HG2 := Lib.hid hg2
  have HP2 := Lib.hid hp2
  clear cg cp zg zp hb2 hg1 hp1 HPT
  have cg := fun j => cell_of_row _ _ j _ _ _ hg2
  have zg := lt_some hg2
  have n1 := HK.out.n1
  have n2 := HK.out.n2
  have HME0 := Lib.hid (show K.dens.length - 1 ≤ K.dens.length - 1 from Nat.le_refl _)
  have HCS := Lib.hid (show ((K.dens.length - 1 : Nat) : Int) = (K.dens.length : Int) - 1 by omega)
  have y2 : IntKind.i64.wrap ((K.dens.length : Int) - 1) = (K.dens.length : Int) - 1 := IntWalk.i64_in _ (by omega)
  have y2' : wrap64 ((K.dens.length : Int) - 1) = (K.dens.length : Int) - 1 := IntWalk.wrap64_in _ (by omega)
  go_wp2_with fail
  clear cg zg hg2 hp2 y2 y2' l1 l2
  go_loopw [6] (fun s wr => ∃ i : Nat, i ≤ K.dens.length - 1 ∧ s = .int .i64 i ∧ K.at_ p = densAt K p i ∧ Below w.heap.size w wr ∧ wr.heap[w.heap.size]? = some (cB A c R d K) ∧ wr.heap[w.heap.size + 1]? = some (rB p)) (fun s _ => (intOf s).toNat)
  case atStart => exact ⟨K.dens.length - 1, HME0.out, by rw [HCS.out], rfl, HB2.out, HG2.out, HP2.out⟩
  case round =>
    obtain ⟨i, hi, rfl, hat, hB, hg, hp⟩ := hrel
    have HAT := Lib.hid hat
    have HBr := Lib.hid hB
    have nc := HK.out.nc
    have cb := HK.out.cut_bd (i := i) (by omega)
    obtain ⟨ad, rfl, hb0, hc0⟩ := HH.out.cuts.at_ (show i < K.cuts.length by omega)
    obtain ⟨rd, rfl, hb2, hc2⟩ := HH.out.dens.at_ (show i < K.dens.length by omega)
    have k0 := (hB.cell (p := ad.add i) (by rw [block_add]; exact hb0)).trans hc0
    have k2 := (hB.cell (p := rd.add i) (by rw [block_add]; exact hb2)).trans hc2
    have kb : (ad.add i).block < wr.heap.size := by rw [block_add]; exact Nat.lt_of_lt_of_le hb0 hB.size
    have HF := Lib.hid (fun (W : World) (hW : Below wr.heap.size wr W) => show W.cell? ⟨w.heap.size, 2, none⟩ = some (.slice (some rd) K.dens.length d) ∧ W.cell? (rd.add i) = some (.int .i64 (gi K.dens i)) from ⟨cell_of_row _ _ 2 _ _ _ (heap_ext hg hW), (hW.cell (by rw [block_add]; exact Nat.lt_of_lt_of_le hb2 hB.size)).trans k2⟩)
    have HGr := Lib.hid hg
    have HPr := Lib.hid hp
    have cg := fun j => cell_of_row _ _ j _ _ _ hg
    have cp := fun j => cell_of_row _ _ j _ _ _ hp
    have zg := lt_some hg
    have zp := lt_some hp
    have z2 : (i : Int) < (K.cuts.length : Int) := by omega
    have z3 : (0 : Int) ≤ (i : Int) := by omega
    have z4 : (i : Int) < (K.dens.length : Int) := by omega
    have z5 : i < K.cuts.length := by omega
    have z6 : i < K.dens.length := by omega
    have HKL := Lib.hid (len_ok (n := gi K.cuts i) (by omega) (by omega))
    have HLT := Lib.hid (fun (W : World) => flt_any p ⟨gi K.cuts i, 1⟩ HP.out.1 HKL.out W)
    have HCZ := Lib.hid HK.out.c0
    by_cases i0 : i = 0
    · have HIS := Lib.hid (show K.at_ p = i by rw [hat, i0]; rfl)
      have g1 : decide ((0 : Int) < (i : Int)) = false := by simp [i0]
      have g1n : decide (0 < i) = false := by simp [i0]
      clear nc cb hat hB hg hp hb0 hc0 hb2 hc2 hi i0
      go_wp2_with fail
      refine wp_region_ext (by kernel_rfl) (by kernel_rfl) ?_
      repeat (first | go_big_quiet_step ((first | (go_at_call 73; exact calls_ext (of_any _ _)) | (go_at_call 35; exact calls_ext (HLT.out _)))) | quiet_step ((first | (go_at_call 73; exact calls_ext (of_any _ _)) | (go_at_call 35; exact calls_ext (HLT.out _)))))
      refine wpQuiet_nil ?_
      rintro _ ⟨⟨w4, hb4⟩, rfl⟩
      have HB4 := Lib.hid (bcall HBr.out HBr.out.size hb4)
      obtain ⟨m0, m1⟩ := HF.out _ hb4
      have zg4 := lt_some (heap_ext HGr.out hb4)
      clear hb4 cg cp zg zp k0 k2 kb
      go_wp2_with fail
      refine bodyPost_ret (v := .tuple #[.int .i64 (gi K.dens i), .int .i64 0]) (by simp [results, Try.results25, go_sem]) rfl ?_
      exact ⟨by rw [HE.out.1, HE.out.2, HIS.out], HB4.out⟩
    · obtain ⟨b, hb⟩ : ∃ b, b = ltB p ⟨gi K.cuts i, 1⟩ := ⟨_, rfl⟩
      rw [← hb] at HLT
      have g1 : decide ((0 : Int) < (i : Int)) = true := decide_eq_true (by omega)
      have g1n : decide (0 < i) = true := decide_eq_true (by omega)
      have HDA := Lib.hid (show densAt K p i = if ltB p ⟨gi K.cuts i, 1⟩ = true then densAt K p (i - 1) else i from by
        obtain ⟨j, rfl⟩ : ∃ j, i = j + 1 := ⟨i - 1, by omega⟩
        rfl)
      have HLE := Lib.hid (show i - 1 ≤ K.dens.length - 1 by omega)
      have HCI := Lib.hid (show ((i - 1 : Nat) : Int) = (i : Int) - 1 by omega)
      have HMI := Lib.hid (show ((i - 1 : Nat) : Int).toNat < i from by omega)
      have y1 : IntKind.i64.wrap ((i : Int) - 1) = (i : Int) - 1 := IntWalk.i64_in _ (by omega)
      have y1' : wrap64 ((i : Int) - 1) = (i : Int) - 1 := IntWalk.wrap64_in _ (by omega)
      cases b with
      | true =>
        have HAN := Lib.hid (show K.at_ p = densAt K p (i - 1) by rw [hat, HDA.out, if_pos hb.symm])
        clear nc cb hat hB hg hp hb0 hc0 hb2 hc2 hi hb
        go_wp2_with fail
        refine wp_region_ext (by kernel_rfl) (by kernel_rfl) ?_
        repeat (first | go_big_quiet_step ((first | (go_at_call 73; exact calls_ext (of_any _ _)) | (go_at_call 35; exact calls_ext (HLT.out _)))) | quiet_step ((first | (go_at_call 73; exact calls_ext (of_any _ _)) | (go_at_call 35; exact calls_ext (HLT.out _)))))
        refine wpQuiet_nil ?_
        rintro _ ⟨⟨w4, hb4⟩, rfl⟩
        have HR := Lib.hid (And.intro (bcall HBr.out HBr.out.size hb4) (And.intro (heap_ext HGr.out hb4) (heap_ext HPr.out hb4)))
        clear hb4 cg cp zg zp k0 k2 kb
        go_wp2_with fail
        exact ⟨⟨i - 1, HLE.out, by rw [HCI.out], HAN.out, HR.out⟩, by rw [show intOf (Value.int .i64 ((i : Int) - 1)) = (i : Int) - 1 from rfl, ← HCI.out]; exact HMI.out⟩
      | false =>
        have HIS := Lib.hid (show K.at_ p = i by rw [hat, HDA.out, if_neg (by rw [← hb]; decide)])
        clear nc cb hat hB hg hp hb0 hc0 hb2 hc2 hi hb y1 y1'
        go_wp2_with fail
        refine wp_region_ext (by kernel_rfl) (by kernel_rfl) ?_
        repeat (first | go_big_quiet_step ((first | (go_at_call 73; exact calls_ext (of_any _ _)) | (go_at_call 35; exact calls_ext (HLT.out _)))) | quiet_step ((first | (go_at_call 73; exact calls_ext (of_any _ _)) | (go_at_call 35; exact calls_ext (HLT.out _)))))
        refine wpQuiet_nil ?_
        rintro _ ⟨⟨w4, hb4⟩, rfl⟩
        have HB4 := Lib.hid (bcall HBr.out HBr.out.size hb4)
        obtain ⟨m0, m1⟩ := HF.out _ hb4
        have zg4 := lt_some (heap_ext HGr.out hb4)
        clear hb4 cg cp zg zp k0 k2 kb
        go_wp2_with fail
        refine bodyPost_ret (v := .tuple #[.int .i64 (gi K.dens i), .int .i64 0]) (by simp [results, Try.results25, go_sem]) rfl ?_
        exact ⟨by rw [HE.out.1, HE.out.2, HIS.out], HB4.out⟩
end Go.Proofs.Ytgcbmnohhbcfiaa
