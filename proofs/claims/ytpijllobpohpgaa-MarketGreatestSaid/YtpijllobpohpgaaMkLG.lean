/- MarketGreatest returns true. -/
import Derived.Test.YtpijllobpohpgaaMkEx
import Derived.Test.YtpijllobpohpgaaMa8
namespace Go.Proofs.Ytpijllobpohpgaa
open Go.RowKit Go.Deep
set_option linter.unusedVariables false
set_option linter.unusedSimpArgs false

set_option maxRecDepth 100000 in
set_option maxHeartbeats 16000000 in
theorem greatest_walk (bs : List (List Int)) (A : Option Addr) (c : Nat) (l : List Rt) (D : Option Addr) (e : Nat) (w : World) (h : GIn w.heap.size w A c bs) (hl : QIn w.heap.size w D e l) :
    Calls Try.prog 7 #[gV A c bs, .slice D l.length e] w fun e w' => e = .returned (.bool true) ∧ Below w.heap.size w w' := by
  have hB0 : Bx w [(w.heap.size, gB A c bs)] (w.alloc (gB A c bs)) := (Bx.start w).new rfl _
  have H0 := Lib.hid (fun (W : World) (hW : Below w.heap.size w W) => fmcheck_any bs A c W (h.next hW))
  have H2 := Lib.hid (fun (W : World) (hW : Below w.heap.size w W) => mfind_any bs A c W (h.next hW))
  have H3 := Lib.hid (fun (i : Int) (W : World) (hW : Below w.heap.size w W) => mworthE_any bs A c l D e i W (h.next hW) (hl.next hW))
  have H4 := Lib.hid (fun (h2 : bs.length = 2) (W : World) (hW : Below w.heap.size w W) => fvalid_any bs A c l D e W (h.next hW) h2 (hl.next hW))
  have H5 := Lib.hid (fun (W : World) (hW : Below w.heap.size w W) => fplain_any l D e W (hl.next hW))
  have HG := Lib.hid h
  have HL := Lib.hid hl
  clear h hl
  go_enter Try.func7, Try.ntmps7
  try dsimp only [List.append]
  go_upto_region 1 with fail
  generalize w.alloc (gB A c bs) = w0 at *
  have c_G := fun j => cell_of_row _ _ j _ _ _ (hB0.get 0 rfl)
  have z_G := hB0.lt 0 rfl
  go_wp2_with fail
  refine (malive_any _).mono ?_
  rintro e w1 ⟨rfl, hb⟩
  have hB1 := hB0.next hb
  clear c_G z_G hb hB0
  by_cases hc : mkCode bs = 0
  rotate_left
  · have c_G := fun j => cell_of_row _ _ j _ _ _ (hB1.get 0 rfl)
    have z_G := hB1.lt 0 rfl
    have q : (mkCode bs != 0) = true := bneT hc
    clear hc
    generalize mkCode bs = kc at *
    go_wp2_with fail
    refine (H0.out _ hB1.below).mono ?_
    rintro e w2 ⟨rfl, hb⟩
    have hB2 := hB1.next hb
    clear c_G z_G hb hB1
    have HE := Lib.hid hB2.below
    clear hB2
    go_wp2_with fail
    go_ret
    exact ⟨rfl, HE.out⟩
  have HC := Lib.hid hc
  have q : ((0 : Int) != 0) = false := rfl
  have HF1 := Lib.hid (show findP bs = (mPs (gr bs 0) (gr bs 1) (gr bs 0).length) ∧ findS bs = (mSh (gr bs 0) (gr bs 1) (gr bs 0).length) by unfold findP findS; rw [if_pos hc, if_pos hc]; exact ⟨rfl, rfl⟩)
  rw [hc] at H0 H2
  rw [HF1.out.1, HF1.out.2] at H2
  have H4 := Lib.hid (fun W hW => H4.out (mk_ok hc).1 W hW)
  clear hc
  have c_G := fun j => cell_of_row _ _ j _ _ _ (hB1.get 0 rfl)
  have z_G := hB1.lt 0 rfl
  go_wp2_with fail
  refine (H0.out _ hB1.below).mono ?_
  rintro e w2 ⟨rfl, hb⟩
  have hB2 := hB1.next hb
  clear c_G z_G hb hB1
  have c_G := fun j => cell_of_row _ _ j _ _ _ (hB2.get 0 rfl)
  have z_G := hB2.lt 0 rfl
  go_wp2_with fail
  refine (H4.out _ hB2.below).mono ?_
  rintro e w3 ⟨rfl, hb⟩
  have hB3 := hB2.next hb
  clear c_G z_G hb hB2
  by_cases hv : validB (gr bs 0).length l = true
  rotate_left
  · have hv : validB (gr bs 0).length l = false := by simpa using hv
    rw [hv]
    clear hv
    have HE := Lib.hid hB3.below
    clear hB3
    go_wp2_with fail
    go_ret
    exact ⟨rfl, HE.out⟩
  rw [hv]
  have HV := Lib.hid hv
  clear hv
  have c_G := fun j => cell_of_row _ _ j _ _ _ (hB3.get 0 rfl)
  have z_G := hB3.lt 0 rfl
  go_wp2_with fail
  refine (H5.out _ hB3.below).mono ?_
  rintro e w4 ⟨rfl, hb⟩
  have hB4 := hB3.next hb
  clear c_G z_G hb hB3
  by_cases hv : plainB l = true
  rotate_left
  · have hv : plainB l = false := by simpa using hv
    rw [hv]
    clear hv
    have HE := Lib.hid hB4.below
    clear hB4
    go_wp2_with fail
    go_ret
    exact ⟨rfl, HE.out⟩
  rw [hv]
  have HPL := Lib.hid hv
  clear hv H0 H4 H5 q
  have HLN := Lib.hid (show l.length = (gr bs 0).length ∧ l.length ≤ 10 by have a := (valid_ok HV.out).1; have b := (mk_ok HC.out).2.n10; omega)
  have HB0 := Lib.hid hB4
  clear hB4
  go_wp2_with fail
  go_loopw [6] (fun s wr => ∃ k : Nat, k ≤ l.length ∧ s = .int .i64 k ∧ (∀ j, j < k → (gR l j).d ≤ 1000) ∧ Bx w [(w.heap.size, gB A c bs)] wr) (fun s _ => l.length - (intOf s).toNat)
  case atStart => exact ⟨0, Nat.zero_le _, rfl, fun j hj => by omega, HB0.out⟩
  case round =>
    as_aux_lemma =>
      obtain ⟨k, hk, rfl, hbf, hBr⟩ := hrel
      clear HB0
      by_cases hlt : k < l.length
      rotate_left
      · have HD := Lib.hid (fun g (hg : g < (gr bs 0).length) => hbf g (by have := HLN.out; omega))
        obtain rfl : k = l.length := by omega
        have HGL := Lib.hid (great_law HC.out HV.out HPL.out HD.out)
        have HW0 := Lib.hid (show worthC bs l 0 = 0 from (worthR_ok HC.out HV.out HPL.out (i := 0) (by omega)).1)
        have HW1 := Lib.hid (show worthC bs l 1 = 0 from (worthR_ok HC.out HV.out HPL.out (i := 1) (by omega)).1)
        clear hbf hlt hk HD
        have c_G := fun j => cell_of_row _ _ j _ _ _ (hBr.get 0 rfl)
        have z_G := hBr.lt 0 rfl
        go_wp2_with fail
        refine (H2.out _ hBr.below).mono ?_
        rintro e2 w41 ⟨P, cp, B2, cb, rfl, hP, hS, hb⟩
        have hB41 := hBr.next hb
        have HS2 := Lib.hid (fun (V : World) (hV : Below w41.heap.size w41 V) => hS.next hV)
        have hbw := Below.refl w41.heap.size w41
        clear c_G z_G hb hBr hP hS H2
        have HMS := Lib.hid (fun (i : Nat) (hi : i < 2) (V : World) (hV : Below w41.heap.size w41 V) (hB : Below w.heap.size w V) => show Calls Try.prog 18 #[gV A c bs, .slice B2 (mSh (gr bs 0) (gr bs 1) (gr bs 0).length).length cb, .int .i64 i] V fun e w' => e = .returned (.tuple #[rV (mkR (mU (gr bs 0) (gr bs 1) (gr bs 0).length i)), .int .i64 0]) ∧ Below V.heap.size V w' by
          have k := mworthE_any bs A c (mSh (gr bs 0) (gr bs 1) (gr bs 0).length) B2 cb i V (HG.out.next hB) (HS2.out _ hV)
          rwa [(worth_sh HC.out hi).1, (worth_sh HC.out hi).2] at k)
        have H30 := Lib.hid (fun (V : World) (hB : Below w.heap.size w V) => show Calls Try.prog 18 #[gV A c bs, .slice D l.length e, .int .i64 0] V fun e w' => e = .returned (.tuple #[rV (worthR bs l 0), .int .i64 0]) ∧ Below V.heap.size V w' by
          have k := H3.out 0 V hB
          rwa [HW0.out] at k)
        have H31 := Lib.hid (fun (V : World) (hB : Below w.heap.size w V) => show Calls Try.prog 18 #[gV A c bs, .slice D l.length e, .int .i64 1] V fun e w' => e = .returned (.tuple #[rV (worthR bs l 1), .int .i64 0]) ∧ Below V.heap.size V w' by
          have k := H3.out 1 V hB
          rwa [HW1.out] at k)
        have HMS0 := Lib.hid (fun V hV hB => HMS.out 0 (by omega) V hV hB)
        have HMS1 := Lib.hid (fun V hV hB => HMS.out 1 (by omega) V hV hB)
        have HWF := Lib.hid (show (mkR (mU (gr bs 0) (gr bs 1) (gr bs 0).length 0)).wf ∧ (mkR (mU (gr bs 0) (gr bs 1) (gr bs 0).length 1)).wf ∧ (worthR bs l 0).wf ∧ (worthR bs l 1).wf from ⟨mkR_wf _, mkR_wf _, by rw [show worthR bs l 0 = _ from (worthR_ok HC.out HV.out HPL.out (i := 0) (by omega)).2]; exact mkR_wf _, by rw [show worthR bs l 1 = _ from (worthR_ok HC.out HV.out HPL.out (i := 1) (by omega)).2]; exact mkR_wf _⟩)
        clear HMS H3 HW0 HW1
        generalize mkR (mU (gr bs 0) (gr bs 1) (gr bs 0).length 0) = ra at *
        generalize mkR (mU (gr bs 0) (gr bs 1) (gr bs 0).length 1) = rb at *
        generalize worthR bs l 0 = rc at *
        generalize worthR bs l 1 = rd at *
        have HM1 := Lib.hid (fun (V : World) => show Calls Try.prog 20 #[rV ra, rV rb] V fun e w' => e = .returned (.tuple #[rV (mulR ra rb), .int .i64 0]) ∧ Below V.heap.size V w' by
          have k := fmul_any ra rb HWF.out.1 HWF.out.2.1 V
          rwa [HGL.out.1] at k)
        have HM2 := Lib.hid (fun (V : World) => show Calls Try.prog 20 #[rV rc, rV rd] V fun e w' => e = .returned (.tuple #[rV (mulR rc rd), .int .i64 0]) ∧ Below V.heap.size V w' by
          have k := fmul_any rc rd HWF.out.2.2.1 HWF.out.2.2.2 V
          rwa [HGL.out.2.1] at k)
        have HLS := Lib.hid (fun (V : World) => show Calls Try.prog 22 #[rV (mulR ra rb), rV (mulR rc rd)] V fun e w' => e = .returned (.bool false) ∧ Below V.heap.size V w' by
          have k := flt_any (mulR ra rb) (mulR rc rd) HGL.out.2.2.1 HGL.out.2.2.2.1 V
          rwa [HGL.out.2.2.2.2] at k)
        clear HGL
        generalize mulR ra rb = rx at *
        generalize mulR rc rd = ry at *
        have c_G := fun j => cell_of_row _ _ j _ _ _ (hB41.get 0 rfl)
        have z_G := hB41.lt 0 rfl
        go_wp2_with fail
        refine (HMS0.out _ hbw hB41.below).mono ?_
        rintro e3 w42 ⟨rfl, hb⟩
        have hB42 := hB41.next hb
        have hbw := bcall hbw hbw.size hb
        clear c_G z_G hb hB41
        have hbw := hbw.alloc hbw.size (rB ra)
        go_upto_region 11 with fail
        have hB43 := hB42.new rfl (rB ra)
        clear hB42
        generalize w42.heap.size = gA at *
        generalize w42.alloc _ = w43 at *
        have c_G := fun j => cell_of_row _ _ j _ _ _ (hB43.get 1 rfl)
        have z_G := hB43.lt 1 rfl
        go_wp2_with fail
        refine (HMS1.out _ hbw hB43.below).mono ?_
        rintro e3 w44 ⟨rfl, hb⟩
        have hB44 := hB43.next hb
        have hbw := bcall hbw hbw.size hb
        clear c_G z_G hb hB43
        have hbw := hbw.alloc hbw.size (rB rb)
        go_upto_region 12 with fail
        have hB45 := hB44.new rfl (rB rb)
        clear hB44
        generalize w44.heap.size = gB at *
        generalize w44.alloc _ = w45 at *
        have c_G := fun j => cell_of_row _ _ j _ _ _ (hB45.get 2 rfl)
        have z_G := hB45.lt 2 rfl
        go_wp2_with fail
        refine (H30.out _ hB45.below).mono ?_
        rintro e3 w46 ⟨rfl, hb⟩
        have hB46 := hB45.next hb
        have hbw := bcall hbw hbw.size hb
        clear c_G z_G hb hB45
        have hbw := hbw.alloc hbw.size (rB rc)
        go_upto_region 13 with fail
        have hB47 := hB46.new rfl (rB rc)
        clear hB46
        generalize w46.heap.size = gC at *
        generalize w46.alloc _ = w47 at *
        have c_G := fun j => cell_of_row _ _ j _ _ _ (hB47.get 3 rfl)
        have z_G := hB47.lt 3 rfl
        go_wp2_with fail
        refine (H31.out _ hB47.below).mono ?_
        rintro e3 w48 ⟨rfl, hb⟩
        have hB48 := hB47.next hb
        have hbw := bcall hbw hbw.size hb
        clear c_G z_G hb hB47
        have hbw := hbw.alloc hbw.size (rB rd)
        go_upto_region 14 with fail
        have hB49 := hB48.new rfl (rB rd)
        clear hB48
        generalize w48.heap.size = gD at *
        generalize w48.alloc _ = w49 at *
        have c_b := fun j => cell_of_row _ _ j _ _ _ (hB49.get 2 rfl)
        have z_b := hB49.lt 2 rfl
        have c_a := fun j => cell_of_row _ _ j _ _ _ (hB49.get 3 rfl)
        have z_a := hB49.lt 3 rfl
        have c_G := fun j => cell_of_row _ _ j _ _ _ (hB49.get 4 rfl)
        have z_G := hB49.lt 4 rfl
        go_wp2_with fail
        refine (HM1.out _).mono ?_
        rintro e3 w50 ⟨rfl, hb⟩
        have hB50 := hB49.next hb
        have hbw := bcall hbw hbw.size hb
        clear c_b z_b c_a z_a c_G z_G hb hB49
        have hbw := hbw.alloc hbw.size (rB rx)
        go_upto_region 15 with fail
        have hB51 := hB50.new rfl (rB rx)
        clear hB50
        generalize w50.heap.size = gX at *
        generalize w50.alloc _ = w51 at *
        have c_d := fun j => cell_of_row _ _ j _ _ _ (hB51.get 1 rfl)
        have z_d := hB51.lt 1 rfl
        have c_c := fun j => cell_of_row _ _ j _ _ _ (hB51.get 2 rfl)
        have z_c := hB51.lt 2 rfl
        have c_G := fun j => cell_of_row _ _ j _ _ _ (hB51.get 5 rfl)
        have z_G := hB51.lt 5 rfl
        go_wp2_with fail
        refine (HM2.out _).mono ?_
        rintro e3 w52 ⟨rfl, hb⟩
        have hB52 := hB51.next hb
        have hbw := bcall hbw hbw.size hb
        clear c_d z_d c_c z_c c_G z_G hb hB51
        have hbw := hbw.alloc hbw.size (rB ry)
        go_upto_region 16 with fail
        have hB53 := hB52.new rfl (rB ry)
        clear hB52
        generalize w52.heap.size = gY at *
        generalize w52.alloc _ = w53 at *
        have c_y := fun j => cell_of_row _ _ j _ _ _ (hB53.get 0 rfl)
        have z_y := hB53.lt 0 rfl
        have c_x := fun j => cell_of_row _ _ j _ _ _ (hB53.get 1 rfl)
        have z_x := hB53.lt 1 rfl
        go_wp2_with fail
        refine (HLS.out _).mono ?_
        rintro e w54 ⟨rfl, hb⟩
        have hB54 := hB53.next hb
        clear c_y z_y c_x z_x hb hB53
        have HE := Lib.hid hB54.below
        clear hB54
        go_wp2_with fail
        go_ret
        exact ⟨rfl, HE.out⟩
      have HBF := Lib.hid hbf
      obtain ⟨ad, e1, bb, bc⟩ := (HL.out.next hBr.below).at_ (k := k) hlt
      obtain rfl := e1
      obtain ⟨f0, f1, f2⟩ := cell2 bc hlt
      have f3 : wr.cell? ⟨(ad.add (k * 2)).block, (ad.add (k * 2)).off + 1, none⟩ = some (.int .i64 (gR l k).d) := f1
      have fb : (ad.add (k * 2)).block < wr.heap.size := by rw [block_add]; exact bb
      have z1 : (k : Int) < (l.length : Int) := by omega
      have z3 : (0 : Int) ≤ (k : Int) := by omega
      have HME := Lib.hid (And.intro (Nat.succ_le_of_lt hlt) (Nat.sub_lt_sub_left hlt (Nat.lt_succ_self k)))
      have HNX := Lib.hid (fun (e : (gR l k).d ≤ 1000) => show ∀ j, j < k + 1 → (gR l j).d ≤ 1000 from fun j hj => by
        by_cases q : j = k
        · rw [q]; exact e
        · exact HBF.out j (by omega))
      have HYY := Lib.hid (show IntKind.i64.wrap ((k : Int) + 1) = (k : Int) + 1 ∧ wrap64 ((k : Int) + 1) = (k : Int) + 1 from ⟨IntWalk.i64_in _ (by have := HLN.out; omega), IntWalk.wrap64_in _ (by have := HLN.out; omega)⟩)
      clear hbf bb bc hlt hk HBF
      by_cases hd : 1000 < (gR l k).d
      · have t1 : decide (1000 < (gR l k).d) = true := decide_eq_true hd
        clear hd HYY HNX HME
        have HE := Lib.hid hBr.below
        clear hBr
        go_wp2_with fail
        go_ret
        exact ⟨rfl, HE.out⟩
      have t1 : decide (1000 < (gR l k).d) = false := decide_eq_false hd
      have HNX2 := Lib.hid (HNX.out (by omega))
      obtain ⟨y1, y1'⟩ := HYY.out
      have HZ := Lib.hid hBr
      clear hd HYY HNX hBr
      go_wp2_with fail
      exact ⟨⟨k + 1, HME.out.1, by go_num, HNX2.out, HZ.out⟩, by simpa [intOf] using HME.out.2⟩
end Go.Proofs.Ytpijllobpohpgaa
