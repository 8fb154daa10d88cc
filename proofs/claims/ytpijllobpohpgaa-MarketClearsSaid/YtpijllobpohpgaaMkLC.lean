/- MarketClears returns true. -/
import Derived.Test.YtpijllobpohpgaaMkEx
import Derived.Test.YtpijllobpohpgaaMa8
import Derived.Test.YtpijllobpohpgaaMa6
namespace Go.Proofs.Ytpijllobpohpgaa
open Go.RowKit Go.Deep
set_option linter.unusedVariables false
set_option linter.unusedSimpArgs false

set_option maxRecDepth 100000 in
set_option maxHeartbeats 32000000 in
theorem clears_walk (bs : List (List Int)) (A : Option Addr) (c : Nat) (w : World) (h : GIn w.heap.size w A c bs) :
    Calls Try.prog 3 #[gV A c bs] w fun e w' => e = .returned (.bool true) ∧ Below w.heap.size w w' := by
  have hB0 : Bx w [(w.heap.size, gB A c bs)] (w.alloc (gB A c bs)) := (Bx.start w).new rfl _
  have H0 := Lib.hid (fun (W : World) (hW : Below w.heap.size w W) => fmcheck_any bs A c W (h.next hW))
  have H2 := Lib.hid (fun (W : World) (hW : Below w.heap.size w W) => mfind_any bs A c W (h.next hW))
  have HG := Lib.hid h
  clear h
  go_enter Try.func3, Try.ntmps3
  try dsimp only [List.append]
  go_upto_region 1 with fail
  generalize w.alloc (gB A c bs) = w0 at *
  have c_G := fun j => cell_of_row _ _ j _ _ _ (hB0.get 0 rfl)
  have z_G := hB0.lt 0 rfl
  go_wp2_with fail
  refine (malive_any _).mono ?_
  rintro e w1 ⟨rfl, hb⟩
  have hB1 := hB0.next hb
  clear c_G z_G hb hB0
  by_cases hc : mkCode bs = 0
  rotate_left
  · have c_G := fun j => cell_of_row _ _ j _ _ _ (hB1.get 0 rfl)
    have z_G := hB1.lt 0 rfl
    have q : (mkCode bs != 0) = true := bneT hc
    clear hc
    generalize mkCode bs = kc at *
    go_wp2_with fail
    refine (H0.out _ hB1.below).mono ?_
    rintro e w2 ⟨rfl, hb⟩
    have hB2 := hB1.next hb
    clear c_G z_G hb hB1
    have HE := Lib.hid hB2.below
    clear hB2
    go_wp2_with fail
    go_ret
    exact ⟨rfl, HE.out⟩
  have HC := Lib.hid hc
  have q : ((0 : Int) != 0) = false := rfl
  have HF1 := Lib.hid (show findP bs = (mPs (gr bs 0) (gr bs 1) (gr bs 0).length) ∧ findS bs = (mSh (gr bs 0) (gr bs 1) (gr bs 0).length) by unfold findP findS; rw [if_pos hc, if_pos hc]; exact ⟨rfl, rfl⟩)
  rw [hc] at H0 H2
  rw [HF1.out.1, HF1.out.2] at H2
  clear hc
  have c_G := fun j => cell_of_row _ _ j _ _ _ (hB1.get 0 rfl)
  have z_G := hB1.lt 0 rfl
  go_wp2_with fail
  refine (H0.out _ hB1.below).mono ?_
  rintro e w2 ⟨rfl, hb⟩
  have hB2 := hB1.next hb
  clear c_G z_G hb hB1
  have c_G := fun j => cell_of_row _ _ j _ _ _ (hB2.get 0 rfl)
  have z_G := hB2.lt 0 rfl
  go_wp2_with fail
  refine (H2.out _ hB2.below).mono ?_
  rintro e2 w3 ⟨P, cp, B2, cb, rfl, hP, hS, hb⟩
  have hB3 := hB2.next hb
  have HP2 := Lib.hid (fun (V : World) (hV : Below w3.heap.size w3 V) => hP.next hV)
  have HS2 := Lib.hid (fun (V : World) (hV : Below w3.heap.size w3 V) => hS.next hV)
  have HPW := Lib.hid hP
  have HSW := Lib.hid hS
  have hbw := Below.refl w3.heap.size w3
  clear c_G z_G hb hB2 hP hS H2 H0
  have H22 := Lib.hid (mk_ok HC.out).1
  have HCS := Lib.hid (clears_sum HC.out)
  have HCH := Lib.hid (fun (i : Nat) (hi : i < 2) => clears_half HC.out hi)
  have HCM := Lib.hid (fun (k : Nat) (hk : k < (gr bs 0).length) => clears_mul HC.out hk)
  have HOW := Lib.hid (fun (k : Nat) => clears_own (bs := bs) (k := k))
  have HRB := Lib.hid (fun (i : Nat) (hi : i < 2) => row_bd HC.out hi)
  have HWY := Lib.hid (fun (k : Nat) (hk : k < (gr bs 0).length) (V : World) (hB : Below w.heap.size w V) => show Calls Try.prog 19 #[gV A c bs, .int .i64 k] V fun e w' => e = .returned (.tuple #[.int .i64 (((mOwn (gr bs 0) (gr bs 1) (gr bs 0).length k) : Nat) : Int), rV (mkR (mU (gr bs 0) (gr bs 1) (gr bs 0).length (mOwn (gr bs 0) (gr bs 1) (gr bs 0).length k))), .int .i64 0]) ∧ Below V.heap.size V w' by
    have q := mwhy_any bs A c k V (HG.out.next hB)
    have y := why_ok HC.out hk
    rwa [y.1, y.2.1, y.2.2] at q)
  obtain ⟨ad, R0, c0, R1, c1, xa, ya, rfl, hvl⟩ := HG.out.vals HC.out
  have HVL := Lib.hid (fun (V : World) (hB : Below w.heap.size w V) => hvl.next hB)
  obtain rfl := hvl.e0
  obtain rfl := hvl.e1
  clear hvl
  have HN := Lib.hid (show (gr bs 0).length ≤ 10 from (mk_ok HC.out).2.n10)
  have HLE := Lib.hid (show (mPs (gr bs 0) (gr bs 1) (gr bs 0).length).length = (gr bs 0).length ∧ (mSh (gr bs 0) (gr bs 1) (gr bs 0).length).length = (gr bs 0).length from ⟨ps_len, sh_len⟩)
  have HAC := Lib.hid (fun (V : World) (hV : Below w3.heap.size w3 V) (hB : Below w.heap.size w V) => show Calls Try.prog 13 #[gV (some ad) c bs, .slice P (mPs (gr bs 0) (gr bs 1) (gr bs 0).length).length cp, .slice B2 (mSh (gr bs 0) (gr bs 1) (gr bs 0).length).length cb] V fun e w' => e = .returned (.tuple #[.bool true, .int .i64 0]) ∧ Below V.heap.size V w' by
    have k := maccept_any bs (some ad) c (mPs (gr bs 0) (gr bs 1) (gr bs 0).length) P cp (mSh (gr bs 0) (gr bs 1) (gr bs 0).length) B2 cb V (HG.out.next hB) (HP2.out _ hV) (HS2.out _ hV)
    rwa [clears_acc HC.out, HC.out] at k)
  have HVA := Lib.hid (fun (V : World) (hV : Below w3.heap.size w3 V) (hB : Below w.heap.size w V) => show Calls Try.prog 14 #[gV (some ad) c bs, .slice B2 (mSh (gr bs 0) (gr bs 1) (gr bs 0).length).length cb] V fun e w' => e = .returned (.bool true) ∧ Below V.heap.size V w' by
    have k := fvalid_any bs (some ad) c (mSh (gr bs 0) (gr bs 1) (gr bs 0).length) B2 cb V (HG.out.next hB) H22.out (HS2.out _ hV)
    rwa [(mk_ok HC.out).2.sh_valid] at k)
  have HPL := Lib.hid (fun (V : World) (hV : Below w3.heap.size w3 V) => show Calls Try.prog 15 #[.slice B2 (mSh (gr bs 0) (gr bs 1) (gr bs 0).length).length cb] V fun e w' => e = .returned (.bool true) ∧ Below V.heap.size V w' by
    have k := fplain_any (mSh (gr bs 0) (gr bs 1) (gr bs 0).length) B2 cb V (HS2.out _ hV)
    rwa [(mk_ok HC.out).2.sh_plain] at k)
  have HSU := Lib.hid (fun (V : World) (hV : Below w3.heap.size w3 V) => show Calls Try.prog 16 #[.slice P (mPs (gr bs 0) (gr bs 1) (gr bs 0).length).length cp] V fun e w' => e = .returned (.tuple #[rV ⟨2, 1⟩, .int .i64 0]) ∧ Below V.heap.size V w' by
    have k := fsum_ok (mPs (gr bs 0) (gr bs 1) (gr bs 0).length) P cp V (HP2.out _ hV) HCS.out.1 (by have := HLE.out; have := HN.out; omega) HCS.out.2.1
    rwa [HCS.out.2.2] at k)
  have HWO := Lib.hid (fun (i : Nat) (hi : i < 2) (V : World) (hV : Below w3.heap.size w3 V) (hB : Below w.heap.size w V) => show Calls Try.prog 18 #[gV (some ad) c bs, .slice B2 (mSh (gr bs 0) (gr bs 1) (gr bs 0).length).length cb, .int .i64 i] V fun e w' => e = .returned (.tuple #[rV (mkR (mU (gr bs 0) (gr bs 1) (gr bs 0).length i)), .int .i64 0]) ∧ Below V.heap.size V w' by
    have k := mworthE_any bs (some ad) c (mSh (gr bs 0) (gr bs 1) (gr bs 0).length) B2 cb i V (HG.out.next hB) (HS2.out _ hV)
    rwa [(worth_sh HC.out hi).1, (worth_sh HC.out hi).2] at k)
  have e10 : (((mPs (gr bs 0) (gr bs 1) (gr bs 0).length).length : Int) != ((mSh (gr bs 0) (gr bs 1) (gr bs 0).length).length : Int)) = false := by rw [HLE.out.1, HLE.out.2]; simp
  have e11 : ((mPs (gr bs 0) (gr bs 1) (gr bs 0).length).length != (mSh (gr bs 0) (gr bs 1) (gr bs 0).length).length) = false := by rw [HLE.out.1, HLE.out.2]; simp
  clear HCS HG
  have c_G := fun j => cell_of_row _ _ j _ _ _ (hB3.get 0 rfl)
  have z_G := hB3.lt 0 rfl
  go_wp2_with fail
  refine (HAC.out _ hbw hB3.below).mono ?_
  rintro e w4 ⟨rfl, hb⟩
  have hB4 := hB3.next hb
  have hbw := bcall hbw hbw.size hb
  clear c_G z_G hb hB3
  have c_G := fun j => cell_of_row _ _ j _ _ _ (hB4.get 0 rfl)
  have z_G := hB4.lt 0 rfl
  go_wp2_with fail
  refine (HVA.out _ hbw hB4.below).mono ?_
  rintro e w5 ⟨rfl, hb⟩
  have hB5 := hB4.next hb
  have hbw := bcall hbw hbw.size hb
  clear c_G z_G hb hB4
  go_wp2_with fail
  refine (HPL.out _ hbw).mono ?_
  rintro e w6 ⟨rfl, hb⟩
  have hB6 := hB5.next hb
  have hbw := bcall hbw hbw.size hb
  clear hb hB5
  go_wp2_with fail
  refine (HSU.out _ hbw).mono ?_
  rintro e w7 ⟨rfl, hb⟩
  have hB7 := hB6.next hb
  have hbw := bcall hbw hbw.size hb
  clear hb hB6
  have hbw := hbw.alloc hbw.size (rB ⟨2, 1⟩)
  clear HAC HVA HPL HSU
  go_upto_region 9 with fail
  have hB8 := hB7.new rfl (rB ⟨2, 1⟩)
  clear hB7
  generalize w7.heap.size = gS at *
  generalize w7.alloc _ = w8 at *
  have c_S := fun j => cell_of_row _ _ j _ _ _ (hB8.get 0 rfl)
  have z_S := hB8.lt 0 rfl
  refine wp_region_ext (by kernel_rfl) (by kernel_rfl) ?_
  repeat (first | go_big_quiet_step ((go_at_call 17; exact calls_ext (lof_any _ _ _))) | quiet_step ((go_at_call 17; exact calls_ext (lof_any _ _ _))))
  refine wpQuiet_nil ?_
  rintro w9 ⟨⟨_, hb⟩, rfl⟩
  have hB9 := hB8.next hb
  have hbw := bcall hbw hbw.size hb
  clear c_S z_S hb hB8 e10 e11
  have HB1 := Lib.hid (show Bx w [(w.heap.size, gB (some ad) c bs)] w9 from hB9.drop)
  have HBW := Lib.hid hbw
  clear hB9 hbw
  go_wp2_with fail
  go_loopw [11] (fun s wr => ∃ i : Nat, i ≤ 2 ∧ s = .int .i64 i ∧ Bx w [(w.heap.size, gB (some ad) c bs)] wr ∧ Below w3.heap.size w3 wr) (fun s _ => 2 - (intOf s).toNat)
  case atStart => exact ⟨0, by omega, rfl, HB1.out, HBW.out⟩
  case round =>
    as_aux_lemma =>
      obtain ⟨i, hi, rfl, hBr, hbw⟩ := hrel
      clear HB1 HBW
      rcases (show i = 2 ∨ i = 0 ∨ i = 1 by omega) with rfl | rfl | rfl
      · have HB1 := Lib.hid hBr
        have HBW := Lib.hid hbw
        clear hBr hbw hi HWO HCH
        go_wp2_with fail
        go_loopw [16] (fun s wr => ∃ k : Nat, k ≤ (gr bs 0).length ∧ s = .int .i64 k ∧ Bx w [(w.heap.size, gB (some ad) c bs)] wr ∧ Below w3.heap.size w3 wr) (fun s _ => (gr bs 0).length - (intOf s).toNat)
        case atStart => exact ⟨0, Nat.zero_le _, rfl, HB1.out, HBW.out⟩
        case round =>
          as_aux_lemma =>
            obtain ⟨k, hk, rfl, hBr, hbw⟩ := hrel
            clear HB1 HBW
            by_cases hlt : k < (gr bs 0).length
            rotate_left
            · obtain rfl : k = (gr bs 0).length := by omega
              have q : decide (((gr bs 0).length : Int) < ((mSh (gr bs 0) (gr bs 1) (gr bs 0).length).length : Int)) = false := decide_eq_false (by have := HLE.out; omega)
              have q2 : decide ((gr bs 0).length < (mSh (gr bs 0) (gr bs 1) (gr bs 0).length).length) = false := decide_eq_false (by have := HLE.out; omega)
              have HE := Lib.hid hBr.below
              clear hbw hBr hlt hk
              go_wp2_with fail
              go_ret
              exact ⟨rfl, HE.out⟩
            obtain ⟨pd, e1, bb, bc⟩ := HPW.out.at_ (k := k) (by rw [HLE.out.1]; exact hlt)
            obtain rfl := e1
            obtain ⟨sd, e2, kb, kc⟩ := HSW.out.at_ (k := k) (by rw [HLE.out.2]; exact hlt)
            obtain rfl := e2
            have HPF := Lib.hid (fun (V : World) (hV : Below w3.heap.size w3 V) => cell2 (bc.below bb hV) (show k < (mPs (gr bs 0) (gr bs 1) (gr bs 0).length).length by rw [HLE.out.1]; exact hlt))
            have HPB := Lib.hid (fun (V : World) (hV : Below w3.heap.size w3 V) => show (pd.add (k * 2)).block < V.heap.size by rw [block_add]; exact Nat.lt_of_lt_of_le bb hV.size)
            have HSF := Lib.hid (fun (V : World) (hV : Below w3.heap.size w3 V) => cell2 (kc.below kb hV) (show k < (mSh (gr bs 0) (gr bs 1) (gr bs 0).length).length by rw [HLE.out.2]; exact hlt))
            have q : decide ((k : Int) < ((mSh (gr bs 0) (gr bs 1) (gr bs 0).length).length : Int)) = true := decide_eq_true (by have := HLE.out; omega)
            have z1 : (k : Int) < ((mSh (gr bs 0) (gr bs 1) (gr bs 0).length).length : Int) := by have := HLE.out; omega
            have z2 : (k : Int) < ((mPs (gr bs 0) (gr bs 1) (gr bs 0).length).length : Int) := by have := HLE.out; omega
            have z3 : (0 : Int) ≤ (k : Int) := by omega
            have HME := Lib.hid (And.intro (Nat.succ_le_of_lt hlt) (Nat.sub_lt_sub_left hlt (Nat.lt_succ_self k)))
            have HKL := Lib.hid hlt
            have HYY := Lib.hid (show IntKind.i64.wrap ((k : Int) + 1) = (k : Int) + 1 ∧ wrap64 ((k : Int) + 1) = (k : Int) + 1 from ⟨IntWalk.i64_in _ (by have := HN.out; omega), IntWalk.wrap64_in _ (by have := HN.out; omega)⟩)
            have HWK := Lib.hid (fun V hB => HWY.out k hlt V hB)
            have HM := Lib.hid (HCM.out k hlt)
            have how := HOW.out k
            clear bb bc kb kc hlt hk HWY HCM HOW HPW HSW HP2 HS2
            generalize hps : gR (mPs (gr bs 0) (gr bs 1) (gr bs 0).length) k = pv at *
            have HPV := Lib.hid (show pv.Ok by rw [← hps]; exact (clears_sum HC.out).1 k (by rw [HLE.out.1]; exact HKL.out))
            clear hps
            generalize gR (mSh (gr bs 0) (gr bs 1) (gr bs 0).length) k = sv at *
            generalize hu : mU (gr bs 0) (gr bs 1) (gr bs 0).length (mOwn (gr bs 0) (gr bs 1) (gr bs 0).length k) = uv at *
            have HUW := Lib.hid (mkR_wf uv)
            clear hu
            generalize mkR uv = ur at *
            clear uv
            have hlt2 : (mOwn (gr bs 0) (gr bs 1) (gr bs 0).length k) < 2 := by omega
            have HRK := Lib.hid (show k < (gr bs (mOwn (gr bs 0) (gr bs 1) (gr bs 0).length k)).length by rw [(HRB.out _ hlt2).1]; exact HKL.out)
            clear hlt2
            generalize (mOwn (gr bs 0) (gr bs 1) (gr bs 0).length k) = ow at *
            rcases how with ⟨rfl, hn⟩ | ⟨rfl, hn⟩
            · have p1 : (sv.n == 0) = false := beqF (by omega)
              have p2 : decide (0 < sv.n) = true := decide_eq_true hn
              have HMU := Lib.hid (fun (V : World) => show Calls Try.prog 20 #[rV pv, rV ur] V fun e w' => e = .returned (.tuple #[rV ⟨gi (gr bs 0) k, 1⟩, .int .i64 0]) ∧ Below V.heap.size V w' by
                have q := fmul_any pv ur HPV.out.wf HUW.out V
                rwa [HM.out.1, HM.out.2] at q)
              have z4 : (k : Int) < ((gr bs 0).length : Int) := by have := HRK.out; omega
              have z5 : (0 : Int) < (bs.length : Int) := by rw [H22.out]; decide
              clear hn HM
              have c_G := fun j => cell_of_row _ _ j _ _ _ (hBr.get 0 rfl)
              have z_G := hBr.lt 0 rfl
              go_wp2_with fail
              refine (HWK.out _ hBr.below).mono ?_
              rintro e w71 ⟨rfl, hb⟩
              have hB71 := hBr.next hb
              have hbw := bcall hbw hbw.size hb
              clear c_G z_G hb hBr HWK
              have hbw := hbw.alloc hbw.size (rB ur)
              go_upto_region 26 with fail
              have hB72 := hB71.new rfl (rB ur)
              clear hB71
              generalize w71.heap.size = gU at *
              generalize w71.alloc _ = w72 at *
              have c_u := fun j => cell_of_row _ _ j _ _ _ (hB72.get 0 rfl)
              have z_u := hB72.lt 0 rfl
              have f0 := (HSF.out _ hbw).1
              have f1 := (HSF.out _ hbw).2.1
              have f2 := (HSF.out _ hbw).2.2
              have HBX := Lib.hid hbw
              go_upto_region 28 with fail
              clear f0 f1 f2
              clear c_u z_u
              have HBK := Lib.hid hB72
              clear hB72 hbw p1 p2
              have hMb := Mx.of_bx (Bx.start w72)
              have HU := Lib.hid (HBK.out.get 0 rfl)
              have HGC := Lib.hid (HBK.out.get 1 rfl)
              have HVK := Lib.hid (HVL.out _ HBK.out.below)
              refine wp_region_R (Bx w72 []) 12 (by kernel_rfl) (by rfl) ((hMb.keep (List.nil_sublist _)).drew) (fun wq1 hbq => ?_)
              have hB91 := hMb.next hbq
              clear hMb hbq
              refine wpAnyE_goR (Bx.grows _ _) (hB91.keep (List.nil_sublist _)) [0, 1, 2, 3, 4, 5, 6, 7, 8] 3 (by kernel_rfl) ?_
              apply Exists.intro
              refine ⟨fun G hG hN => ?_, ?_⟩
              · have c_u := fun (e : GE (Bx w72 []) G) j => cell_of_row e.w _ j _ _ _ (heap_ext HU.out (GE.h e).below)
                have z_u := fun (e : GE (Bx w72 []) G) => lt_some (heap_ext HU.out (GE.h e).below)
                have p0 := fun (e : GE (Bx w72 []) G) => (HPF.out e.w (bcall HBX.out HBX.out.size (GE.h e).below)).1
                have p1 := fun (e : GE (Bx w72 []) G) => (HPF.out e.w (bcall HBX.out HBX.out.size (GE.h e).below)).2.1
                have p2 := fun (e : GE (Bx w72 []) G) => show e.w.cell? ⟨(pd.add (k * 2)).block, (pd.add (k * 2)).off + 1, none⟩ = some (.int .i64 pv.d) from (HPF.out e.w (bcall HBX.out HBX.out.size (GE.h e).below)).2.1
                have pb := fun (e : GE (Bx w72 []) G) => (HPB.out e.w (bcall HBX.out HBX.out.size (GE.h e).below))
                simp only [pickOps, List.getElem?_toArray, List.getElem?_cons_zero, List.getElem?_cons_succ]
                repeat (first | go_big_quiet_step ((first | (go_at_call 20; exact calls_ge (Bx.grows _ _) hG (HMU.out _)))) | quiet_step ((first | (go_at_call 20; exact calls_ge (Bx.grows _ _) hG (HMU.out _)))))
                exact wpQuiet_nil rfl
              refine wpAnyE_all (rs := [9]) (by kernel_rfl) (by simp) (fun wa2 hwa2 hRwa2 i hi => ?_)
              have hB92 := hB91.next hwa2
              clear hB91 hwa2 hRwa2
              obtain rfl := List.mem_singleton.1 hi
              refine wpOp_step rfl (fun Kc hKc => ?_)
              go_simp
              have hB93 := hB92.new (g := wa2.heap.size) rfl (rB ⟨0, 0⟩)
              refine hKc _ _ ⟨(hB93.keep (List.nil_sublist _)), ?_⟩
              clear hKc Kc hB92
              generalize wa2.heap.size = gX at *
              generalize wa2.alloc _ = wb3 at *
              refine wpAnyE_all (rs := [10]) (by kernel_rfl) (by simp) (fun wa4 hwa4 hRwa4 i hi => ?_)
              have hB94 := hB93.next hwa4
              clear hB93 hwa4 hRwa4
              obtain rfl := List.mem_singleton.1 hi
              refine wpOp_step rfl (fun Kc hKc => ?_)
              have c_x := fun j => cell_of_row _ _ j _ _ _ (hB94.get 0 rfl)
              have z_x := hB94.lt 0 rfl
              have f_x := fun j => frozen_of_row _ _ j _ _ (hB94.get 0 rfl)
              go_simp
              have hB95 := hB94.put 0 rfl (⟨gi (gr bs 0) k, 1⟩)
              refine hKc _ _ ⟨(hB95.keep (List.nil_sublist _)), ?_⟩
              clear c_x z_x f_x hKc Kc hB94
              generalize (wa4.setCell _ _).setCell _ _ = wb5 at *
              refine wpAnyE_goR (Bx.grows _ _) (hB95.keep (List.nil_sublist _)) [11] 0 (by kernel_rfl) ?_
              apply Exists.intro
              refine ⟨fun G hG hN => ?_, ?_⟩
              · have c_u := fun (e : GE (Bx w72 []) G) j => cell_of_row e.w _ j _ _ _ (heap_ext HU.out (GE.h e).below)
                have z_u := fun (e : GE (Bx w72 []) G) => lt_some (heap_ext HU.out (GE.h e).below)
                have p0 := fun (e : GE (Bx w72 []) G) => (HPF.out e.w (bcall HBX.out HBX.out.size (GE.h e).below)).1
                have p1 := fun (e : GE (Bx w72 []) G) => (HPF.out e.w (bcall HBX.out HBX.out.size (GE.h e).below)).2.1
                have p2 := fun (e : GE (Bx w72 []) G) => show e.w.cell? ⟨(pd.add (k * 2)).block, (pd.add (k * 2)).off + 1, none⟩ = some (.int .i64 pv.d) from (HPF.out e.w (bcall HBX.out HBX.out.size (GE.h e).below)).2.1
                have pb := fun (e : GE (Bx w72 []) G) => (HPB.out e.w (bcall HBX.out HBX.out.size (GE.h e).below))
                simp only [pickOps, List.getElem?_toArray, List.getElem?_cons_zero, List.getElem?_cons_succ]
                repeat (first | go_big_quiet_step ((first | (go_at_call 20; exact calls_ge (Bx.grows _ _) hG (HMU.out _)))) | quiet_step ((first | (go_at_call 20; exact calls_ge (Bx.grows _ _) hG (HMU.out _)))))
                exact wpQuiet_nil rfl
              refine wpAnyE_done (by kernel_rfl) (fun wd6 hwd6 hRwd6 => ?_) _
              refine NoPanic.normal ?_
              have hB96 := hB95.next hwd6
              clear hB95 hwd6 hRwd6
              have c_x := fun j => cell_of_row _ _ j _ _ _ (hB96.get 0 rfl)
              have z_x := hB96.lt 0 rfl
              have t1 : (gi (gr bs 0) k == gi (gr bs 0) k) = true := by simp
              have HVQ := HVK.out.next hB96.below
              have t_r := HVQ.two.r0
              have t_b := HVQ.two.bl
              have t_v := (HVQ.r0 k HRK.out).1
              have t_w := (HVQ.r0 k HRK.out).2
              have c_G := fun j => cell_of_row _ _ j _ _ _ (heap_ext HGC.out hB96.below)
              have z_G := lt_some (heap_ext HGC.out hB96.below)
              clear HVQ
              go_upto_region 29 with fail
              refine wp_region_ext (by kernel_rfl) (by kernel_rfl) ?_
              repeat (first | go_big_quiet_step ((go_at_call 17; exact calls_ext (lof_any _ _ _))) | quiet_step ((go_at_call 17; exact calls_ext (lof_any _ _ _))))
              refine wpQuiet_nil ?_
              rintro _ ⟨⟨wz, hbz⟩, rfl⟩
              have hbt := bcall hB96.below hB96.below.size hbz
              have HZ := Lib.hid ((HBK.out.next hbt).drop)
              have HZB := Lib.hid (bcall HBX.out HBX.out.size hbt)
              have y1 := HYY.out.1
              have y2 := HYY.out.2
              clear c_x z_x hbt hbz hB96 t_r t_b t_v t_w c_G z_G
              go_wp2_with fail
              refine ⟨?_, by simpa [intOf] using HME.out.2⟩
              repeat apply Exists.intro
              refine ⟨⟨k + 1, HME.out.1, by go_num, HZ.out, HZB.out⟩, rfl⟩
            · have p1 : (sv.n == 0) = (sv.n == 0) := rfl
              have p2 : decide (0 < sv.n) = false := decide_eq_false (by omega)
              have HMU := Lib.hid (fun (V : World) => show Calls Try.prog 20 #[rV pv, rV ur] V fun e w' => e = .returned (.tuple #[rV ⟨gi (gr bs 1) k, 1⟩, .int .i64 0]) ∧ Below V.heap.size V w' by
                have q := fmul_any pv ur HPV.out.wf HUW.out V
                rwa [HM.out.1, HM.out.2] at q)
              have z4 : (k : Int) < ((gr bs 1).length : Int) := by have := HRK.out; omega
              have z5 : (1 : Int) < (bs.length : Int) := by rw [H22.out]; decide
              clear hn HM
              have c_G := fun j => cell_of_row _ _ j _ _ _ (hBr.get 0 rfl)
              have z_G := hBr.lt 0 rfl
              go_wp2_with fail
              refine (HWK.out _ hBr.below).mono ?_
              rintro e w71 ⟨rfl, hb⟩
              have hB71 := hBr.next hb
              have hbw := bcall hbw hbw.size hb
              clear c_G z_G hb hBr HWK
              have hbw := hbw.alloc hbw.size (rB ur)
              go_upto_region 26 with fail
              have hB72 := hB71.new rfl (rB ur)
              clear hB71
              generalize w71.heap.size = gU at *
              generalize w71.alloc _ = w72 at *
              have c_u := fun j => cell_of_row _ _ j _ _ _ (hB72.get 0 rfl)
              have z_u := hB72.lt 0 rfl
              have f0 := (HSF.out _ hbw).1
              have f1 := (HSF.out _ hbw).2.1
              have f2 := (HSF.out _ hbw).2.2
              have HBX := Lib.hid hbw
              go_upto_region 28 with fail
              clear f0 f1 f2
              clear c_u z_u
              have HBK := Lib.hid hB72
              clear hB72 hbw p1 p2
              have hMb := Mx.of_bx (Bx.start w72)
              have HU := Lib.hid (HBK.out.get 0 rfl)
              have HGC := Lib.hid (HBK.out.get 1 rfl)
              have HVK := Lib.hid (HVL.out _ HBK.out.below)
              refine wp_region_R (Bx w72 []) 12 (by kernel_rfl) (by rfl) ((hMb.keep (List.nil_sublist _)).drew) (fun wq7 hbq => ?_)
              have hB111 := hMb.next hbq
              clear hMb hbq
              refine wpAnyE_goR (Bx.grows _ _) (hB111.keep (List.nil_sublist _)) [0, 1, 2, 3, 4, 5, 6, 7, 8] 3 (by kernel_rfl) ?_
              apply Exists.intro
              refine ⟨fun G hG hN => ?_, ?_⟩
              · have c_u := fun (e : GE (Bx w72 []) G) j => cell_of_row e.w _ j _ _ _ (heap_ext HU.out (GE.h e).below)
                have z_u := fun (e : GE (Bx w72 []) G) => lt_some (heap_ext HU.out (GE.h e).below)
                have p0 := fun (e : GE (Bx w72 []) G) => (HPF.out e.w (bcall HBX.out HBX.out.size (GE.h e).below)).1
                have p1 := fun (e : GE (Bx w72 []) G) => (HPF.out e.w (bcall HBX.out HBX.out.size (GE.h e).below)).2.1
                have p2 := fun (e : GE (Bx w72 []) G) => show e.w.cell? ⟨(pd.add (k * 2)).block, (pd.add (k * 2)).off + 1, none⟩ = some (.int .i64 pv.d) from (HPF.out e.w (bcall HBX.out HBX.out.size (GE.h e).below)).2.1
                have pb := fun (e : GE (Bx w72 []) G) => (HPB.out e.w (bcall HBX.out HBX.out.size (GE.h e).below))
                simp only [pickOps, List.getElem?_toArray, List.getElem?_cons_zero, List.getElem?_cons_succ]
                repeat (first | go_big_quiet_step ((first | (go_at_call 20; exact calls_ge (Bx.grows _ _) hG (HMU.out _)))) | quiet_step ((first | (go_at_call 20; exact calls_ge (Bx.grows _ _) hG (HMU.out _)))))
                exact wpQuiet_nil rfl
              refine wpAnyE_all (rs := [9]) (by kernel_rfl) (by simp) (fun wa8 hwa8 hRwa8 i hi => ?_)
              have hB112 := hB111.next hwa8
              clear hB111 hwa8 hRwa8
              obtain rfl := List.mem_singleton.1 hi
              refine wpOp_step rfl (fun Kc hKc => ?_)
              go_simp
              have hB113 := hB112.new (g := wa8.heap.size) rfl (rB ⟨0, 0⟩)
              refine hKc _ _ ⟨(hB113.keep (List.nil_sublist _)), ?_⟩
              clear hKc Kc hB112
              generalize wa8.heap.size = gX at *
              generalize wa8.alloc _ = wb9 at *
              refine wpAnyE_all (rs := [10]) (by kernel_rfl) (by simp) (fun wa10 hwa10 hRwa10 i hi => ?_)
              have hB114 := hB113.next hwa10
              clear hB113 hwa10 hRwa10
              obtain rfl := List.mem_singleton.1 hi
              refine wpOp_step rfl (fun Kc hKc => ?_)
              have c_x := fun j => cell_of_row _ _ j _ _ _ (hB114.get 0 rfl)
              have z_x := hB114.lt 0 rfl
              have f_x := fun j => frozen_of_row _ _ j _ _ (hB114.get 0 rfl)
              go_simp
              have hB115 := hB114.put 0 rfl (⟨gi (gr bs 1) k, 1⟩)
              refine hKc _ _ ⟨(hB115.keep (List.nil_sublist _)), ?_⟩
              clear c_x z_x f_x hKc Kc hB114
              generalize (wa10.setCell _ _).setCell _ _ = wb11 at *
              refine wpAnyE_goR (Bx.grows _ _) (hB115.keep (List.nil_sublist _)) [11] 0 (by kernel_rfl) ?_
              apply Exists.intro
              refine ⟨fun G hG hN => ?_, ?_⟩
              · have c_u := fun (e : GE (Bx w72 []) G) j => cell_of_row e.w _ j _ _ _ (heap_ext HU.out (GE.h e).below)
                have z_u := fun (e : GE (Bx w72 []) G) => lt_some (heap_ext HU.out (GE.h e).below)
                have p0 := fun (e : GE (Bx w72 []) G) => (HPF.out e.w (bcall HBX.out HBX.out.size (GE.h e).below)).1
                have p1 := fun (e : GE (Bx w72 []) G) => (HPF.out e.w (bcall HBX.out HBX.out.size (GE.h e).below)).2.1
                have p2 := fun (e : GE (Bx w72 []) G) => show e.w.cell? ⟨(pd.add (k * 2)).block, (pd.add (k * 2)).off + 1, none⟩ = some (.int .i64 pv.d) from (HPF.out e.w (bcall HBX.out HBX.out.size (GE.h e).below)).2.1
                have pb := fun (e : GE (Bx w72 []) G) => (HPB.out e.w (bcall HBX.out HBX.out.size (GE.h e).below))
                simp only [pickOps, List.getElem?_toArray, List.getElem?_cons_zero, List.getElem?_cons_succ]
                repeat (first | go_big_quiet_step ((first | (go_at_call 20; exact calls_ge (Bx.grows _ _) hG (HMU.out _)))) | quiet_step ((first | (go_at_call 20; exact calls_ge (Bx.grows _ _) hG (HMU.out _)))))
                exact wpQuiet_nil rfl
              refine wpAnyE_done (by kernel_rfl) (fun wd12 hwd12 hRwd12 => ?_) _
              refine NoPanic.normal ?_
              have hB116 := hB115.next hwd12
              clear hB115 hwd12 hRwd12
              have c_x := fun j => cell_of_row _ _ j _ _ _ (hB116.get 0 rfl)
              have z_x := hB116.lt 0 rfl
              have t1 : (gi (gr bs 1) k == gi (gr bs 1) k) = true := by simp
              have HVQ := HVK.out.next hB116.below
              have t_r := HVQ.two.r1
              have t_b := HVQ.two.bl
              have t_v := (HVQ.r1 k HRK.out).1
              have t_w := (HVQ.r1 k HRK.out).2
              have c_G := fun j => cell_of_row _ _ j _ _ _ (heap_ext HGC.out hB116.below)
              have z_G := lt_some (heap_ext HGC.out hB116.below)
              clear HVQ
              go_upto_region 29 with fail
              refine wp_region_ext (by kernel_rfl) (by kernel_rfl) ?_
              repeat (first | go_big_quiet_step ((go_at_call 17; exact calls_ext (lof_any _ _ _))) | quiet_step ((go_at_call 17; exact calls_ext (lof_any _ _ _))))
              refine wpQuiet_nil ?_
              rintro _ ⟨⟨wz, hbz⟩, rfl⟩
              have hbt := bcall hB116.below hB116.below.size hbz
              have HZ := Lib.hid ((HBK.out.next hbt).drop)
              have HZB := Lib.hid (bcall HBX.out HBX.out.size hbt)
              have y1 := HYY.out.1
              have y2 := HYY.out.2
              clear c_x z_x hbt hbz hB116 t_r t_b t_v t_w c_G z_G
              go_wp2_with fail
              refine ⟨?_, by simpa [intOf] using HME.out.2⟩
              repeat apply Exists.intro
              refine ⟨⟨k + 1, HME.out.1, by go_num, HZ.out, HZB.out⟩, rfl⟩
      · have HBT := Lib.hid hBr
        have HBU := Lib.hid hbw
        have HVW := Lib.hid (HVL.out _ hBr.below)
        have HH := Lib.hid (HCH.out 0 (by omega))
        have HWK := Lib.hid (fun V hV hB => HWO.out 0 (by omega) V hV hB)
        have HRT := Lib.hid (HRB.out 0 (by omega))
        have z5 : (0 : Int) < (bs.length : Int) := by rw [H22.out]; decide
        clear hBr hbw hi HCH HWO HRB
        go_wp2_with fail
        go_loopw [12, 13] (fun a s wq => ∃ k : Nat, k ≤ (gr bs 0).length ∧ a = .int .i64 (sumTo (gi (gr bs 0)) k) ∧ s = .int .i64 k ∧ wq = wr) (fun _ s _ => (gr bs 0).length - (intOf s).toNat)
        case atStart => exact ⟨0, Nat.zero_le _, rfl, rfl, rfl⟩
        case round =>
          skip
          obtain ⟨k, hk, rfl, rfl, rfl⟩ := hrel
          have hBr := HBT.out
          clear HBT
          by_cases hlt : k < (gr bs 0).length
          rotate_left
          · obtain rfl : k = (gr bs 0).length := by omega
            have q : decide (((gr bs 0).length : Int) < ((mSh (gr bs 0) (gr bs 1) (gr bs 0).length).length : Int)) = false := decide_eq_false (by have := HLE.out; omega)
            have q2 : decide ((gr bs 0).length < (mSh (gr bs 0) (gr bs 1) (gr bs 0).length).length) = false := decide_eq_false (by have := HLE.out; omega)
            clear hlt hk
            generalize hal : sumTo (gi (gr bs 0)) (gr bs 0).length = al at *
            generalize mkR (mU (gr bs 0) (gr bs 1) (gr bs 0).length 0) = xr at *
            clear hal
            have hbw := HBU.out
            clear HBU
            have c_G := fun j => cell_of_row _ _ j _ _ _ (hBr.get 0 rfl)
            have z_G := hBr.lt 0 rfl
            go_wp2_with fail
            refine (HWK.out _ hbw hBr.below).mono ?_
            rintro e w141 ⟨rfl, hb⟩
            have hB141 := hBr.next hb
            have hbw := bcall hbw hbw.size hb
            clear c_G z_G hb hBr HWK q q2
            have hbw := hbw.alloc hbw.size (rB xr)
            go_upto_region 20 with fail
            have hB142 := hB141.new rfl (rB xr)
            clear hB141
            generalize w141.heap.size = gX at *
            generalize w141.alloc _ = w142 at *
            have c_x := fun j => cell_of_row _ _ j _ _ _ (hB142.get 0 rfl)
            have z_x := hB142.lt 0 rfl
            have ww : 0 ≤ al * xr.d ∧ al * xr.d ≤ 10000 * 10000 := by have := HH.out; exact prod_le (p := 10000) (q := 10000) (by omega) (by omega) (by omega) (by omega)
            have HYW := Lib.hid (show (wrap64 (2 * xr.n) = 2 * xr.n ∧ IntKind.i64.wrap (2 * xr.n) = 2 * xr.n) ∧ (wrap64 (al * xr.d) = al * xr.d ∧ IntKind.i64.wrap (al * xr.d) = al * xr.d) by
              have := HH.out
              exact ⟨⟨IntWalk.wrap64_in _ (by omega), IntWalk.i64_in _ (by omega)⟩, ⟨IntWalk.wrap64_in _ (by omega), IntWalk.i64_in _ (by omega)⟩⟩)
            have q3 : decide (2 * xr.n < al * xr.d) = false := decide_eq_false (by have := HH.out; omega)
            have HZ := Lib.hid (hB142.drop)
            have HZB := Lib.hid hbw
            obtain ⟨⟨a1, a2⟩, ⟨a3, a4⟩⟩ := HYW.out
            clear ww HYW hbw hB142
            go_wp2_with fail
            exact ⟨⟨1, by omega, by go_num, HZ.out, HZB.out⟩, by simp [intOf]⟩
          have HZ := Lib.hid (show sumTo (gi (gr bs 0)) (k + 1) = sumTo (gi (gr bs 0)) k + gi (gr bs 0) k from rfl)
          have sb := sumTo_bd (f := gi (gr bs 0)) (lo := 0) (hi := 1000) (k := k) (fun i hi => HRT.out.2 i (by omega))
          have vb := HRT.out.2 k hlt
          have HS := Lib.hid (show 0 ≤ sumTo (gi (gr bs 0)) k ∧ sumTo (gi (gr bs 0)) k ≤ 10000 ∧ 0 ≤ gi (gr bs 0) k ∧ gi (gr bs 0) k ≤ 1000 by have := HN.out; omega)
          have q : decide ((k : Int) < ((mSh (gr bs 0) (gr bs 1) (gr bs 0).length).length : Int)) = true := decide_eq_true (by have := HLE.out; omega)
          have q2 : decide (k < (mSh (gr bs 0) (gr bs 1) (gr bs 0).length).length) = true := decide_eq_true (by have := HLE.out; omega)
          have z1 : (k : Int) < ((mSh (gr bs 0) (gr bs 1) (gr bs 0).length).length : Int) := by have := HLE.out; omega
          have z4 : (k : Int) < ((gr bs 0).length : Int) := by have := HRT.out.1; omega
          have z3 : (0 : Int) ≤ (k : Int) := by omega
          have HME := Lib.hid (And.intro (Nat.succ_le_of_lt hlt) (Nat.sub_lt_sub_left hlt (Nat.lt_succ_self k)))
          have HKL := Lib.hid (show k < (gr bs 0).length by have := HRT.out.1; omega)
          have HKB := Lib.hid (show (k : Int) ≤ 10 by have := HN.out; omega)
          clear sb vb hlt hk
          generalize hs2 : sumTo (gi (gr bs 0)) (k + 1) = s2 at *
          have HS2 := Lib.hid hs2
          clear hs2
          generalize sumTo (gi (gr bs 0)) k = s1 at *
          have HYY := Lib.hid (show (IntKind.i64.wrap ((k : Int) + 1) = (k : Int) + 1 ∧ wrap64 ((k : Int) + 1) = (k : Int) + 1) ∧ (IntKind.i64.wrap (s1 + gi (gr bs 0) k) = s1 + gi (gr bs 0) k ∧ wrap64 (s1 + gi (gr bs 0) k) = s1 + gi (gr bs 0) k) by
            have := HKB.out; have := HS.out
            exact ⟨⟨IntWalk.i64_in _ (by omega), IntWalk.wrap64_in _ (by omega)⟩, ⟨IntWalk.i64_in _ (by omega), IntWalk.wrap64_in _ (by omega)⟩⟩)
          have t_r := HVW.out.two.r0
          have t_b := HVW.out.two.bl
          have t_v := (HVW.out.r0 k HKL.out).1
          have t_w := (HVW.out.r0 k HKL.out).2
          obtain ⟨⟨a1, a2⟩, ⟨a3, a4⟩⟩ := HYY.out
          clear HYY
          have c_G := fun j => cell_of_row _ _ j _ _ _ (hBr.get 0 rfl)
          have z_G := hBr.lt 0 rfl
          clear hBr
          go_wp2_with fail
          exact ⟨⟨k + 1, HME.out.1, by rw [HS2.out, HZ.out], by go_num, by first | rfl | trivial⟩, by simpa [intOf] using HME.out.2⟩
      · have HBT := Lib.hid hBr
        have HBU := Lib.hid hbw
        have HVW := Lib.hid (HVL.out _ hBr.below)
        have HH := Lib.hid (HCH.out 1 (by omega))
        have HWK := Lib.hid (fun V hV hB => HWO.out 1 (by omega) V hV hB)
        have HRT := Lib.hid (HRB.out 1 (by omega))
        have z5 : (1 : Int) < (bs.length : Int) := by rw [H22.out]; decide
        clear hBr hbw hi HCH HWO HRB
        go_wp2_with fail
        go_loopw [12, 13] (fun a s wq => ∃ k : Nat, k ≤ (gr bs 0).length ∧ a = .int .i64 (sumTo (gi (gr bs 1)) k) ∧ s = .int .i64 k ∧ wq = wr) (fun _ s _ => (gr bs 0).length - (intOf s).toNat)
        case atStart => exact ⟨0, Nat.zero_le _, rfl, rfl, rfl⟩
        case round =>
          skip
          obtain ⟨k, hk, rfl, rfl, rfl⟩ := hrel
          have hBr := HBT.out
          clear HBT
          by_cases hlt : k < (gr bs 0).length
          rotate_left
          · obtain rfl : k = (gr bs 0).length := by omega
            have q : decide (((gr bs 0).length : Int) < ((mSh (gr bs 0) (gr bs 1) (gr bs 0).length).length : Int)) = false := decide_eq_false (by have := HLE.out; omega)
            have q2 : decide ((gr bs 0).length < (mSh (gr bs 0) (gr bs 1) (gr bs 0).length).length) = false := decide_eq_false (by have := HLE.out; omega)
            clear hlt hk
            generalize hal : sumTo (gi (gr bs 1)) (gr bs 0).length = al at *
            generalize mkR (mU (gr bs 0) (gr bs 1) (gr bs 0).length 1) = xr at *
            clear hal
            have hbw := HBU.out
            clear HBU
            have c_G := fun j => cell_of_row _ _ j _ _ _ (hBr.get 0 rfl)
            have z_G := hBr.lt 0 rfl
            go_wp2_with fail
            refine (HWK.out _ hbw hBr.below).mono ?_
            rintro e w141 ⟨rfl, hb⟩
            have hB141 := hBr.next hb
            have hbw := bcall hbw hbw.size hb
            clear c_G z_G hb hBr HWK q q2
            have hbw := hbw.alloc hbw.size (rB xr)
            go_upto_region 20 with fail
            have hB142 := hB141.new rfl (rB xr)
            clear hB141
            generalize w141.heap.size = gX at *
            generalize w141.alloc _ = w142 at *
            have c_x := fun j => cell_of_row _ _ j _ _ _ (hB142.get 0 rfl)
            have z_x := hB142.lt 0 rfl
            have ww : 0 ≤ al * xr.d ∧ al * xr.d ≤ 10000 * 10000 := by have := HH.out; exact prod_le (p := 10000) (q := 10000) (by omega) (by omega) (by omega) (by omega)
            have HYW := Lib.hid (show (wrap64 (2 * xr.n) = 2 * xr.n ∧ IntKind.i64.wrap (2 * xr.n) = 2 * xr.n) ∧ (wrap64 (al * xr.d) = al * xr.d ∧ IntKind.i64.wrap (al * xr.d) = al * xr.d) by
              have := HH.out
              exact ⟨⟨IntWalk.wrap64_in _ (by omega), IntWalk.i64_in _ (by omega)⟩, ⟨IntWalk.wrap64_in _ (by omega), IntWalk.i64_in _ (by omega)⟩⟩)
            have q3 : decide (2 * xr.n < al * xr.d) = false := decide_eq_false (by have := HH.out; omega)
            have HZ := Lib.hid (hB142.drop)
            have HZB := Lib.hid hbw
            obtain ⟨⟨a1, a2⟩, ⟨a3, a4⟩⟩ := HYW.out
            clear ww HYW hbw hB142
            go_wp2_with fail
            exact ⟨⟨2, by omega, by go_num, HZ.out, HZB.out⟩, by simp [intOf]⟩
          have HZ := Lib.hid (show sumTo (gi (gr bs 1)) (k + 1) = sumTo (gi (gr bs 1)) k + gi (gr bs 1) k from rfl)
          have sb := sumTo_bd (f := gi (gr bs 1)) (lo := 0) (hi := 1000) (k := k) (fun i hi => HRT.out.2 i (by omega))
          have vb := HRT.out.2 k hlt
          have HS := Lib.hid (show 0 ≤ sumTo (gi (gr bs 1)) k ∧ sumTo (gi (gr bs 1)) k ≤ 10000 ∧ 0 ≤ gi (gr bs 1) k ∧ gi (gr bs 1) k ≤ 1000 by have := HN.out; omega)
          have q : decide ((k : Int) < ((mSh (gr bs 0) (gr bs 1) (gr bs 0).length).length : Int)) = true := decide_eq_true (by have := HLE.out; omega)
          have q2 : decide (k < (mSh (gr bs 0) (gr bs 1) (gr bs 0).length).length) = true := decide_eq_true (by have := HLE.out; omega)
          have z1 : (k : Int) < ((mSh (gr bs 0) (gr bs 1) (gr bs 0).length).length : Int) := by have := HLE.out; omega
          have z4 : (k : Int) < ((gr bs 1).length : Int) := by have := HRT.out.1; omega
          have z3 : (0 : Int) ≤ (k : Int) := by omega
          have HME := Lib.hid (And.intro (Nat.succ_le_of_lt hlt) (Nat.sub_lt_sub_left hlt (Nat.lt_succ_self k)))
          have HKL := Lib.hid (show k < (gr bs 1).length by have := HRT.out.1; omega)
          have HKB := Lib.hid (show (k : Int) ≤ 10 by have := HN.out; omega)
          clear sb vb hlt hk
          generalize hs2 : sumTo (gi (gr bs 1)) (k + 1) = s2 at *
          have HS2 := Lib.hid hs2
          clear hs2
          generalize sumTo (gi (gr bs 1)) k = s1 at *
          have HYY := Lib.hid (show (IntKind.i64.wrap ((k : Int) + 1) = (k : Int) + 1 ∧ wrap64 ((k : Int) + 1) = (k : Int) + 1) ∧ (IntKind.i64.wrap (s1 + gi (gr bs 1) k) = s1 + gi (gr bs 1) k ∧ wrap64 (s1 + gi (gr bs 1) k) = s1 + gi (gr bs 1) k) by
            have := HKB.out; have := HS.out
            exact ⟨⟨IntWalk.i64_in _ (by omega), IntWalk.wrap64_in _ (by omega)⟩, ⟨IntWalk.i64_in _ (by omega), IntWalk.wrap64_in _ (by omega)⟩⟩)
          have t_r := HVW.out.two.r1
          have t_b := HVW.out.two.bl
          have t_v := (HVW.out.r1 k HKL.out).1
          have t_w := (HVW.out.r1 k HKL.out).2
          obtain ⟨⟨a1, a2⟩, ⟨a3, a4⟩⟩ := HYY.out
          clear HYY
          have c_G := fun j => cell_of_row _ _ j _ _ _ (hBr.get 0 rfl)
          have z_G := hBr.lt 0 rfl
          clear hBr
          go_wp2_with fail
          exact ⟨⟨k + 1, HME.out.1, by rw [HS2.out, HZ.out], by go_num, by first | rfl | trivial⟩, by simpa [intOf] using HME.out.2⟩
end Go.Proofs.Ytpijllobpohpgaa
