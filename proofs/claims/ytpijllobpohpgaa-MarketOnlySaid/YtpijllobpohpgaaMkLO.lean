/- MarketOnly returns true. -/
import Derived.Test.YtpijllobpohpgaaMkEx
import Derived.Test.YtpijllobpohpgaaMa8
import Derived.Test.YtpijllobpohpgaaMa6
namespace Go.Proofs.Ytpijllobpohpgaa
open Go.RowKit Go.Deep
set_option linter.unusedVariables false
set_option linter.unusedSimpArgs false

set_option maxRecDepth 100000 in
set_option maxHeartbeats 16000000 in
theorem only_walk (bs : List (List Int)) (A : Option Addr) (c : Nat) (p : List Rt) (B : Option Addr) (d : Nat) (l : List Rt) (D : Option Addr) (e : Nat) (w : World) (h : GIn w.heap.size w A c bs) (hp : QIn w.heap.size w B d p) (hl : QIn w.heap.size w D e l) :
    Calls Try.prog 4 #[gV A c bs, .slice B p.length d, .slice D l.length e] w fun e w' => e = .returned (.bool true) ∧ Below w.heap.size w w' := by
  have hB0 : Bx w [(w.heap.size, gB A c bs)] (w.alloc (gB A c bs)) := (Bx.start w).new rfl _
  have H0 := Lib.hid (fun (W : World) (hW : Below w.heap.size w W) => fmcheck_any bs A c W (h.next hW))
  have H1 := Lib.hid (fun (W : World) (hW : Below w.heap.size w W) => maccept_any bs A c p B d l D e W (h.next hW) (hp.next hW) (hl.next hW))
  have H2 := Lib.hid (fun (W : World) (hW : Below w.heap.size w W) => mfind_any bs A c W (h.next hW))
  have HG := Lib.hid h
  have HP := Lib.hid hp
  have HL := Lib.hid hl
  clear h hp hl
  go_enter Try.func4, Try.ntmps4
  try dsimp only [List.append]
  go_upto_region 1 with fail
  generalize w.alloc (gB A c bs) = w0 at *
  have c_G := fun j => cell_of_row _ _ j _ _ _ (hB0.get 0 rfl)
  have z_G := hB0.lt 0 rfl
  go_wp2_with fail
  refine (malive_any _).mono ?_
  rintro e w1 ⟨rfl, hb⟩
  have hB1 := hB0.next hb
  clear c_G z_G hb hB0
  by_cases hc : mkCode bs = 0
  rotate_left
  · have c_G := fun j => cell_of_row _ _ j _ _ _ (hB1.get 0 rfl)
    have z_G := hB1.lt 0 rfl
    have q : (mkCode bs != 0) = true := bneT hc
    clear hc
    generalize mkCode bs = kc at *
    go_wp2_with fail
    refine (H0.out _ hB1.below).mono ?_
    rintro e w2 ⟨rfl, hb⟩
    have hB2 := hB1.next hb
    clear c_G z_G hb hB1
    have HE := Lib.hid hB2.below
    clear hB2
    go_wp2_with fail
    go_ret
    exact ⟨rfl, HE.out⟩
  have HC := Lib.hid hc
  have q : ((0 : Int) != 0) = false := rfl
  have HF1 := Lib.hid (show findP bs = (mPs (gr bs 0) (gr bs 1) (gr bs 0).length) ∧ findS bs = (mSh (gr bs 0) (gr bs 1) (gr bs 0).length) by unfold findP findS; rw [if_pos hc, if_pos hc]; exact ⟨rfl, rfl⟩)
  rw [hc] at H0 H1 H2
  rw [HF1.out.1, HF1.out.2] at H2
  clear hc
  by_cases h40 : 40 < p.length
  · have qp : decide (40 < p.length) = true := decide_eq_true h40
    have qip : decide ((40 : Int) < (p.length : Int)) = true := decide_eq_true (by omega)
    clear h40
    have c_G := fun j => cell_of_row _ _ j _ _ _ (hB1.get 0 rfl)
    have z_G := hB1.lt 0 rfl
    go_wp2_with fail
    refine (H0.out _ hB1.below).mono ?_
    rintro e w2 ⟨rfl, hb⟩
    have hB2 := hB1.next hb
    clear c_G z_G hb hB1
    have HE := Lib.hid hB2.below
    clear hB2
    go_wp2_with fail
    go_ret
    exact ⟨rfl, HE.out⟩
  have qp : decide (40 < p.length) = false := decide_eq_false h40
  have qip : decide ((40 : Int) < (p.length : Int)) = false := decide_eq_false (by omega)
  clear h40
  by_cases h40 : 40 < l.length
  · have ql : decide (40 < l.length) = true := decide_eq_true h40
    have qil : decide ((40 : Int) < (l.length : Int)) = true := decide_eq_true (by omega)
    clear h40
    have c_G := fun j => cell_of_row _ _ j _ _ _ (hB1.get 0 rfl)
    have z_G := hB1.lt 0 rfl
    go_wp2_with fail
    refine (H0.out _ hB1.below).mono ?_
    rintro e w2 ⟨rfl, hb⟩
    have hB2 := hB1.next hb
    clear c_G z_G hb hB1
    have HE := Lib.hid hB2.below
    clear hB2
    go_wp2_with fail
    go_ret
    exact ⟨rfl, HE.out⟩
  have ql : decide (40 < l.length) = false := decide_eq_false h40
  have qil : decide ((40 : Int) < (l.length : Int)) = false := decide_eq_false (by omega)
  clear h40
  have c_G := fun j => cell_of_row _ _ j _ _ _ (hB1.get 0 rfl)
  have z_G := hB1.lt 0 rfl
  go_wp2_with fail
  refine (H0.out _ hB1.below).mono ?_
  rintro e w2 ⟨rfl, hb⟩
  have hB2 := hB1.next hb
  clear c_G z_G hb hB1
  have c_G := fun j => cell_of_row _ _ j _ _ _ (hB2.get 0 rfl)
  have z_G := hB2.lt 0 rfl
  go_wp2_with fail
  refine (H1.out _ hB2.below).mono ?_
  rintro e w3 ⟨rfl, hb⟩
  have hB3 := hB2.next hb
  clear c_G z_G hb hB2
  clear H1 H0 qp qip ql qil
  have c_G := fun j => cell_of_row _ _ j _ _ _ (hB3.get 0 rfl)
  have z_G := hB3.lt 0 rfl
  go_wp2_with fail
  refine (H2.out _ hB3.below).mono ?_
  rintro e2 w4 ⟨P, cp, B2, cb, rfl, hP, hS, hb⟩
  have hB4 := hB3.next hb
  have HP2 := Lib.hid hP
  have HS2 := Lib.hid hS
  clear c_G z_G hb hB3 hP hS H2
  by_cases ha : accR bs p l = true
  rotate_left
  · have ha : accR bs p l = false := by simpa using ha
    rw [ha]
    clear ha
    have HE := Lib.hid hB4.below
    clear hB4
    go_wp2_with fail
    go_ret
    exact ⟨rfl, HE.out⟩
  have HA := Lib.hid (show accB bs p l = true by rw [← acc_ok HC.out]; exact ha)
  rw [ha]
  clear ha
  have HNL := Lib.hid (acc_of HC.out HA.out)
  obtain ⟨ps, hps⟩ : ∃ x, x = (mPs (gr bs 0) (gr bs 1) (gr bs 0).length) := ⟨_, rfl⟩
  obtain ⟨ss, hss⟩ : ∃ x, x = (mSh (gr bs 0) (gr bs 1) (gr bs 0).length) := ⟨_, rfl⟩
  have HPP := Lib.hid (show ps = p from hps.trans (acc_prices HC.out HA.out))
  have HSV := Lib.hid (show validB (gr bs 0).length ss = true ∧ validB (gr bs 0).length l = true by rw [hss]; exact ⟨(mk_ok HC.out).2.sh_valid, HNL.out.2.1⟩)
  have HSL := Lib.hid (show ss.length = (gr bs 0).length ∧ l.length = (gr bs 0).length by rw [hss]; exact ⟨sh_len, (valid_ok HNL.out.2.1).1⟩)
  have HFI := Lib.hid (fun g (hg : g < (gr bs 0).length) (bf : ∀ j, j < g → gR ss j = gR l j) (ne : gR ss g ≠ gR l g) => show ltB (gR l g) (gR ss g) = true by rw [hss] at bf ne ⊢; exact acc_first HC.out HA.out hg bf ne)
  have HOK := Lib.hid (fun g (hg : g < (gr bs 0).length) => show (gR ss g).Ok ∧ (gR l g).Ok by rw [hss]; exact ⟨((mk_ok HC.out).2.sh_ok hg).1, ((valid_ok HNL.out.2.1).2 g hg).1⟩)
  have HN := Lib.hid (show (gr bs 0).length ≤ 10 from (mk_ok HC.out).2.n10)
  have H22 := Lib.hid (mk_ok HC.out).1
  rw [← hps] at HP2 ⊢
  rw [← hss] at HS2 ⊢
  clear hps hss HNL HF1 HA
  obtain rfl := HPP.out
  clear HPP
  have HSA := Lib.hid (fun (V : World) (hV : Below w4.heap.size w4 V) (hB : Below w.heap.size w V) => show Calls Try.prog 21 #[.slice P ps.length cp, .slice B ps.length d] V fun e w' => e = .returned (.bool true) ∧ Below V.heap.size V w' by
    have k := qsame_any ps ps P cp B d V (HP2.out.next hV) (HP.out.next hB)
    rwa [show sameR ps ps = true from decide_eq_true rfl] at k)
  have HV1 := Lib.hid (fun (V : World) (hB : Below w.heap.size w V) => show Calls Try.prog 14 #[gV A c bs, .slice D l.length e] V fun e w' => e = .returned (.bool true) ∧ Below V.heap.size V w' by
    have k := fvalid_any bs A c l D e V (HG.out.next hB) H22.out (HL.out.next hB)
    rwa [HSV.out.2] at k)
  have HV2 := Lib.hid (fun (V : World) (hV : Below w4.heap.size w4 V) (hB : Below w.heap.size w V) => show Calls Try.prog 14 #[gV A c bs, .slice B2 ss.length cb] V fun e w' => e = .returned (.bool true) ∧ Below V.heap.size V w' by
    have k := fvalid_any bs A c ss B2 cb V (HG.out.next hB) H22.out (HS2.out.next hV)
    rwa [HSV.out.1] at k)
  have hbw := Below.refl w4.heap.size w4
  have e10 : ((ss.length : Int) != (l.length : Int)) = false := by rw [HSL.out.1, HSL.out.2]; simp
  have e11 : (ss.length != l.length) = false := by rw [HSL.out.1, HSL.out.2]; simp
  clear HSV
  have c_G := fun j => cell_of_row _ _ j _ _ _ (hB4.get 0 rfl)
  have z_G := hB4.lt 0 rfl
  go_wp2_with fail
  refine (HSA.out _ hbw hB4.below).mono ?_
  rintro e w5 ⟨rfl, hb⟩
  have hB5 := hB4.next hb
  have hbw := bcall hbw hbw.size hb
  clear c_G z_G hb hB4
  have c_G := fun j => cell_of_row _ _ j _ _ _ (hB5.get 0 rfl)
  have z_G := hB5.lt 0 rfl
  go_wp2_with fail
  refine (HV1.out _ hB5.below).mono ?_
  rintro e w6 ⟨rfl, hb⟩
  have hB6 := hB5.next hb
  have hbw := bcall hbw hbw.size hb
  clear c_G z_G hb hB5
  have c_G := fun j => cell_of_row _ _ j _ _ _ (hB6.get 0 rfl)
  have z_G := hB6.lt 0 rfl
  go_wp2_with fail
  refine (HV2.out _ hbw hB6.below).mono ?_
  rintro e w7 ⟨rfl, hb⟩
  have hB7 := hB6.next hb
  have hbw := bcall hbw hbw.size hb
  clear c_G z_G hb hB6
  have HB0 := Lib.hid hB7
  have HSN := Lib.hid (HS2.out.next hbw)
  have HWB := Lib.hid hB7.below
  clear hbw HSA HV1 HV2 HP2 HS2 HP hB7 e10 e11
  go_wp2_with fail
  go_loopw [13] (fun s wr => ∃ k : Nat, k ≤ (gr bs 0).length ∧ s = .int .i64 k ∧ (∀ j, j < k → gR ss j = gR l j) ∧ Below w7.heap.size w7 wr) (fun s _ => (gr bs 0).length - (intOf s).toNat)
  case atStart => exact ⟨0, Nat.zero_le _, rfl, fun j hj => by omega, Below.refl _ _⟩
  case round =>
    as_aux_lemma =>
      obtain ⟨k, hk, rfl, hbf, hb5⟩ := hrel
      have hBr : Bx w7 [] wr := Bx.from hb5
      by_cases hlt : k < (gr bs 0).length
      rotate_left
      · obtain rfl : k = (gr bs 0).length := by omega
        have q : decide (((gr bs 0).length : Int) < (ss.length : Int)) = false := decide_eq_false (by have := HSL.out; omega)
        have q2 : decide ((gr bs 0).length < ss.length) = false := decide_eq_false (by have := HSL.out; omega)
        have HE := Lib.hid (bcall HWB.out HWB.out.size hb5)
        clear hb5 hBr hbf hlt hk HFI HOK HB0 HSN
        go_wp2_with fail
        go_ret
        exact ⟨rfl, HE.out⟩
      have HBF := Lib.hid hbf
      obtain ⟨ad, e1, bb, bc⟩ := (HSN.out.next hb5).at_ (k := k) (by rw [HSL.out.1]; exact hlt)
      obtain rfl := e1
      obtain ⟨f0, f1, f2⟩ := cell2 bc (show k < ss.length by rw [HSL.out.1]; exact hlt)
      have f3 : wr.cell? ⟨(ad.add (k * 2)).block, (ad.add (k * 2)).off + 1, none⟩ = some (.int .i64 (gR ss k).d) := f1
      have fb : (ad.add (k * 2)).block < wr.heap.size := by rw [block_add]; exact bb
      obtain ⟨bd, e2, kb, kc⟩ := (HL.out.next (bcall HWB.out HWB.out.size hb5)).at_ (k := k) (by rw [HSL.out.2]; exact hlt)
      obtain rfl := e2
      obtain ⟨g0, g1, g2⟩ := cell2 kc (show k < l.length by rw [HSL.out.2]; exact hlt)
      have g3 : wr.cell? ⟨(bd.add (k * 2)).block, (bd.add (k * 2)).off + 1, none⟩ = some (.int .i64 (gR l k).d) := g1
      have gb : (bd.add (k * 2)).block < wr.heap.size := by rw [block_add]; exact kb
      have q : decide ((k : Int) < (ss.length : Int)) = true := decide_eq_true (by have := HSL.out; omega)
      have z1 : (k : Int) < (ss.length : Int) := by have := HSL.out; omega
      have z2 : (k : Int) < (l.length : Int) := by have := HSL.out; omega
      have z3 : (0 : Int) ≤ (k : Int) := by omega
      have HYY := Lib.hid (show IntKind.i64.wrap ((k : Int) + 1) = (k : Int) + 1 ∧ wrap64 ((k : Int) + 1) = (k : Int) + 1 from ⟨IntWalk.i64_in _ (by have := HN.out; omega), IntWalk.wrap64_in _ (by have := HN.out; omega)⟩)
      have HME := Lib.hid (And.intro (Nat.succ_le_of_lt hlt) (Nat.sub_lt_sub_left hlt (Nat.lt_succ_self k)))
      have HOKK := Lib.hid (HOK.out k hlt)
      have HFK := Lib.hid (HFI.out k hlt HBF.out)
      have HNX := Lib.hid (fun (e : gR ss k = gR l k) => show ∀ j, j < k + 1 → gR ss j = gR l j from fun j hj => by
        by_cases q : j = k
        · rw [q]; exact e
        · exact HBF.out j (by omega))
      obtain ⟨y1, y1'⟩ := HYY.out
      clear hbf bb bc kb kc hlt hk HB0 HFI HOK HBF HYY
      by_cases he : gR ss k = gR l k
      · have HNX2 := Lib.hid (HNX.out he)
        clear HNX HFK HOKK
        rw [he] at f0 f1 f3
        generalize gR ss k = x at *
        generalize gR l k = y at *
        have t1 : (y.n == y.n) = true := by simp
        have t2 : (y.d == y.d) = true := by simp
        go_upto_region 15 with fail
        refine wp_region_ext (by kernel_rfl) (by kernel_rfl) ?_
        repeat (first | go_big_quiet_step (fail) | quiet_step (fail))
        refine wpQuiet_nil ?_
        rintro _ ⟨⟨wz, hbz⟩, rfl⟩
        have HZ := Lib.hid (bcall hb5 hb5.size hbz)
        clear hb5 hbz hBr f0 f1 f2 f3 g0 g1 g2 g3
        go_wp2_with fail
        exact ⟨⟨k + 1, HME.out.1, by go_num, HNX2.out, HZ.out⟩, by simpa [intOf] using HME.out.2⟩
      have HLT := Lib.hid (HFK.out he)
      have HDF := Lib.hid he
      clear HFK HNX he HME HN
      generalize gR ss k = x at *
      generalize gR l k = y at *
      have HLS := Lib.hid (fun (V : World) => show Calls Try.prog 22 #[rV y, rV x] V fun e w' => e = .returned (.bool true) ∧ Below V.heap.size V w' by
        have k := flt_any y x HOKK.out.2 HOKK.out.1 V
        rwa [HLT.out] at k)
      clear HLT HOKK
      by_cases en : x.n = y.n
      · have t1 : (x.n == y.n) = true := beqT en
        have t2 : (x.d == y.d) = false := beqF (fun q => HDF.out (Rt.ext_ en q))
        clear en HDF
        go_upto_region 15 with fail
        refine wp_region_ext (by kernel_rfl) (by kernel_rfl) ?_
        repeat (first | go_big_quiet_step (fail) | quiet_step (fail))
        refine wpQuiet_nil ?_
        rintro _ ⟨⟨wz, hbz⟩, rfl⟩
        have HZ := Lib.hid (bcall hb5 hb5.size hbz)
        have HCX := bcell hbz
        have f0' := (hbz.cell (p := ad.add (k * 2)) fb).trans f0
        have f3' := (HCX.1 _ _ fb).trans f3
        have g0' := (hbz.cell (p := bd.add (k * 2)) gb).trans g0
        have g3' := (HCX.1 _ _ gb).trans g3
        have fb' := Nat.lt_of_lt_of_le fb hbz.size
        have gb' := Nat.lt_of_lt_of_le gb hbz.size
        clear hb5 hbz hBr f0 f1 f2 f3 g0 g1 g2 g3 fb gb HCX
        go_upto_region 16 with fail
        refine wp_region_ext (by kernel_rfl) (by kernel_rfl) ?_
        repeat (first | go_big_quiet_step ((go_at_call 22; exact calls_ext (HLS.out _))) | quiet_step ((go_at_call 22; exact calls_ext (HLS.out _))))
        refine wpQuiet_nil ?_
        rintro _ ⟨⟨wy, hby⟩, rfl⟩
        have HE := Lib.hid (bcall HWB.out HWB.out.size (bcall HZ.out HZ.out.size hby))
        clear hby f0' f3' g0' g3'
        go_wp2_with fail
        go_ret
        exact ⟨rfl, HE.out⟩
      have t1 : (x.n == y.n) = false := beqF en
      clear en HDF
      go_upto_region 15 with fail
      refine wp_region_ext (by kernel_rfl) (by kernel_rfl) ?_
      repeat (first | go_big_quiet_step (fail) | quiet_step (fail))
      refine wpQuiet_nil ?_
      rintro _ ⟨⟨wz, hbz⟩, rfl⟩
      have HZ := Lib.hid (bcall hb5 hb5.size hbz)
      have HCX := bcell hbz
      have f0' := (hbz.cell (p := ad.add (k * 2)) fb).trans f0
      have f3' := (HCX.1 _ _ fb).trans f3
      have g0' := (hbz.cell (p := bd.add (k * 2)) gb).trans g0
      have g3' := (HCX.1 _ _ gb).trans g3
      have fb' := Nat.lt_of_lt_of_le fb hbz.size
      have gb' := Nat.lt_of_lt_of_le gb hbz.size
      clear hb5 hbz hBr f0 f1 f2 f3 g0 g1 g2 g3 fb gb HCX
      go_upto_region 16 with fail
      refine wp_region_ext (by kernel_rfl) (by kernel_rfl) ?_
      repeat (first | go_big_quiet_step ((go_at_call 22; exact calls_ext (HLS.out _))) | quiet_step ((go_at_call 22; exact calls_ext (HLS.out _))))
      refine wpQuiet_nil ?_
      rintro _ ⟨⟨wy, hby⟩, rfl⟩
      have HE := Lib.hid (bcall HWB.out HWB.out.size (bcall HZ.out HZ.out.size hby))
      clear hby f0' f3' g0' g3'
      go_wp2_with fail
      go_ret
      exact ⟨rfl, HE.out⟩
end Go.Proofs.Ytpijllobpohpgaa
