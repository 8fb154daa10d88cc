/- AskReplays returns true. -/
import Derived.Test.YtgcbmnohhbcfiaaAsRan
import Derived.Test.YtgcbmnohhbcfiaaAsAl
import Derived.Test.YtgcbmnohhbcfiaaCm14
namespace Go.Proofs.Ytgcbmnohhbcfiaa
open Go.RowKit Go.Deep
set_option linter.unusedVariables false
set_option linter.unusedSimpArgs false

theorem cntSum_le (l : List Qy) (k : Nat) : ∀ m, cntSum l k m ≤ m * k
  | 0 => by rw [cntSum]; omega
  | m + 1 => by
    have := cntSum_le l k m
    have := cntTo_le l (m : Int) k
    rw [cntSum, Nat.succ_mul]; omega
set_option maxRecDepth 100000 in
set_option maxHeartbeats 32000000 in
theorem askreplays_walk (ks : List Ck) (A : Option Addr) (c : Nat) (l : List Qy) (B : Option Addr) (d : Nat) (w : World) (h : CsIn w.heap.size w A c ks) (hl : LgIn w.heap.size w B d l) :
    Calls Try.prog 11 #[.slice A ks.length c, .slice B l.length d] w fun e w' => e = .returned (.bool true) ∧ Below w.heap.size w w' := by
  have hlm := Nat.le_trans hl.len hl.cap
  unfold maxLen at hlm
  have hB0 : Bx w [] w := Bx.start w
  have HV := Lib.hid (fun (W : World) (hW : Below w.heap.size w W) => h.next hW)
  have HH := Lib.hid (fun (W : World) (hW : Below w.heap.size w W) => hl.next hW)
  have HG := Lib.hid (fun (W : World) (hW : Below w.heap.size w W) => fgreatc_any ks A c W (h.next hW))
  clear h hl
  obtain ⟨gb, hgb⟩ : ∃ x, x = greatK ks := ⟨_, rfl⟩
  rw [← hgb] at HG
  have HGB := Lib.hid hgb
  clear hgb
  go_enter Try.func11, Try.ntmps11
  by_cases hn : 30 < l.length
  · have b1 : decide ((30 : Int) < (l.length : Int)) = true := decide_eq_true (by omega)
    clear hn hlm HV HH HGB
    cases gb with
    | true =>
      go_wp2_with fail
      refine (HG.out _ (Below.refl _ _)).mono ?_
      rintro e w1 ⟨rfl, hb⟩
      have hB1 := hB0.next hb
      clear hb hB0 HG
      go_wp2_with fail
      refine (askalive_any _).mono ?_
      rintro e w2 ⟨rfl, hb⟩
      have HE := Lib.hid (hB1.next hb).below
      clear hb hB1
      go_wp2_with fail
      go_ret
      exact ⟨rfl, HE.out⟩
    | false =>
      go_wp2_with fail
      refine (HG.out _ (Below.refl _ _)).mono ?_
      rintro e w1 ⟨rfl, hb⟩
      have hB1 := hB0.next hb
      clear hb hB0 HG
      go_wp2_with fail
      refine (askalive_any _).mono ?_
      rintro e w2 ⟨rfl, hb⟩
      have HE := Lib.hid (hB1.next hb).below
      clear hb hB1
      go_wp2_with fail
      go_ret
      exact ⟨rfl, HE.out⟩
  have b1 : decide ((30 : Int) < (l.length : Int)) = false := decide_eq_false (by omega)
  have HN := Lib.hid (show l.length ≤ 30 by omega)
  clear hn hlm
  cases gb with
  | true =>
    go_wp2_with fail
    refine (HG.out _ (Below.refl _ _)).mono ?_
    rintro e w1 ⟨rfl, hb⟩
    have hB1 := hB0.next hb
    clear hb hB0 HG
    go_wp2_with fail
    refine (askalive_any _).mono ?_
    rintro e w2 ⟨rfl, hb⟩
    have HE := Lib.hid (hB1.next hb).below
    clear hb hB1
    go_wp2_with fail
    go_ret
    exact ⟨rfl, HE.out⟩
  | false =>
  have HR := Lib.hid (fun (l2 : List Qy) (B2 : Option Addr) (d2 : Nat) (h2 : l2.length ≤ 1000) (W : World) (hW : Below w.heap.size w W) (hl2 : LgIn W.heap.size W B2 d2 l2) => ran_any ks A c l2 B2 d2 h2 W (HV.out W hW) hl2)
  go_wp2_with fail
  refine (HG.out _ (Below.refl _ _)).mono ?_
  rintro e w1 ⟨rfl, hb⟩
  have hB1 := hB0.next hb
  clear hb hB0 HG
  have hln : l.length ≤ 1000 := by have := HN.out; omega
  go_wp2_with fail
  refine (HR.out l B d hln _ hB1.below (HH.out _ hB1.below)).mono ?_
  rintro e w2 ⟨P, cp, S, cs, rfl, hF, hb⟩
  have hB2 := hB1.next hb
  clear hb hB1 hln b1
  obtain ⟨kk, hkk⟩ : ∃ x, x = openK ks := ⟨_, rfl⟩
  obtain ⟨lg, hlg⟩ : ∃ x, x = ranQ ks l := ⟨_, rfl⟩
  rw [← hkk, ← hlg] at hF
  simp only [← hkk, ← hlg]
  by_cases hd : deskC ks 0 = 0
  rotate_left
  · have HC := Lib.hid (fun (W : World) (hW : Below w.heap.size w W) => fdcheck_any ks A c [] none 0 W (HV.out W hW) (by unfold maxLen; simp))
    rw [show ([] : List Qy).length = 0 from rfl] at HC
    have b2 : (deskC ks 0 != 0) = true := by simpa using hd
    have b3 : decide (deskC ks 0 = 0) = false := decide_eq_false hd
    simp only [b3]
    obtain ⟨code, hco⟩ : ∃ x, x = deskC ks 0 := ⟨_, rfl⟩
    rw [← hco] at HC b2
    clear b3 hd hco hF hkk hlg HV HH HR
    go_upto_region 4 with fail
    have hB3 := hB2.new rfl (.cells #[.slice P kk.length cp, .slice S lg.length cs] 76)
    clear hB2
    generalize w2.heap.size = gD at *
    generalize w2.alloc _ = w3 at *
    go_wp2_with fail
    refine (HC.out _ hB3.below).mono ?_
    rintro e w4 ⟨rfl, hb⟩
    have hB4 := hB3.next hb
    clear hb hB3 HC
    go_wp2_with fail
    refine (askalive_any _).mono ?_
    rintro e w5 ⟨rfl, hb⟩
    have HE := Lib.hid (hB4.next hb).below
    clear hb hB4
    go_wp2_with fail
    go_ret
    exact ⟨rfl, HE.out⟩
  have b3 : decide (deskC ks 0 = 0) = true := decide_eq_true hd
  simp only [b3]
  have hk : kk = ks := by rw [hkk]; exact if_pos hd
  have hg : lg = ranTo ks l l.length := by rw [hlg]; exact if_pos hd
  subst hk
  have HD := Lib.hid hd
  have HL := Lib.hid (ran_law hd HN.out hg)
  have HK := Lib.hid (deskC_zero.1 hd)
  have hg30 : lg.length ≤ 30 := HL.out.1
  clear b3 hd hkk hlg hg HN HGB HH
  have HF := Lib.hid (fun (V : World) (hV : Below w2.heap.size w2 V) => hF.ext hV)
  have HB2 := Lib.hid hB2.below
  clear hF
  go_upto_region 4 with fail
  have hB3 := hB2.new rfl (.cells #[.slice P kk.length cp, .slice S lg.length cs] 76)
  clear hB2
  have HF3 := Lib.hid (fun (V : World) (hV : Below (w2.alloc (.cells #[.slice P kk.length cp, .slice S lg.length cs] 76)).heap.size (w2.alloc (.cells #[.slice P kk.length cp, .slice S lg.length cs] 76)) V) => HF.out V (bcall (one_alloc _ _) (one_alloc _ _).size hV))
  clear HF HB2
  generalize w2.heap.size = gD at *
  generalize w2.alloc _ = w3 at *
  have HB3 := Lib.hid hB3
  have HP := Lib.hid (fun (V : World) (hV : Below w3.heap.size w3 V) => show Calls Try.prog 52 #[.slice A kk.length c, .slice S lg.length cs] V fun e w' => e = .returned (.tuple #[.int .i64 (lg.length : Nat), .int .i64 0]) ∧ Below V.heap.size V w' by
    have := askreplay_any kk A c lg S cs V (HV.out V (bcall HB3.out.below HB3.out.below.size hV)) (HF3.out V hV).2
    rw [show repR kk lg = (lg.length : Int) by unfold repR; rw [if_pos HL.out.2.1, HL.out.2.2.1], HL.out.2.1] at this
    exact this)
  have HCN := Lib.hid (fun (g : Int) (V : World) (hV : Below w3.heap.size w3 V) => askcount_any lg S cs g V (HF3.out V hV).2)
  have HCM := Lib.hid (fun (V : World) (hV : Below w3.heap.size w3 V) => show Calls Try.prog 53 #[.slice S lg.length cs, .int .i64 (-1)] V fun e w' => e = .returned (.int .i64 (lg.length : Nat)) ∧ Below V.heap.size V w' by
    have := HCN.out (-1) V hV
    rwa [show cnt lg (-1) = lg.length from if_pos rfl] at this)
  have HSC := Lib.hid (fun (V : World) (hV : Below w3.heap.size w3 V) => show Calls Try.prog 58 #[.slice P kk.length cp, .slice A kk.length c] V fun e w' => e = .returned (.bool true) ∧ Below V.heap.size V w' by
    have := fsamecakes_any kk kk P cp A c V (HF3.out V hV).1 (HV.out V (bcall HB3.out.below HB3.out.below.size hV))
    rwa [sameC_self] at this)
  have c_d := fun j => cell_of_row _ _ j _ _ _ (hB3.get 0 rfl)
  have z_d := hB3.lt 0 rfl
  go_wp2_with fail
  refine (HP.out _ (Below.refl _ _)).mono ?_
  rintro e w4 ⟨rfl, hb⟩
  have hB4 := hB3.next hb
  have HW4 := Lib.hid hb
  clear hb hB3 c_d z_d HP
  have c_d := fun j => cell_of_row _ _ j _ _ _ (hB4.get 0 rfl)
  have z_d := hB4.lt 0 rfl
  go_wp2_with fail
  refine (HCM.out _ HW4.out).mono ?_
  rintro e w5 ⟨rfl, hb⟩
  have hB5 := hB4.next hb
  have HW5 := Lib.hid (bcall HW4.out HW4.out.size hb)
  clear hb hB4 c_d z_d HCM HW4
  have c_d := fun j => cell_of_row _ _ j _ _ _ (hB5.get 0 rfl)
  have z_d := hB5.lt 0 rfl
  go_wp2_with fail
  refine (HSC.out _ HW5.out).mono ?_
  rintro e w6 ⟨rfl, hb⟩
  have hB6 := hB5.next hb
  have HW6 := Lib.hid (bcall HW5.out HW5.out.size hb)
  clear hb hB5 c_d z_d HSC HW5
  have HI := Lib.hid hB6
  clear hB6
  have hk6 : kk.length ≤ 6 := HK.out.m
  go_wp2_with fail
  go_loopw [10, 11] (fun s10 s11 wr => ∃ m : Nat, m ≤ kk.length ∧ s10 = .int .i64 ((cntSum lg lg.length m : Nat) : Int) ∧ s11 = .int .i64 m ∧ Below w3.heap.size w3 wr) (fun _ s11 _ => kk.length - (intOf s11).toNat)
  case atStart => exact ⟨0, Nat.zero_le _, by rw [cntSum]; rfl, rfl, HW6.out⟩
  case round =>
    clear HI HW6
    obtain ⟨m, hm, rfl, rfl, hW⟩ := hrel
    have hB := HB3.out.next hW
    have HW := Lib.hid hW
    clear hW
    by_cases hlt : m < kk.length
    · have z1 : (m : Int) < (kk.length : Int) := by omega
      have z3 : IntKind.i64.wrap ((m : Int) + 1) = (m : Int) + 1 := IntWalk.i64_in _ (by omega)
      have z4 : wrap64 ((m : Int) + 1) = (m : Int) + 1 := IntWalk.wrap64_in _ (by omega)
      have hx : cnt lg (m : Int) = cntTo lg (m : Int) lg.length := if_neg (by omega)
      have HCX := HCN.out (m : Int)
      rw [hx] at HCX
      have HS := Lib.hid (show cntSum lg lg.length (m + 1) = cntSum lg lg.length m + cntTo lg (m : Int) lg.length from rfl)
      have k1 := cntSum_le lg lg.length m
      have k2 := cntTo_le lg (m : Int) lg.length
      have k3 : m * lg.length ≤ 6 * 30 := Nat.mul_le_mul (by omega) hg30
      have HLE := Lib.hid (And.intro (Nat.succ_le_of_lt hlt) (Nat.sub_lt_sub_left hlt (Nat.lt_succ_self m)))
      obtain ⟨x, hxx⟩ : ∃ x, x = cntSum lg lg.length m := ⟨_, rfl⟩
      obtain ⟨y, hyy⟩ : ∃ y, y = cntTo lg (m : Int) lg.length := ⟨_, rfl⟩
      rw [← hxx, ← hyy] at HS
      rw [← hyy] at HCX
      simp only [← hxx]
      have HCX := Lib.hid HCX
      have y1 : IntKind.i64.wrap ((x : Int) + (y : Int)) = (x : Int) + (y : Int) := IntWalk.i64_in _ (by omega)
      have y2 : wrap64 ((x : Int) + (y : Int)) = (x : Int) + (y : Int) := IntWalk.wrap64_in _ (by omega)
      clear hlt hm hx k1 k2 k3 hxx hyy hg30 hk6
      have c_d := fun j => cell_of_row _ _ j _ _ _ (hB.get 0 rfl)
      have z_d := hB.lt 0 rfl
      go_wp2_with fail
      refine (HCX.out _ HW.out).mono ?_
      rintro e w7 ⟨rfl, hb⟩
      have HW7 := Lib.hid (bcall HW.out HW.out.size hb)
      clear hb c_d z_d hB HW
      go_wp2_with fail
      exact ⟨⟨m + 1, HLE.out.1, by rw [HS.out]; go_num, by go_num, HW7.out⟩, by simpa [intOf] using HLE.out.2⟩
    obtain rfl : m = kk.length := by omega
    rw [HL.out.2.2.2.1]
    clear hlt hm hk6
    have hln : lg.length ≤ 1000 := by omega
    have c_d := fun j => cell_of_row _ _ j _ _ _ (hB.get 0 rfl)
    have z_d := hB.lt 0 rfl
    go_wp2_with fail
    refine (HR.out lg S cs hln _ (bcall HB3.out.below HB3.out.below.size HW.out) (HF3.out _ HW.out).2).mono ?_
    rintro e w7 ⟨P2, c2, S2, d2, rfl, hF2, hb⟩
    have hB7 := hB.next hb
    have HW7 := Lib.hid (bcall HW.out HW.out.size hb)
    have hq : ranQ kk lg = lg := by unfold ranQ; rw [if_pos HD.out, HL.out.2.2.2.2]
    have hq2 : openK kk = kk := if_pos HD.out
    rw [hq, hq2] at hF2
    have b5 : decide (deskC kk 0 = 0) = true := decide_eq_true HD.out
    simp only [hq, hq2, b5]
    have HSL := Lib.hid (fun (V : World) (hV : Below w7.heap.size w7 V) => show Calls Try.prog 42 #[.slice S2 lg.length d2, .slice S lg.length cs] V fun e w' => e = .returned (.bool true) ∧ Below V.heap.size V w' by
      have := fsamelogs_any lg lg S2 d2 S cs V (hF2.ext hV).2 (HF3.out V (bcall HW7.out HW7.out.size hV)).2
      rwa [show sameQ lg lg = true from decide_eq_true rfl] at this)
    clear hb c_d z_d hB hq hq2 b5 hF2 HW
    go_upto_region 15 with fail
    have hB8 := hB7.new rfl (.cells #[.slice P2 kk.length c2, .slice S2 lg.length d2] 76)
    have HSL8 := Lib.hid (fun (V : World) (hV : Below (w7.alloc (.cells #[.slice P2 kk.length c2, .slice S2 lg.length d2] 76)).heap.size (w7.alloc (.cells #[.slice P2 kk.length c2, .slice S2 lg.length d2] 76)) V) => HSL.out V (bcall (one_alloc _ _) (one_alloc _ _).size hV))
    clear hB7 HSL HW7
    generalize w7.heap.size = gE at *
    generalize w7.alloc _ = w8 at *
    have c_e := fun j => cell_of_row _ _ j _ _ _ (hB8.get 0 rfl)
    have z_e := hB8.lt 0 rfl
    have c_d := fun j => cell_of_row _ _ j _ _ _ (hB8.get 1 rfl)
    have z_d := hB8.lt 1 rfl
    go_wp2_with fail
    refine (HSL8.out _ (Below.refl _ _)).mono ?_
    rintro e w9 ⟨rfl, hb⟩
    have hB9 := hB8.next hb
    clear hb hB8 c_e z_e c_d z_d HSL8
    go_wp2_with fail
    refine (askalive_any _).mono ?_
    rintro e w10 ⟨rfl, hb⟩
    have HE := Lib.hid (hB9.next hb).below
    clear hb hB9
    go_wp2_with fail
    go_ret
    exact ⟨rfl, HE.out⟩
end Go.Proofs.Ytgcbmnohhbcfiaa
