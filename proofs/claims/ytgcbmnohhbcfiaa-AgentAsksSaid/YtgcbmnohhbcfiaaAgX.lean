/- A meeting is asked: the reference. -/
import Derived.Test.YtgcbmnohhbcfiaaAgR
import Derived.Test.YtgcbmnohhbcfiaaCkRx
import Derived.Test.YtgcbmnohhbcfiaaCkRm
namespace Go.Proofs.Ytgcbmnohhbcfiaa
open Go.RowKit Go.Deep
set_option linter.unusedVariables false
set_option linter.unusedSimpArgs false

set_option maxRecDepth 100000 in
set_option maxHeartbeats 64000000 in
theorem fmasked_any (m : Mt) (q : Qy) (hq : q.wf) (S : Option Addr) (s : Nat) (B : Option Addr) (dl : Nat) (w : World) (h : AsIn w.heap.size w S s m.acs) (hl : LgIn w.heap.size w B dl m.log) :
    Calls Try.prog 66 #[mV S s m.acs B dl m.log, .int .i64 q.agent, .int .u8 q.kind, rV q.a, rV q.b] w (MaskedRes m q w) := by
  obtain ⟨j0, hj0, hy0, hy1, hy2⟩ := info_parts infoQy
  have HH := Lib.hid h
  have HC := Lib.hid (fun (W : World) (hW : Below w.heap.size w W) => fmcheck_any m.acs S s m.log B dl W (h.next hW) (hl.next hW))
  have HT := Lib.hid (fun (hc : meetC m.acs m.log = 0) (W : World) (hW : Below w.heap.size w W) => fmtwin_any m.acs S s m.log B dl W (h.next hW) (hl.next hW) (MeetOk.small (meetC_zero.1 hc)))
  have hB0 : Bx w [(w.heap.size + 1 + 1 + 1 + 1, rB ⟨0, 0⟩), (w.heap.size + 1 + 1 + 1, .cells #[.slice none 0 0, .slice none 0 0] 61), (w.heap.size + 1 + 1, rB q.b), (w.heap.size + 1, rB q.a), (w.heap.size, mB S s m.acs B dl m.log)] (((((w.alloc (mB S s m.acs B dl m.log)).alloc (rB q.a)).alloc (rB q.b)).alloc (.cells #[.slice none 0 0, .slice none 0 0] 61)).alloc (rB ⟨0, 0⟩)) := (((((Bx.start w).new rfl _).new (by simp) _).new (by simp) _).new (by simp) _).new (by simp) _
  have HM0 := Lib.hid (And.intro h.len h.cap)
  clear h hl
  obtain ⟨code, hco⟩ : ∃ x, x = meetC m.acs m.log := ⟨_, rfl⟩
  rw [← hco] at HC HT
  have HCO := Lib.hid (show m.code = code from hco.symm)
  have HOK := Lib.hid (fun (e : code = 0) => show MtOk m from meetC_zero.1 (by rw [← hco]; exact e))
  have HQ := Lib.hid hq
  clear hco hq
  go_enter Try.func66, Try.ntmps66
  try dsimp only [List.append]
  go_upto_region 1 with fail
  generalize hw0 : ((((w.alloc (mB S s m.acs B dl m.log)).alloc (rB q.a)).alloc (rB q.b)).alloc (.cells #[.slice none 0 0, .slice none 0 0] 61)).alloc (rB ⟨0, 0⟩) = w0 at *
  clear hw0
  generalize w.heap.size + 1 + 1 + 1 + 1 = gV at *
  generalize w.heap.size + 1 + 1 + 1 = gR at *
  generalize w.heap.size + 1 + 1 = gB at *
  generalize w.heap.size + 1 = gA at *
  have c_m := fun j => cell_of_row _ _ j _ _ _ (hB0.get 4 rfl)
  have z_m := hB0.lt 4 rfl
  go_wp2_with fail
  refine (HC.out _ hB0.below).mono ?_
  rintro e w2 ⟨rfl, hb⟩
  have hB2 := hB0.next hb
  clear c_m z_m hb hB0
  clear HC
  by_cases hc : code = 0
  rotate_left
  · have b1 : (code != 0) = true := by simpa using hc
    have HX := Lib.hid (Mt.a_bad (m := m) (q := q) (by rw [HCO.out]; exact hc))
    clear hc HT
    have c_rv := fun j => cell_of_row _ _ j _ _ _ (hB2.get 0 rfl)
    have z_rv := hB2.lt 0 rfl
    have f_rv := fun j => frozen_of_row _ _ j _ _ (hB2.get 0 rfl)
    have c_r := fun j => cell_of_row _ _ j _ _ _ (hB2.get 1 rfl)
    have z_r := hB2.lt 1 rfl
    have f_r := fun j => frozen_of_row _ _ j _ _ (hB2.get 1 rfl)
    have n_rv := hB2.ne 1 0 rfl rfl (by decide)
    have n_vr := hB2.ne 0 1 rfl rfl (by decide)
    simp only at n_rv n_vr
    go_wp2_with fail
    have hE := ((Mx.of_bx hB2).put2 1 rfl (.slice none 0 0) (.slice none 0 0)).put 0 rfl ⟨0, 0⟩
    clear c_rv z_rv f_rv c_r z_r f_r hB2
    generalize (((World.setCell _ _ _).setCell _ _).setCell _ _).setCell _ _ = wE at *
    have c_r := fun j => cell_of_row _ _ j _ _ _ (hE.get 1 rfl)
    have z_r := hE.lt 1 rfl
    have c_v := fun j => cell_of_row _ _ j _ _ _ (hE.get 0 rfl)
    have z_v := hE.lt 0 rfl
    refine bodyPost_ret (v := .tuple #[.agg #[.slice none 0 0, .slice none 0 0], rV ⟨0, 0⟩, .int .i64 code]) (by simp [results, Try.results66, go_sem, c_r, z_r, c_v, z_v]) rfl ?_
    exact ⟨_, _, by rw [HX.out.1, HX.out.2.2, HCO.out], by rw [HX.out.2.1]; exact MtOwn.zero_ hE⟩
  subst hc
  have HT2 := Lib.hid (HT.out rfl)
  have HOK2 := Lib.hid (HOK.out rfl)
  clear HT HOK
  by_cases hneg : q.agent < 0
  · have b1 : decide (q.agent < 0) = true := decide_eq_true hneg
    have HX0 := Mt.err_has (m := m) (q := q) (by unfold hasB; rw [decide_eq_false (by omega)]; rfl)
    have HX := Lib.hid (Mt.a_no (m := m) HCO.out (by rw [HX0]; decide))
    rw [HX0] at HX
    clear HX0
    have c_m := fun j => cell_of_row _ _ j _ _ _ (hB2.get 4 rfl)
    have z_m := hB2.lt 4 rfl
    have c_rv := fun j => cell_of_row _ _ j _ _ _ (hB2.get 0 rfl)
    have z_rv := hB2.lt 0 rfl
    have f_rv := fun j => frozen_of_row _ _ j _ _ (hB2.get 0 rfl)
    have c_r := fun j => cell_of_row _ _ j _ _ _ (hB2.get 1 rfl)
    have z_r := hB2.lt 1 rfl
    have f_r := fun j => frozen_of_row _ _ j _ _ (hB2.get 1 rfl)
    have n_rv := hB2.ne 1 0 rfl rfl (by decide)
    have n_vr := hB2.ne 0 1 rfl rfl (by decide)
    simp only at n_rv n_vr
    go_wp2_with fail
    have hE := ((Mx.of_bx hB2).put2 1 rfl (.slice none 0 0) (.slice none 0 0)).put 0 rfl ⟨0, 0⟩
    clear c_m z_m c_rv z_rv f_rv c_r z_r f_r hB2
    generalize (((World.setCell _ _ _).setCell _ _).setCell _ _).setCell _ _ = wE at *
    have c_r := fun j => cell_of_row _ _ j _ _ _ (hE.get 1 rfl)
    have z_r := hE.lt 1 rfl
    have c_v := fun j => cell_of_row _ _ j _ _ _ (hE.get 0 rfl)
    have z_v := hE.lt 0 rfl
    refine bodyPost_ret (v := .tuple #[.agg #[.slice none 0 0, .slice none 0 0], rV ⟨0, 0⟩, .int .i64 2]) (by simp [results, Try.results66, go_sem, c_r, z_r, c_v, z_v]) rfl ?_
    exact ⟨_, _, by rw [HX.out.1, HX.out.2.2], by rw [HX.out.2.1]; exact MtOwn.zero_ hE⟩
  have b1 : decide (q.agent < 0) = false := decide_eq_false hneg
  by_cases hbig : (m.acs.length : Int) ≤ q.agent
  · have b2 : decide ((m.acs.length : Int) ≤ q.agent) = true := decide_eq_true hbig
    have HX0 := Mt.err_has (m := m) (q := q) (by unfold hasB; rw [decide_eq_false (show ¬ q.agent < (m.acs.length : Int) by omega), Bool.and_false])
    have HX := Lib.hid (Mt.a_no (m := m) HCO.out (by rw [HX0]; decide))
    rw [HX0] at HX
    clear HX0
    have c_m := fun j => cell_of_row _ _ j _ _ _ (hB2.get 4 rfl)
    have z_m := hB2.lt 4 rfl
    have c_rv := fun j => cell_of_row _ _ j _ _ _ (hB2.get 0 rfl)
    have z_rv := hB2.lt 0 rfl
    have f_rv := fun j => frozen_of_row _ _ j _ _ (hB2.get 0 rfl)
    have c_r := fun j => cell_of_row _ _ j _ _ _ (hB2.get 1 rfl)
    have z_r := hB2.lt 1 rfl
    have f_r := fun j => frozen_of_row _ _ j _ _ (hB2.get 1 rfl)
    have n_rv := hB2.ne 1 0 rfl rfl (by decide)
    have n_vr := hB2.ne 0 1 rfl rfl (by decide)
    simp only at n_rv n_vr
    go_wp2_with fail
    have hE := ((Mx.of_bx hB2).put2 1 rfl (.slice none 0 0) (.slice none 0 0)).put 0 rfl ⟨0, 0⟩
    clear c_m z_m c_rv z_rv f_rv c_r z_r f_r hB2
    generalize (((World.setCell _ _ _).setCell _ _).setCell _ _).setCell _ _ = wE at *
    have c_r := fun j => cell_of_row _ _ j _ _ _ (hE.get 1 rfl)
    have z_r := hE.lt 1 rfl
    have c_v := fun j => cell_of_row _ _ j _ _ _ (hE.get 0 rfl)
    have z_v := hE.lt 0 rfl
    refine bodyPost_ret (v := .tuple #[.agg #[.slice none 0 0, .slice none 0 0], rV ⟨0, 0⟩, .int .i64 2]) (by simp [results, Try.results66, go_sem, c_r, z_r, c_v, z_v]) rfl ?_
    exact ⟨_, _, by rw [HX.out.1, HX.out.2.2], by rw [HX.out.2.1]; exact MtOwn.zero_ hE⟩
  have b2 : decide ((m.acs.length : Int) ≤ q.agent) = false := decide_eq_false hbig
  by_cases hk : q.kind = 1 ∨ q.kind = 2
  rotate_left
  · have b3 : (q.kind != 1) = true := by simp; omega
    have b4 : (q.kind != 2) = true := by simp; omega
    have HX0 := Mt.err_kind (m := m) (q := q) (by omega) (by omega)
    have HX := Lib.hid (Mt.a_no (m := m) HCO.out (by rw [HX0]; decide))
    rw [HX0] at HX
    clear HX0
    have c_m := fun j => cell_of_row _ _ j _ _ _ (hB2.get 4 rfl)
    have z_m := hB2.lt 4 rfl
    have c_rv := fun j => cell_of_row _ _ j _ _ _ (hB2.get 0 rfl)
    have z_rv := hB2.lt 0 rfl
    have f_rv := fun j => frozen_of_row _ _ j _ _ (hB2.get 0 rfl)
    have c_r := fun j => cell_of_row _ _ j _ _ _ (hB2.get 1 rfl)
    have z_r := hB2.lt 1 rfl
    have f_r := fun j => frozen_of_row _ _ j _ _ (hB2.get 1 rfl)
    have n_rv := hB2.ne 1 0 rfl rfl (by decide)
    have n_vr := hB2.ne 0 1 rfl rfl (by decide)
    simp only at n_rv n_vr
    go_wp2_with fail
    have hE := ((Mx.of_bx hB2).put2 1 rfl (.slice none 0 0) (.slice none 0 0)).put 0 rfl ⟨0, 0⟩
    clear c_m z_m c_rv z_rv f_rv c_r z_r f_r hB2
    generalize (((World.setCell _ _ _).setCell _ _).setCell _ _).setCell _ _ = wE at *
    have c_r := fun j => cell_of_row _ _ j _ _ _ (hE.get 1 rfl)
    have z_r := hE.lt 1 rfl
    have c_v := fun j => cell_of_row _ _ j _ _ _ (hE.get 0 rfl)
    have z_v := hE.lt 0 rfl
    refine bodyPost_ret (v := .tuple #[.agg #[.slice none 0 0, .slice none 0 0], rV ⟨0, 0⟩, .int .i64 2]) (by simp [results, Try.results66, go_sem, c_r, z_r, c_v, z_v]) rfl ?_
    exact ⟨_, _, by rw [HX.out.1, HX.out.2.2], by rw [HX.out.2.1]; exact MtOwn.zero_ hE⟩
  obtain ⟨b34, hb34⟩ : ∃ x, x = ((q.kind != 1) && (q.kind != 2)) := ⟨_, rfl⟩
  obtain ⟨i, hi, hil⟩ : ∃ i : Nat, q.agent = (i : Int) ∧ i < m.acs.length := ⟨q.agent.toNat, by omega, by omega⟩
  obtain ⟨a, ha⟩ : ∃ a, m.acs[i]? = some a := ⟨_, List.getElem?_eq_getElem hil⟩
  have HKD := Lib.hid hk
  have HHAS := Lib.hid (show hasB m.acs.length q.agent = true by rw [hi]; exact hasB_nat hil)
  have HAT := Lib.hid (show acAt m.acs q.agent = a by rw [hi]; exact acAt_of ha)
  obtain ⟨ad, A, c, R, d, A', c', R', d', rfl, hbl, hC1, hC2, hwf, hat⟩ := HH.out.actor ha
  have HAA := Lib.hid (fun (W : World) (hW : Below w.heap.size w W) => hat.next hbl hW)
  have HBL := Lib.hid (fun (W : World) (hW : Below w.heap.size w W) => show (ad.add (i * 8)).block < W.heap.size by rw [block_add]; exact Nat.lt_of_lt_of_le hbl hW.size)
  have HC1 := Lib.hid (fun (W : World) (hW : Below w.heap.size w W) => hC1.next hW)
  have HC2 := Lib.hid (fun (W : World) (hW : Below w.heap.size w W) => hC2.next hW)
  have HAI := Lib.hid ha
  have HIL := Lib.hid hil
  have HLO := Lib.hid (HOK2.out.fit i a ha)
  have z1 : q.agent < (m.acs.length : Int) := by omega
  have z2 : (0 : Int) ≤ q.agent := by omega
  have t0 : q.agent.toNat = i := by omega
  have HQI := Lib.hid t0
  have HZ12 := Lib.hid (And.intro z1 z2)
  have HNG := Lib.hid (And.intro b1 b2)
  clear hneg hbig hwf hC1 hC2 hat ha hbl HH hi hil
  go_upto_region 4 with fail
  go_cut [42] (fun s42 wx => s42 = .bool false ∧ wx = w2)
  case first =>
    have c_m := fun j => cell_of_row _ _ j _ _ _ (hB2.get 4 rfl)
    have z_m := hB2.lt 4 rfl
    clear hb34 b34
    rcases hk with hk | hk
    · have b3 : (q.kind != 1) = false := by rw [hk]; rfl
      clear hk
      go_wp2_with fail
      go_meet
      exact ⟨rfl, rfl⟩
    · have b3 : (q.kind != 1) = true := by rw [hk]; rfl
      have b4 : (q.kind != 2) = false := by rw [hk]; rfl
      clear hk
      go_wp2_with fail
      go_meet
      exact ⟨rfl, rfl⟩
  case rest =>
    obtain ⟨rfl, rfl⟩ := hcut
    clear hk b1 b2 hb34 b34
    obtain ⟨c0, c1, c2, c3, c4, c5, c6, c7⟩ := HAA.out _ hB2.below
    have f1 := HBL.out _ hB2.below
    have c_m := fun j => cell_of_row _ _ j _ _ _ (hB2.get 4 rfl)
    have z_m := hB2.lt 4 rfl
    go_upto_region 7 with fail
    have hB3 := hB2.new rfl (acB a A c R d A' c' R' d')
    clear c_m z_m hB2
    generalize wc.heap.size = gX at *
    generalize wc.alloc _ = w3 at *
    clear c0 c1 c2 c3 c4 c5 c6 c7 f1
    have c_x := fun j => cell_of_row _ _ j _ _ _ (hB3.get 0 rfl)
    have z_x := hB3.lt 0 rfl
    go_upto_region 8 with fail
    have hB4 := hB3.new rfl (cB A c R d a.own)
    clear c_x z_x hB3
    generalize w3.heap.size = gC at *
    generalize w3.alloc _ = w4 at *
    obtain ⟨bt, hbt⟩ : ∃ x, x = (decide ((0 : Int) ≤ a.after) && decide (a.after ≤ a.asked)) := ⟨_, rfl⟩
    have HNOW := Lib.hid (show a.now = (if bt = true then a.told else a.own) by
      have lo := HLO.out.lo
      unfold Ac.now
      rw [hbt]
      by_cases q1 : 0 ≤ a.after
      · by_cases q2 : a.after ≤ a.asked
        · rw [if_pos ⟨by omega, q2⟩, decide_eq_true q1, decide_eq_true q2]; rfl
        · rw [if_neg (fun z => q2 z.2), decide_eq_false q2, Bool.and_false]; rfl
      · rw [if_neg (fun z => q1 (by have := z.1; omega)), decide_eq_false q1]; rfl)
    have c_x := fun j => cell_of_row _ _ j _ _ _ (hB4.get 1 rfl)
    have z_x := hB4.lt 1 rfl
    go_cut [61] (fun s61 wx => s61 = .bool bt ∧ wx = w4)
    case first =>
      have HBT := Lib.hid hbt
      clear hbt HNOW
      cases d1 : decide ((0 : Int) ≤ a.after) with
      | false =>
        have D1 := Lib.hid d1
        go_wp2_with fail
        go_meet
        exact ⟨by rw [HBT.out, D1.out]; rfl, rfl⟩
      | true =>
        have D1 := Lib.hid d1
        cases d2 : decide (a.after ≤ a.asked) with
        | true =>
          have D2 := Lib.hid d2
          go_wp2_with fail
          go_meet
          exact ⟨by rw [HBT.out, D1.out, D2.out]; rfl, rfl⟩
        | false =>
          have D2 := Lib.hid d2
          go_wp2_with fail
          go_meet
          exact ⟨by rw [HBT.out, D1.out, D2.out]; rfl, rfl⟩
    case rest =>
      obtain ⟨rfl, rfl⟩ := hcut
      clear hbt c_x z_x
      go_upto_if 61 with fail
      go_cut [] (fun wx => ∃ A0 c0 R0 d0, (∀ W, Below w.heap.size w W → CIn W.heap.size W A0 c0 R0 d0 a.now) ∧ Bx w [(gC, cB A0 c0 R0 d0 a.now), (gX, acB a A c R d A' c' R' d'), (gV, rB ⟨0, 0⟩), (gR, .cells #[.slice none 0 0, .slice none 0 0] 61), (gB, rB q.b), (gA, rB q.a), (w.heap.size, mB (some ad) s m.acs B dl m.log)] wx)
      case first =>
        have HB8 := Lib.hid hB4
        cases bt with
        | false =>
          have HN := Lib.hid (show a.now = a.own from HNOW.out.trans (if_neg (by decide)))
          clear HNOW hB4
          go_wp2_with fail
          go_meet
          exact ⟨A, c, R, d, fun W hW => by rw [HN.out]; exact HC1.out W hW, by rw [HN.out]; exact HB8.out⟩
        | true =>
          have HN := Lib.hid (show a.now = a.told from HNOW.out.trans (if_pos rfl))
          clear HNOW HB8
          have c_c := fun j => cell_of_row _ _ j _ _ _ (hB4.get 0 rfl)
          have z_c := hB4.lt 0 rfl
          have f_c := fun j => frozen_of_row _ _ j _ _ (hB4.get 0 rfl)
          have c_x := fun j => cell_of_row _ _ j _ _ _ (hB4.get 1 rfl)
          have z_x := hB4.lt 1 rfl
          have HE8 := Lib.hid ((Mx.of_bx hB4).put3 0 rfl (.int .i64 a.told.len) (.slice A' a.told.cuts.length c') (.slice R' a.told.dens.length d')).bx
          clear hB4
          go_wp2_with fail
          go_meet
          exact ⟨A', c', R', d', fun W hW => by rw [HN.out]; exact HC2.out W hW, by rw [HN.out]; exact HE8.out⟩
      case rest =>
        obtain ⟨A0, c0, R0, d0, hcn, hB9⟩ := hcut
        generalize wc = w9 at *
        clear hB4
        have HCN := Lib.hid hcn
        clear hcn HC1 HC2 HNOW 
        obtain ⟨kn, hkn⟩ : ∃ x, x = a.now := ⟨_, rfl⟩
        rw [← hkn] at HCN hB9
        have HKN := Lib.hid hkn
        clear hkn
        obtain ⟨v1, hv1⟩ : ∃ x, x = kn.val q.a q.b := ⟨_, rfl⟩
        obtain ⟨e1, he1⟩ : ∃ x, x = kn.valC q.a q.b := ⟨_, rfl⟩
        obtain ⟨v2, hv2⟩ : ∃ x, x = kn.mark q.a q.b := ⟨_, rfl⟩
        obtain ⟨e2, he2⟩ : ∃ x, x = kn.markC q.a q.b := ⟨_, rfl⟩
        obtain ⟨vv, hvv⟩ : ∃ x, x = ansR a.now q.kind q.a q.b := ⟨_, rfl⟩
        obtain ⟨vc, hvc⟩ : ∃ x, x = ansC a.now q.kind q.a q.b := ⟨_, rfl⟩
        have HV := Lib.hid (fun (V : World) (hV : Below w.heap.size w V) => show Calls Try.prog 115 #[cV A0 c0 R0 d0 kn, rV q.a, rV q.b] V fun e w' => e = .returned (.tuple #[rV v1, .int .i64 e1]) ∧ Below V.heap.size V w' by
          rw [hv1, he1]; exact fvalue_any kn A0 c0 R0 d0 q.a q.b HQ.out.a HQ.out.b V (HCN.out V hV))
        have HMK := Lib.hid (fun (V : World) (hV : Below w.heap.size w V) => show Calls Try.prog 116 #[cV A0 c0 R0 d0 kn, rV q.a, rV q.b] V fun e w' => e = .returned (.tuple #[rV v2, .int .i64 e2]) ∧ Below V.heap.size V w' by
          rw [hv2, he2]; exact fmark_any kn A0 c0 R0 d0 q.a q.b HQ.out.a HQ.out.b V (HCN.out V hV))
        have HK1 := Lib.hid (show q.kind = 1 → vv = v1 ∧ vc = e1 from fun k => by rw [hvv, hvc, hv1, he1, k, HKN.out]; exact ⟨rfl, rfl⟩)
        have HK2 := Lib.hid (show q.kind = 2 → vv = v2 ∧ vc = e2 from fun k => by rw [hvv, hvc, hv2, he2, k, HKN.out]; exact ⟨rfl, rfl⟩)
        have HVC := Lib.hid hvc.symm
        have HVV := Lib.hid hvv.symm
        clear hv1 he1 hv2 he2 hvv hvc HCN
        have c_c := fun j => cell_of_row _ _ j _ _ _ (hB9.get 0 rfl)
        have z_c := hB9.lt 0 rfl
        have c_b := fun j => cell_of_row _ _ j _ _ _ (hB9.get 4 rfl)
        have z_b := hB9.lt 4 rfl
        have c_a := fun j => cell_of_row _ _ j _ _ _ (hB9.get 5 rfl)
        have z_a := hB9.lt 5 rfl
        go_wp2_with fail
        refine (HV.out _ hB9.below).mono ?_
        rintro e w21 ⟨rfl, hb⟩
        have hB21 := hB9.next hb
        clear c_c z_c c_b z_b c_a z_a hb hB9
        clear HV
        go_upto_if 72 with fail
        have hB22 := hB21.new rfl (rB v1)
        clear hB21
        generalize w21.heap.size = gW at *
        generalize w21.alloc _ = w22 at *
        go_cut [17] (fun s17 wx => s17 = .int .i64 vc ∧ Bx w [(gW, rB vv), (gC, cB A0 c0 R0 d0 kn), (gX, acB a A c R d A' c' R' d'), (gV, rB ⟨0, 0⟩), (gR, .cells #[.slice none 0 0, .slice none 0 0] 61), (gB, rB q.b), (gA, rB q.a), (w.heap.size, mB (some ad) s m.acs B dl m.log)] wx)
        case first =>
          rcases HKD.out with k | k
          · have b5 : (q.kind == 2) = false := by rw [k]; rfl
            obtain ⟨e3, e4⟩ := HK1.out k
            subst e3 e4
            have HBv := Lib.hid hB22
            clear k hB22 HK1 HK2
            go_wp2_with fail
            go_meet
            exact ⟨rfl, HBv.out⟩
          · have b5 : (q.kind == 2) = true := by rw [k]; rfl
            obtain ⟨e3, e4⟩ := HK2.out k
            subst e3 e4
            clear k HK1 HK2
            have c_c := fun j => cell_of_row _ _ j _ _ _ (hB22.get 1 rfl)
            have z_c := hB22.lt 1 rfl
            have c_b := fun j => cell_of_row _ _ j _ _ _ (hB22.get 5 rfl)
            have z_b := hB22.lt 5 rfl
            have c_a := fun j => cell_of_row _ _ j _ _ _ (hB22.get 6 rfl)
            have z_a := hB22.lt 6 rfl
            go_wp2_with fail
            refine (HMK.out _ hB22.below).mono ?_
            rintro e w23 ⟨rfl, hb⟩
            have hB23 := hB22.next hb
            clear c_c z_c c_b z_b c_a z_a hb hB22
            have c_v := fun j => cell_of_row _ _ j _ _ _ (hB23.get 0 rfl)
            have z_v := hB23.lt 0 rfl
            have f_v := fun j => frozen_of_row _ _ j _ _ (hB23.get 0 rfl)
            have HBv := Lib.hid (hB23.put 0 rfl vv)
            clear hB23
            go_wp2_with fail
            go_meet
            exact ⟨rfl, HBv.out⟩
        case rest =>
          obtain ⟨rfl, hBc⟩ := hcut
          clear hB22
          clear HMK HK1 HK2
          by_cases ec : vc = 0
          rotate_left
          · have b5 : (vc != 0) = true := by simpa using ec
            have HX0 := Mt.err_ans (m := m) HHAS.out HKD.out HAT.out (by rw [HVC.out]; exact ec)
            rw [HVC.out] at HX0
            have HX := Lib.hid (Mt.a_no (m := m) HCO.out (by rw [HX0]; exact ec))
            rw [HX0] at HX
            clear ec HX0
            have c_rv := fun j => cell_of_row _ _ j _ _ _ (hBc.get 3 rfl)
            have z_rv := hBc.lt 3 rfl
            have f_rv := fun j => frozen_of_row _ _ j _ _ (hBc.get 3 rfl)
            have c_r := fun j => cell_of_row _ _ j _ _ _ (hBc.get 4 rfl)
            have z_r := hBc.lt 4 rfl
            have f_r := fun j => frozen_of_row _ _ j _ _ (hBc.get 4 rfl)
            have n_rv := hBc.ne 4 3 rfl rfl (by decide)
            have n_vr := hBc.ne 3 4 rfl rfl (by decide)
            simp only at n_rv n_vr
            go_wp2_with fail
            have hE := ((Mx.of_bx hBc).put2 4 rfl (.slice none 0 0) (.slice none 0 0)).put 3 rfl ⟨0, 0⟩
            clear c_rv z_rv f_rv c_r z_r f_r hBc
            generalize (((World.setCell _ _ _).setCell _ _).setCell _ _).setCell _ _ = wE at *
            have c_r := fun j => cell_of_row _ _ j _ _ _ (hE.get 4 rfl)
            have z_r := hE.lt 4 rfl
            have c_v := fun j => cell_of_row _ _ j _ _ _ (hE.get 3 rfl)
            have z_v := hE.lt 3 rfl
            refine bodyPost_ret (v := .tuple #[.agg #[.slice none 0 0, .slice none 0 0], rV ⟨0, 0⟩, .int .i64 vc]) (by simp [results, Try.results66, go_sem, c_r, z_r, c_v, z_v]) rfl ?_
            exact ⟨_, _, by rw [HX.out.1, HX.out.2.2], by rw [HX.out.2.1]; exact MtOwn.zero_ hE⟩
          subst ec
          have hlm := HOK2.out.q
          by_cases hfull : m.log.length = 2000
          · have b6 : ((m.log.length : Int) == 2000) = true := beq_iff_eq.2 (by omega)
            have HX0 := Mt.err_many (m := m) HHAS.out HKD.out HAT.out HVC.out (by omega)
            have HX := Lib.hid (Mt.a_no (m := m) HCO.out (by rw [HX0]; decide))
            rw [HX0] at HX
            clear hfull HX0 hlm
            have c_m := fun j => cell_of_row _ _ j _ _ _ (hBc.get 7 rfl)
            have z_m := hBc.lt 7 rfl
            have c_rv := fun j => cell_of_row _ _ j _ _ _ (hBc.get 3 rfl)
            have z_rv := hBc.lt 3 rfl
            have f_rv := fun j => frozen_of_row _ _ j _ _ (hBc.get 3 rfl)
            have c_r := fun j => cell_of_row _ _ j _ _ _ (hBc.get 4 rfl)
            have z_r := hBc.lt 4 rfl
            have f_r := fun j => frozen_of_row _ _ j _ _ (hBc.get 4 rfl)
            have n_rv := hBc.ne 4 3 rfl rfl (by decide)
            have n_vr := hBc.ne 3 4 rfl rfl (by decide)
            simp only at n_rv n_vr
            go_wp2_with fail
            have hE := ((Mx.of_bx hBc).put2 4 rfl (.slice none 0 0) (.slice none 0 0)).put 3 rfl ⟨0, 0⟩
            clear c_m z_m c_rv z_rv f_rv c_r z_r f_r hBc
            generalize (((World.setCell _ _ _).setCell _ _).setCell _ _).setCell _ _ = wE at *
            have c_r := fun j => cell_of_row _ _ j _ _ _ (hE.get 4 rfl)
            have z_r := hE.lt 4 rfl
            have c_v := fun j => cell_of_row _ _ j _ _ _ (hE.get 3 rfl)
            have z_v := hE.lt 3 rfl
            refine bodyPost_ret (v := .tuple #[.agg #[.slice none 0 0, .slice none 0 0], rV ⟨0, 0⟩, .int .i64 4]) (by simp [results, Try.results66, go_sem, c_r, z_r, c_v, z_v]) rfl ?_
            exact ⟨_, _, by rw [HX.out.1, HX.out.2.2], by rw [HX.out.2.1]; exact MtOwn.zero_ hE⟩
          have b6 : ((m.log.length : Int) == 2000) = false := Bool.eq_false_iff.2 (fun e => hfull (by have := beq_iff_eq.1 e; omega))
          have HERR := Lib.hid (Mt.err_ok (m := m) HHAS.out HKD.out HAT.out HVC.out (by omega))
          have HX := Lib.hid (Mt.a_yes (m := m) HCO.out HERR.out)
          have HANS := Lib.hid (show m.ans q = vv by unfold Mt.ans; rw [HAT.out]; exact HVV.out)
          have HSTEP := Lib.hid (show m.step q = ⟨m.acs.set i a.more, m.log ++ [{ q with ans := vv }]⟩ by unfold Mt.step; rw [HAT.out, HQI.out, HANS.out])
          have HVW := Lib.hid (show vv.wf by rw [← HVV.out]; exact ansR_wf _ _ _)
          have HAS := HLO.out.asked
          have HAS2 := ofL_le m.log (i : Int)
          have HW1 := Lib.hid (show a.asked + 1 ≤ 9223372036854775807 by omega)
          have HWR := Lib.hid (show IntKind.i64.wrap (a.asked + 1) = a.asked + 1 ∧ wrap64 (a.asked + 1) = a.asked + 1 from ⟨IntWalk.i64_in _ (by omega), IntWalk.wrap64_in _ (by omega)⟩)
          have HLM := Lib.hid (show m.log.length ≤ 2000 from hlm)
          clear hfull HAS HAS2 hlm
          have c_m := fun j => cell_of_row _ _ j _ _ _ (hBc.get 7 rfl)
          have z_m := hBc.lt 7 rfl
          go_wp2_with fail
          refine (HT2.out _ hBc.below).mono ?_
          rintro e wt ⟨va, vl, rfl, hMt⟩
          have hJ : MtOwn w va vl m [(gW, rB vv), (gC, cB A0 c0 R0 d0 kn), (gX, acB a A c R d A' c' R' d'), (gV, rB ⟨0, 0⟩), (gR, .cells #[.slice none 0 0, .slice none 0 0] 61), (gB, rB q.b), (gA, rB q.a), (w.heap.size, mB (some ad) s m.acs B dl m.log)] wt := MtOwn.join (Mx.of_bx hBc) hMt
          clear HT2 hMt b6
          clear c_m z_m hBc
          have HWF := Lib.hid hJ.wf
          obtain ⟨⟨xs, hms⟩, hwfx⟩ := hJ
          clear hwfx
          have ho := hms.row 0 rfl
          obtain ⟨P, cp, rfl, _, _⟩ := own_nil_len (v := va) (n := m.acs.length) ho
          obtain ⟨gN, hgN⟩ := own_someA ho HOK2.out.pos
          obtain ⟨an, han⟩ : ∃ x, x = (⟨gN, 0, none⟩ : Addr) := ⟨_, rfl⟩
          rw [← han] at hgN
          subst hgN
          have HAD := Lib.hid han
          obtain ⟨S1, cs, rfl, _, _⟩ := own_nil_len (v := vl) (n := m.log.length) (hms.row 1 rfl)
          clear ho han
          obtain ⟨hwf2, A1, k1, R1, l1, A2, k2, R2, l2, hxs, _⟩ := hms.here.plain.actor HAI.out
          have HXS := Lib.hid hxs
          clear hxs hwf2
          have HAC := Lib.hid (fun (F : World → Prop) (L : List (Nat × Obj)) (r : Rw) (V : World) (k : Ms F w L [⟨.slice (some an) m.acs.length cp, 116, 8, m.acs.length, xs⟩, r] V) => show AcAt V an i a A1 k1 R1 l1 A2 k2 R2 l2 ∧ an.block < V.heap.size ∧ V.frozen? ⟨(an.add (i * 8)).block, (an.add (i * 8)).off + 7, none⟩ = false by
            have had := HAD.out
            subst had
            obtain ⟨k1, k2⟩ := k.acAt 0 rfl HIL.out HXS.out
            refine ⟨k1, k2, ?_⟩
            rw [addr_row (by decide)]
            exact (k.rowAt 0 rfl).2.1 _)
          go_upto_region 18 with fail
          have hM18 := hms.new (g := wt.heap.size) rfl (.cells #[.slice (some an) m.acs.length cp, .slice S1 m.log.length cs] 61)
          clear hms
          generalize wt.heap.size = gU at *
          generalize wt.alloc _ = w18 at *
          have c_u := fun j => cell_of_row _ _ j _ _ _ (hM18.get 0 rfl)
          have z_u := hM18.lt 0 rfl
          have c_v := fun j => cell_of_row _ _ j _ _ _ (hM18.get 1 rfl)
          have z_v := hM18.lt 1 rfl
          have c_b := fun j => cell_of_row _ _ j _ _ _ (hM18.get 6 rfl)
          have z_b := hM18.lt 6 rfl
          have c_a := fun j => cell_of_row _ _ j _ _ _ (hM18.get 7 rfl)
          have z_a := hM18.lt 7 rfl
          have HXL := Lib.hid (hM18.row 0 rfl).1
          have hMn := hM18.new (g := w18.heap.size) rfl (.cells #[.int .i64 q.agent, .int .u8 q.kind, .int .i64 q.a.n, .int .i64 q.a.d, .int .i64 q.b.n, .int .i64 q.b.d, .int .i64 vv.n, .int .i64 vv.d] 84)
          have hlm := HLM.out
          go_upto_region 19 with (at_builtin; refine wpList_append_any _ rfl (.tmp 94) (.tmp 101) 59 rfl w.heap.size 84 j0 (.agg #[.int .i64 0, .int .u8 0, .int .i64 0, .int .i64 0, .int .i64 0, .int .i64 0, .int .i64 0, .int .i64 0]) 8 64 Try.underlying59 hj0 hy0 hy1 hy2 rfl (by omega) (.slice S1 m.log.length cs) m.log.length (lgV m.log) rfl (hMn.row 1 rfl) _ (some ⟨w18.heap.size, 0, none⟩) 1 1 [.int .i64 q.agent, .int .u8 q.kind, .int .i64 q.a.n, .int .i64 q.a.d, .int .i64 q.b.n, .int .i64 q.b.d, .int .i64 vv.n, .int .i64 vv.d] rfl (reads_lit (n := 1) (s := 8) (hMn.get 0 rfl) rfl) (by intro u hu; simp at hu; rcases hu with rfl | rfl | rfl | rfl | rfl | rfl | rfl | rfl <;> rfl) (by unfold maxLen; omega) (by omega) hMn.below.size ?_; intro v8 wb8 hown hgr hat; obtain ⟨S2, cs2, rfl, _, _⟩ := own_nil_len hown; have hMg := hMn.grow 1 rfl hgr hown hat; have c_u2 := fun j => cell_of_row _ _ j _ _ _ (hMg.get 1 rfl); have f_u2 := fun j => frozen_of_row _ _ j _ _ (hMg.get 1 rfl); have z_u2 := hMg.lt 1 rfl)
          have hM19 := (hMg.set 1 rfl 1 (.slice S2 (m.log.length + 1) cs2)).drop
          clear c_u z_u c_v z_v c_b z_b c_a z_a hMn hMg hM18 hown hgr hat c_u2 f_u2 z_u2 hlm
          generalize World.setCell _ _ _ = w19 at *
          have hM19 : Ms (fun V => Lay kAcU V m.acs xs) w [(gU, .cells #[.slice (some an) m.acs.length cp, .slice S2 (m.log.length + 1) cs2] 61), (gW, rB vv), (gC, cB A0 c0 R0 d0 kn), (gX, acB a A c R d A' c' R' d'), (gV, rB ⟨0, 0⟩), (gR, .cells #[.slice none 0 0, .slice none 0 0] 61), (gB, rB q.b), (gA, rB q.a), (w.heap.size, mB (some ad) s m.acs B dl m.log)] [⟨.slice (some an) m.acs.length cp, 116, 8, m.acs.length, xs⟩, ⟨.slice S2 (m.log.length + 1) cs2, 84, 8, m.log.length + 1, lgV m.log ++ [.int .i64 q.agent, .int .u8 q.kind, .int .i64 q.a.n, .int .i64 q.a.d, .int .i64 q.b.n, .int .i64 q.b.d, .int .i64 vv.n, .int .i64 vv.d]⟩] w19 := hM19
          have c_u := fun j => cell_of_row _ _ j _ _ _ (hM19.get 0 rfl)
          have z_u := hM19.lt 0 rfl
          obtain ⟨⟨c0, c1, c2, c3, c4, c5, c6, c7⟩, hbA, fA⟩ := HAC.out _ _ _ _ hM19
          have f1 : (an.add (i * 8)).block < w19.heap.size := by rw [block_add]; exact hbA
          have wr1 := HWR.out.1
          have wr2 := HWR.out.2
          obtain ⟨z1, z2⟩ := HZ12.out
          have t0 := HQI.out
          go_upto_region 20 with fail
          obtain rfl := HAD.out
          rw [addr_row (g := gN) (i := i) (j := 7) (by decide)]
          have hM20 := hM19.setRow 0 rfl (i * 8 + 7) (.int .i64 (a.asked + 1))
          clear hM19 c0 c1 c2 c3 c4 c5 c6 c7 hbA fA f1 wr1 wr2 z1 z2 t0
          generalize World.setCell _ _ _ = w20 at *
          have hM20 : Ms (fun V => Lay kAcU V m.acs xs) w [(gU, .cells #[.slice (some ⟨gN, 0, none⟩) m.acs.length cp, .slice S2 (m.log.length + 1) cs2] 61), (gW, rB vv), (gC, cB A0 c0 R0 d0 kn), (gX, acB a A c R d A' c' R' d'), (gV, rB ⟨0, 0⟩), (gR, .cells #[.slice none 0 0, .slice none 0 0] 61), (gB, rB q.b), (gA, rB q.a), (w.heap.size, mB (some ad) s m.acs B dl m.log)] [⟨.slice (some ⟨gN, 0, none⟩) m.acs.length cp, 116, 8, m.acs.length, xs.set (i * 8 + 7) (.int .i64 (a.asked + 1))⟩, ⟨.slice S2 (m.log.length + 1) cs2, 84, 8, m.log.length + 1, lgV m.log ++ [.int .i64 q.agent, .int .u8 q.kind, .int .i64 q.a.n, .int .i64 q.a.d, .int .i64 q.b.n, .int .i64 q.b.d, .int .i64 vv.n, .int .i64 vv.d]⟩] w20 := hM20
          clear c_u z_u
          go_wp2_with fail
          refine wp_region_T (Bx w [(gU, .cells #[.slice (some ⟨gN, 0, none⟩) m.acs.length cp, .slice S2 (m.log.length + 1) cs2] 61), (gW, rB vv)]) 5 (by kernel_rfl) (by rfl) ((hM20.keep (List.Sublist.cons_cons _ (List.Sublist.cons_cons _ (List.nil_sublist _)))).drew) (fun wq1 hbq => ?_)
          have hB61 := hM20.next hbq
          clear hM20 hbq
          refine wpAnyT_go (Bx.grows _ _) (hB61.keep (List.Sublist.cons_cons _ (List.Sublist.cons_cons _ (List.nil_sublist _)))) [0, 1] 3 (by kernel_rfl) ?_
          apply Exists.intro
          refine ⟨fun G hG hN => ?_, ?_⟩
          · have c_u := fun (e : GE (Bx w [(gU, .cells #[.slice (some ⟨gN, 0, none⟩) m.acs.length cp, .slice S2 (m.log.length + 1) cs2] 61), (gW, rB vv)]) G) j => cell_of_row e.w _ j _ _ _ ((GE.h e).get 0 rfl)
            have z_u := fun (e : GE (Bx w [(gU, .cells #[.slice (some ⟨gN, 0, none⟩) m.acs.length cp, .slice S2 (m.log.length + 1) cs2] 61), (gW, rB vv)]) G) => (GE.h e).lt 0 rfl
            have c_v := fun (e : GE (Bx w [(gU, .cells #[.slice (some ⟨gN, 0, none⟩) m.acs.length cp, .slice S2 (m.log.length + 1) cs2] 61), (gW, rB vv)]) G) j => cell_of_row e.w _ j _ _ _ ((GE.h e).get 1 rfl)
            have z_v := fun (e : GE (Bx w [(gU, .cells #[.slice (some ⟨gN, 0, none⟩) m.acs.length cp, .slice S2 (m.log.length + 1) cs2] 61), (gW, rB vv)]) G) => (GE.h e).lt 1 rfl
            simp only [pickOps, List.getElem?_toArray, List.getElem?_cons_zero, List.getElem?_cons_succ]
            repeat (first | go_big_quiet_step (fail) | quiet_step (fail))
            exact wpQuiet_nil rfl
          refine wpAnyT_all (rs := [2]) (by kernel_rfl) (by simp) (fun wa2 hwa2 hRwa2 i hi => ?_)
          have hB62 := hB61.next hwa2
          clear hB61 hwa2 hRwa2
          obtain rfl := List.mem_singleton.1 hi
          refine wpOp_step rfl (fun Kc hKc => ?_)
          have c_r := fun j => cell_of_row _ _ j _ _ _ (hB62.get 5 rfl)
          have z_r := hB62.lt 5 rfl
          have f_r := fun j => frozen_of_row _ _ j _ _ (hB62.get 5 rfl)
          go_simp
          have hB63 := hB62.put2 5 rfl (.slice (some ⟨gN, 0, none⟩) m.acs.length cp) (.slice S2 (m.log.length + 1) cs2)
          refine hKc _ _ ⟨(hB63.keep (List.Sublist.cons_cons _ (List.Sublist.cons_cons _ (List.nil_sublist _)))), ?_⟩
          clear c_r z_r f_r hKc Kc hB62
          generalize (wa2.setCell _ _).setCell _ _ = wb3 at *
          refine wpAnyT_all (rs := [3]) (by kernel_rfl) (by simp) (fun wa4 hwa4 hRwa4 i hi => ?_)
          have hB64 := hB63.next hwa4
          clear hB63 hwa4 hRwa4
          obtain rfl := List.mem_singleton.1 hi
          refine wpOp_step rfl (fun Kc hKc => ?_)
          have c_rv := fun j => cell_of_row _ _ j _ _ _ (hB64.get 4 rfl)
          have z_rv := hB64.lt 4 rfl
          have f_rv := fun j => frozen_of_row _ _ j _ _ (hB64.get 4 rfl)
          go_simp
          have hB65 := hB64.put2 4 rfl (.int .i64 vv.n) (.int .i64 vv.d)
          refine hKc _ _ ⟨(hB65.keep (List.Sublist.cons_cons _ (List.Sublist.cons_cons _ (List.nil_sublist _)))), ?_⟩
          clear c_rv z_rv f_rv hKc Kc hB64
          generalize (wa4.setCell _ _).setCell _ _ = wb5 at *
          refine wpAnyT_go (Bx.grows _ _) (hB65.keep (List.Sublist.cons_cons _ (List.Sublist.cons_cons _ (List.nil_sublist _)))) [4] 0 (by kernel_rfl) ?_
          apply Exists.intro
          refine ⟨fun G hG hN => ?_, ?_⟩
          · have c_u := fun (e : GE (Bx w [(gU, .cells #[.slice (some ⟨gN, 0, none⟩) m.acs.length cp, .slice S2 (m.log.length + 1) cs2] 61), (gW, rB vv)]) G) j => cell_of_row e.w _ j _ _ _ ((GE.h e).get 0 rfl)
            have z_u := fun (e : GE (Bx w [(gU, .cells #[.slice (some ⟨gN, 0, none⟩) m.acs.length cp, .slice S2 (m.log.length + 1) cs2] 61), (gW, rB vv)]) G) => (GE.h e).lt 0 rfl
            have c_v := fun (e : GE (Bx w [(gU, .cells #[.slice (some ⟨gN, 0, none⟩) m.acs.length cp, .slice S2 (m.log.length + 1) cs2] 61), (gW, rB vv)]) G) j => cell_of_row e.w _ j _ _ _ ((GE.h e).get 1 rfl)
            have z_v := fun (e : GE (Bx w [(gU, .cells #[.slice (some ⟨gN, 0, none⟩) m.acs.length cp, .slice S2 (m.log.length + 1) cs2] 61), (gW, rB vv)]) G) => (GE.h e).lt 1 rfl
            simp only [pickOps, List.getElem?_toArray, List.getElem?_cons_zero, List.getElem?_cons_succ]
            repeat (first | go_big_quiet_step (fail) | quiet_step (fail))
            exact wpQuiet_nil rfl
          refine wpAnyT_done (by kernel_rfl) (fun wd6 hwd6 hRwd6 => ?_) _
          refine NoPanic.normal ?_
          have hB66 := hB65.next hwd6
          clear hB65 hwd6 hRwd6
          go_wp2_with fail
          have hE := hB66
          clear hB66
          have c_r := fun j => cell_of_row _ _ j _ _ _ (hE.get 5 rfl)
          have z_r := hE.lt 5 rfl
          have c_v := fun j => cell_of_row _ _ j _ _ _ (hE.get 4 rfl)
          have z_v := hE.lt 4 rfl
          refine bodyPost_ret (v := .tuple #[.agg #[.slice (some ⟨gN, 0, none⟩) m.acs.length cp, .slice S2 (m.log.length + 1) cs2], rV vv, .int .i64 0]) (by simp [results, Try.results66, go_sem, c_r, z_r, c_v, z_v]) rfl ?_
          have hF : Ms (fun V => Lay kAcU V (m.acs.set i a.more) (xs.set (i * 8 + 7) (.int .i64 (a.asked + 1)))) w [] [⟨.slice (some ⟨gN, 0, none⟩) m.acs.length cp, 116, 8, m.acs.length, xs.set (i * 8 + 7) (.int .i64 (a.asked + 1))⟩, ⟨.slice S2 (m.log.length + 1) cs2, 84, 8, m.log.length + 1, lgV m.log ++ [.int .i64 q.agent, .int .u8 q.kind, .int .i64 q.a.n, .int .i64 q.a.d, .int .i64 q.b.n, .int .i64 q.b.d, .int .i64 vv.n, .int .i64 vv.d]⟩] _ := (hE.imp (fun V k => k.more HXL.out HAI.out HW1.out)).subl (List.nil_sublist _)
          refine ⟨_, _, by rw [HX.out.1, HX.out.2.2, HANS.out], ?_⟩
          rw [HX.out.2.1, HSTEP.out]
          refine ⟨⟨xs.set (i * 8 + 7) (.int .i64 (a.asked + 1)), ?_⟩, fun p hp => ?_⟩
          · show Ms _ w _ [⟨.slice (some ⟨gN, 0, none⟩) m.acs.length cp, 116, 8, (m.acs.set i a.more).length, _⟩, ⟨.slice S2 (m.log.length + 1) cs2, 84, 8, (m.log ++ [{ q with ans := vv }]).length, lgV (m.log ++ [{ q with ans := vv }])⟩] _
            rw [List.length_set, List.length_append, ← lgV_push]
            exact hF
          · rcases List.mem_append.1 hp with u | u
            · exact HWF.out p u
            · obtain rfl := List.mem_singleton.1 u
              exact qy_wf HQ.out HVW.out
end Go.Proofs.Ytgcbmnohhbcfiaa
