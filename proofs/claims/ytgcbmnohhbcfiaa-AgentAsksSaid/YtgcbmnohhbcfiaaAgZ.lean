/- The reference's Open and Honest. -/
import Derived.Test.YtgcbmnohhbcfiaaAgX
import Derived.Test.YtgcbmnohhbcfiaaAgH
import Derived.Test.YtgcbmnohhbcfiaaAsRt
namespace Go.Proofs.Ytgcbmnohhbcfiaa
open Go.RowKit Go.Deep
set_option linter.unusedVariables false
set_option linter.unusedSimpArgs false

set_option maxRecDepth 100000 in
set_option maxHeartbeats 16000000 in
theorem fmopen_any (acs : List Ac) (S : Option Addr) (s : Nat) (w : World) (h : AsIn w.heap.size w S s acs) :
    Calls Try.prog 64 #[.slice S acs.length s] w (MopenRes acs w) := by
  have HC := Lib.hid (fun (W : World) (hW : Below w.heap.size w W) => fmcheck_any acs S s [] none 0 W (h.next hW) (RIn.nil _ _))
  have HB := Lib.hid (fun (hc : meetC acs [] = 0) (W : World) (hW : Below w.heap.size w W) => fmtwin_any acs S s [] none 0 W (h.next hW) (RIn.nil _ _) (MeetOk.small (meetC_zero.1 hc)))
  have hM0 : Mx w [(w.heap.size, .cells #[.slice none 0 0, .slice none 0 0] 61)] [] (w.alloc (.cells #[.slice none 0 0, .slice none 0 0] 61)) := (Mx.of_bx (Bx.start w)).new rfl _
  clear h
  obtain ⟨code, hco⟩ : ∃ x, x = meetC acs [] := ⟨_, rfl⟩
  rw [← hco] at HC HB
  have HCO := Lib.hid hco
  have HO := Lib.hid (show openM acs = (if code = 0 then ⟨acs, []⟩ else Mt.none_) by rw [hco]; rfl)
  clear hco
  go_enter Try.func64, Try.ntmps64
  go_upto_region 2 with fail
  have hM1 := hM0.new (g := w.heap.size + 1) (by simp) (.cells #[.slice S acs.length s, .slice none 0 0] 61)
  clear hM0
  generalize hw0 : (w.alloc (.cells #[.slice none 0 0, .slice none 0 0] 61)).alloc (.cells #[.slice S acs.length s, .slice none 0 0] 61) = w0 at *
  clear hw0
  generalize w.heap.size + 1 = gM at *
  have c_m := fun j => cell_of_row _ _ j _ _ _ (hM1.get 0 rfl)
  have z_m := hM1.lt 0 rfl
  go_wp2_with fail
  refine (HC.out _ hM1.below).mono ?_
  rintro e w2 ⟨rfl, hb⟩
  have hB2 := hM1.next hb
  clear c_m z_m hb hM1
  clear HC
  by_cases hc : code = 0
  rotate_left
  · have b1 : (code != 0) = true := by simpa using hc
    rw [if_neg hc] at HO
    clear hc HB
    have c_r := fun j => cell_of_row _ _ j _ _ _ (hB2.get 1 rfl)
    have z_r := hB2.lt 1 rfl
    have f_r := fun j => frozen_of_row _ _ j _ _ (hB2.get 1 rfl)
    go_wp2_with fail
    have hE := hB2.put2 1 rfl (.slice none 0 0) (.slice none 0 0)
    clear c_r z_r f_r hB2
    generalize (w2.setCell _ _).setCell _ _ = wE at *
    have c_r := fun j => cell_of_row _ _ j _ _ _ (hE.get 1 rfl)
    have z_r := hE.lt 1 rfl
    refine bodyPost_ret (v := .tuple #[.agg #[.slice none 0 0, .slice none 0 0], .int .i64 code]) (by simp [results, Try.results64, go_sem, c_r, z_r]) rfl ?_
    exact ⟨_, _, by rw [HCO.out], by rw [HO.out]; exact MtOwn.zero_ hE⟩
  subst hc
  rw [if_pos rfl] at HO
  have HB2 := Lib.hid (HB.out rfl)
  clear HB
  have c_m := fun j => cell_of_row _ _ j _ _ _ (hB2.get 0 rfl)
  have z_m := hB2.lt 0 rfl
  go_wp2_with fail
  refine (HB2.out _ hB2.below).mono ?_
  rintro e w2 ⟨va, vl, rfl, hMt⟩
  obtain ⟨P, cp, S2, cs2, rfl, rfl, _⟩ := hMt.fresh
  have hJ : MtOwn w (.slice P acs.length cp) (.slice S2 ([] : List Qy).length cs2) ⟨acs, []⟩ [(gM, .cells #[.slice S acs.length s, .slice none 0 0] 61), (w.heap.size, .cells #[.slice none 0 0, .slice none 0 0] 61)] w2 := MtOwn.join hB2 hMt
  clear hMt HB2
  clear c_m z_m hB2
  have c_r := fun j => cell_of_row _ _ j _ _ _ (hJ.get 1 rfl)
  have z_r := hJ.lt 1 rfl
  have f_r := fun j => frozen_of_row _ _ j _ _ (hJ.get 1 rfl)
  go_wp2_with fail
  have hE := hJ.put2 1 rfl (.slice P acs.length cp) (.slice S2 ([] : List Qy).length cs2)
  clear hJ c_r z_r f_r
  simp only [List.length_nil] at hE
  generalize (w2.setCell _ _).setCell _ _ = wE at *
  have c_r := fun j => cell_of_row _ _ j _ _ _ (hE.get 1 rfl)
  have z_r := hE.lt 1 rfl
  refine bodyPost_ret (v := .tuple #[.agg #[.slice P acs.length cp, .slice S2 0 cs2], .int .i64 0]) (by simp [results, Try.results64, go_sem, c_r, z_r]) rfl ?_
  exact ⟨_, _, by rw [HCO.out], by rw [HO.out]; exact hE.subl (List.nil_sublist _)⟩
theorem rep_all (ks : List Ck) : ∀ l : List Qy, decide (repN ks l = l.length) = l.all (rightB ks)
  | [] => rfl
  | q :: l => by
    have ih := rep_all ks l
    have le := repN_le ks l
    unfold repN
    cases hr : rightB ks q with
    | false => rw [if_neg (by decide), List.all_cons, hr, decide_eq_false (by simp)]; rfl
    | true =>
      rw [if_pos rfl, List.all_cons, hr, Bool.true_and, ← ih, List.length_cons]
      exact decide_eq_decide.2 (by omega)
theorem all_take {p : Qy → Bool} {l : List Qy} {k : Nat} {q : Qy} (h : l[k]? = some q) : (l.take (k + 1)).all p = ((l.take k).all p && p q) := by
  rw [List.take_add_one, h, List.all_append]; simp
theorem hon_take {m : Mt} {k : Nat} (hk : k < m.acs.length) : m.honL.take (k + 1) = m.honL.take k ++ [m.hon k] := by
  unfold Mt.honL
  rw [List.take_add_one, List.getElem?_map, List.getElem?_range hk]; rfl
set_option maxRecDepth 100000 in
set_option maxHeartbeats 64000000 in
theorem fhonest_any (m : Mt) (S : Option Addr) (s : Nat) (B : Option Addr) (dl : Nat) (w : World) (h : AsIn w.heap.size w S s m.acs) (hl : LgIn w.heap.size w B dl m.log) :
    Calls Try.prog 68 #[mV S s m.acs B dl m.log] w (HonestRes m w) := by
  have HC := Lib.hid (fun (W : World) (hW : Below w.heap.size w W) => fmcheck_any m.acs S s m.log B dl W (h.next hW) (hl.next hW))
  have HH := Lib.hid (fun (W : World) (hW : Below w.heap.size w W) => h.next hW)
  have HLG := Lib.hid (fun (W : World) (hW : Below w.heap.size w W) => hl.next hW)
  have hM0 : Mx w [(w.heap.size, mB S s m.acs B dl m.log)] [] (w.alloc (mB S s m.acs B dl m.log)) := (Mx.of_bx (Bx.start w)).new rfl _
  obtain ⟨i0, hi0, hz0, hz1, hz2⟩ := info_parts infoBl
  clear h hl
  obtain ⟨code, hco⟩ : ∃ x, x = meetC m.acs m.log := ⟨_, rfl⟩
  rw [← hco] at HC
  have HCO := Lib.hid (show m.code = code from hco.symm)
  have HOK := Lib.hid (fun (e : code = 0) => show MtOk m from meetC_zero.1 (by rw [← hco]; exact e))
  clear hco
  go_enter Try.func68, Try.ntmps68
  try dsimp only [List.append]
  go_upto_region 1 with fail
  generalize hw0 : w.alloc (mB S s m.acs B dl m.log) = w0 at *
  clear hw0
  have c_m := fun j => cell_of_row _ _ j _ _ _ (hM0.get 0 rfl)
  have z_m := hM0.lt 0 rfl
  go_wp2_with fail
  refine (HC.out _ hM0.below).mono ?_
  rintro e w2 ⟨rfl, hb⟩
  have hB2 := hM0.next hb
  clear c_m z_m hb hM0
  clear HC
  by_cases hc : code = 0
  rotate_left
  · have b1 : (code != 0) = true := by simpa using hc
    have HX := Lib.hid (show m.honest = [] from if_neg (by rw [HCO.out]; exact hc))
    clear hc
    have HE := Lib.hid hB2.below
    clear hB2
    go_wp2_with fail
    refine bodyPost_ret (v := .tuple #[.slice none 0 0, .int .i64 code]) (by simp [results, Try.results68, go_sem]) rfl ?_
    exact ⟨none, 0, by rw [HX.out, HCO.out]; rfl, by rw [HX.out]; exact RIn.nil _ _, HE.out⟩
  subst hc
  have HOK2 := Lib.hid (HOK.out rfl)
  clear HOK
  obtain ⟨kF, hkF⟩ : ∃ x, x = cksOf false m.acs := ⟨_, rfl⟩
  have HKF := Lib.hid hkF
  have HCK := Lib.hid (fun (V : World) (hV : Below w.heap.size w V) => show Calls Try.prog 117 #[.slice S m.acs.length s, .bool false] V (CakesRes kF V) by
    rw [hkF]; exact fcakes_false m.acs S s V (HH.out V hV) (by have := HOK2.out.m; omega))
  clear hkF
  have c_m := fun j => cell_of_row _ _ j _ _ _ (hB2.get 0 rfl)
  have z_m := hB2.lt 0 rfl
  go_wp2_with fail
  refine (HCK.out _ hB2.below).mono ?_
  rintro e w4 ⟨A7, c7, rfl, hC7, hb⟩
  have hB3 := hB2.next hb
  clear hb HCK
  clear c_m z_m hB2
  have HCC := Lib.hid (fun (V : World) (hV : Below w4.heap.size w4 V) => hC7.next hV)
  have HCM := Lib.hid (fun (V : World) (hV : Below w4.heap.size w4 V) => heap_ext (hB3.get 0 rfl) hV)
  have HBw := Lib.hid (fun (V : World) (hV : Below w4.heap.size w4 V) => bcall hB3.below hB3.below.size hV)
  have hM5 : Ms (fun _ => True) w4 [] [⟨.slice none 0 0, 4, 1, (m.honL.take 0).length, blV (m.honL.take 0)⟩] w4 := (Ms.of_mx (Mx.of_bx (Bx.start w4)) (fun _ => trivial)).nil 4 1
  have HM5 := Lib.hid hM5
  have HNL := Lib.hid (show m.honL.length = m.acs.length by simp [Mt.honL])
  clear hC7 hB3 hM5
  go_wp2_with fail
  go_loopw [6, 7] (fun s6 s7 wr => ∃ (k : Nat) (v : Value), k ≤ m.acs.length ∧ s6 = v ∧ s7 = .int .i64 (k : Int) ∧ Ms (fun _ => True) w4 [] [⟨v, 4, 1, (m.honL.take k).length, blV (m.honL.take k)⟩] wr) (fun _ s7 _ => m.acs.length - (intOf s7).toNat)
  case atStart => exact ⟨0, _, Nat.zero_le _, rfl, rfl, HM5.out⟩
  case round =>
    clear HM5
    obtain ⟨i, v, hi, hv6, rfl, hMr⟩ := hrel
    have hv7 := hv6.symm
    clear hv6
    subst hv7
    have h8 := HCM.out _ hMr.below
    have c_m := fun j => cell_of_row _ _ j _ _ _ h8
    have z_m := lt_some h8
    clear h8
    by_cases hlt : i < m.acs.length
    rotate_left
    · obtain rfl : i = m.acs.length := by omega
      rw [show m.honL.take m.acs.length = m.honL from List.take_of_length_le (by rw [HNL.out]; exact Nat.le_refl _)] at hMr
      have hr0 : wr.ownsRow w4.heap.size 4 1 v m.honL.length (blV m.honL) := hMr.row 0 rfl
      obtain ⟨Ao, co, e9, hro⟩ := (lay_bl wr m.honL).in_ (Below.refl _ _) hr0
      clear hr0
      subst e9
      have HR := Lib.hid hro
      have HE := Lib.hid (HBw.out _ hMr.below)
      have HX := Lib.hid (show m.honest = m.honL from if_pos HCO.out)
      clear hMr hro hi hlt
      go_wp2_with fail
      refine bodyPost_ret (v := .tuple #[.slice Ao m.honL.length co, .int .i64 0]) (by simp [results, Try.results68, go_sem]) rfl ?_
      exact ⟨Ao, co, by rw [HX.out, HCO.out], by rw [HX.out]; exact HR.out, HE.out⟩
    have hr0 : wr.ownsRow w4.heap.size 4 1 v (m.honL.take i).length (blV (m.honL.take i)) := hMr.row 0 rfl
    obtain ⟨Ao, co, rfl, _, _⟩ := own_nil_len hr0
    clear hr0
    obtain ⟨nk, hnk⟩ : ∃ x : Nat, x = (m.honL.take i).length := ⟨_, rfl⟩
    have HNK := Lib.hid (show nk = i by rw [hnk, List.length_take, HNL.out]; omega)
    have HTK := Lib.hid (hon_take hlt)
    obtain ⟨hb0, hhb⟩ : ∃ x, x = blV (m.honL.take i) := ⟨_, rfl⟩
    rw [← hnk, ← hhb] at hMr
    rw [← hnk]
    have HHB := Lib.hid hhb
    have HNK2 := Lib.hid hnk
    clear hnk hhb
    obtain ⟨l, hl⟩ : ∃ x, x = ofL m.log (i : Int) := ⟨_, rfl⟩
    have HOF := Lib.hid (fun (V : World) (hV : Below w4.heap.size w4 V) => show Calls Try.prog 44 #[.slice B m.log.length dl, .int .i64 (i : Int)] V (OfRes l V) by
      rw [hl]; exact fagof_any m.log B dl (i : Int) V (HLG.out V (HBw.out V hV)) (by have := HOK2.out.q; omega))
    have HLL := Lib.hid (show l.length ≤ 2000 by rw [hl]; exact Nat.le_trans (ofL_le _ _) HOK2.out.q)
    have HHI := Lib.hid (show m.hon i = l.all (rightB kF) by rw [hl, HKF.out, ← rep_all]; rfl)
    have HM6 := Lib.hid (show m.acs.length ≤ 6 from HOK2.out.m)
    have HLE := Lib.hid (And.intro (Nat.succ_le_of_lt hlt) (Nat.sub_lt_sub_left hlt (Nat.lt_succ_self i)))
    have HIL := Lib.hid hlt
    have HIX := Lib.hid (idx_facts hlt (Nat.le_trans HM6.out (by decide : (6 : Nat) ≤ 9223372036854775807)))
    clear hl hi
    go_wp2_with fail
    refine (HOF.out _ hMr.below).mono ?_
    rintro e w15 ⟨A5, c5, rfl, ho5, hL5, hb⟩
    obtain ⟨A5', c5', e5, hf5⟩ := LgIn.of_own ho5 hL5.wf
    obtain ⟨rfl, _, rfl⟩ := Value.slice.inj e5
    have hM7 := (hMr.call hb hf5).imp (fun V k => k.2)
    have HM7 := Lib.hid hM7
    clear hb ho5 hL5 hf5 e5 hMr hM7 c_m z_m HOF hlt
    go_wp2_with fail
    go_loopw [8, 10] (fun s8 s10 wr => ∃ k : Nat, k ≤ l.length ∧ s8 = .bool ((l.take k).all (rightB kF)) ∧ s10 = .int .i64 (k : Int) ∧ Ms (fun V => LgIn V.heap.size V A5 c5 l) w4 [] [⟨.slice Ao nk co, 4, 1, nk, hb0⟩] wr) (fun _ s10 _ => l.length - (intOf s10).toNat)
    case atStart => exact ⟨0, Nat.zero_le _, rfl, rfl, HM7.out⟩
    case round =>
      clear HM7
      obtain ⟨k, hk, rfl, rfl, hMk⟩ := hrel
      by_cases hlt : k < l.length
      rotate_left
      · obtain rfl : k = l.length := by omega
        rw [List.take_length]
        obtain ⟨ok, hok⟩ : ∃ x, x = l.all (rightB kF) := ⟨_, rfl⟩
        rw [← hok]
        have HOKB := Lib.hid (show m.hon i = ok by rw [hok]; exact HHI.out)
        clear hok hk hlt
        have hMi := hMk.imp (fun V _ => trivial)
        have hMi : Ms (fun _ => True) w4 [] [⟨.slice Ao nk co, 4, 1, nk, hb0⟩] wr := hMi
        clear hMk
        have hMn := hMi.new (g := wr.heap.size) rfl (.cells #[.bool ok] 4)
        have hnk6 : nk < 6 := by have := HNK.out; have := HIL.out; have := HM6.out; omega
        go_upto_region 8 with (at_builtin; refine wpList_append_any _ rfl (.tmp 45) (.tmp 47) 105 rfl w4.heap.size 4 i0 (.bool false) 1 1 Try.underlying105 hi0 hz0 hz1 hz2 rfl (by omega) (.slice Ao nk co) nk hb0 rfl (hMn.row 0 rfl) _ (some ⟨wr.heap.size, 0, none⟩) 1 1 [.bool ok] rfl (reads_one (hMn.get 0 rfl)) (by intro u hu; simp at hu; subst hu; rfl) (by unfold maxLen; omega) (by omega) hMn.below.size ?_; intro v8 wb8 hown hgr hat)
        have hMg := (hMn.grow 0 rfl hgr hown hat).drop
        have HMG := Lib.hid (show Ms (fun _ => True) w4 [] [⟨v8, 4, 1, (m.honL.take (i + 1)).length, blV (m.honL.take (i + 1))⟩] wb8 by
          rw [HTK.out, List.length_append, ← HNK2.out, show blV (m.honL.take i ++ [m.hon i]) = blV (m.honL.take i) ++ [.bool (m.hon i)] from by simp [blV], ← HHB.out, HOKB.out]
          exact hMg)
        clear hMn hMi hown hgr hat hMg hnk6
        obtain ⟨y1, y2, y3, y4⟩ := HIX.out
        go_wp2_with fail
        exact ⟨⟨i + 1, v8, HLE.out.1, rfl, by go_num, HMG.out⟩, by simpa [intOf] using HLE.out.2⟩
      obtain ⟨q, hqk⟩ : ∃ q, l[k]? = some q := ⟨_, List.getElem?_eq_getElem hlt⟩
      obtain ⟨qd, rfl, hbq, hwq, d0, d1, d2, d3, d4, d5, d6, d7⟩ := (hMk.here).query hqk
      have f8 : (qd.add (k * 8)).block < wr.heap.size := by rw [block_add]; exact hbq
      have HST := Lib.hid (all_take (p := rightB kF) hqk)
      have hll := HLL.out
      have HLK := Lib.hid (And.intro (Nat.succ_le_of_lt hlt) (Nat.sub_lt_sub_left hlt (Nat.lt_succ_self k)))
      obtain ⟨z1, z2, z3, z4⟩ := idx_facts hlt (Nat.le_trans hll (by decide : (2000 : Nat) ≤ 9223372036854775807))
      have HRI := Lib.hid (fun (V : World) (hV : Below w4.heap.size w4 V) => show Calls Try.prog 118 #[.slice A7 kF.length c7, qV q] V (fun e w' => e = .returned (.bool (rightB kF q)) ∧ Below V.heap.size V w') from fright_any kF A7 c7 q hwq V (HCC.out V hV))
      obtain ⟨rq, hrq⟩ : ∃ x, x = rightB kF q := ⟨_, rfl⟩
      obtain ⟨b0, hb0_⟩ : ∃ x, x = (l.take k).all (rightB kF) := ⟨_, rfl⟩
      rw [← hrq] at HRI HST
      rw [← hb0_] at HST
      rw [← hb0_]
      clear hrq hb0_ hqk hwq hbq hlt hk hll
      cases b0 with
      | false =>
        have HM := Lib.hid hMk
        clear hMk
        go_wp2_with fail
        exact ⟨⟨k + 1, HLK.out.1, by rw [HST.out]; rfl, by go_num, HM.out⟩, by simpa [intOf] using HLK.out.2⟩
      | true =>
        go_wp2_with fail
        refine (HRI.out _ hMk.below).mono ?_
        rintro e w20 ⟨rfl, hb⟩
        have hMk2 := hMk.next hb
        have HM := Lib.hid hMk2
        clear hMk hMk2 hb f8 d0 d1 d2 d3 d4 d5 d6 d7
        go_wp2_with fail
        exact ⟨⟨k + 1, HLK.out.1, by rw [HST.out]; rfl, by go_num, HM.out⟩, by simpa [intOf] using HLK.out.2⟩
end Go.Proofs.Ytgcbmnohhbcfiaa
