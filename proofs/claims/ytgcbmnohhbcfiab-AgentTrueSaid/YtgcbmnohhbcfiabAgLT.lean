/- AgentTrue returns true. -/
import Derived.Test.YtgcbmnohhbcfiabAgLA
import Derived.Test.YtgcbmnohhbcfiabAgTp
import Derived.Test.YtgcbmnohhbcfiabAsRt
namespace Go.Proofs.Ytgcbmnohhbcfiab
open Go.RowKit Go.Deep
set_option linter.unusedVariables false
set_option linter.unusedSimpArgs false

/-- All of the first ones never change. -/
def allT (acs : List Ac) : Nat → Bool
  | 0 => true
  | k + 1 => allT acs k && ((acAt acs (k : Nat)).after == -1)
theorem allT_at {acs : List Ac} : ∀ {n : Nat}, allT acs n = true → ∀ (i : Nat) (a : Ac), i < n → acs[i]? = some a → a.after = -1
  | 0, _, i, a, hi, _ => by omega
  | n + 1, h, i, a, hi, ha => by
    unfold allT at h
    rw [Bool.and_eq_true] at h
    by_cases q : i = n
    · subst q
      have e := h.2
      rw [acAt_of ha] at e
      simpa using e
    · exact allT_at h.1 i a (by omega) ha
theorem allT_step {acs : List Ac} {k : Nat} {a : Ac} (h : acs[k]? = some a) : allT acs (k + 1) = (allT acs k && (a.after == -1)) := by
  show (allT acs k && ((acAt acs (k : Nat)).after == -1)) = _
  rw [acAt_of h]
set_option maxRecDepth 100000 in
set_option maxHeartbeats 64000000 in
theorem agenttrue_walk (acs : List Ac) (S : Option Addr) (s : Nat) (qs : List Qy) (C : Option Addr) (c : Nat) (w : World) (h : AsIn w.heap.size w S s acs) (hq : LgIn w.heap.size w C c qs) :
    Calls Try.prog 5 #[.slice S acs.length s, .slice C qs.length c] w fun e w' => e = .returned (.bool true) ∧ Below w.heap.size w w' := by
  have HG := Lib.hid (fun (W : World) (hW : Below w.heap.size w W) => fgreata_any acs S s W (h.next hW))
  have HQ := Lib.hid (fun (W : World) (hW : Below w.heap.size w W) => hq.next hW)
  have HS := Lib.hid (fun (W : World) (hW : Below w.heap.size w W) => h.next hW)
  have HH0 := Lib.hid h
  obtain ⟨om, hom⟩ : ∃ x, x = openM acs := ⟨_, rfl⟩
  obtain ⟨oc, hoc⟩ : ∃ x, x = meetC acs [] := ⟨_, rfl⟩
  have HO := Lib.hid (fun (W : World) (hW : Below w.heap.size w W) => open_fr acs S s W (h.next hW) om oc hom.symm hoc.symm)
  have HOC := Lib.hid hoc
  have HOM := Lib.hid hom
  have hM0 : Ms (fun _ => True) w [] [] w := Ms.of_mx (Mx.of_bx (Bx.start w)) (fun _ => trivial)
  clear h hq hom hoc
  obtain ⟨gr, hgr⟩ : ∃ x, x = greatA acs := ⟨_, rfl⟩
  rw [← hgr] at HG
  clear hgr
  go_enter Try.func5, Try.ntmps5
  try dsimp only [List.append]
  go_wp2_with fail
  refine (agalive_any _).mono ?_
  rintro e w1 ⟨rfl, hb⟩
  have hB1 := hM0.next hb
  clear hb hM0
  go_wp2_with fail
  refine (HG.out _ hB1.below).mono ?_
  rintro e w2 ⟨rfl, hb⟩
  have hB2 := hB1.next hb
  clear hb hB1
  clear HG
  cases gr with
  | true =>
    have HE := Lib.hid hB2.below
    clear hB2
    go_wp2_with fail
    go_ret
    exact ⟨rfl, HE.out⟩
  | false =>
  by_cases q1 : 30 < qs.length
  · have b1 : decide ((30 : Int) < (qs.length : Int)) = true := decide_eq_true (by omega)
    have b1n : decide (30 < qs.length) = true := decide_eq_true q1
    clear q1
    have HE := Lib.hid hB2.below
    clear hB2
    go_wp2_with fail
    go_ret
    exact ⟨rfl, HE.out⟩
  have b1 : decide ((30 : Int) < (qs.length : Int)) = false := decide_eq_false (by omega)
  have b1n : decide (30 < qs.length) = false := decide_eq_false q1
  have HQL := Lib.hid (show qs.length ≤ 30 by omega)
  clear q1
  go_wp2_with fail
  refine (HO.out _ hB2.below).mono ?_
  rintro e w3 ⟨P2, p2, S2, s2, rfl, hF, hb⟩
  have hB3 := hB2.call hb hF
  clear hF hb hB2 HO b1 b1n
  go_upto_region 5 with fail
  have hB4 := hB3.new (g := w3.heap.size) rfl (.cells #[.slice P2 om.acs.length p2, .slice S2 om.log.length s2] 27)
  clear hB3
  generalize w3.heap.size = gM at *
  generalize w3.alloc _ = w4 at *
  by_cases qo : oc = 0
  rotate_left
  · have b0 : (oc != 0) = true := by simpa using qo
    clear qo
    have HE := Lib.hid hB4.below
    clear hB4
    go_wp2_with fail
    go_ret
    exact ⟨rfl, HE.out⟩
  have b0 : (oc != 0) = false := by simpa using qo
  have HZ := Lib.hid (show meetC acs [] = 0 by rw [← HOC.out]; exact qo)
  have HOE := Lib.hid (show om = ⟨acs, []⟩ by rw [HOM.out]; exact if_pos HZ.out)
  clear qo
  obtain ⟨rm, hrm⟩ : ∃ x, x = om.rM qs := ⟨_, rfl⟩
  obtain ⟨rn, hrn⟩ : ∃ x, x = om.rN qs := ⟨_, rfl⟩
  obtain ⟨rc, hrc⟩ : ∃ x, x = om.rC qs := ⟨_, rfl⟩
  have HT := Lib.hid (show TrueL acs rm by rw [hrm, HOE.out]; exact truel HZ.out HQL.out)
  have HR := Lib.hid (fun (V : World) (hV : Below w.heap.size w V) (h1 : MtIn P2 p2 S2 s2 om V) => show Calls Try.prog 11 #[.agg #[.slice P2 om.acs.length p2, .slice S2 om.log.length s2], .slice C qs.length c] V (fun e w' => ∃ P cp T ct, e = .returned (.tuple #[.agg #[.slice P acs.length cp, .slice T rm.log.length ct], .int .i64 (rn : Int), .int .i64 rc]) ∧ Fresh V.heap.size w' (MtIn P cp T ct rm) ∧ Below V.heap.size V w') by
    have := run_fr om P2 p2 S2 s2 qs C c V h1 (HQ.out V hV) rm rn rc hrm.symm hrn.symm hrc.symm
    rwa [HT.out.len] at this)
  clear hrm hrn hrc
  have c_m := fun j => cell_of_row _ _ j _ _ _ (hB4.get 0 rfl)
  have z_m := hB4.lt 0 rfl
  go_wp2_with fail
  refine (HR.out _ hB4.below hB4.here.2).mono ?_
  rintro e w5 ⟨P3, p3, S3, s3, rfl, hF, hb⟩
  have hB5 := hB4.call hb hF
  clear c_m z_m hF hb hB4 HR b0
  go_upto_region 8 with fail
  have hB6 := hB5.new (g := w5.heap.size) rfl (.cells #[.slice P3 acs.length p3, .slice S3 rm.log.length s3] 27)
  clear hB5
  generalize w5.heap.size = gA at *
  generalize w5.alloc _ = w6 at *
  have HN := Lib.hid (fun (V : World) (h1 : MtIn P3 p3 S3 s3 rm V) => show Calls Try.prog 16 #[.agg #[.slice P3 acs.length p3, .slice S3 rm.log.length s3]] V (fun e w' => ∃ A c, e = .returned (.tuple #[.slice A acs.length c, .int .i64 0]) ∧ RIn kBl w'.heap.size w' A c rm.honL ∧ Below V.heap.size V w') by
    have hz : rm.code = 0 := meetC_zero.2 HT.out.ok
    have k := honest_any rm P3 p3 S3 s3 V h1.1 h1.2
    have k : Calls Try.prog 16 #[.agg #[.slice P3 rm.acs.length p3, .slice S3 rm.log.length s3]] V (HonestRes rm V) := k
    rw [HT.out.len] at k
    refine k.mono ?_
    rintro e w' ⟨A, c, rfl, k1, k2⟩
    have e1 : rm.honest = rm.honL := if_pos hz
    rw [e1] at k1 ⊢
    exact ⟨A, c, by rw [hz, show rm.honL.length = acs.length by rw [← HT.out.len]; simp [Mt.honL]], k1, k2⟩)
  have c_a := fun j => cell_of_row _ _ j _ _ _ (hB6.get 0 rfl)
  have z_a := hB6.lt 0 rfl
  go_wp2_with fail
  refine (HN.out _ hB6.here.2).mono ?_
  rintro e w8 ⟨Ah, ch, rfl, hBL, hb⟩
  have hB7 := hB6.next hb
  clear hb
  clear c_a z_a hB6 HN
  have hf8 : MtIn P3 p3 S3 s3 rm w8 := hB7.here.2
  have HB8 := Lib.hid hB7.below
  have HCA := Lib.hid (fun (V : World) (hV : Below w8.heap.size w8 V) => heap_ext (hB7.get 0 rfl) hV)
  have HF := Lib.hid (fun (V : World) (hV : Below w8.heap.size w8 V) => And.intro (hf8.1.next hV) (hf8.2.next hV))
  have HHB := Lib.hid hBL
  have HBw := Lib.hid (fun (V : World) (hV : Below w8.heap.size w8 V) => bcall hB7.below hB7.below.size hV)
  clear hf8 hBL
  have c_a := fun j => cell_of_row _ _ j _ _ _ (HCA.out _ (Below.refl _ _))
  have z_a := lt_some (HCA.out _ (Below.refl _ _))
  clear hB7
  have HMX := Nat.le_trans HH0.out.len HH0.out.cap
  unfold maxLen at HMX
  have HLM := Lib.hid HMX
  clear HMX
  go_wp2_with fail
  clear c_a z_a
  go_loopw [13, 14] (fun s13 s14 wr => ∃ i : Nat, i ≤ acs.length ∧ s13 = .bool (allT acs i) ∧ s14 = .int .i64 (i : Int) ∧ Below w8.heap.size w8 wr) (fun _ s14 _ => acs.length - (intOf s14).toNat)
  case atStart => exact ⟨0, Nat.zero_le _, rfl, rfl, Below.refl _ _⟩
  case round =>
    obtain ⟨i, hi, rfl, rfl, hbr⟩ := hrel
    by_cases hlt : i < acs.length
    rotate_left
    · obtain rfl : i = acs.length := by omega
      obtain ⟨al, hal⟩ : ∃ x, x = allT acs acs.length := ⟨_, rfl⟩
      rw [← hal]
      have HAL := Lib.hid hal
      clear hal hi hlt
      cases al with
      | false =>
        have HE := Lib.hid (HBw.out _ hbr)
        clear hbr
        go_wp2_with fail
        go_ret
        exact ⟨rfl, HE.out⟩
      | true =>
        obtain ⟨kF, hkF⟩ : ∃ x, x = cksOf false acs := ⟨_, rfl⟩
        have HCK := Lib.hid (fun (V : World) (hV : Below w8.heap.size w8 V) => show Calls Try.prog 18 #[.slice S acs.length s, .bool false] V (CakesRes kF V) by
          rw [hkF]; exact fcakes_false acs S s V (HS.out V (HBw.out V hV)) (by have := HT.out.ok.m; rw [HT.out.len] at this; omega))
        have HRP := Lib.hid (fun (V : World) (hV : Below w8.heap.size w8 V) (A : Option Addr) (ca : Nat) (h1 : CsIn V.heap.size V A ca kF) => show Calls Try.prog 19 #[.slice A kF.length ca, .slice S3 rm.log.length s3] V (fun e w' => e = .returned (.tuple #[.int .i64 (rm.log.length : Int), .int .i64 0]) ∧ Below V.heap.size V w') by
          have k := askreplay_any kF A ca rm.log S3 s3 V h1 (HF.out V hV).2
          rw [hkF, HT.out.desk, HT.out.rep (fun i a hi => allT_at HAL.out.symm i a (set_lt hi) hi)] at k
          rw [hkF]; exact k)
        clear hkF
        have hM27 := Mx.of_bx (Bx.from hbr)
        clear hbr
        go_wp2_with fail
        refine wp_region_T (Bx w8 []) 10 (by kernel_rfl) (by rfl) ((hM27.keep (List.nil_sublist _)).drew) (fun wq1 hbq => ?_)
        have hB141 := hM27.next hbq
        clear hM27 hbq
        refine wpAnyT_go (Bx.grows _ _) (hB141.keep (List.nil_sublist _)) [0, 2, 3] 7 (by kernel_rfl) ?_
        apply Exists.intro
        refine ⟨fun G hG hN => ?_, ?_⟩
        · have c_a := fun (e : GE (Bx w8 []) G) j => cell_of_row e.w _ j _ _ _ (HCA.out e.w (GE.h e).below)
          have z_a := fun (e : GE (Bx w8 []) G) => lt_some (HCA.out e.w (GE.h e).below)
          simp only [pickOps, List.getElem?_toArray, List.getElem?_cons_zero, List.getElem?_cons_succ]
          repeat (first | go_big_quiet_step (fail) | quiet_step (fail))
          exact wpQuiet_nil rfl
        refine wpAnyT_all (rs := [1]) (by kernel_rfl) (by simp) (fun wa2 hwa2 hRwa2 i hi => ?_)
        have hB142 := hB141.next hwa2
        clear hB141 hwa2 hRwa2
        obtain rfl := List.mem_singleton.1 hi
        refine wpOp_step rfl (fun Kc hKc => ?_)
        go_simp
        refine Calls.mono (HCK.out wa2 (hB142).below) ?_
        rintro e wv3 ⟨A7, c7, rfl, hC7, hb⟩
        have hB143 := (hB142).next hb
        clear hb
        refine hKc _ _ ⟨(hB143.keep (List.nil_sublist _)), ?_⟩
        clear hKc Kc hB142
        refine wpAnyT_all (rs := [4]) (by kernel_rfl) (by simp) (fun wa4 hwa4 hRwa4 i hi => ?_)
        have hC7 := hC7.next hwa4
        have hB144 := hB143.next hwa4
        clear hB143 hwa4 hRwa4
        obtain rfl := List.mem_singleton.1 hi
        refine wpOp_step rfl (fun Kc hKc => ?_)
        go_simp
        refine Calls.mono (HRP.out wa4 (hB144).below A7 c7 hC7) ?_
        rintro e wv5 ⟨rfl, hb⟩
        have hB145 := (hB144).next hb
        clear hb hC7
        refine hKc _ _ ⟨(hB145.keep (List.nil_sublist _)), ?_⟩
        clear hKc Kc hB144
        refine wpAnyT_go (Bx.grows _ _) (hB145.keep (List.nil_sublist _)) [5, 6, 7, 8, 9] 0 (by kernel_rfl) ?_
        apply Exists.intro
        refine ⟨fun G hG hN => ?_, ?_⟩
        · have c_a := fun (e : GE (Bx w8 []) G) j => cell_of_row e.w _ j _ _ _ (HCA.out e.w (GE.h e).below)
          have z_a := fun (e : GE (Bx w8 []) G) => lt_some (HCA.out e.w (GE.h e).below)
          simp only [pickOps, List.getElem?_toArray, List.getElem?_cons_zero, List.getElem?_cons_succ]
          repeat (first | go_big_quiet_step (fail) | quiet_step (fail))
          exact wpQuiet_nil rfl
        refine wpAnyT_done (by kernel_rfl) (fun wd6 hwd6 hRwd6 => ?_) _
        refine NoPanic.normal ?_
        have hB146 := hB145.next hwd6
        clear hB145 hwd6 hRwd6
        have HE := Lib.hid (HBw.out _ hB146.below)
        have h8 := HCA.out _ hB146.below
        have c_a := fun j => cell_of_row _ _ j _ _ _ h8
        have z_a := lt_some h8
        clear h8 hB146
        go_wp2_with fail
        go_ret
        exact ⟨rfl, HE.out⟩
    obtain ⟨a, ha⟩ : ∃ a, acs[i]? = some a := ⟨_, List.getElem?_eq_getElem hlt⟩
    obtain ⟨ad, A1, k1, R1, l1, A2, k2, R2, l2, hSe, hbl, _, _, _, hat⟩ := HH0.out.actor ha
    have HSE := Lib.hid hSe
    have HC6 := Lib.hid (fun (V : World) (hV : Below w.heap.size w V) => And.intro ((hat.next hbl hV).c6) (show (ad.add (i * 8)).block < V.heap.size by rw [block_add]; exact Nat.lt_of_lt_of_le hbl hV.size))
    obtain ⟨bd, hbd, hbb, hbc⟩ := RIn.bool (i := i) (b := rm.hon i) HHB.out (by unfold Mt.honL; rw [List.getElem?_map, List.getElem?_range (by rw [HT.out.len]; exact hlt)]; rfl)
    have HAD := Lib.hid hbd
    have HHC := Lib.hid (fun (V : World) (hV : Below w8.heap.size w8 V) => (hV.cell (p := bd.add i) (by rw [block_add]; exact hbb)).trans hbc)
    obtain ⟨l, hl⟩ : ∃ x, x = ofL rm.log (i : Int) := ⟨_, rfl⟩
    obtain ⟨hn, hhn⟩ : ∃ x, x = rm.hon i := ⟨_, rfl⟩
    rw [← hhn] at HHC
    have HON := Lib.hid (show (a.after = -1 ∨ (l.length : Int) ≤ a.after) → hn = true by rw [hhn, hl]; exact HT.out.hon i a ha)
    have HRT := Lib.hid (fun (k : Nat) (e : Qy) => show l[k]? = some e → _ by rw [hl]; exact HT.out.right i a k e ha)
    have HLL := Lib.hid (show l.length ≤ 2000 by rw [hl]; exact HT.out.olen _)
    have HOF := Lib.hid (fun (V : World) (hV : Below w8.heap.size w8 V) => show Calls Try.prog 12 #[.slice S3 rm.log.length s3, .int .i64 (i : Int)] V (OfRes l V) by
      rw [hl]; exact fagof_any rm.log S3 s3 (i : Int) V (HF.out V hV).2 (by have := HT.out.ok.q; omega))
    have HAT := Lib.hid (allT_step ha)
    have hcp := HLM.out
    obtain ⟨z1, z2, z3, z4⟩ := idx_facts hlt hcp
    have HLE := Lib.hid (And.intro (Nat.succ_le_of_lt hlt) (Nat.sub_lt_sub_left hlt (Nat.lt_succ_self i)))
    have HIX := Lib.hid (And.intro z1 (And.intro z2 (And.intro z3 z4)))
    clear hat hbl hSe hbb hbc hl hhn hi ha hcp hlt hbd
    have h8 := HCA.out _ hbr
    have c_a := fun j => cell_of_row _ _ j _ _ _ h8
    have z_a := lt_some h8
    clear h8
    go_wp2_with fail
    refine (HOF.out _ hbr).mono ?_
    rintro e w15 ⟨A5, c5, rfl, _, hL5, hb⟩
    have HB15 := Lib.hid (bcall hbr hbr.size hb)
    have HOL := Lib.hid hL5
    clear hb hL5 hbr c_a z_a HOF
    obtain ⟨c6, f1⟩ := HC6.out _ (HBw.out _ HB15.out)
    have hb1 := HHC.out _ HB15.out
    obtain rfl := HSE.out
    obtain rfl := HAD.out
    go_upto_region 16 with fail
    go_cut [102] (fun s102 wx => s102 = .bool false ∧ wx = w15)
    case first =>
      by_cases q1 : a.after = -1
      · have b1 : (a.after == -1) = true := by simpa using q1
        obtain rfl := HON.out (Or.inl q1)
        clear q1
        go_wp2_with fail
        go_meet
        exact ⟨rfl, rfl⟩
      have b1 : (a.after == -1) = false := by simpa using q1
      by_cases q2 : (l.length : Int) ≤ a.after
      · have b2 : decide ((l.length : Int) ≤ a.after) = true := decide_eq_true q2
        obtain rfl := HON.out (Or.inr q2)
        clear q1 q2
        go_wp2_with fail
        go_meet
        exact ⟨rfl, rfl⟩
      have b2 : decide ((l.length : Int) ≤ a.after) = false := decide_eq_false q2
      clear q1 q2
      go_wp2_with fail
      go_meet
      exact ⟨rfl, rfl⟩
    case rest =>
      obtain ⟨rfl, rfl⟩ := hcut
      clear hb1
      go_upto_region 18 with fail
      go_cut [13] (fun s13 wx => s13 = .bool (allT acs (i + 1)) ∧ wx = wc)
      case first =>
        have HAT2 := HAT.out
        obtain ⟨ai, hai⟩ : ∃ x, x = allT acs i := ⟨_, rfl⟩
        rw [← hai] at HAT2 ⊢
        have HA3 := Lib.hid HAT2
        clear hai HAT2
        cases ai with
        | false =>
          go_wp2_with fail
          go_meet
          exact ⟨by rw [HA3.out]; rfl, rfl⟩
        | true =>
          by_cases q1 : a.after = -1
          · have b1 : (a.after == -1) = true := by simpa using q1
            have HA4 := Lib.hid (show allT acs (i + 1) = true by rw [HA3.out, b1]; rfl)
            clear q1
            go_wp2_with fail
            go_meet
            exact ⟨by rw [HA4.out], rfl⟩
          · have b1 : (a.after == -1) = false := by simpa using q1
            have HA4 := Lib.hid (show allT acs (i + 1) = false by rw [HA3.out, b1]; rfl)
            clear q1
            go_wp2_with fail
            go_meet
            exact ⟨by rw [HA4.out], rfl⟩
      case rest =>
        obtain ⟨rfl, rfl⟩ := hcut
        clear c6 f1 z1 z2 z3 z4 HON
        generalize wc = w15 at *
        obtain ⟨alt, halt⟩ : ∃ x, x = allT acs (i + 1) := ⟨_, rfl⟩
        rw [← halt]
        have HALT := Lib.hid halt
        clear halt
        go_wp2_with fail
        go_loopw [16] (fun s16 wr => ∃ k : Nat, k ≤ l.length ∧ s16 = .int .i64 (k : Int) ∧ Below w15.heap.size w15 wr) (fun s16 _ => l.length - (intOf s16).toNat)
        case atStart => exact ⟨0, Nat.zero_le _, rfl, Below.refl _ _⟩
        case round =>
          obtain ⟨k, hk, rfl, hbk⟩ := hrel
          by_cases hlt : k < l.length
          rotate_left
          · obtain rfl : k = l.length := by omega
            have HE := Lib.hid (bcall HB15.out HB15.out.size hbk)
            obtain ⟨z1, z2, z3, z4⟩ := HIX.out
            clear hbk hk hlt
            go_wp2_with fail
            exact ⟨⟨i + 1, HLE.out.1, by rw [HALT.out], by go_num, HE.out⟩, by simpa [intOf] using HLE.out.2⟩
          obtain ⟨q, hqk⟩ : ∃ q, l[k]? = some q := ⟨_, List.getElem?_eq_getElem hlt⟩
          obtain ⟨qd, rfl, hbq, hwq, d0, d1, d2, d3, d4, d5, d6, d7⟩ := HOL.out.query hqk
          have hba : (qd.add (k * 8)).block < w15.heap.size := by rw [block_add]; exact hbq
          have HQC := Lib.hid (fun (W : World) (hW : Below w15.heap.size w15 W) => And.intro ((hW.cell hba).trans d0) (And.intro ((hW.cell (p := ⟨(qd.add (k * 8)).block, (qd.add (k * 8)).off + 1, none⟩) hba).trans d1) (And.intro ((hW.cell (p := ⟨(qd.add (k * 8)).block, (qd.add (k * 8)).off + 2, none⟩) hba).trans d2) (And.intro ((hW.cell (p := ⟨(qd.add (k * 8)).block, (qd.add (k * 8)).off + 3, none⟩) hba).trans d3) (And.intro ((hW.cell (p := ⟨(qd.add (k * 8)).block, (qd.add (k * 8)).off + 4, none⟩) hba).trans d4) (And.intro ((hW.cell (p := ⟨(qd.add (k * 8)).block, (qd.add (k * 8)).off + 5, none⟩) hba).trans d5) (And.intro ((hW.cell (p := ⟨(qd.add (k * 8)).block, (qd.add (k * 8)).off + 6, none⟩) hba).trans d6) (And.intro ((hW.cell (p := ⟨(qd.add (k * 8)).block, (qd.add (k * 8)).off + 7, none⟩) hba).trans d7) (Nat.lt_of_lt_of_le hba hW.size)))))))))
          have HBz := Lib.hid (fun (V : World) (hV : Below w15.heap.size w15 V) => bcall HB15.out HB15.out.size hV)
          have HR3 := Lib.hid (HRT.out k q hqk)
          have HWQ := Lib.hid hwq
          have hll := HLL.out
          have HLK := Lib.hid (And.intro (Nat.succ_le_of_lt hlt) (Nat.sub_lt_sub_left hlt (Nat.lt_succ_self k)))
          obtain ⟨y1, y2, y3, y4⟩ := idx_facts hlt (Nat.le_trans hll (by decide : (2000 : Nat) ≤ 9223372036854775807))
          obtain ⟨z1, z2, z3, z4⟩ := HIX.out
          have HKT := Lib.hid (fun (t : Bool) (V : World) (hV : Below w15.heap.size w15 V) => show Calls Try.prog 18 #[.slice (some ad) acs.length s, .bool t] V (CakesRes (cksOf t acs) V) by
            have hn : acs.length ≤ 1000 := by have := HT.out.ok.m; rw [HT.out.len] at this; omega
            cases t with
            | true => exact fcakes_true acs (some ad) s V (HS.out V (HBw.out V (HBz.out V hV))) hn
            | false => exact fcakes_false acs (some ad) s V (HS.out V (HBw.out V (HBz.out V hV))) hn)
          have hMk := Mx.of_bx (Bx.from hbk)
          clear d0 d1 d2 d3 d4 d5 d6 d7 hba hbq hwq hqk hlt hk hbk hll
          by_cases q1 : 0 ≤ a.after
          rotate_left
          · have b1 : decide ((0 : Int) ≤ a.after) = false := decide_eq_false q1
            obtain ⟨kF, hkF⟩ : ∃ x, x = cksOf false acs := ⟨_, rfl⟩
            have HCK := Lib.hid (fun (V : World) (hV : Below w15.heap.size w15 V) => show Calls Try.prog 18 #[.slice (some ad) acs.length s, .bool false] V (CakesRes kF V) by rw [hkF]; exact HKT.out false V hV)
            have HRI := Lib.hid (fun (V : World) (A : Option Addr) (ca : Nat) (h1 : CsIn V.heap.size V A ca kF) => show Calls Try.prog 17 #[.slice A kF.length ca, qV q] V (fun e w' => e = .returned (.bool true) ∧ Below V.heap.size V w') by
              have k := fright_any kF A ca q HWQ.out V h1
              rwa [show rightB kF q = true by rw [hkF]; exact HR3.out.1 (by omega)] at k)
            clear hkF HKT HR3 q1
            go_wp2_with fail
            refine wp_region_T (Bx w15 []) 23 (by kernel_rfl) (by rfl) ((hMk.keep (List.nil_sublist _)).drew) (fun wq7 hbq => ?_)
            have hB201 := hMk.next hbq
            clear hMk hbq
            refine wpAnyT_go (Bx.grows _ _) (hB201.keep (List.nil_sublist _)) [0, 1, 2, 3, 4, 5, 6, 7, 8, 9, 10, 11, 12, 13, 14, 15, 17, 18, 19, 20] 3 (by kernel_rfl) ?_
            apply Exists.intro
            refine ⟨fun G hG hN => ?_, ?_⟩
            · have g6 := fun (e : GE (Bx w15 []) G) => (HC6.out e.w (HBw.out _ (HBz.out _ (GE.h e).below))).1
              have g7 := fun (e : GE (Bx w15 []) G) => (HC6.out e.w (HBw.out _ (HBz.out _ (GE.h e).below))).2
              have e0 := fun (e : GE (Bx w15 []) G) => (HQC.out e.w (GE.h e).below).1
              have e1 := fun (e : GE (Bx w15 []) G) => (HQC.out e.w (GE.h e).below).2.1
              have e2 := fun (e : GE (Bx w15 []) G) => (HQC.out e.w (GE.h e).below).2.2.1
              have e3 := fun (e : GE (Bx w15 []) G) => (HQC.out e.w (GE.h e).below).2.2.2.1
              have e4 := fun (e : GE (Bx w15 []) G) => (HQC.out e.w (GE.h e).below).2.2.2.2.1
              have e5 := fun (e : GE (Bx w15 []) G) => (HQC.out e.w (GE.h e).below).2.2.2.2.2.1
              have e6 := fun (e : GE (Bx w15 []) G) => (HQC.out e.w (GE.h e).below).2.2.2.2.2.2.1
              have e7 := fun (e : GE (Bx w15 []) G) => (HQC.out e.w (GE.h e).below).2.2.2.2.2.2.2.1
              have e8 := fun (e : GE (Bx w15 []) G) => (HQC.out e.w (GE.h e).below).2.2.2.2.2.2.2.2
              simp only [pickOps, List.getElem?_toArray, List.getElem?_cons_zero, List.getElem?_cons_succ]
              repeat (first | go_big_quiet_step (fail) | quiet_step (fail))
              exact wpQuiet_nil rfl
            refine wpAnyT_all (rs := [16]) (by kernel_rfl) (by simp) (fun wa8 hwa8 hRwa8 i hi => ?_)
            have hB202 := hB201.next hwa8
            clear hB201 hwa8 hRwa8
            obtain rfl := List.mem_singleton.1 hi
            refine wpOp_step rfl (fun Kc hKc => ?_)
            go_simp
            refine Calls.mono (HCK.out wa8 (hB202).below) ?_
            rintro e wv9 ⟨A7, c7, rfl, hC7, hb⟩
            have hB203 := (hB202).next hb
            clear hb
            refine hKc _ _ ⟨(hB203.keep (List.nil_sublist _)), ?_⟩
            clear hKc Kc hB202
            refine wpAnyT_all (rs := [21]) (by kernel_rfl) (by simp) (fun wa10 hwa10 hRwa10 i hi => ?_)
            have hC7 := hC7.next hwa10
            have hB204 := hB203.next hwa10
            clear hB203 hwa10 hRwa10
            obtain rfl := List.mem_singleton.1 hi
            refine wpOp_step rfl (fun Kc hKc => ?_)
            go_simp
            refine Calls.mono (HRI.out wa10 A7 c7 hC7) ?_
            rintro e wv11 ⟨rfl, hb⟩
            have hB205 := (hB204).next hb
            clear hb hC7
            refine hKc _ _ ⟨(hB205.keep (List.nil_sublist _)), ?_⟩
            clear hKc Kc hB204
            refine wpAnyT_go (Bx.grows _ _) (hB205.keep (List.nil_sublist _)) [22] 0 (by kernel_rfl) ?_
            apply Exists.intro
            refine ⟨fun G hG hN => ?_, ?_⟩
            · have g6 := fun (e : GE (Bx w15 []) G) => (HC6.out e.w (HBw.out _ (HBz.out _ (GE.h e).below))).1
              have g7 := fun (e : GE (Bx w15 []) G) => (HC6.out e.w (HBw.out _ (HBz.out _ (GE.h e).below))).2
              have e0 := fun (e : GE (Bx w15 []) G) => (HQC.out e.w (GE.h e).below).1
              have e1 := fun (e : GE (Bx w15 []) G) => (HQC.out e.w (GE.h e).below).2.1
              have e2 := fun (e : GE (Bx w15 []) G) => (HQC.out e.w (GE.h e).below).2.2.1
              have e3 := fun (e : GE (Bx w15 []) G) => (HQC.out e.w (GE.h e).below).2.2.2.1
              have e4 := fun (e : GE (Bx w15 []) G) => (HQC.out e.w (GE.h e).below).2.2.2.2.1
              have e5 := fun (e : GE (Bx w15 []) G) => (HQC.out e.w (GE.h e).below).2.2.2.2.2.1
              have e6 := fun (e : GE (Bx w15 []) G) => (HQC.out e.w (GE.h e).below).2.2.2.2.2.2.1
              have e7 := fun (e : GE (Bx w15 []) G) => (HQC.out e.w (GE.h e).below).2.2.2.2.2.2.2.1
              have e8 := fun (e : GE (Bx w15 []) G) => (HQC.out e.w (GE.h e).below).2.2.2.2.2.2.2.2
              simp only [pickOps, List.getElem?_toArray, List.getElem?_cons_zero, List.getElem?_cons_succ]
              repeat (first | go_big_quiet_step (fail) | quiet_step (fail))
              exact wpQuiet_nil rfl
            refine wpAnyT_done (by kernel_rfl) (fun wd12 hwd12 hRwd12 => ?_) _
            refine NoPanic.normal ?_
            have hB206 := hB205.next hwd12
            clear hB205 hwd12 hRwd12
            have HE := Lib.hid hB206.below
            clear hB206
            go_wp2_with fail
            exact ⟨⟨k + 1, HLK.out.1, by go_num, HE.out⟩, by simpa [intOf] using HLK.out.2⟩
          have b1 : decide ((0 : Int) ≤ a.after) = true := decide_eq_true q1
          by_cases q2 : a.after ≤ (k : Int)
          · have b2 : decide (a.after ≤ (k : Int)) = true := decide_eq_true q2
            obtain ⟨kF, hkF⟩ : ∃ x, x = cksOf true acs := ⟨_, rfl⟩
            have HCK := Lib.hid (fun (V : World) (hV : Below w15.heap.size w15 V) => show Calls Try.prog 18 #[.slice (some ad) acs.length s, .bool true] V (CakesRes kF V) by rw [hkF]; exact HKT.out true V hV)
            have HRI := Lib.hid (fun (V : World) (A : Option Addr) (ca : Nat) (h1 : CsIn V.heap.size V A ca kF) => show Calls Try.prog 17 #[.slice A kF.length ca, qV q] V (fun e w' => e = .returned (.bool true) ∧ Below V.heap.size V w') by
              have k := fright_any kF A ca q HWQ.out V h1
              rwa [show rightB kF q = true by rw [hkF]; exact HR3.out.2.2 q1 q2] at k)
            clear hkF HKT HR3 q1 q2
            go_wp2_with fail
            refine wp_region_T (Bx w15 []) 23 (by kernel_rfl) (by rfl) ((hMk.keep (List.nil_sublist _)).drew) (fun wq13 hbq => ?_)
            have hB201 := hMk.next hbq
            clear hMk hbq
            refine wpAnyT_go (Bx.grows _ _) (hB201.keep (List.nil_sublist _)) [0, 1, 2, 3, 4, 5, 6, 7, 8, 9, 10, 11, 12, 13, 14, 15, 17, 18, 19, 20] 3 (by kernel_rfl) ?_
            apply Exists.intro
            refine ⟨fun G hG hN => ?_, ?_⟩
            · have g6 := fun (e : GE (Bx w15 []) G) => (HC6.out e.w (HBw.out _ (HBz.out _ (GE.h e).below))).1
              have g7 := fun (e : GE (Bx w15 []) G) => (HC6.out e.w (HBw.out _ (HBz.out _ (GE.h e).below))).2
              have e0 := fun (e : GE (Bx w15 []) G) => (HQC.out e.w (GE.h e).below).1
              have e1 := fun (e : GE (Bx w15 []) G) => (HQC.out e.w (GE.h e).below).2.1
              have e2 := fun (e : GE (Bx w15 []) G) => (HQC.out e.w (GE.h e).below).2.2.1
              have e3 := fun (e : GE (Bx w15 []) G) => (HQC.out e.w (GE.h e).below).2.2.2.1
              have e4 := fun (e : GE (Bx w15 []) G) => (HQC.out e.w (GE.h e).below).2.2.2.2.1
              have e5 := fun (e : GE (Bx w15 []) G) => (HQC.out e.w (GE.h e).below).2.2.2.2.2.1
              have e6 := fun (e : GE (Bx w15 []) G) => (HQC.out e.w (GE.h e).below).2.2.2.2.2.2.1
              have e7 := fun (e : GE (Bx w15 []) G) => (HQC.out e.w (GE.h e).below).2.2.2.2.2.2.2.1
              have e8 := fun (e : GE (Bx w15 []) G) => (HQC.out e.w (GE.h e).below).2.2.2.2.2.2.2.2
              simp only [pickOps, List.getElem?_toArray, List.getElem?_cons_zero, List.getElem?_cons_succ]
              repeat (first | go_big_quiet_step (fail) | quiet_step (fail))
              exact wpQuiet_nil rfl
            refine wpAnyT_all (rs := [16]) (by kernel_rfl) (by simp) (fun wa14 hwa14 hRwa14 i hi => ?_)
            have hB202 := hB201.next hwa14
            clear hB201 hwa14 hRwa14
            obtain rfl := List.mem_singleton.1 hi
            refine wpOp_step rfl (fun Kc hKc => ?_)
            go_simp
            refine Calls.mono (HCK.out wa14 (hB202).below) ?_
            rintro e wv15 ⟨A7, c7, rfl, hC7, hb⟩
            have hB203 := (hB202).next hb
            clear hb
            refine hKc _ _ ⟨(hB203.keep (List.nil_sublist _)), ?_⟩
            clear hKc Kc hB202
            refine wpAnyT_all (rs := [21]) (by kernel_rfl) (by simp) (fun wa16 hwa16 hRwa16 i hi => ?_)
            have hC7 := hC7.next hwa16
            have hB204 := hB203.next hwa16
            clear hB203 hwa16 hRwa16
            obtain rfl := List.mem_singleton.1 hi
            refine wpOp_step rfl (fun Kc hKc => ?_)
            go_simp
            refine Calls.mono (HRI.out wa16 A7 c7 hC7) ?_
            rintro e wv17 ⟨rfl, hb⟩
            have hB205 := (hB204).next hb
            clear hb hC7
            refine hKc _ _ ⟨(hB205.keep (List.nil_sublist _)), ?_⟩
            clear hKc Kc hB204
            refine wpAnyT_go (Bx.grows _ _) (hB205.keep (List.nil_sublist _)) [22] 0 (by kernel_rfl) ?_
            apply Exists.intro
            refine ⟨fun G hG hN => ?_, ?_⟩
            · have g6 := fun (e : GE (Bx w15 []) G) => (HC6.out e.w (HBw.out _ (HBz.out _ (GE.h e).below))).1
              have g7 := fun (e : GE (Bx w15 []) G) => (HC6.out e.w (HBw.out _ (HBz.out _ (GE.h e).below))).2
              have e0 := fun (e : GE (Bx w15 []) G) => (HQC.out e.w (GE.h e).below).1
              have e1 := fun (e : GE (Bx w15 []) G) => (HQC.out e.w (GE.h e).below).2.1
              have e2 := fun (e : GE (Bx w15 []) G) => (HQC.out e.w (GE.h e).below).2.2.1
              have e3 := fun (e : GE (Bx w15 []) G) => (HQC.out e.w (GE.h e).below).2.2.2.1
              have e4 := fun (e : GE (Bx w15 []) G) => (HQC.out e.w (GE.h e).below).2.2.2.2.1
              have e5 := fun (e : GE (Bx w15 []) G) => (HQC.out e.w (GE.h e).below).2.2.2.2.2.1
              have e6 := fun (e : GE (Bx w15 []) G) => (HQC.out e.w (GE.h e).below).2.2.2.2.2.2.1
              have e7 := fun (e : GE (Bx w15 []) G) => (HQC.out e.w (GE.h e).below).2.2.2.2.2.2.2.1
              have e8 := fun (e : GE (Bx w15 []) G) => (HQC.out e.w (GE.h e).below).2.2.2.2.2.2.2.2
              simp only [pickOps, List.getElem?_toArray, List.getElem?_cons_zero, List.getElem?_cons_succ]
              repeat (first | go_big_quiet_step (fail) | quiet_step (fail))
              exact wpQuiet_nil rfl
            refine wpAnyT_done (by kernel_rfl) (fun wd18 hwd18 hRwd18 => ?_) _
            refine NoPanic.normal ?_
            have hB206 := hB205.next hwd18
            clear hB205 hwd18 hRwd18
            have HE := Lib.hid hB206.below
            clear hB206
            go_wp2_with fail
            exact ⟨⟨k + 1, HLK.out.1, by go_num, HE.out⟩, by simpa [intOf] using HLK.out.2⟩
          · have b2 : decide (a.after ≤ (k : Int)) = false := decide_eq_false q2
            obtain ⟨kF, hkF⟩ : ∃ x, x = cksOf false acs := ⟨_, rfl⟩
            have HCK := Lib.hid (fun (V : World) (hV : Below w15.heap.size w15 V) => show Calls Try.prog 18 #[.slice (some ad) acs.length s, .bool false] V (CakesRes kF V) by rw [hkF]; exact HKT.out false V hV)
            have HRI := Lib.hid (fun (V : World) (A : Option Addr) (ca : Nat) (h1 : CsIn V.heap.size V A ca kF) => show Calls Try.prog 17 #[.slice A kF.length ca, qV q] V (fun e w' => e = .returned (.bool true) ∧ Below V.heap.size V w') by
              have k := fright_any kF A ca q HWQ.out V h1
              rwa [show rightB kF q = true by rw [hkF]; exact HR3.out.2.1 q1 (by omega)] at k)
            clear hkF HKT HR3 q1 q2
            go_wp2_with fail
            refine wp_region_T (Bx w15 []) 23 (by kernel_rfl) (by rfl) ((hMk.keep (List.nil_sublist _)).drew) (fun wq19 hbq => ?_)
            have hB201 := hMk.next hbq
            clear hMk hbq
            refine wpAnyT_go (Bx.grows _ _) (hB201.keep (List.nil_sublist _)) [0, 1, 2, 3, 4, 5, 6, 7, 8, 9, 10, 11, 12, 13, 14, 15, 17, 18, 19, 20] 3 (by kernel_rfl) ?_
            apply Exists.intro
            refine ⟨fun G hG hN => ?_, ?_⟩
            · have g6 := fun (e : GE (Bx w15 []) G) => (HC6.out e.w (HBw.out _ (HBz.out _ (GE.h e).below))).1
              have g7 := fun (e : GE (Bx w15 []) G) => (HC6.out e.w (HBw.out _ (HBz.out _ (GE.h e).below))).2
              have e0 := fun (e : GE (Bx w15 []) G) => (HQC.out e.w (GE.h e).below).1
              have e1 := fun (e : GE (Bx w15 []) G) => (HQC.out e.w (GE.h e).below).2.1
              have e2 := fun (e : GE (Bx w15 []) G) => (HQC.out e.w (GE.h e).below).2.2.1
              have e3 := fun (e : GE (Bx w15 []) G) => (HQC.out e.w (GE.h e).below).2.2.2.1
              have e4 := fun (e : GE (Bx w15 []) G) => (HQC.out e.w (GE.h e).below).2.2.2.2.1
              have e5 := fun (e : GE (Bx w15 []) G) => (HQC.out e.w (GE.h e).below).2.2.2.2.2.1
              have e6 := fun (e : GE (Bx w15 []) G) => (HQC.out e.w (GE.h e).below).2.2.2.2.2.2.1
              have e7 := fun (e : GE (Bx w15 []) G) => (HQC.out e.w (GE.h e).below).2.2.2.2.2.2.2.1
              have e8 := fun (e : GE (Bx w15 []) G) => (HQC.out e.w (GE.h e).below).2.2.2.2.2.2.2.2
              simp only [pickOps, List.getElem?_toArray, List.getElem?_cons_zero, List.getElem?_cons_succ]
              repeat (first | go_big_quiet_step (fail) | quiet_step (fail))
              exact wpQuiet_nil rfl
            refine wpAnyT_all (rs := [16]) (by kernel_rfl) (by simp) (fun wa20 hwa20 hRwa20 i hi => ?_)
            have hB202 := hB201.next hwa20
            clear hB201 hwa20 hRwa20
            obtain rfl := List.mem_singleton.1 hi
            refine wpOp_step rfl (fun Kc hKc => ?_)
            go_simp
            refine Calls.mono (HCK.out wa20 (hB202).below) ?_
            rintro e wv21 ⟨A7, c7, rfl, hC7, hb⟩
            have hB203 := (hB202).next hb
            clear hb
            refine hKc _ _ ⟨(hB203.keep (List.nil_sublist _)), ?_⟩
            clear hKc Kc hB202
            refine wpAnyT_all (rs := [21]) (by kernel_rfl) (by simp) (fun wa22 hwa22 hRwa22 i hi => ?_)
            have hC7 := hC7.next hwa22
            have hB204 := hB203.next hwa22
            clear hB203 hwa22 hRwa22
            obtain rfl := List.mem_singleton.1 hi
            refine wpOp_step rfl (fun Kc hKc => ?_)
            go_simp
            refine Calls.mono (HRI.out wa22 A7 c7 hC7) ?_
            rintro e wv23 ⟨rfl, hb⟩
            have hB205 := (hB204).next hb
            clear hb hC7
            refine hKc _ _ ⟨(hB205.keep (List.nil_sublist _)), ?_⟩
            clear hKc Kc hB204
            refine wpAnyT_go (Bx.grows _ _) (hB205.keep (List.nil_sublist _)) [22] 0 (by kernel_rfl) ?_
            apply Exists.intro
            refine ⟨fun G hG hN => ?_, ?_⟩
            · have g6 := fun (e : GE (Bx w15 []) G) => (HC6.out e.w (HBw.out _ (HBz.out _ (GE.h e).below))).1
              have g7 := fun (e : GE (Bx w15 []) G) => (HC6.out e.w (HBw.out _ (HBz.out _ (GE.h e).below))).2
              have e0 := fun (e : GE (Bx w15 []) G) => (HQC.out e.w (GE.h e).below).1
              have e1 := fun (e : GE (Bx w15 []) G) => (HQC.out e.w (GE.h e).below).2.1
              have e2 := fun (e : GE (Bx w15 []) G) => (HQC.out e.w (GE.h e).below).2.2.1
              have e3 := fun (e : GE (Bx w15 []) G) => (HQC.out e.w (GE.h e).below).2.2.2.1
              have e4 := fun (e : GE (Bx w15 []) G) => (HQC.out e.w (GE.h e).below).2.2.2.2.1
              have e5 := fun (e : GE (Bx w15 []) G) => (HQC.out e.w (GE.h e).below).2.2.2.2.2.1
              have e6 := fun (e : GE (Bx w15 []) G) => (HQC.out e.w (GE.h e).below).2.2.2.2.2.2.1
              have e7 := fun (e : GE (Bx w15 []) G) => (HQC.out e.w (GE.h e).below).2.2.2.2.2.2.2.1
              have e8 := fun (e : GE (Bx w15 []) G) => (HQC.out e.w (GE.h e).below).2.2.2.2.2.2.2.2
              simp only [pickOps, List.getElem?_toArray, List.getElem?_cons_zero, List.getElem?_cons_succ]
              repeat (first | go_big_quiet_step (fail) | quiet_step (fail))
              exact wpQuiet_nil rfl
            refine wpAnyT_done (by kernel_rfl) (fun wd24 hwd24 hRwd24 => ?_) _
            refine NoPanic.normal ?_
            have hB206 := hB205.next hwd24
            clear hB205 hwd24 hRwd24
            have HE := Lib.hid hB206.below
            clear hB206
            go_wp2_with fail
            exact ⟨⟨k + 1, HLK.out.1, by go_num, HE.out⟩, by simpa [intOf] using HLK.out.2⟩
end Go.Proofs.Ytgcbmnohhbcfiab
