/- AgentParts returns true. -/
import Derived.Test.YtgcbmnohhbcfiabAgLA
namespace Go.Proofs.Ytgcbmnohhbcfiab
open Go.RowKit Go.Deep
set_option linter.unusedVariables false
set_option linter.unusedSimpArgs false

theorem run_eql_b (p q : Bool) (w : World) : True := trivial
/-- What the law needs: a run, and its first part. -/
structure Parts (m : Mt) (qs : List Qy) (j : Nat) (a : Mt) (n : Nat) (e : Int) (b : Mt) (k : Nat) (f : Int) : Prop where
  nle : n ≤ qs.length
  kle : k ≤ j
  eall : (e == 0) = decide (n = qs.length)
  fall : (f == 0) = decide (k = j)
  len : a.log.length = m.log.length + n
  aok : MtOk a
  bok : MtOk b
  log : ∀ (i : Nat) (q : Qy), i < n → qs[i]? = some q → ∃ r : Rt, a.log[m.log.length + i]? = some { q with ans := r }
  acs : a.acs.length = m.acs.length
  at_ : ∀ (i : Nat) (x : Ac), m.acs[i]? = some x → ∃ y : Ac, a.acs[i]? = some y ∧ y.own = x.own ∧ y.after = x.after
  no : f ≠ 0 → a = b ∧ n = k ∧ e = f
  yes : f = 0 → b.rM (qs.drop j) = a ∧ b.rN (qs.drop j) + j = n ∧ b.rC (qs.drop j) = e
theorem parts_of {m : Mt} {qs : List Qy} {j : Nat} (hm : MtOk m) (hq : qs.length ≤ 30) (hj : j ≤ qs.length) : Parts m qs j (m.rM qs) (m.rN qs) (m.rC qs) (m.rM (qs.take j)) (m.rN (qs.take j)) (m.rC (qs.take j)) := by
  have hc : m.code = 0 := meetC_zero.2 hm
  have htl : (qs.take j).length = j := by rw [List.length_take]; omega
  obtain ⟨a1, a2, a3⟩ := Mt.r_run (l := qs) hc (by omega)
  obtain ⟨b1, b2, b3⟩ := Mt.r_run (l := qs.take j) hc (by omega)
  rw [a1, a2, a3, b1, b2, b3]
  have hok := hm.run (qs.take j)
  have hcb : (m.run (qs.take j)).code = 0 := meetC_zero.2 hok
  obtain ⟨c1, c2, c3⟩ := Mt.r_run (l := qs.drop j) hcb (by rw [List.length_drop]; omega)
  have hap := Mt.run_append (qs.take j) m (qs.drop j)
  rw [List.take_append_drop] at hap
  have hz1 := Mt.runE_zero qs m
  have hz2 := Mt.runE_zero (qs.take j) m
  rw [htl] at hz2
  have hk : m.runN (qs.take j) ≤ j := by have := Mt.runN_le (qs.take j) m; rw [htl] at this; exact this
  refine ⟨Mt.runN_le _ _, hk, ?_, ?_, (Mt.run_len qs m).1, hm.run qs, hok, (Mt.run_log qs m).2, (Mt.run_len qs m).2, fun i x hi => ?_, fun hf => ?_, fun hf => ?_⟩
  · by_cases e : m.runE qs = 0
    · rw [decide_eq_true (hz1.1 e), e]; rfl
    · rw [decide_eq_false (fun q => e (hz1.2 q))]; simpa using e
  · by_cases e : m.runE (qs.take j) = 0
    · rw [decide_eq_true (hz2.1 e), e]; rfl
    · rw [decide_eq_false (fun q => e (hz2.2 q))]; simpa using e
  · obtain ⟨q, h⟩ := Mt.run_at qs m i x hi
    exact ⟨_, h, rfl, rfl⟩
  · exact hap.2 hf
  · obtain ⟨h1, h2, h3⟩ := hap.1 hf
    rw [c1, c2, c3]
    refine ⟨h1.symm, ?_, h3.symm⟩
    rw [h2, htl]; omega
theorem MtOk.lens {m : Mt} (h : MtOk m) : m.acs.length ≤ 6 ∧ m.log.length ≤ 2000 := ⟨h.m, h.q⟩
theorem RIn.drop {α : Type} {k : Kd α} {w : World} {ad : Addr} {c : Nat} {l : List α} (h : RIn k w.heap.size w (some ad) c l) (n : Nat) (hn : n ≤ l.length) : RIn k w.heap.size w (some (ad.add (n * k.s))) (c - n) (l.drop n) := by
  refine ⟨fun i a hi => ?_, ?_, ?_⟩
  · rw [List.getElem?_drop] at hi
    obtain ⟨ad', vs, e, hB, hE, hc⟩ := h.at_ (n + i) a hi
    obtain rfl := Option.some.inj e
    refine ⟨_, vs, rfl, by rw [block_add]; exact hB, hE, fun j u hu => ?_⟩
    rw [add_of_add]
    have := hc j u hu
    rwa [show (n + i) * k.s + j = n * k.s + (i * k.s + j) by rw [Nat.add_mul]; omega] at this
  · rw [List.length_drop]; have := h.len; omega
  · have := h.cap; omega
set_option maxRecDepth 100000 in
set_option maxHeartbeats 64000000 in
theorem agentparts_walk (m : Mt) (S : Option Addr) (s : Nat) (B : Option Addr) (d : Nat) (qs : List Qy) (C : Option Addr) (c : Nat) (at_ : Int) (w : World) (h : AsIn w.heap.size w S s m.acs) (hl : LgIn w.heap.size w B d m.log) (hq : LgIn w.heap.size w C c qs) :
    Calls Try.prog 6 #[mV S s m.acs B d m.log, .slice C qs.length c, .int .i64 at_] w fun e w' => e = .returned (.bool true) ∧ Below w.heap.size w w' := by
  have hm1 := Nat.le_trans h.len h.cap
  have hm2 := Nat.le_trans hl.len hl.cap
  have hm3 := Nat.le_trans hq.len hq.cap
  have HG := Lib.hid (fun (W : World) (hW : Below w.heap.size w W) => fgreatm_any m.acs S s m.log B d W (h.next hW) hm2)
  have HCK := Lib.hid (fun (W : World) (hW : Below w.heap.size w W) => fmcheck_any m.acs S s m.log B d W (h.next hW) (hl.next hW))
  have HMI := Lib.hid (fun (W : World) (hW : Below w.heap.size w W) => show MtIn S s B d m W from ⟨h.next hW, hl.next hW⟩)
  have HQ := Lib.hid (fun (W : World) (hW : Below w.heap.size w W) => hq.next hW)
  have HCAP := Lib.hid (And.intro hq.len hq.cap)
  have hM0 : Mx w [(w.heap.size, mB S s m.acs B d m.log)] [] (w.alloc (mB S s m.acs B d m.log)) := (Mx.of_bx (Bx.start w)).new rfl _
  clear h hl hq hm1 hm2 hm3
  obtain ⟨gr, hgr⟩ : ∃ x, x = greatM m.acs m.log.length := ⟨_, rfl⟩
  obtain ⟨co, hco⟩ : ∃ x, x = meetC m.acs m.log := ⟨_, rfl⟩
  rw [← hgr] at HG
  rw [← hco] at HCK
  have HCO := Lib.hid hco
  clear hgr hco
  go_enter Try.func6, Try.ntmps6
  try dsimp only [List.append]
  go_upto_region 1 with fail
  generalize hw0 : w.alloc (mB S s m.acs B d m.log) = w0 at *
  clear hw0
  go_wp2_with fail
  refine (agalive_any _).mono ?_
  rintro e w1 ⟨rfl, hb⟩
  have hB1 := hM0.next hb
  clear hb hM0
  have c_m := fun j => cell_of_row _ _ j _ _ _ (hB1.get 0 rfl)
  have z_m := hB1.lt 0 rfl
  go_wp2_with fail
  refine (HG.out _ hB1.below).mono ?_
  rintro e w2 ⟨rfl, hb⟩
  have hB2 := hB1.next hb
  clear c_m z_m hb hB1
  clear HG
  cases gr with
  | true =>
    have HE := Lib.hid hB2.below
    clear hB2 HCK HMI HQ
    go_wp2_with fail
    go_ret
    exact ⟨rfl, HE.out⟩
  | false =>
    have c_m := fun j => cell_of_row _ _ j _ _ _ (hB2.get 0 rfl)
    have z_m := hB2.lt 0 rfl
    go_wp2_with fail
    refine (HCK.out _ hB2.below).mono ?_
    rintro e w3 ⟨rfl, hb⟩
    have hB3 := hB2.next hb
    clear c_m z_m hb hB2
    clear HCK
    by_cases q0 : co = 0
    rotate_left
    · have b0 : (co != 0) = true := by simpa using q0
      clear q0
      have HE := Lib.hid hB3.below
      clear hB3 HMI HQ
      go_wp2_with fail
      go_ret
      exact ⟨rfl, HE.out⟩
    have b0 : (co != 0) = false := by simpa using q0
    have HOK := Lib.hid (show MtOk m from meetC_zero.1 (by rw [← HCO.out]; exact q0))
    by_cases q1 : 30 < qs.length
    · have b1 : decide ((30 : Int) < (qs.length : Int)) = true := decide_eq_true (by omega)
      clear q0 q1
      have HE := Lib.hid hB3.below
      clear hB3 HMI HQ
      go_wp2_with fail
      go_ret
      exact ⟨rfl, HE.out⟩
    have b1 : decide ((30 : Int) < (qs.length : Int)) = false := decide_eq_false (by omega)
    by_cases q2 : at_ < 0
    · have b2 : decide (at_ < 0) = true := decide_eq_true q2
      clear q0 q1 q2
      have HE := Lib.hid hB3.below
      clear hB3 HMI HQ
      go_wp2_with fail
      go_ret
      exact ⟨rfl, HE.out⟩
    have b2 : decide (at_ < 0) = false := decide_eq_false q2
    by_cases q3 : (qs.length : Int) < at_
    · have b3 : decide ((qs.length : Int) < at_) = true := decide_eq_true q3
      clear q0 q1 q2 q3
      have HE := Lib.hid hB3.below
      clear hB3 HMI HQ
      go_wp2_with fail
      go_ret
      exact ⟨rfl, HE.out⟩
    obtain ⟨j, hj, hjl⟩ : ∃ j : Nat, at_ = (j : Int) ∧ j ≤ qs.length := ⟨at_.toNat, by omega, by omega⟩
    subst hj
    have b3 : decide ((qs.length : Int) < (j : Int)) = false := decide_eq_false (by omega)
    have b3n : decide (qs.length < j) = false := decide_eq_false (by omega)
    have HJ := Lib.hid (And.intro hjl (show qs.length ≤ 30 by omega))
    clear q0 q1 q2 q3 hjl
    obtain ⟨ra, hra⟩ : ∃ x, x = m.rM qs := ⟨_, rfl⟩
    obtain ⟨na, hna⟩ : ∃ x, x = m.rN qs := ⟨_, rfl⟩
    obtain ⟨ea, hea⟩ : ∃ x, x = m.rC qs := ⟨_, rfl⟩
    obtain ⟨rb, hrb⟩ : ∃ x, x = m.rM (qs.take j) := ⟨_, rfl⟩
    obtain ⟨nb, hnb⟩ : ∃ x, x = m.rN (qs.take j) := ⟨_, rfl⟩
    obtain ⟨eb, heb⟩ : ∃ x, x = m.rC (qs.take j) := ⟨_, rfl⟩
    have HPA := Lib.hid (show Parts m qs j ra na ea rb nb eb by rw [hra, hna, hea, hrb, hnb, heb]; exact parts_of HOK.out HJ.out.2 HJ.out.1)
    have HR1 := Lib.hid (fun (V : World) (hV : Below w.heap.size w V) => run_fr m S s B d qs C c V (HMI.out V hV) (HQ.out V hV) ra na ea hra.symm hna.symm hea.symm)
    have HR2 := Lib.hid (fun (V : World) (hV : Below w.heap.size w V) => show Calls Try.prog 11 #[.agg #[.slice S m.acs.length s, .slice B m.log.length d], .slice C j c] V (fun e w' => ∃ P cp S2 cs, e = .returned (.tuple #[.agg #[.slice P rb.acs.length cp, .slice S2 rb.log.length cs], .int .i64 (nb : Int), .int .i64 eb]) ∧ Fresh V.heap.size w' (MtIn P cp S2 cs rb) ∧ Below V.heap.size V w') by
      have := run_fr m S s B d (qs.take j) C c V (HMI.out V hV) ((HQ.out V hV).take j) rb nb eb hrb.symm hnb.symm heb.symm
      rwa [List.length_take, Nat.min_eq_left HJ.out.1] at this)
    clear hra hna hea hrb hnb heb
    have c_m := fun j => cell_of_row _ _ j _ _ _ (hB3.get 0 rfl)
    have z_m := hB3.lt 0 rfl
    go_wp2_with fail
    refine (HR1.out _ hB3.below).mono ?_
    rintro e w4 ⟨P3, p3, S3, s3, rfl, hF3, hb⟩
    have hB4 := hB3.next hb
    have HF3_ := Lib.hid (fun (V : World) (hV : Below w4.heap.size w4 V) => hF3.ext hV)
    clear c_m z_m hF3 hb hB3 HR1 b0 b1 b2 b3 b3n
    go_upto_region 5 with fail
    have hVwa := one_alloc w4 (.cells #[.slice P3 ra.acs.length p3, .slice S3 ra.log.length s3] 27)
    have hwa := hB4.new rfl (.cells #[.slice P3 ra.acs.length p3, .slice S3 ra.log.length s3] 27)
    obtain ⟨gA, hggA⟩ : ∃ x, x = w4.heap.size := ⟨_, rfl⟩
    obtain ⟨wa, hwwa⟩ : ∃ x, x = w4.alloc (.cells #[.slice P3 ra.acs.length p3, .slice S3 ra.log.length s3] 27) := ⟨_, rfl⟩
    rw [← hwwa] at hVwa
    rw [← hggA, ← hwwa] at hwa
    rw [← hggA, ← hwwa]
    clear hggA hwwa
    have HF3 := Lib.hid (fun (V : World) (hV : Below wa.heap.size wa V) => HF3_.out V (bcall hVwa hVwa.size hV))
    have HCA := Lib.hid (fun (V : World) (hV : Below wa.heap.size wa V) => heap_ext (hwa.get 0 rfl) hV)
    have HCM := Lib.hid (fun (V : World) (hV : Below wa.heap.size wa V) => heap_ext (hwa.get 1 rfl) hV)
    have HBa := Lib.hid (fun (V : World) (hV : Below wa.heap.size wa V) => bcall hwa.below hwa.below.size hV)
    clear hVwa hwa hB4 HF3_
    have HSL := Lib.hid (show (j : Int) ≤ (c : Int) ∧ j ≤ c ∧ (0 : Int) ≤ (j : Int) by have := HJ.out.1; have := HCAP.out.1; omega)
    go_cut [11, 12, 13] (fun s11 s12 s13 wx => ∃ (gB : Nat) (P4 : Option Addr) (p4 : Nat) (S4 : Option Addr) (s4 : Nat), s11 = .pointer (some ⟨gB, 0, none⟩) ∧ s12 = .int .i64 (nb : Int) ∧ s13 = .int .i64 eb ∧ Mx wa [(gB, .cells #[.slice P4 rb.acs.length p4, .slice S4 rb.log.length s4] 27)] [] wx ∧ Fresh wa.heap.size wx (MtIn P4 p4 S4 s4 rb))
    case first =>
      as_aux_lemma =>
        have hX : Ms (fun _ => True) wa [] [] wa := Ms.of_mx (Mx.of_bx (Bx.start wa)) (fun _ => trivial)
        have k1 := HSL.out.1
        have k2 := HSL.out.2.1
        have k3 := HSL.out.2.2
        go_wp2_with fail
        refine wp_region_T (Bx wa []) 13 (by kernel_rfl) (by rfl) ((hX.keep (List.nil_sublist _)).drew) (fun wq1 hbq => ?_)
        have hB101 := hX.next hbq
        clear hX hbq
        refine wpAnyT_go (Bx.grows _ _) (hB101.keep (List.nil_sublist _)) [0, 1, 2, 3] 9 (by kernel_rfl) ?_
        apply Exists.intro
        refine ⟨fun G hG hN => ?_, ?_⟩
        · have c_m := fun (e : GE (Bx wa []) G) j => cell_of_row e.w _ j _ _ _ (HCM.out e.w (GE.h e).below)
          have z_m := fun (e : GE (Bx wa []) G) => lt_some (HCM.out e.w (GE.h e).below)
          simp only [pickOps, List.getElem?_toArray, List.getElem?_cons_zero, List.getElem?_cons_succ]
          repeat (first | go_big_quiet_step (fail) | quiet_step (fail))
          exact wpQuiet_nil rfl
        refine wpAnyT_all (rs := [4, 9]) (by kernel_rfl) (by simp) (fun wa2 hwa2 hRwa2 i hi => ?_)
        have hB102 := hB101.next hwa2
        clear hB101 hwa2 hRwa2
        rcases List.mem_cons.1 hi with rfl | hi
        · refine wpOp_step rfl (fun Kc hKc => ?_)
          go_simp
          refine Calls.mono (HR2.out _ (HBa.out _ hB102.below)) ?_
          rintro e wv3 ⟨P4, p4, S4, s4, rfl, hF, hb⟩
          have hB103 := hB102.call hb hF
          clear hF hb
          refine hKc _ _ ⟨(hB103.keep (List.nil_sublist _)), ?_⟩
          clear hKc Kc hB102
          refine wpAnyT_go (Bx.grows _ _) (hB103.keep (List.nil_sublist _)) [5, 6, 7, 8] 4 (by kernel_rfl) ?_
          apply Exists.intro
          refine ⟨fun G hG hN => ?_, ?_⟩
          · have c_m := fun (e : GE (Bx wa []) G) j => cell_of_row e.w _ j _ _ _ (HCM.out e.w (GE.h e).below)
            have z_m := fun (e : GE (Bx wa []) G) => lt_some (HCM.out e.w (GE.h e).below)
            simp only [pickOps, List.getElem?_toArray, List.getElem?_cons_zero, List.getElem?_cons_succ]
            repeat (first | go_big_quiet_step (fail) | quiet_step (fail))
            exact wpQuiet_nil rfl
          refine wpAnyT_all (rs := [9]) (by kernel_rfl) (by simp) (fun wa4 hwa4 hRwa4 i hi => ?_)
          have hB104 := hB103.next hwa4
          clear hB103 hwa4 hRwa4
          obtain rfl := List.mem_singleton.1 hi
          refine wpOp_step rfl (fun Kc hKc => ?_)
          go_simp
          have hB105 := hB104.new (g := wa4.heap.size) rfl (.cells #[.slice none 0 0, .slice none 0 0] 27)
          refine hKc _ _ ⟨(hB105.keep (List.nil_sublist _)), ?_⟩
          clear hKc Kc hB104
          generalize wa4.heap.size = gB at *
          generalize wa4.alloc _ = wb5 at *
          refine wpAnyT_all (rs := [10]) (by kernel_rfl) (by simp) (fun wa6 hwa6 hRwa6 i hi => ?_)
          have hB106 := hB105.next hwa6
          clear hB105 hwa6 hRwa6
          obtain rfl := List.mem_singleton.1 hi
          refine wpOp_step rfl (fun Kc hKc => ?_)
          have c_bb := fun j => cell_of_row _ _ j _ _ _ (hB106.get 0 rfl)
          have z_bb := hB106.lt 0 rfl
          have f_bb := fun j => frozen_of_row _ _ j _ _ (hB106.get 0 rfl)
          go_simp
          have hB107 := hB106.put2 0 rfl (.slice P4 rb.acs.length p4) (.slice S4 rb.log.length s4)
          refine hKc _ _ ⟨(hB107.keep (List.nil_sublist _)), ?_⟩
          clear c_bb z_bb f_bb hKc Kc hB106
          generalize (wa6.setCell _ _).setCell _ _ = wb7 at *
          refine wpAnyT_go (Bx.grows _ _) (hB107.keep (List.nil_sublist _)) [11, 12] 0 (by kernel_rfl) ?_
          apply Exists.intro
          refine ⟨fun G hG hN => ?_, ?_⟩
          · have c_m := fun (e : GE (Bx wa []) G) j => cell_of_row e.w _ j _ _ _ (HCM.out e.w (GE.h e).below)
            have z_m := fun (e : GE (Bx wa []) G) => lt_some (HCM.out e.w (GE.h e).below)
            simp only [pickOps, List.getElem?_toArray, List.getElem?_cons_zero, List.getElem?_cons_succ]
            repeat (first | go_big_quiet_step (fail) | quiet_step (fail))
            exact wpQuiet_nil rfl
          refine wpAnyT_done (by kernel_rfl) (fun wd8 hwd8 hRwd8 => ?_) _
          refine NoPanic.normal ?_
          have hB108 := hB107.next hwd8
          clear hB107 hwd8 hRwd8
          have HM := Lib.hid hB108.mx
          have HF := Lib.hid (show Fresh wa.heap.size wd8 (MtIn P4 p4 S4 s4 rb) from fun V a b => (hB108.sep V a (fun g h1 h2 _ => b g h1 h2)).2)
          clear hB108
          go_wp2_with fail
          go_meet
          exact ⟨gB, P4, p4, S4, s4, rfl, rfl, rfl, HM.out, HF.out⟩
        · obtain rfl := List.mem_singleton.1 hi
          refine wpOp_step rfl (fun Kc hKc => ?_)
          go_simp
          have hB103 := hB102.new (g := wa2.heap.size) rfl (.cells #[.slice none 0 0, .slice none 0 0] 27)
          refine hKc _ _ ⟨(hB103.keep (List.nil_sublist _)), ?_⟩
          clear hKc Kc hB102
          generalize wa2.heap.size = gB at *
          generalize wa2.alloc _ = wb9 at *
          refine wpAnyT_all (rs := [4]) (by kernel_rfl) (by simp) (fun wa10 hwa10 hRwa10 i hi => ?_)
          have hB104 := hB103.next hwa10
          clear hB103 hwa10 hRwa10
          obtain rfl := List.mem_singleton.1 hi
          refine wpOp_step rfl (fun Kc hKc => ?_)
          go_simp
          refine Calls.mono (HR2.out _ (HBa.out _ hB104.below)) ?_
          rintro e wv11 ⟨P4, p4, S4, s4, rfl, hF, hb⟩
          have hB105 := hB104.call hb hF
          clear hF hb
          refine hKc _ _ ⟨(hB105.keep (List.nil_sublist _)), ?_⟩
          clear hKc Kc hB104
          refine wpAnyT_go (Bx.grows _ _) (hB105.keep (List.nil_sublist _)) [5, 6, 7, 8] 3 (by kernel_rfl) ?_
          apply Exists.intro
          refine ⟨fun G hG hN => ?_, ?_⟩
          · have c_m := fun (e : GE (Bx wa []) G) j => cell_of_row e.w _ j _ _ _ (HCM.out e.w (GE.h e).below)
            have z_m := fun (e : GE (Bx wa []) G) => lt_some (HCM.out e.w (GE.h e).below)
            simp only [pickOps, List.getElem?_toArray, List.getElem?_cons_zero, List.getElem?_cons_succ]
            repeat (first | go_big_quiet_step (fail) | quiet_step (fail))
            exact wpQuiet_nil rfl
          refine wpAnyT_all (rs := [10]) (by kernel_rfl) (by simp) (fun wa12 hwa12 hRwa12 i hi => ?_)
          have hB106 := hB105.next hwa12
          clear hB105 hwa12 hRwa12
          obtain rfl := List.mem_singleton.1 hi
          refine wpOp_step rfl (fun Kc hKc => ?_)
          have c_bb := fun j => cell_of_row _ _ j _ _ _ (hB106.get 0 rfl)
          have z_bb := hB106.lt 0 rfl
          have f_bb := fun j => frozen_of_row _ _ j _ _ (hB106.get 0 rfl)
          go_simp
          have hB107 := hB106.put2 0 rfl (.slice P4 rb.acs.length p4) (.slice S4 rb.log.length s4)
          refine hKc _ _ ⟨(hB107.keep (List.nil_sublist _)), ?_⟩
          clear c_bb z_bb f_bb hKc Kc hB106
          generalize (wa12.setCell _ _).setCell _ _ = wb13 at *
          refine wpAnyT_go (Bx.grows _ _) (hB107.keep (List.nil_sublist _)) [11, 12] 0 (by kernel_rfl) ?_
          apply Exists.intro
          refine ⟨fun G hG hN => ?_, ?_⟩
          · have c_m := fun (e : GE (Bx wa []) G) j => cell_of_row e.w _ j _ _ _ (HCM.out e.w (GE.h e).below)
            have z_m := fun (e : GE (Bx wa []) G) => lt_some (HCM.out e.w (GE.h e).below)
            simp only [pickOps, List.getElem?_toArray, List.getElem?_cons_zero, List.getElem?_cons_succ]
            repeat (first | go_big_quiet_step (fail) | quiet_step (fail))
            exact wpQuiet_nil rfl
          refine wpAnyT_done (by kernel_rfl) (fun wd14 hwd14 hRwd14 => ?_) _
          refine NoPanic.normal ?_
          have hB108 := hB107.next hwd14
          clear hB107 hwd14 hRwd14
          have HM := Lib.hid hB108.mx
          have HF := Lib.hid (show Fresh wa.heap.size wd14 (MtIn P4 p4 S4 s4 rb) from fun V a b => (hB108.sep V a (fun g h1 h2 _ => b g h1 h2)).2)
          clear hB108
          go_wp2_with fail
          go_meet
          exact ⟨gB, P4, p4, S4, s4, rfl, rfl, rfl, HM.out, HF.out⟩
    case rest =>
      obtain ⟨gB, P4, p4, S4, s4, rfl, rfl, rfl, hM, hF4⟩ := hcut
      generalize wc = wd at *
      have HVd := Lib.hid hM.below
      have HCBd := Lib.hid (fun (V : World) (hV : Below wd.heap.size wd V) => heap_ext (hM.get 0 rfl) hV)
      have HF4d := Lib.hid (fun (V : World) (hV : Below wd.heap.size wd V) => hF4.ext hV)
      have HCAd := Lib.hid (fun (V : World) (hV : Below wd.heap.size wd V) => HCA.out V (bcall HVd.out HVd.out.size hV))
      have HCMd := Lib.hid (fun (V : World) (hV : Below wd.heap.size wd V) => HCM.out V (bcall HVd.out HVd.out.size hV))
      have HF3d := Lib.hid (fun (V : World) (hV : Below wd.heap.size wd V) => HF3.out V (bcall HVd.out HVd.out.size hV))
      have HBd := Lib.hid (fun (V : World) (hV : Below wd.heap.size wd V) => HBa.out V (bcall HVd.out HVd.out.size hV))
      clear hM hF4 HCA HCM HF3 HBa HR2 HVd
      obtain ⟨xe, hxe⟩ : ∃ x, x = decide (na = qs.length) := ⟨_, rfl⟩
      obtain ⟨xf, hxf⟩ : ∃ x, x = decide (nb = j) := ⟨_, rfl⟩
      have tt1 : (ea == 0) = xe := by rw [hxe]; exact HPA.out.eall
      have tt2 : ((na : Int) == (qs.length : Int)) = xe := by rw [hxe]; cases e : ((na : Int) == (qs.length : Int)) <;> simp at e ⊢ <;> omega
      have tt2n : (na == qs.length) = xe := by rw [hxe]; cases e : (na == qs.length) <;> simp at e ⊢ <;> omega
      have tt2m : decide (na = qs.length) = xe := hxe.symm
      have tt3 : (eb == 0) = xf := by rw [hxf]; exact HPA.out.fall
      have tt4_ : ((nb : Int) == (j : Int)) = xf := by rw [hxf]; cases e : ((nb : Int) == (j : Int)) <;> simp at e ⊢ <;> omega
      have tt4n : (nb == j) = xf := by rw [hxf]; cases e : (nb == j) <;> simp at e ⊢ <;> omega
      have tt4m : decide (nb = j) = xf := hxf.symm
      have l1 := HPA.out.nle
      have l2 := HPA.out.kle
      have l3 := HPA.out.len
      have l4 := HOK.out.lens
      have l5 := HJ.out
      have r1 : decide ((na : Int) < 0) = false := decide_eq_false (by omega)
      have r2 : decide ((qs.length : Int) < (na : Int)) = false := decide_eq_false (by omega)
      have r2n : decide (qs.length < na) = false := decide_eq_false (by omega)
      have r3 : decide ((nb : Int) < 0) = false := decide_eq_false (by omega)
      have r4 : decide ((j : Int) < (nb : Int)) = false := decide_eq_false (by omega)
      have r4n : decide (j < nb) = false := decide_eq_false (by omega)
      have r5 : IntKind.i64.wrap ((m.log.length : Int) + (na : Int)) = (m.log.length : Int) + (na : Int) := IntWalk.i64_in _ (by omega)
      have r6 : wrap64 ((m.log.length : Int) + (na : Int)) = (m.log.length : Int) + (na : Int) := IntWalk.wrap64_in _ (by omega)
      have r7 : ((ra.log.length : Int) != (m.log.length : Int) + (na : Int)) = false := by simp; omega
      have HL6 := Lib.hid (show ra.log.length = m.log.length + na ∧ m.log.length + na ≤ 2030 by omega)
      have h_a := HCAd.out _ (Below.refl _ _)
      have c_a := fun j => cell_of_row _ _ j _ _ _ h_a
      have z_a := lt_some h_a
      have h_m := HCMd.out _ (Below.refl _ _)
      have c_m := fun j => cell_of_row _ _ j _ _ _ h_m
      have z_m := lt_some h_m
      have HCC := Lib.hid (fun (V : World) (hV : Below wd.heap.size wd V) => show Calls Try.prog 22 #[.agg #[.slice P3 ra.acs.length p3, .slice S3 ra.log.length s3]] V fun e w' => e = .returned (.int .i64 0) ∧ Below V.heap.size V w' by
        have := mcheck_any ra.acs P3 p3 ra.log S3 s3 V (HF3d.out V hV).1 (HF3d.out V hV).2
        rwa [meetC_zero.2 HPA.out.aok] at this)
      clear h_a h_m hxe hxf l1 l2 l3 l4 l5
      go_wp2_with fail
      refine (HCC.out _ (Below.refl _ _)).mono ?_
      rintro e we ⟨rfl, hb⟩
      have HWe := Lib.hid hb
      clear hb c_a z_a c_m z_m HCC tt1 tt2 tt2n tt2m tt3 tt4_ tt4n tt4m r1 r2 r2n r3 r4 r4n r7
      have HR56 := Lib.hid (And.intro r5 r6)
      clear r5 r6
      go_wp2_with fail
      go_loopw [14] (fun s14 wr => ∃ k : Nat, k ≤ na ∧ s14 = .int .i64 k ∧ Below wd.heap.size wd wr) (fun s14 _ => na - (intOf s14).toNat)
      case atStart => exact ⟨0, Nat.zero_le _, rfl, HWe.out⟩
      case round =>
        clear HWe
        obtain ⟨k, hk, rfl, hW⟩ := hrel
        have HW := Lib.hid hW
        clear hW
        by_cases hlt : k < na
        · have hkq : k < qs.length := Nat.lt_of_lt_of_le hlt HPA.out.nle
          obtain ⟨q, hq⟩ : ∃ q, qs[k]? = some q := ⟨_, List.getElem?_eq_getElem hkq⟩
          obtain ⟨rr, hrr⟩ := HPA.out.log k q hlt hq
          obtain ⟨ad, hC, hb, hwq, c0, c1, c2, c3, c4, c5, c6, c7⟩ := (HQ.out _ (HBd.out _ HW.out)).query hq
          obtain ⟨ae, hS, hb2, hwq2, e0, e1, e2, e3, e4, e5, e6, e7⟩ := (HF3d.out _ HW.out).2.query hrr
          subst hC hS
          have l6 := HL6.out
          obtain ⟨z1, z2, z3, z4⟩ := idx_facts hlt (by omega)
          have z5 : (k : Int) < (qs.length : Int) := by omega
          have z8 : ((m.log.length + k : Nat) : Int) < (ra.log.length : Int) := by omega
          have z9 : (0 : Int) ≤ ((m.log.length + k : Nat) : Int) := Int.natCast_nonneg _
          have HBD := Lib.hid (show (m.log.length : Int) + (k : Int) ≤ 9223372036854775807 ∧ -9223372036854775808 ≤ (m.log.length : Int) + (k : Int) ∧ (m.log.length : Int) + (k : Int) = ((m.log.length + k : Nat) : Int) by omega)
          have z6 : IntKind.i64.wrap ((m.log.length : Int) + (k : Int)) = ((m.log.length + k : Nat) : Int) := (IntWalk.i64_in ((m.log.length : Int) + (k : Int)) (And.intro HBD.out.2.1 HBD.out.1)).trans HBD.out.2.2
          have z7 : wrap64 ((m.log.length : Int) + (k : Int)) = ((m.log.length + k : Nat) : Int) := (IntWalk.wrap64_in ((m.log.length : Int) + (k : Int)) (And.intro HBD.out.2.1 HBD.out.1)).trans HBD.out.2.2
          have HLE := Lib.hid (And.intro (Nat.succ_le_of_lt hlt) (Nat.sub_lt_sub_left hlt (Nat.lt_succ_self k)))
          have h_a := HCAd.out _ HW.out
          have c_a := fun j => cell_of_row _ _ j _ _ _ h_a
          have z_a := lt_some h_a
          have h_m := HCMd.out _ HW.out
          have c_m := fun j => cell_of_row _ _ j _ _ _ h_m
          have z_m := lt_some h_m
          have f1 : (ad.add (k * 8)).block < wr.heap.size := by rw [block_add]; exact hb
          obtain ⟨mk, hmk⟩ : ∃ x, x = m.log.length + k := ⟨_, rfl⟩
          rw [← hmk] at z6 z7 z8 z9 e0 e1 e2 e3 e4 e5 e6 e7
          have f2 : (ae.add (mk * 8)).block < wr.heap.size := by rw [block_add]; exact hb2
          clear hmk l6 hrr hq hwq hwq2 h_a h_m hlt hk hkq
          go_upto_region 12 with fail
          have hMx : Mx wr [(wr.heap.size, qB { q with ans := rr })] [] (wr.alloc (qB { q with ans := rr })) := (Mx.of_bx (Bx.start wr)).new rfl _
          have g0 := ((one_alloc wr (qB { q with ans := rr })).cell (p := ⟨(ad.add (k * 8)).block, (ad.add (k * 8)).off + 6, none⟩) f1).trans c6
          have g1 := ((one_alloc wr (qB { q with ans := rr })).cell (p := ⟨(ad.add (k * 8)).block, (ad.add (k * 8)).off + 7, none⟩) f1).trans c7
          have g2 : (ad.add (k * 8)).block < (wr.alloc (qB { q with ans := rr })).heap.size := Nat.lt_of_lt_of_le f1 (one_alloc wr _).size
          have HQC := Lib.hid (fun (V : World) (hV : Below wr.heap.size wr V) => And.intro ((hV.cell f1).trans c0) (And.intro ((hV.cell (p := ⟨(ad.add (k * 8)).block, (ad.add (k * 8)).off + 1, none⟩) f1).trans c1) (And.intro ((hV.cell (p := ⟨(ad.add (k * 8)).block, (ad.add (k * 8)).off + 2, none⟩) f1).trans c2) (And.intro ((hV.cell (p := ⟨(ad.add (k * 8)).block, (ad.add (k * 8)).off + 3, none⟩) f1).trans c3) (And.intro ((hV.cell (p := ⟨(ad.add (k * 8)).block, (ad.add (k * 8)).off + 4, none⟩) f1).trans c4) (And.intro ((hV.cell (p := ⟨(ad.add (k * 8)).block, (ad.add (k * 8)).off + 5, none⟩) f1).trans c5) (And.intro ((hV.cell (p := ⟨(ad.add (k * 8)).block, (ad.add (k * 8)).off + 6, none⟩) f1).trans c6) (And.intro ((hV.cell (p := ⟨(ad.add (k * 8)).block, (ad.add (k * 8)).off + 7, none⟩) f1).trans c7) (Nat.lt_of_lt_of_le f1 hV.size)))))))))
          clear e0 e1 e2 e3 e4 e5 e6 e7 f2 hb2 c0 c1 c2 c3 c4 c5 c6 c7 f1 hb c_a z_a c_m z_m z6 z7 z8 z9
          obtain ⟨wv, hwv⟩ : ∃ x : World, x = wr := ⟨_, rfl⟩
          subst hwv
          obtain ⟨gX, hgx⟩ : ∃ x, x = wv.heap.size := ⟨_, rfl⟩
          obtain ⟨w1, hw1⟩ : ∃ x, x = wv.alloc (qB { q with ans := rr }) := ⟨_, rfl⟩
          rw [← hw1] at hMx g0 g1 g2
          rw [← hgx] at hMx
          rw [← hgx, ← hw1]
          clear hgx hw1
          have c_x := fun j => cell_of_row _ _ j _ _ _ (hMx.get 0 rfl)
          have f_x := fun j => frozen_of_row _ _ j _ _ (hMx.get 0 rfl)
          have z_x := hMx.lt 0 rfl
          go_upto_region 13 with fail
          have hMy : Mx wv [(gX, qB q)] [] _ := (hMx.set 0 rfl 6 (.int .i64 q.ans.n)).set 0 rfl 7 (.int .i64 q.ans.d)
          clear c_x f_x z_x hMx g0 g1 g2
          generalize (w1.setCell _ _).setCell _ _ = w2 at *
          obtain ⟨h0, h1, h2, h3, h4, h5, h6, h7, h8⟩ := HQC.out _ hMy.below
          have c_x := fun j => cell_of_row _ _ j _ _ _ (hMy.get 0 rfl)
          have z_x := hMy.lt 0 rfl
          have HBy := Lib.hid hMy.below
          clear hMy HQC
          go_wp2_with fail
          refine wp_region_ext (by kernel_rfl) (by kernel_rfl) ?_
          repeat (first | go_big_quiet_step (fail) | quiet_step (fail))
          refine wpQuiet_nil ?_
          rintro w3 ⟨⟨wx_, hb⟩, rfl⟩
          have HW3 := Lib.hid (bcall HW.out HW.out.size (bcall HBy.out HBy.out.size hb))
          clear hb h0 h1 h2 h3 h4 h5 h6 h7 h8 c_x z_x HBy
          go_wp2_with fail
          exact ⟨⟨k + 1, HLE.out.1, by go_num, HW3.out⟩, by simpa [intOf] using HLE.out.2⟩
        obtain rfl : na = k := by omega
        clear hlt hk
        have HAL := Lib.hid (show ra.acs.length = m.acs.length from HPA.out.acs)
        go_wp2_with fail
        go_loopw [16] (fun s16 wr => ∃ k : Nat, k ≤ m.acs.length ∧ s16 = .int .i64 k ∧ Below wd.heap.size wd wr) (fun s16 _ => m.acs.length - (intOf s16).toNat)
        case atStart => exact ⟨0, Nat.zero_le _, rfl, HW.out⟩
        case round =>
          clear HW
          obtain ⟨k, hk, rfl, hW⟩ := hrel
          have HW := Lib.hid hW
          clear hW
          have h_a := HCAd.out _ HW.out
          have c_a := fun j => cell_of_row _ _ j _ _ _ h_a
          have z_a := lt_some h_a
          have h_m := HCMd.out _ HW.out
          have c_m := fun j => cell_of_row _ _ j _ _ _ h_m
          have z_m := lt_some h_m
          have l7 := HAL.out
          clear h_a h_m
          by_cases hlt : k < m.acs.length
          · obtain ⟨x, hx⟩ : ∃ x, m.acs[k]? = some x := ⟨_, List.getElem?_eq_getElem hlt⟩
            obtain ⟨⟨yo, yt, ya, yk⟩, hy, e1, e2⟩ := HPA.out.at_ k x hx
            simp only at e1 e2
            subst e1 e2
            obtain ⟨ad, A, c9, R, d9, A', c', R', d', hP, hb, hC, _, _, hat⟩ := (HF3d.out _ HW.out).1.actor hy
            obtain ⟨ae, A2, c2, R2, d2, A2', c2', R2', d2', hS, hb2, hC2, _, _, hat2⟩ := (HMI.out _ (HBd.out _ HW.out)).1.actor hx
            subst hP hS
            obtain ⟨z1, z2, z3, z4⟩ := idx_facts hlt (by have := HOK.out.lens; omega)
            have y1 : (k : Int) < (ra.acs.length : Int) := by omega
            have y2 : k < ra.acs.length := by omega
            have HLE := Lib.hid (And.intro (Nat.succ_le_of_lt hlt) (Nat.sub_lt_sub_left hlt (Nat.lt_succ_self k)))
            have HAA := Lib.hid (fun (V : World) (hV : Below wr.heap.size wr V) => And.intro (hat.next hb hV) (show (ad.add (k * 8)).block < V.heap.size by rw [block_add]; exact Nat.lt_of_lt_of_le hb hV.size))
            have HBB := Lib.hid (fun (V : World) (hV : Below wr.heap.size wr V) => And.intro (hat2.next hb2 hV) (show (ae.add (k * 8)).block < V.heap.size by rw [block_add]; exact Nat.lt_of_lt_of_le hb2 hV.size))
            have HSS := Lib.hid (fun (V : World) (hV : Below wr.heap.size wr V) => show Calls Try.prog 23 #[cV A c9 R d9 x.own, cV A2 c2 R2 d2 x.own] V fun e w' => e = .returned (.bool true) ∧ Below V.heap.size V w' by
              have := fsame_any x.own x.own A c9 R d9 A2 c2 R2 d2 V (hC.next hV) (hC2.next hV)
              rwa [sameK_self] at this)
            clear hb hC hat hb2 hC2 hat2 hx hy hk l7
            go_upto_region 18 with fail
            clear c_a z_a c_m z_m y2
            have HCAr := Lib.hid (fun (V : World) (hV : Below wr.heap.size wr V) => HCAd.out V (bcall HW.out HW.out.size hV))
            have HCMr := Lib.hid (fun (V : World) (hV : Below wr.heap.size wr V) => HCMd.out V (bcall HW.out HW.out.size hV))
            obtain ⟨wv, hwv⟩ : ∃ x : World, x = wr := ⟨_, rfl⟩
            subst hwv
            have hX := Mx.of_bx (Bx.start wv)
            go_wp2_with fail
            refine wp_region_T (Bx wv []) 29 (by kernel_rfl) (by rfl) ((hX.keep (List.nil_sublist _)).drew) (fun wq15 hbq => ?_)
            have hB401 := hX.next hbq
            clear hX hbq
            refine wpAnyT_go (Bx.grows _ _) (hB401.keep (List.nil_sublist _)) [0, 1, 2, 3, 4, 5, 6, 7, 8, 9, 10, 11, 12, 13, 14, 15, 16, 17, 18, 19, 20, 21, 22, 23, 24, 25, 26, 27, 28] 0 (by kernel_rfl) ?_
            apply Exists.intro
            refine ⟨fun G hG hN => ?_, ?_⟩
            · have c_a := fun (e : GE (Bx wv []) G) j => cell_of_row e.w _ j _ _ _ (HCAr.out e.w (GE.h e).below)
              have z_a := fun (e : GE (Bx wv []) G) => lt_some (HCAr.out e.w (GE.h e).below)
              have c_m := fun (e : GE (Bx wv []) G) j => cell_of_row e.w _ j _ _ _ (HCMr.out e.w (GE.h e).below)
              have z_m := fun (e : GE (Bx wv []) G) => lt_some (HCMr.out e.w (GE.h e).below)
              have qa_0 := fun (e : GE (Bx wv []) G) => (HAA.out e.w (GE.h e).below).1.c0
              have qa_1 := fun (e : GE (Bx wv []) G) => (HAA.out e.w (GE.h e).below).1.c1
              have qa_2 := fun (e : GE (Bx wv []) G) => (HAA.out e.w (GE.h e).below).1.c2
              have qa_6 := fun (e : GE (Bx wv []) G) => (HAA.out e.w (GE.h e).below).1.c6
              have qb_0 := fun (e : GE (Bx wv []) G) => (HBB.out e.w (GE.h e).below).1.c0
              have qb_1 := fun (e : GE (Bx wv []) G) => (HBB.out e.w (GE.h e).below).1.c1
              have qb_2 := fun (e : GE (Bx wv []) G) => (HBB.out e.w (GE.h e).below).1.c2
              have qb_6 := fun (e : GE (Bx wv []) G) => (HBB.out e.w (GE.h e).below).1.c6
              have qa_k := fun (e : GE (Bx wv []) G) => (HAA.out e.w (GE.h e).below).2
              have qb_k := fun (e : GE (Bx wv []) G) => (HBB.out e.w (GE.h e).below).2
              simp only [pickOps, List.getElem?_toArray, List.getElem?_cons_zero, List.getElem?_cons_succ]
              repeat (first | go_big_quiet_step ((first | (go_at_call 23; exact calls_ge (Bx.grows _ _) hG (HSS.out _ (Bx.below (GE.h _)))))) | quiet_step ((first | (go_at_call 23; exact calls_ge (Bx.grows _ _) hG (HSS.out _ (Bx.below (GE.h _)))))))
              exact wpQuiet_nil rfl
            refine wpAnyT_done (by kernel_rfl) (fun wd16 hwd16 hRwd16 => ?_) _
            refine NoPanic.normal ?_
            have hB402 := hB401.next hwd16
            clear hB401 hwd16 hRwd16
            have HE := Lib.hid (bcall HW.out HW.out.size hB402.below)
            clear hB402
            go_wp2_with fail
            exact ⟨⟨k + 1, HLE.out.1, by go_num, HE.out⟩, by simpa [intOf] using HLE.out.2⟩
          obtain rfl : k = m.acs.length := by omega
          have w0_ : decide ((m.acs.length : Int) < (ra.acs.length : Int)) = false := decide_eq_false (by rw [l7]; exact Int.lt_irrefl _)
          have w1_ : decide (m.acs.length < ra.acs.length) = false := decide_eq_false (by rw [l7]; exact Nat.lt_irrefl _)
          have w2_ : ¬ m.acs.length < ra.acs.length := by rw [l7]; exact Nat.lt_irrefl _
          clear hlt hk l7
          by_cases ef : eb = 0
          rotate_left
          · have b1 : (eb != 0) = true := by simpa using ef
            obtain ⟨n1, n2, n3⟩ := HPA.out.no ef
            have HAB := Lib.hid n1
            have y1 : ((na : Int) == (nb : Int)) = true := by simp [n2]
            have y2 : (na == nb) = true := by simp [n2]
            have y3 : (ea == eb) = true := by simp [n3]
            have HSA := Lib.hid (fun (V : World) (hV : Below wd.heap.size wd V) => show Calls Try.prog 24 #[.agg #[.slice P3 ra.acs.length p3, .slice S3 ra.log.length s3], .agg #[.slice P4 rb.acs.length p4, .slice S4 rb.log.length s4]] V fun e w' => e = .returned (.bool true) ∧ Below V.heap.size V w' by
              have h3 := HF3d.out V hV
              have h4 := HF4d.out V hV
              rw [HAB.out] at h3 ⊢
              exact fmsame_any rb.acs rb.log P3 p3 S3 s3 P4 p4 S4 s4 V h3.1 h3.2 h4.1 h4.2)
            have h_b := HCBd.out _ HW.out
            have c_b := fun j => cell_of_row _ _ j _ _ _ h_b
            have z_b := lt_some h_b
            clear n1 n2 n3 ef h_b
            go_wp2_with fail
            refine (HSA.out _ HW.out).mono ?_
            rintro e wz ⟨rfl, hb⟩
            have HE := Lib.hid (HBd.out _ (bcall HW.out HW.out.size hb))
            clear hb c_b z_b c_a z_a c_m z_m HSA
            go_wp2_with fail
            go_ret
            exact ⟨rfl, HE.out⟩
          have b1 : (eb != 0) = false := by simpa using ef
          obtain ⟨n1, n2, n3⟩ := HPA.out.yes ef
          clear ef
          obtain ⟨wv, hwv⟩ : ∃ x : World, x = wr := ⟨_, rfl⟩
          subst hwv
          have HCBv := Lib.hid (fun (V : World) (hV : Below wv.heap.size wv V) => HCBd.out V (bcall HW.out HW.out.size hV))
          have HCAv := Lib.hid (fun (V : World) (hV : Below wv.heap.size wv V) => HCAd.out V (bcall HW.out HW.out.size hV))
          have HF3v := Lib.hid (fun (V : World) (hV : Below wv.heap.size wv V) => HF3d.out V (bcall HW.out HW.out.size hV))
          have HF4v := Lib.hid (fun (V : World) (hV : Below wv.heap.size wv V) => HF4d.out V (bcall HW.out HW.out.size hV))
          have HBv := Lib.hid (fun (V : World) (hV : Below wv.heap.size wv V) => HBd.out V (bcall HW.out HW.out.size hV))
          obtain ⟨nc, hnc⟩ : ∃ x, x = rb.rN (qs.drop j) := ⟨_, rfl⟩
          have HDL := Lib.hid (show (qs.drop j).length = qs.length - j from List.length_drop)
          have HR3 := Lib.hid (fun (A : Option Addr) (cap : Nat) (V : World) (hV : Below wv.heap.size wv V) (hQ : LgIn V.heap.size V A cap (qs.drop j)) => run_fr rb P4 p4 S4 s4 (qs.drop j) A cap V (HF4v.out V hV) hQ ra nc ea n1 hnc.symm n3)
          have HNC := Lib.hid (show nc + j = na by rw [hnc]; exact n2)
          rw [HDL.out] at HR3
          clear n1 n2 n3 hnc HF4d HF3d HBd
          go_upto_region 22 with fail
          clear b1 w0_ w1_ w2_ c_m z_m c_a z_a
          go_cut [17, 18, 19] (fun s17 s18 s19 wx => ∃ (gC : Nat) (P5 : Option Addr) (p5 : Nat) (S5 : Option Addr) (s5 : Nat), s17 = .pointer (some ⟨gC, 0, none⟩) ∧ s18 = .int .i64 (nc : Int) ∧ s19 = .int .i64 ea ∧ Mx wv [(gC, .cells #[.slice P5 ra.acs.length p5, .slice S5 ra.log.length s5] 27)] [] wx ∧ Fresh wv.heap.size wx (MtIn P5 p5 S5 s5 ra))
          case first =>
            as_aux_lemma =>
              cases C with
              | some ad =>
                by_cases hcj : c = j
                · have hqj : qs.length ≤ j := by have := HCAP.out.1; rw [hcj] at this; exact this
                  have HDR := Lib.hid (fun (V : World) (hV : Below wv.heap.size wv V) (cap : Nat) (hc : cap ≤ 0) => show LgIn V.heap.size V (some ad) cap (qs.drop j) by
                    rw [List.drop_eq_nil_of_le hqj]
                    exact ⟨fun i a h => by simp at h, Nat.zero_le _, Nat.le_trans hc (Nat.zero_le _)⟩)
                  have k1 := HSL.out.1
                  have k2 := HSL.out.2.1
                  have k3 := HSL.out.2.2
                  have k4 := HJ.out.1
                  have k5 : (j : Int) ≤ (qs.length : Int) := by omega
                  obtain rfl : j = c := hcj.symm
                  clear hcj hqj
                  have hX : Ms (fun _ => True) wv [] [] wv := Ms.of_mx (Mx.of_bx (Bx.start wv)) (fun _ => trivial)
                  go_wp2_with fail
                  refine wp_region_T (Bx wv []) 13 (by kernel_rfl) (by rfl) ((hX.keep (List.nil_sublist _)).drew) (fun wq17 hbq => ?_)
                  have hB501 := hX.next hbq
                  clear hX hbq
                  refine wpAnyT_go (Bx.grows _ _) (hB501.keep (List.nil_sublist _)) [0, 1, 2, 3] 9 (by kernel_rfl) ?_
                  apply Exists.intro
                  refine ⟨fun G hG hN => ?_, ?_⟩
                  · have c_b := fun (e : GE (Bx wv []) G) j => cell_of_row e.w _ j _ _ _ (HCBv.out e.w (GE.h e).below)
                    have z_b := fun (e : GE (Bx wv []) G) => lt_some (HCBv.out e.w (GE.h e).below)
                    simp only [pickOps, List.getElem?_toArray, List.getElem?_cons_zero, List.getElem?_cons_succ]
                    repeat (first | go_big_quiet_step (fail) | quiet_step (fail))
                    exact wpQuiet_nil rfl
                  refine wpAnyT_all (rs := [4, 9]) (by kernel_rfl) (by simp) (fun wa18 hwa18 hRwa18 i hi => ?_)
                  have hB502 := hB501.next hwa18
                  clear hB501 hwa18 hRwa18
                  rcases List.mem_cons.1 hi with rfl | hi
                  · refine wpOp_step rfl (fun Kc hKc => ?_)
                    go_simp
                    refine Calls.mono (HR3.out _ _ _ hB502.below (HDR.out _ hB502.below 0 (Nat.le_refl _))) ?_
                    rintro e wv19 ⟨P5, p5, S5, s5, rfl, hF, hb⟩
                    have hB503 := hB502.call hb hF
                    clear hF hb
                    refine hKc _ _ ⟨(hB503.keep (List.nil_sublist _)), ?_⟩
                    clear hKc Kc hB502
                    refine wpAnyT_go (Bx.grows _ _) (hB503.keep (List.nil_sublist _)) [5, 6, 7, 8] 4 (by kernel_rfl) ?_
                    apply Exists.intro
                    refine ⟨fun G hG hN => ?_, ?_⟩
                    · have c_b := fun (e : GE (Bx wv []) G) j => cell_of_row e.w _ j _ _ _ (HCBv.out e.w (GE.h e).below)
                      have z_b := fun (e : GE (Bx wv []) G) => lt_some (HCBv.out e.w (GE.h e).below)
                      simp only [pickOps, List.getElem?_toArray, List.getElem?_cons_zero, List.getElem?_cons_succ]
                      repeat (first | go_big_quiet_step (fail) | quiet_step (fail))
                      exact wpQuiet_nil rfl
                    refine wpAnyT_all (rs := [9]) (by kernel_rfl) (by simp) (fun wa20 hwa20 hRwa20 i hi => ?_)
                    have hB504 := hB503.next hwa20
                    clear hB503 hwa20 hRwa20
                    obtain rfl := List.mem_singleton.1 hi
                    refine wpOp_step rfl (fun Kc hKc => ?_)
                    go_simp
                    have hB505 := hB504.new (g := wa20.heap.size) rfl (.cells #[.slice none 0 0, .slice none 0 0] 27)
                    refine hKc _ _ ⟨(hB505.keep (List.nil_sublist _)), ?_⟩
                    clear hKc Kc hB504
                    generalize wa20.heap.size = gC at *
                    generalize wa20.alloc _ = wb21 at *
                    refine wpAnyT_all (rs := [10]) (by kernel_rfl) (by simp) (fun wa22 hwa22 hRwa22 i hi => ?_)
                    have hB506 := hB505.next hwa22
                    clear hB505 hwa22 hRwa22
                    obtain rfl := List.mem_singleton.1 hi
                    refine wpOp_step rfl (fun Kc hKc => ?_)
                    have c_bc := fun j => cell_of_row _ _ j _ _ _ (hB506.get 0 rfl)
                    have z_bc := hB506.lt 0 rfl
                    have f_bc := fun j => frozen_of_row _ _ j _ _ (hB506.get 0 rfl)
                    go_simp
                    have hB507 := hB506.put2 0 rfl (.slice P5 ra.acs.length p5) (.slice S5 ra.log.length s5)
                    refine hKc _ _ ⟨(hB507.keep (List.nil_sublist _)), ?_⟩
                    clear c_bc z_bc f_bc hKc Kc hB506
                    generalize (wa22.setCell _ _).setCell _ _ = wb23 at *
                    refine wpAnyT_go (Bx.grows _ _) (hB507.keep (List.nil_sublist _)) [11, 12] 0 (by kernel_rfl) ?_
                    apply Exists.intro
                    refine ⟨fun G hG hN => ?_, ?_⟩
                    · have c_b := fun (e : GE (Bx wv []) G) j => cell_of_row e.w _ j _ _ _ (HCBv.out e.w (GE.h e).below)
                      have z_b := fun (e : GE (Bx wv []) G) => lt_some (HCBv.out e.w (GE.h e).below)
                      simp only [pickOps, List.getElem?_toArray, List.getElem?_cons_zero, List.getElem?_cons_succ]
                      repeat (first | go_big_quiet_step (fail) | quiet_step (fail))
                      exact wpQuiet_nil rfl
                    refine wpAnyT_done (by kernel_rfl) (fun wd24 hwd24 hRwd24 => ?_) _
                    refine NoPanic.normal ?_
                    have hB508 := hB507.next hwd24
                    clear hB507 hwd24 hRwd24
                    have HM := Lib.hid hB508.mx
                    have HF := Lib.hid (show Fresh wv.heap.size wd24 (MtIn P5 p5 S5 s5 ra) from fun V a b => (hB508.sep V a (fun g h1 h2 _ => b g h1 h2)).2)
                    clear hB508
                    go_wp2_with fail
                    go_meet
                    exact ⟨gC, P5, p5, S5, s5, rfl, rfl, rfl, HM.out, HF.out⟩
                  · obtain rfl := List.mem_singleton.1 hi
                    refine wpOp_step rfl (fun Kc hKc => ?_)
                    go_simp
                    have hB503 := hB502.new (g := wa18.heap.size) rfl (.cells #[.slice none 0 0, .slice none 0 0] 27)
                    refine hKc _ _ ⟨(hB503.keep (List.nil_sublist _)), ?_⟩
                    clear hKc Kc hB502
                    generalize wa18.heap.size = gC at *
                    generalize wa18.alloc _ = wb25 at *
                    refine wpAnyT_all (rs := [4]) (by kernel_rfl) (by simp) (fun wa26 hwa26 hRwa26 i hi => ?_)
                    have hB504 := hB503.next hwa26
                    clear hB503 hwa26 hRwa26
                    obtain rfl := List.mem_singleton.1 hi
                    refine wpOp_step rfl (fun Kc hKc => ?_)
                    go_simp
                    refine Calls.mono (HR3.out _ _ _ hB504.below (HDR.out _ hB504.below 0 (Nat.le_refl _))) ?_
                    rintro e wv27 ⟨P5, p5, S5, s5, rfl, hF, hb⟩
                    have hB505 := hB504.call hb hF
                    clear hF hb
                    refine hKc _ _ ⟨(hB505.keep (List.nil_sublist _)), ?_⟩
                    clear hKc Kc hB504
                    refine wpAnyT_go (Bx.grows _ _) (hB505.keep (List.nil_sublist _)) [5, 6, 7, 8] 3 (by kernel_rfl) ?_
                    apply Exists.intro
                    refine ⟨fun G hG hN => ?_, ?_⟩
                    · have c_b := fun (e : GE (Bx wv []) G) j => cell_of_row e.w _ j _ _ _ (HCBv.out e.w (GE.h e).below)
                      have z_b := fun (e : GE (Bx wv []) G) => lt_some (HCBv.out e.w (GE.h e).below)
                      simp only [pickOps, List.getElem?_toArray, List.getElem?_cons_zero, List.getElem?_cons_succ]
                      repeat (first | go_big_quiet_step (fail) | quiet_step (fail))
                      exact wpQuiet_nil rfl
                    refine wpAnyT_all (rs := [10]) (by kernel_rfl) (by simp) (fun wa28 hwa28 hRwa28 i hi => ?_)
                    have hB506 := hB505.next hwa28
                    clear hB505 hwa28 hRwa28
                    obtain rfl := List.mem_singleton.1 hi
                    refine wpOp_step rfl (fun Kc hKc => ?_)
                    have c_bc := fun j => cell_of_row _ _ j _ _ _ (hB506.get 0 rfl)
                    have z_bc := hB506.lt 0 rfl
                    have f_bc := fun j => frozen_of_row _ _ j _ _ (hB506.get 0 rfl)
                    go_simp
                    have hB507 := hB506.put2 0 rfl (.slice P5 ra.acs.length p5) (.slice S5 ra.log.length s5)
                    refine hKc _ _ ⟨(hB507.keep (List.nil_sublist _)), ?_⟩
                    clear c_bc z_bc f_bc hKc Kc hB506
                    generalize (wa28.setCell _ _).setCell _ _ = wb29 at *
                    refine wpAnyT_go (Bx.grows _ _) (hB507.keep (List.nil_sublist _)) [11, 12] 0 (by kernel_rfl) ?_
                    apply Exists.intro
                    refine ⟨fun G hG hN => ?_, ?_⟩
                    · have c_b := fun (e : GE (Bx wv []) G) j => cell_of_row e.w _ j _ _ _ (HCBv.out e.w (GE.h e).below)
                      have z_b := fun (e : GE (Bx wv []) G) => lt_some (HCBv.out e.w (GE.h e).below)
                      simp only [pickOps, List.getElem?_toArray, List.getElem?_cons_zero, List.getElem?_cons_succ]
                      repeat (first | go_big_quiet_step (fail) | quiet_step (fail))
                      exact wpQuiet_nil rfl
                    refine wpAnyT_done (by kernel_rfl) (fun wd30 hwd30 hRwd30 => ?_) _
                    refine NoPanic.normal ?_
                    have hB508 := hB507.next hwd30
                    clear hB507 hwd30 hRwd30
                    have HM := Lib.hid hB508.mx
                    have HF := Lib.hid (show Fresh wv.heap.size wd30 (MtIn P5 p5 S5 s5 ra) from fun V a b => (hB508.sep V a (fun g h1 h2 _ => b g h1 h2)).2)
                    clear hB508
                    go_wp2_with fail
                    go_meet
                    exact ⟨gC, P5, p5, S5, s5, rfl, rfl, rfl, HM.out, HF.out⟩
                have HDR := Lib.hid (fun (V : World) (hV : Below wv.heap.size wv V) => RIn.drop (HQ.out V (HBv.out V hV)) j HJ.out.1)
                have k1 := HSL.out.1
                have k2 := HSL.out.2.1
                have k3 := HSL.out.2.2
                have k4 := HJ.out.1
                have k5 : (j : Int) ≤ (qs.length : Int) := by omega
                have hX : Ms (fun _ => True) wv [] [] wv := Ms.of_mx (Mx.of_bx (Bx.start wv)) (fun _ => trivial)
                go_wp2_with fail
                refine wp_region_T (Bx wv []) 13 (by kernel_rfl) (by rfl) ((hX.keep (List.nil_sublist _)).drew) (fun wq31 hbq => ?_)
                have hB501 := hX.next hbq
                clear hX hbq
                refine wpAnyT_go (Bx.grows _ _) (hB501.keep (List.nil_sublist _)) [0, 1, 2, 3] 9 (by kernel_rfl) ?_
                apply Exists.intro
                refine ⟨fun G hG hN => ?_, ?_⟩
                · have c_b := fun (e : GE (Bx wv []) G) j => cell_of_row e.w _ j _ _ _ (HCBv.out e.w (GE.h e).below)
                  have z_b := fun (e : GE (Bx wv []) G) => lt_some (HCBv.out e.w (GE.h e).below)
                  simp only [pickOps, List.getElem?_toArray, List.getElem?_cons_zero, List.getElem?_cons_succ]
                  repeat (first | go_big_quiet_step (fail) | quiet_step (fail))
                  exact wpQuiet_nil rfl
                refine wpAnyT_all (rs := [4, 9]) (by kernel_rfl) (by simp) (fun wa32 hwa32 hRwa32 i hi => ?_)
                have hB502 := hB501.next hwa32
                clear hB501 hwa32 hRwa32
                rcases List.mem_cons.1 hi with rfl | hi
                · refine wpOp_step rfl (fun Kc hKc => ?_)
                  go_simp
                  refine Calls.mono (HR3.out _ _ _ hB502.below (HDR.out _ hB502.below)) ?_
                  rintro e wv33 ⟨P5, p5, S5, s5, rfl, hF, hb⟩
                  have hB503 := hB502.call hb hF
                  clear hF hb
                  refine hKc _ _ ⟨(hB503.keep (List.nil_sublist _)), ?_⟩
                  clear hKc Kc hB502
                  refine wpAnyT_go (Bx.grows _ _) (hB503.keep (List.nil_sublist _)) [5, 6, 7, 8] 4 (by kernel_rfl) ?_
                  apply Exists.intro
                  refine ⟨fun G hG hN => ?_, ?_⟩
                  · have c_b := fun (e : GE (Bx wv []) G) j => cell_of_row e.w _ j _ _ _ (HCBv.out e.w (GE.h e).below)
                    have z_b := fun (e : GE (Bx wv []) G) => lt_some (HCBv.out e.w (GE.h e).below)
                    simp only [pickOps, List.getElem?_toArray, List.getElem?_cons_zero, List.getElem?_cons_succ]
                    repeat (first | go_big_quiet_step (fail) | quiet_step (fail))
                    exact wpQuiet_nil rfl
                  refine wpAnyT_all (rs := [9]) (by kernel_rfl) (by simp) (fun wa34 hwa34 hRwa34 i hi => ?_)
                  have hB504 := hB503.next hwa34
                  clear hB503 hwa34 hRwa34
                  obtain rfl := List.mem_singleton.1 hi
                  refine wpOp_step rfl (fun Kc hKc => ?_)
                  go_simp
                  have hB505 := hB504.new (g := wa34.heap.size) rfl (.cells #[.slice none 0 0, .slice none 0 0] 27)
                  refine hKc _ _ ⟨(hB505.keep (List.nil_sublist _)), ?_⟩
                  clear hKc Kc hB504
                  generalize wa34.heap.size = gC at *
                  generalize wa34.alloc _ = wb35 at *
                  refine wpAnyT_all (rs := [10]) (by kernel_rfl) (by simp) (fun wa36 hwa36 hRwa36 i hi => ?_)
                  have hB506 := hB505.next hwa36
                  clear hB505 hwa36 hRwa36
                  obtain rfl := List.mem_singleton.1 hi
                  refine wpOp_step rfl (fun Kc hKc => ?_)
                  have c_bc := fun j => cell_of_row _ _ j _ _ _ (hB506.get 0 rfl)
                  have z_bc := hB506.lt 0 rfl
                  have f_bc := fun j => frozen_of_row _ _ j _ _ (hB506.get 0 rfl)
                  go_simp
                  have hB507 := hB506.put2 0 rfl (.slice P5 ra.acs.length p5) (.slice S5 ra.log.length s5)
                  refine hKc _ _ ⟨(hB507.keep (List.nil_sublist _)), ?_⟩
                  clear c_bc z_bc f_bc hKc Kc hB506
                  generalize (wa36.setCell _ _).setCell _ _ = wb37 at *
                  refine wpAnyT_go (Bx.grows _ _) (hB507.keep (List.nil_sublist _)) [11, 12] 0 (by kernel_rfl) ?_
                  apply Exists.intro
                  refine ⟨fun G hG hN => ?_, ?_⟩
                  · have c_b := fun (e : GE (Bx wv []) G) j => cell_of_row e.w _ j _ _ _ (HCBv.out e.w (GE.h e).below)
                    have z_b := fun (e : GE (Bx wv []) G) => lt_some (HCBv.out e.w (GE.h e).below)
                    simp only [pickOps, List.getElem?_toArray, List.getElem?_cons_zero, List.getElem?_cons_succ]
                    repeat (first | go_big_quiet_step (fail) | quiet_step (fail))
                    exact wpQuiet_nil rfl
                  refine wpAnyT_done (by kernel_rfl) (fun wd38 hwd38 hRwd38 => ?_) _
                  refine NoPanic.normal ?_
                  have hB508 := hB507.next hwd38
                  clear hB507 hwd38 hRwd38
                  have HM := Lib.hid hB508.mx
                  have HF := Lib.hid (show Fresh wv.heap.size wd38 (MtIn P5 p5 S5 s5 ra) from fun V a b => (hB508.sep V a (fun g h1 h2 _ => b g h1 h2)).2)
                  clear hB508
                  go_wp2_with fail
                  go_meet
                  exact ⟨gC, P5, p5, S5, s5, rfl, rfl, rfl, HM.out, HF.out⟩
                · obtain rfl := List.mem_singleton.1 hi
                  refine wpOp_step rfl (fun Kc hKc => ?_)
                  go_simp
                  have hB503 := hB502.new (g := wa32.heap.size) rfl (.cells #[.slice none 0 0, .slice none 0 0] 27)
                  refine hKc _ _ ⟨(hB503.keep (List.nil_sublist _)), ?_⟩
                  clear hKc Kc hB502
                  generalize wa32.heap.size = gC at *
                  generalize wa32.alloc _ = wb39 at *
                  refine wpAnyT_all (rs := [4]) (by kernel_rfl) (by simp) (fun wa40 hwa40 hRwa40 i hi => ?_)
                  have hB504 := hB503.next hwa40
                  clear hB503 hwa40 hRwa40
                  obtain rfl := List.mem_singleton.1 hi
                  refine wpOp_step rfl (fun Kc hKc => ?_)
                  go_simp
                  refine Calls.mono (HR3.out _ _ _ hB504.below (HDR.out _ hB504.below)) ?_
                  rintro e wv41 ⟨P5, p5, S5, s5, rfl, hF, hb⟩
                  have hB505 := hB504.call hb hF
                  clear hF hb
                  refine hKc _ _ ⟨(hB505.keep (List.nil_sublist _)), ?_⟩
                  clear hKc Kc hB504
                  refine wpAnyT_go (Bx.grows _ _) (hB505.keep (List.nil_sublist _)) [5, 6, 7, 8] 3 (by kernel_rfl) ?_
                  apply Exists.intro
                  refine ⟨fun G hG hN => ?_, ?_⟩
                  · have c_b := fun (e : GE (Bx wv []) G) j => cell_of_row e.w _ j _ _ _ (HCBv.out e.w (GE.h e).below)
                    have z_b := fun (e : GE (Bx wv []) G) => lt_some (HCBv.out e.w (GE.h e).below)
                    simp only [pickOps, List.getElem?_toArray, List.getElem?_cons_zero, List.getElem?_cons_succ]
                    repeat (first | go_big_quiet_step (fail) | quiet_step (fail))
                    exact wpQuiet_nil rfl
                  refine wpAnyT_all (rs := [10]) (by kernel_rfl) (by simp) (fun wa42 hwa42 hRwa42 i hi => ?_)
                  have hB506 := hB505.next hwa42
                  clear hB505 hwa42 hRwa42
                  obtain rfl := List.mem_singleton.1 hi
                  refine wpOp_step rfl (fun Kc hKc => ?_)
                  have c_bc := fun j => cell_of_row _ _ j _ _ _ (hB506.get 0 rfl)
                  have z_bc := hB506.lt 0 rfl
                  have f_bc := fun j => frozen_of_row _ _ j _ _ (hB506.get 0 rfl)
                  go_simp
                  have hB507 := hB506.put2 0 rfl (.slice P5 ra.acs.length p5) (.slice S5 ra.log.length s5)
                  refine hKc _ _ ⟨(hB507.keep (List.nil_sublist _)), ?_⟩
                  clear c_bc z_bc f_bc hKc Kc hB506
                  generalize (wa42.setCell _ _).setCell _ _ = wb43 at *
                  refine wpAnyT_go (Bx.grows _ _) (hB507.keep (List.nil_sublist _)) [11, 12] 0 (by kernel_rfl) ?_
                  apply Exists.intro
                  refine ⟨fun G hG hN => ?_, ?_⟩
                  · have c_b := fun (e : GE (Bx wv []) G) j => cell_of_row e.w _ j _ _ _ (HCBv.out e.w (GE.h e).below)
                    have z_b := fun (e : GE (Bx wv []) G) => lt_some (HCBv.out e.w (GE.h e).below)
                    simp only [pickOps, List.getElem?_toArray, List.getElem?_cons_zero, List.getElem?_cons_succ]
                    repeat (first | go_big_quiet_step (fail) | quiet_step (fail))
                    exact wpQuiet_nil rfl
                  refine wpAnyT_done (by kernel_rfl) (fun wd44 hwd44 hRwd44 => ?_) _
                  refine NoPanic.normal ?_
                  have hB508 := hB507.next hwd44
                  clear hB507 hwd44 hRwd44
                  have HM := Lib.hid hB508.mx
                  have HF := Lib.hid (show Fresh wv.heap.size wd44 (MtIn P5 p5 S5 s5 ra) from fun V a b => (hB508.sep V a (fun g h1 h2 _ => b g h1 h2)).2)
                  clear hB508
                  go_wp2_with fail
                  go_meet
                  exact ⟨gC, P5, p5, S5, s5, rfl, rfl, rfl, HM.out, HF.out⟩
              | none =>
                have hqn : qs = [] := by
                  rcases Nat.eq_zero_or_pos qs.length with q | q
                  · exact List.eq_nil_of_length_eq_zero q
                  · obtain ⟨_, e, _⟩ := (HQ.out _ (HBv.out _ (Below.refl _ _))).some_ q
                    cases e
                have hj0 : j = 0 := by have := HJ.out.1; rw [hqn] at this; simpa using this
                subst hqn hj0
                have HDR := Lib.hid (fun (V : World) (hV : Below wv.heap.size wv V) => HQ.out V (HBv.out V hV))
                have hX : Ms (fun _ => True) wv [] [] wv := Ms.of_mx (Mx.of_bx (Bx.start wv)) (fun _ => trivial)
                go_wp2_with fail
                refine wp_region_T (Bx wv []) 13 (by kernel_rfl) (by rfl) ((hX.keep (List.nil_sublist _)).drew) (fun wq45 hbq => ?_)
                have hB601 := hX.next hbq
                clear hX hbq
                refine wpAnyT_go (Bx.grows _ _) (hB601.keep (List.nil_sublist _)) [0, 1, 2, 3] 9 (by kernel_rfl) ?_
                apply Exists.intro
                refine ⟨fun G hG hN => ?_, ?_⟩
                · have c_b := fun (e : GE (Bx wv []) G) j => cell_of_row e.w _ j _ _ _ (HCBv.out e.w (GE.h e).below)
                  have z_b := fun (e : GE (Bx wv []) G) => lt_some (HCBv.out e.w (GE.h e).below)
                  simp only [pickOps, List.getElem?_toArray, List.getElem?_cons_zero, List.getElem?_cons_succ]
                  repeat (first | go_big_quiet_step (fail) | quiet_step (fail))
                  exact wpQuiet_nil rfl
                refine wpAnyT_all (rs := [4, 9]) (by kernel_rfl) (by simp) (fun wa46 hwa46 hRwa46 i hi => ?_)
                have hB602 := hB601.next hwa46
                clear hB601 hwa46 hRwa46
                rcases List.mem_cons.1 hi with rfl | hi
                · refine wpOp_step rfl (fun Kc hKc => ?_)
                  go_simp
                  refine Calls.mono (HR3.out _ _ _ hB602.below (HDR.out _ hB602.below)) ?_
                  rintro e wv47 ⟨P5, p5, S5, s5, rfl, hF, hb⟩
                  have hB603 := hB602.call hb hF
                  clear hF hb
                  refine hKc _ _ ⟨(hB603.keep (List.nil_sublist _)), ?_⟩
                  clear hKc Kc hB602
                  refine wpAnyT_go (Bx.grows _ _) (hB603.keep (List.nil_sublist _)) [5, 6, 7, 8] 4 (by kernel_rfl) ?_
                  apply Exists.intro
                  refine ⟨fun G hG hN => ?_, ?_⟩
                  · have c_b := fun (e : GE (Bx wv []) G) j => cell_of_row e.w _ j _ _ _ (HCBv.out e.w (GE.h e).below)
                    have z_b := fun (e : GE (Bx wv []) G) => lt_some (HCBv.out e.w (GE.h e).below)
                    simp only [pickOps, List.getElem?_toArray, List.getElem?_cons_zero, List.getElem?_cons_succ]
                    repeat (first | go_big_quiet_step (fail) | quiet_step (fail))
                    exact wpQuiet_nil rfl
                  refine wpAnyT_all (rs := [9]) (by kernel_rfl) (by simp) (fun wa48 hwa48 hRwa48 i hi => ?_)
                  have hB604 := hB603.next hwa48
                  clear hB603 hwa48 hRwa48
                  obtain rfl := List.mem_singleton.1 hi
                  refine wpOp_step rfl (fun Kc hKc => ?_)
                  go_simp
                  have hB605 := hB604.new (g := wa48.heap.size) rfl (.cells #[.slice none 0 0, .slice none 0 0] 27)
                  refine hKc _ _ ⟨(hB605.keep (List.nil_sublist _)), ?_⟩
                  clear hKc Kc hB604
                  generalize wa48.heap.size = gC at *
                  generalize wa48.alloc _ = wb49 at *
                  refine wpAnyT_all (rs := [10]) (by kernel_rfl) (by simp) (fun wa50 hwa50 hRwa50 i hi => ?_)
                  have hB606 := hB605.next hwa50
                  clear hB605 hwa50 hRwa50
                  obtain rfl := List.mem_singleton.1 hi
                  refine wpOp_step rfl (fun Kc hKc => ?_)
                  have c_bc := fun j => cell_of_row _ _ j _ _ _ (hB606.get 0 rfl)
                  have z_bc := hB606.lt 0 rfl
                  have f_bc := fun j => frozen_of_row _ _ j _ _ (hB606.get 0 rfl)
                  go_simp
                  have hB607 := hB606.put2 0 rfl (.slice P5 ra.acs.length p5) (.slice S5 ra.log.length s5)
                  refine hKc _ _ ⟨(hB607.keep (List.nil_sublist _)), ?_⟩
                  clear c_bc z_bc f_bc hKc Kc hB606
                  generalize (wa50.setCell _ _).setCell _ _ = wb51 at *
                  refine wpAnyT_go (Bx.grows _ _) (hB607.keep (List.nil_sublist _)) [11, 12] 0 (by kernel_rfl) ?_
                  apply Exists.intro
                  refine ⟨fun G hG hN => ?_, ?_⟩
                  · have c_b := fun (e : GE (Bx wv []) G) j => cell_of_row e.w _ j _ _ _ (HCBv.out e.w (GE.h e).below)
                    have z_b := fun (e : GE (Bx wv []) G) => lt_some (HCBv.out e.w (GE.h e).below)
                    simp only [pickOps, List.getElem?_toArray, List.getElem?_cons_zero, List.getElem?_cons_succ]
                    repeat (first | go_big_quiet_step (fail) | quiet_step (fail))
                    exact wpQuiet_nil rfl
                  refine wpAnyT_done (by kernel_rfl) (fun wd52 hwd52 hRwd52 => ?_) _
                  refine NoPanic.normal ?_
                  have hB608 := hB607.next hwd52
                  clear hB607 hwd52 hRwd52
                  have HM := Lib.hid hB608.mx
                  have HF := Lib.hid (show Fresh wv.heap.size wd52 (MtIn P5 p5 S5 s5 ra) from fun V a b => (hB608.sep V a (fun g h1 h2 _ => b g h1 h2)).2)
                  clear hB608
                  go_wp2_with fail
                  go_meet
                  exact ⟨gC, P5, p5, S5, s5, rfl, rfl, rfl, HM.out, HF.out⟩
                · obtain rfl := List.mem_singleton.1 hi
                  refine wpOp_step rfl (fun Kc hKc => ?_)
                  go_simp
                  have hB603 := hB602.new (g := wa46.heap.size) rfl (.cells #[.slice none 0 0, .slice none 0 0] 27)
                  refine hKc _ _ ⟨(hB603.keep (List.nil_sublist _)), ?_⟩
                  clear hKc Kc hB602
                  generalize wa46.heap.size = gC at *
                  generalize wa46.alloc _ = wb53 at *
                  refine wpAnyT_all (rs := [4]) (by kernel_rfl) (by simp) (fun wa54 hwa54 hRwa54 i hi => ?_)
                  have hB604 := hB603.next hwa54
                  clear hB603 hwa54 hRwa54
                  obtain rfl := List.mem_singleton.1 hi
                  refine wpOp_step rfl (fun Kc hKc => ?_)
                  go_simp
                  refine Calls.mono (HR3.out _ _ _ hB604.below (HDR.out _ hB604.below)) ?_
                  rintro e wv55 ⟨P5, p5, S5, s5, rfl, hF, hb⟩
                  have hB605 := hB604.call hb hF
                  clear hF hb
                  refine hKc _ _ ⟨(hB605.keep (List.nil_sublist _)), ?_⟩
                  clear hKc Kc hB604
                  refine wpAnyT_go (Bx.grows _ _) (hB605.keep (List.nil_sublist _)) [5, 6, 7, 8] 3 (by kernel_rfl) ?_
                  apply Exists.intro
                  refine ⟨fun G hG hN => ?_, ?_⟩
                  · have c_b := fun (e : GE (Bx wv []) G) j => cell_of_row e.w _ j _ _ _ (HCBv.out e.w (GE.h e).below)
                    have z_b := fun (e : GE (Bx wv []) G) => lt_some (HCBv.out e.w (GE.h e).below)
                    simp only [pickOps, List.getElem?_toArray, List.getElem?_cons_zero, List.getElem?_cons_succ]
                    repeat (first | go_big_quiet_step (fail) | quiet_step (fail))
                    exact wpQuiet_nil rfl
                  refine wpAnyT_all (rs := [10]) (by kernel_rfl) (by simp) (fun wa56 hwa56 hRwa56 i hi => ?_)
                  have hB606 := hB605.next hwa56
                  clear hB605 hwa56 hRwa56
                  obtain rfl := List.mem_singleton.1 hi
                  refine wpOp_step rfl (fun Kc hKc => ?_)
                  have c_bc := fun j => cell_of_row _ _ j _ _ _ (hB606.get 0 rfl)
                  have z_bc := hB606.lt 0 rfl
                  have f_bc := fun j => frozen_of_row _ _ j _ _ (hB606.get 0 rfl)
                  go_simp
                  have hB607 := hB606.put2 0 rfl (.slice P5 ra.acs.length p5) (.slice S5 ra.log.length s5)
                  refine hKc _ _ ⟨(hB607.keep (List.nil_sublist _)), ?_⟩
                  clear c_bc z_bc f_bc hKc Kc hB606
                  generalize (wa56.setCell _ _).setCell _ _ = wb57 at *
                  refine wpAnyT_go (Bx.grows _ _) (hB607.keep (List.nil_sublist _)) [11, 12] 0 (by kernel_rfl) ?_
                  apply Exists.intro
                  refine ⟨fun G hG hN => ?_, ?_⟩
                  · have c_b := fun (e : GE (Bx wv []) G) j => cell_of_row e.w _ j _ _ _ (HCBv.out e.w (GE.h e).below)
                    have z_b := fun (e : GE (Bx wv []) G) => lt_some (HCBv.out e.w (GE.h e).below)
                    simp only [pickOps, List.getElem?_toArray, List.getElem?_cons_zero, List.getElem?_cons_succ]
                    repeat (first | go_big_quiet_step (fail) | quiet_step (fail))
                    exact wpQuiet_nil rfl
                  refine wpAnyT_done (by kernel_rfl) (fun wd58 hwd58 hRwd58 => ?_) _
                  refine NoPanic.normal ?_
                  have hB608 := hB607.next hwd58
                  clear hB607 hwd58 hRwd58
                  have HM := Lib.hid hB608.mx
                  have HF := Lib.hid (show Fresh wv.heap.size wd58 (MtIn P5 p5 S5 s5 ra) from fun V a b => (hB608.sep V a (fun g h1 h2 _ => b g h1 h2)).2)
                  clear hB608
                  go_wp2_with fail
                  go_meet
                  exact ⟨gC, P5, p5, S5, s5, rfl, rfl, rfl, HM.out, HF.out⟩
          case rest =>
            obtain ⟨gC, P5, p5, S5, s5, rfl, rfl, rfl, hM, hF5⟩ := hcut
            generalize wc = wz at *
            have HVz := Lib.hid hM.below
            have HCCz := Lib.hid (hM.get 0 rfl)
            have HSA := Lib.hid (fun (V : World) (hV : Below wz.heap.size wz V) => show Calls Try.prog 24 #[.agg #[.slice P5 ra.acs.length p5, .slice S5 ra.log.length s5], .agg #[.slice P3 ra.acs.length p3, .slice S3 ra.log.length s3]] V fun e w' => e = .returned (.bool true) ∧ Below V.heap.size V w' from
              fmsame_any ra.acs ra.log P5 p5 S5 s5 P3 p3 S3 s3 V (hF5.ext hV).1 (hF5.ext hV).2 (HF3v.out V (bcall HVz.out HVz.out.size hV)).1 (HF3v.out V (bcall HVz.out HVz.out.size hV)).2)
            clear hM hF5
            have h_c := HCCz.out
            have c_c := fun j => cell_of_row _ _ j _ _ _ h_c
            have z_c := lt_some h_c
            have h_a := HCAv.out _ HVz.out
            have c_a := fun j => cell_of_row _ _ j _ _ _ h_a
            have z_a := lt_some h_a
            have HSB := Lib.hid (show (na : Int) - (j : Int) ≤ 9223372036854775807 ∧ -9223372036854775808 ≤ (na : Int) - (j : Int) ∧ (na : Int) - (j : Int) = (nc : Int) by have l8 := HNC.out; have l9 := HPA.out.nle; have l10 := HJ.out; omega)
            have y1 : IntKind.i64.wrap ((na : Int) - (j : Int)) = (nc : Int) := (IntWalk.i64_in ((na : Int) - (j : Int)) (And.intro HSB.out.2.1 HSB.out.1)).trans HSB.out.2.2
            have y2 : wrap64 ((na : Int) - (j : Int)) = (nc : Int) := (IntWalk.wrap64_in ((na : Int) - (j : Int)) (And.intro HSB.out.2.1 HSB.out.1)).trans HSB.out.2.2
            clear h_c h_a
            go_wp2_with fail
            refine (HSA.out _ (Below.refl _ _)).mono ?_
            rintro e wq ⟨rfl, hb⟩
            have HE := Lib.hid (HBv.out _ (bcall HVz.out HVz.out.size hb))
            clear hb c_c z_c c_a z_a HSA
            go_wp2_with fail
            go_ret
            exact ⟨rfl, HE.out⟩
end Go.Proofs.Ytgcbmnohhbcfiab
