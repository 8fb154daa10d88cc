/- AgentAlone returns true. -/
import Derived.Test.YtgcbmnohhbcfiabAgW
import Derived.Test.YtgcbmnohhbcfiabAgQ
namespace Go.Proofs.Ytgcbmnohhbcfiab
open Go.RowKit Go.Deep
set_option linter.unusedVariables false
set_option linter.unusedSimpArgs false

/-- What a call leaves that returns a meeting. -/
def MtIn (P : Option Addr) (cp : Nat) (S : Option Addr) (cs : Nat) (m : Mt) (V : World) : Prop := AsIn V.heap.size V P cp m.acs ∧ LgIn V.heap.size V S cs m.log
theorem open_fr (acs : List Ac) (S : Option Addr) (s : Nat) (w : World) (h : AsIn w.heap.size w S s acs) (m : Mt) (code : Int) (hm : openM acs = m) (hc : meetC acs [] = code) :
    Calls Try.prog 9 #[.slice S acs.length s] w fun e w' => ∃ P cp S cs, e = .returned (.tuple #[.agg #[.slice P m.acs.length cp, .slice S m.log.length cs], .int .i64 code]) ∧ Fresh w.heap.size w' (MtIn P cp S cs m) ∧ Below w.heap.size w w' := by
  refine (mopen_any acs S s w h).mono ?_
  rintro e w' ⟨va, vl, rfl, k⟩
  rw [hm] at k
  obtain ⟨P, cp, S, cs, rfl, rfl, hf⟩ := k.fresh
  exact ⟨P, cp, S, cs, by rw [hc], hf, k.below⟩
theorem run_fr (m : Mt) (S : Option Addr) (s : Nat) (B : Option Addr) (d : Nat) (l : List Qy) (C : Option Addr) (c : Nat) (w : World) (h : MtIn S s B d m w) (hq : LgIn w.heap.size w C c l) (r : Mt) (n : Nat) (code : Int) (hr : m.rM l = r) (hn : m.rN l = n) (hc : m.rC l = code) :
    Calls Try.prog 11 #[.agg #[.slice S m.acs.length s, .slice B m.log.length d], .slice C l.length c] w fun e w' => ∃ P cp S cs, e = .returned (.tuple #[.agg #[.slice P r.acs.length cp, .slice S r.log.length cs], .int .i64 (n : Int), .int .i64 code]) ∧ Fresh w.heap.size w' (MtIn P cp S cs r) ∧ Below w.heap.size w w' := by
  refine (mrun_any m S s B d l C c w h.1 h.2 hq).mono ?_
  rintro e w' ⟨va, vl, rfl, k⟩
  rw [hr] at k
  obtain ⟨P, cp, S, cs, rfl, rfl, hf⟩ := k.fresh
  exact ⟨P, cp, S, cs, by rw [hn, hc], hf, k.below⟩
theorem same_true (l : List Qy) (A : Option Addr) (c : Nat) (B : Option Addr) (d : Nat) (w : World) (ha : LgIn w.heap.size w A c l) (hb : LgIn w.heap.size w B d l) :
    Calls Try.prog 13 #[.slice A l.length c, .slice B l.length d] w fun e w' => e = .returned (.bool true) ∧ Below w.heap.size w w' := by
  have := fsamelogs_any l l A c B d w ha hb
  rwa [show sameQ l l = true from decide_eq_true rfl] at this
theorem of_fresh {m : List Qy} {B : Nat} {w : World} {A : Option Addr} {c : Nat} (ho : w.ownsRow B 53 8 (.slice A m.length c) m.length (lgV m)) (hl : LgIn w.heap.size w A c m) : Fresh B w (fun V => LgIn V.heap.size V A c m) := by
  obtain ⟨A', c', e, hf⟩ := LgIn.of_own ho hl.wf
  obtain ⟨rfl, _, rfl⟩ := Value.slice.inj e
  exact hf
theorem rm_len (m : Mt) (l : List Qy) (h : m.log.length = 0) (k : l.length ≤ 2000) : (m.rM l).log.length ≤ 3000 := by
  unfold Mt.rM
  split
  · simp [Mt.none_]
  · split
    · simp [Mt.none_]
    · rw [(Mt.run_len l m).1]; have := Mt.runN_le l m; omega
theorem great_small {acs : List Ac} (h : greatA acs = false) : acs.length ≤ 10 := by
  unfold greatA at h
  simp only [Bool.or_eq_false_iff, decide_eq_false_iff_not] at h
  omega
/-- What the law needs. -/
structure Alone (acs bs : List Ac) (w : Nat) (qs : List Qy) (rm : Mt) (rn : Mt) (rc : Mt) (i : Nat) (e : Int) : Prop where
  n : (Mt.mk (bs.set w (acAt acs (w : Int))) []).rN (ofL qs (w : Int)) = (ofL qs (w : Int)).length
  c : (Mt.mk (bs.set w (acAt acs (w : Int))) []).rC (ofL qs (w : Int)) = 0
  same : rn.log = ofL rm.log (w : Int)
  le : i ≤ qs.length
  all : e = 0 → i = qs.length
  len : rm.log.length = qs.length
  bet : ofL (rm.log.take i) (w : Int) = ofL rc.log (w : Int)
theorem alone_of {acs bs : List Ac} {w : Nat} {qs : List Qy} {a : Ac} (ha : acs[w]? = some a) (hw : w < bs.length) (hq : qs.length ≤ 30) (h1 : meetC acs [] = 0) (h2 : meetC (bs.set w a) [] = 0) (h3 : (Mt.mk acs []).rC qs = 0) :
    Alone acs bs w qs ((Mt.mk acs []).rM qs) ((Mt.mk (bs.set w a) []).rM (ofL qs (w : Int))) ((Mt.mk (bs.set w a) []).rM qs) ((Mt.mk (bs.set w a) []).rN qs) ((Mt.mk (bs.set w a) []).rC qs) := by
  have hle := ofL_le qs (w : Int)
  have c1 : (Mt.mk acs []).code = 0 := h1
  have c2 : (Mt.mk (bs.set w a) []).code = 0 := h2
  obtain ⟨a1, a2, a3⟩ := Mt.r_run (l := qs) c1 (by omega)
  obtain ⟨b1, b2, b3⟩ := Mt.r_run (l := qs) c2 (by omega)
  obtain ⟨d1, d2, d3⟩ := Mt.r_run (l := ofL qs (w : Int)) c2 (by omega)
  have hb : (bs.set w a)[w]? = some a := List.getElem?_set_self hw
  rw [a1] at h3
  obtain ⟨k1, k2⟩ := alone_law qs ⟨acs, []⟩ ⟨bs.set w a, []⟩ w a ha hb h3 (by simp; omega) (by simp; omega) rfl
  have k3 := between_law qs ⟨acs, []⟩ ⟨bs.set w a, []⟩ w a ha hb h3 (by simp; omega) (by simp; omega) rfl
  have hn : (Mt.mk acs []).runN qs = qs.length := (Mt.runE_zero _ _).1 h3
  rw [a2, b1, b2, b3, d2]
  refine ⟨?_, ?_, k2.symm, Mt.runN_le _ _, fun h => (Mt.runE_zero _ _).1 h, ?_, ?_⟩
  · rw [acAt_of ha, d3]; exact (Mt.runE_zero _ _).1 k1
  · rw [acAt_of ha, d1]; exact k1
  · rw [(Mt.run_len qs ⟨acs, []⟩).1, hn]; simp
  · simpa using k3
set_option maxRecDepth 100000 in
set_option maxHeartbeats 64000000 in
theorem agentalone_walk (acs : List Ac) (S : Option Addr) (s : Nat) (bs : List Ac) (T : Option Addr) (t : Nat) (who : Int) (qs : List Qy) (C : Option Addr) (c : Nat) (w : World) (h : AsIn w.heap.size w S s acs) (k : AsIn w.heap.size w T t bs) (hq : LgIn w.heap.size w C c qs) :
    Calls Try.prog 3 #[.slice S acs.length s, .slice T bs.length t, .int .i64 who, .slice C qs.length c] w fun e w' => e = .returned (.bool true) ∧ Below w.heap.size w w' := by
  have hm1 := Nat.le_trans h.len h.cap
  have hm2 := Nat.le_trans k.len k.cap
  have hm3 := Nat.le_trans hq.len hq.cap
  unfold maxLen at hm1 hm2 hm3
  have HG1 := Lib.hid (fun (W : World) (hW : Below w.heap.size w W) => fgreata_any acs S s W (h.next hW))
  have HG2 := Lib.hid (fun (W : World) (hW : Below w.heap.size w W) => fgreata_any bs T t W (k.next hW))
  have HA := Lib.hid (fun (W : World) (hW : Below w.heap.size w W) => h.next hW)
  have HB := Lib.hid (fun (W : World) (hW : Below w.heap.size w W) => k.next hW)
  have HQ := Lib.hid (fun (W : World) (hW : Below w.heap.size w W) => hq.next hW)
  clear h k hq
  obtain ⟨g1, hg1⟩ : ∃ x, x = greatA acs := ⟨_, rfl⟩
  obtain ⟨g2, hg2⟩ : ∃ x, x = greatA bs := ⟨_, rfl⟩
  rw [← hg1] at HG1
  rw [← hg2] at HG2
  have HG1E := Lib.hid hg1
  have HG2E := Lib.hid hg2
  clear hg1 hg2
  go_enter Try.func3, Try.ntmps3
  try dsimp only [List.append]
  go_wp2_with fail
  refine (agalive_any _).mono ?_
  rintro e w1 ⟨rfl, hb⟩
  have HB1 := Lib.hid hb
  clear hb
  go_wp2_with fail
  refine (HG1.out _ HB1.out).mono ?_
  rintro e w2 ⟨rfl, hb⟩
  have HB2 := Lib.hid (bcall HB1.out HB1.out.size hb)
  clear hb HG1 HB1
  cases g1 with
  | true =>
    clear HG2 HA HB HQ
    go_wp2_with fail
    go_ret
    exact ⟨rfl, HB2.out⟩
  | false =>
    go_wp2_with fail
    refine (HG2.out _ HB2.out).mono ?_
    rintro e w3 ⟨rfl, hb⟩
    have HB3 := Lib.hid (bcall HB2.out HB2.out.size hb)
    clear hb HG2 HB2
    cases g2 with
    | true =>
      clear HA HB HQ
      go_wp2_with fail
      go_ret
      exact ⟨rfl, HB3.out⟩
    | false =>
      have HL1 := Lib.hid (great_small HG1E.out.symm)
      have HL2 := Lib.hid (great_small HG2E.out.symm)
      clear HG1E HG2E
      by_cases q1 : 30 < qs.length
      · have b1 : decide ((30 : Int) < (qs.length : Int)) = true := decide_eq_true (by omega)
        clear HA HB HQ q1
        go_wp2_with fail
        go_ret
        exact ⟨rfl, HB3.out⟩
      have b1 : decide ((30 : Int) < (qs.length : Int)) = false := decide_eq_false (by omega)
      by_cases q2 : acs.length = bs.length
      rotate_left
      · have b2 : ((acs.length : Int) != (bs.length : Int)) = true := by simp; omega
        clear HA HB HQ q1 q2
        go_wp2_with fail
        go_ret
        exact ⟨rfl, HB3.out⟩
      have b2 : ((acs.length : Int) != (bs.length : Int)) = false := by simp; omega
      by_cases q3 : who < 0
      · have b3 : decide (who < 0) = true := decide_eq_true q3
        clear HA HB HQ q1 q2 q3
        go_wp2_with fail
        go_ret
        exact ⟨rfl, HB3.out⟩
      have b3 : decide (who < 0) = false := decide_eq_false q3
      by_cases q4 : (acs.length : Int) ≤ who
      · have b4 : decide ((acs.length : Int) ≤ who) = true := decide_eq_true q4
        clear HA HB HQ q1 q2 q3
        go_wp2_with fail
        go_ret
        exact ⟨rfl, HB3.out⟩
      have b4 : decide ((acs.length : Int) ≤ who) = false := decide_eq_false q4
      obtain ⟨i, hi, hil⟩ : ∃ i : Nat, who = (i : Int) ∧ i < acs.length := ⟨who.toNat, by omega, by omega⟩
      have hib : i < bs.length := by omega
      obtain ⟨a, ha⟩ : ∃ a, acs[i]? = some a := ⟨_, List.getElem?_eq_getElem hil⟩
      have HQL := Lib.hid (show qs.length ≤ 30 by omega)
      have HIB := Lib.hid hib
      have HAI := Lib.hid ha
      have HQ2 := Lib.hid q2
      subst hi
      have b4n : decide (acs.length ≤ i) = false := decide_eq_false (by omega)
      have b4m : ¬ acs.length ≤ i := by omega
      clear q1 q3 q4 hil hib ha q2
      obtain ⟨m, hm⟩ : ∃ x, x = openM acs := ⟨_, rfl⟩
      obtain ⟨c1, hc1⟩ : ∃ x, x = meetC acs [] := ⟨_, rfl⟩
      obtain ⟨cs, hcs⟩ : ∃ x, x = bs.set i a := ⟨_, rfl⟩
      obtain ⟨n, hn⟩ : ∃ x, x = openM cs := ⟨_, rfl⟩
      obtain ⟨c2, hc2⟩ : ∃ x, x = meetC cs [] := ⟨_, rfl⟩
      have HCL := Lib.hid (show bs.length = cs.length by rw [hcs, List.length_set])
      have HO1 := Lib.hid (fun (W : World) (hW : Below w.heap.size w W) => open_fr acs S s W (HA.out W hW) m c1 hm.symm hc1.symm)
      have HO2 := Lib.hid (fun (A : Option Addr) (cap : Nat) (W : World) (hW : AsIn W.heap.size W A cap cs) => open_fr cs A cap W hW n c2 hn.symm hc2.symm)
      have HRP := Lib.hid (fun (W : World) (hW : Below w.heap.size w W) => show Calls Try.prog 10 #[.slice S acs.length s, .slice T bs.length t, .int .i64 (i : Int)] W fun e w' => ∃ A c, e = .returned (.slice A cs.length c) ∧ AsIn w'.heap.size w' A c cs ∧ Below W.heap.size W w' by
        rw [← HCL.out, hcs]; exact replaced_any acs bs S s T t i a W (HA.out W hW) (HB.out W hW) HAI.out HIB.out HL2.out HL1.out)
      have HME := Lib.hid hm
      have HC1 := Lib.hid hc1
      have HCS := Lib.hid hcs
      have HNE := Lib.hid hn
      have HC2 := Lib.hid hc2
      clear hm hc1 hcs hn hc2
      go_wp2_with fail
      refine (HO1.out _ HB3.out).mono ?_
      rintro e w4 ⟨P1, p1, S1, s1, rfl, hF1, hb⟩
      have HF1 := Lib.hid (fun (V : World) (hV : Below w4.heap.size w4 V) => hF1.ext hV)
      have HB4 := Lib.hid (bcall HB3.out HB3.out.size hb)
      clear hF1 hb HO1 HB3 b1 b2 b3 b4 b4n b4m
      go_upto_region 5 with fail
      have hM5 : Mx w4 [(w4.heap.size, .cells #[.slice P1 m.acs.length p1, .slice S1 m.log.length s1] 27)] [] (w4.alloc (.cells #[.slice P1 m.acs.length p1, .slice S1 m.log.length s1] 27)) := (Mx.of_bx (Bx.start w4)).new rfl _
      obtain ⟨gM, hgM⟩ : ∃ x, x = w4.heap.size := ⟨_, rfl⟩
      rw [← hgM] at hM5 ⊢
      clear hgM
      generalize w4.alloc _ = w5 at *
      go_wp2_with fail
      refine (HRP.out _ (bcall HB4.out HB4.out.size hM5.below)).mono ?_
      rintro e w6 ⟨AR, cr, rfl, hAR, hb⟩
      have hM6 := hM5.next hb
      clear hb hM5 HRP
      go_wp2_with fail
      refine (HO2.out _ _ _ hAR).mono ?_
      rintro e w7 ⟨P2, p2, S2, s2, rfl, hF2, hb⟩
      have hM7 := hM6.next hb
      have HF2 := Lib.hid (fun (V : World) (hV : Below w7.heap.size w7 V) => hF2.ext hV)
      clear hF2 hb HO2 hM6 hAR
      go_upto_region 6 with fail
      have hV8 := one_alloc w7 (.cells #[.slice P2 n.acs.length p2, .slice S2 n.log.length s2] 27)
      have hM8 := hM7.new rfl (.cells #[.slice P2 n.acs.length p2, .slice S2 n.log.length s2] 27)
      have HF28 := Lib.hid (fun (V : World) (hV : Below (w7.alloc (.cells #[.slice P2 n.acs.length p2, .slice S2 n.log.length s2] 27)).heap.size (w7.alloc (.cells #[.slice P2 n.acs.length p2, .slice S2 n.log.length s2] 27)) V) => HF2.out V (bcall hV8 hV8.size hV))
      clear hM7 HF2 hV8
      obtain ⟨gN, hgN⟩ : ∃ x, x = w7.heap.size := ⟨_, rfl⟩
      obtain ⟨w8, hw8⟩ : ∃ x, x = w7.alloc (.cells #[.slice P2 n.acs.length p2, .slice S2 n.log.length s2] 27) := ⟨_, rfl⟩
      rw [← hgN, ← hw8] at hM8
      rw [← hw8] at HF28
      rw [← hgN, ← hw8]
      clear hgN hw8
      have HBW := Lib.hid (fun (V : World) (hV : Below w4.heap.size w4 V) => bcall HB4.out HB4.out.size hV)
      by_cases z1 : c1 = 0
      rotate_left
      · have b1 : (c1 != 0) = true := by simpa using z1
        have HE := Lib.hid (HBW.out _ hM8.below)
        clear z1 hM8 HF28 HF1
        go_wp2_with fail
        go_ret
        exact ⟨rfl, HE.out⟩
      have b1 : (c1 != 0) = false := by simpa using z1
      by_cases z2 : c2 = 0
      rotate_left
      · have b2 : (c2 != 0) = true := by simpa using z2
        have HE := Lib.hid (HBW.out _ hM8.below)
        clear z1 z2 hM8 HF28 HF1
        go_wp2_with fail
        go_ret
        exact ⟨rfl, HE.out⟩
      have b2 : (c2 != 0) = false := by simpa using z2
      have HMM := Lib.hid (show m = ⟨acs, []⟩ by rw [HME.out]; exact if_pos (by rw [← HC1.out]; exact z1))
      have HNN := Lib.hid (show n = ⟨cs, []⟩ by rw [HNE.out]; exact if_pos (by rw [← HC2.out]; exact z2))
      have HZ1 := Lib.hid (show meetC acs [] = 0 by rw [← HC1.out]; exact z1)
      have HZ2 := Lib.hid (show meetC (bs.set i a) [] = 0 by rw [← HCS.out, ← HC2.out]; exact z2)
      clear z1 z2
      obtain ⟨ra, hra⟩ : ∃ x, x = m.rM qs := ⟨_, rfl⟩
      obtain ⟨na, hna⟩ : ∃ x, x = m.rN qs := ⟨_, rfl⟩
      obtain ⟨ea, hea⟩ : ∃ x, x = m.rC qs := ⟨_, rfl⟩
      have HR1 := Lib.hid (fun (V : World) (hV : MtIn P1 p1 S1 s1 m V) (hQ : LgIn V.heap.size V C c qs) => run_fr m P1 p1 S1 s1 qs C c V hV hQ ra na ea hra.symm hna.symm hea.symm)
      have HEA := Lib.hid hea
      have HRA := Lib.hid hra
      clear hra hna hea
      have c_m := fun j => cell_of_row _ _ j _ _ _ (hM8.get 1 rfl)
      have z_m := hM8.lt 1 rfl
      go_wp2_with fail
      refine (HR1.out _ (HF1.out _ hM8.below) (HQ.out _ (HBW.out _ hM8.below))).mono ?_
      rintro e w9 ⟨P3, p3, S3, s3, rfl, hF3, hb⟩
      have hM9 := hM8.next hb
      have HF29 := Lib.hid (fun (V : World) (hV : Below w9.heap.size w9 V) => HF28.out V (bcall hb hb.size hV))
      have HF3 := Lib.hid (fun (V : World) (hV : Below w9.heap.size w9 V) => hF3.ext hV)
      clear hF3 hb hM8 c_m z_m HR1 HF28 HF1 b1 b2
      go_upto_region 9 with fail
      have hVa := one_alloc w9 (.cells #[.slice P3 ra.acs.length p3, .slice S3 ra.log.length s3] 27)
      have hMa := hM9.new rfl (.cells #[.slice P3 ra.acs.length p3, .slice S3 ra.log.length s3] 27)
      obtain ⟨gA, hgA⟩ : ∃ x, x = w9.heap.size := ⟨_, rfl⟩
      obtain ⟨wa, hwa⟩ : ∃ x, x = w9.alloc (.cells #[.slice P3 ra.acs.length p3, .slice S3 ra.log.length s3] 27) := ⟨_, rfl⟩
      rw [← hwa] at hVa
      rw [← hgA, ← hwa] at hMa
      rw [← hgA, ← hwa]
      have HF2a := Lib.hid (fun (V : World) (hV : Below wa.heap.size wa V) => HF29.out V (bcall hVa hVa.size hV))
      have HF3a := Lib.hid (fun (V : World) (hV : Below wa.heap.size wa V) => HF3.out V (bcall hVa hVa.size hV))
      clear hgA hwa hVa hM9 HF29 HF3
      by_cases z1 : ea = 0
      rotate_left
      · have b1 : (ea != 0) = true := by simpa using z1
        have HE := Lib.hid (HBW.out _ hMa.below)
        clear z1 hMa HF2a HF3a
        go_wp2_with fail
        go_ret
        exact ⟨rfl, HE.out⟩
      have b1 : (ea != 0) = false := by simpa using z1
      obtain ⟨rb, hrb⟩ : ∃ x, x = n.rM (ofL qs (i : Int)) := ⟨_, rfl⟩
      obtain ⟨rc, hrc⟩ : ∃ x, x = n.rM qs := ⟨_, rfl⟩
      obtain ⟨nc, hnc⟩ : ∃ x, x = n.rN qs := ⟨_, rfl⟩
      obtain ⟨ec, hec⟩ : ∃ x, x = n.rC qs := ⟨_, rfl⟩
      have HAL := Lib.hid (show Alone acs bs i qs ra rb rc nc ec by
        have := alone_of HAI.out HIB.out HQL.out HZ1.out HZ2.out (by rw [← HMM.out, ← HEA.out]; exact z1)
        rw [hrb, hrc, hnc, hec, HRA.out, HMM.out, HNN.out, HCS.out]; exact this)
      obtain ⟨ql, hql⟩ : ∃ x, x = ofL qs (i : Int) := ⟨_, rfl⟩
      have HOQ := Lib.hid (fun (W : World) (hW : Below w.heap.size w W) => fagof_any qs C c (i : Int) W (HQ.out W hW) (by have := HQL.out; omega))
      rw [← hql] at HOQ hrb
      have HR2 := Lib.hid (fun (A : Option Addr) (cap : Nat) (V : World) (hV : MtIn P2 p2 S2 s2 n V) (hQ : LgIn V.heap.size V A cap ql) => run_fr n P2 p2 S2 s2 ql A cap V hV hQ rb ql.length 0 hrb.symm (by have := HAL.out.n; rw [acAt_of HAI.out, ← HCS.out, ← HNN.out, ← hql] at this; exact this) (by have := HAL.out.c; rw [acAt_of HAI.out, ← HCS.out, ← HNN.out, ← hql] at this; exact this))
      have HR3 := Lib.hid (fun (V : World) (hV : MtIn P2 p2 S2 s2 n V) (hQ : LgIn V.heap.size V C c qs) => run_fr n P2 p2 S2 s2 qs C c V hV hQ rc nc ec hrc.symm hnc.symm hec.symm)
      have HSM := Lib.hid (show rb.log = ofL ra.log (i : Int) from HAL.out.same)
      have HLR := Lib.hid (show ra.log.length = qs.length from HAL.out.len)
      have HRCL := Lib.hid (show rc.log.length ≤ 3000 by rw [hrc]; exact rm_len n qs (by rw [HNN.out]; simp) (by have := HQL.out; omega))
      clear z1 hrb hrc hnc hec hql
      have HCA := Lib.hid (fun (V : World) (hV : Below wa.heap.size wa V) => heap_ext (hMa.get 0 rfl) hV)
      have HCN := Lib.hid (fun (V : World) (hV : Below wa.heap.size wa V) => heap_ext (hMa.get 1 rfl) hV)
      have HBa := Lib.hid (fun (V : World) (hV : Below wa.heap.size wa V) => HBW.out V (bcall hMa.below hMa.below.size hV))
      clear hMa HBW
      go_upto_region 11 with fail
      clear b1
      go_cut [17, 18, 19] (fun s17 s18 s19 wx => ∃ (gB : Nat) (P4 : Option Addr) (p4 : Nat) (S4 : Option Addr) (s4 : Nat), s17 = .pointer (some ⟨gB, 0, none⟩) ∧ s18 = .int .i64 (ql.length : Int) ∧ s19 = .int .i64 0 ∧ Mx wa [(gB, .cells #[.slice P4 rb.acs.length p4, .slice S4 rb.log.length s4] 27)] [] wx ∧ Fresh wa.heap.size wx (MtIn P4 p4 S4 s4 rb))
      case first =>
        have hX : Ms (fun _ => True) wa [] [] wa := Ms.of_mx (Mx.of_bx (Bx.start wa)) (fun _ => trivial)
        go_wp2_with fail
        refine wp_region_T (Bx wa []) 13 (by kernel_rfl) (by rfl) ((hX.keep (List.nil_sublist _)).drew) (fun wq1 hbq => ?_)
        have hB101 := hX.next hbq
        clear hX hbq
        refine wpAnyT_go (Bx.grows _ _) (hB101.keep (List.nil_sublist _)) [0, 1, 2] 10 (by kernel_rfl) ?_
        apply Exists.intro
        refine ⟨fun G hG hN => ?_, ?_⟩
        · have c_n := fun (e : GE (Bx wa []) G) j => cell_of_row e.w _ j _ _ _ (HCN.out e.w (GE.h e).below)
          have z_n := fun (e : GE (Bx wa []) G) => lt_some (HCN.out e.w (GE.h e).below)
          simp only [pickOps, List.getElem?_toArray, List.getElem?_cons_zero, List.getElem?_cons_succ]
          repeat (first | go_big_quiet_step (fail) | quiet_step (fail))
          exact wpQuiet_nil rfl
        refine wpAnyT_all (rs := [3, 9]) (by kernel_rfl) (by simp) (fun wa2 hwa2 hRwa2 i hi => ?_)
        have hB102 := hB101.next hwa2
        clear hB101 hwa2 hRwa2
        rcases List.mem_cons.1 hi with rfl | hi
        · refine wpOp_step rfl (fun Kc hKc => ?_)
          go_simp
          refine Calls.mono (HOQ.out _ (HBa.out _ hB102.below)) ?_
          rintro e wv3 ⟨A9, c9, rfl, hown, hlg, hb⟩
          have hB103 := hB102.call hb (of_fresh hown hlg)
          clear hown hlg hb
          refine hKc _ _ ⟨(hB103.keep (List.nil_sublist _)), ?_⟩
          clear hKc Kc hB102
          refine wpAnyT_all (rs := [4, 9]) (by kernel_rfl) (by simp) (fun wa4 hwa4 hRwa4 i hi => ?_)
          have hB104 := hB103.next hwa4
          clear hB103 hwa4 hRwa4
          rcases List.mem_cons.1 hi with rfl | hi
          · refine wpOp_step rfl (fun Kc hKc => ?_)
            go_simp
            refine Calls.mono (HR2.out A9 c9 _ (HF2a.out _ hB104.below) hB104.here.2) ?_
            rintro e wv5 ⟨P4, p4, S4, s4, rfl, hF, hb⟩
            have hB105 := hB104.call hb hF
            clear hF hb
            refine hKc _ _ ⟨(hB105.keep (List.nil_sublist _)), ?_⟩
            clear hKc Kc hB104
            refine wpAnyT_go (Bx.grows _ _) (hB105.keep (List.nil_sublist _)) [5, 6, 7, 8] 4 (by kernel_rfl) ?_
            apply Exists.intro
            refine ⟨fun G hG hN => ?_, ?_⟩
            · have c_n := fun (e : GE (Bx wa []) G) j => cell_of_row e.w _ j _ _ _ (HCN.out e.w (GE.h e).below)
              have z_n := fun (e : GE (Bx wa []) G) => lt_some (HCN.out e.w (GE.h e).below)
              simp only [pickOps, List.getElem?_toArray, List.getElem?_cons_zero, List.getElem?_cons_succ]
              repeat (first | go_big_quiet_step (fail) | quiet_step (fail))
              exact wpQuiet_nil rfl
            refine wpAnyT_all (rs := [9]) (by kernel_rfl) (by simp) (fun wa6 hwa6 hRwa6 i hi => ?_)
            have hB106 := hB105.next hwa6
            clear hB105 hwa6 hRwa6
            obtain rfl := List.mem_singleton.1 hi
            refine wpOp_step rfl (fun Kc hKc => ?_)
            go_simp
            have hB107 := hB106.new (g := wa6.heap.size) rfl (.cells #[.slice none 0 0, .slice none 0 0] 27)
            refine hKc _ _ ⟨(hB107.keep (List.nil_sublist _)), ?_⟩
            clear hKc Kc hB106
            generalize wa6.heap.size = gB at *
            generalize wa6.alloc _ = wb7 at *
            refine wpAnyT_all (rs := [10]) (by kernel_rfl) (by simp) (fun wa8 hwa8 hRwa8 i hi => ?_)
            have hB108 := hB107.next hwa8
            clear hB107 hwa8 hRwa8
            obtain rfl := List.mem_singleton.1 hi
            refine wpOp_step rfl (fun Kc hKc => ?_)
            have c_bb := fun j => cell_of_row _ _ j _ _ _ (hB108.get 0 rfl)
            have z_bb := hB108.lt 0 rfl
            have f_bb := fun j => frozen_of_row _ _ j _ _ (hB108.get 0 rfl)
            go_simp
            have hB109 := hB108.put2 0 rfl (.slice P4 rb.acs.length p4) (.slice S4 rb.log.length s4)
            refine hKc _ _ ⟨(hB109.keep (List.nil_sublist _)), ?_⟩
            clear c_bb z_bb f_bb hKc Kc hB108
            generalize (wa8.setCell _ _).setCell _ _ = wb9 at *
            refine wpAnyT_go (Bx.grows _ _) (hB109.keep (List.nil_sublist _)) [11, 12] 0 (by kernel_rfl) ?_
            apply Exists.intro
            refine ⟨fun G hG hN => ?_, ?_⟩
            · have c_n := fun (e : GE (Bx wa []) G) j => cell_of_row e.w _ j _ _ _ (HCN.out e.w (GE.h e).below)
              have z_n := fun (e : GE (Bx wa []) G) => lt_some (HCN.out e.w (GE.h e).below)
              simp only [pickOps, List.getElem?_toArray, List.getElem?_cons_zero, List.getElem?_cons_succ]
              repeat (first | go_big_quiet_step (fail) | quiet_step (fail))
              exact wpQuiet_nil rfl
            refine wpAnyT_done (by kernel_rfl) (fun wd10 hwd10 hRwd10 => ?_) _
            refine NoPanic.normal ?_
            have hB110 := hB109.next hwd10
            clear hB109 hwd10 hRwd10
            have HM := Lib.hid hB110.mx
            have HF := Lib.hid (show Fresh wa.heap.size wd10 (MtIn P4 p4 S4 s4 rb) from fun V a b => (hB110.sep V a (fun g h1 h2 _ => b g h1 h2)).2)
            clear hB110
            go_wp2_with fail
            go_meet
            exact ⟨gB, P4, p4, S4, s4, rfl, rfl, rfl, HM.out, HF.out⟩
          · obtain rfl := List.mem_singleton.1 hi
            refine wpOp_step rfl (fun Kc hKc => ?_)
            go_simp
            have hB105 := hB104.new (g := wa4.heap.size) rfl (.cells #[.slice none 0 0, .slice none 0 0] 27)
            refine hKc _ _ ⟨(hB105.keep (List.nil_sublist _)), ?_⟩
            clear hKc Kc hB104
            generalize wa4.heap.size = gB at *
            generalize wa4.alloc _ = wb11 at *
            refine wpAnyT_all (rs := [4]) (by kernel_rfl) (by simp) (fun wa12 hwa12 hRwa12 i hi => ?_)
            have hB106 := hB105.next hwa12
            clear hB105 hwa12 hRwa12
            obtain rfl := List.mem_singleton.1 hi
            refine wpOp_step rfl (fun Kc hKc => ?_)
            go_simp
            refine Calls.mono (HR2.out A9 c9 _ (HF2a.out _ hB106.below) hB106.here.2) ?_
            rintro e wv13 ⟨P4, p4, S4, s4, rfl, hF, hb⟩
            have hB107 := hB106.call hb hF
            clear hF hb
            refine hKc _ _ ⟨(hB107.keep (List.nil_sublist _)), ?_⟩
            clear hKc Kc hB106
            refine wpAnyT_go (Bx.grows _ _) (hB107.keep (List.nil_sublist _)) [5, 6, 7, 8] 3 (by kernel_rfl) ?_
            apply Exists.intro
            refine ⟨fun G hG hN => ?_, ?_⟩
            · have c_n := fun (e : GE (Bx wa []) G) j => cell_of_row e.w _ j _ _ _ (HCN.out e.w (GE.h e).below)
              have z_n := fun (e : GE (Bx wa []) G) => lt_some (HCN.out e.w (GE.h e).below)
              simp only [pickOps, List.getElem?_toArray, List.getElem?_cons_zero, List.getElem?_cons_succ]
              repeat (first | go_big_quiet_step (fail) | quiet_step (fail))
              exact wpQuiet_nil rfl
            refine wpAnyT_all (rs := [10]) (by kernel_rfl) (by simp) (fun wa14 hwa14 hRwa14 i hi => ?_)
            have hB108 := hB107.next hwa14
            clear hB107 hwa14 hRwa14
            obtain rfl := List.mem_singleton.1 hi
            refine wpOp_step rfl (fun Kc hKc => ?_)
            have c_bb := fun j => cell_of_row _ _ j _ _ _ (hB108.get 0 rfl)
            have z_bb := hB108.lt 0 rfl
            have f_bb := fun j => frozen_of_row _ _ j _ _ (hB108.get 0 rfl)
            go_simp
            have hB109 := hB108.put2 0 rfl (.slice P4 rb.acs.length p4) (.slice S4 rb.log.length s4)
            refine hKc _ _ ⟨(hB109.keep (List.nil_sublist _)), ?_⟩
            clear c_bb z_bb f_bb hKc Kc hB108
            generalize (wa14.setCell _ _).setCell _ _ = wb15 at *
            refine wpAnyT_go (Bx.grows _ _) (hB109.keep (List.nil_sublist _)) [11, 12] 0 (by kernel_rfl) ?_
            apply Exists.intro
            refine ⟨fun G hG hN => ?_, ?_⟩
            · have c_n := fun (e : GE (Bx wa []) G) j => cell_of_row e.w _ j _ _ _ (HCN.out e.w (GE.h e).below)
              have z_n := fun (e : GE (Bx wa []) G) => lt_some (HCN.out e.w (GE.h e).below)
              simp only [pickOps, List.getElem?_toArray, List.getElem?_cons_zero, List.getElem?_cons_succ]
              repeat (first | go_big_quiet_step (fail) | quiet_step (fail))
              exact wpQuiet_nil rfl
            refine wpAnyT_done (by kernel_rfl) (fun wd16 hwd16 hRwd16 => ?_) _
            refine NoPanic.normal ?_
            have hB110 := hB109.next hwd16
            clear hB109 hwd16 hRwd16
            have HM := Lib.hid hB110.mx
            have HF := Lib.hid (show Fresh wa.heap.size wd16 (MtIn P4 p4 S4 s4 rb) from fun V a b => (hB110.sep V a (fun g h1 h2 _ => b g h1 h2)).2)
            clear hB110
            go_wp2_with fail
            go_meet
            exact ⟨gB, P4, p4, S4, s4, rfl, rfl, rfl, HM.out, HF.out⟩
        · obtain rfl := List.mem_singleton.1 hi
          refine wpOp_step rfl (fun Kc hKc => ?_)
          go_simp
          have hB103 := hB102.new (g := wa2.heap.size) rfl (.cells #[.slice none 0 0, .slice none 0 0] 27)
          refine hKc _ _ ⟨(hB103.keep (List.nil_sublist _)), ?_⟩
          clear hKc Kc hB102
          generalize wa2.heap.size = gB at *
          generalize wa2.alloc _ = wb17 at *
          refine wpAnyT_all (rs := [3]) (by kernel_rfl) (by simp) (fun wa18 hwa18 hRwa18 i hi => ?_)
          have hB104 := hB103.next hwa18
          clear hB103 hwa18 hRwa18
          obtain rfl := List.mem_singleton.1 hi
          refine wpOp_step rfl (fun Kc hKc => ?_)
          go_simp
          refine Calls.mono (HOQ.out _ (HBa.out _ hB104.below)) ?_
          rintro e wv19 ⟨A9, c9, rfl, hown, hlg, hb⟩
          have hB105 := hB104.call hb (of_fresh hown hlg)
          clear hown hlg hb
          refine hKc _ _ ⟨(hB105.keep (List.nil_sublist _)), ?_⟩
          clear hKc Kc hB104
          refine wpAnyT_all (rs := [4]) (by kernel_rfl) (by simp) (fun wa20 hwa20 hRwa20 i hi => ?_)
          have hB106 := hB105.next hwa20
          clear hB105 hwa20 hRwa20
          obtain rfl := List.mem_singleton.1 hi
          refine wpOp_step rfl (fun Kc hKc => ?_)
          go_simp
          refine Calls.mono (HR2.out A9 c9 _ (HF2a.out _ hB106.below) hB106.here.2) ?_
          rintro e wv21 ⟨P4, p4, S4, s4, rfl, hF, hb⟩
          have hB107 := hB106.call hb hF
          clear hF hb
          refine hKc _ _ ⟨(hB107.keep (List.nil_sublist _)), ?_⟩
          clear hKc Kc hB106
          refine wpAnyT_go (Bx.grows _ _) (hB107.keep (List.nil_sublist _)) [5, 6, 7, 8] 3 (by kernel_rfl) ?_
          apply Exists.intro
          refine ⟨fun G hG hN => ?_, ?_⟩
          · have c_n := fun (e : GE (Bx wa []) G) j => cell_of_row e.w _ j _ _ _ (HCN.out e.w (GE.h e).below)
            have z_n := fun (e : GE (Bx wa []) G) => lt_some (HCN.out e.w (GE.h e).below)
            simp only [pickOps, List.getElem?_toArray, List.getElem?_cons_zero, List.getElem?_cons_succ]
            repeat (first | go_big_quiet_step (fail) | quiet_step (fail))
            exact wpQuiet_nil rfl
          refine wpAnyT_all (rs := [10]) (by kernel_rfl) (by simp) (fun wa22 hwa22 hRwa22 i hi => ?_)
          have hB108 := hB107.next hwa22
          clear hB107 hwa22 hRwa22
          obtain rfl := List.mem_singleton.1 hi
          refine wpOp_step rfl (fun Kc hKc => ?_)
          have c_bb := fun j => cell_of_row _ _ j _ _ _ (hB108.get 0 rfl)
          have z_bb := hB108.lt 0 rfl
          have f_bb := fun j => frozen_of_row _ _ j _ _ (hB108.get 0 rfl)
          go_simp
          have hB109 := hB108.put2 0 rfl (.slice P4 rb.acs.length p4) (.slice S4 rb.log.length s4)
          refine hKc _ _ ⟨(hB109.keep (List.nil_sublist _)), ?_⟩
          clear c_bb z_bb f_bb hKc Kc hB108
          generalize (wa22.setCell _ _).setCell _ _ = wb23 at *
          refine wpAnyT_go (Bx.grows _ _) (hB109.keep (List.nil_sublist _)) [11, 12] 0 (by kernel_rfl) ?_
          apply Exists.intro
          refine ⟨fun G hG hN => ?_, ?_⟩
          · have c_n := fun (e : GE (Bx wa []) G) j => cell_of_row e.w _ j _ _ _ (HCN.out e.w (GE.h e).below)
            have z_n := fun (e : GE (Bx wa []) G) => lt_some (HCN.out e.w (GE.h e).below)
            simp only [pickOps, List.getElem?_toArray, List.getElem?_cons_zero, List.getElem?_cons_succ]
            repeat (first | go_big_quiet_step (fail) | quiet_step (fail))
            exact wpQuiet_nil rfl
          refine wpAnyT_done (by kernel_rfl) (fun wd24 hwd24 hRwd24 => ?_) _
          refine NoPanic.normal ?_
          have hB110 := hB109.next hwd24
          clear hB109 hwd24 hRwd24
          have HM := Lib.hid hB110.mx
          have HF := Lib.hid (show Fresh wa.heap.size wd24 (MtIn P4 p4 S4 s4 rb) from fun V a b => (hB110.sep V a (fun g h1 h2 _ => b g h1 h2)).2)
          clear hB110
          go_wp2_with fail
          go_meet
          exact ⟨gB, P4, p4, S4, s4, rfl, rfl, rfl, HM.out, HF.out⟩
      case rest =>
        obtain ⟨gB, P4, p4, S4, s4, rfl, rfl, rfl, hM, hF4⟩ := hcut
        generalize wc = wd at *
        have HVd := Lib.hid hM.below
        have HCB := Lib.hid (fun (V : World) (hV : Below wd.heap.size wd V) => heap_ext (hM.get 0 rfl) hV)
        have HF4 := Lib.hid (fun (V : World) (hV : Below wd.heap.size wd V) => hF4.ext hV)
        have HCAd := Lib.hid (fun (V : World) (hV : Below wd.heap.size wd V) => HCA.out V (bcall HVd.out HVd.out.size hV))
        have HCNd := Lib.hid (fun (V : World) (hV : Below wd.heap.size wd V) => HCN.out V (bcall HVd.out HVd.out.size hV))
        have HF2d := Lib.hid (fun (V : World) (hV : Below wd.heap.size wd V) => HF2a.out V (bcall HVd.out HVd.out.size hV))
        have HF3d := Lib.hid (fun (V : World) (hV : Below wd.heap.size wd V) => HF3a.out V (bcall HVd.out HVd.out.size hV))
        have HBd := Lib.hid (fun (V : World) (hV : Below wd.heap.size wd V) => HBa.out V (bcall HVd.out HVd.out.size hV))
        have HOA := Lib.hid (fun (V : World) (hV : Below wd.heap.size wd V) => show Calls Try.prog 12 #[.slice S3 ra.log.length s3, .int .i64 (i : Int)] V (OfRes rb.log V) by
          rw [HSM.out]; exact fagof_any ra.log S3 s3 (i : Int) V (HF3d.out V hV).2 (by have := HLR.out; have := HQL.out; omega))
        have HOB := Lib.hid (fun (V : World) (hV : Below wd.heap.size wd V) => show Calls Try.prog 14 #[.slice S3 ra.log.length s3, .int .i64 (i : Int)] V (OfRes rb.log V) by
          rw [HSM.out]; exact agof_any ra.log S3 s3 (i : Int) V (HF3d.out V hV).2 (by have := HLR.out; have := HQL.out; omega))
        clear hM hF4 HCA HCN HF2a HF3a HBa HR2
        have hX : Ms (fun _ => True) wd [] [] wd := Ms.of_mx (Mx.of_bx (Bx.start wd)) (fun _ => trivial)
        go_wp2_with fail
        refine wp_region_T (Bx wd []) 30 (by kernel_rfl) (by rfl) ((hX.keep (List.nil_sublist _)).drew) (fun wq25 hbq => ?_)
        have hB201 := hX.next hbq
        clear hX hbq
        refine wpAnyT_go (Bx.grows _ _) (hB201.keep (List.nil_sublist _)) [0, 1, 2, 3, 4, 5] 24 (by kernel_rfl) ?_
        apply Exists.intro
        refine ⟨fun G hG hN => ?_, ?_⟩
        · have c_a := fun (e : GE (Bx wd []) G) j => cell_of_row e.w _ j _ _ _ (HCAd.out e.w (GE.h e).below)
          have z_a := fun (e : GE (Bx wd []) G) => lt_some (HCAd.out e.w (GE.h e).below)
          have c_b := fun (e : GE (Bx wd []) G) j => cell_of_row e.w _ j _ _ _ (HCB.out e.w (GE.h e).below)
          have z_b := fun (e : GE (Bx wd []) G) => lt_some (HCB.out e.w (GE.h e).below)
          simp only [pickOps, List.getElem?_toArray, List.getElem?_cons_zero, List.getElem?_cons_succ]
          repeat (first | go_big_quiet_step (fail) | quiet_step (fail))
          exact wpQuiet_nil rfl
        refine wpAnyT_all (rs := [6]) (by kernel_rfl) (by simp) (fun wa26 hwa26 hRwa26 i hi => ?_)
        have hB202 := hB201.next hwa26
        clear hB201 hwa26 hRwa26
        obtain rfl := List.mem_singleton.1 hi
        refine wpOp_step rfl (fun Kc hKc => ?_)
        go_simp
        refine Calls.mono (HOQ.out _ (HBd.out _ hB202.below)) ?_
        rintro e wv27 ⟨A5, c5, rfl, hown, hlg, hb⟩
        have hB203 := hB202.next hb
        clear hown hlg hb
        refine hKc _ _ ⟨(hB203.keep (List.nil_sublist _)), ?_⟩
        clear hKc Kc hB202
        refine wpAnyT_go (Bx.grows _ _) (hB203.keep (List.nil_sublist _)) [7, 8, 9, 10, 11, 12, 13, 15, 16] 14 (by kernel_rfl) ?_
        apply Exists.intro
        refine ⟨fun G hG hN => ?_, ?_⟩
        · have c_a := fun (e : GE (Bx wd []) G) j => cell_of_row e.w _ j _ _ _ (HCAd.out e.w (GE.h e).below)
          have z_a := fun (e : GE (Bx wd []) G) => lt_some (HCAd.out e.w (GE.h e).below)
          have c_b := fun (e : GE (Bx wd []) G) j => cell_of_row e.w _ j _ _ _ (HCB.out e.w (GE.h e).below)
          have z_b := fun (e : GE (Bx wd []) G) => lt_some (HCB.out e.w (GE.h e).below)
          simp only [pickOps, List.getElem?_toArray, List.getElem?_cons_zero, List.getElem?_cons_succ]
          repeat (first | go_big_quiet_step (fail) | quiet_step (fail))
          exact wpQuiet_nil rfl
        refine wpAnyT_all (rs := [14]) (by kernel_rfl) (by simp) (fun wa28 hwa28 hRwa28 i hi => ?_)
        have hB204 := hB203.next hwa28
        clear hB203 hwa28 hRwa28
        obtain rfl := List.mem_singleton.1 hi
        refine wpOp_step rfl (fun Kc hKc => ?_)
        go_simp
        refine Calls.mono (HOA.out _ hB204.below) ?_
        rintro e wv29 ⟨A6, c6, rfl, hown, hlg, hb⟩
        have hB205 := hB204.call hb (of_fresh hown hlg)
        clear hown hlg hb
        refine hKc _ _ ⟨(hB205.keep (List.nil_sublist _)), ?_⟩
        clear hKc Kc hB204
        refine wpAnyT_all (rs := [17]) (by kernel_rfl) (by simp) (fun wa30 hwa30 hRwa30 i hi => ?_)
        have hB206 := hB205.next hwa30
        clear hB205 hwa30 hRwa30
        obtain rfl := List.mem_singleton.1 hi
        refine wpOp_step rfl (fun Kc hKc => ?_)
        go_simp
        refine Calls.mono (same_true rb.log A6 c6 S4 s4 _ hB206.here.2 (HF4.out _ hB206.below).2) ?_
        rintro e wv31 ⟨rfl, hb⟩
        have hB207 := hB206.next hb
        clear hb
        refine hKc _ _ ⟨(hB207.keep (List.nil_sublist _)), ?_⟩
        clear hKc Kc hB206
        refine wpAnyT_go (Bx.grows _ _) (hB207.keep (List.nil_sublist _)) [18, 19, 20, 21, 22, 23, 25, 26] 4 (by kernel_rfl) ?_
        apply Exists.intro
        refine ⟨fun G hG hN => ?_, ?_⟩
        · have c_a := fun (e : GE (Bx wd []) G) j => cell_of_row e.w _ j _ _ _ (HCAd.out e.w (GE.h e).below)
          have z_a := fun (e : GE (Bx wd []) G) => lt_some (HCAd.out e.w (GE.h e).below)
          have c_b := fun (e : GE (Bx wd []) G) j => cell_of_row e.w _ j _ _ _ (HCB.out e.w (GE.h e).below)
          have z_b := fun (e : GE (Bx wd []) G) => lt_some (HCB.out e.w (GE.h e).below)
          simp only [pickOps, List.getElem?_toArray, List.getElem?_cons_zero, List.getElem?_cons_succ]
          repeat (first | go_big_quiet_step (fail) | quiet_step (fail))
          exact wpQuiet_nil rfl
        refine wpAnyT_all (rs := [24]) (by kernel_rfl) (by simp) (fun wa32 hwa32 hRwa32 i hi => ?_)
        have hB208 := hB207.next hwa32
        clear hB207 hwa32 hRwa32
        obtain rfl := List.mem_singleton.1 hi
        refine wpOp_step rfl (fun Kc hKc => ?_)
        go_simp
        refine Calls.mono (HOB.out _ hB208.below) ?_
        rintro e wv33 ⟨A7, c7, rfl, hown, hlg, hb⟩
        have hB209 := hB208.call hb (of_fresh hown hlg)
        clear hown hlg hb
        refine hKc _ _ ⟨(hB209.keep (List.nil_sublist _)), ?_⟩
        clear hKc Kc hB208
        refine wpAnyT_all (rs := [27]) (by kernel_rfl) (by simp) (fun wa34 hwa34 hRwa34 i hi => ?_)
        have hB210 := hB209.next hwa34
        clear hB209 hwa34 hRwa34
        obtain rfl := List.mem_singleton.1 hi
        refine wpOp_step rfl (fun Kc hKc => ?_)
        go_simp
        refine Calls.mono (same_true rb.log A7 c7 S4 s4 _ hB210.here.2 (HF4.out _ hB210.below).2) ?_
        rintro e wv35 ⟨rfl, hb⟩
        have hB211 := hB210.next hb
        clear hb
        refine hKc _ _ ⟨(hB211.keep (List.nil_sublist _)), ?_⟩
        clear hKc Kc hB210
        refine wpAnyT_go (Bx.grows _ _) (hB211.keep (List.nil_sublist _)) [28, 29] 0 (by kernel_rfl) ?_
        apply Exists.intro
        refine ⟨fun G hG hN => ?_, ?_⟩
        · have c_a := fun (e : GE (Bx wd []) G) j => cell_of_row e.w _ j _ _ _ (HCAd.out e.w (GE.h e).below)
          have z_a := fun (e : GE (Bx wd []) G) => lt_some (HCAd.out e.w (GE.h e).below)
          have c_b := fun (e : GE (Bx wd []) G) j => cell_of_row e.w _ j _ _ _ (HCB.out e.w (GE.h e).below)
          have z_b := fun (e : GE (Bx wd []) G) => lt_some (HCB.out e.w (GE.h e).below)
          simp only [pickOps, List.getElem?_toArray, List.getElem?_cons_zero, List.getElem?_cons_succ]
          repeat (first | go_big_quiet_step (fail) | quiet_step (fail))
          exact wpQuiet_nil rfl
        refine wpAnyT_done (by kernel_rfl) (fun wd36 hwd36 hRwd36 => ?_) _
        refine NoPanic.normal ?_
        have hB212 := hB211.next hwd36
        clear hB211 hwd36 hRwd36
        have HW12 := Lib.hid hB212.below
        clear hB212
        have h_n := HCNd.out _ HW12.out
        have c_n := fun j => cell_of_row _ _ j _ _ _ h_n
        have z_n := lt_some h_n
        clear h_n
        go_wp2_with fail
        refine (HR3.out _ (HF2d.out _ HW12.out) (HQ.out _ (HBd.out _ HW12.out))).mono ?_
        rintro e we ⟨P5, p5, S5, s5, rfl, hF5, hb⟩
        have HWe := Lib.hid (bcall HW12.out HW12.out.size hb)
        have HF5 := Lib.hid (fun (V : World) (hV : Below we.heap.size we V) => hF5.ext hV)
        clear hb hF5 c_n z_n HR3 HW12
        go_upto_region 15 with fail
        have hVf := one_alloc we (.cells #[.slice P5 rc.acs.length p5, .slice S5 rc.log.length s5] 27)
        have hgf : (we.alloc (.cells #[.slice P5 rc.acs.length p5, .slice S5 rc.log.length s5] 27)).heap[we.heap.size]? = some (.cells #[.slice P5 rc.acs.length p5, .slice S5 rc.log.length s5] 27) := heap_new rfl
        obtain ⟨gC, hgC⟩ : ∃ x, x = we.heap.size := ⟨_, rfl⟩
        obtain ⟨wf, hwf⟩ : ∃ x, x = we.alloc (.cells #[.slice P5 rc.acs.length p5, .slice S5 rc.log.length s5] 27) := ⟨_, rfl⟩
        rw [← hwf] at hVf
        rw [← hgC, ← hwf] at hgf
        rw [← hgC, ← hwf]
        have HCC := Lib.hid (fun (V : World) (hV : Below wf.heap.size wf V) => heap_ext hgf hV)
        have HWf := Lib.hid (bcall HWe.out HWe.out.size hVf)
        have HF5f := Lib.hid (fun (V : World) (hV : Below wf.heap.size wf V) => HF5.out V (bcall hVf hVf.size hV))
        have HCAf := Lib.hid (fun (V : World) (hV : Below wf.heap.size wf V) => HCAd.out V (bcall HWf.out HWf.out.size hV))
        have HF3f := Lib.hid (fun (V : World) (hV : Below wf.heap.size wf V) => HF3d.out V (bcall HWf.out HWf.out.size hV))
        have HBf := Lib.hid (fun (V : World) (hV : Below wf.heap.size wf V) => HBd.out V (bcall HWf.out HWf.out.size hV))
        clear hgC hwf hVf hgf HWe HF5 HCAd HF3d HBd HCNd HF2d HF4 HCB HOA HOB HVd
        have HLE := Lib.hid (show nc ≤ ra.log.length by rw [HLR.out]; exact HAL.out.le)
        have HOT := Lib.hid (fun (V : World) (hV : Below wf.heap.size wf V) => show Calls Try.prog 12 #[.slice S3 nc s3, .int .i64 (i : Int)] V (OfRes (ofL rc.log (i : Int)) V) by
          have := fagof_any (ra.log.take nc) S3 s3 (i : Int) V (RIn.take (HF3f.out V hV).2 nc) (by rw [List.length_take]; have := HLR.out; have := HQL.out; omega)
          rw [HAL.out.bet] at this
          rwa [List.length_take, Nat.min_eq_left HLE.out] at this)
        have HLC := Lib.hid (show rc.log.length ≤ 3000 from HRCL.out)
        have HOC := Lib.hid (fun (V : World) (hV : Below wf.heap.size wf V) => fagof_any rc.log S5 s5 (i : Int) V (HF5f.out V hV).2 HLC.out)
        have hcap := (HF3f.out _ (Below.refl _ _)).2.len
        have hcap2 := (HF3f.out _ (Below.refl _ _)).2.cap
        have HCP := Lib.hid (And.intro hcap hcap2)
        clear hcap hcap2
        have n1 : decide ((nc : Int) < 0) = false := decide_eq_false (by omega)
        have n2 : decide ((qs.length : Int) < (nc : Int)) = false := decide_eq_false (by have := HAL.out.le; omega)
        have n3 : decide (qs.length < nc) = false := decide_eq_false (by have := HAL.out.le; omega)
        obtain ⟨lc, hlc⟩ : ∃ x, x = ofL rc.log (i : Int) := ⟨_, rfl⟩
        rw [← hlc] at HOT HOC
        clear hlc
        by_cases z2 : ec = 0
        · have n4 : (ec == 0) = true := by simpa using z2
          have HEN := Lib.hid (HAL.out.all z2)
          have n5 : ((nc : Int) != (qs.length : Int)) = false := by have := HEN.out; simp; omega
          have n6 : (nc != qs.length) = false := by have := HEN.out; simp; omega
          clear z2
          have k1 := HCP.out.1
          have k2 := HCP.out.2
          unfold maxLen at k2
          have k3 := HLE.out
          have y1 : (nc : Int) ≤ (ra.log.length : Int) := by omega
          have y2 : min (nc : Int) (ra.log.length : Int) = (nc : Int) := by omega
          have y3 : nc ≤ s3 := by omega
          have y4 : (nc : Int) ≤ (s3 : Int) := by omega
          have y5 : min nc ra.log.length = nc := by omega
          clear k1 k2
          have hY : Ms (fun _ => True) wf [] [] wf := Ms.of_mx (Mx.of_bx (Bx.start wf)) (fun _ => trivial)
          go_wp2_with fail
          refine wp_region_T (Bx wf []) 19 (by kernel_rfl) (by rfl) ((hY.keep (List.nil_sublist _)).drew) (fun wq37 hbq => ?_)
          have hB301 := hY.next hbq
          clear hY hbq
          refine wpAnyT_go (Bx.grows _ _) (hB301.keep (List.nil_sublist _)) [0, 1, 2, 3, 4, 5, 6, 7, 8, 9, 10, 12, 13, 14] 5 (by kernel_rfl) ?_
          apply Exists.intro
          refine ⟨fun G hG hN => ?_, ?_⟩
          · have c_a := fun (e : GE (Bx wf []) G) j => cell_of_row e.w _ j _ _ _ (HCAf.out e.w (GE.h e).below)
            have z_a := fun (e : GE (Bx wf []) G) => lt_some (HCAf.out e.w (GE.h e).below)
            have c_c := fun (e : GE (Bx wf []) G) j => cell_of_row e.w _ j _ _ _ (HCC.out e.w (GE.h e).below)
            have z_c := fun (e : GE (Bx wf []) G) => lt_some (HCC.out e.w (GE.h e).below)
            simp only [pickOps, List.getElem?_toArray, List.getElem?_cons_zero, List.getElem?_cons_succ]
            repeat (first | go_big_quiet_step (fail) | quiet_step (fail))
            exact wpQuiet_nil rfl
          refine wpAnyT_all (rs := [11]) (by kernel_rfl) (by simp) (fun wa38 hwa38 hRwa38 i hi => ?_)
          have hB302 := hB301.next hwa38
          clear hB301 hwa38 hRwa38
          obtain rfl := List.mem_singleton.1 hi
          refine wpOp_step rfl (fun Kc hKc => ?_)
          go_simp
          refine Calls.mono (HOT.out _ hB302.below) ?_
          rintro e wv39 ⟨A6, c6, rfl, hown, hlg, hb⟩
          have hB303 := hB302.call hb (of_fresh hown hlg)
          clear hown hlg hb
          refine hKc _ _ ⟨(hB303.keep (List.nil_sublist _)), ?_⟩
          clear hKc Kc hB302
          refine wpAnyT_all (rs := [15]) (by kernel_rfl) (by simp) (fun wa40 hwa40 hRwa40 i hi => ?_)
          have hB304 := hB303.next hwa40
          clear hB303 hwa40 hRwa40
          obtain rfl := List.mem_singleton.1 hi
          refine wpOp_step rfl (fun Kc hKc => ?_)
          go_simp
          refine Calls.mono (HOC.out _ hB304.below) ?_
          rintro e wv41 ⟨A7, c7, rfl, hown, hlg, hb⟩
          have hB305 := hB304.call hb (of_fresh hown hlg)
          clear hown hlg hb
          refine hKc _ _ ⟨(hB305.keep (List.nil_sublist _)), ?_⟩
          clear hKc Kc hB304
          refine wpAnyT_all (rs := [16]) (by kernel_rfl) (by simp) (fun wa42 hwa42 hRwa42 i hi => ?_)
          have hB306 := hB305.next hwa42
          clear hB305 hwa42 hRwa42
          obtain rfl := List.mem_singleton.1 hi
          refine wpOp_step rfl (fun Kc hKc => ?_)
          go_simp
          refine Calls.mono (same_true lc A6 c6 A7 c7 _ (hB306.here.1.2) (hB306.here.2)) ?_
          rintro e wv43 ⟨rfl, hb⟩
          have hB307 := hB306.next hb
          clear hb
          refine hKc _ _ ⟨(hB307.keep (List.nil_sublist _)), ?_⟩
          clear hKc Kc hB306
          refine wpAnyT_go (Bx.grows _ _) (hB307.keep (List.nil_sublist _)) [17, 18] 0 (by kernel_rfl) ?_
          apply Exists.intro
          refine ⟨fun G hG hN => ?_, ?_⟩
          · have c_a := fun (e : GE (Bx wf []) G) j => cell_of_row e.w _ j _ _ _ (HCAf.out e.w (GE.h e).below)
            have z_a := fun (e : GE (Bx wf []) G) => lt_some (HCAf.out e.w (GE.h e).below)
            have c_c := fun (e : GE (Bx wf []) G) j => cell_of_row e.w _ j _ _ _ (HCC.out e.w (GE.h e).below)
            have z_c := fun (e : GE (Bx wf []) G) => lt_some (HCC.out e.w (GE.h e).below)
            simp only [pickOps, List.getElem?_toArray, List.getElem?_cons_zero, List.getElem?_cons_succ]
            repeat (first | go_big_quiet_step (fail) | quiet_step (fail))
            exact wpQuiet_nil rfl
          refine wpAnyT_done (by kernel_rfl) (fun wd44 hwd44 hRwd44 => ?_) _
          refine NoPanic.normal ?_
          have hB308 := hB307.next hwd44
          clear hB307 hwd44 hRwd44
          have HE := Lib.hid (HBf.out _ hB308.below)
          clear hB308
          go_wp2_with fail
          go_ret
          exact ⟨rfl, HE.out⟩
        have n4 : (ec == 0) = false := by simpa using z2
        clear z2
        have k1 := HCP.out.1
        have k2 := HCP.out.2
        unfold maxLen at k2
        have k3 := HLE.out
        have y1 : (nc : Int) ≤ (ra.log.length : Int) := by omega
        have y2 : min (nc : Int) (ra.log.length : Int) = (nc : Int) := by omega
        have y3 : nc ≤ s3 := by omega
        have y4 : (nc : Int) ≤ (s3 : Int) := by omega
        have y5 : min nc ra.log.length = nc := by omega
        clear k1 k2
        have hY : Ms (fun _ => True) wf [] [] wf := Ms.of_mx (Mx.of_bx (Bx.start wf)) (fun _ => trivial)
        go_wp2_with fail
        refine wp_region_T (Bx wf []) 19 (by kernel_rfl) (by rfl) ((hY.keep (List.nil_sublist _)).drew) (fun wq45 hbq => ?_)
        have hB301 := hY.next hbq
        clear hY hbq
        refine wpAnyT_go (Bx.grows _ _) (hB301.keep (List.nil_sublist _)) [0, 1, 2, 3, 4, 5, 6, 7, 8, 9, 10, 12, 13, 14] 5 (by kernel_rfl) ?_
        apply Exists.intro
        refine ⟨fun G hG hN => ?_, ?_⟩
        · have c_a := fun (e : GE (Bx wf []) G) j => cell_of_row e.w _ j _ _ _ (HCAf.out e.w (GE.h e).below)
          have z_a := fun (e : GE (Bx wf []) G) => lt_some (HCAf.out e.w (GE.h e).below)
          have c_c := fun (e : GE (Bx wf []) G) j => cell_of_row e.w _ j _ _ _ (HCC.out e.w (GE.h e).below)
          have z_c := fun (e : GE (Bx wf []) G) => lt_some (HCC.out e.w (GE.h e).below)
          simp only [pickOps, List.getElem?_toArray, List.getElem?_cons_zero, List.getElem?_cons_succ]
          repeat (first | go_big_quiet_step (fail) | quiet_step (fail))
          exact wpQuiet_nil rfl
        refine wpAnyT_all (rs := [11]) (by kernel_rfl) (by simp) (fun wa46 hwa46 hRwa46 i hi => ?_)
        have hB302 := hB301.next hwa46
        clear hB301 hwa46 hRwa46
        obtain rfl := List.mem_singleton.1 hi
        refine wpOp_step rfl (fun Kc hKc => ?_)
        go_simp
        refine Calls.mono (HOT.out _ hB302.below) ?_
        rintro e wv47 ⟨A6, c6, rfl, hown, hlg, hb⟩
        have hB303 := hB302.call hb (of_fresh hown hlg)
        clear hown hlg hb
        refine hKc _ _ ⟨(hB303.keep (List.nil_sublist _)), ?_⟩
        clear hKc Kc hB302
        refine wpAnyT_all (rs := [15]) (by kernel_rfl) (by simp) (fun wa48 hwa48 hRwa48 i hi => ?_)
        have hB304 := hB303.next hwa48
        clear hB303 hwa48 hRwa48
        obtain rfl := List.mem_singleton.1 hi
        refine wpOp_step rfl (fun Kc hKc => ?_)
        go_simp
        refine Calls.mono (HOC.out _ hB304.below) ?_
        rintro e wv49 ⟨A7, c7, rfl, hown, hlg, hb⟩
        have hB305 := hB304.call hb (of_fresh hown hlg)
        clear hown hlg hb
        refine hKc _ _ ⟨(hB305.keep (List.nil_sublist _)), ?_⟩
        clear hKc Kc hB304
        refine wpAnyT_all (rs := [16]) (by kernel_rfl) (by simp) (fun wa50 hwa50 hRwa50 i hi => ?_)
        have hB306 := hB305.next hwa50
        clear hB305 hwa50 hRwa50
        obtain rfl := List.mem_singleton.1 hi
        refine wpOp_step rfl (fun Kc hKc => ?_)
        go_simp
        refine Calls.mono (same_true lc A6 c6 A7 c7 _ (hB306.here.1.2) (hB306.here.2)) ?_
        rintro e wv51 ⟨rfl, hb⟩
        have hB307 := hB306.next hb
        clear hb
        refine hKc _ _ ⟨(hB307.keep (List.nil_sublist _)), ?_⟩
        clear hKc Kc hB306
        refine wpAnyT_go (Bx.grows _ _) (hB307.keep (List.nil_sublist _)) [17, 18] 0 (by kernel_rfl) ?_
        apply Exists.intro
        refine ⟨fun G hG hN => ?_, ?_⟩
        · have c_a := fun (e : GE (Bx wf []) G) j => cell_of_row e.w _ j _ _ _ (HCAf.out e.w (GE.h e).below)
          have z_a := fun (e : GE (Bx wf []) G) => lt_some (HCAf.out e.w (GE.h e).below)
          have c_c := fun (e : GE (Bx wf []) G) j => cell_of_row e.w _ j _ _ _ (HCC.out e.w (GE.h e).below)
          have z_c := fun (e : GE (Bx wf []) G) => lt_some (HCC.out e.w (GE.h e).below)
          simp only [pickOps, List.getElem?_toArray, List.getElem?_cons_zero, List.getElem?_cons_succ]
          repeat (first | go_big_quiet_step (fail) | quiet_step (fail))
          exact wpQuiet_nil rfl
        refine wpAnyT_done (by kernel_rfl) (fun wd52 hwd52 hRwd52 => ?_) _
        refine NoPanic.normal ?_
        have hB308 := hB307.next hwd52
        clear hB307 hwd52 hRwd52
        have HE := Lib.hid (HBf.out _ hB308.below)
        clear hB308
        go_wp2_with fail
        go_ret
        exact ⟨rfl, HE.out⟩
end Go.Proofs.Ytgcbmnohhbcfiab
