/- AgentUnused returns true. -/
import Derived.Test.YtgcbmnohhbcfiabAgLA
namespace Go.Proofs.Ytgcbmnohhbcfiab
open Go.RowKit Go.Deep
set_option linter.unusedVariables false
set_option linter.unusedSimpArgs false

/-- An actor with another cake that it doesn't come to, and one that is told from the start. -/
def oth (a : Ac) (c : Ck) (f : Int) : Ac := if a.after = -1 ∨ f < a.after then { a with told := c } else a
def tld (a : Ac) : Ac := if a.after = 0 then ⟨a.told, a.own, -1, 0⟩ else a
def othL (acs : List Ac) (ks : List Ck) (fin : List Ac) : List Ac := (List.range acs.length).map (fun i => oth (acAt acs (i : Nat)) (ckAt ks (i : Nat)) (acAt fin (i : Nat)).asked)
def tldL (acs : List Ac) : List Ac := acs.map tld
theorem othL_len (acs : List Ac) (ks : List Ck) (fin : List Ac) : (othL acs ks fin).length = acs.length := by simp [othL]
theorem tldL_len (acs : List Ac) : (tldL acs).length = acs.length := by simp [tldL]
theorem othL_at {acs : List Ac} {ks : List Ck} {fin : List Ac} {i : Nat} {a b : Ac} {K : Ck} (ha : acs[i]? = some a) (hk : ks[i]? = some K) (hf : fin[i]? = some b) : (othL acs ks fin)[i]? = some (oth a K b.asked) := by
  unfold othL
  rw [List.getElem?_map, List.getElem?_range (set_lt ha)]
  simp only [Option.map_some]
  rw [acAt_of ha, ckAt_of hk, acAt_of hf]
theorem tldL_at {acs : List Ac} {i : Nat} {a : Ac} (ha : acs[i]? = some a) : (tldL acs)[i]? = some (tld a) := by unfold tldL; rw [List.getElem?_map, ha]; rfl
theorem alike_oth {a : Ac} {c : Ck} {f : Int} (h : 0 ≤ a.asked) : Alike a (oth a c f) f := by
  unfold oth
  by_cases q : a.after = -1 ∨ f < a.after
  · rw [if_pos q]
    exact ⟨Or.inl rfl, Or.inl rfl, rfl, q.elim (fun e => Or.inr (Or.inl e)) (fun e => Or.inr (Or.inr (Or.inr e))), h⟩
  · rw [if_neg q]
    exact ⟨Or.inl rfl, Or.inl rfl, rfl, Or.inl rfl, h⟩
theorem alike_tld {a : Ac} {f : Int} (h : a.asked = 0) : Alike a (tld a) f := by
  unfold tld
  by_cases q : a.after = 0
  · rw [if_pos q]
    exact ⟨Or.inr q, Or.inr ⟨q, rfl, rfl⟩, h.symm, Or.inr (Or.inr (Or.inl ⟨q, rfl⟩)), by omega⟩
  · rw [if_neg q]
    exact ⟨Or.inl rfl, Or.inl rfl, rfl, Or.inl rfl, by omega⟩
/-- Boxes that were made since, onto rows of a world before. -/
theorem Mx.onto {w w1 W : World} {L : List (Nat × Obj)} {R : List Rw} (h : Mx w [] R w1) (k : Mx w1 L [] W) : Mx w L R W := by
  have a := h.next k.below
  refine ⟨⟨a.below, fun r hr => Nat.le_trans h.below.size (k.bx.own r hr), k.bx.nd, k.bx.at_⟩, a.own, fun r hr g hg hm => ?_, a.nd⟩
  obtain ⟨p, hp, e⟩ := List.mem_map.1 hm
  have h1 := (own_ge' (h.own r hr) g hg).2
  have h2 := k.bx.own p hp
  omega
theorem Mx.sub0 {w W : World} {L : List (Nat × Obj)} {R : List Rw} (h : Mx w L R W) : Mx w [] R W := ⟨h.keep (List.nil_sublist _), h.own, fun r hr g hg hm => by simp at hm, h.nd⟩
structure Unused (acs : List Ac) (ks : List Ck) (qs : List Qy) (a : Mt) (n : Nat) (e : Int) : Prop where
  len : a.acs.length = acs.length
  oth : meetC (othL acs ks a.acs) [] = 0 → ((Mt.mk (othL acs ks a.acs) []).rM qs).log = a.log ∧ (Mt.mk (othL acs ks a.acs) []).rN qs = n ∧ (Mt.mk (othL acs ks a.acs) []).rC qs = e
  code : meetC (tldL acs) [] = 0
  tld : ((Mt.mk (tldL acs) []).rM qs).log = a.log ∧ (Mt.mk (tldL acs) []).rN qs = n ∧ (Mt.mk (tldL acs) []).rC qs = e
theorem unused_of {acs : List Ac} {ks : List Ck} {qs : List Qy} (h1 : meetC acs [] = 0) (hk : ks.length = acs.length) (hq : qs.length ≤ 30) : Unused acs ks qs ((Mt.mk acs []).rM qs) ((Mt.mk acs []).rN qs) ((Mt.mk acs []).rC qs) := by
  have hok : MeetOk acs [] := meetC_zero.1 h1
  have hc : (Mt.mk acs []).code = 0 := h1
  obtain ⟨a1, a2, a3⟩ := Mt.r_run (l := qs) hc (by omega)
  rw [a1, a2, a3]
  have hz : ∀ (i : Nat) (a : Ac), acs[i]? = some a → a.asked = 0 := fun i a hi => by have := (hok.fit i a hi).asked; simpa [ofL] using this
  have ht : meetC (tldL acs) [] = 0 := by
    refine meetC_zero.2 ⟨by rw [tldL_len]; exact hok.m, by simp, by rw [tldL_len]; exact hok.pos, fun i b hi => ?_, fun i b hi => ?_⟩
    · obtain ⟨a, ha⟩ : ∃ a, acs[i]? = some a := ⟨_, List.getElem?_eq_getElem (by have := set_lt hi; rwa [tldL_len] at this)⟩
      rw [tldL_at ha] at hi
      obtain rfl := Option.some.inj hi
      have := Ac.code_zero.1 (hok.ok i a ha)
      unfold tld
      split
      · exact Ac.code_zero.2 ⟨this.2, this.1⟩
      · exact hok.ok i a ha
    · obtain ⟨a, ha⟩ : ∃ a, acs[i]? = some a := ⟨_, List.getElem?_eq_getElem (by have := set_lt hi; rwa [tldL_len] at this)⟩
      obtain ⟨a0, ha0⟩ : ∃ a, acs[0]? = some a := ⟨_, List.getElem?_eq_getElem hok.pos⟩
      have hn : ln0 (tldL acs) = ln0 acs := by
        rw [ln0_at (tldL_at ha0), ln0_at ha0]
        have f := hok.fit 0 a0 ha0
        rw [ln0_at ha0] at f
        unfold tld
        split
        · exact f.told
        · rfl
      rw [tldL_at ha] at hi
      obtain rfl := Option.some.inj hi
      have f := hok.fit i a ha
      rw [hn]
      unfold tld
      split
      · exact ⟨f.told, f.own, by show (-1 : Int) ≤ -1; omega, by show (-1 : Int) ≤ 2000; omega, by simp [ofL]⟩
      · exact f
  have hlen := (Mt.run_len qs ⟨acs, []⟩).2
  refine ⟨hlen, fun ho => ?_, ht, ?_⟩
  · obtain ⟨b1, b2, b3⟩ := Mt.r_run (m := Mt.mk (othL acs ks ((Mt.mk acs []).run qs).acs) []) (l := qs) ho (by omega)
    rw [b1, b2, b3]
    refine alike_law qs ⟨acs, []⟩ _ rfl (by rw [othL_len]) (by simp; omega) (fun i a b ha hb => ?_)
    have hi : i < acs.length := set_lt ha
    obtain ⟨K, hK⟩ : ∃ K, ks[i]? = some K := ⟨_, List.getElem?_eq_getElem (by omega)⟩
    obtain ⟨y, hy⟩ : ∃ y, ((Mt.mk acs []).run qs).acs[i]? = some y := ⟨_, List.getElem?_eq_getElem (by rw [hlen]; exact hi)⟩
    rw [othL_at ha hK hy] at hb
    obtain rfl := Option.some.inj hb
    rw [acAt_of hy]
    exact alike_oth (by rw [hz i a ha]; exact Int.le_refl _)
  · obtain ⟨b1, b2, b3⟩ := Mt.r_run (m := Mt.mk (tldL acs) []) (l := qs) ht (by omega)
    rw [b1, b2, b3]
    refine alike_law qs ⟨acs, []⟩ _ rfl (by rw [tldL_len]) (by simp; omega) (fun i a b ha hb => ?_)
    rw [tldL_at ha] at hb
    obtain rfl := Option.some.inj hb
    exact alike_tld (hz i a ha)
theorem oth_yes {a : Ac} {c : Ck} {f : Int} (h : a.after = -1 ∨ f < a.after) : oth a c f = ⟨a.own, c, a.after, a.asked⟩ := if_pos h
theorem oth_no {a : Ac} {c : Ck} {f : Int} (h : ¬ (a.after = -1 ∨ f < a.after)) : oth a c f = ⟨a.own, a.told, a.after, a.asked⟩ := if_neg h
theorem tld_yes {a : Ac} (h : a.after = 0) : tld a = ⟨a.told, a.own, -1, 0⟩ := if_pos h
theorem tld_no {a : Ac} (h : ¬ a.after = 0) : tld a = ⟨a.own, a.told, a.after, a.asked⟩ := if_neg h
theorem ac_el {w : World} {K T : Ck} {x y : Int} {A : Option Addr} {c : Nat} {R : Option Addr} {d : Nat} {A' : Option Addr} {c' : Nat} {R' : Option Addr} {d' : Nat} (h : CIn w.heap.size w A c R d K) (k : CIn w.heap.size w A' c' R' d' T) (hw : (⟨K, T, x, y⟩ : Ac).wf) : kAc.El w ⟨K, T, x, y⟩ [.int .i64 K.len, .slice A K.cuts.length c, .slice R K.dens.length d, .int .i64 T.len, .slice A' T.cuts.length c', .slice R' T.dens.length d', .int .i64 x, .int .i64 y] := ⟨A, c, R, d, A', c', R', d', rfl, h, k, hw⟩
set_option maxRecDepth 100000 in
set_option maxHeartbeats 64000000 in
theorem agentunused_walk (acs : List Ac) (S : Option Addr) (s : Nat) (ks : List Ck) (T : Option Addr) (t : Nat) (qs : List Qy) (C : Option Addr) (c_ : Nat) (w : World) (h : AsIn w.heap.size w S s acs) (k : CsIn w.heap.size w T t ks) (hq : LgIn w.heap.size w C c_ qs) :
    Calls Try.prog 4 #[.slice S acs.length s, .slice T ks.length t, .slice C qs.length c_] w fun e w' => e = .returned (.bool true) ∧ Below w.heap.size w w' := by
  obtain ⟨i0, hi0, hz0, hz1, hz2⟩ := info_parts infoAc
  have hm1 := Nat.le_trans h.len h.cap
  have hm2 := Nat.le_trans k.len k.cap
  have hm3 := Nat.le_trans hq.len hq.cap
  unfold maxLen at hm1 hm2 hm3
  have HG1 := Lib.hid (fun (W : World) (hW : Below w.heap.size w W) => fgreata_any acs S s W (h.next hW))
  have HG2 := Lib.hid (fun (W : World) (hW : Below w.heap.size w W) => fgreatc_any ks T t W (k.next hW))
  have HA := Lib.hid (fun (W : World) (hW : Below w.heap.size w W) => h.next hW)
  have HB := Lib.hid (fun (W : World) (hW : Below w.heap.size w W) => k.next hW)
  have HQ := Lib.hid (fun (W : World) (hW : Below w.heap.size w W) => hq.next hW)
  clear h k hq
  obtain ⟨g1, hg1⟩ : ∃ x, x = greatA acs := ⟨_, rfl⟩
  obtain ⟨g2, hg2⟩ : ∃ x, x = greatK ks := ⟨_, rfl⟩
  rw [← hg1] at HG1
  rw [← hg2] at HG2
  have HG1E := Lib.hid hg1
  clear hg1 hg2
  go_enter Try.func4, Try.ntmps4
  try dsimp only [List.append]
  go_wp2_with fail
  refine (agalive_any _).mono ?_
  rintro e w1 ⟨rfl, hb⟩
  have HB1 := Lib.hid hb
  clear hb
  go_wp2_with fail
  refine (HG1.out _ HB1.out).mono ?_
  rintro e w2 ⟨rfl, hb⟩
  have HB2 := Lib.hid (bcall HB1.out HB1.out.size hb)
  clear hb HG1 HB1
  cases g1 with
  | true =>
    clear HG2 HA HB HQ
    go_wp2_with fail
    go_ret
    exact ⟨rfl, HB2.out⟩
  | false =>
    go_wp2_with fail
    refine (HG2.out _ HB2.out).mono ?_
    rintro e w3 ⟨rfl, hb⟩
    have HB3 := Lib.hid (bcall HB2.out HB2.out.size hb)
    clear hb HG2 HB2
    cases g2 with
    | true =>
      clear HA HB HQ
      go_wp2_with fail
      go_ret
      exact ⟨rfl, HB3.out⟩
    | false =>
      have HL1 := Lib.hid (great_small HG1E.out.symm)
      clear HG1E
      by_cases q1 : 30 < qs.length
      · have b1 : decide ((30 : Int) < (qs.length : Int)) = true := decide_eq_true (by omega)
        clear HA HB HQ q1
        go_wp2_with fail
        go_ret
        exact ⟨rfl, HB3.out⟩
      have b1 : decide ((30 : Int) < (qs.length : Int)) = false := decide_eq_false (by omega)
      by_cases q2 : acs.length = ks.length
      rotate_left
      · have b2 : ((acs.length : Int) != (ks.length : Int)) = true := by simp; omega
        clear HA HB HQ q1 q2
        go_wp2_with fail
        go_ret
        exact ⟨rfl, HB3.out⟩
      have b2 : ((acs.length : Int) != (ks.length : Int)) = false := by simp; omega
      have HQL := Lib.hid (show qs.length ≤ 30 by omega)
      have HKL := Lib.hid q2
      clear q1 q2
      obtain ⟨m, hm⟩ : ∃ x, x = openM acs := ⟨_, rfl⟩
      obtain ⟨c1, hc1⟩ : ∃ x, x = meetC acs [] := ⟨_, rfl⟩
      have HO1 := Lib.hid (fun (W : World) (hW : Below w.heap.size w W) => open_fr acs S s W (HA.out W hW) m c1 hm.symm hc1.symm)
      have HME := Lib.hid hm
      have HC1 := Lib.hid hc1
      clear hm hc1
      go_wp2_with fail
      refine (HO1.out _ HB3.out).mono ?_
      rintro e w4 ⟨P1, p1, S1, s1, rfl, hF1, hb⟩
      have HF1 := Lib.hid (fun (V : World) (hV : Below w4.heap.size w4 V) => hF1.ext hV)
      have HB4 := Lib.hid (bcall HB3.out HB3.out.size hb)
      clear hF1 hb HO1 HB3 b1 b2
      have hM4 : Mx w4 [] [] w4 := Mx.of_bx (Bx.start w4)
      go_upto_region 5 with fail
      have hVw5 := one_alloc w4 (.cells #[.slice P1 m.acs.length p1, .slice S1 m.log.length s1] 27)
      have hw5 := hM4.new rfl (.cells #[.slice P1 m.acs.length p1, .slice S1 m.log.length s1] 27)
      obtain ⟨gM, hggM⟩ : ∃ x, x = w4.heap.size := ⟨_, rfl⟩
      obtain ⟨w5, hww5⟩ : ∃ x, x = w4.alloc (.cells #[.slice P1 m.acs.length p1, .slice S1 m.log.length s1] 27) := ⟨_, rfl⟩
      rw [← hww5] at hVw5
      rw [← hggM, ← hww5] at hw5
      rw [← hggM, ← hww5]
      clear hggM hww5
      have HF15 := Lib.hid (fun (V : World) (hV : Below w5.heap.size w5 V) => HF1.out V (bcall hVw5 hVw5.size hV))
      clear hVw5 hM4 HF1
      have HB5 := Lib.hid (fun (V : World) (hV : Below w5.heap.size w5 V) => bcall HB4.out HB4.out.size (bcall hw5.below hw5.below.size hV))
      by_cases z1 : c1 = 0
      rotate_left
      · have b1 : (c1 != 0) = true := by simpa using z1
        have HE := Lib.hid (HB5.out _ (Below.refl _ _))
        clear z1 hw5 HF15
        go_wp2_with fail
        go_ret
        exact ⟨rfl, HE.out⟩
      have b1 : (c1 != 0) = false := by simpa using z1
      have HMM := Lib.hid (show m = ⟨acs, []⟩ by rw [HME.out]; exact if_pos (by rw [← HC1.out]; exact z1))
      have HZ1 := Lib.hid (show meetC acs [] = 0 by rw [← HC1.out]; exact z1)
      clear z1
      obtain ⟨ra, hra⟩ : ∃ x, x = m.rM qs := ⟨_, rfl⟩
      obtain ⟨na, hna⟩ : ∃ x, x = m.rN qs := ⟨_, rfl⟩
      obtain ⟨ea, hea⟩ : ∃ x, x = m.rC qs := ⟨_, rfl⟩
      have HUN := Lib.hid (show Unused acs ks qs ra na ea by rw [hra, hna, hea, HMM.out]; exact unused_of HZ1.out HKL.out.symm HQL.out)
      have HR1 := Lib.hid (fun (V : World) (hV : MtIn P1 p1 S1 s1 m V) (hQ : LgIn V.heap.size V C c_ qs) => run_fr m P1 p1 S1 s1 qs C c_ V hV hQ ra na ea hra.symm hna.symm hea.symm)
      clear hra hna hea
      have c_m := fun j => cell_of_row _ _ j _ _ _ (hw5.get 0 rfl)
      have z_m := hw5.lt 0 rfl
      go_wp2_with fail
      refine (HR1.out _ (HF15.out _ (Below.refl _ _)) (HQ.out _ (HB5.out _ (Below.refl _ _)))).mono ?_
      rintro e w9 ⟨P3, p3, S3, s3, rfl, hF3, hb⟩
      have hM9 : Mx w9 [] [] w9 := Mx.of_bx (Bx.start w9)
      have HB9 := Lib.hid (fun (V : World) (hV : Below w9.heap.size w9 V) => HB5.out V (bcall hb hb.size hV))
      have HF3 := Lib.hid (fun (V : World) (hV : Below w9.heap.size w9 V) => hF3.ext hV)
      clear hF3 hb hw5 c_m z_m HR1 HF15 b1 HB5
      go_upto_region 8 with fail
      have hVwa := one_alloc w9 (.cells #[.slice P3 ra.acs.length p3, .slice S3 ra.log.length s3] 27)
      have hwa := hM9.new rfl (.cells #[.slice P3 ra.acs.length p3, .slice S3 ra.log.length s3] 27)
      obtain ⟨gA, hggA⟩ : ∃ x, x = w9.heap.size := ⟨_, rfl⟩
      obtain ⟨wa, hwwa⟩ : ∃ x, x = w9.alloc (.cells #[.slice P3 ra.acs.length p3, .slice S3 ra.log.length s3] 27) := ⟨_, rfl⟩
      rw [← hwwa] at hVwa
      rw [← hggA, ← hwwa] at hwa
      rw [← hggA, ← hwwa]
      clear hggA hwwa
      have HF3a := Lib.hid (fun (V : World) (hV : Below wa.heap.size wa V) => HF3.out V (bcall hVwa hVwa.size hV))
      have HBa := Lib.hid (fun (V : World) (hV : Below wa.heap.size wa V) => HB9.out V (bcall hVwa hVwa.size hV))
      clear hVwa hM9 HF3 HB9
      have HCA := Lib.hid (fun (V : World) (hV : Below wa.heap.size wa V) => heap_ext (hwa.get 0 rfl) hV)
      clear hwa
      have h_a := HCA.out _ (Below.refl _ _)
      have c_a := fun j => cell_of_row _ _ j _ _ _ h_a
      have z_a := lt_some h_a
      have b3 : ((ra.acs.length : Int) != (acs.length : Int)) = false := by have := HUN.out.len; simp; omega
      have b3n : (ra.acs.length != acs.length) = false := by have := HUN.out.len; simp; omega
      clear h_a
      go_upto_region 11 with fail
      clear c_a z_a b3 b3n
      go_wp2_with fail
      go_loopw [13, 14, 15] (fun s13 s14 s15 wr => ∃ (k : Nat) (v1 v2 : Value) (xs1 xs2 : List Value), k ≤ acs.length ∧ v1 = s13 ∧ v2 = s14 ∧ s15 = .int .i64 k ∧ Mx wa [] [⟨v1, 43, 8, ((othL acs ks ra.acs).take k).length, xs1⟩, ⟨v2, 43, 8, ((tldL acs).take k).length, xs2⟩] wr ∧ Lay kAc w ((othL acs ks ra.acs).take k) xs1 ∧ Lay kAc w ((tldL acs).take k) xs2) (fun _ _ s15 _ => acs.length - (intOf s15).toNat)
      case atStart => exact ⟨0, _, _, [], [], Nat.zero_le _, rfl, rfl, rfl, ((Mx.of_bx (Bx.start wa)).nil 43 8).nil 43 8, Lay.nil _ _, Lay.nil _ _⟩
      case round =>
        obtain ⟨k, v1, v2, xs1, xs2, hk, rfl, rfl, rfl, hMr, hE1, hE2⟩ := hrel
        by_cases hlt : k < acs.length
        rotate_left
        · obtain rfl : k = acs.length := by omega
          have hl1 : (othL acs ks ra.acs).take acs.length = othL acs ks ra.acs := List.take_of_length_le (by rw [othL_len]; omega)
          have hl2 : (tldL acs).take acs.length = tldL acs := List.take_of_length_le (by rw [tldL_len]; omega)
          rw [hl1, hl2] at hMr
          rw [hl1] at hE1
          rw [hl2] at hE2
          have hbw := HBa.out _ hMr.below
          obtain ⟨A1, a1, rfl, hA1⟩ := hE1.in_ hbw (hMr.row 0 rfl)
          obtain ⟨A2, a2, rfl, hA2⟩ := hE2.in_ hbw (hMr.row 1 rfl)
          obtain ⟨lo, hlo⟩ : ∃ x, x = othL acs ks ra.acs := ⟨_, rfl⟩
          obtain ⟨lt_, hlt_⟩ : ∃ x, x = tldL acs := ⟨_, rfl⟩
          rw [← hlo] at hA1
          rw [← hlt_] at hA2
          have HW := Lib.hid hMr.below
          simp only [← hlo, ← hlt_]
          have HLO := Lib.hid hlo
          have HLT := Lib.hid hlt_
          obtain ⟨wb, hwb⟩ : ∃ x : World, x = wr := ⟨_, rfl⟩
          subst hwb
          have HA1 := Lib.hid (fun (V : World) (hV : Below wb.heap.size wb V) => hA1.next hV)
          have HA2 := Lib.hid (fun (V : World) (hV : Below wb.heap.size wb V) => hA2.next hV)
          have HBb := Lib.hid (fun (V : World) (hV : Below wb.heap.size wb V) => HBa.out V (bcall HW.out HW.out.size hV))
          have HCAb := Lib.hid (fun (V : World) (hV : Below wb.heap.size wb V) => HCA.out V (bcall HW.out HW.out.size hV))
          have HF3b := Lib.hid (fun (V : World) (hV : Below wb.heap.size wb V) => HF3a.out V (bcall HW.out HW.out.size hV))
          clear hMr hE1 hE2 hbw hA1 hA2 hl1 hl2 hlo hlt_ hlt hk HBa HCA HF3a HW
          obtain ⟨mo, hmo⟩ : ∃ x, x = openM lo := ⟨_, rfl⟩
          obtain ⟨co, hco⟩ : ∃ x, x = meetC lo [] := ⟨_, rfl⟩
          obtain ⟨mt, hmt⟩ : ∃ x, x = openM lt_ := ⟨_, rfl⟩
          have HO2 := Lib.hid (fun (V : World) (hV : Below wb.heap.size wb V) => open_fr lo A1 a1 V (HA1.out V hV) mo co hmo.symm hco.symm)
          have HO3 := Lib.hid (fun (V : World) (hV : Below wb.heap.size wb V) => open_fr lt_ A2 a2 V (HA2.out V hV) mt 0 hmt.symm (by rw [HLT.out]; exact HUN.out.code))
          have HMO := Lib.hid hmo
          have HCO := Lib.hid hco
          have HMT := Lib.hid (show mt = ⟨tldL acs, []⟩ by rw [hmt, HLT.out]; exact if_pos HUN.out.code)
          clear hmo hco hmt
          go_wp2_with fail
          refine (HO2.out _ (Below.refl _ _)).mono ?_
          rintro e wc ⟨P5, p5, S5, s5, rfl, hF5, hb⟩
          have HVc := Lib.hid hb
          have HF5 := Lib.hid (fun (V : World) (hV : Below wc.heap.size wc V) => hF5.ext hV)
          have hMc : Mx wc [] [] wc := Mx.of_bx (Bx.start wc)
          clear hF5 hb HO2
          go_upto_region 21 with fail
          have hVwd := one_alloc wc (.cells #[.slice P5 mo.acs.length p5, .slice S5 mo.log.length s5] 27)
          have hwd := hMc.new rfl (.cells #[.slice P5 mo.acs.length p5, .slice S5 mo.log.length s5] 27)
          obtain ⟨gO, hggO⟩ : ∃ x, x = wc.heap.size := ⟨_, rfl⟩
          obtain ⟨wd, hwwd⟩ : ∃ x, x = wc.alloc (.cells #[.slice P5 mo.acs.length p5, .slice S5 mo.log.length s5] 27) := ⟨_, rfl⟩
          rw [← hwwd] at hVwd
          rw [← hggO, ← hwwd] at hwd
          rw [← hggO, ← hwwd]
          clear hggO hwwd
          have HF5d := Lib.hid (fun (V : World) (hV : Below wd.heap.size wd V) => HF5.out V (bcall hVwd hVwd.size hV))
          clear hVwd hMc HF5
          have HVd := Lib.hid (bcall HVc.out HVc.out.size hwd.below)
          have HCO_ := Lib.hid (fun (V : World) (hV : Below wd.heap.size wd V) => heap_ext (hwd.get 0 rfl) hV)
          clear hwd HVc
          go_wp2_with fail
          refine (HO3.out _ HVd.out).mono ?_
          rintro e we ⟨P6, p6, S6, s6, rfl, hF6, hb⟩
          have HF6 := Lib.hid (fun (V : World) (hV : Below we.heap.size we V) => hF6.ext hV)
          have hMe : Mx we [] [] we := Mx.of_bx (Bx.start we)
          have HVe := Lib.hid (bcall HVd.out HVd.out.size hb)
          have HF5e := Lib.hid (fun (V : World) (hV : Below we.heap.size we V) => HF5d.out V (bcall hb hb.size hV))
          have HCOe := Lib.hid (fun (V : World) (hV : Below we.heap.size we V) => HCO_.out V (bcall hb hb.size hV))
          clear hF6 hb HO3 HF5d HCO_ HVd
          go_upto_region 22 with fail
          have hVwf := one_alloc we (.cells #[.slice P6 mt.acs.length p6, .slice S6 mt.log.length s6] 27)
          have hwf := hMe.new rfl (.cells #[.slice P6 mt.acs.length p6, .slice S6 mt.log.length s6] 27)
          obtain ⟨gT, hggT⟩ : ∃ x, x = we.heap.size := ⟨_, rfl⟩
          obtain ⟨wf, hwwf⟩ : ∃ x, x = we.alloc (.cells #[.slice P6 mt.acs.length p6, .slice S6 mt.log.length s6] 27) := ⟨_, rfl⟩
          rw [← hwwf] at hVwf
          rw [← hggT, ← hwwf] at hwf
          rw [← hggT, ← hwwf]
          clear hggT hwwf
          have HF6f := Lib.hid (fun (V : World) (hV : Below wf.heap.size wf V) => HF6.out V (bcall hVwf hVwf.size hV))
          have HF5f := Lib.hid (fun (V : World) (hV : Below wf.heap.size wf V) => HF5e.out V (bcall hVwf hVwf.size hV))
          have HCOf := Lib.hid (fun (V : World) (hV : Below wf.heap.size wf V) => HCOe.out V (bcall hVwf hVwf.size hV))
          clear hVwf hMe HF6 HF5e HCOe
          have HVf := Lib.hid (bcall HVe.out HVe.out.size hwf.below)
          have HCT := Lib.hid (fun (V : World) (hV : Below wf.heap.size wf V) => heap_ext (hwf.get 0 rfl) hV)
          have HBf := Lib.hid (fun (V : World) (hV : Below wf.heap.size wf V) => HBb.out V (bcall HVf.out HVf.out.size hV))
          have HCAf := Lib.hid (fun (V : World) (hV : Below wf.heap.size wf V) => HCAb.out V (bcall HVf.out HVf.out.size hV))
          have HF3f := Lib.hid (fun (V : World) (hV : Below wf.heap.size wf V) => HF3b.out V (bcall HVf.out HVf.out.size hV))
          clear hwf HVe HVf HBb HCAb HF3b HA1 HA2
          obtain ⟨rt, hrt⟩ : ∃ x, x = mt.rM qs := ⟨_, rfl⟩
          have HRT := Lib.hid (show rt.log = ra.log by rw [hrt, HMT.out]; exact HUN.out.tld.1)
          have HR3 := Lib.hid (fun (V : World) (hV : MtIn P6 p6 S6 s6 mt V) (hQ : LgIn V.heap.size V C c_ qs) => run_fr mt P6 p6 S6 s6 qs C c_ V hV hQ rt na ea hrt.symm (by rw [HMT.out]; exact HUN.out.tld.2.1) (by rw [HMT.out]; exact HUN.out.tld.2.2))
          have HSMT := Lib.hid (fun (V : World) (A B : Option Addr) (x y : Nat) (h1 : LgIn V.heap.size V A x rt.log) (h2 : LgIn V.heap.size V B y ra.log) => show Calls Try.prog 13 #[.slice A rt.log.length x, .slice B ra.log.length y] V fun e w' => e = .returned (.bool true) ∧ Below V.heap.size V w' by
            rw [HRT.out] at h1 ⊢; exact same_true ra.log A x B y V h1 h2)
          clear hrt
          by_cases zo : co = 0
          · have b4 : (co == 0) = true := by simpa using zo
            have HMO2 := Lib.hid (show mo = ⟨othL acs ks ra.acs, []⟩ by rw [HMO.out, HLO.out]; exact if_pos (by rw [← HLO.out, ← HCO.out]; exact zo))
            have HOT := Lib.hid (HUN.out.oth (by rw [← HLO.out, ← HCO.out]; exact zo))
            clear zo
            obtain ⟨ro, hro⟩ : ∃ x, x = mo.rM qs := ⟨_, rfl⟩
            have HRO := Lib.hid (show ro.log = ra.log by rw [hro, HMO2.out]; exact HOT.out.1)
            have HR2 := Lib.hid (fun (V : World) (hV : MtIn P5 p5 S5 s5 mo V) (hQ : LgIn V.heap.size V C c_ qs) => run_fr mo P5 p5 S5 s5 qs C c_ V hV hQ ro na ea hro.symm (by rw [HMO2.out]; exact HOT.out.2.1) (by rw [HMO2.out]; exact HOT.out.2.2))
            have HSMO := Lib.hid (fun (V : World) (A B : Option Addr) (x y : Nat) (h1 : LgIn V.heap.size V A x ro.log) (h2 : LgIn V.heap.size V B y ra.log) => show Calls Try.prog 13 #[.slice A ro.log.length x, .slice B ra.log.length y] V fun e w' => e = .returned (.bool true) ∧ Below V.heap.size V w' by
              rw [HRO.out] at h1 ⊢; exact same_true ra.log A x B y V h1 h2)
            have h_o := HCOf.out _ (Below.refl _ _)
            have c_o := fun j => cell_of_row _ _ j _ _ _ h_o
            have z_o := lt_some h_o
            clear hro h_o
            go_wp2_with fail
            refine (HR2.out _ (HF5f.out _ (Below.refl _ _)) (HQ.out _ (HBf.out _ (Below.refl _ _)))).mono ?_
            rintro e wg ⟨P7, p7, S7, s7, rfl, hF7, hb⟩
            have HWg := Lib.hid hb
            have HF7 := Lib.hid (fun (V : World) (hV : Below wg.heap.size wg V) => hF7.ext hV)
            have hMg : Mx wg [] [] wg := Mx.of_bx (Bx.start wg)
            clear hF7 hb c_o z_o HR2 b4
            go_upto_region 24 with fail
            have hVwh := one_alloc wg (.cells #[.slice P7 ro.acs.length p7, .slice S7 ro.log.length s7] 27)
            have hwh := hMg.new rfl (.cells #[.slice P7 ro.acs.length p7, .slice S7 ro.log.length s7] 27)
            obtain ⟨gR, hggR⟩ : ∃ x, x = wg.heap.size := ⟨_, rfl⟩
            obtain ⟨wh, hwwh⟩ : ∃ x, x = wg.alloc (.cells #[.slice P7 ro.acs.length p7, .slice S7 ro.log.length s7] 27) := ⟨_, rfl⟩
            rw [← hwwh] at hVwh
            rw [← hggR, ← hwwh] at hwh
            rw [← hggR, ← hwwh]
            clear hggR hwwh
            have HF7h := Lib.hid (fun (V : World) (hV : Below wh.heap.size wh V) => HF7.out V (bcall hVwh hVwh.size hV))
            clear hVwh hMg HF7
            have HWh := Lib.hid (bcall HWg.out HWg.out.size hwh.below)
            have h_v := hwh.get 0 rfl
            have c_v := fun j => cell_of_row _ _ j _ _ _ h_v
            have z_v := lt_some h_v
            have h_a := HCAf.out _ HWh.out
            have c_a := fun j => cell_of_row _ _ j _ _ _ h_a
            have z_a := lt_some h_a
            clear h_v h_a hwh HWg
            go_wp2_with fail
            refine (HSMO.out _ _ _ _ _ (HF7h.out _ (Below.refl _ _)).2 (HF3f.out _ HWh.out).2).mono ?_
            rintro e wi ⟨rfl, hb⟩
            have HWi := Lib.hid (bcall HWh.out HWh.out.size hb)
            clear hb c_v z_v c_a z_a HWh HSMO HF7h
            have h_t := HCT.out _ HWi.out
            have c_t := fun j => cell_of_row _ _ j _ _ _ h_t
            have z_t := lt_some h_t
            clear h_t
            go_wp2_with fail
            refine (HR3.out _ (HF6f.out _ HWi.out) (HQ.out _ (HBf.out _ HWi.out))).mono ?_
            rintro e wm ⟨P8, p8, S8, s8, rfl, hF8, hb⟩
            have HWm := Lib.hid (bcall HWi.out HWi.out.size hb)
            have HF8 := Lib.hid (fun (V : World) (hV : Below wm.heap.size wm V) => hF8.ext hV)
            have hMm : Mx wm [] [] wm := Mx.of_bx (Bx.start wm)
            clear hF8 hb c_t z_t HR3
            go_upto_region 29 with fail
            have hVwn := one_alloc wm (.cells #[.slice P8 rt.acs.length p8, .slice S8 rt.log.length s8] 27)
            have hwn := hMm.new rfl (.cells #[.slice P8 rt.acs.length p8, .slice S8 rt.log.length s8] 27)
            obtain ⟨gV, hggV⟩ : ∃ x, x = wm.heap.size := ⟨_, rfl⟩
            obtain ⟨wn, hwwn⟩ : ∃ x, x = wm.alloc (.cells #[.slice P8 rt.acs.length p8, .slice S8 rt.log.length s8] 27) := ⟨_, rfl⟩
            rw [← hwwn] at hVwn
            rw [← hggV, ← hwwn] at hwn
            rw [← hggV, ← hwwn]
            clear hggV hwwn
            have HF8n := Lib.hid (fun (V : World) (hV : Below wn.heap.size wn V) => HF8.out V (bcall hVwn hVwn.size hV))
            clear hVwn hMm HF8
            have HWn := Lib.hid (bcall HWm.out HWm.out.size hwn.below)
            have h_v := hwn.get 0 rfl
            have c_v := fun j => cell_of_row _ _ j _ _ _ h_v
            have z_v := lt_some h_v
            have h_a := HCAf.out _ HWn.out
            have c_a := fun j => cell_of_row _ _ j _ _ _ h_a
            have z_a := lt_some h_a
            clear h_v h_a hwn HWm
            go_wp2_with fail
            refine (HSMT.out _ _ _ _ _ (HF8n.out _ (Below.refl _ _)).2 (HF3f.out _ HWn.out).2).mono ?_
            rintro e wq ⟨rfl, hb⟩
            have HE := Lib.hid (HBf.out _ (bcall HWn.out HWn.out.size hb))
            clear hb c_v z_v c_a z_a
            go_wp2_with fail
            go_ret
            exact ⟨rfl, HE.out⟩
          have b4 : (co == 0) = false := by simpa using zo
          have HWf := Lib.hid (Below.refl wf.heap.size wf)
          clear zo
          have h_t := HCT.out _ HWf.out
          have c_t := fun j => cell_of_row _ _ j _ _ _ h_t
          have z_t := lt_some h_t
          clear h_t
          go_wp2_with fail
          refine (HR3.out _ (HF6f.out _ HWf.out) (HQ.out _ (HBf.out _ HWf.out))).mono ?_
          rintro e wm ⟨P8, p8, S8, s8, rfl, hF8, hb⟩
          have HWm := Lib.hid (bcall HWf.out HWf.out.size hb)
          have HF8 := Lib.hid (fun (V : World) (hV : Below wm.heap.size wm V) => hF8.ext hV)
          have hMm : Mx wm [] [] wm := Mx.of_bx (Bx.start wm)
          clear hF8 hb c_t z_t HR3
          go_upto_region 29 with fail
          have hVwn := one_alloc wm (.cells #[.slice P8 rt.acs.length p8, .slice S8 rt.log.length s8] 27)
          have hwn := hMm.new rfl (.cells #[.slice P8 rt.acs.length p8, .slice S8 rt.log.length s8] 27)
          obtain ⟨gV, hggV⟩ : ∃ x, x = wm.heap.size := ⟨_, rfl⟩
          obtain ⟨wn, hwwn⟩ : ∃ x, x = wm.alloc (.cells #[.slice P8 rt.acs.length p8, .slice S8 rt.log.length s8] 27) := ⟨_, rfl⟩
          rw [← hwwn] at hVwn
          rw [← hggV, ← hwwn] at hwn
          rw [← hggV, ← hwwn]
          clear hggV hwwn
          have HF8n := Lib.hid (fun (V : World) (hV : Below wn.heap.size wn V) => HF8.out V (bcall hVwn hVwn.size hV))
          clear hVwn hMm HF8
          have HWn := Lib.hid (bcall HWm.out HWm.out.size hwn.below)
          have h_v := hwn.get 0 rfl
          have c_v := fun j => cell_of_row _ _ j _ _ _ h_v
          have z_v := lt_some h_v
          have h_a := HCAf.out _ HWn.out
          have c_a := fun j => cell_of_row _ _ j _ _ _ h_a
          have z_a := lt_some h_a
          clear h_v h_a hwn HWm
          go_wp2_with fail
          refine (HSMT.out _ _ _ _ _ (HF8n.out _ (Below.refl _ _)).2 (HF3f.out _ HWn.out).2).mono ?_
          rintro e wq ⟨rfl, hb⟩
          have HE := Lib.hid (HBf.out _ (bcall HWn.out HWn.out.size hb))
          clear hb c_v z_v c_a z_a
          go_wp2_with fail
          go_ret
          exact ⟨rfl, HE.out⟩
        obtain ⟨a, ha⟩ : ∃ a, acs[k]? = some a := ⟨_, List.getElem?_eq_getElem hlt⟩
        obtain ⟨K, hK⟩ : ∃ K, ks[k]? = some K := ⟨_, List.getElem?_eq_getElem (by have := HKL.out; omega)⟩
        obtain ⟨y, hy⟩ : ∃ y, ra.acs[k]? = some y := ⟨_, List.getElem?_eq_getElem (by have := HUN.out.len; omega)⟩
        obtain ⟨ad, A, c, R, d, A', c', R', d', rfl, hb0, hC, hC', hwf, hat⟩ := (HA.out _ (Below.refl _ _)).actor ha
        obtain ⟨ae, A9, c9, R9, d9, rfl, hb9, hC9, u0, u1, u2⟩ := (HB.out _ (Below.refl _ _)).cake hK
        obtain ⟨z1, z2, z3, z4⟩ := idx_facts hlt hm1
        have z5 : (k : Int) < (ks.length : Int) := by rw [← HKL.out]; exact z1
        have z6 : (k : Int) < (ra.acs.length : Int) := by rw [HUN.out.len]; exact z1
        have HT1 := Lib.hid (take_next (othL_at ha hK hy))
        have HT2 := Lib.hid (take_next (tldL_at ha))
        have HATW := Lib.hid (fun (V : World) (hV : Below w.heap.size w V) => show AcAt V ad k a A c R d A' c' R' d' ∧ (ad.add (k * 8)).block < V.heap.size from ⟨hat.next hb0 hV, by rw [block_add]; exact Nat.lt_of_lt_of_le hb0 hV.size⟩)
        have HCKW := Lib.hid (fun (V : World) (hV : Below w.heap.size w V) => show V.cell? (ae.add (k * 3)) = some (.int .i64 K.len) ∧ V.cell? ⟨(ae.add (k * 3)).block, (ae.add (k * 3)).off + 1, none⟩ = some (.slice A9 K.cuts.length c9) ∧ V.cell? ⟨(ae.add (k * 3)).block, (ae.add (k * 3)).off + 2, none⟩ = some (.slice R9 K.dens.length d9) ∧ (ae.add (k * 3)).block < V.heap.size from
          ⟨(hV.cell (by rw [block_add]; exact hb9)).trans u0, (hV.cell (p := ⟨(ae.add (k * 3)).block, (ae.add (k * 3)).off + 1, none⟩) (by show (ae.add (k * 3)).block < _; rw [block_add]; exact hb9)).trans u1, (hV.cell (p := ⟨(ae.add (k * 3)).block, (ae.add (k * 3)).off + 2, none⟩) (by show (ae.add (k * 3)).block < _; rw [block_add]; exact hb9)).trans u2, by rw [block_add]; exact Nat.lt_of_lt_of_le hb9 hV.size⟩)
        have HAW := Lib.hid hwf
        have HCC := Lib.hid (And.intro hC (And.intro hC' hC9))
        have HAY := Lib.hid hy
        have HLE := Lib.hid (And.intro (Nat.succ_le_of_lt hlt) (Nat.sub_lt_sub_left hlt (Nat.lt_succ_self k)))
        obtain ⟨n1, hn1⟩ : ∃ x, x = ((othL acs ks ra.acs).take k).length := ⟨_, rfl⟩
        obtain ⟨n2, hn2⟩ : ∃ x, x = ((tldL acs).take k).length := ⟨_, rfl⟩
        rw [← hn1, ← hn2] at hMr
        have HN1 := Lib.hid hn1
        have HN2 := Lib.hid hn2
        have HNL := Lib.hid (show n1 ≤ 10 ∧ n2 ≤ 10 from ⟨by rw [hn1, List.length_take, othL_len]; exact Nat.le_trans (Nat.min_le_right _ _) HL1.out, by rw [hn2, List.length_take, tldL_len]; exact Nat.le_trans (Nat.min_le_right _ _) HL1.out⟩)
        have HE1 := Lib.hid hE1
        have HE2 := Lib.hid hE2
        obtain ⟨B1, b1, rfl, _, _⟩ := own_nil_len (v := v1) (n := n1) (hMr.row 0 rfl)
        obtain ⟨B2, b2, rfl, _, _⟩ := own_nil_len (v := v2) (n := n2) (hMr.row 1 rfl)
        have HMr := Lib.hid hMr
        obtain ⟨wb, hwb⟩ : ∃ x : World, x = wr := ⟨_, rfl⟩
        subst hwb
        have HW0 := Lib.hid hMr.below
        clear hMr hE1 hE2 hn1 hn2 hk hlt ha hK hy hb0 hC hC' hwf hat hb9 hC9 u0 u1 u2
        go_upto_region 14 with fail
        go_cut [16, 17] (fun s16 s17 wx => ∃ g6 g7 : Nat, s16 = .pointer (some ⟨g6, 0, none⟩) ∧ s17 = .pointer (some ⟨g7, 0, none⟩) ∧ Mx wb [(g7, .cells #[.int .i64 a.own.len, .slice A a.own.cuts.length c, .slice R a.own.dens.length d, .int .i64 a.told.len, .slice A' a.told.cuts.length c', .slice R' a.told.dens.length d', .int .i64 a.after, .int .i64 a.asked] 43), (g6, .cells #[.int .i64 a.own.len, .slice A a.own.cuts.length c, .slice R a.own.dens.length d, .int .i64 a.told.len, .slice A' a.told.cuts.length c', .slice R' a.told.dens.length d', .int .i64 a.after, .int .i64 a.asked] 43)] [] wx)
        case first =>
          have hX := Mx.of_bx (Bx.start wb)
          go_wp2_with fail
          refine wp_region_T (Bx wb []) 12 (by kernel_rfl) (by rfl) ((hX.keep (List.nil_sublist _)).drew) (fun wq1 hbq => ?_)
          have hB101 := hX.next hbq
          clear hX hbq
          refine wpAnyT_go (Bx.grows _ _) (hB101.keep (List.nil_sublist _)) [0, 1, 2, 3, 4, 5, 6, 7] 4 (by kernel_rfl) ?_
          apply Exists.intro
          refine ⟨fun G hG hN => ?_, ?_⟩
          · have q_0 := fun (e : GE (Bx wb []) G) => (HATW.out e.w (HBa.out _ (bcall HW0.out HW0.out.size (GE.h e).below))).1.c0
            have q_1 := fun (e : GE (Bx wb []) G) => (HATW.out e.w (HBa.out _ (bcall HW0.out HW0.out.size (GE.h e).below))).1.c1
            have q_2 := fun (e : GE (Bx wb []) G) => (HATW.out e.w (HBa.out _ (bcall HW0.out HW0.out.size (GE.h e).below))).1.c2
            have q_3 := fun (e : GE (Bx wb []) G) => (HATW.out e.w (HBa.out _ (bcall HW0.out HW0.out.size (GE.h e).below))).1.c3
            have q_4 := fun (e : GE (Bx wb []) G) => (HATW.out e.w (HBa.out _ (bcall HW0.out HW0.out.size (GE.h e).below))).1.c4
            have q_5 := fun (e : GE (Bx wb []) G) => (HATW.out e.w (HBa.out _ (bcall HW0.out HW0.out.size (GE.h e).below))).1.c5
            have q_6 := fun (e : GE (Bx wb []) G) => (HATW.out e.w (HBa.out _ (bcall HW0.out HW0.out.size (GE.h e).below))).1.c6
            have q_7 := fun (e : GE (Bx wb []) G) => (HATW.out e.w (HBa.out _ (bcall HW0.out HW0.out.size (GE.h e).below))).1.c7
            have q_b := fun (e : GE (Bx wb []) G) => (HATW.out e.w (HBa.out _ (bcall HW0.out HW0.out.size (GE.h e).below))).2
            simp only [pickOps, List.getElem?_toArray, List.getElem?_cons_zero, List.getElem?_cons_succ]
            repeat (first | go_big_quiet_step (fail) | quiet_step (fail))
            exact wpQuiet_nil rfl
          refine wpAnyT_two (i := 8) (j := 9) (oi := (.cells #[.int .i64 0, .slice none 0 0, .slice none 0 0, .int .i64 0, .slice none 0 0, .slice none 0 0, .int .i64 0, .int .i64 0] 43)) (oj := (.cells #[.int .i64 0, .slice none 0 0, .slice none 0 0, .int .i64 0, .slice none 0 0, .slice none 0 0, .int .i64 0, .int .i64 0] 43)) hB101 (fun _ k => k.keep (List.nil_sublist _)) (by kernel_rfl) ?_
          apply Exists.intro
          apply Exists.intro
          apply Exists.intro
          refine ⟨?_, ?_, ?_, ?_, ?_⟩
          · intro g W K hg hK
            try dsimp only
            refine wpOp_step rfl (fun Kc hKc => ?_)
            go_simp
            try rw [hg]
            exact hKc _ _ hK
          · intro g0 g W K hg hK
            try dsimp only
            refine wpOp_step rfl (fun Kc hKc => ?_)
            go_simp
            try rw [hg]
            exact hKc _ _ hK
          · intro g W K hg hK
            try dsimp only
            refine wpOp_step rfl (fun Kc hKc => ?_)
            go_simp
            try rw [hg]
            exact hKc _ _ hK
          · intro g0 g W K hg hK
            try dsimp only
            refine wpOp_step rfl (fun Kc hKc => ?_)
            go_simp
            try rw [hg]
            exact hKc _ _ hK
          intro g6 g7 wt2 hB102
          try dsimp only
          refine wpAnyT_all (rs := [10]) (by kernel_rfl) (by simp) (fun wa3 hwa3 hRwa3 i hi => ?_)
          have hB103 := hB102.next hwa3
          clear hB102 hwa3 hRwa3
          obtain rfl := List.mem_singleton.1 hi
          refine wpOp_step rfl (fun Kc hKc => ?_)
          have c_a6 := fun j => cell_of_row _ _ j _ _ _ (hB103.get 1 rfl)
          have z_a6 := hB103.lt 1 rfl
          have f_a6 := fun j => frozen_of_row _ _ j _ _ (hB103.get 1 rfl)
          go_simp
          have hB104 := hB103.put8 1 rfl (.int .i64 a.own.len) (.slice A a.own.cuts.length c) (.slice R a.own.dens.length d) (.int .i64 a.told.len) (.slice A' a.told.cuts.length c') (.slice R' a.told.dens.length d') (.int .i64 a.after) (.int .i64 a.asked)
          refine hKc _ _ ⟨(hB104.keep (List.nil_sublist _)), ?_⟩
          clear c_a6 z_a6 f_a6 hKc Kc hB103
          generalize ((((((((wa3.setCell _ _).setCell _ _).setCell _ _).setCell _ _).setCell _ _).setCell _ _).setCell _ _).setCell _ _) = wb4 at *
          refine wpAnyT_all (rs := [11]) (by kernel_rfl) (by simp) (fun wa5 hwa5 hRwa5 i hi => ?_)
          have hB105 := hB104.next hwa5
          clear hB104 hwa5 hRwa5
          obtain rfl := List.mem_singleton.1 hi
          refine wpOp_step rfl (fun Kc hKc => ?_)
          have c_a7 := fun j => cell_of_row _ _ j _ _ _ (hB105.get 0 rfl)
          have z_a7 := hB105.lt 0 rfl
          have f_a7 := fun j => frozen_of_row _ _ j _ _ (hB105.get 0 rfl)
          go_simp
          have hB106 := hB105.put8 0 rfl (.int .i64 a.own.len) (.slice A a.own.cuts.length c) (.slice R a.own.dens.length d) (.int .i64 a.told.len) (.slice A' a.told.cuts.length c') (.slice R' a.told.dens.length d') (.int .i64 a.after) (.int .i64 a.asked)
          refine hKc _ _ ⟨(hB106.keep (List.nil_sublist _)), ?_⟩
          clear c_a7 z_a7 f_a7 hKc Kc hB105
          generalize ((((((((wa5.setCell _ _).setCell _ _).setCell _ _).setCell _ _).setCell _ _).setCell _ _).setCell _ _).setCell _ _) = wb6 at *
          refine wpAnyT_done (by kernel_rfl) (fun wd7 hwd7 hRwd7 => ?_) _
          refine NoPanic.normal ?_
          have hB107 := hB106.next hwd7
          clear hB106 hwd7 hRwd7
          have HM := Lib.hid hB107
          clear hB107
          go_wp2_with fail
          go_meet
          exact ⟨g6, g7, rfl, rfl, HM.out⟩
        case rest =>
          obtain ⟨g6, g7, rfl, rfl, hMc⟩ := hcut
          generalize wc = wc at *
          obtain ⟨f, hf⟩ : ∃ x, x = y.asked := ⟨_, rfl⟩
          have HFY := Lib.hid hf
          obtain ⟨P, cP, hP, hPl⟩ : ∃ (P : Addr) (cP : Unit), P3 = some P ∧ P.block < wa.heap.size := by
            obtain ⟨P, _, _, _, _, _, _, _, _, e, hb, _⟩ := (HF3a.out _ (Below.refl _ _)).1.actor HAY.out
            exact ⟨P, (), e, hb⟩
          subst hP
          have HYC := Lib.hid (fun (V : World) (hV : Below wa.heap.size wa V) => show V.cell? ⟨(P.add (k * 8)).block, (P.add (k * 8)).off + 7, none⟩ = some (.int .i64 f) ∧ (P.add (k * 8)).block < V.heap.size by
            obtain ⟨P', _, _, _, _, _, _, _, _, e, hb, _, _, _, h9⟩ := (HF3a.out V hV).1.actor HAY.out
            obtain rfl := Option.some.inj e
            exact ⟨by rw [HFY.out]; exact h9.c7, by rw [block_add]; exact hb⟩)
          clear hf hPl
          by_cases e1 : a.after = -1
          · have HCD := Lib.hid (show a.after = -1 ∨ y.asked < a.after from Or.inl e1)
            have c_y := fun j => cell_of_row _ _ j _ _ _ (hMc.get 0 rfl)
            have z_y := hMc.lt 0 rfl
            have c_x := fun j => cell_of_row _ _ j _ _ _ (hMc.get 1 rfl)
            have z_x := hMc.lt 1 rfl
            obtain ⟨y7, yb⟩ := HYC.out _ (bcall HW0.out HW0.out.size hMc.below)
            have h_a := HCA.out _ (bcall HW0.out HW0.out.size hMc.below)
            have c_a := fun j => cell_of_row _ _ j _ _ _ h_a
            have z_a := lt_some h_a
            clear h_a
            have b5 : (a.after == -1) = true := by simpa using e1
            go_wp2_with fail
            refine wp_region_ext (by kernel_rfl) (by kernel_rfl) ?_
            repeat (first | go_big_quiet_step (fail) | quiet_step (fail))
            refine wpQuiet_nil ?_
            rintro wt ⟨⟨wx_, hb⟩, rfl⟩
            have hwt := hMc.next hb
            clear hb hMc c_y z_y c_x z_x y7 yb c_a z_a b5
            clear e1
            obtain ⟨k0_, k1_, k2_, k3_⟩ := HCKW.out _ (HBa.out _ (bcall HW0.out HW0.out.size hwt.below))
            have c_x := fun j => cell_of_row _ _ j _ _ _ (hwt.get 1 rfl)
            have f_x := fun j => frozen_of_row _ _ j _ _ (hwt.get 1 rfl)
            have z_x := hwt.lt 1 rfl
            go_upto_region 17 with fail
            have hMp : Mx wb [(g7, .cells #[.int .i64 a.own.len, .slice A a.own.cuts.length c, .slice R a.own.dens.length d, .int .i64 a.told.len, .slice A' a.told.cuts.length c', .slice R' a.told.dens.length d', .int .i64 a.after, .int .i64 a.asked] 43), (g6, .cells #[.int .i64 a.own.len, .slice A a.own.cuts.length c, .slice R a.own.dens.length d, .int .i64 K.len, .slice A9 K.cuts.length c9, .slice R9 K.dens.length d9, .int .i64 a.after, .int .i64 a.asked] 43)] [] _ := ((hwt.set 1 rfl 3 (.int .i64 K.len)).set 1 rfl 4 (.slice A9 K.cuts.length c9)).set 1 rfl 5 (.slice R9 K.dens.length d9)
            clear c_x f_x z_x hwt k0_ k1_ k2_ k3_
            generalize ((World.setCell _ _ _).setCell _ _).setCell _ _ = wp_ at *
            have c_y := fun j => cell_of_row _ _ j _ _ _ (hMp.get 0 rfl)
            have z_y := hMp.lt 0 rfl
            by_cases e0 : a.after = 0
            · have b7 : (a.after == 0) = true := by simpa using e0
              have HAF := Lib.hid e0
              clear e0
              go_upto_region 18 with fail
              clear c_y z_y b7
              go_wp2_with fail
              refine wp_region_T (Bx wb []) 12 (by kernel_rfl) (by rfl) ((hMp.keep (List.nil_sublist _)).drew) (fun wq8 hbq => ?_)
              have hB201 := hMp.next hbq
              clear hMp hbq
              refine wpAnyT_go (Bx.grows _ _) (hB201.keep (List.nil_sublist _)) [0, 1, 2, 3, 4, 5, 6, 7, 8, 9, 10] 1 (by kernel_rfl) ?_
              apply Exists.intro
              refine ⟨fun G hG hN => ?_, ?_⟩
              · have q_0 := fun (e : GE (Bx wb []) G) => (HATW.out e.w (HBa.out _ (bcall HW0.out HW0.out.size (GE.h e).below))).1.c0
                have q_1 := fun (e : GE (Bx wb []) G) => (HATW.out e.w (HBa.out _ (bcall HW0.out HW0.out.size (GE.h e).below))).1.c1
                have q_2 := fun (e : GE (Bx wb []) G) => (HATW.out e.w (HBa.out _ (bcall HW0.out HW0.out.size (GE.h e).below))).1.c2
                have q_3 := fun (e : GE (Bx wb []) G) => (HATW.out e.w (HBa.out _ (bcall HW0.out HW0.out.size (GE.h e).below))).1.c3
                have q_4 := fun (e : GE (Bx wb []) G) => (HATW.out e.w (HBa.out _ (bcall HW0.out HW0.out.size (GE.h e).below))).1.c4
                have q_5 := fun (e : GE (Bx wb []) G) => (HATW.out e.w (HBa.out _ (bcall HW0.out HW0.out.size (GE.h e).below))).1.c5
                have q_6 := fun (e : GE (Bx wb []) G) => (HATW.out e.w (HBa.out _ (bcall HW0.out HW0.out.size (GE.h e).below))).1.c6
                have q_7 := fun (e : GE (Bx wb []) G) => (HATW.out e.w (HBa.out _ (bcall HW0.out HW0.out.size (GE.h e).below))).1.c7
                have q_b := fun (e : GE (Bx wb []) G) => (HATW.out e.w (HBa.out _ (bcall HW0.out HW0.out.size (GE.h e).below))).2
                simp only [pickOps, List.getElem?_toArray, List.getElem?_cons_zero, List.getElem?_cons_succ]
                repeat (first | go_big_quiet_step (fail) | quiet_step (fail))
                exact wpQuiet_nil rfl
              refine wpAnyT_all (rs := [11]) (by kernel_rfl) (by simp) (fun wa9 hwa9 hRwa9 i hi => ?_)
              have hB202 := hB201.next hwa9
              clear hB201 hwa9 hRwa9
              obtain rfl := List.mem_singleton.1 hi
              refine wpOp_step rfl (fun Kc hKc => ?_)
              have c_y := fun j => cell_of_row _ _ j _ _ _ (hB202.get 0 rfl)
              have z_y := hB202.lt 0 rfl
              have f_y := fun j => frozen_of_row _ _ j _ _ (hB202.get 0 rfl)
              go_simp
              have hB203 := hB202.put8 0 rfl (.int .i64 a.told.len) (.slice A' a.told.cuts.length c') (.slice R' a.told.dens.length d') (.int .i64 a.own.len) (.slice A a.own.cuts.length c) (.slice R a.own.dens.length d) (.int .i64 (-1)) (.int .i64 0)
              refine hKc _ _ ⟨(hB203.keep (List.nil_sublist _)), ?_⟩
              clear c_y z_y f_y hKc Kc hB202
              generalize ((((((((wa9.setCell _ _).setCell _ _).setCell _ _).setCell _ _).setCell _ _).setCell _ _).setCell _ _).setCell _ _) = wb10 at *
              refine wpAnyT_done (by kernel_rfl) (fun wd11 hwd11 hRwd11 => ?_) _
              refine NoPanic.normal ?_
              have hB204 := hB203.next hwd11
              clear hB203 hwd11 hRwd11
              have hMy := hB204
              clear hB204
              go_upto_region 19 with fail
              have HXO := Lib.hid (show oth a K y.asked = ⟨a.own, K, a.after, a.asked⟩ from oth_yes HCD.out)
              have HYO := Lib.hid (show tld a = ⟨a.told, a.own, -1, 0⟩ from tld_yes HAF.out)
              have HEX := Lib.hid (show kAc.El w (oth a K y.asked) [.int .i64 a.own.len, .slice A a.own.cuts.length c, .slice R a.own.dens.length d, .int .i64 K.len, .slice A9 K.cuts.length c9, .slice R9 K.dens.length d9, .int .i64 a.after, .int .i64 a.asked] by rw [HXO.out]; exact ac_el HCC.out.1 HCC.out.2.2 ⟨HAW.out.a0, HAW.out.a1, HAW.out.k0, HAW.out.k1⟩)
              have HEY := Lib.hid (show kAc.El w (tld a) [.int .i64 a.told.len, .slice A' a.told.cuts.length c', .slice R' a.told.dens.length d', .int .i64 a.own.len, .slice A a.own.cuts.length c, .slice R a.own.dens.length d, .int .i64 (-1), .int .i64 0] by rw [HYO.out]; exact ac_el HCC.out.2.1 HCC.out.1 ⟨by show (-9223372036854775808 : Int) ≤ -1; decide, by show (-1 : Int) ≤ 9223372036854775807; decide, by show (-9223372036854775808 : Int) ≤ 0; decide, by show (0 : Int) ≤ 9223372036854775807; decide⟩)
              have hRR : Mx wa [(g7, .cells #[.int .i64 a.told.len, .slice A' a.told.cuts.length c', .slice R' a.told.dens.length d', .int .i64 a.own.len, .slice A a.own.cuts.length c, .slice R a.own.dens.length d, .int .i64 (-1), .int .i64 0] 43), (g6, .cells #[.int .i64 a.own.len, .slice A a.own.cuts.length c, .slice R a.own.dens.length d, .int .i64 K.len, .slice A9 K.cuts.length c9, .slice R9 K.dens.length d9, .int .i64 a.after, .int .i64 a.asked] 43)] [⟨.slice B1 n1 b1, 43, 8, n1, xs1⟩, ⟨.slice B2 n2 b2, 43, 8, n2, xs2⟩] wd11 := Mx.onto HMr.out hMy
              clear hMy
              go_wp2_with fail
              refine wp_region_T (Bx wa [(g7, .cells #[.int .i64 a.told.len, .slice A' a.told.cuts.length c', .slice R' a.told.dens.length d', .int .i64 a.own.len, .slice A a.own.cuts.length c, .slice R a.own.dens.length d, .int .i64 (-1), .int .i64 0] 43), (g6, .cells #[.int .i64 a.own.len, .slice A a.own.cuts.length c, .slice R a.own.dens.length d, .int .i64 K.len, .slice A9 K.cuts.length c9, .slice R9 K.dens.length d9, .int .i64 a.after, .int .i64 a.asked] 43)]) 10 (by kernel_rfl) (by rfl) ((hRR.keep (List.Sublist.cons_cons _ (List.Sublist.cons_cons _ (List.nil_sublist _)))).drew) (fun wq12 hbq => ?_)
              have hB301 := hRR.next hbq
              clear hRR hbq
              refine wpAnyT_go (Bx.grows _ _) (hB301.keep (List.Sublist.cons_cons _ (List.Sublist.cons_cons _ (List.nil_sublist _)))) [0, 1, 4, 5] 6 (by kernel_rfl) ?_
              apply Exists.intro
              refine ⟨fun G hG hN => ?_, ?_⟩
              · have c_y := fun (e : GE (Bx wa [(g7, .cells #[.int .i64 a.told.len, .slice A' a.told.cuts.length c', .slice R' a.told.dens.length d', .int .i64 a.own.len, .slice A a.own.cuts.length c, .slice R a.own.dens.length d, .int .i64 (-1), .int .i64 0] 43), (g6, .cells #[.int .i64 a.own.len, .slice A a.own.cuts.length c, .slice R a.own.dens.length d, .int .i64 K.len, .slice A9 K.cuts.length c9, .slice R9 K.dens.length d9, .int .i64 a.after, .int .i64 a.asked] 43)]) G) j => cell_of_row e.w _ j _ _ _ ((GE.h e).get 0 rfl)
                have z_y := fun (e : GE (Bx wa [(g7, .cells #[.int .i64 a.told.len, .slice A' a.told.cuts.length c', .slice R' a.told.dens.length d', .int .i64 a.own.len, .slice A a.own.cuts.length c, .slice R a.own.dens.length d, .int .i64 (-1), .int .i64 0] 43), (g6, .cells #[.int .i64 a.own.len, .slice A a.own.cuts.length c, .slice R a.own.dens.length d, .int .i64 K.len, .slice A9 K.cuts.length c9, .slice R9 K.dens.length d9, .int .i64 a.after, .int .i64 a.asked] 43)]) G) => (GE.h e).lt 0 rfl
                have c_x := fun (e : GE (Bx wa [(g7, .cells #[.int .i64 a.told.len, .slice A' a.told.cuts.length c', .slice R' a.told.dens.length d', .int .i64 a.own.len, .slice A a.own.cuts.length c, .slice R a.own.dens.length d, .int .i64 (-1), .int .i64 0] 43), (g6, .cells #[.int .i64 a.own.len, .slice A a.own.cuts.length c, .slice R a.own.dens.length d, .int .i64 K.len, .slice A9 K.cuts.length c9, .slice R9 K.dens.length d9, .int .i64 a.after, .int .i64 a.asked] 43)]) G) j => cell_of_row e.w _ j _ _ _ ((GE.h e).get 1 rfl)
                have z_x := fun (e : GE (Bx wa [(g7, .cells #[.int .i64 a.told.len, .slice A' a.told.cuts.length c', .slice R' a.told.dens.length d', .int .i64 a.own.len, .slice A a.own.cuts.length c, .slice R a.own.dens.length d, .int .i64 (-1), .int .i64 0] 43), (g6, .cells #[.int .i64 a.own.len, .slice A a.own.cuts.length c, .slice R a.own.dens.length d, .int .i64 K.len, .slice A9 K.cuts.length c9, .slice R9 K.dens.length d9, .int .i64 a.after, .int .i64 a.asked] 43)]) G) => (GE.h e).lt 1 rfl
                simp only [pickOps, List.getElem?_toArray, List.getElem?_cons_zero, List.getElem?_cons_succ]
                repeat (first | go_big_quiet_step (fail) | quiet_step (fail))
                exact wpQuiet_nil rfl
              refine wpAnyT_all (rs := [2, 6]) (by kernel_rfl) (by simp) (fun wa13 hwa13 hRwa13 i hi => ?_)
              have hB302 := hB301.next hwa13
              clear hB301 hwa13 hRwa13
              rcases List.mem_cons.1 hi with rfl | hi
              · refine wpOp_step rfl (fun Kc hKc => ?_)
                go_simp
                have hB303 := hB302.new (g := wa13.heap.size) rfl (.cells #[.int .i64 a.own.len, .slice A a.own.cuts.length c, .slice R a.own.dens.length d, .int .i64 K.len, .slice A9 K.cuts.length c9, .slice R9 K.dens.length d9, .int .i64 a.after, .int .i64 a.asked] 43)
                refine hKc _ _ ⟨(hB303.keep (List.Sublist.cons _ (List.Sublist.cons_cons _ (List.Sublist.cons_cons _ (List.nil_sublist _))))), ?_⟩
                clear hKc Kc hB302
                generalize wa13.heap.size = gl1 at *
                generalize wa13.alloc _ = wb14 at *
                refine wpAnyT_all (rs := [3, 6]) (by kernel_rfl) (by simp) (fun wa15 hwa15 hRwa15 i hi => ?_)
                have hB304 := hB303.next hwa15
                clear hB303 hwa15 hRwa15
                rcases List.mem_cons.1 hi with rfl | hi
                · refine wpOp_step rfl (fun Kc hKc => ?_)
                  refine step_append_any _ rfl (.tmp 120) (.tmp 122) 22 rfl wa.heap.size 43 i0 (.agg #[.int .i64 0, .slice none 0 0, .slice none 0 0, .int .i64 0, .slice none 0 0, .slice none 0 0, .int .i64 0, .int .i64 0]) 8 128 Try.underlying22 hi0 hz0 hz1 hz2 rfl (by omega) (.slice B1 n1 b1) n1 xs1 rfl (hB304.row 0 rfl) _ (some ⟨gl1, 0, none⟩) 1 1 [.int .i64 a.own.len, .slice A a.own.cuts.length c, .slice R a.own.dens.length d, .int .i64 K.len, .slice A9 K.cuts.length c9, .slice R9 K.dens.length d9, .int .i64 a.after, .int .i64 a.asked] rfl (reads_lit (n := 1) (s := 8) (hB304.get 0 rfl) rfl) (by intro u hu; simp at hu; rcases hu with rfl | rfl | rfl | rfl | rfl | rfl | rfl | rfl <;> rfl) (by have := HNL.out; unfold maxLen; omega) (by have := HNL.out; omega) hB304.below.size ?_
                  intro v5 wb16 hown hgr hat
                  obtain ⟨B5, b5, rfl, _, _⟩ := own_nil_len hown
                  have hB305 := hB304.grow 0 rfl hgr hown hat
                  refine hKc _ _ ⟨(hB305.keep (List.Sublist.cons _ (List.Sublist.cons_cons _ (List.Sublist.cons_cons _ (List.nil_sublist _))))), ?_⟩
                  clear hKc Kc hB304 hown hgr hat
                  refine wpAnyT_all (rs := [6]) (by kernel_rfl) (by simp) (fun wa17 hwa17 hRwa17 i hi => ?_)
                  have hB306 := hB305.next hwa17
                  clear hB305 hwa17 hRwa17
                  obtain rfl := List.mem_singleton.1 hi
                  refine wpOp_step rfl (fun Kc hKc => ?_)
                  go_simp
                  have hB307 := hB306.new (g := wa17.heap.size) rfl (.cells #[.int .i64 a.told.len, .slice A' a.told.cuts.length c', .slice R' a.told.dens.length d', .int .i64 a.own.len, .slice A a.own.cuts.length c, .slice R a.own.dens.length d, .int .i64 (-1), .int .i64 0] 43)
                  refine hKc _ _ ⟨(hB307.keep (List.Sublist.cons _ (List.Sublist.cons _ (List.Sublist.cons_cons _ (List.Sublist.cons_cons _ (List.nil_sublist _)))))), ?_⟩
                  clear hKc Kc hB306
                  generalize wa17.heap.size = gl2 at *
                  generalize wa17.alloc _ = wb18 at *
                  refine wpAnyT_all (rs := [7]) (by kernel_rfl) (by simp) (fun wa19 hwa19 hRwa19 i hi => ?_)
                  have hB308 := hB307.next hwa19
                  clear hB307 hwa19 hRwa19
                  obtain rfl := List.mem_singleton.1 hi
                  refine wpOp_step rfl (fun Kc hKc => ?_)
                  refine step_append_any _ rfl (.tmp 124) (.tmp 126) 22 rfl wa.heap.size 43 i0 (.agg #[.int .i64 0, .slice none 0 0, .slice none 0 0, .int .i64 0, .slice none 0 0, .slice none 0 0, .int .i64 0, .int .i64 0]) 8 128 Try.underlying22 hi0 hz0 hz1 hz2 rfl (by omega) (.slice B2 n2 b2) n2 xs2 rfl (hB308.row 1 rfl) _ (some ⟨gl2, 0, none⟩) 1 1 [.int .i64 a.told.len, .slice A' a.told.cuts.length c', .slice R' a.told.dens.length d', .int .i64 a.own.len, .slice A a.own.cuts.length c, .slice R a.own.dens.length d, .int .i64 (-1), .int .i64 0] rfl (reads_lit (n := 1) (s := 8) (hB308.get 0 rfl) rfl) (by intro u hu; simp at hu; rcases hu with rfl | rfl | rfl | rfl | rfl | rfl | rfl | rfl <;> rfl) (by have := HNL.out; unfold maxLen; omega) (by have := HNL.out; omega) hB308.below.size ?_
                  intro v6 wb20 hown hgr hat
                  obtain ⟨B6, b6, rfl, _, _⟩ := own_nil_len hown
                  have hB309 := hB308.grow 1 rfl hgr hown hat
                  refine hKc _ _ ⟨(hB309.keep (List.Sublist.cons _ (List.Sublist.cons _ (List.Sublist.cons_cons _ (List.Sublist.cons_cons _ (List.nil_sublist _)))))), ?_⟩
                  clear hKc Kc hB308 hown hgr hat
                  refine wpAnyT_go (Bx.grows _ _) (hB309.keep (List.Sublist.cons _ (List.Sublist.cons _ (List.Sublist.cons_cons _ (List.Sublist.cons_cons _ (List.nil_sublist _)))))) [8, 9] 0 (by kernel_rfl) ?_
                  apply Exists.intro
                  refine ⟨fun G hG hN => ?_, ?_⟩
                  · have c_y := fun (e : GE (Bx wa [(g7, .cells #[.int .i64 a.told.len, .slice A' a.told.cuts.length c', .slice R' a.told.dens.length d', .int .i64 a.own.len, .slice A a.own.cuts.length c, .slice R a.own.dens.length d, .int .i64 (-1), .int .i64 0] 43), (g6, .cells #[.int .i64 a.own.len, .slice A a.own.cuts.length c, .slice R a.own.dens.length d, .int .i64 K.len, .slice A9 K.cuts.length c9, .slice R9 K.dens.length d9, .int .i64 a.after, .int .i64 a.asked] 43)]) G) j => cell_of_row e.w _ j _ _ _ ((GE.h e).get 0 rfl)
                    have z_y := fun (e : GE (Bx wa [(g7, .cells #[.int .i64 a.told.len, .slice A' a.told.cuts.length c', .slice R' a.told.dens.length d', .int .i64 a.own.len, .slice A a.own.cuts.length c, .slice R a.own.dens.length d, .int .i64 (-1), .int .i64 0] 43), (g6, .cells #[.int .i64 a.own.len, .slice A a.own.cuts.length c, .slice R a.own.dens.length d, .int .i64 K.len, .slice A9 K.cuts.length c9, .slice R9 K.dens.length d9, .int .i64 a.after, .int .i64 a.asked] 43)]) G) => (GE.h e).lt 0 rfl
                    have c_x := fun (e : GE (Bx wa [(g7, .cells #[.int .i64 a.told.len, .slice A' a.told.cuts.length c', .slice R' a.told.dens.length d', .int .i64 a.own.len, .slice A a.own.cuts.length c, .slice R a.own.dens.length d, .int .i64 (-1), .int .i64 0] 43), (g6, .cells #[.int .i64 a.own.len, .slice A a.own.cuts.length c, .slice R a.own.dens.length d, .int .i64 K.len, .slice A9 K.cuts.length c9, .slice R9 K.dens.length d9, .int .i64 a.after, .int .i64 a.asked] 43)]) G) j => cell_of_row e.w _ j _ _ _ ((GE.h e).get 1 rfl)
                    have z_x := fun (e : GE (Bx wa [(g7, .cells #[.int .i64 a.told.len, .slice A' a.told.cuts.length c', .slice R' a.told.dens.length d', .int .i64 a.own.len, .slice A a.own.cuts.length c, .slice R a.own.dens.length d, .int .i64 (-1), .int .i64 0] 43), (g6, .cells #[.int .i64 a.own.len, .slice A a.own.cuts.length c, .slice R a.own.dens.length d, .int .i64 K.len, .slice A9 K.cuts.length c9, .slice R9 K.dens.length d9, .int .i64 a.after, .int .i64 a.asked] 43)]) G) => (GE.h e).lt 1 rfl
                    simp only [pickOps, List.getElem?_toArray, List.getElem?_cons_zero, List.getElem?_cons_succ]
                    repeat (first | go_big_quiet_step (fail) | quiet_step (fail))
                    exact wpQuiet_nil rfl
                  refine wpAnyT_done (by kernel_rfl) (fun wd21 hwd21 hRwd21 => ?_) _
                  refine NoPanic.normal ?_
                  have hB310 := hB309.next hwd21
                  clear hB309 hwd21 hRwd21
                  have hMn : Mx wa [] [⟨.slice B5 (n1 + 1) b5, 43, 8, n1 + 1, xs1 ++ [.int .i64 a.own.len, .slice A a.own.cuts.length c, .slice R a.own.dens.length d, .int .i64 K.len, .slice A9 K.cuts.length c9, .slice R9 K.dens.length d9, .int .i64 a.after, .int .i64 a.asked]⟩, ⟨.slice B6 (n2 + 1) b6, 43, 8, n2 + 1, xs2 ++ [.int .i64 a.told.len, .slice A' a.told.cuts.length c', .slice R' a.told.dens.length d', .int .i64 a.own.len, .slice A a.own.cuts.length c, .slice R a.own.dens.length d, .int .i64 (-1), .int .i64 0]⟩] wd21 := hB310.sub0
                  clear hB310
                  have hnn1 : n1 + 1 = ((othL acs ks ra.acs).take (k + 1)).length := by rw [HT1.out, List.length_append, ← HN1.out]; rfl
                  have hnn2 : n2 + 1 = ((tldL acs).take (k + 1)).length := by rw [HT2.out, List.length_append, ← HN2.out]; rfl
                  have HM2 := Lib.hid (show ∃ v1 v2 : Value, v1 = .slice B5 (n1 + 1) b5 ∧ v2 = .slice B6 (n2 + 1) b6 ∧ Mx wa [] [⟨v1, 43, 8, ((othL acs ks ra.acs).take (k + 1)).length, xs1 ++ [.int .i64 a.own.len, .slice A a.own.cuts.length c, .slice R a.own.dens.length d, .int .i64 K.len, .slice A9 K.cuts.length c9, .slice R9 K.dens.length d9, .int .i64 a.after, .int .i64 a.asked]⟩, ⟨v2, 43, 8, ((tldL acs).take (k + 1)).length, xs2 ++ [.int .i64 a.told.len, .slice A' a.told.cuts.length c', .slice R' a.told.dens.length d', .int .i64 a.own.len, .slice A a.own.cuts.length c, .slice R a.own.dens.length d, .int .i64 (-1), .int .i64 0]⟩] wd21 from ⟨_, _, rfl, rfl, by rw [← hnn1, ← hnn2]; exact hMn⟩)
                  have HL1_ := Lib.hid (show Lay kAc w ((othL acs ks ra.acs).take (k + 1)) (xs1 ++ [.int .i64 a.own.len, .slice A a.own.cuts.length c, .slice R a.own.dens.length d, .int .i64 K.len, .slice A9 K.cuts.length c9, .slice R9 K.dens.length d9, .int .i64 a.after, .int .i64 a.asked]) by rw [HT1.out]; exact HE1.out.add (by have := (HMr.out.row 0 rfl).1; rw [← HN1.out]; exact this) HEX.out)
                  have HL2_ := Lib.hid (show Lay kAc w ((tldL acs).take (k + 1)) (xs2 ++ [.int .i64 a.told.len, .slice A' a.told.cuts.length c', .slice R' a.told.dens.length d', .int .i64 a.own.len, .slice A a.own.cuts.length c, .slice R a.own.dens.length d, .int .i64 (-1), .int .i64 0]) by rw [HT2.out]; exact HE2.out.add (by have := (HMr.out.row 1 rfl).1; rw [← HN2.out]; exact this) HEY.out)
                  clear hMn hnn1 hnn2
                  go_wp2_with fail
                  obtain ⟨v1, v2, e1, e2, hM3⟩ := HM2.out
                  exact ⟨⟨k + 1, v1, v2, _, _, HLE.out.1, e1, e2, by go_num, hM3, HL1_.out, HL2_.out⟩, by simpa [intOf] using HLE.out.2⟩
                · obtain rfl := List.mem_singleton.1 hi
                  refine wpOp_step rfl (fun Kc hKc => ?_)
                  go_simp
                  have hB305 := hB304.new (g := wa15.heap.size) rfl (.cells #[.int .i64 a.told.len, .slice A' a.told.cuts.length c', .slice R' a.told.dens.length d', .int .i64 a.own.len, .slice A a.own.cuts.length c, .slice R a.own.dens.length d, .int .i64 (-1), .int .i64 0] 43)
                  refine hKc _ _ ⟨(hB305.keep (List.Sublist.cons _ (List.Sublist.cons _ (List.Sublist.cons_cons _ (List.Sublist.cons_cons _ (List.nil_sublist _)))))), ?_⟩
                  clear hKc Kc hB304
                  generalize wa15.heap.size = gl2 at *
                  generalize wa15.alloc _ = wb22 at *
                  refine wpAnyT_all (rs := [3]) (by kernel_rfl) (by simp) (fun wa23 hwa23 hRwa23 i hi => ?_)
                  have hB306 := hB305.next hwa23
                  clear hB305 hwa23 hRwa23
                  obtain rfl := List.mem_singleton.1 hi
                  refine wpOp_step rfl (fun Kc hKc => ?_)
                  refine step_append_any _ rfl (.tmp 120) (.tmp 122) 22 rfl wa.heap.size 43 i0 (.agg #[.int .i64 0, .slice none 0 0, .slice none 0 0, .int .i64 0, .slice none 0 0, .slice none 0 0, .int .i64 0, .int .i64 0]) 8 128 Try.underlying22 hi0 hz0 hz1 hz2 rfl (by omega) (.slice B1 n1 b1) n1 xs1 rfl (hB306.row 0 rfl) _ (some ⟨gl1, 0, none⟩) 1 1 [.int .i64 a.own.len, .slice A a.own.cuts.length c, .slice R a.own.dens.length d, .int .i64 K.len, .slice A9 K.cuts.length c9, .slice R9 K.dens.length d9, .int .i64 a.after, .int .i64 a.asked] rfl (reads_lit (n := 1) (s := 8) (hB306.get 1 rfl) rfl) (by intro u hu; simp at hu; rcases hu with rfl | rfl | rfl | rfl | rfl | rfl | rfl | rfl <;> rfl) (by have := HNL.out; unfold maxLen; omega) (by have := HNL.out; omega) hB306.below.size ?_
                  intro v5 wb24 hown hgr hat
                  obtain ⟨B5, b5, rfl, _, _⟩ := own_nil_len hown
                  have hB307 := hB306.grow 0 rfl hgr hown hat
                  refine hKc _ _ ⟨(hB307.keep (List.Sublist.cons _ (List.Sublist.cons _ (List.Sublist.cons_cons _ (List.Sublist.cons_cons _ (List.nil_sublist _)))))), ?_⟩
                  clear hKc Kc hB306 hown hgr hat
                  refine wpAnyT_all (rs := [7]) (by kernel_rfl) (by simp) (fun wa25 hwa25 hRwa25 i hi => ?_)
                  have hB308 := hB307.next hwa25
                  clear hB307 hwa25 hRwa25
                  obtain rfl := List.mem_singleton.1 hi
                  refine wpOp_step rfl (fun Kc hKc => ?_)
                  refine step_append_any _ rfl (.tmp 124) (.tmp 126) 22 rfl wa.heap.size 43 i0 (.agg #[.int .i64 0, .slice none 0 0, .slice none 0 0, .int .i64 0, .slice none 0 0, .slice none 0 0, .int .i64 0, .int .i64 0]) 8 128 Try.underlying22 hi0 hz0 hz1 hz2 rfl (by omega) (.slice B2 n2 b2) n2 xs2 rfl (hB308.row 1 rfl) _ (some ⟨gl2, 0, none⟩) 1 1 [.int .i64 a.told.len, .slice A' a.told.cuts.length c', .slice R' a.told.dens.length d', .int .i64 a.own.len, .slice A a.own.cuts.length c, .slice R a.own.dens.length d, .int .i64 (-1), .int .i64 0] rfl (reads_lit (n := 1) (s := 8) (hB308.get 0 rfl) rfl) (by intro u hu; simp at hu; rcases hu with rfl | rfl | rfl | rfl | rfl | rfl | rfl | rfl <;> rfl) (by have := HNL.out; unfold maxLen; omega) (by have := HNL.out; omega) hB308.below.size ?_
                  intro v6 wb26 hown hgr hat
                  obtain ⟨B6, b6, rfl, _, _⟩ := own_nil_len hown
                  have hB309 := hB308.grow 1 rfl hgr hown hat
                  refine hKc _ _ ⟨(hB309.keep (List.Sublist.cons _ (List.Sublist.cons _ (List.Sublist.cons_cons _ (List.Sublist.cons_cons _ (List.nil_sublist _)))))), ?_⟩
                  clear hKc Kc hB308 hown hgr hat
                  refine wpAnyT_go (Bx.grows _ _) (hB309.keep (List.Sublist.cons _ (List.Sublist.cons _ (List.Sublist.cons_cons _ (List.Sublist.cons_cons _ (List.nil_sublist _)))))) [8, 9] 0 (by kernel_rfl) ?_
                  apply Exists.intro
                  refine ⟨fun G hG hN => ?_, ?_⟩
                  · have c_y := fun (e : GE (Bx wa [(g7, .cells #[.int .i64 a.told.len, .slice A' a.told.cuts.length c', .slice R' a.told.dens.length d', .int .i64 a.own.len, .slice A a.own.cuts.length c, .slice R a.own.dens.length d, .int .i64 (-1), .int .i64 0] 43), (g6, .cells #[.int .i64 a.own.len, .slice A a.own.cuts.length c, .slice R a.own.dens.length d, .int .i64 K.len, .slice A9 K.cuts.length c9, .slice R9 K.dens.length d9, .int .i64 a.after, .int .i64 a.asked] 43)]) G) j => cell_of_row e.w _ j _ _ _ ((GE.h e).get 0 rfl)
                    have z_y := fun (e : GE (Bx wa [(g7, .cells #[.int .i64 a.told.len, .slice A' a.told.cuts.length c', .slice R' a.told.dens.length d', .int .i64 a.own.len, .slice A a.own.cuts.length c, .slice R a.own.dens.length d, .int .i64 (-1), .int .i64 0] 43), (g6, .cells #[.int .i64 a.own.len, .slice A a.own.cuts.length c, .slice R a.own.dens.length d, .int .i64 K.len, .slice A9 K.cuts.length c9, .slice R9 K.dens.length d9, .int .i64 a.after, .int .i64 a.asked] 43)]) G) => (GE.h e).lt 0 rfl
                    have c_x := fun (e : GE (Bx wa [(g7, .cells #[.int .i64 a.told.len, .slice A' a.told.cuts.length c', .slice R' a.told.dens.length d', .int .i64 a.own.len, .slice A a.own.cuts.length c, .slice R a.own.dens.length d, .int .i64 (-1), .int .i64 0] 43), (g6, .cells #[.int .i64 a.own.len, .slice A a.own.cuts.length c, .slice R a.own.dens.length d, .int .i64 K.len, .slice A9 K.cuts.length c9, .slice R9 K.dens.length d9, .int .i64 a.after, .int .i64 a.asked] 43)]) G) j => cell_of_row e.w _ j _ _ _ ((GE.h e).get 1 rfl)
                    have z_x := fun (e : GE (Bx wa [(g7, .cells #[.int .i64 a.told.len, .slice A' a.told.cuts.length c', .slice R' a.told.dens.length d', .int .i64 a.own.len, .slice A a.own.cuts.length c, .slice R a.own.dens.length d, .int .i64 (-1), .int .i64 0] 43), (g6, .cells #[.int .i64 a.own.len, .slice A a.own.cuts.length c, .slice R a.own.dens.length d, .int .i64 K.len, .slice A9 K.cuts.length c9, .slice R9 K.dens.length d9, .int .i64 a.after, .int .i64 a.asked] 43)]) G) => (GE.h e).lt 1 rfl
                    simp only [pickOps, List.getElem?_toArray, List.getElem?_cons_zero, List.getElem?_cons_succ]
                    repeat (first | go_big_quiet_step (fail) | quiet_step (fail))
                    exact wpQuiet_nil rfl
                  refine wpAnyT_done (by kernel_rfl) (fun wd27 hwd27 hRwd27 => ?_) _
                  refine NoPanic.normal ?_
                  have hB310 := hB309.next hwd27
                  clear hB309 hwd27 hRwd27
                  have hMn : Mx wa [] [⟨.slice B5 (n1 + 1) b5, 43, 8, n1 + 1, xs1 ++ [.int .i64 a.own.len, .slice A a.own.cuts.length c, .slice R a.own.dens.length d, .int .i64 K.len, .slice A9 K.cuts.length c9, .slice R9 K.dens.length d9, .int .i64 a.after, .int .i64 a.asked]⟩, ⟨.slice B6 (n2 + 1) b6, 43, 8, n2 + 1, xs2 ++ [.int .i64 a.told.len, .slice A' a.told.cuts.length c', .slice R' a.told.dens.length d', .int .i64 a.own.len, .slice A a.own.cuts.length c, .slice R a.own.dens.length d, .int .i64 (-1), .int .i64 0]⟩] wd27 := hB310.sub0
                  clear hB310
                  have hnn1 : n1 + 1 = ((othL acs ks ra.acs).take (k + 1)).length := by rw [HT1.out, List.length_append, ← HN1.out]; rfl
                  have hnn2 : n2 + 1 = ((tldL acs).take (k + 1)).length := by rw [HT2.out, List.length_append, ← HN2.out]; rfl
                  have HM2 := Lib.hid (show ∃ v1 v2 : Value, v1 = .slice B5 (n1 + 1) b5 ∧ v2 = .slice B6 (n2 + 1) b6 ∧ Mx wa [] [⟨v1, 43, 8, ((othL acs ks ra.acs).take (k + 1)).length, xs1 ++ [.int .i64 a.own.len, .slice A a.own.cuts.length c, .slice R a.own.dens.length d, .int .i64 K.len, .slice A9 K.cuts.length c9, .slice R9 K.dens.length d9, .int .i64 a.after, .int .i64 a.asked]⟩, ⟨v2, 43, 8, ((tldL acs).take (k + 1)).length, xs2 ++ [.int .i64 a.told.len, .slice A' a.told.cuts.length c', .slice R' a.told.dens.length d', .int .i64 a.own.len, .slice A a.own.cuts.length c, .slice R a.own.dens.length d, .int .i64 (-1), .int .i64 0]⟩] wd27 from ⟨_, _, rfl, rfl, by rw [← hnn1, ← hnn2]; exact hMn⟩)
                  have HL1_ := Lib.hid (show Lay kAc w ((othL acs ks ra.acs).take (k + 1)) (xs1 ++ [.int .i64 a.own.len, .slice A a.own.cuts.length c, .slice R a.own.dens.length d, .int .i64 K.len, .slice A9 K.cuts.length c9, .slice R9 K.dens.length d9, .int .i64 a.after, .int .i64 a.asked]) by rw [HT1.out]; exact HE1.out.add (by have := (HMr.out.row 0 rfl).1; rw [← HN1.out]; exact this) HEX.out)
                  have HL2_ := Lib.hid (show Lay kAc w ((tldL acs).take (k + 1)) (xs2 ++ [.int .i64 a.told.len, .slice A' a.told.cuts.length c', .slice R' a.told.dens.length d', .int .i64 a.own.len, .slice A a.own.cuts.length c, .slice R a.own.dens.length d, .int .i64 (-1), .int .i64 0]) by rw [HT2.out]; exact HE2.out.add (by have := (HMr.out.row 1 rfl).1; rw [← HN2.out]; exact this) HEY.out)
                  clear hMn hnn1 hnn2
                  go_wp2_with fail
                  obtain ⟨v1, v2, e1, e2, hM3⟩ := HM2.out
                  exact ⟨⟨k + 1, v1, v2, _, _, HLE.out.1, e1, e2, by go_num, hM3, HL1_.out, HL2_.out⟩, by simpa [intOf] using HLE.out.2⟩
              · obtain rfl := List.mem_singleton.1 hi
                refine wpOp_step rfl (fun Kc hKc => ?_)
                go_simp
                have hB303 := hB302.new (g := wa13.heap.size) rfl (.cells #[.int .i64 a.told.len, .slice A' a.told.cuts.length c', .slice R' a.told.dens.length d', .int .i64 a.own.len, .slice A a.own.cuts.length c, .slice R a.own.dens.length d, .int .i64 (-1), .int .i64 0] 43)
                refine hKc _ _ ⟨(hB303.keep (List.Sublist.cons _ (List.Sublist.cons_cons _ (List.Sublist.cons_cons _ (List.nil_sublist _))))), ?_⟩
                clear hKc Kc hB302
                generalize wa13.heap.size = gl2 at *
                generalize wa13.alloc _ = wb28 at *
                refine wpAnyT_all (rs := [2]) (by kernel_rfl) (by simp) (fun wa29 hwa29 hRwa29 i hi => ?_)
                have hB304 := hB303.next hwa29
                clear hB303 hwa29 hRwa29
                obtain rfl := List.mem_singleton.1 hi
                refine wpOp_step rfl (fun Kc hKc => ?_)
                go_simp
                have hB305 := hB304.new (g := wa29.heap.size) rfl (.cells #[.int .i64 a.own.len, .slice A a.own.cuts.length c, .slice R a.own.dens.length d, .int .i64 K.len, .slice A9 K.cuts.length c9, .slice R9 K.dens.length d9, .int .i64 a.after, .int .i64 a.asked] 43)
                refine hKc _ _ ⟨(hB305.keep (List.Sublist.cons _ (List.Sublist.cons _ (List.Sublist.cons_cons _ (List.Sublist.cons_cons _ (List.nil_sublist _)))))), ?_⟩
                clear hKc Kc hB304
                generalize wa29.heap.size = gl1 at *
                generalize wa29.alloc _ = wb30 at *
                refine wpAnyT_all (rs := [3]) (by kernel_rfl) (by simp) (fun wa31 hwa31 hRwa31 i hi => ?_)
                have hB306 := hB305.next hwa31
                clear hB305 hwa31 hRwa31
                obtain rfl := List.mem_singleton.1 hi
                refine wpOp_step rfl (fun Kc hKc => ?_)
                refine step_append_any _ rfl (.tmp 120) (.tmp 122) 22 rfl wa.heap.size 43 i0 (.agg #[.int .i64 0, .slice none 0 0, .slice none 0 0, .int .i64 0, .slice none 0 0, .slice none 0 0, .int .i64 0, .int .i64 0]) 8 128 Try.underlying22 hi0 hz0 hz1 hz2 rfl (by omega) (.slice B1 n1 b1) n1 xs1 rfl (hB306.row 0 rfl) _ (some ⟨gl1, 0, none⟩) 1 1 [.int .i64 a.own.len, .slice A a.own.cuts.length c, .slice R a.own.dens.length d, .int .i64 K.len, .slice A9 K.cuts.length c9, .slice R9 K.dens.length d9, .int .i64 a.after, .int .i64 a.asked] rfl (reads_lit (n := 1) (s := 8) (hB306.get 0 rfl) rfl) (by intro u hu; simp at hu; rcases hu with rfl | rfl | rfl | rfl | rfl | rfl | rfl | rfl <;> rfl) (by have := HNL.out; unfold maxLen; omega) (by have := HNL.out; omega) hB306.below.size ?_
                intro v5 wb32 hown hgr hat
                obtain ⟨B5, b5, rfl, _, _⟩ := own_nil_len hown
                have hB307 := hB306.grow 0 rfl hgr hown hat
                refine hKc _ _ ⟨(hB307.keep (List.Sublist.cons _ (List.Sublist.cons _ (List.Sublist.cons_cons _ (List.Sublist.cons_cons _ (List.nil_sublist _)))))), ?_⟩
                clear hKc Kc hB306 hown hgr hat
                refine wpAnyT_all (rs := [7]) (by kernel_rfl) (by simp) (fun wa33 hwa33 hRwa33 i hi => ?_)
                have hB308 := hB307.next hwa33
                clear hB307 hwa33 hRwa33
                obtain rfl := List.mem_singleton.1 hi
                refine wpOp_step rfl (fun Kc hKc => ?_)
                refine step_append_any _ rfl (.tmp 124) (.tmp 126) 22 rfl wa.heap.size 43 i0 (.agg #[.int .i64 0, .slice none 0 0, .slice none 0 0, .int .i64 0, .slice none 0 0, .slice none 0 0, .int .i64 0, .int .i64 0]) 8 128 Try.underlying22 hi0 hz0 hz1 hz2 rfl (by omega) (.slice B2 n2 b2) n2 xs2 rfl (hB308.row 1 rfl) _ (some ⟨gl2, 0, none⟩) 1 1 [.int .i64 a.told.len, .slice A' a.told.cuts.length c', .slice R' a.told.dens.length d', .int .i64 a.own.len, .slice A a.own.cuts.length c, .slice R a.own.dens.length d, .int .i64 (-1), .int .i64 0] rfl (reads_lit (n := 1) (s := 8) (hB308.get 1 rfl) rfl) (by intro u hu; simp at hu; rcases hu with rfl | rfl | rfl | rfl | rfl | rfl | rfl | rfl <;> rfl) (by have := HNL.out; unfold maxLen; omega) (by have := HNL.out; omega) hB308.below.size ?_
                intro v6 wb34 hown hgr hat
                obtain ⟨B6, b6, rfl, _, _⟩ := own_nil_len hown
                have hB309 := hB308.grow 1 rfl hgr hown hat
                refine hKc _ _ ⟨(hB309.keep (List.Sublist.cons _ (List.Sublist.cons _ (List.Sublist.cons_cons _ (List.Sublist.cons_cons _ (List.nil_sublist _)))))), ?_⟩
                clear hKc Kc hB308 hown hgr hat
                refine wpAnyT_go (Bx.grows _ _) (hB309.keep (List.Sublist.cons _ (List.Sublist.cons _ (List.Sublist.cons_cons _ (List.Sublist.cons_cons _ (List.nil_sublist _)))))) [8, 9] 0 (by kernel_rfl) ?_
                apply Exists.intro
                refine ⟨fun G hG hN => ?_, ?_⟩
                · have c_y := fun (e : GE (Bx wa [(g7, .cells #[.int .i64 a.told.len, .slice A' a.told.cuts.length c', .slice R' a.told.dens.length d', .int .i64 a.own.len, .slice A a.own.cuts.length c, .slice R a.own.dens.length d, .int .i64 (-1), .int .i64 0] 43), (g6, .cells #[.int .i64 a.own.len, .slice A a.own.cuts.length c, .slice R a.own.dens.length d, .int .i64 K.len, .slice A9 K.cuts.length c9, .slice R9 K.dens.length d9, .int .i64 a.after, .int .i64 a.asked] 43)]) G) j => cell_of_row e.w _ j _ _ _ ((GE.h e).get 0 rfl)
                  have z_y := fun (e : GE (Bx wa [(g7, .cells #[.int .i64 a.told.len, .slice A' a.told.cuts.length c', .slice R' a.told.dens.length d', .int .i64 a.own.len, .slice A a.own.cuts.length c, .slice R a.own.dens.length d, .int .i64 (-1), .int .i64 0] 43), (g6, .cells #[.int .i64 a.own.len, .slice A a.own.cuts.length c, .slice R a.own.dens.length d, .int .i64 K.len, .slice A9 K.cuts.length c9, .slice R9 K.dens.length d9, .int .i64 a.after, .int .i64 a.asked] 43)]) G) => (GE.h e).lt 0 rfl
                  have c_x := fun (e : GE (Bx wa [(g7, .cells #[.int .i64 a.told.len, .slice A' a.told.cuts.length c', .slice R' a.told.dens.length d', .int .i64 a.own.len, .slice A a.own.cuts.length c, .slice R a.own.dens.length d, .int .i64 (-1), .int .i64 0] 43), (g6, .cells #[.int .i64 a.own.len, .slice A a.own.cuts.length c, .slice R a.own.dens.length d, .int .i64 K.len, .slice A9 K.cuts.length c9, .slice R9 K.dens.length d9, .int .i64 a.after, .int .i64 a.asked] 43)]) G) j => cell_of_row e.w _ j _ _ _ ((GE.h e).get 1 rfl)
                  have z_x := fun (e : GE (Bx wa [(g7, .cells #[.int .i64 a.told.len, .slice A' a.told.cuts.length c', .slice R' a.told.dens.length d', .int .i64 a.own.len, .slice A a.own.cuts.length c, .slice R a.own.dens.length d, .int .i64 (-1), .int .i64 0] 43), (g6, .cells #[.int .i64 a.own.len, .slice A a.own.cuts.length c, .slice R a.own.dens.length d, .int .i64 K.len, .slice A9 K.cuts.length c9, .slice R9 K.dens.length d9, .int .i64 a.after, .int .i64 a.asked] 43)]) G) => (GE.h e).lt 1 rfl
                  simp only [pickOps, List.getElem?_toArray, List.getElem?_cons_zero, List.getElem?_cons_succ]
                  repeat (first | go_big_quiet_step (fail) | quiet_step (fail))
                  exact wpQuiet_nil rfl
                refine wpAnyT_done (by kernel_rfl) (fun wd35 hwd35 hRwd35 => ?_) _
                refine NoPanic.normal ?_
                have hB310 := hB309.next hwd35
                clear hB309 hwd35 hRwd35
                have hMn : Mx wa [] [⟨.slice B5 (n1 + 1) b5, 43, 8, n1 + 1, xs1 ++ [.int .i64 a.own.len, .slice A a.own.cuts.length c, .slice R a.own.dens.length d, .int .i64 K.len, .slice A9 K.cuts.length c9, .slice R9 K.dens.length d9, .int .i64 a.after, .int .i64 a.asked]⟩, ⟨.slice B6 (n2 + 1) b6, 43, 8, n2 + 1, xs2 ++ [.int .i64 a.told.len, .slice A' a.told.cuts.length c', .slice R' a.told.dens.length d', .int .i64 a.own.len, .slice A a.own.cuts.length c, .slice R a.own.dens.length d, .int .i64 (-1), .int .i64 0]⟩] wd35 := hB310.sub0
                clear hB310
                have hnn1 : n1 + 1 = ((othL acs ks ra.acs).take (k + 1)).length := by rw [HT1.out, List.length_append, ← HN1.out]; rfl
                have hnn2 : n2 + 1 = ((tldL acs).take (k + 1)).length := by rw [HT2.out, List.length_append, ← HN2.out]; rfl
                have HM2 := Lib.hid (show ∃ v1 v2 : Value, v1 = .slice B5 (n1 + 1) b5 ∧ v2 = .slice B6 (n2 + 1) b6 ∧ Mx wa [] [⟨v1, 43, 8, ((othL acs ks ra.acs).take (k + 1)).length, xs1 ++ [.int .i64 a.own.len, .slice A a.own.cuts.length c, .slice R a.own.dens.length d, .int .i64 K.len, .slice A9 K.cuts.length c9, .slice R9 K.dens.length d9, .int .i64 a.after, .int .i64 a.asked]⟩, ⟨v2, 43, 8, ((tldL acs).take (k + 1)).length, xs2 ++ [.int .i64 a.told.len, .slice A' a.told.cuts.length c', .slice R' a.told.dens.length d', .int .i64 a.own.len, .slice A a.own.cuts.length c, .slice R a.own.dens.length d, .int .i64 (-1), .int .i64 0]⟩] wd35 from ⟨_, _, rfl, rfl, by rw [← hnn1, ← hnn2]; exact hMn⟩)
                have HL1_ := Lib.hid (show Lay kAc w ((othL acs ks ra.acs).take (k + 1)) (xs1 ++ [.int .i64 a.own.len, .slice A a.own.cuts.length c, .slice R a.own.dens.length d, .int .i64 K.len, .slice A9 K.cuts.length c9, .slice R9 K.dens.length d9, .int .i64 a.after, .int .i64 a.asked]) by rw [HT1.out]; exact HE1.out.add (by have := (HMr.out.row 0 rfl).1; rw [← HN1.out]; exact this) HEX.out)
                have HL2_ := Lib.hid (show Lay kAc w ((tldL acs).take (k + 1)) (xs2 ++ [.int .i64 a.told.len, .slice A' a.told.cuts.length c', .slice R' a.told.dens.length d', .int .i64 a.own.len, .slice A a.own.cuts.length c, .slice R a.own.dens.length d, .int .i64 (-1), .int .i64 0]) by rw [HT2.out]; exact HE2.out.add (by have := (HMr.out.row 1 rfl).1; rw [← HN2.out]; exact this) HEY.out)
                clear hMn hnn1 hnn2
                go_wp2_with fail
                obtain ⟨v1, v2, e1, e2, hM3⟩ := HM2.out
                exact ⟨⟨k + 1, v1, v2, _, _, HLE.out.1, e1, e2, by go_num, hM3, HL1_.out, HL2_.out⟩, by simpa [intOf] using HLE.out.2⟩
            have b7 : (a.after == 0) = false := by simpa using e0
            have HAF := Lib.hid e0
            clear e0
            go_upto_region 19 with fail
            clear c_y z_y b7
            have HXO := Lib.hid (show oth a K y.asked = ⟨a.own, K, a.after, a.asked⟩ from oth_yes HCD.out)
            have HYO := Lib.hid (show tld a = ⟨a.own, a.told, a.after, a.asked⟩ from tld_no HAF.out)
            have HEX := Lib.hid (show kAc.El w (oth a K y.asked) [.int .i64 a.own.len, .slice A a.own.cuts.length c, .slice R a.own.dens.length d, .int .i64 K.len, .slice A9 K.cuts.length c9, .slice R9 K.dens.length d9, .int .i64 a.after, .int .i64 a.asked] by rw [HXO.out]; exact ac_el HCC.out.1 HCC.out.2.2 ⟨HAW.out.a0, HAW.out.a1, HAW.out.k0, HAW.out.k1⟩)
            have HEY := Lib.hid (show kAc.El w (tld a) [.int .i64 a.own.len, .slice A a.own.cuts.length c, .slice R a.own.dens.length d, .int .i64 a.told.len, .slice A' a.told.cuts.length c', .slice R' a.told.dens.length d', .int .i64 a.after, .int .i64 a.asked] by rw [HYO.out]; exact ac_el HCC.out.1 HCC.out.2.1 ⟨HAW.out.a0, HAW.out.a1, HAW.out.k0, HAW.out.k1⟩)
            have hRR : Mx wa [(g7, .cells #[.int .i64 a.own.len, .slice A a.own.cuts.length c, .slice R a.own.dens.length d, .int .i64 a.told.len, .slice A' a.told.cuts.length c', .slice R' a.told.dens.length d', .int .i64 a.after, .int .i64 a.asked] 43), (g6, .cells #[.int .i64 a.own.len, .slice A a.own.cuts.length c, .slice R a.own.dens.length d, .int .i64 K.len, .slice A9 K.cuts.length c9, .slice R9 K.dens.length d9, .int .i64 a.after, .int .i64 a.asked] 43)] [⟨.slice B1 n1 b1, 43, 8, n1, xs1⟩, ⟨.slice B2 n2 b2, 43, 8, n2, xs2⟩] wp_ := Mx.onto HMr.out hMp
            clear hMp
            go_wp2_with fail
            refine wp_region_T (Bx wa [(g7, .cells #[.int .i64 a.own.len, .slice A a.own.cuts.length c, .slice R a.own.dens.length d, .int .i64 a.told.len, .slice A' a.told.cuts.length c', .slice R' a.told.dens.length d', .int .i64 a.after, .int .i64 a.asked] 43), (g6, .cells #[.int .i64 a.own.len, .slice A a.own.cuts.length c, .slice R a.own.dens.length d, .int .i64 K.len, .slice A9 K.cuts.length c9, .slice R9 K.dens.length d9, .int .i64 a.after, .int .i64 a.asked] 43)]) 10 (by kernel_rfl) (by rfl) ((hRR.keep (List.Sublist.cons_cons _ (List.Sublist.cons_cons _ (List.nil_sublist _)))).drew) (fun wq36 hbq => ?_)
            have hB301 := hRR.next hbq
            clear hRR hbq
            refine wpAnyT_go (Bx.grows _ _) (hB301.keep (List.Sublist.cons_cons _ (List.Sublist.cons_cons _ (List.nil_sublist _)))) [0, 1, 4, 5] 6 (by kernel_rfl) ?_
            apply Exists.intro
            refine ⟨fun G hG hN => ?_, ?_⟩
            · have c_y := fun (e : GE (Bx wa [(g7, .cells #[.int .i64 a.own.len, .slice A a.own.cuts.length c, .slice R a.own.dens.length d, .int .i64 a.told.len, .slice A' a.told.cuts.length c', .slice R' a.told.dens.length d', .int .i64 a.after, .int .i64 a.asked] 43), (g6, .cells #[.int .i64 a.own.len, .slice A a.own.cuts.length c, .slice R a.own.dens.length d, .int .i64 K.len, .slice A9 K.cuts.length c9, .slice R9 K.dens.length d9, .int .i64 a.after, .int .i64 a.asked] 43)]) G) j => cell_of_row e.w _ j _ _ _ ((GE.h e).get 0 rfl)
              have z_y := fun (e : GE (Bx wa [(g7, .cells #[.int .i64 a.own.len, .slice A a.own.cuts.length c, .slice R a.own.dens.length d, .int .i64 a.told.len, .slice A' a.told.cuts.length c', .slice R' a.told.dens.length d', .int .i64 a.after, .int .i64 a.asked] 43), (g6, .cells #[.int .i64 a.own.len, .slice A a.own.cuts.length c, .slice R a.own.dens.length d, .int .i64 K.len, .slice A9 K.cuts.length c9, .slice R9 K.dens.length d9, .int .i64 a.after, .int .i64 a.asked] 43)]) G) => (GE.h e).lt 0 rfl
              have c_x := fun (e : GE (Bx wa [(g7, .cells #[.int .i64 a.own.len, .slice A a.own.cuts.length c, .slice R a.own.dens.length d, .int .i64 a.told.len, .slice A' a.told.cuts.length c', .slice R' a.told.dens.length d', .int .i64 a.after, .int .i64 a.asked] 43), (g6, .cells #[.int .i64 a.own.len, .slice A a.own.cuts.length c, .slice R a.own.dens.length d, .int .i64 K.len, .slice A9 K.cuts.length c9, .slice R9 K.dens.length d9, .int .i64 a.after, .int .i64 a.asked] 43)]) G) j => cell_of_row e.w _ j _ _ _ ((GE.h e).get 1 rfl)
              have z_x := fun (e : GE (Bx wa [(g7, .cells #[.int .i64 a.own.len, .slice A a.own.cuts.length c, .slice R a.own.dens.length d, .int .i64 a.told.len, .slice A' a.told.cuts.length c', .slice R' a.told.dens.length d', .int .i64 a.after, .int .i64 a.asked] 43), (g6, .cells #[.int .i64 a.own.len, .slice A a.own.cuts.length c, .slice R a.own.dens.length d, .int .i64 K.len, .slice A9 K.cuts.length c9, .slice R9 K.dens.length d9, .int .i64 a.after, .int .i64 a.asked] 43)]) G) => (GE.h e).lt 1 rfl
              simp only [pickOps, List.getElem?_toArray, List.getElem?_cons_zero, List.getElem?_cons_succ]
              repeat (first | go_big_quiet_step (fail) | quiet_step (fail))
              exact wpQuiet_nil rfl
            refine wpAnyT_all (rs := [2, 6]) (by kernel_rfl) (by simp) (fun wa37 hwa37 hRwa37 i hi => ?_)
            have hB302 := hB301.next hwa37
            clear hB301 hwa37 hRwa37
            rcases List.mem_cons.1 hi with rfl | hi
            · refine wpOp_step rfl (fun Kc hKc => ?_)
              go_simp
              have hB303 := hB302.new (g := wa37.heap.size) rfl (.cells #[.int .i64 a.own.len, .slice A a.own.cuts.length c, .slice R a.own.dens.length d, .int .i64 K.len, .slice A9 K.cuts.length c9, .slice R9 K.dens.length d9, .int .i64 a.after, .int .i64 a.asked] 43)
              refine hKc _ _ ⟨(hB303.keep (List.Sublist.cons _ (List.Sublist.cons_cons _ (List.Sublist.cons_cons _ (List.nil_sublist _))))), ?_⟩
              clear hKc Kc hB302
              generalize wa37.heap.size = gl1 at *
              generalize wa37.alloc _ = wb38 at *
              refine wpAnyT_all (rs := [3, 6]) (by kernel_rfl) (by simp) (fun wa39 hwa39 hRwa39 i hi => ?_)
              have hB304 := hB303.next hwa39
              clear hB303 hwa39 hRwa39
              rcases List.mem_cons.1 hi with rfl | hi
              · refine wpOp_step rfl (fun Kc hKc => ?_)
                refine step_append_any _ rfl (.tmp 120) (.tmp 122) 22 rfl wa.heap.size 43 i0 (.agg #[.int .i64 0, .slice none 0 0, .slice none 0 0, .int .i64 0, .slice none 0 0, .slice none 0 0, .int .i64 0, .int .i64 0]) 8 128 Try.underlying22 hi0 hz0 hz1 hz2 rfl (by omega) (.slice B1 n1 b1) n1 xs1 rfl (hB304.row 0 rfl) _ (some ⟨gl1, 0, none⟩) 1 1 [.int .i64 a.own.len, .slice A a.own.cuts.length c, .slice R a.own.dens.length d, .int .i64 K.len, .slice A9 K.cuts.length c9, .slice R9 K.dens.length d9, .int .i64 a.after, .int .i64 a.asked] rfl (reads_lit (n := 1) (s := 8) (hB304.get 0 rfl) rfl) (by intro u hu; simp at hu; rcases hu with rfl | rfl | rfl | rfl | rfl | rfl | rfl | rfl <;> rfl) (by have := HNL.out; unfold maxLen; omega) (by have := HNL.out; omega) hB304.below.size ?_
                intro v5 wb40 hown hgr hat
                obtain ⟨B5, b5, rfl, _, _⟩ := own_nil_len hown
                have hB305 := hB304.grow 0 rfl hgr hown hat
                refine hKc _ _ ⟨(hB305.keep (List.Sublist.cons _ (List.Sublist.cons_cons _ (List.Sublist.cons_cons _ (List.nil_sublist _))))), ?_⟩
                clear hKc Kc hB304 hown hgr hat
                refine wpAnyT_all (rs := [6]) (by kernel_rfl) (by simp) (fun wa41 hwa41 hRwa41 i hi => ?_)
                have hB306 := hB305.next hwa41
                clear hB305 hwa41 hRwa41
                obtain rfl := List.mem_singleton.1 hi
                refine wpOp_step rfl (fun Kc hKc => ?_)
                go_simp
                have hB307 := hB306.new (g := wa41.heap.size) rfl (.cells #[.int .i64 a.own.len, .slice A a.own.cuts.length c, .slice R a.own.dens.length d, .int .i64 a.told.len, .slice A' a.told.cuts.length c', .slice R' a.told.dens.length d', .int .i64 a.after, .int .i64 a.asked] 43)
                refine hKc _ _ ⟨(hB307.keep (List.Sublist.cons _ (List.Sublist.cons _ (List.Sublist.cons_cons _ (List.Sublist.cons_cons _ (List.nil_sublist _)))))), ?_⟩
                clear hKc Kc hB306
                generalize wa41.heap.size = gl2 at *
                generalize wa41.alloc _ = wb42 at *
                refine wpAnyT_all (rs := [7]) (by kernel_rfl) (by simp) (fun wa43 hwa43 hRwa43 i hi => ?_)
                have hB308 := hB307.next hwa43
                clear hB307 hwa43 hRwa43
                obtain rfl := List.mem_singleton.1 hi
                refine wpOp_step rfl (fun Kc hKc => ?_)
                refine step_append_any _ rfl (.tmp 124) (.tmp 126) 22 rfl wa.heap.size 43 i0 (.agg #[.int .i64 0, .slice none 0 0, .slice none 0 0, .int .i64 0, .slice none 0 0, .slice none 0 0, .int .i64 0, .int .i64 0]) 8 128 Try.underlying22 hi0 hz0 hz1 hz2 rfl (by omega) (.slice B2 n2 b2) n2 xs2 rfl (hB308.row 1 rfl) _ (some ⟨gl2, 0, none⟩) 1 1 [.int .i64 a.own.len, .slice A a.own.cuts.length c, .slice R a.own.dens.length d, .int .i64 a.told.len, .slice A' a.told.cuts.length c', .slice R' a.told.dens.length d', .int .i64 a.after, .int .i64 a.asked] rfl (reads_lit (n := 1) (s := 8) (hB308.get 0 rfl) rfl) (by intro u hu; simp at hu; rcases hu with rfl | rfl | rfl | rfl | rfl | rfl | rfl | rfl <;> rfl) (by have := HNL.out; unfold maxLen; omega) (by have := HNL.out; omega) hB308.below.size ?_
                intro v6 wb44 hown hgr hat
                obtain ⟨B6, b6, rfl, _, _⟩ := own_nil_len hown
                have hB309 := hB308.grow 1 rfl hgr hown hat
                refine hKc _ _ ⟨(hB309.keep (List.Sublist.cons _ (List.Sublist.cons _ (List.Sublist.cons_cons _ (List.Sublist.cons_cons _ (List.nil_sublist _)))))), ?_⟩
                clear hKc Kc hB308 hown hgr hat
                refine wpAnyT_go (Bx.grows _ _) (hB309.keep (List.Sublist.cons _ (List.Sublist.cons _ (List.Sublist.cons_cons _ (List.Sublist.cons_cons _ (List.nil_sublist _)))))) [8, 9] 0 (by kernel_rfl) ?_
                apply Exists.intro
                refine ⟨fun G hG hN => ?_, ?_⟩
                · have c_y := fun (e : GE (Bx wa [(g7, .cells #[.int .i64 a.own.len, .slice A a.own.cuts.length c, .slice R a.own.dens.length d, .int .i64 a.told.len, .slice A' a.told.cuts.length c', .slice R' a.told.dens.length d', .int .i64 a.after, .int .i64 a.asked] 43), (g6, .cells #[.int .i64 a.own.len, .slice A a.own.cuts.length c, .slice R a.own.dens.length d, .int .i64 K.len, .slice A9 K.cuts.length c9, .slice R9 K.dens.length d9, .int .i64 a.after, .int .i64 a.asked] 43)]) G) j => cell_of_row e.w _ j _ _ _ ((GE.h e).get 0 rfl)
                  have z_y := fun (e : GE (Bx wa [(g7, .cells #[.int .i64 a.own.len, .slice A a.own.cuts.length c, .slice R a.own.dens.length d, .int .i64 a.told.len, .slice A' a.told.cuts.length c', .slice R' a.told.dens.length d', .int .i64 a.after, .int .i64 a.asked] 43), (g6, .cells #[.int .i64 a.own.len, .slice A a.own.cuts.length c, .slice R a.own.dens.length d, .int .i64 K.len, .slice A9 K.cuts.length c9, .slice R9 K.dens.length d9, .int .i64 a.after, .int .i64 a.asked] 43)]) G) => (GE.h e).lt 0 rfl
                  have c_x := fun (e : GE (Bx wa [(g7, .cells #[.int .i64 a.own.len, .slice A a.own.cuts.length c, .slice R a.own.dens.length d, .int .i64 a.told.len, .slice A' a.told.cuts.length c', .slice R' a.told.dens.length d', .int .i64 a.after, .int .i64 a.asked] 43), (g6, .cells #[.int .i64 a.own.len, .slice A a.own.cuts.length c, .slice R a.own.dens.length d, .int .i64 K.len, .slice A9 K.cuts.length c9, .slice R9 K.dens.length d9, .int .i64 a.after, .int .i64 a.asked] 43)]) G) j => cell_of_row e.w _ j _ _ _ ((GE.h e).get 1 rfl)
                  have z_x := fun (e : GE (Bx wa [(g7, .cells #[.int .i64 a.own.len, .slice A a.own.cuts.length c, .slice R a.own.dens.length d, .int .i64 a.told.len, .slice A' a.told.cuts.length c', .slice R' a.told.dens.length d', .int .i64 a.after, .int .i64 a.asked] 43), (g6, .cells #[.int .i64 a.own.len, .slice A a.own.cuts.length c, .slice R a.own.dens.length d, .int .i64 K.len, .slice A9 K.cuts.length c9, .slice R9 K.dens.length d9, .int .i64 a.after, .int .i64 a.asked] 43)]) G) => (GE.h e).lt 1 rfl
                  simp only [pickOps, List.getElem?_toArray, List.getElem?_cons_zero, List.getElem?_cons_succ]
                  repeat (first | go_big_quiet_step (fail) | quiet_step (fail))
                  exact wpQuiet_nil rfl
                refine wpAnyT_done (by kernel_rfl) (fun wd45 hwd45 hRwd45 => ?_) _
                refine NoPanic.normal ?_
                have hB310 := hB309.next hwd45
                clear hB309 hwd45 hRwd45
                have hMn : Mx wa [] [⟨.slice B5 (n1 + 1) b5, 43, 8, n1 + 1, xs1 ++ [.int .i64 a.own.len, .slice A a.own.cuts.length c, .slice R a.own.dens.length d, .int .i64 K.len, .slice A9 K.cuts.length c9, .slice R9 K.dens.length d9, .int .i64 a.after, .int .i64 a.asked]⟩, ⟨.slice B6 (n2 + 1) b6, 43, 8, n2 + 1, xs2 ++ [.int .i64 a.own.len, .slice A a.own.cuts.length c, .slice R a.own.dens.length d, .int .i64 a.told.len, .slice A' a.told.cuts.length c', .slice R' a.told.dens.length d', .int .i64 a.after, .int .i64 a.asked]⟩] wd45 := hB310.sub0
                clear hB310
                have hnn1 : n1 + 1 = ((othL acs ks ra.acs).take (k + 1)).length := by rw [HT1.out, List.length_append, ← HN1.out]; rfl
                have hnn2 : n2 + 1 = ((tldL acs).take (k + 1)).length := by rw [HT2.out, List.length_append, ← HN2.out]; rfl
                have HM2 := Lib.hid (show ∃ v1 v2 : Value, v1 = .slice B5 (n1 + 1) b5 ∧ v2 = .slice B6 (n2 + 1) b6 ∧ Mx wa [] [⟨v1, 43, 8, ((othL acs ks ra.acs).take (k + 1)).length, xs1 ++ [.int .i64 a.own.len, .slice A a.own.cuts.length c, .slice R a.own.dens.length d, .int .i64 K.len, .slice A9 K.cuts.length c9, .slice R9 K.dens.length d9, .int .i64 a.after, .int .i64 a.asked]⟩, ⟨v2, 43, 8, ((tldL acs).take (k + 1)).length, xs2 ++ [.int .i64 a.own.len, .slice A a.own.cuts.length c, .slice R a.own.dens.length d, .int .i64 a.told.len, .slice A' a.told.cuts.length c', .slice R' a.told.dens.length d', .int .i64 a.after, .int .i64 a.asked]⟩] wd45 from ⟨_, _, rfl, rfl, by rw [← hnn1, ← hnn2]; exact hMn⟩)
                have HL1_ := Lib.hid (show Lay kAc w ((othL acs ks ra.acs).take (k + 1)) (xs1 ++ [.int .i64 a.own.len, .slice A a.own.cuts.length c, .slice R a.own.dens.length d, .int .i64 K.len, .slice A9 K.cuts.length c9, .slice R9 K.dens.length d9, .int .i64 a.after, .int .i64 a.asked]) by rw [HT1.out]; exact HE1.out.add (by have := (HMr.out.row 0 rfl).1; rw [← HN1.out]; exact this) HEX.out)
                have HL2_ := Lib.hid (show Lay kAc w ((tldL acs).take (k + 1)) (xs2 ++ [.int .i64 a.own.len, .slice A a.own.cuts.length c, .slice R a.own.dens.length d, .int .i64 a.told.len, .slice A' a.told.cuts.length c', .slice R' a.told.dens.length d', .int .i64 a.after, .int .i64 a.asked]) by rw [HT2.out]; exact HE2.out.add (by have := (HMr.out.row 1 rfl).1; rw [← HN2.out]; exact this) HEY.out)
                clear hMn hnn1 hnn2
                go_wp2_with fail
                obtain ⟨v1, v2, e1, e2, hM3⟩ := HM2.out
                exact ⟨⟨k + 1, v1, v2, _, _, HLE.out.1, e1, e2, by go_num, hM3, HL1_.out, HL2_.out⟩, by simpa [intOf] using HLE.out.2⟩
              · obtain rfl := List.mem_singleton.1 hi
                refine wpOp_step rfl (fun Kc hKc => ?_)
                go_simp
                have hB305 := hB304.new (g := wa39.heap.size) rfl (.cells #[.int .i64 a.own.len, .slice A a.own.cuts.length c, .slice R a.own.dens.length d, .int .i64 a.told.len, .slice A' a.told.cuts.length c', .slice R' a.told.dens.length d', .int .i64 a.after, .int .i64 a.asked] 43)
                refine hKc _ _ ⟨(hB305.keep (List.Sublist.cons _ (List.Sublist.cons _ (List.Sublist.cons_cons _ (List.Sublist.cons_cons _ (List.nil_sublist _)))))), ?_⟩
                clear hKc Kc hB304
                generalize wa39.heap.size = gl2 at *
                generalize wa39.alloc _ = wb46 at *
                refine wpAnyT_all (rs := [3]) (by kernel_rfl) (by simp) (fun wa47 hwa47 hRwa47 i hi => ?_)
                have hB306 := hB305.next hwa47
                clear hB305 hwa47 hRwa47
                obtain rfl := List.mem_singleton.1 hi
                refine wpOp_step rfl (fun Kc hKc => ?_)
                refine step_append_any _ rfl (.tmp 120) (.tmp 122) 22 rfl wa.heap.size 43 i0 (.agg #[.int .i64 0, .slice none 0 0, .slice none 0 0, .int .i64 0, .slice none 0 0, .slice none 0 0, .int .i64 0, .int .i64 0]) 8 128 Try.underlying22 hi0 hz0 hz1 hz2 rfl (by omega) (.slice B1 n1 b1) n1 xs1 rfl (hB306.row 0 rfl) _ (some ⟨gl1, 0, none⟩) 1 1 [.int .i64 a.own.len, .slice A a.own.cuts.length c, .slice R a.own.dens.length d, .int .i64 K.len, .slice A9 K.cuts.length c9, .slice R9 K.dens.length d9, .int .i64 a.after, .int .i64 a.asked] rfl (reads_lit (n := 1) (s := 8) (hB306.get 1 rfl) rfl) (by intro u hu; simp at hu; rcases hu with rfl | rfl | rfl | rfl | rfl | rfl | rfl | rfl <;> rfl) (by have := HNL.out; unfold maxLen; omega) (by have := HNL.out; omega) hB306.below.size ?_
                intro v5 wb48 hown hgr hat
                obtain ⟨B5, b5, rfl, _, _⟩ := own_nil_len hown
                have hB307 := hB306.grow 0 rfl hgr hown hat
                refine hKc _ _ ⟨(hB307.keep (List.Sublist.cons _ (List.Sublist.cons _ (List.Sublist.cons_cons _ (List.Sublist.cons_cons _ (List.nil_sublist _)))))), ?_⟩
                clear hKc Kc hB306 hown hgr hat
                refine wpAnyT_all (rs := [7]) (by kernel_rfl) (by simp) (fun wa49 hwa49 hRwa49 i hi => ?_)
                have hB308 := hB307.next hwa49
                clear hB307 hwa49 hRwa49
                obtain rfl := List.mem_singleton.1 hi
                refine wpOp_step rfl (fun Kc hKc => ?_)
                refine step_append_any _ rfl (.tmp 124) (.tmp 126) 22 rfl wa.heap.size 43 i0 (.agg #[.int .i64 0, .slice none 0 0, .slice none 0 0, .int .i64 0, .slice none 0 0, .slice none 0 0, .int .i64 0, .int .i64 0]) 8 128 Try.underlying22 hi0 hz0 hz1 hz2 rfl (by omega) (.slice B2 n2 b2) n2 xs2 rfl (hB308.row 1 rfl) _ (some ⟨gl2, 0, none⟩) 1 1 [.int .i64 a.own.len, .slice A a.own.cuts.length c, .slice R a.own.dens.length d, .int .i64 a.told.len, .slice A' a.told.cuts.length c', .slice R' a.told.dens.length d', .int .i64 a.after, .int .i64 a.asked] rfl (reads_lit (n := 1) (s := 8) (hB308.get 0 rfl) rfl) (by intro u hu; simp at hu; rcases hu with rfl | rfl | rfl | rfl | rfl | rfl | rfl | rfl <;> rfl) (by have := HNL.out; unfold maxLen; omega) (by have := HNL.out; omega) hB308.below.size ?_
                intro v6 wb50 hown hgr hat
                obtain ⟨B6, b6, rfl, _, _⟩ := own_nil_len hown
                have hB309 := hB308.grow 1 rfl hgr hown hat
                refine hKc _ _ ⟨(hB309.keep (List.Sublist.cons _ (List.Sublist.cons _ (List.Sublist.cons_cons _ (List.Sublist.cons_cons _ (List.nil_sublist _)))))), ?_⟩
                clear hKc Kc hB308 hown hgr hat
                refine wpAnyT_go (Bx.grows _ _) (hB309.keep (List.Sublist.cons _ (List.Sublist.cons _ (List.Sublist.cons_cons _ (List.Sublist.cons_cons _ (List.nil_sublist _)))))) [8, 9] 0 (by kernel_rfl) ?_
                apply Exists.intro
                refine ⟨fun G hG hN => ?_, ?_⟩
                · have c_y := fun (e : GE (Bx wa [(g7, .cells #[.int .i64 a.own.len, .slice A a.own.cuts.length c, .slice R a.own.dens.length d, .int .i64 a.told.len, .slice A' a.told.cuts.length c', .slice R' a.told.dens.length d', .int .i64 a.after, .int .i64 a.asked] 43), (g6, .cells #[.int .i64 a.own.len, .slice A a.own.cuts.length c, .slice R a.own.dens.length d, .int .i64 K.len, .slice A9 K.cuts.length c9, .slice R9 K.dens.length d9, .int .i64 a.after, .int .i64 a.asked] 43)]) G) j => cell_of_row e.w _ j _ _ _ ((GE.h e).get 0 rfl)
                  have z_y := fun (e : GE (Bx wa [(g7, .cells #[.int .i64 a.own.len, .slice A a.own.cuts.length c, .slice R a.own.dens.length d, .int .i64 a.told.len, .slice A' a.told.cuts.length c', .slice R' a.told.dens.length d', .int .i64 a.after, .int .i64 a.asked] 43), (g6, .cells #[.int .i64 a.own.len, .slice A a.own.cuts.length c, .slice R a.own.dens.length d, .int .i64 K.len, .slice A9 K.cuts.length c9, .slice R9 K.dens.length d9, .int .i64 a.after, .int .i64 a.asked] 43)]) G) => (GE.h e).lt 0 rfl
                  have c_x := fun (e : GE (Bx wa [(g7, .cells #[.int .i64 a.own.len, .slice A a.own.cuts.length c, .slice R a.own.dens.length d, .int .i64 a.told.len, .slice A' a.told.cuts.length c', .slice R' a.told.dens.length d', .int .i64 a.after, .int .i64 a.asked] 43), (g6, .cells #[.int .i64 a.own.len, .slice A a.own.cuts.length c, .slice R a.own.dens.length d, .int .i64 K.len, .slice A9 K.cuts.length c9, .slice R9 K.dens.length d9, .int .i64 a.after, .int .i64 a.asked] 43)]) G) j => cell_of_row e.w _ j _ _ _ ((GE.h e).get 1 rfl)
                  have z_x := fun (e : GE (Bx wa [(g7, .cells #[.int .i64 a.own.len, .slice A a.own.cuts.length c, .slice R a.own.dens.length d, .int .i64 a.told.len, .slice A' a.told.cuts.length c', .slice R' a.told.dens.length d', .int .i64 a.after, .int .i64 a.asked] 43), (g6, .cells #[.int .i64 a.own.len, .slice A a.own.cuts.length c, .slice R a.own.dens.length d, .int .i64 K.len, .slice A9 K.cuts.length c9, .slice R9 K.dens.length d9, .int .i64 a.after, .int .i64 a.asked] 43)]) G) => (GE.h e).lt 1 rfl
                  simp only [pickOps, List.getElem?_toArray, List.getElem?_cons_zero, List.getElem?_cons_succ]
                  repeat (first | go_big_quiet_step (fail) | quiet_step (fail))
                  exact wpQuiet_nil rfl
                refine wpAnyT_done (by kernel_rfl) (fun wd51 hwd51 hRwd51 => ?_) _
                refine NoPanic.normal ?_
                have hB310 := hB309.next hwd51
                clear hB309 hwd51 hRwd51
                have hMn : Mx wa [] [⟨.slice B5 (n1 + 1) b5, 43, 8, n1 + 1, xs1 ++ [.int .i64 a.own.len, .slice A a.own.cuts.length c, .slice R a.own.dens.length d, .int .i64 K.len, .slice A9 K.cuts.length c9, .slice R9 K.dens.length d9, .int .i64 a.after, .int .i64 a.asked]⟩, ⟨.slice B6 (n2 + 1) b6, 43, 8, n2 + 1, xs2 ++ [.int .i64 a.own.len, .slice A a.own.cuts.length c, .slice R a.own.dens.length d, .int .i64 a.told.len, .slice A' a.told.cuts.length c', .slice R' a.told.dens.length d', .int .i64 a.after, .int .i64 a.asked]⟩] wd51 := hB310.sub0
                clear hB310
                have hnn1 : n1 + 1 = ((othL acs ks ra.acs).take (k + 1)).length := by rw [HT1.out, List.length_append, ← HN1.out]; rfl
                have hnn2 : n2 + 1 = ((tldL acs).take (k + 1)).length := by rw [HT2.out, List.length_append, ← HN2.out]; rfl
                have HM2 := Lib.hid (show ∃ v1 v2 : Value, v1 = .slice B5 (n1 + 1) b5 ∧ v2 = .slice B6 (n2 + 1) b6 ∧ Mx wa [] [⟨v1, 43, 8, ((othL acs ks ra.acs).take (k + 1)).length, xs1 ++ [.int .i64 a.own.len, .slice A a.own.cuts.length c, .slice R a.own.dens.length d, .int .i64 K.len, .slice A9 K.cuts.length c9, .slice R9 K.dens.length d9, .int .i64 a.after, .int .i64 a.asked]⟩, ⟨v2, 43, 8, ((tldL acs).take (k + 1)).length, xs2 ++ [.int .i64 a.own.len, .slice A a.own.cuts.length c, .slice R a.own.dens.length d, .int .i64 a.told.len, .slice A' a.told.cuts.length c', .slice R' a.told.dens.length d', .int .i64 a.after, .int .i64 a.asked]⟩] wd51 from ⟨_, _, rfl, rfl, by rw [← hnn1, ← hnn2]; exact hMn⟩)
                have HL1_ := Lib.hid (show Lay kAc w ((othL acs ks ra.acs).take (k + 1)) (xs1 ++ [.int .i64 a.own.len, .slice A a.own.cuts.length c, .slice R a.own.dens.length d, .int .i64 K.len, .slice A9 K.cuts.length c9, .slice R9 K.dens.length d9, .int .i64 a.after, .int .i64 a.asked]) by rw [HT1.out]; exact HE1.out.add (by have := (HMr.out.row 0 rfl).1; rw [← HN1.out]; exact this) HEX.out)
                have HL2_ := Lib.hid (show Lay kAc w ((tldL acs).take (k + 1)) (xs2 ++ [.int .i64 a.own.len, .slice A a.own.cuts.length c, .slice R a.own.dens.length d, .int .i64 a.told.len, .slice A' a.told.cuts.length c', .slice R' a.told.dens.length d', .int .i64 a.after, .int .i64 a.asked]) by rw [HT2.out]; exact HE2.out.add (by have := (HMr.out.row 1 rfl).1; rw [← HN2.out]; exact this) HEY.out)
                clear hMn hnn1 hnn2
                go_wp2_with fail
                obtain ⟨v1, v2, e1, e2, hM3⟩ := HM2.out
                exact ⟨⟨k + 1, v1, v2, _, _, HLE.out.1, e1, e2, by go_num, hM3, HL1_.out, HL2_.out⟩, by simpa [intOf] using HLE.out.2⟩
            · obtain rfl := List.mem_singleton.1 hi
              refine wpOp_step rfl (fun Kc hKc => ?_)
              go_simp
              have hB303 := hB302.new (g := wa37.heap.size) rfl (.cells #[.int .i64 a.own.len, .slice A a.own.cuts.length c, .slice R a.own.dens.length d, .int .i64 a.told.len, .slice A' a.told.cuts.length c', .slice R' a.told.dens.length d', .int .i64 a.after, .int .i64 a.asked] 43)
              refine hKc _ _ ⟨(hB303.keep (List.Sublist.cons _ (List.Sublist.cons_cons _ (List.Sublist.cons_cons _ (List.nil_sublist _))))), ?_⟩
              clear hKc Kc hB302
              generalize wa37.heap.size = gl2 at *
              generalize wa37.alloc _ = wb52 at *
              refine wpAnyT_all (rs := [2]) (by kernel_rfl) (by simp) (fun wa53 hwa53 hRwa53 i hi => ?_)
              have hB304 := hB303.next hwa53
              clear hB303 hwa53 hRwa53
              obtain rfl := List.mem_singleton.1 hi
              refine wpOp_step rfl (fun Kc hKc => ?_)
              go_simp
              have hB305 := hB304.new (g := wa53.heap.size) rfl (.cells #[.int .i64 a.own.len, .slice A a.own.cuts.length c, .slice R a.own.dens.length d, .int .i64 K.len, .slice A9 K.cuts.length c9, .slice R9 K.dens.length d9, .int .i64 a.after, .int .i64 a.asked] 43)
              refine hKc _ _ ⟨(hB305.keep (List.Sublist.cons _ (List.Sublist.cons _ (List.Sublist.cons_cons _ (List.Sublist.cons_cons _ (List.nil_sublist _)))))), ?_⟩
              clear hKc Kc hB304
              generalize wa53.heap.size = gl1 at *
              generalize wa53.alloc _ = wb54 at *
              refine wpAnyT_all (rs := [3]) (by kernel_rfl) (by simp) (fun wa55 hwa55 hRwa55 i hi => ?_)
              have hB306 := hB305.next hwa55
              clear hB305 hwa55 hRwa55
              obtain rfl := List.mem_singleton.1 hi
              refine wpOp_step rfl (fun Kc hKc => ?_)
              refine step_append_any _ rfl (.tmp 120) (.tmp 122) 22 rfl wa.heap.size 43 i0 (.agg #[.int .i64 0, .slice none 0 0, .slice none 0 0, .int .i64 0, .slice none 0 0, .slice none 0 0, .int .i64 0, .int .i64 0]) 8 128 Try.underlying22 hi0 hz0 hz1 hz2 rfl (by omega) (.slice B1 n1 b1) n1 xs1 rfl (hB306.row 0 rfl) _ (some ⟨gl1, 0, none⟩) 1 1 [.int .i64 a.own.len, .slice A a.own.cuts.length c, .slice R a.own.dens.length d, .int .i64 K.len, .slice A9 K.cuts.length c9, .slice R9 K.dens.length d9, .int .i64 a.after, .int .i64 a.asked] rfl (reads_lit (n := 1) (s := 8) (hB306.get 0 rfl) rfl) (by intro u hu; simp at hu; rcases hu with rfl | rfl | rfl | rfl | rfl | rfl | rfl | rfl <;> rfl) (by have := HNL.out; unfold maxLen; omega) (by have := HNL.out; omega) hB306.below.size ?_
              intro v5 wb56 hown hgr hat
              obtain ⟨B5, b5, rfl, _, _⟩ := own_nil_len hown
              have hB307 := hB306.grow 0 rfl hgr hown hat
              refine hKc _ _ ⟨(hB307.keep (List.Sublist.cons _ (List.Sublist.cons _ (List.Sublist.cons_cons _ (List.Sublist.cons_cons _ (List.nil_sublist _)))))), ?_⟩
              clear hKc Kc hB306 hown hgr hat
              refine wpAnyT_all (rs := [7]) (by kernel_rfl) (by simp) (fun wa57 hwa57 hRwa57 i hi => ?_)
              have hB308 := hB307.next hwa57
              clear hB307 hwa57 hRwa57
              obtain rfl := List.mem_singleton.1 hi
              refine wpOp_step rfl (fun Kc hKc => ?_)
              refine step_append_any _ rfl (.tmp 124) (.tmp 126) 22 rfl wa.heap.size 43 i0 (.agg #[.int .i64 0, .slice none 0 0, .slice none 0 0, .int .i64 0, .slice none 0 0, .slice none 0 0, .int .i64 0, .int .i64 0]) 8 128 Try.underlying22 hi0 hz0 hz1 hz2 rfl (by omega) (.slice B2 n2 b2) n2 xs2 rfl (hB308.row 1 rfl) _ (some ⟨gl2, 0, none⟩) 1 1 [.int .i64 a.own.len, .slice A a.own.cuts.length c, .slice R a.own.dens.length d, .int .i64 a.told.len, .slice A' a.told.cuts.length c', .slice R' a.told.dens.length d', .int .i64 a.after, .int .i64 a.asked] rfl (reads_lit (n := 1) (s := 8) (hB308.get 1 rfl) rfl) (by intro u hu; simp at hu; rcases hu with rfl | rfl | rfl | rfl | rfl | rfl | rfl | rfl <;> rfl) (by have := HNL.out; unfold maxLen; omega) (by have := HNL.out; omega) hB308.below.size ?_
              intro v6 wb58 hown hgr hat
              obtain ⟨B6, b6, rfl, _, _⟩ := own_nil_len hown
              have hB309 := hB308.grow 1 rfl hgr hown hat
              refine hKc _ _ ⟨(hB309.keep (List.Sublist.cons _ (List.Sublist.cons _ (List.Sublist.cons_cons _ (List.Sublist.cons_cons _ (List.nil_sublist _)))))), ?_⟩
              clear hKc Kc hB308 hown hgr hat
              refine wpAnyT_go (Bx.grows _ _) (hB309.keep (List.Sublist.cons _ (List.Sublist.cons _ (List.Sublist.cons_cons _ (List.Sublist.cons_cons _ (List.nil_sublist _)))))) [8, 9] 0 (by kernel_rfl) ?_
              apply Exists.intro
              refine ⟨fun G hG hN => ?_, ?_⟩
              · have c_y := fun (e : GE (Bx wa [(g7, .cells #[.int .i64 a.own.len, .slice A a.own.cuts.length c, .slice R a.own.dens.length d, .int .i64 a.told.len, .slice A' a.told.cuts.length c', .slice R' a.told.dens.length d', .int .i64 a.after, .int .i64 a.asked] 43), (g6, .cells #[.int .i64 a.own.len, .slice A a.own.cuts.length c, .slice R a.own.dens.length d, .int .i64 K.len, .slice A9 K.cuts.length c9, .slice R9 K.dens.length d9, .int .i64 a.after, .int .i64 a.asked] 43)]) G) j => cell_of_row e.w _ j _ _ _ ((GE.h e).get 0 rfl)
                have z_y := fun (e : GE (Bx wa [(g7, .cells #[.int .i64 a.own.len, .slice A a.own.cuts.length c, .slice R a.own.dens.length d, .int .i64 a.told.len, .slice A' a.told.cuts.length c', .slice R' a.told.dens.length d', .int .i64 a.after, .int .i64 a.asked] 43), (g6, .cells #[.int .i64 a.own.len, .slice A a.own.cuts.length c, .slice R a.own.dens.length d, .int .i64 K.len, .slice A9 K.cuts.length c9, .slice R9 K.dens.length d9, .int .i64 a.after, .int .i64 a.asked] 43)]) G) => (GE.h e).lt 0 rfl
                have c_x := fun (e : GE (Bx wa [(g7, .cells #[.int .i64 a.own.len, .slice A a.own.cuts.length c, .slice R a.own.dens.length d, .int .i64 a.told.len, .slice A' a.told.cuts.length c', .slice R' a.told.dens.length d', .int .i64 a.after, .int .i64 a.asked] 43), (g6, .cells #[.int .i64 a.own.len, .slice A a.own.cuts.length c, .slice R a.own.dens.length d, .int .i64 K.len, .slice A9 K.cuts.length c9, .slice R9 K.dens.length d9, .int .i64 a.after, .int .i64 a.asked] 43)]) G) j => cell_of_row e.w _ j _ _ _ ((GE.h e).get 1 rfl)
                have z_x := fun (e : GE (Bx wa [(g7, .cells #[.int .i64 a.own.len, .slice A a.own.cuts.length c, .slice R a.own.dens.length d, .int .i64 a.told.len, .slice A' a.told.cuts.length c', .slice R' a.told.dens.length d', .int .i64 a.after, .int .i64 a.asked] 43), (g6, .cells #[.int .i64 a.own.len, .slice A a.own.cuts.length c, .slice R a.own.dens.length d, .int .i64 K.len, .slice A9 K.cuts.length c9, .slice R9 K.dens.length d9, .int .i64 a.after, .int .i64 a.asked] 43)]) G) => (GE.h e).lt 1 rfl
                simp only [pickOps, List.getElem?_toArray, List.getElem?_cons_zero, List.getElem?_cons_succ]
                repeat (first | go_big_quiet_step (fail) | quiet_step (fail))
                exact wpQuiet_nil rfl
              refine wpAnyT_done (by kernel_rfl) (fun wd59 hwd59 hRwd59 => ?_) _
              refine NoPanic.normal ?_
              have hB310 := hB309.next hwd59
              clear hB309 hwd59 hRwd59
              have hMn : Mx wa [] [⟨.slice B5 (n1 + 1) b5, 43, 8, n1 + 1, xs1 ++ [.int .i64 a.own.len, .slice A a.own.cuts.length c, .slice R a.own.dens.length d, .int .i64 K.len, .slice A9 K.cuts.length c9, .slice R9 K.dens.length d9, .int .i64 a.after, .int .i64 a.asked]⟩, ⟨.slice B6 (n2 + 1) b6, 43, 8, n2 + 1, xs2 ++ [.int .i64 a.own.len, .slice A a.own.cuts.length c, .slice R a.own.dens.length d, .int .i64 a.told.len, .slice A' a.told.cuts.length c', .slice R' a.told.dens.length d', .int .i64 a.after, .int .i64 a.asked]⟩] wd59 := hB310.sub0
              clear hB310
              have hnn1 : n1 + 1 = ((othL acs ks ra.acs).take (k + 1)).length := by rw [HT1.out, List.length_append, ← HN1.out]; rfl
              have hnn2 : n2 + 1 = ((tldL acs).take (k + 1)).length := by rw [HT2.out, List.length_append, ← HN2.out]; rfl
              have HM2 := Lib.hid (show ∃ v1 v2 : Value, v1 = .slice B5 (n1 + 1) b5 ∧ v2 = .slice B6 (n2 + 1) b6 ∧ Mx wa [] [⟨v1, 43, 8, ((othL acs ks ra.acs).take (k + 1)).length, xs1 ++ [.int .i64 a.own.len, .slice A a.own.cuts.length c, .slice R a.own.dens.length d, .int .i64 K.len, .slice A9 K.cuts.length c9, .slice R9 K.dens.length d9, .int .i64 a.after, .int .i64 a.asked]⟩, ⟨v2, 43, 8, ((tldL acs).take (k + 1)).length, xs2 ++ [.int .i64 a.own.len, .slice A a.own.cuts.length c, .slice R a.own.dens.length d, .int .i64 a.told.len, .slice A' a.told.cuts.length c', .slice R' a.told.dens.length d', .int .i64 a.after, .int .i64 a.asked]⟩] wd59 from ⟨_, _, rfl, rfl, by rw [← hnn1, ← hnn2]; exact hMn⟩)
              have HL1_ := Lib.hid (show Lay kAc w ((othL acs ks ra.acs).take (k + 1)) (xs1 ++ [.int .i64 a.own.len, .slice A a.own.cuts.length c, .slice R a.own.dens.length d, .int .i64 K.len, .slice A9 K.cuts.length c9, .slice R9 K.dens.length d9, .int .i64 a.after, .int .i64 a.asked]) by rw [HT1.out]; exact HE1.out.add (by have := (HMr.out.row 0 rfl).1; rw [← HN1.out]; exact this) HEX.out)
              have HL2_ := Lib.hid (show Lay kAc w ((tldL acs).take (k + 1)) (xs2 ++ [.int .i64 a.own.len, .slice A a.own.cuts.length c, .slice R a.own.dens.length d, .int .i64 a.told.len, .slice A' a.told.cuts.length c', .slice R' a.told.dens.length d', .int .i64 a.after, .int .i64 a.asked]) by rw [HT2.out]; exact HE2.out.add (by have := (HMr.out.row 1 rfl).1; rw [← HN2.out]; exact this) HEY.out)
              clear hMn hnn1 hnn2
              go_wp2_with fail
              obtain ⟨v1, v2, e1, e2, hM3⟩ := HM2.out
              exact ⟨⟨k + 1, v1, v2, _, _, HLE.out.1, e1, e2, by go_num, hM3, HL1_.out, HL2_.out⟩, by simpa [intOf] using HLE.out.2⟩
          by_cases e2 : f < a.after
          · have HCD := Lib.hid (show a.after = -1 ∨ y.asked < a.after from Or.inr (by rw [← HFY.out]; exact e2))
            have c_y := fun j => cell_of_row _ _ j _ _ _ (hMc.get 0 rfl)
            have z_y := hMc.lt 0 rfl
            have c_x := fun j => cell_of_row _ _ j _ _ _ (hMc.get 1 rfl)
            have z_x := hMc.lt 1 rfl
            obtain ⟨y7, yb⟩ := HYC.out _ (bcall HW0.out HW0.out.size hMc.below)
            have h_a := HCA.out _ (bcall HW0.out HW0.out.size hMc.below)
            have c_a := fun j => cell_of_row _ _ j _ _ _ h_a
            have z_a := lt_some h_a
            clear h_a
            have b5 : (a.after == -1) = false := by simpa using e1
            have b6 : decide (f < a.after) = true := decide_eq_true e2
            go_wp2_with fail
            refine wp_region_ext (by kernel_rfl) (by kernel_rfl) ?_
            repeat (first | go_big_quiet_step (fail) | quiet_step (fail))
            refine wpQuiet_nil ?_
            rintro wt ⟨⟨wx_, hb⟩, rfl⟩
            have hwt := hMc.next hb
            clear hb hMc c_y z_y c_x z_x y7 yb c_a z_a b5 b6
            clear e1 e2
            obtain ⟨k0_, k1_, k2_, k3_⟩ := HCKW.out _ (HBa.out _ (bcall HW0.out HW0.out.size hwt.below))
            have c_x := fun j => cell_of_row _ _ j _ _ _ (hwt.get 1 rfl)
            have f_x := fun j => frozen_of_row _ _ j _ _ (hwt.get 1 rfl)
            have z_x := hwt.lt 1 rfl
            go_upto_region 17 with fail
            have hMp : Mx wb [(g7, .cells #[.int .i64 a.own.len, .slice A a.own.cuts.length c, .slice R a.own.dens.length d, .int .i64 a.told.len, .slice A' a.told.cuts.length c', .slice R' a.told.dens.length d', .int .i64 a.after, .int .i64 a.asked] 43), (g6, .cells #[.int .i64 a.own.len, .slice A a.own.cuts.length c, .slice R a.own.dens.length d, .int .i64 K.len, .slice A9 K.cuts.length c9, .slice R9 K.dens.length d9, .int .i64 a.after, .int .i64 a.asked] 43)] [] _ := ((hwt.set 1 rfl 3 (.int .i64 K.len)).set 1 rfl 4 (.slice A9 K.cuts.length c9)).set 1 rfl 5 (.slice R9 K.dens.length d9)
            clear c_x f_x z_x hwt k0_ k1_ k2_ k3_
            generalize ((World.setCell _ _ _).setCell _ _).setCell _ _ = wp_ at *
            have c_y := fun j => cell_of_row _ _ j _ _ _ (hMp.get 0 rfl)
            have z_y := hMp.lt 0 rfl
            by_cases e0 : a.after = 0
            · have b7 : (a.after == 0) = true := by simpa using e0
              have HAF := Lib.hid e0
              clear e0
              go_upto_region 18 with fail
              clear c_y z_y b7
              go_wp2_with fail
              refine wp_region_T (Bx wb []) 12 (by kernel_rfl) (by rfl) ((hMp.keep (List.nil_sublist _)).drew) (fun wq60 hbq => ?_)
              have hB201 := hMp.next hbq
              clear hMp hbq
              refine wpAnyT_go (Bx.grows _ _) (hB201.keep (List.nil_sublist _)) [0, 1, 2, 3, 4, 5, 6, 7, 8, 9, 10] 1 (by kernel_rfl) ?_
              apply Exists.intro
              refine ⟨fun G hG hN => ?_, ?_⟩
              · have q_0 := fun (e : GE (Bx wb []) G) => (HATW.out e.w (HBa.out _ (bcall HW0.out HW0.out.size (GE.h e).below))).1.c0
                have q_1 := fun (e : GE (Bx wb []) G) => (HATW.out e.w (HBa.out _ (bcall HW0.out HW0.out.size (GE.h e).below))).1.c1
                have q_2 := fun (e : GE (Bx wb []) G) => (HATW.out e.w (HBa.out _ (bcall HW0.out HW0.out.size (GE.h e).below))).1.c2
                have q_3 := fun (e : GE (Bx wb []) G) => (HATW.out e.w (HBa.out _ (bcall HW0.out HW0.out.size (GE.h e).below))).1.c3
                have q_4 := fun (e : GE (Bx wb []) G) => (HATW.out e.w (HBa.out _ (bcall HW0.out HW0.out.size (GE.h e).below))).1.c4
                have q_5 := fun (e : GE (Bx wb []) G) => (HATW.out e.w (HBa.out _ (bcall HW0.out HW0.out.size (GE.h e).below))).1.c5
                have q_6 := fun (e : GE (Bx wb []) G) => (HATW.out e.w (HBa.out _ (bcall HW0.out HW0.out.size (GE.h e).below))).1.c6
                have q_7 := fun (e : GE (Bx wb []) G) => (HATW.out e.w (HBa.out _ (bcall HW0.out HW0.out.size (GE.h e).below))).1.c7
                have q_b := fun (e : GE (Bx wb []) G) => (HATW.out e.w (HBa.out _ (bcall HW0.out HW0.out.size (GE.h e).below))).2
                simp only [pickOps, List.getElem?_toArray, List.getElem?_cons_zero, List.getElem?_cons_succ]
                repeat (first | go_big_quiet_step (fail) | quiet_step (fail))
                exact wpQuiet_nil rfl
              refine wpAnyT_all (rs := [11]) (by kernel_rfl) (by simp) (fun wa61 hwa61 hRwa61 i hi => ?_)
              have hB202 := hB201.next hwa61
              clear hB201 hwa61 hRwa61
              obtain rfl := List.mem_singleton.1 hi
              refine wpOp_step rfl (fun Kc hKc => ?_)
              have c_y := fun j => cell_of_row _ _ j _ _ _ (hB202.get 0 rfl)
              have z_y := hB202.lt 0 rfl
              have f_y := fun j => frozen_of_row _ _ j _ _ (hB202.get 0 rfl)
              go_simp
              have hB203 := hB202.put8 0 rfl (.int .i64 a.told.len) (.slice A' a.told.cuts.length c') (.slice R' a.told.dens.length d') (.int .i64 a.own.len) (.slice A a.own.cuts.length c) (.slice R a.own.dens.length d) (.int .i64 (-1)) (.int .i64 0)
              refine hKc _ _ ⟨(hB203.keep (List.nil_sublist _)), ?_⟩
              clear c_y z_y f_y hKc Kc hB202
              generalize ((((((((wa61.setCell _ _).setCell _ _).setCell _ _).setCell _ _).setCell _ _).setCell _ _).setCell _ _).setCell _ _) = wb62 at *
              refine wpAnyT_done (by kernel_rfl) (fun wd63 hwd63 hRwd63 => ?_) _
              refine NoPanic.normal ?_
              have hB204 := hB203.next hwd63
              clear hB203 hwd63 hRwd63
              have hMy := hB204
              clear hB204
              go_upto_region 19 with fail
              have HXO := Lib.hid (show oth a K y.asked = ⟨a.own, K, a.after, a.asked⟩ from oth_yes HCD.out)
              have HYO := Lib.hid (show tld a = ⟨a.told, a.own, -1, 0⟩ from tld_yes HAF.out)
              have HEX := Lib.hid (show kAc.El w (oth a K y.asked) [.int .i64 a.own.len, .slice A a.own.cuts.length c, .slice R a.own.dens.length d, .int .i64 K.len, .slice A9 K.cuts.length c9, .slice R9 K.dens.length d9, .int .i64 a.after, .int .i64 a.asked] by rw [HXO.out]; exact ac_el HCC.out.1 HCC.out.2.2 ⟨HAW.out.a0, HAW.out.a1, HAW.out.k0, HAW.out.k1⟩)
              have HEY := Lib.hid (show kAc.El w (tld a) [.int .i64 a.told.len, .slice A' a.told.cuts.length c', .slice R' a.told.dens.length d', .int .i64 a.own.len, .slice A a.own.cuts.length c, .slice R a.own.dens.length d, .int .i64 (-1), .int .i64 0] by rw [HYO.out]; exact ac_el HCC.out.2.1 HCC.out.1 ⟨by show (-9223372036854775808 : Int) ≤ -1; decide, by show (-1 : Int) ≤ 9223372036854775807; decide, by show (-9223372036854775808 : Int) ≤ 0; decide, by show (0 : Int) ≤ 9223372036854775807; decide⟩)
              have hRR : Mx wa [(g7, .cells #[.int .i64 a.told.len, .slice A' a.told.cuts.length c', .slice R' a.told.dens.length d', .int .i64 a.own.len, .slice A a.own.cuts.length c, .slice R a.own.dens.length d, .int .i64 (-1), .int .i64 0] 43), (g6, .cells #[.int .i64 a.own.len, .slice A a.own.cuts.length c, .slice R a.own.dens.length d, .int .i64 K.len, .slice A9 K.cuts.length c9, .slice R9 K.dens.length d9, .int .i64 a.after, .int .i64 a.asked] 43)] [⟨.slice B1 n1 b1, 43, 8, n1, xs1⟩, ⟨.slice B2 n2 b2, 43, 8, n2, xs2⟩] wd63 := Mx.onto HMr.out hMy
              clear hMy
              go_wp2_with fail
              refine wp_region_T (Bx wa [(g7, .cells #[.int .i64 a.told.len, .slice A' a.told.cuts.length c', .slice R' a.told.dens.length d', .int .i64 a.own.len, .slice A a.own.cuts.length c, .slice R a.own.dens.length d, .int .i64 (-1), .int .i64 0] 43), (g6, .cells #[.int .i64 a.own.len, .slice A a.own.cuts.length c, .slice R a.own.dens.length d, .int .i64 K.len, .slice A9 K.cuts.length c9, .slice R9 K.dens.length d9, .int .i64 a.after, .int .i64 a.asked] 43)]) 10 (by kernel_rfl) (by rfl) ((hRR.keep (List.Sublist.cons_cons _ (List.Sublist.cons_cons _ (List.nil_sublist _)))).drew) (fun wq64 hbq => ?_)
              have hB301 := hRR.next hbq
              clear hRR hbq
              refine wpAnyT_go (Bx.grows _ _) (hB301.keep (List.Sublist.cons_cons _ (List.Sublist.cons_cons _ (List.nil_sublist _)))) [0, 1, 4, 5] 6 (by kernel_rfl) ?_
              apply Exists.intro
              refine ⟨fun G hG hN => ?_, ?_⟩
              · have c_y := fun (e : GE (Bx wa [(g7, .cells #[.int .i64 a.told.len, .slice A' a.told.cuts.length c', .slice R' a.told.dens.length d', .int .i64 a.own.len, .slice A a.own.cuts.length c, .slice R a.own.dens.length d, .int .i64 (-1), .int .i64 0] 43), (g6, .cells #[.int .i64 a.own.len, .slice A a.own.cuts.length c, .slice R a.own.dens.length d, .int .i64 K.len, .slice A9 K.cuts.length c9, .slice R9 K.dens.length d9, .int .i64 a.after, .int .i64 a.asked] 43)]) G) j => cell_of_row e.w _ j _ _ _ ((GE.h e).get 0 rfl)
                have z_y := fun (e : GE (Bx wa [(g7, .cells #[.int .i64 a.told.len, .slice A' a.told.cuts.length c', .slice R' a.told.dens.length d', .int .i64 a.own.len, .slice A a.own.cuts.length c, .slice R a.own.dens.length d, .int .i64 (-1), .int .i64 0] 43), (g6, .cells #[.int .i64 a.own.len, .slice A a.own.cuts.length c, .slice R a.own.dens.length d, .int .i64 K.len, .slice A9 K.cuts.length c9, .slice R9 K.dens.length d9, .int .i64 a.after, .int .i64 a.asked] 43)]) G) => (GE.h e).lt 0 rfl
                have c_x := fun (e : GE (Bx wa [(g7, .cells #[.int .i64 a.told.len, .slice A' a.told.cuts.length c', .slice R' a.told.dens.length d', .int .i64 a.own.len, .slice A a.own.cuts.length c, .slice R a.own.dens.length d, .int .i64 (-1), .int .i64 0] 43), (g6, .cells #[.int .i64 a.own.len, .slice A a.own.cuts.length c, .slice R a.own.dens.length d, .int .i64 K.len, .slice A9 K.cuts.length c9, .slice R9 K.dens.length d9, .int .i64 a.after, .int .i64 a.asked] 43)]) G) j => cell_of_row e.w _ j _ _ _ ((GE.h e).get 1 rfl)
                have z_x := fun (e : GE (Bx wa [(g7, .cells #[.int .i64 a.told.len, .slice A' a.told.cuts.length c', .slice R' a.told.dens.length d', .int .i64 a.own.len, .slice A a.own.cuts.length c, .slice R a.own.dens.length d, .int .i64 (-1), .int .i64 0] 43), (g6, .cells #[.int .i64 a.own.len, .slice A a.own.cuts.length c, .slice R a.own.dens.length d, .int .i64 K.len, .slice A9 K.cuts.length c9, .slice R9 K.dens.length d9, .int .i64 a.after, .int .i64 a.asked] 43)]) G) => (GE.h e).lt 1 rfl
                simp only [pickOps, List.getElem?_toArray, List.getElem?_cons_zero, List.getElem?_cons_succ]
                repeat (first | go_big_quiet_step (fail) | quiet_step (fail))
                exact wpQuiet_nil rfl
              refine wpAnyT_all (rs := [2, 6]) (by kernel_rfl) (by simp) (fun wa65 hwa65 hRwa65 i hi => ?_)
              have hB302 := hB301.next hwa65
              clear hB301 hwa65 hRwa65
              rcases List.mem_cons.1 hi with rfl | hi
              · refine wpOp_step rfl (fun Kc hKc => ?_)
                go_simp
                have hB303 := hB302.new (g := wa65.heap.size) rfl (.cells #[.int .i64 a.own.len, .slice A a.own.cuts.length c, .slice R a.own.dens.length d, .int .i64 K.len, .slice A9 K.cuts.length c9, .slice R9 K.dens.length d9, .int .i64 a.after, .int .i64 a.asked] 43)
                refine hKc _ _ ⟨(hB303.keep (List.Sublist.cons _ (List.Sublist.cons_cons _ (List.Sublist.cons_cons _ (List.nil_sublist _))))), ?_⟩
                clear hKc Kc hB302
                generalize wa65.heap.size = gl1 at *
                generalize wa65.alloc _ = wb66 at *
                refine wpAnyT_all (rs := [3, 6]) (by kernel_rfl) (by simp) (fun wa67 hwa67 hRwa67 i hi => ?_)
                have hB304 := hB303.next hwa67
                clear hB303 hwa67 hRwa67
                rcases List.mem_cons.1 hi with rfl | hi
                · refine wpOp_step rfl (fun Kc hKc => ?_)
                  refine step_append_any _ rfl (.tmp 120) (.tmp 122) 22 rfl wa.heap.size 43 i0 (.agg #[.int .i64 0, .slice none 0 0, .slice none 0 0, .int .i64 0, .slice none 0 0, .slice none 0 0, .int .i64 0, .int .i64 0]) 8 128 Try.underlying22 hi0 hz0 hz1 hz2 rfl (by omega) (.slice B1 n1 b1) n1 xs1 rfl (hB304.row 0 rfl) _ (some ⟨gl1, 0, none⟩) 1 1 [.int .i64 a.own.len, .slice A a.own.cuts.length c, .slice R a.own.dens.length d, .int .i64 K.len, .slice A9 K.cuts.length c9, .slice R9 K.dens.length d9, .int .i64 a.after, .int .i64 a.asked] rfl (reads_lit (n := 1) (s := 8) (hB304.get 0 rfl) rfl) (by intro u hu; simp at hu; rcases hu with rfl | rfl | rfl | rfl | rfl | rfl | rfl | rfl <;> rfl) (by have := HNL.out; unfold maxLen; omega) (by have := HNL.out; omega) hB304.below.size ?_
                  intro v5 wb68 hown hgr hat
                  obtain ⟨B5, b5, rfl, _, _⟩ := own_nil_len hown
                  have hB305 := hB304.grow 0 rfl hgr hown hat
                  refine hKc _ _ ⟨(hB305.keep (List.Sublist.cons _ (List.Sublist.cons_cons _ (List.Sublist.cons_cons _ (List.nil_sublist _))))), ?_⟩
                  clear hKc Kc hB304 hown hgr hat
                  refine wpAnyT_all (rs := [6]) (by kernel_rfl) (by simp) (fun wa69 hwa69 hRwa69 i hi => ?_)
                  have hB306 := hB305.next hwa69
                  clear hB305 hwa69 hRwa69
                  obtain rfl := List.mem_singleton.1 hi
                  refine wpOp_step rfl (fun Kc hKc => ?_)
                  go_simp
                  have hB307 := hB306.new (g := wa69.heap.size) rfl (.cells #[.int .i64 a.told.len, .slice A' a.told.cuts.length c', .slice R' a.told.dens.length d', .int .i64 a.own.len, .slice A a.own.cuts.length c, .slice R a.own.dens.length d, .int .i64 (-1), .int .i64 0] 43)
                  refine hKc _ _ ⟨(hB307.keep (List.Sublist.cons _ (List.Sublist.cons _ (List.Sublist.cons_cons _ (List.Sublist.cons_cons _ (List.nil_sublist _)))))), ?_⟩
                  clear hKc Kc hB306
                  generalize wa69.heap.size = gl2 at *
                  generalize wa69.alloc _ = wb70 at *
                  refine wpAnyT_all (rs := [7]) (by kernel_rfl) (by simp) (fun wa71 hwa71 hRwa71 i hi => ?_)
                  have hB308 := hB307.next hwa71
                  clear hB307 hwa71 hRwa71
                  obtain rfl := List.mem_singleton.1 hi
                  refine wpOp_step rfl (fun Kc hKc => ?_)
                  refine step_append_any _ rfl (.tmp 124) (.tmp 126) 22 rfl wa.heap.size 43 i0 (.agg #[.int .i64 0, .slice none 0 0, .slice none 0 0, .int .i64 0, .slice none 0 0, .slice none 0 0, .int .i64 0, .int .i64 0]) 8 128 Try.underlying22 hi0 hz0 hz1 hz2 rfl (by omega) (.slice B2 n2 b2) n2 xs2 rfl (hB308.row 1 rfl) _ (some ⟨gl2, 0, none⟩) 1 1 [.int .i64 a.told.len, .slice A' a.told.cuts.length c', .slice R' a.told.dens.length d', .int .i64 a.own.len, .slice A a.own.cuts.length c, .slice R a.own.dens.length d, .int .i64 (-1), .int .i64 0] rfl (reads_lit (n := 1) (s := 8) (hB308.get 0 rfl) rfl) (by intro u hu; simp at hu; rcases hu with rfl | rfl | rfl | rfl | rfl | rfl | rfl | rfl <;> rfl) (by have := HNL.out; unfold maxLen; omega) (by have := HNL.out; omega) hB308.below.size ?_
                  intro v6 wb72 hown hgr hat
                  obtain ⟨B6, b6, rfl, _, _⟩ := own_nil_len hown
                  have hB309 := hB308.grow 1 rfl hgr hown hat
                  refine hKc _ _ ⟨(hB309.keep (List.Sublist.cons _ (List.Sublist.cons _ (List.Sublist.cons_cons _ (List.Sublist.cons_cons _ (List.nil_sublist _)))))), ?_⟩
                  clear hKc Kc hB308 hown hgr hat
                  refine wpAnyT_go (Bx.grows _ _) (hB309.keep (List.Sublist.cons _ (List.Sublist.cons _ (List.Sublist.cons_cons _ (List.Sublist.cons_cons _ (List.nil_sublist _)))))) [8, 9] 0 (by kernel_rfl) ?_
                  apply Exists.intro
                  refine ⟨fun G hG hN => ?_, ?_⟩
                  · have c_y := fun (e : GE (Bx wa [(g7, .cells #[.int .i64 a.told.len, .slice A' a.told.cuts.length c', .slice R' a.told.dens.length d', .int .i64 a.own.len, .slice A a.own.cuts.length c, .slice R a.own.dens.length d, .int .i64 (-1), .int .i64 0] 43), (g6, .cells #[.int .i64 a.own.len, .slice A a.own.cuts.length c, .slice R a.own.dens.length d, .int .i64 K.len, .slice A9 K.cuts.length c9, .slice R9 K.dens.length d9, .int .i64 a.after, .int .i64 a.asked] 43)]) G) j => cell_of_row e.w _ j _ _ _ ((GE.h e).get 0 rfl)
                    have z_y := fun (e : GE (Bx wa [(g7, .cells #[.int .i64 a.told.len, .slice A' a.told.cuts.length c', .slice R' a.told.dens.length d', .int .i64 a.own.len, .slice A a.own.cuts.length c, .slice R a.own.dens.length d, .int .i64 (-1), .int .i64 0] 43), (g6, .cells #[.int .i64 a.own.len, .slice A a.own.cuts.length c, .slice R a.own.dens.length d, .int .i64 K.len, .slice A9 K.cuts.length c9, .slice R9 K.dens.length d9, .int .i64 a.after, .int .i64 a.asked] 43)]) G) => (GE.h e).lt 0 rfl
                    have c_x := fun (e : GE (Bx wa [(g7, .cells #[.int .i64 a.told.len, .slice A' a.told.cuts.length c', .slice R' a.told.dens.length d', .int .i64 a.own.len, .slice A a.own.cuts.length c, .slice R a.own.dens.length d, .int .i64 (-1), .int .i64 0] 43), (g6, .cells #[.int .i64 a.own.len, .slice A a.own.cuts.length c, .slice R a.own.dens.length d, .int .i64 K.len, .slice A9 K.cuts.length c9, .slice R9 K.dens.length d9, .int .i64 a.after, .int .i64 a.asked] 43)]) G) j => cell_of_row e.w _ j _ _ _ ((GE.h e).get 1 rfl)
                    have z_x := fun (e : GE (Bx wa [(g7, .cells #[.int .i64 a.told.len, .slice A' a.told.cuts.length c', .slice R' a.told.dens.length d', .int .i64 a.own.len, .slice A a.own.cuts.length c, .slice R a.own.dens.length d, .int .i64 (-1), .int .i64 0] 43), (g6, .cells #[.int .i64 a.own.len, .slice A a.own.cuts.length c, .slice R a.own.dens.length d, .int .i64 K.len, .slice A9 K.cuts.length c9, .slice R9 K.dens.length d9, .int .i64 a.after, .int .i64 a.asked] 43)]) G) => (GE.h e).lt 1 rfl
                    simp only [pickOps, List.getElem?_toArray, List.getElem?_cons_zero, List.getElem?_cons_succ]
                    repeat (first | go_big_quiet_step (fail) | quiet_step (fail))
                    exact wpQuiet_nil rfl
                  refine wpAnyT_done (by kernel_rfl) (fun wd73 hwd73 hRwd73 => ?_) _
                  refine NoPanic.normal ?_
                  have hB310 := hB309.next hwd73
                  clear hB309 hwd73 hRwd73
                  have hMn : Mx wa [] [⟨.slice B5 (n1 + 1) b5, 43, 8, n1 + 1, xs1 ++ [.int .i64 a.own.len, .slice A a.own.cuts.length c, .slice R a.own.dens.length d, .int .i64 K.len, .slice A9 K.cuts.length c9, .slice R9 K.dens.length d9, .int .i64 a.after, .int .i64 a.asked]⟩, ⟨.slice B6 (n2 + 1) b6, 43, 8, n2 + 1, xs2 ++ [.int .i64 a.told.len, .slice A' a.told.cuts.length c', .slice R' a.told.dens.length d', .int .i64 a.own.len, .slice A a.own.cuts.length c, .slice R a.own.dens.length d, .int .i64 (-1), .int .i64 0]⟩] wd73 := hB310.sub0
                  clear hB310
                  have hnn1 : n1 + 1 = ((othL acs ks ra.acs).take (k + 1)).length := by rw [HT1.out, List.length_append, ← HN1.out]; rfl
                  have hnn2 : n2 + 1 = ((tldL acs).take (k + 1)).length := by rw [HT2.out, List.length_append, ← HN2.out]; rfl
                  have HM2 := Lib.hid (show ∃ v1 v2 : Value, v1 = .slice B5 (n1 + 1) b5 ∧ v2 = .slice B6 (n2 + 1) b6 ∧ Mx wa [] [⟨v1, 43, 8, ((othL acs ks ra.acs).take (k + 1)).length, xs1 ++ [.int .i64 a.own.len, .slice A a.own.cuts.length c, .slice R a.own.dens.length d, .int .i64 K.len, .slice A9 K.cuts.length c9, .slice R9 K.dens.length d9, .int .i64 a.after, .int .i64 a.asked]⟩, ⟨v2, 43, 8, ((tldL acs).take (k + 1)).length, xs2 ++ [.int .i64 a.told.len, .slice A' a.told.cuts.length c', .slice R' a.told.dens.length d', .int .i64 a.own.len, .slice A a.own.cuts.length c, .slice R a.own.dens.length d, .int .i64 (-1), .int .i64 0]⟩] wd73 from ⟨_, _, rfl, rfl, by rw [← hnn1, ← hnn2]; exact hMn⟩)
                  have HL1_ := Lib.hid (show Lay kAc w ((othL acs ks ra.acs).take (k + 1)) (xs1 ++ [.int .i64 a.own.len, .slice A a.own.cuts.length c, .slice R a.own.dens.length d, .int .i64 K.len, .slice A9 K.cuts.length c9, .slice R9 K.dens.length d9, .int .i64 a.after, .int .i64 a.asked]) by rw [HT1.out]; exact HE1.out.add (by have := (HMr.out.row 0 rfl).1; rw [← HN1.out]; exact this) HEX.out)
                  have HL2_ := Lib.hid (show Lay kAc w ((tldL acs).take (k + 1)) (xs2 ++ [.int .i64 a.told.len, .slice A' a.told.cuts.length c', .slice R' a.told.dens.length d', .int .i64 a.own.len, .slice A a.own.cuts.length c, .slice R a.own.dens.length d, .int .i64 (-1), .int .i64 0]) by rw [HT2.out]; exact HE2.out.add (by have := (HMr.out.row 1 rfl).1; rw [← HN2.out]; exact this) HEY.out)
                  clear hMn hnn1 hnn2
                  go_wp2_with fail
                  obtain ⟨v1, v2, e1, e2, hM3⟩ := HM2.out
                  exact ⟨⟨k + 1, v1, v2, _, _, HLE.out.1, e1, e2, by go_num, hM3, HL1_.out, HL2_.out⟩, by simpa [intOf] using HLE.out.2⟩
                · obtain rfl := List.mem_singleton.1 hi
                  refine wpOp_step rfl (fun Kc hKc => ?_)
                  go_simp
                  have hB305 := hB304.new (g := wa67.heap.size) rfl (.cells #[.int .i64 a.told.len, .slice A' a.told.cuts.length c', .slice R' a.told.dens.length d', .int .i64 a.own.len, .slice A a.own.cuts.length c, .slice R a.own.dens.length d, .int .i64 (-1), .int .i64 0] 43)
                  refine hKc _ _ ⟨(hB305.keep (List.Sublist.cons _ (List.Sublist.cons _ (List.Sublist.cons_cons _ (List.Sublist.cons_cons _ (List.nil_sublist _)))))), ?_⟩
                  clear hKc Kc hB304
                  generalize wa67.heap.size = gl2 at *
                  generalize wa67.alloc _ = wb74 at *
                  refine wpAnyT_all (rs := [3]) (by kernel_rfl) (by simp) (fun wa75 hwa75 hRwa75 i hi => ?_)
                  have hB306 := hB305.next hwa75
                  clear hB305 hwa75 hRwa75
                  obtain rfl := List.mem_singleton.1 hi
                  refine wpOp_step rfl (fun Kc hKc => ?_)
                  refine step_append_any _ rfl (.tmp 120) (.tmp 122) 22 rfl wa.heap.size 43 i0 (.agg #[.int .i64 0, .slice none 0 0, .slice none 0 0, .int .i64 0, .slice none 0 0, .slice none 0 0, .int .i64 0, .int .i64 0]) 8 128 Try.underlying22 hi0 hz0 hz1 hz2 rfl (by omega) (.slice B1 n1 b1) n1 xs1 rfl (hB306.row 0 rfl) _ (some ⟨gl1, 0, none⟩) 1 1 [.int .i64 a.own.len, .slice A a.own.cuts.length c, .slice R a.own.dens.length d, .int .i64 K.len, .slice A9 K.cuts.length c9, .slice R9 K.dens.length d9, .int .i64 a.after, .int .i64 a.asked] rfl (reads_lit (n := 1) (s := 8) (hB306.get 1 rfl) rfl) (by intro u hu; simp at hu; rcases hu with rfl | rfl | rfl | rfl | rfl | rfl | rfl | rfl <;> rfl) (by have := HNL.out; unfold maxLen; omega) (by have := HNL.out; omega) hB306.below.size ?_
                  intro v5 wb76 hown hgr hat
                  obtain ⟨B5, b5, rfl, _, _⟩ := own_nil_len hown
                  have hB307 := hB306.grow 0 rfl hgr hown hat
                  refine hKc _ _ ⟨(hB307.keep (List.Sublist.cons _ (List.Sublist.cons _ (List.Sublist.cons_cons _ (List.Sublist.cons_cons _ (List.nil_sublist _)))))), ?_⟩
                  clear hKc Kc hB306 hown hgr hat
                  refine wpAnyT_all (rs := [7]) (by kernel_rfl) (by simp) (fun wa77 hwa77 hRwa77 i hi => ?_)
                  have hB308 := hB307.next hwa77
                  clear hB307 hwa77 hRwa77
                  obtain rfl := List.mem_singleton.1 hi
                  refine wpOp_step rfl (fun Kc hKc => ?_)
                  refine step_append_any _ rfl (.tmp 124) (.tmp 126) 22 rfl wa.heap.size 43 i0 (.agg #[.int .i64 0, .slice none 0 0, .slice none 0 0, .int .i64 0, .slice none 0 0, .slice none 0 0, .int .i64 0, .int .i64 0]) 8 128 Try.underlying22 hi0 hz0 hz1 hz2 rfl (by omega) (.slice B2 n2 b2) n2 xs2 rfl (hB308.row 1 rfl) _ (some ⟨gl2, 0, none⟩) 1 1 [.int .i64 a.told.len, .slice A' a.told.cuts.length c', .slice R' a.told.dens.length d', .int .i64 a.own.len, .slice A a.own.cuts.length c, .slice R a.own.dens.length d, .int .i64 (-1), .int .i64 0] rfl (reads_lit (n := 1) (s := 8) (hB308.get 0 rfl) rfl) (by intro u hu; simp at hu; rcases hu with rfl | rfl | rfl | rfl | rfl | rfl | rfl | rfl <;> rfl) (by have := HNL.out; unfold maxLen; omega) (by have := HNL.out; omega) hB308.below.size ?_
                  intro v6 wb78 hown hgr hat
                  obtain ⟨B6, b6, rfl, _, _⟩ := own_nil_len hown
                  have hB309 := hB308.grow 1 rfl hgr hown hat
                  refine hKc _ _ ⟨(hB309.keep (List.Sublist.cons _ (List.Sublist.cons _ (List.Sublist.cons_cons _ (List.Sublist.cons_cons _ (List.nil_sublist _)))))), ?_⟩
                  clear hKc Kc hB308 hown hgr hat
                  refine wpAnyT_go (Bx.grows _ _) (hB309.keep (List.Sublist.cons _ (List.Sublist.cons _ (List.Sublist.cons_cons _ (List.Sublist.cons_cons _ (List.nil_sublist _)))))) [8, 9] 0 (by kernel_rfl) ?_
                  apply Exists.intro
                  refine ⟨fun G hG hN => ?_, ?_⟩
                  · have c_y := fun (e : GE (Bx wa [(g7, .cells #[.int .i64 a.told.len, .slice A' a.told.cuts.length c', .slice R' a.told.dens.length d', .int .i64 a.own.len, .slice A a.own.cuts.length c, .slice R a.own.dens.length d, .int .i64 (-1), .int .i64 0] 43), (g6, .cells #[.int .i64 a.own.len, .slice A a.own.cuts.length c, .slice R a.own.dens.length d, .int .i64 K.len, .slice A9 K.cuts.length c9, .slice R9 K.dens.length d9, .int .i64 a.after, .int .i64 a.asked] 43)]) G) j => cell_of_row e.w _ j _ _ _ ((GE.h e).get 0 rfl)
                    have z_y := fun (e : GE (Bx wa [(g7, .cells #[.int .i64 a.told.len, .slice A' a.told.cuts.length c', .slice R' a.told.dens.length d', .int .i64 a.own.len, .slice A a.own.cuts.length c, .slice R a.own.dens.length d, .int .i64 (-1), .int .i64 0] 43), (g6, .cells #[.int .i64 a.own.len, .slice A a.own.cuts.length c, .slice R a.own.dens.length d, .int .i64 K.len, .slice A9 K.cuts.length c9, .slice R9 K.dens.length d9, .int .i64 a.after, .int .i64 a.asked] 43)]) G) => (GE.h e).lt 0 rfl
                    have c_x := fun (e : GE (Bx wa [(g7, .cells #[.int .i64 a.told.len, .slice A' a.told.cuts.length c', .slice R' a.told.dens.length d', .int .i64 a.own.len, .slice A a.own.cuts.length c, .slice R a.own.dens.length d, .int .i64 (-1), .int .i64 0] 43), (g6, .cells #[.int .i64 a.own.len, .slice A a.own.cuts.length c, .slice R a.own.dens.length d, .int .i64 K.len, .slice A9 K.cuts.length c9, .slice R9 K.dens.length d9, .int .i64 a.after, .int .i64 a.asked] 43)]) G) j => cell_of_row e.w _ j _ _ _ ((GE.h e).get 1 rfl)
                    have z_x := fun (e : GE (Bx wa [(g7, .cells #[.int .i64 a.told.len, .slice A' a.told.cuts.length c', .slice R' a.told.dens.length d', .int .i64 a.own.len, .slice A a.own.cuts.length c, .slice R a.own.dens.length d, .int .i64 (-1), .int .i64 0] 43), (g6, .cells #[.int .i64 a.own.len, .slice A a.own.cuts.length c, .slice R a.own.dens.length d, .int .i64 K.len, .slice A9 K.cuts.length c9, .slice R9 K.dens.length d9, .int .i64 a.after, .int .i64 a.asked] 43)]) G) => (GE.h e).lt 1 rfl
                    simp only [pickOps, List.getElem?_toArray, List.getElem?_cons_zero, List.getElem?_cons_succ]
                    repeat (first | go_big_quiet_step (fail) | quiet_step (fail))
                    exact wpQuiet_nil rfl
                  refine wpAnyT_done (by kernel_rfl) (fun wd79 hwd79 hRwd79 => ?_) _
                  refine NoPanic.normal ?_
                  have hB310 := hB309.next hwd79
                  clear hB309 hwd79 hRwd79
                  have hMn : Mx wa [] [⟨.slice B5 (n1 + 1) b5, 43, 8, n1 + 1, xs1 ++ [.int .i64 a.own.len, .slice A a.own.cuts.length c, .slice R a.own.dens.length d, .int .i64 K.len, .slice A9 K.cuts.length c9, .slice R9 K.dens.length d9, .int .i64 a.after, .int .i64 a.asked]⟩, ⟨.slice B6 (n2 + 1) b6, 43, 8, n2 + 1, xs2 ++ [.int .i64 a.told.len, .slice A' a.told.cuts.length c', .slice R' a.told.dens.length d', .int .i64 a.own.len, .slice A a.own.cuts.length c, .slice R a.own.dens.length d, .int .i64 (-1), .int .i64 0]⟩] wd79 := hB310.sub0
                  clear hB310
                  have hnn1 : n1 + 1 = ((othL acs ks ra.acs).take (k + 1)).length := by rw [HT1.out, List.length_append, ← HN1.out]; rfl
                  have hnn2 : n2 + 1 = ((tldL acs).take (k + 1)).length := by rw [HT2.out, List.length_append, ← HN2.out]; rfl
                  have HM2 := Lib.hid (show ∃ v1 v2 : Value, v1 = .slice B5 (n1 + 1) b5 ∧ v2 = .slice B6 (n2 + 1) b6 ∧ Mx wa [] [⟨v1, 43, 8, ((othL acs ks ra.acs).take (k + 1)).length, xs1 ++ [.int .i64 a.own.len, .slice A a.own.cuts.length c, .slice R a.own.dens.length d, .int .i64 K.len, .slice A9 K.cuts.length c9, .slice R9 K.dens.length d9, .int .i64 a.after, .int .i64 a.asked]⟩, ⟨v2, 43, 8, ((tldL acs).take (k + 1)).length, xs2 ++ [.int .i64 a.told.len, .slice A' a.told.cuts.length c', .slice R' a.told.dens.length d', .int .i64 a.own.len, .slice A a.own.cuts.length c, .slice R a.own.dens.length d, .int .i64 (-1), .int .i64 0]⟩] wd79 from ⟨_, _, rfl, rfl, by rw [← hnn1, ← hnn2]; exact hMn⟩)
                  have HL1_ := Lib.hid (show Lay kAc w ((othL acs ks ra.acs).take (k + 1)) (xs1 ++ [.int .i64 a.own.len, .slice A a.own.cuts.length c, .slice R a.own.dens.length d, .int .i64 K.len, .slice A9 K.cuts.length c9, .slice R9 K.dens.length d9, .int .i64 a.after, .int .i64 a.asked]) by rw [HT1.out]; exact HE1.out.add (by have := (HMr.out.row 0 rfl).1; rw [← HN1.out]; exact this) HEX.out)
                  have HL2_ := Lib.hid (show Lay kAc w ((tldL acs).take (k + 1)) (xs2 ++ [.int .i64 a.told.len, .slice A' a.told.cuts.length c', .slice R' a.told.dens.length d', .int .i64 a.own.len, .slice A a.own.cuts.length c, .slice R a.own.dens.length d, .int .i64 (-1), .int .i64 0]) by rw [HT2.out]; exact HE2.out.add (by have := (HMr.out.row 1 rfl).1; rw [← HN2.out]; exact this) HEY.out)
                  clear hMn hnn1 hnn2
                  go_wp2_with fail
                  obtain ⟨v1, v2, e1, e2, hM3⟩ := HM2.out
                  exact ⟨⟨k + 1, v1, v2, _, _, HLE.out.1, e1, e2, by go_num, hM3, HL1_.out, HL2_.out⟩, by simpa [intOf] using HLE.out.2⟩
              · obtain rfl := List.mem_singleton.1 hi
                refine wpOp_step rfl (fun Kc hKc => ?_)
                go_simp
                have hB303 := hB302.new (g := wa65.heap.size) rfl (.cells #[.int .i64 a.told.len, .slice A' a.told.cuts.length c', .slice R' a.told.dens.length d', .int .i64 a.own.len, .slice A a.own.cuts.length c, .slice R a.own.dens.length d, .int .i64 (-1), .int .i64 0] 43)
                refine hKc _ _ ⟨(hB303.keep (List.Sublist.cons _ (List.Sublist.cons_cons _ (List.Sublist.cons_cons _ (List.nil_sublist _))))), ?_⟩
                clear hKc Kc hB302
                generalize wa65.heap.size = gl2 at *
                generalize wa65.alloc _ = wb80 at *
                refine wpAnyT_all (rs := [2]) (by kernel_rfl) (by simp) (fun wa81 hwa81 hRwa81 i hi => ?_)
                have hB304 := hB303.next hwa81
                clear hB303 hwa81 hRwa81
                obtain rfl := List.mem_singleton.1 hi
                refine wpOp_step rfl (fun Kc hKc => ?_)
                go_simp
                have hB305 := hB304.new (g := wa81.heap.size) rfl (.cells #[.int .i64 a.own.len, .slice A a.own.cuts.length c, .slice R a.own.dens.length d, .int .i64 K.len, .slice A9 K.cuts.length c9, .slice R9 K.dens.length d9, .int .i64 a.after, .int .i64 a.asked] 43)
                refine hKc _ _ ⟨(hB305.keep (List.Sublist.cons _ (List.Sublist.cons _ (List.Sublist.cons_cons _ (List.Sublist.cons_cons _ (List.nil_sublist _)))))), ?_⟩
                clear hKc Kc hB304
                generalize wa81.heap.size = gl1 at *
                generalize wa81.alloc _ = wb82 at *
                refine wpAnyT_all (rs := [3]) (by kernel_rfl) (by simp) (fun wa83 hwa83 hRwa83 i hi => ?_)
                have hB306 := hB305.next hwa83
                clear hB305 hwa83 hRwa83
                obtain rfl := List.mem_singleton.1 hi
                refine wpOp_step rfl (fun Kc hKc => ?_)
                refine step_append_any _ rfl (.tmp 120) (.tmp 122) 22 rfl wa.heap.size 43 i0 (.agg #[.int .i64 0, .slice none 0 0, .slice none 0 0, .int .i64 0, .slice none 0 0, .slice none 0 0, .int .i64 0, .int .i64 0]) 8 128 Try.underlying22 hi0 hz0 hz1 hz2 rfl (by omega) (.slice B1 n1 b1) n1 xs1 rfl (hB306.row 0 rfl) _ (some ⟨gl1, 0, none⟩) 1 1 [.int .i64 a.own.len, .slice A a.own.cuts.length c, .slice R a.own.dens.length d, .int .i64 K.len, .slice A9 K.cuts.length c9, .slice R9 K.dens.length d9, .int .i64 a.after, .int .i64 a.asked] rfl (reads_lit (n := 1) (s := 8) (hB306.get 0 rfl) rfl) (by intro u hu; simp at hu; rcases hu with rfl | rfl | rfl | rfl | rfl | rfl | rfl | rfl <;> rfl) (by have := HNL.out; unfold maxLen; omega) (by have := HNL.out; omega) hB306.below.size ?_
                intro v5 wb84 hown hgr hat
                obtain ⟨B5, b5, rfl, _, _⟩ := own_nil_len hown
                have hB307 := hB306.grow 0 rfl hgr hown hat
                refine hKc _ _ ⟨(hB307.keep (List.Sublist.cons _ (List.Sublist.cons _ (List.Sublist.cons_cons _ (List.Sublist.cons_cons _ (List.nil_sublist _)))))), ?_⟩
                clear hKc Kc hB306 hown hgr hat
                refine wpAnyT_all (rs := [7]) (by kernel_rfl) (by simp) (fun wa85 hwa85 hRwa85 i hi => ?_)
                have hB308 := hB307.next hwa85
                clear hB307 hwa85 hRwa85
                obtain rfl := List.mem_singleton.1 hi
                refine wpOp_step rfl (fun Kc hKc => ?_)
                refine step_append_any _ rfl (.tmp 124) (.tmp 126) 22 rfl wa.heap.size 43 i0 (.agg #[.int .i64 0, .slice none 0 0, .slice none 0 0, .int .i64 0, .slice none 0 0, .slice none 0 0, .int .i64 0, .int .i64 0]) 8 128 Try.underlying22 hi0 hz0 hz1 hz2 rfl (by omega) (.slice B2 n2 b2) n2 xs2 rfl (hB308.row 1 rfl) _ (some ⟨gl2, 0, none⟩) 1 1 [.int .i64 a.told.len, .slice A' a.told.cuts.length c', .slice R' a.told.dens.length d', .int .i64 a.own.len, .slice A a.own.cuts.length c, .slice R a.own.dens.length d, .int .i64 (-1), .int .i64 0] rfl (reads_lit (n := 1) (s := 8) (hB308.get 1 rfl) rfl) (by intro u hu; simp at hu; rcases hu with rfl | rfl | rfl | rfl | rfl | rfl | rfl | rfl <;> rfl) (by have := HNL.out; unfold maxLen; omega) (by have := HNL.out; omega) hB308.below.size ?_
                intro v6 wb86 hown hgr hat
                obtain ⟨B6, b6, rfl, _, _⟩ := own_nil_len hown
                have hB309 := hB308.grow 1 rfl hgr hown hat
                refine hKc _ _ ⟨(hB309.keep (List.Sublist.cons _ (List.Sublist.cons _ (List.Sublist.cons_cons _ (List.Sublist.cons_cons _ (List.nil_sublist _)))))), ?_⟩
                clear hKc Kc hB308 hown hgr hat
                refine wpAnyT_go (Bx.grows _ _) (hB309.keep (List.Sublist.cons _ (List.Sublist.cons _ (List.Sublist.cons_cons _ (List.Sublist.cons_cons _ (List.nil_sublist _)))))) [8, 9] 0 (by kernel_rfl) ?_
                apply Exists.intro
                refine ⟨fun G hG hN => ?_, ?_⟩
                · have c_y := fun (e : GE (Bx wa [(g7, .cells #[.int .i64 a.told.len, .slice A' a.told.cuts.length c', .slice R' a.told.dens.length d', .int .i64 a.own.len, .slice A a.own.cuts.length c, .slice R a.own.dens.length d, .int .i64 (-1), .int .i64 0] 43), (g6, .cells #[.int .i64 a.own.len, .slice A a.own.cuts.length c, .slice R a.own.dens.length d, .int .i64 K.len, .slice A9 K.cuts.length c9, .slice R9 K.dens.length d9, .int .i64 a.after, .int .i64 a.asked] 43)]) G) j => cell_of_row e.w _ j _ _ _ ((GE.h e).get 0 rfl)
                  have z_y := fun (e : GE (Bx wa [(g7, .cells #[.int .i64 a.told.len, .slice A' a.told.cuts.length c', .slice R' a.told.dens.length d', .int .i64 a.own.len, .slice A a.own.cuts.length c, .slice R a.own.dens.length d, .int .i64 (-1), .int .i64 0] 43), (g6, .cells #[.int .i64 a.own.len, .slice A a.own.cuts.length c, .slice R a.own.dens.length d, .int .i64 K.len, .slice A9 K.cuts.length c9, .slice R9 K.dens.length d9, .int .i64 a.after, .int .i64 a.asked] 43)]) G) => (GE.h e).lt 0 rfl
                  have c_x := fun (e : GE (Bx wa [(g7, .cells #[.int .i64 a.told.len, .slice A' a.told.cuts.length c', .slice R' a.told.dens.length d', .int .i64 a.own.len, .slice A a.own.cuts.length c, .slice R a.own.dens.length d, .int .i64 (-1), .int .i64 0] 43), (g6, .cells #[.int .i64 a.own.len, .slice A a.own.cuts.length c, .slice R a.own.dens.length d, .int .i64 K.len, .slice A9 K.cuts.length c9, .slice R9 K.dens.length d9, .int .i64 a.after, .int .i64 a.asked] 43)]) G) j => cell_of_row e.w _ j _ _ _ ((GE.h e).get 1 rfl)
                  have z_x := fun (e : GE (Bx wa [(g7, .cells #[.int .i64 a.told.len, .slice A' a.told.cuts.length c', .slice R' a.told.dens.length d', .int .i64 a.own.len, .slice A a.own.cuts.length c, .slice R a.own.dens.length d, .int .i64 (-1), .int .i64 0] 43), (g6, .cells #[.int .i64 a.own.len, .slice A a.own.cuts.length c, .slice R a.own.dens.length d, .int .i64 K.len, .slice A9 K.cuts.length c9, .slice R9 K.dens.length d9, .int .i64 a.after, .int .i64 a.asked] 43)]) G) => (GE.h e).lt 1 rfl
                  simp only [pickOps, List.getElem?_toArray, List.getElem?_cons_zero, List.getElem?_cons_succ]
                  repeat (first | go_big_quiet_step (fail) | quiet_step (fail))
                  exact wpQuiet_nil rfl
                refine wpAnyT_done (by kernel_rfl) (fun wd87 hwd87 hRwd87 => ?_) _
                refine NoPanic.normal ?_
                have hB310 := hB309.next hwd87
                clear hB309 hwd87 hRwd87
                have hMn : Mx wa [] [⟨.slice B5 (n1 + 1) b5, 43, 8, n1 + 1, xs1 ++ [.int .i64 a.own.len, .slice A a.own.cuts.length c, .slice R a.own.dens.length d, .int .i64 K.len, .slice A9 K.cuts.length c9, .slice R9 K.dens.length d9, .int .i64 a.after, .int .i64 a.asked]⟩, ⟨.slice B6 (n2 + 1) b6, 43, 8, n2 + 1, xs2 ++ [.int .i64 a.told.len, .slice A' a.told.cuts.length c', .slice R' a.told.dens.length d', .int .i64 a.own.len, .slice A a.own.cuts.length c, .slice R a.own.dens.length d, .int .i64 (-1), .int .i64 0]⟩] wd87 := hB310.sub0
                clear hB310
                have hnn1 : n1 + 1 = ((othL acs ks ra.acs).take (k + 1)).length := by rw [HT1.out, List.length_append, ← HN1.out]; rfl
                have hnn2 : n2 + 1 = ((tldL acs).take (k + 1)).length := by rw [HT2.out, List.length_append, ← HN2.out]; rfl
                have HM2 := Lib.hid (show ∃ v1 v2 : Value, v1 = .slice B5 (n1 + 1) b5 ∧ v2 = .slice B6 (n2 + 1) b6 ∧ Mx wa [] [⟨v1, 43, 8, ((othL acs ks ra.acs).take (k + 1)).length, xs1 ++ [.int .i64 a.own.len, .slice A a.own.cuts.length c, .slice R a.own.dens.length d, .int .i64 K.len, .slice A9 K.cuts.length c9, .slice R9 K.dens.length d9, .int .i64 a.after, .int .i64 a.asked]⟩, ⟨v2, 43, 8, ((tldL acs).take (k + 1)).length, xs2 ++ [.int .i64 a.told.len, .slice A' a.told.cuts.length c', .slice R' a.told.dens.length d', .int .i64 a.own.len, .slice A a.own.cuts.length c, .slice R a.own.dens.length d, .int .i64 (-1), .int .i64 0]⟩] wd87 from ⟨_, _, rfl, rfl, by rw [← hnn1, ← hnn2]; exact hMn⟩)
                have HL1_ := Lib.hid (show Lay kAc w ((othL acs ks ra.acs).take (k + 1)) (xs1 ++ [.int .i64 a.own.len, .slice A a.own.cuts.length c, .slice R a.own.dens.length d, .int .i64 K.len, .slice A9 K.cuts.length c9, .slice R9 K.dens.length d9, .int .i64 a.after, .int .i64 a.asked]) by rw [HT1.out]; exact HE1.out.add (by have := (HMr.out.row 0 rfl).1; rw [← HN1.out]; exact this) HEX.out)
                have HL2_ := Lib.hid (show Lay kAc w ((tldL acs).take (k + 1)) (xs2 ++ [.int .i64 a.told.len, .slice A' a.told.cuts.length c', .slice R' a.told.dens.length d', .int .i64 a.own.len, .slice A a.own.cuts.length c, .slice R a.own.dens.length d, .int .i64 (-1), .int .i64 0]) by rw [HT2.out]; exact HE2.out.add (by have := (HMr.out.row 1 rfl).1; rw [← HN2.out]; exact this) HEY.out)
                clear hMn hnn1 hnn2
                go_wp2_with fail
                obtain ⟨v1, v2, e1, e2, hM3⟩ := HM2.out
                exact ⟨⟨k + 1, v1, v2, _, _, HLE.out.1, e1, e2, by go_num, hM3, HL1_.out, HL2_.out⟩, by simpa [intOf] using HLE.out.2⟩
            have b7 : (a.after == 0) = false := by simpa using e0
            have HAF := Lib.hid e0
            clear e0
            go_upto_region 19 with fail
            clear c_y z_y b7
            have HXO := Lib.hid (show oth a K y.asked = ⟨a.own, K, a.after, a.asked⟩ from oth_yes HCD.out)
            have HYO := Lib.hid (show tld a = ⟨a.own, a.told, a.after, a.asked⟩ from tld_no HAF.out)
            have HEX := Lib.hid (show kAc.El w (oth a K y.asked) [.int .i64 a.own.len, .slice A a.own.cuts.length c, .slice R a.own.dens.length d, .int .i64 K.len, .slice A9 K.cuts.length c9, .slice R9 K.dens.length d9, .int .i64 a.after, .int .i64 a.asked] by rw [HXO.out]; exact ac_el HCC.out.1 HCC.out.2.2 ⟨HAW.out.a0, HAW.out.a1, HAW.out.k0, HAW.out.k1⟩)
            have HEY := Lib.hid (show kAc.El w (tld a) [.int .i64 a.own.len, .slice A a.own.cuts.length c, .slice R a.own.dens.length d, .int .i64 a.told.len, .slice A' a.told.cuts.length c', .slice R' a.told.dens.length d', .int .i64 a.after, .int .i64 a.asked] by rw [HYO.out]; exact ac_el HCC.out.1 HCC.out.2.1 ⟨HAW.out.a0, HAW.out.a1, HAW.out.k0, HAW.out.k1⟩)
            have hRR : Mx wa [(g7, .cells #[.int .i64 a.own.len, .slice A a.own.cuts.length c, .slice R a.own.dens.length d, .int .i64 a.told.len, .slice A' a.told.cuts.length c', .slice R' a.told.dens.length d', .int .i64 a.after, .int .i64 a.asked] 43), (g6, .cells #[.int .i64 a.own.len, .slice A a.own.cuts.length c, .slice R a.own.dens.length d, .int .i64 K.len, .slice A9 K.cuts.length c9, .slice R9 K.dens.length d9, .int .i64 a.after, .int .i64 a.asked] 43)] [⟨.slice B1 n1 b1, 43, 8, n1, xs1⟩, ⟨.slice B2 n2 b2, 43, 8, n2, xs2⟩] wp_ := Mx.onto HMr.out hMp
            clear hMp
            go_wp2_with fail
            refine wp_region_T (Bx wa [(g7, .cells #[.int .i64 a.own.len, .slice A a.own.cuts.length c, .slice R a.own.dens.length d, .int .i64 a.told.len, .slice A' a.told.cuts.length c', .slice R' a.told.dens.length d', .int .i64 a.after, .int .i64 a.asked] 43), (g6, .cells #[.int .i64 a.own.len, .slice A a.own.cuts.length c, .slice R a.own.dens.length d, .int .i64 K.len, .slice A9 K.cuts.length c9, .slice R9 K.dens.length d9, .int .i64 a.after, .int .i64 a.asked] 43)]) 10 (by kernel_rfl) (by rfl) ((hRR.keep (List.Sublist.cons_cons _ (List.Sublist.cons_cons _ (List.nil_sublist _)))).drew) (fun wq88 hbq => ?_)
            have hB301 := hRR.next hbq
            clear hRR hbq
            refine wpAnyT_go (Bx.grows _ _) (hB301.keep (List.Sublist.cons_cons _ (List.Sublist.cons_cons _ (List.nil_sublist _)))) [0, 1, 4, 5] 6 (by kernel_rfl) ?_
            apply Exists.intro
            refine ⟨fun G hG hN => ?_, ?_⟩
            · have c_y := fun (e : GE (Bx wa [(g7, .cells #[.int .i64 a.own.len, .slice A a.own.cuts.length c, .slice R a.own.dens.length d, .int .i64 a.told.len, .slice A' a.told.cuts.length c', .slice R' a.told.dens.length d', .int .i64 a.after, .int .i64 a.asked] 43), (g6, .cells #[.int .i64 a.own.len, .slice A a.own.cuts.length c, .slice R a.own.dens.length d, .int .i64 K.len, .slice A9 K.cuts.length c9, .slice R9 K.dens.length d9, .int .i64 a.after, .int .i64 a.asked] 43)]) G) j => cell_of_row e.w _ j _ _ _ ((GE.h e).get 0 rfl)
              have z_y := fun (e : GE (Bx wa [(g7, .cells #[.int .i64 a.own.len, .slice A a.own.cuts.length c, .slice R a.own.dens.length d, .int .i64 a.told.len, .slice A' a.told.cuts.length c', .slice R' a.told.dens.length d', .int .i64 a.after, .int .i64 a.asked] 43), (g6, .cells #[.int .i64 a.own.len, .slice A a.own.cuts.length c, .slice R a.own.dens.length d, .int .i64 K.len, .slice A9 K.cuts.length c9, .slice R9 K.dens.length d9, .int .i64 a.after, .int .i64 a.asked] 43)]) G) => (GE.h e).lt 0 rfl
              have c_x := fun (e : GE (Bx wa [(g7, .cells #[.int .i64 a.own.len, .slice A a.own.cuts.length c, .slice R a.own.dens.length d, .int .i64 a.told.len, .slice A' a.told.cuts.length c', .slice R' a.told.dens.length d', .int .i64 a.after, .int .i64 a.asked] 43), (g6, .cells #[.int .i64 a.own.len, .slice A a.own.cuts.length c, .slice R a.own.dens.length d, .int .i64 K.len, .slice A9 K.cuts.length c9, .slice R9 K.dens.length d9, .int .i64 a.after, .int .i64 a.asked] 43)]) G) j => cell_of_row e.w _ j _ _ _ ((GE.h e).get 1 rfl)
              have z_x := fun (e : GE (Bx wa [(g7, .cells #[.int .i64 a.own.len, .slice A a.own.cuts.length c, .slice R a.own.dens.length d, .int .i64 a.told.len, .slice A' a.told.cuts.length c', .slice R' a.told.dens.length d', .int .i64 a.after, .int .i64 a.asked] 43), (g6, .cells #[.int .i64 a.own.len, .slice A a.own.cuts.length c, .slice R a.own.dens.length d, .int .i64 K.len, .slice A9 K.cuts.length c9, .slice R9 K.dens.length d9, .int .i64 a.after, .int .i64 a.asked] 43)]) G) => (GE.h e).lt 1 rfl
              simp only [pickOps, List.getElem?_toArray, List.getElem?_cons_zero, List.getElem?_cons_succ]
              repeat (first | go_big_quiet_step (fail) | quiet_step (fail))
              exact wpQuiet_nil rfl
            refine wpAnyT_all (rs := [2, 6]) (by kernel_rfl) (by simp) (fun wa89 hwa89 hRwa89 i hi => ?_)
            have hB302 := hB301.next hwa89
            clear hB301 hwa89 hRwa89
            rcases List.mem_cons.1 hi with rfl | hi
            · refine wpOp_step rfl (fun Kc hKc => ?_)
              go_simp
              have hB303 := hB302.new (g := wa89.heap.size) rfl (.cells #[.int .i64 a.own.len, .slice A a.own.cuts.length c, .slice R a.own.dens.length d, .int .i64 K.len, .slice A9 K.cuts.length c9, .slice R9 K.dens.length d9, .int .i64 a.after, .int .i64 a.asked] 43)
              refine hKc _ _ ⟨(hB303.keep (List.Sublist.cons _ (List.Sublist.cons_cons _ (List.Sublist.cons_cons _ (List.nil_sublist _))))), ?_⟩
              clear hKc Kc hB302
              generalize wa89.heap.size = gl1 at *
              generalize wa89.alloc _ = wb90 at *
              refine wpAnyT_all (rs := [3, 6]) (by kernel_rfl) (by simp) (fun wa91 hwa91 hRwa91 i hi => ?_)
              have hB304 := hB303.next hwa91
              clear hB303 hwa91 hRwa91
              rcases List.mem_cons.1 hi with rfl | hi
              · refine wpOp_step rfl (fun Kc hKc => ?_)
                refine step_append_any _ rfl (.tmp 120) (.tmp 122) 22 rfl wa.heap.size 43 i0 (.agg #[.int .i64 0, .slice none 0 0, .slice none 0 0, .int .i64 0, .slice none 0 0, .slice none 0 0, .int .i64 0, .int .i64 0]) 8 128 Try.underlying22 hi0 hz0 hz1 hz2 rfl (by omega) (.slice B1 n1 b1) n1 xs1 rfl (hB304.row 0 rfl) _ (some ⟨gl1, 0, none⟩) 1 1 [.int .i64 a.own.len, .slice A a.own.cuts.length c, .slice R a.own.dens.length d, .int .i64 K.len, .slice A9 K.cuts.length c9, .slice R9 K.dens.length d9, .int .i64 a.after, .int .i64 a.asked] rfl (reads_lit (n := 1) (s := 8) (hB304.get 0 rfl) rfl) (by intro u hu; simp at hu; rcases hu with rfl | rfl | rfl | rfl | rfl | rfl | rfl | rfl <;> rfl) (by have := HNL.out; unfold maxLen; omega) (by have := HNL.out; omega) hB304.below.size ?_
                intro v5 wb92 hown hgr hat
                obtain ⟨B5, b5, rfl, _, _⟩ := own_nil_len hown
                have hB305 := hB304.grow 0 rfl hgr hown hat
                refine hKc _ _ ⟨(hB305.keep (List.Sublist.cons _ (List.Sublist.cons_cons _ (List.Sublist.cons_cons _ (List.nil_sublist _))))), ?_⟩
                clear hKc Kc hB304 hown hgr hat
                refine wpAnyT_all (rs := [6]) (by kernel_rfl) (by simp) (fun wa93 hwa93 hRwa93 i hi => ?_)
                have hB306 := hB305.next hwa93
                clear hB305 hwa93 hRwa93
                obtain rfl := List.mem_singleton.1 hi
                refine wpOp_step rfl (fun Kc hKc => ?_)
                go_simp
                have hB307 := hB306.new (g := wa93.heap.size) rfl (.cells #[.int .i64 a.own.len, .slice A a.own.cuts.length c, .slice R a.own.dens.length d, .int .i64 a.told.len, .slice A' a.told.cuts.length c', .slice R' a.told.dens.length d', .int .i64 a.after, .int .i64 a.asked] 43)
                refine hKc _ _ ⟨(hB307.keep (List.Sublist.cons _ (List.Sublist.cons _ (List.Sublist.cons_cons _ (List.Sublist.cons_cons _ (List.nil_sublist _)))))), ?_⟩
                clear hKc Kc hB306
                generalize wa93.heap.size = gl2 at *
                generalize wa93.alloc _ = wb94 at *
                refine wpAnyT_all (rs := [7]) (by kernel_rfl) (by simp) (fun wa95 hwa95 hRwa95 i hi => ?_)
                have hB308 := hB307.next hwa95
                clear hB307 hwa95 hRwa95
                obtain rfl := List.mem_singleton.1 hi
                refine wpOp_step rfl (fun Kc hKc => ?_)
                refine step_append_any _ rfl (.tmp 124) (.tmp 126) 22 rfl wa.heap.size 43 i0 (.agg #[.int .i64 0, .slice none 0 0, .slice none 0 0, .int .i64 0, .slice none 0 0, .slice none 0 0, .int .i64 0, .int .i64 0]) 8 128 Try.underlying22 hi0 hz0 hz1 hz2 rfl (by omega) (.slice B2 n2 b2) n2 xs2 rfl (hB308.row 1 rfl) _ (some ⟨gl2, 0, none⟩) 1 1 [.int .i64 a.own.len, .slice A a.own.cuts.length c, .slice R a.own.dens.length d, .int .i64 a.told.len, .slice A' a.told.cuts.length c', .slice R' a.told.dens.length d', .int .i64 a.after, .int .i64 a.asked] rfl (reads_lit (n := 1) (s := 8) (hB308.get 0 rfl) rfl) (by intro u hu; simp at hu; rcases hu with rfl | rfl | rfl | rfl | rfl | rfl | rfl | rfl <;> rfl) (by have := HNL.out; unfold maxLen; omega) (by have := HNL.out; omega) hB308.below.size ?_
                intro v6 wb96 hown hgr hat
                obtain ⟨B6, b6, rfl, _, _⟩ := own_nil_len hown
                have hB309 := hB308.grow 1 rfl hgr hown hat
                refine hKc _ _ ⟨(hB309.keep (List.Sublist.cons _ (List.Sublist.cons _ (List.Sublist.cons_cons _ (List.Sublist.cons_cons _ (List.nil_sublist _)))))), ?_⟩
                clear hKc Kc hB308 hown hgr hat
                refine wpAnyT_go (Bx.grows _ _) (hB309.keep (List.Sublist.cons _ (List.Sublist.cons _ (List.Sublist.cons_cons _ (List.Sublist.cons_cons _ (List.nil_sublist _)))))) [8, 9] 0 (by kernel_rfl) ?_
                apply Exists.intro
                refine ⟨fun G hG hN => ?_, ?_⟩
                · have c_y := fun (e : GE (Bx wa [(g7, .cells #[.int .i64 a.own.len, .slice A a.own.cuts.length c, .slice R a.own.dens.length d, .int .i64 a.told.len, .slice A' a.told.cuts.length c', .slice R' a.told.dens.length d', .int .i64 a.after, .int .i64 a.asked] 43), (g6, .cells #[.int .i64 a.own.len, .slice A a.own.cuts.length c, .slice R a.own.dens.length d, .int .i64 K.len, .slice A9 K.cuts.length c9, .slice R9 K.dens.length d9, .int .i64 a.after, .int .i64 a.asked] 43)]) G) j => cell_of_row e.w _ j _ _ _ ((GE.h e).get 0 rfl)
                  have z_y := fun (e : GE (Bx wa [(g7, .cells #[.int .i64 a.own.len, .slice A a.own.cuts.length c, .slice R a.own.dens.length d, .int .i64 a.told.len, .slice A' a.told.cuts.length c', .slice R' a.told.dens.length d', .int .i64 a.after, .int .i64 a.asked] 43), (g6, .cells #[.int .i64 a.own.len, .slice A a.own.cuts.length c, .slice R a.own.dens.length d, .int .i64 K.len, .slice A9 K.cuts.length c9, .slice R9 K.dens.length d9, .int .i64 a.after, .int .i64 a.asked] 43)]) G) => (GE.h e).lt 0 rfl
                  have c_x := fun (e : GE (Bx wa [(g7, .cells #[.int .i64 a.own.len, .slice A a.own.cuts.length c, .slice R a.own.dens.length d, .int .i64 a.told.len, .slice A' a.told.cuts.length c', .slice R' a.told.dens.length d', .int .i64 a.after, .int .i64 a.asked] 43), (g6, .cells #[.int .i64 a.own.len, .slice A a.own.cuts.length c, .slice R a.own.dens.length d, .int .i64 K.len, .slice A9 K.cuts.length c9, .slice R9 K.dens.length d9, .int .i64 a.after, .int .i64 a.asked] 43)]) G) j => cell_of_row e.w _ j _ _ _ ((GE.h e).get 1 rfl)
                  have z_x := fun (e : GE (Bx wa [(g7, .cells #[.int .i64 a.own.len, .slice A a.own.cuts.length c, .slice R a.own.dens.length d, .int .i64 a.told.len, .slice A' a.told.cuts.length c', .slice R' a.told.dens.length d', .int .i64 a.after, .int .i64 a.asked] 43), (g6, .cells #[.int .i64 a.own.len, .slice A a.own.cuts.length c, .slice R a.own.dens.length d, .int .i64 K.len, .slice A9 K.cuts.length c9, .slice R9 K.dens.length d9, .int .i64 a.after, .int .i64 a.asked] 43)]) G) => (GE.h e).lt 1 rfl
                  simp only [pickOps, List.getElem?_toArray, List.getElem?_cons_zero, List.getElem?_cons_succ]
                  repeat (first | go_big_quiet_step (fail) | quiet_step (fail))
                  exact wpQuiet_nil rfl
                refine wpAnyT_done (by kernel_rfl) (fun wd97 hwd97 hRwd97 => ?_) _
                refine NoPanic.normal ?_
                have hB310 := hB309.next hwd97
                clear hB309 hwd97 hRwd97
                have hMn : Mx wa [] [⟨.slice B5 (n1 + 1) b5, 43, 8, n1 + 1, xs1 ++ [.int .i64 a.own.len, .slice A a.own.cuts.length c, .slice R a.own.dens.length d, .int .i64 K.len, .slice A9 K.cuts.length c9, .slice R9 K.dens.length d9, .int .i64 a.after, .int .i64 a.asked]⟩, ⟨.slice B6 (n2 + 1) b6, 43, 8, n2 + 1, xs2 ++ [.int .i64 a.own.len, .slice A a.own.cuts.length c, .slice R a.own.dens.length d, .int .i64 a.told.len, .slice A' a.told.cuts.length c', .slice R' a.told.dens.length d', .int .i64 a.after, .int .i64 a.asked]⟩] wd97 := hB310.sub0
                clear hB310
                have hnn1 : n1 + 1 = ((othL acs ks ra.acs).take (k + 1)).length := by rw [HT1.out, List.length_append, ← HN1.out]; rfl
                have hnn2 : n2 + 1 = ((tldL acs).take (k + 1)).length := by rw [HT2.out, List.length_append, ← HN2.out]; rfl
                have HM2 := Lib.hid (show ∃ v1 v2 : Value, v1 = .slice B5 (n1 + 1) b5 ∧ v2 = .slice B6 (n2 + 1) b6 ∧ Mx wa [] [⟨v1, 43, 8, ((othL acs ks ra.acs).take (k + 1)).length, xs1 ++ [.int .i64 a.own.len, .slice A a.own.cuts.length c, .slice R a.own.dens.length d, .int .i64 K.len, .slice A9 K.cuts.length c9, .slice R9 K.dens.length d9, .int .i64 a.after, .int .i64 a.asked]⟩, ⟨v2, 43, 8, ((tldL acs).take (k + 1)).length, xs2 ++ [.int .i64 a.own.len, .slice A a.own.cuts.length c, .slice R a.own.dens.length d, .int .i64 a.told.len, .slice A' a.told.cuts.length c', .slice R' a.told.dens.length d', .int .i64 a.after, .int .i64 a.asked]⟩] wd97 from ⟨_, _, rfl, rfl, by rw [← hnn1, ← hnn2]; exact hMn⟩)
                have HL1_ := Lib.hid (show Lay kAc w ((othL acs ks ra.acs).take (k + 1)) (xs1 ++ [.int .i64 a.own.len, .slice A a.own.cuts.length c, .slice R a.own.dens.length d, .int .i64 K.len, .slice A9 K.cuts.length c9, .slice R9 K.dens.length d9, .int .i64 a.after, .int .i64 a.asked]) by rw [HT1.out]; exact HE1.out.add (by have := (HMr.out.row 0 rfl).1; rw [← HN1.out]; exact this) HEX.out)
                have HL2_ := Lib.hid (show Lay kAc w ((tldL acs).take (k + 1)) (xs2 ++ [.int .i64 a.own.len, .slice A a.own.cuts.length c, .slice R a.own.dens.length d, .int .i64 a.told.len, .slice A' a.told.cuts.length c', .slice R' a.told.dens.length d', .int .i64 a.after, .int .i64 a.asked]) by rw [HT2.out]; exact HE2.out.add (by have := (HMr.out.row 1 rfl).1; rw [← HN2.out]; exact this) HEY.out)
                clear hMn hnn1 hnn2
                go_wp2_with fail
                obtain ⟨v1, v2, e1, e2, hM3⟩ := HM2.out
                exact ⟨⟨k + 1, v1, v2, _, _, HLE.out.1, e1, e2, by go_num, hM3, HL1_.out, HL2_.out⟩, by simpa [intOf] using HLE.out.2⟩
              · obtain rfl := List.mem_singleton.1 hi
                refine wpOp_step rfl (fun Kc hKc => ?_)
                go_simp
                have hB305 := hB304.new (g := wa91.heap.size) rfl (.cells #[.int .i64 a.own.len, .slice A a.own.cuts.length c, .slice R a.own.dens.length d, .int .i64 a.told.len, .slice A' a.told.cuts.length c', .slice R' a.told.dens.length d', .int .i64 a.after, .int .i64 a.asked] 43)
                refine hKc _ _ ⟨(hB305.keep (List.Sublist.cons _ (List.Sublist.cons _ (List.Sublist.cons_cons _ (List.Sublist.cons_cons _ (List.nil_sublist _)))))), ?_⟩
                clear hKc Kc hB304
                generalize wa91.heap.size = gl2 at *
                generalize wa91.alloc _ = wb98 at *
                refine wpAnyT_all (rs := [3]) (by kernel_rfl) (by simp) (fun wa99 hwa99 hRwa99 i hi => ?_)
                have hB306 := hB305.next hwa99
                clear hB305 hwa99 hRwa99
                obtain rfl := List.mem_singleton.1 hi
                refine wpOp_step rfl (fun Kc hKc => ?_)
                refine step_append_any _ rfl (.tmp 120) (.tmp 122) 22 rfl wa.heap.size 43 i0 (.agg #[.int .i64 0, .slice none 0 0, .slice none 0 0, .int .i64 0, .slice none 0 0, .slice none 0 0, .int .i64 0, .int .i64 0]) 8 128 Try.underlying22 hi0 hz0 hz1 hz2 rfl (by omega) (.slice B1 n1 b1) n1 xs1 rfl (hB306.row 0 rfl) _ (some ⟨gl1, 0, none⟩) 1 1 [.int .i64 a.own.len, .slice A a.own.cuts.length c, .slice R a.own.dens.length d, .int .i64 K.len, .slice A9 K.cuts.length c9, .slice R9 K.dens.length d9, .int .i64 a.after, .int .i64 a.asked] rfl (reads_lit (n := 1) (s := 8) (hB306.get 1 rfl) rfl) (by intro u hu; simp at hu; rcases hu with rfl | rfl | rfl | rfl | rfl | rfl | rfl | rfl <;> rfl) (by have := HNL.out; unfold maxLen; omega) (by have := HNL.out; omega) hB306.below.size ?_
                intro v5 wb100 hown hgr hat
                obtain ⟨B5, b5, rfl, _, _⟩ := own_nil_len hown
                have hB307 := hB306.grow 0 rfl hgr hown hat
                refine hKc _ _ ⟨(hB307.keep (List.Sublist.cons _ (List.Sublist.cons _ (List.Sublist.cons_cons _ (List.Sublist.cons_cons _ (List.nil_sublist _)))))), ?_⟩
                clear hKc Kc hB306 hown hgr hat
                refine wpAnyT_all (rs := [7]) (by kernel_rfl) (by simp) (fun wa101 hwa101 hRwa101 i hi => ?_)
                have hB308 := hB307.next hwa101
                clear hB307 hwa101 hRwa101
                obtain rfl := List.mem_singleton.1 hi
                refine wpOp_step rfl (fun Kc hKc => ?_)
                refine step_append_any _ rfl (.tmp 124) (.tmp 126) 22 rfl wa.heap.size 43 i0 (.agg #[.int .i64 0, .slice none 0 0, .slice none 0 0, .int .i64 0, .slice none 0 0, .slice none 0 0, .int .i64 0, .int .i64 0]) 8 128 Try.underlying22 hi0 hz0 hz1 hz2 rfl (by omega) (.slice B2 n2 b2) n2 xs2 rfl (hB308.row 1 rfl) _ (some ⟨gl2, 0, none⟩) 1 1 [.int .i64 a.own.len, .slice A a.own.cuts.length c, .slice R a.own.dens.length d, .int .i64 a.told.len, .slice A' a.told.cuts.length c', .slice R' a.told.dens.length d', .int .i64 a.after, .int .i64 a.asked] rfl (reads_lit (n := 1) (s := 8) (hB308.get 0 rfl) rfl) (by intro u hu; simp at hu; rcases hu with rfl | rfl | rfl | rfl | rfl | rfl | rfl | rfl <;> rfl) (by have := HNL.out; unfold maxLen; omega) (by have := HNL.out; omega) hB308.below.size ?_
                intro v6 wb102 hown hgr hat
                obtain ⟨B6, b6, rfl, _, _⟩ := own_nil_len hown
                have hB309 := hB308.grow 1 rfl hgr hown hat
                refine hKc _ _ ⟨(hB309.keep (List.Sublist.cons _ (List.Sublist.cons _ (List.Sublist.cons_cons _ (List.Sublist.cons_cons _ (List.nil_sublist _)))))), ?_⟩
                clear hKc Kc hB308 hown hgr hat
                refine wpAnyT_go (Bx.grows _ _) (hB309.keep (List.Sublist.cons _ (List.Sublist.cons _ (List.Sublist.cons_cons _ (List.Sublist.cons_cons _ (List.nil_sublist _)))))) [8, 9] 0 (by kernel_rfl) ?_
                apply Exists.intro
                refine ⟨fun G hG hN => ?_, ?_⟩
                · have c_y := fun (e : GE (Bx wa [(g7, .cells #[.int .i64 a.own.len, .slice A a.own.cuts.length c, .slice R a.own.dens.length d, .int .i64 a.told.len, .slice A' a.told.cuts.length c', .slice R' a.told.dens.length d', .int .i64 a.after, .int .i64 a.asked] 43), (g6, .cells #[.int .i64 a.own.len, .slice A a.own.cuts.length c, .slice R a.own.dens.length d, .int .i64 K.len, .slice A9 K.cuts.length c9, .slice R9 K.dens.length d9, .int .i64 a.after, .int .i64 a.asked] 43)]) G) j => cell_of_row e.w _ j _ _ _ ((GE.h e).get 0 rfl)
                  have z_y := fun (e : GE (Bx wa [(g7, .cells #[.int .i64 a.own.len, .slice A a.own.cuts.length c, .slice R a.own.dens.length d, .int .i64 a.told.len, .slice A' a.told.cuts.length c', .slice R' a.told.dens.length d', .int .i64 a.after, .int .i64 a.asked] 43), (g6, .cells #[.int .i64 a.own.len, .slice A a.own.cuts.length c, .slice R a.own.dens.length d, .int .i64 K.len, .slice A9 K.cuts.length c9, .slice R9 K.dens.length d9, .int .i64 a.after, .int .i64 a.asked] 43)]) G) => (GE.h e).lt 0 rfl
                  have c_x := fun (e : GE (Bx wa [(g7, .cells #[.int .i64 a.own.len, .slice A a.own.cuts.length c, .slice R a.own.dens.length d, .int .i64 a.told.len, .slice A' a.told.cuts.length c', .slice R' a.told.dens.length d', .int .i64 a.after, .int .i64 a.asked] 43), (g6, .cells #[.int .i64 a.own.len, .slice A a.own.cuts.length c, .slice R a.own.dens.length d, .int .i64 K.len, .slice A9 K.cuts.length c9, .slice R9 K.dens.length d9, .int .i64 a.after, .int .i64 a.asked] 43)]) G) j => cell_of_row e.w _ j _ _ _ ((GE.h e).get 1 rfl)
                  have z_x := fun (e : GE (Bx wa [(g7, .cells #[.int .i64 a.own.len, .slice A a.own.cuts.length c, .slice R a.own.dens.length d, .int .i64 a.told.len, .slice A' a.told.cuts.length c', .slice R' a.told.dens.length d', .int .i64 a.after, .int .i64 a.asked] 43), (g6, .cells #[.int .i64 a.own.len, .slice A a.own.cuts.length c, .slice R a.own.dens.length d, .int .i64 K.len, .slice A9 K.cuts.length c9, .slice R9 K.dens.length d9, .int .i64 a.after, .int .i64 a.asked] 43)]) G) => (GE.h e).lt 1 rfl
                  simp only [pickOps, List.getElem?_toArray, List.getElem?_cons_zero, List.getElem?_cons_succ]
                  repeat (first | go_big_quiet_step (fail) | quiet_step (fail))
                  exact wpQuiet_nil rfl
                refine wpAnyT_done (by kernel_rfl) (fun wd103 hwd103 hRwd103 => ?_) _
                refine NoPanic.normal ?_
                have hB310 := hB309.next hwd103
                clear hB309 hwd103 hRwd103
                have hMn : Mx wa [] [⟨.slice B5 (n1 + 1) b5, 43, 8, n1 + 1, xs1 ++ [.int .i64 a.own.len, .slice A a.own.cuts.length c, .slice R a.own.dens.length d, .int .i64 K.len, .slice A9 K.cuts.length c9, .slice R9 K.dens.length d9, .int .i64 a.after, .int .i64 a.asked]⟩, ⟨.slice B6 (n2 + 1) b6, 43, 8, n2 + 1, xs2 ++ [.int .i64 a.own.len, .slice A a.own.cuts.length c, .slice R a.own.dens.length d, .int .i64 a.told.len, .slice A' a.told.cuts.length c', .slice R' a.told.dens.length d', .int .i64 a.after, .int .i64 a.asked]⟩] wd103 := hB310.sub0
                clear hB310
                have hnn1 : n1 + 1 = ((othL acs ks ra.acs).take (k + 1)).length := by rw [HT1.out, List.length_append, ← HN1.out]; rfl
                have hnn2 : n2 + 1 = ((tldL acs).take (k + 1)).length := by rw [HT2.out, List.length_append, ← HN2.out]; rfl
                have HM2 := Lib.hid (show ∃ v1 v2 : Value, v1 = .slice B5 (n1 + 1) b5 ∧ v2 = .slice B6 (n2 + 1) b6 ∧ Mx wa [] [⟨v1, 43, 8, ((othL acs ks ra.acs).take (k + 1)).length, xs1 ++ [.int .i64 a.own.len, .slice A a.own.cuts.length c, .slice R a.own.dens.length d, .int .i64 K.len, .slice A9 K.cuts.length c9, .slice R9 K.dens.length d9, .int .i64 a.after, .int .i64 a.asked]⟩, ⟨v2, 43, 8, ((tldL acs).take (k + 1)).length, xs2 ++ [.int .i64 a.own.len, .slice A a.own.cuts.length c, .slice R a.own.dens.length d, .int .i64 a.told.len, .slice A' a.told.cuts.length c', .slice R' a.told.dens.length d', .int .i64 a.after, .int .i64 a.asked]⟩] wd103 from ⟨_, _, rfl, rfl, by rw [← hnn1, ← hnn2]; exact hMn⟩)
                have HL1_ := Lib.hid (show Lay kAc w ((othL acs ks ra.acs).take (k + 1)) (xs1 ++ [.int .i64 a.own.len, .slice A a.own.cuts.length c, .slice R a.own.dens.length d, .int .i64 K.len, .slice A9 K.cuts.length c9, .slice R9 K.dens.length d9, .int .i64 a.after, .int .i64 a.asked]) by rw [HT1.out]; exact HE1.out.add (by have := (HMr.out.row 0 rfl).1; rw [← HN1.out]; exact this) HEX.out)
                have HL2_ := Lib.hid (show Lay kAc w ((tldL acs).take (k + 1)) (xs2 ++ [.int .i64 a.own.len, .slice A a.own.cuts.length c, .slice R a.own.dens.length d, .int .i64 a.told.len, .slice A' a.told.cuts.length c', .slice R' a.told.dens.length d', .int .i64 a.after, .int .i64 a.asked]) by rw [HT2.out]; exact HE2.out.add (by have := (HMr.out.row 1 rfl).1; rw [← HN2.out]; exact this) HEY.out)
                clear hMn hnn1 hnn2
                go_wp2_with fail
                obtain ⟨v1, v2, e1, e2, hM3⟩ := HM2.out
                exact ⟨⟨k + 1, v1, v2, _, _, HLE.out.1, e1, e2, by go_num, hM3, HL1_.out, HL2_.out⟩, by simpa [intOf] using HLE.out.2⟩
            · obtain rfl := List.mem_singleton.1 hi
              refine wpOp_step rfl (fun Kc hKc => ?_)
              go_simp
              have hB303 := hB302.new (g := wa89.heap.size) rfl (.cells #[.int .i64 a.own.len, .slice A a.own.cuts.length c, .slice R a.own.dens.length d, .int .i64 a.told.len, .slice A' a.told.cuts.length c', .slice R' a.told.dens.length d', .int .i64 a.after, .int .i64 a.asked] 43)
              refine hKc _ _ ⟨(hB303.keep (List.Sublist.cons _ (List.Sublist.cons_cons _ (List.Sublist.cons_cons _ (List.nil_sublist _))))), ?_⟩
              clear hKc Kc hB302
              generalize wa89.heap.size = gl2 at *
              generalize wa89.alloc _ = wb104 at *
              refine wpAnyT_all (rs := [2]) (by kernel_rfl) (by simp) (fun wa105 hwa105 hRwa105 i hi => ?_)
              have hB304 := hB303.next hwa105
              clear hB303 hwa105 hRwa105
              obtain rfl := List.mem_singleton.1 hi
              refine wpOp_step rfl (fun Kc hKc => ?_)
              go_simp
              have hB305 := hB304.new (g := wa105.heap.size) rfl (.cells #[.int .i64 a.own.len, .slice A a.own.cuts.length c, .slice R a.own.dens.length d, .int .i64 K.len, .slice A9 K.cuts.length c9, .slice R9 K.dens.length d9, .int .i64 a.after, .int .i64 a.asked] 43)
              refine hKc _ _ ⟨(hB305.keep (List.Sublist.cons _ (List.Sublist.cons _ (List.Sublist.cons_cons _ (List.Sublist.cons_cons _ (List.nil_sublist _)))))), ?_⟩
              clear hKc Kc hB304
              generalize wa105.heap.size = gl1 at *
              generalize wa105.alloc _ = wb106 at *
              refine wpAnyT_all (rs := [3]) (by kernel_rfl) (by simp) (fun wa107 hwa107 hRwa107 i hi => ?_)
              have hB306 := hB305.next hwa107
              clear hB305 hwa107 hRwa107
              obtain rfl := List.mem_singleton.1 hi
              refine wpOp_step rfl (fun Kc hKc => ?_)
              refine step_append_any _ rfl (.tmp 120) (.tmp 122) 22 rfl wa.heap.size 43 i0 (.agg #[.int .i64 0, .slice none 0 0, .slice none 0 0, .int .i64 0, .slice none 0 0, .slice none 0 0, .int .i64 0, .int .i64 0]) 8 128 Try.underlying22 hi0 hz0 hz1 hz2 rfl (by omega) (.slice B1 n1 b1) n1 xs1 rfl (hB306.row 0 rfl) _ (some ⟨gl1, 0, none⟩) 1 1 [.int .i64 a.own.len, .slice A a.own.cuts.length c, .slice R a.own.dens.length d, .int .i64 K.len, .slice A9 K.cuts.length c9, .slice R9 K.dens.length d9, .int .i64 a.after, .int .i64 a.asked] rfl (reads_lit (n := 1) (s := 8) (hB306.get 0 rfl) rfl) (by intro u hu; simp at hu; rcases hu with rfl | rfl | rfl | rfl | rfl | rfl | rfl | rfl <;> rfl) (by have := HNL.out; unfold maxLen; omega) (by have := HNL.out; omega) hB306.below.size ?_
              intro v5 wb108 hown hgr hat
              obtain ⟨B5, b5, rfl, _, _⟩ := own_nil_len hown
              have hB307 := hB306.grow 0 rfl hgr hown hat
              refine hKc _ _ ⟨(hB307.keep (List.Sublist.cons _ (List.Sublist.cons _ (List.Sublist.cons_cons _ (List.Sublist.cons_cons _ (List.nil_sublist _)))))), ?_⟩
              clear hKc Kc hB306 hown hgr hat
              refine wpAnyT_all (rs := [7]) (by kernel_rfl) (by simp) (fun wa109 hwa109 hRwa109 i hi => ?_)
              have hB308 := hB307.next hwa109
              clear hB307 hwa109 hRwa109
              obtain rfl := List.mem_singleton.1 hi
              refine wpOp_step rfl (fun Kc hKc => ?_)
              refine step_append_any _ rfl (.tmp 124) (.tmp 126) 22 rfl wa.heap.size 43 i0 (.agg #[.int .i64 0, .slice none 0 0, .slice none 0 0, .int .i64 0, .slice none 0 0, .slice none 0 0, .int .i64 0, .int .i64 0]) 8 128 Try.underlying22 hi0 hz0 hz1 hz2 rfl (by omega) (.slice B2 n2 b2) n2 xs2 rfl (hB308.row 1 rfl) _ (some ⟨gl2, 0, none⟩) 1 1 [.int .i64 a.own.len, .slice A a.own.cuts.length c, .slice R a.own.dens.length d, .int .i64 a.told.len, .slice A' a.told.cuts.length c', .slice R' a.told.dens.length d', .int .i64 a.after, .int .i64 a.asked] rfl (reads_lit (n := 1) (s := 8) (hB308.get 1 rfl) rfl) (by intro u hu; simp at hu; rcases hu with rfl | rfl | rfl | rfl | rfl | rfl | rfl | rfl <;> rfl) (by have := HNL.out; unfold maxLen; omega) (by have := HNL.out; omega) hB308.below.size ?_
              intro v6 wb110 hown hgr hat
              obtain ⟨B6, b6, rfl, _, _⟩ := own_nil_len hown
              have hB309 := hB308.grow 1 rfl hgr hown hat
              refine hKc _ _ ⟨(hB309.keep (List.Sublist.cons _ (List.Sublist.cons _ (List.Sublist.cons_cons _ (List.Sublist.cons_cons _ (List.nil_sublist _)))))), ?_⟩
              clear hKc Kc hB308 hown hgr hat
              refine wpAnyT_go (Bx.grows _ _) (hB309.keep (List.Sublist.cons _ (List.Sublist.cons _ (List.Sublist.cons_cons _ (List.Sublist.cons_cons _ (List.nil_sublist _)))))) [8, 9] 0 (by kernel_rfl) ?_
              apply Exists.intro
              refine ⟨fun G hG hN => ?_, ?_⟩
              · have c_y := fun (e : GE (Bx wa [(g7, .cells #[.int .i64 a.own.len, .slice A a.own.cuts.length c, .slice R a.own.dens.length d, .int .i64 a.told.len, .slice A' a.told.cuts.length c', .slice R' a.told.dens.length d', .int .i64 a.after, .int .i64 a.asked] 43), (g6, .cells #[.int .i64 a.own.len, .slice A a.own.cuts.length c, .slice R a.own.dens.length d, .int .i64 K.len, .slice A9 K.cuts.length c9, .slice R9 K.dens.length d9, .int .i64 a.after, .int .i64 a.asked] 43)]) G) j => cell_of_row e.w _ j _ _ _ ((GE.h e).get 0 rfl)
                have z_y := fun (e : GE (Bx wa [(g7, .cells #[.int .i64 a.own.len, .slice A a.own.cuts.length c, .slice R a.own.dens.length d, .int .i64 a.told.len, .slice A' a.told.cuts.length c', .slice R' a.told.dens.length d', .int .i64 a.after, .int .i64 a.asked] 43), (g6, .cells #[.int .i64 a.own.len, .slice A a.own.cuts.length c, .slice R a.own.dens.length d, .int .i64 K.len, .slice A9 K.cuts.length c9, .slice R9 K.dens.length d9, .int .i64 a.after, .int .i64 a.asked] 43)]) G) => (GE.h e).lt 0 rfl
                have c_x := fun (e : GE (Bx wa [(g7, .cells #[.int .i64 a.own.len, .slice A a.own.cuts.length c, .slice R a.own.dens.length d, .int .i64 a.told.len, .slice A' a.told.cuts.length c', .slice R' a.told.dens.length d', .int .i64 a.after, .int .i64 a.asked] 43), (g6, .cells #[.int .i64 a.own.len, .slice A a.own.cuts.length c, .slice R a.own.dens.length d, .int .i64 K.len, .slice A9 K.cuts.length c9, .slice R9 K.dens.length d9, .int .i64 a.after, .int .i64 a.asked] 43)]) G) j => cell_of_row e.w _ j _ _ _ ((GE.h e).get 1 rfl)
                have z_x := fun (e : GE (Bx wa [(g7, .cells #[.int .i64 a.own.len, .slice A a.own.cuts.length c, .slice R a.own.dens.length d, .int .i64 a.told.len, .slice A' a.told.cuts.length c', .slice R' a.told.dens.length d', .int .i64 a.after, .int .i64 a.asked] 43), (g6, .cells #[.int .i64 a.own.len, .slice A a.own.cuts.length c, .slice R a.own.dens.length d, .int .i64 K.len, .slice A9 K.cuts.length c9, .slice R9 K.dens.length d9, .int .i64 a.after, .int .i64 a.asked] 43)]) G) => (GE.h e).lt 1 rfl
                simp only [pickOps, List.getElem?_toArray, List.getElem?_cons_zero, List.getElem?_cons_succ]
                repeat (first | go_big_quiet_step (fail) | quiet_step (fail))
                exact wpQuiet_nil rfl
              refine wpAnyT_done (by kernel_rfl) (fun wd111 hwd111 hRwd111 => ?_) _
              refine NoPanic.normal ?_
              have hB310 := hB309.next hwd111
              clear hB309 hwd111 hRwd111
              have hMn : Mx wa [] [⟨.slice B5 (n1 + 1) b5, 43, 8, n1 + 1, xs1 ++ [.int .i64 a.own.len, .slice A a.own.cuts.length c, .slice R a.own.dens.length d, .int .i64 K.len, .slice A9 K.cuts.length c9, .slice R9 K.dens.length d9, .int .i64 a.after, .int .i64 a.asked]⟩, ⟨.slice B6 (n2 + 1) b6, 43, 8, n2 + 1, xs2 ++ [.int .i64 a.own.len, .slice A a.own.cuts.length c, .slice R a.own.dens.length d, .int .i64 a.told.len, .slice A' a.told.cuts.length c', .slice R' a.told.dens.length d', .int .i64 a.after, .int .i64 a.asked]⟩] wd111 := hB310.sub0
              clear hB310
              have hnn1 : n1 + 1 = ((othL acs ks ra.acs).take (k + 1)).length := by rw [HT1.out, List.length_append, ← HN1.out]; rfl
              have hnn2 : n2 + 1 = ((tldL acs).take (k + 1)).length := by rw [HT2.out, List.length_append, ← HN2.out]; rfl
              have HM2 := Lib.hid (show ∃ v1 v2 : Value, v1 = .slice B5 (n1 + 1) b5 ∧ v2 = .slice B6 (n2 + 1) b6 ∧ Mx wa [] [⟨v1, 43, 8, ((othL acs ks ra.acs).take (k + 1)).length, xs1 ++ [.int .i64 a.own.len, .slice A a.own.cuts.length c, .slice R a.own.dens.length d, .int .i64 K.len, .slice A9 K.cuts.length c9, .slice R9 K.dens.length d9, .int .i64 a.after, .int .i64 a.asked]⟩, ⟨v2, 43, 8, ((tldL acs).take (k + 1)).length, xs2 ++ [.int .i64 a.own.len, .slice A a.own.cuts.length c, .slice R a.own.dens.length d, .int .i64 a.told.len, .slice A' a.told.cuts.length c', .slice R' a.told.dens.length d', .int .i64 a.after, .int .i64 a.asked]⟩] wd111 from ⟨_, _, rfl, rfl, by rw [← hnn1, ← hnn2]; exact hMn⟩)
              have HL1_ := Lib.hid (show Lay kAc w ((othL acs ks ra.acs).take (k + 1)) (xs1 ++ [.int .i64 a.own.len, .slice A a.own.cuts.length c, .slice R a.own.dens.length d, .int .i64 K.len, .slice A9 K.cuts.length c9, .slice R9 K.dens.length d9, .int .i64 a.after, .int .i64 a.asked]) by rw [HT1.out]; exact HE1.out.add (by have := (HMr.out.row 0 rfl).1; rw [← HN1.out]; exact this) HEX.out)
              have HL2_ := Lib.hid (show Lay kAc w ((tldL acs).take (k + 1)) (xs2 ++ [.int .i64 a.own.len, .slice A a.own.cuts.length c, .slice R a.own.dens.length d, .int .i64 a.told.len, .slice A' a.told.cuts.length c', .slice R' a.told.dens.length d', .int .i64 a.after, .int .i64 a.asked]) by rw [HT2.out]; exact HE2.out.add (by have := (HMr.out.row 1 rfl).1; rw [← HN2.out]; exact this) HEY.out)
              clear hMn hnn1 hnn2
              go_wp2_with fail
              obtain ⟨v1, v2, e1, e2, hM3⟩ := HM2.out
              exact ⟨⟨k + 1, v1, v2, _, _, HLE.out.1, e1, e2, by go_num, hM3, HL1_.out, HL2_.out⟩, by simpa [intOf] using HLE.out.2⟩
          have HCD := Lib.hid (show ¬ (a.after = -1 ∨ y.asked < a.after) from fun q => q.elim e1 (fun q => e2 (by rw [HFY.out]; exact q)))
          have c_y := fun j => cell_of_row _ _ j _ _ _ (hMc.get 0 rfl)
          have z_y := hMc.lt 0 rfl
          have c_x := fun j => cell_of_row _ _ j _ _ _ (hMc.get 1 rfl)
          have z_x := hMc.lt 1 rfl
          obtain ⟨y7, yb⟩ := HYC.out _ (bcall HW0.out HW0.out.size hMc.below)
          have h_a := HCA.out _ (bcall HW0.out HW0.out.size hMc.below)
          have c_a := fun j => cell_of_row _ _ j _ _ _ h_a
          have z_a := lt_some h_a
          clear h_a
          have b5 : (a.after == -1) = false := by simpa using e1
          have b6 : decide (f < a.after) = false := decide_eq_false e2
          go_wp2_with fail
          refine wp_region_ext (by kernel_rfl) (by kernel_rfl) ?_
          repeat (first | go_big_quiet_step (fail) | quiet_step (fail))
          refine wpQuiet_nil ?_
          rintro wp_ ⟨⟨wx_, hb⟩, rfl⟩
          have hMp := hMc.next hb
          clear hb hMc c_y z_y c_x z_x y7 yb c_a z_a b5 b6
          clear e1 e2
          go_upto_region 17 with fail
          have c_y := fun j => cell_of_row _ _ j _ _ _ (hMp.get 0 rfl)
          have z_y := hMp.lt 0 rfl
          by_cases e0 : a.after = 0
          · have b7 : (a.after == 0) = true := by simpa using e0
            have HAF := Lib.hid e0
            clear e0
            go_upto_region 18 with fail
            clear c_y z_y b7
            go_wp2_with fail
            refine wp_region_T (Bx wb []) 12 (by kernel_rfl) (by rfl) ((hMp.keep (List.nil_sublist _)).drew) (fun wq112 hbq => ?_)
            have hB201 := hMp.next hbq
            clear hMp hbq
            refine wpAnyT_go (Bx.grows _ _) (hB201.keep (List.nil_sublist _)) [0, 1, 2, 3, 4, 5, 6, 7, 8, 9, 10] 1 (by kernel_rfl) ?_
            apply Exists.intro
            refine ⟨fun G hG hN => ?_, ?_⟩
            · have q_0 := fun (e : GE (Bx wb []) G) => (HATW.out e.w (HBa.out _ (bcall HW0.out HW0.out.size (GE.h e).below))).1.c0
              have q_1 := fun (e : GE (Bx wb []) G) => (HATW.out e.w (HBa.out _ (bcall HW0.out HW0.out.size (GE.h e).below))).1.c1
              have q_2 := fun (e : GE (Bx wb []) G) => (HATW.out e.w (HBa.out _ (bcall HW0.out HW0.out.size (GE.h e).below))).1.c2
              have q_3 := fun (e : GE (Bx wb []) G) => (HATW.out e.w (HBa.out _ (bcall HW0.out HW0.out.size (GE.h e).below))).1.c3
              have q_4 := fun (e : GE (Bx wb []) G) => (HATW.out e.w (HBa.out _ (bcall HW0.out HW0.out.size (GE.h e).below))).1.c4
              have q_5 := fun (e : GE (Bx wb []) G) => (HATW.out e.w (HBa.out _ (bcall HW0.out HW0.out.size (GE.h e).below))).1.c5
              have q_6 := fun (e : GE (Bx wb []) G) => (HATW.out e.w (HBa.out _ (bcall HW0.out HW0.out.size (GE.h e).below))).1.c6
              have q_7 := fun (e : GE (Bx wb []) G) => (HATW.out e.w (HBa.out _ (bcall HW0.out HW0.out.size (GE.h e).below))).1.c7
              have q_b := fun (e : GE (Bx wb []) G) => (HATW.out e.w (HBa.out _ (bcall HW0.out HW0.out.size (GE.h e).below))).2
              simp only [pickOps, List.getElem?_toArray, List.getElem?_cons_zero, List.getElem?_cons_succ]
              repeat (first | go_big_quiet_step (fail) | quiet_step (fail))
              exact wpQuiet_nil rfl
            refine wpAnyT_all (rs := [11]) (by kernel_rfl) (by simp) (fun wa113 hwa113 hRwa113 i hi => ?_)
            have hB202 := hB201.next hwa113
            clear hB201 hwa113 hRwa113
            obtain rfl := List.mem_singleton.1 hi
            refine wpOp_step rfl (fun Kc hKc => ?_)
            have c_y := fun j => cell_of_row _ _ j _ _ _ (hB202.get 0 rfl)
            have z_y := hB202.lt 0 rfl
            have f_y := fun j => frozen_of_row _ _ j _ _ (hB202.get 0 rfl)
            go_simp
            have hB203 := hB202.put8 0 rfl (.int .i64 a.told.len) (.slice A' a.told.cuts.length c') (.slice R' a.told.dens.length d') (.int .i64 a.own.len) (.slice A a.own.cuts.length c) (.slice R a.own.dens.length d) (.int .i64 (-1)) (.int .i64 0)
            refine hKc _ _ ⟨(hB203.keep (List.nil_sublist _)), ?_⟩
            clear c_y z_y f_y hKc Kc hB202
            generalize ((((((((wa113.setCell _ _).setCell _ _).setCell _ _).setCell _ _).setCell _ _).setCell _ _).setCell _ _).setCell _ _) = wb114 at *
            refine wpAnyT_done (by kernel_rfl) (fun wd115 hwd115 hRwd115 => ?_) _
            refine NoPanic.normal ?_
            have hB204 := hB203.next hwd115
            clear hB203 hwd115 hRwd115
            have hMy := hB204
            clear hB204
            go_upto_region 19 with fail
            have HXO := Lib.hid (show oth a K y.asked = ⟨a.own, a.told, a.after, a.asked⟩ from oth_no HCD.out)
            have HYO := Lib.hid (show tld a = ⟨a.told, a.own, -1, 0⟩ from tld_yes HAF.out)
            have HEX := Lib.hid (show kAc.El w (oth a K y.asked) [.int .i64 a.own.len, .slice A a.own.cuts.length c, .slice R a.own.dens.length d, .int .i64 a.told.len, .slice A' a.told.cuts.length c', .slice R' a.told.dens.length d', .int .i64 a.after, .int .i64 a.asked] by rw [HXO.out]; exact ac_el HCC.out.1 HCC.out.2.1 ⟨HAW.out.a0, HAW.out.a1, HAW.out.k0, HAW.out.k1⟩)
            have HEY := Lib.hid (show kAc.El w (tld a) [.int .i64 a.told.len, .slice A' a.told.cuts.length c', .slice R' a.told.dens.length d', .int .i64 a.own.len, .slice A a.own.cuts.length c, .slice R a.own.dens.length d, .int .i64 (-1), .int .i64 0] by rw [HYO.out]; exact ac_el HCC.out.2.1 HCC.out.1 ⟨by show (-9223372036854775808 : Int) ≤ -1; decide, by show (-1 : Int) ≤ 9223372036854775807; decide, by show (-9223372036854775808 : Int) ≤ 0; decide, by show (0 : Int) ≤ 9223372036854775807; decide⟩)
            have hRR : Mx wa [(g7, .cells #[.int .i64 a.told.len, .slice A' a.told.cuts.length c', .slice R' a.told.dens.length d', .int .i64 a.own.len, .slice A a.own.cuts.length c, .slice R a.own.dens.length d, .int .i64 (-1), .int .i64 0] 43), (g6, .cells #[.int .i64 a.own.len, .slice A a.own.cuts.length c, .slice R a.own.dens.length d, .int .i64 a.told.len, .slice A' a.told.cuts.length c', .slice R' a.told.dens.length d', .int .i64 a.after, .int .i64 a.asked] 43)] [⟨.slice B1 n1 b1, 43, 8, n1, xs1⟩, ⟨.slice B2 n2 b2, 43, 8, n2, xs2⟩] wd115 := Mx.onto HMr.out hMy
            clear hMy
            go_wp2_with fail
            refine wp_region_T (Bx wa [(g7, .cells #[.int .i64 a.told.len, .slice A' a.told.cuts.length c', .slice R' a.told.dens.length d', .int .i64 a.own.len, .slice A a.own.cuts.length c, .slice R a.own.dens.length d, .int .i64 (-1), .int .i64 0] 43), (g6, .cells #[.int .i64 a.own.len, .slice A a.own.cuts.length c, .slice R a.own.dens.length d, .int .i64 a.told.len, .slice A' a.told.cuts.length c', .slice R' a.told.dens.length d', .int .i64 a.after, .int .i64 a.asked] 43)]) 10 (by kernel_rfl) (by rfl) ((hRR.keep (List.Sublist.cons_cons _ (List.Sublist.cons_cons _ (List.nil_sublist _)))).drew) (fun wq116 hbq => ?_)
            have hB301 := hRR.next hbq
            clear hRR hbq
            refine wpAnyT_go (Bx.grows _ _) (hB301.keep (List.Sublist.cons_cons _ (List.Sublist.cons_cons _ (List.nil_sublist _)))) [0, 1, 4, 5] 6 (by kernel_rfl) ?_
            apply Exists.intro
            refine ⟨fun G hG hN => ?_, ?_⟩
            · have c_y := fun (e : GE (Bx wa [(g7, .cells #[.int .i64 a.told.len, .slice A' a.told.cuts.length c', .slice R' a.told.dens.length d', .int .i64 a.own.len, .slice A a.own.cuts.length c, .slice R a.own.dens.length d, .int .i64 (-1), .int .i64 0] 43), (g6, .cells #[.int .i64 a.own.len, .slice A a.own.cuts.length c, .slice R a.own.dens.length d, .int .i64 a.told.len, .slice A' a.told.cuts.length c', .slice R' a.told.dens.length d', .int .i64 a.after, .int .i64 a.asked] 43)]) G) j => cell_of_row e.w _ j _ _ _ ((GE.h e).get 0 rfl)
              have z_y := fun (e : GE (Bx wa [(g7, .cells #[.int .i64 a.told.len, .slice A' a.told.cuts.length c', .slice R' a.told.dens.length d', .int .i64 a.own.len, .slice A a.own.cuts.length c, .slice R a.own.dens.length d, .int .i64 (-1), .int .i64 0] 43), (g6, .cells #[.int .i64 a.own.len, .slice A a.own.cuts.length c, .slice R a.own.dens.length d, .int .i64 a.told.len, .slice A' a.told.cuts.length c', .slice R' a.told.dens.length d', .int .i64 a.after, .int .i64 a.asked] 43)]) G) => (GE.h e).lt 0 rfl
              have c_x := fun (e : GE (Bx wa [(g7, .cells #[.int .i64 a.told.len, .slice A' a.told.cuts.length c', .slice R' a.told.dens.length d', .int .i64 a.own.len, .slice A a.own.cuts.length c, .slice R a.own.dens.length d, .int .i64 (-1), .int .i64 0] 43), (g6, .cells #[.int .i64 a.own.len, .slice A a.own.cuts.length c, .slice R a.own.dens.length d, .int .i64 a.told.len, .slice A' a.told.cuts.length c', .slice R' a.told.dens.length d', .int .i64 a.after, .int .i64 a.asked] 43)]) G) j => cell_of_row e.w _ j _ _ _ ((GE.h e).get 1 rfl)
              have z_x := fun (e : GE (Bx wa [(g7, .cells #[.int .i64 a.told.len, .slice A' a.told.cuts.length c', .slice R' a.told.dens.length d', .int .i64 a.own.len, .slice A a.own.cuts.length c, .slice R a.own.dens.length d, .int .i64 (-1), .int .i64 0] 43), (g6, .cells #[.int .i64 a.own.len, .slice A a.own.cuts.length c, .slice R a.own.dens.length d, .int .i64 a.told.len, .slice A' a.told.cuts.length c', .slice R' a.told.dens.length d', .int .i64 a.after, .int .i64 a.asked] 43)]) G) => (GE.h e).lt 1 rfl
              simp only [pickOps, List.getElem?_toArray, List.getElem?_cons_zero, List.getElem?_cons_succ]
              repeat (first | go_big_quiet_step (fail) | quiet_step (fail))
              exact wpQuiet_nil rfl
            refine wpAnyT_all (rs := [2, 6]) (by kernel_rfl) (by simp) (fun wa117 hwa117 hRwa117 i hi => ?_)
            have hB302 := hB301.next hwa117
            clear hB301 hwa117 hRwa117
            rcases List.mem_cons.1 hi with rfl | hi
            · refine wpOp_step rfl (fun Kc hKc => ?_)
              go_simp
              have hB303 := hB302.new (g := wa117.heap.size) rfl (.cells #[.int .i64 a.own.len, .slice A a.own.cuts.length c, .slice R a.own.dens.length d, .int .i64 a.told.len, .slice A' a.told.cuts.length c', .slice R' a.told.dens.length d', .int .i64 a.after, .int .i64 a.asked] 43)
              refine hKc _ _ ⟨(hB303.keep (List.Sublist.cons _ (List.Sublist.cons_cons _ (List.Sublist.cons_cons _ (List.nil_sublist _))))), ?_⟩
              clear hKc Kc hB302
              generalize wa117.heap.size = gl1 at *
              generalize wa117.alloc _ = wb118 at *
              refine wpAnyT_all (rs := [3, 6]) (by kernel_rfl) (by simp) (fun wa119 hwa119 hRwa119 i hi => ?_)
              have hB304 := hB303.next hwa119
              clear hB303 hwa119 hRwa119
              rcases List.mem_cons.1 hi with rfl | hi
              · refine wpOp_step rfl (fun Kc hKc => ?_)
                refine step_append_any _ rfl (.tmp 120) (.tmp 122) 22 rfl wa.heap.size 43 i0 (.agg #[.int .i64 0, .slice none 0 0, .slice none 0 0, .int .i64 0, .slice none 0 0, .slice none 0 0, .int .i64 0, .int .i64 0]) 8 128 Try.underlying22 hi0 hz0 hz1 hz2 rfl (by omega) (.slice B1 n1 b1) n1 xs1 rfl (hB304.row 0 rfl) _ (some ⟨gl1, 0, none⟩) 1 1 [.int .i64 a.own.len, .slice A a.own.cuts.length c, .slice R a.own.dens.length d, .int .i64 a.told.len, .slice A' a.told.cuts.length c', .slice R' a.told.dens.length d', .int .i64 a.after, .int .i64 a.asked] rfl (reads_lit (n := 1) (s := 8) (hB304.get 0 rfl) rfl) (by intro u hu; simp at hu; rcases hu with rfl | rfl | rfl | rfl | rfl | rfl | rfl | rfl <;> rfl) (by have := HNL.out; unfold maxLen; omega) (by have := HNL.out; omega) hB304.below.size ?_
                intro v5 wb120 hown hgr hat
                obtain ⟨B5, b5, rfl, _, _⟩ := own_nil_len hown
                have hB305 := hB304.grow 0 rfl hgr hown hat
                refine hKc _ _ ⟨(hB305.keep (List.Sublist.cons _ (List.Sublist.cons_cons _ (List.Sublist.cons_cons _ (List.nil_sublist _))))), ?_⟩
                clear hKc Kc hB304 hown hgr hat
                refine wpAnyT_all (rs := [6]) (by kernel_rfl) (by simp) (fun wa121 hwa121 hRwa121 i hi => ?_)
                have hB306 := hB305.next hwa121
                clear hB305 hwa121 hRwa121
                obtain rfl := List.mem_singleton.1 hi
                refine wpOp_step rfl (fun Kc hKc => ?_)
                go_simp
                have hB307 := hB306.new (g := wa121.heap.size) rfl (.cells #[.int .i64 a.told.len, .slice A' a.told.cuts.length c', .slice R' a.told.dens.length d', .int .i64 a.own.len, .slice A a.own.cuts.length c, .slice R a.own.dens.length d, .int .i64 (-1), .int .i64 0] 43)
                refine hKc _ _ ⟨(hB307.keep (List.Sublist.cons _ (List.Sublist.cons _ (List.Sublist.cons_cons _ (List.Sublist.cons_cons _ (List.nil_sublist _)))))), ?_⟩
                clear hKc Kc hB306
                generalize wa121.heap.size = gl2 at *
                generalize wa121.alloc _ = wb122 at *
                refine wpAnyT_all (rs := [7]) (by kernel_rfl) (by simp) (fun wa123 hwa123 hRwa123 i hi => ?_)
                have hB308 := hB307.next hwa123
                clear hB307 hwa123 hRwa123
                obtain rfl := List.mem_singleton.1 hi
                refine wpOp_step rfl (fun Kc hKc => ?_)
                refine step_append_any _ rfl (.tmp 124) (.tmp 126) 22 rfl wa.heap.size 43 i0 (.agg #[.int .i64 0, .slice none 0 0, .slice none 0 0, .int .i64 0, .slice none 0 0, .slice none 0 0, .int .i64 0, .int .i64 0]) 8 128 Try.underlying22 hi0 hz0 hz1 hz2 rfl (by omega) (.slice B2 n2 b2) n2 xs2 rfl (hB308.row 1 rfl) _ (some ⟨gl2, 0, none⟩) 1 1 [.int .i64 a.told.len, .slice A' a.told.cuts.length c', .slice R' a.told.dens.length d', .int .i64 a.own.len, .slice A a.own.cuts.length c, .slice R a.own.dens.length d, .int .i64 (-1), .int .i64 0] rfl (reads_lit (n := 1) (s := 8) (hB308.get 0 rfl) rfl) (by intro u hu; simp at hu; rcases hu with rfl | rfl | rfl | rfl | rfl | rfl | rfl | rfl <;> rfl) (by have := HNL.out; unfold maxLen; omega) (by have := HNL.out; omega) hB308.below.size ?_
                intro v6 wb124 hown hgr hat
                obtain ⟨B6, b6, rfl, _, _⟩ := own_nil_len hown
                have hB309 := hB308.grow 1 rfl hgr hown hat
                refine hKc _ _ ⟨(hB309.keep (List.Sublist.cons _ (List.Sublist.cons _ (List.Sublist.cons_cons _ (List.Sublist.cons_cons _ (List.nil_sublist _)))))), ?_⟩
                clear hKc Kc hB308 hown hgr hat
                refine wpAnyT_go (Bx.grows _ _) (hB309.keep (List.Sublist.cons _ (List.Sublist.cons _ (List.Sublist.cons_cons _ (List.Sublist.cons_cons _ (List.nil_sublist _)))))) [8, 9] 0 (by kernel_rfl) ?_
                apply Exists.intro
                refine ⟨fun G hG hN => ?_, ?_⟩
                · have c_y := fun (e : GE (Bx wa [(g7, .cells #[.int .i64 a.told.len, .slice A' a.told.cuts.length c', .slice R' a.told.dens.length d', .int .i64 a.own.len, .slice A a.own.cuts.length c, .slice R a.own.dens.length d, .int .i64 (-1), .int .i64 0] 43), (g6, .cells #[.int .i64 a.own.len, .slice A a.own.cuts.length c, .slice R a.own.dens.length d, .int .i64 a.told.len, .slice A' a.told.cuts.length c', .slice R' a.told.dens.length d', .int .i64 a.after, .int .i64 a.asked] 43)]) G) j => cell_of_row e.w _ j _ _ _ ((GE.h e).get 0 rfl)
                  have z_y := fun (e : GE (Bx wa [(g7, .cells #[.int .i64 a.told.len, .slice A' a.told.cuts.length c', .slice R' a.told.dens.length d', .int .i64 a.own.len, .slice A a.own.cuts.length c, .slice R a.own.dens.length d, .int .i64 (-1), .int .i64 0] 43), (g6, .cells #[.int .i64 a.own.len, .slice A a.own.cuts.length c, .slice R a.own.dens.length d, .int .i64 a.told.len, .slice A' a.told.cuts.length c', .slice R' a.told.dens.length d', .int .i64 a.after, .int .i64 a.asked] 43)]) G) => (GE.h e).lt 0 rfl
                  have c_x := fun (e : GE (Bx wa [(g7, .cells #[.int .i64 a.told.len, .slice A' a.told.cuts.length c', .slice R' a.told.dens.length d', .int .i64 a.own.len, .slice A a.own.cuts.length c, .slice R a.own.dens.length d, .int .i64 (-1), .int .i64 0] 43), (g6, .cells #[.int .i64 a.own.len, .slice A a.own.cuts.length c, .slice R a.own.dens.length d, .int .i64 a.told.len, .slice A' a.told.cuts.length c', .slice R' a.told.dens.length d', .int .i64 a.after, .int .i64 a.asked] 43)]) G) j => cell_of_row e.w _ j _ _ _ ((GE.h e).get 1 rfl)
                  have z_x := fun (e : GE (Bx wa [(g7, .cells #[.int .i64 a.told.len, .slice A' a.told.cuts.length c', .slice R' a.told.dens.length d', .int .i64 a.own.len, .slice A a.own.cuts.length c, .slice R a.own.dens.length d, .int .i64 (-1), .int .i64 0] 43), (g6, .cells #[.int .i64 a.own.len, .slice A a.own.cuts.length c, .slice R a.own.dens.length d, .int .i64 a.told.len, .slice A' a.told.cuts.length c', .slice R' a.told.dens.length d', .int .i64 a.after, .int .i64 a.asked] 43)]) G) => (GE.h e).lt 1 rfl
                  simp only [pickOps, List.getElem?_toArray, List.getElem?_cons_zero, List.getElem?_cons_succ]
                  repeat (first | go_big_quiet_step (fail) | quiet_step (fail))
                  exact wpQuiet_nil rfl
                refine wpAnyT_done (by kernel_rfl) (fun wd125 hwd125 hRwd125 => ?_) _
                refine NoPanic.normal ?_
                have hB310 := hB309.next hwd125
                clear hB309 hwd125 hRwd125
                have hMn : Mx wa [] [⟨.slice B5 (n1 + 1) b5, 43, 8, n1 + 1, xs1 ++ [.int .i64 a.own.len, .slice A a.own.cuts.length c, .slice R a.own.dens.length d, .int .i64 a.told.len, .slice A' a.told.cuts.length c', .slice R' a.told.dens.length d', .int .i64 a.after, .int .i64 a.asked]⟩, ⟨.slice B6 (n2 + 1) b6, 43, 8, n2 + 1, xs2 ++ [.int .i64 a.told.len, .slice A' a.told.cuts.length c', .slice R' a.told.dens.length d', .int .i64 a.own.len, .slice A a.own.cuts.length c, .slice R a.own.dens.length d, .int .i64 (-1), .int .i64 0]⟩] wd125 := hB310.sub0
                clear hB310
                have hnn1 : n1 + 1 = ((othL acs ks ra.acs).take (k + 1)).length := by rw [HT1.out, List.length_append, ← HN1.out]; rfl
                have hnn2 : n2 + 1 = ((tldL acs).take (k + 1)).length := by rw [HT2.out, List.length_append, ← HN2.out]; rfl
                have HM2 := Lib.hid (show ∃ v1 v2 : Value, v1 = .slice B5 (n1 + 1) b5 ∧ v2 = .slice B6 (n2 + 1) b6 ∧ Mx wa [] [⟨v1, 43, 8, ((othL acs ks ra.acs).take (k + 1)).length, xs1 ++ [.int .i64 a.own.len, .slice A a.own.cuts.length c, .slice R a.own.dens.length d, .int .i64 a.told.len, .slice A' a.told.cuts.length c', .slice R' a.told.dens.length d', .int .i64 a.after, .int .i64 a.asked]⟩, ⟨v2, 43, 8, ((tldL acs).take (k + 1)).length, xs2 ++ [.int .i64 a.told.len, .slice A' a.told.cuts.length c', .slice R' a.told.dens.length d', .int .i64 a.own.len, .slice A a.own.cuts.length c, .slice R a.own.dens.length d, .int .i64 (-1), .int .i64 0]⟩] wd125 from ⟨_, _, rfl, rfl, by rw [← hnn1, ← hnn2]; exact hMn⟩)
                have HL1_ := Lib.hid (show Lay kAc w ((othL acs ks ra.acs).take (k + 1)) (xs1 ++ [.int .i64 a.own.len, .slice A a.own.cuts.length c, .slice R a.own.dens.length d, .int .i64 a.told.len, .slice A' a.told.cuts.length c', .slice R' a.told.dens.length d', .int .i64 a.after, .int .i64 a.asked]) by rw [HT1.out]; exact HE1.out.add (by have := (HMr.out.row 0 rfl).1; rw [← HN1.out]; exact this) HEX.out)
                have HL2_ := Lib.hid (show Lay kAc w ((tldL acs).take (k + 1)) (xs2 ++ [.int .i64 a.told.len, .slice A' a.told.cuts.length c', .slice R' a.told.dens.length d', .int .i64 a.own.len, .slice A a.own.cuts.length c, .slice R a.own.dens.length d, .int .i64 (-1), .int .i64 0]) by rw [HT2.out]; exact HE2.out.add (by have := (HMr.out.row 1 rfl).1; rw [← HN2.out]; exact this) HEY.out)
                clear hMn hnn1 hnn2
                go_wp2_with fail
                obtain ⟨v1, v2, e1, e2, hM3⟩ := HM2.out
                exact ⟨⟨k + 1, v1, v2, _, _, HLE.out.1, e1, e2, by go_num, hM3, HL1_.out, HL2_.out⟩, by simpa [intOf] using HLE.out.2⟩
              · obtain rfl := List.mem_singleton.1 hi
                refine wpOp_step rfl (fun Kc hKc => ?_)
                go_simp
                have hB305 := hB304.new (g := wa119.heap.size) rfl (.cells #[.int .i64 a.told.len, .slice A' a.told.cuts.length c', .slice R' a.told.dens.length d', .int .i64 a.own.len, .slice A a.own.cuts.length c, .slice R a.own.dens.length d, .int .i64 (-1), .int .i64 0] 43)
                refine hKc _ _ ⟨(hB305.keep (List.Sublist.cons _ (List.Sublist.cons _ (List.Sublist.cons_cons _ (List.Sublist.cons_cons _ (List.nil_sublist _)))))), ?_⟩
                clear hKc Kc hB304
                generalize wa119.heap.size = gl2 at *
                generalize wa119.alloc _ = wb126 at *
                refine wpAnyT_all (rs := [3]) (by kernel_rfl) (by simp) (fun wa127 hwa127 hRwa127 i hi => ?_)
                have hB306 := hB305.next hwa127
                clear hB305 hwa127 hRwa127
                obtain rfl := List.mem_singleton.1 hi
                refine wpOp_step rfl (fun Kc hKc => ?_)
                refine step_append_any _ rfl (.tmp 120) (.tmp 122) 22 rfl wa.heap.size 43 i0 (.agg #[.int .i64 0, .slice none 0 0, .slice none 0 0, .int .i64 0, .slice none 0 0, .slice none 0 0, .int .i64 0, .int .i64 0]) 8 128 Try.underlying22 hi0 hz0 hz1 hz2 rfl (by omega) (.slice B1 n1 b1) n1 xs1 rfl (hB306.row 0 rfl) _ (some ⟨gl1, 0, none⟩) 1 1 [.int .i64 a.own.len, .slice A a.own.cuts.length c, .slice R a.own.dens.length d, .int .i64 a.told.len, .slice A' a.told.cuts.length c', .slice R' a.told.dens.length d', .int .i64 a.after, .int .i64 a.asked] rfl (reads_lit (n := 1) (s := 8) (hB306.get 1 rfl) rfl) (by intro u hu; simp at hu; rcases hu with rfl | rfl | rfl | rfl | rfl | rfl | rfl | rfl <;> rfl) (by have := HNL.out; unfold maxLen; omega) (by have := HNL.out; omega) hB306.below.size ?_
                intro v5 wb128 hown hgr hat
                obtain ⟨B5, b5, rfl, _, _⟩ := own_nil_len hown
                have hB307 := hB306.grow 0 rfl hgr hown hat
                refine hKc _ _ ⟨(hB307.keep (List.Sublist.cons _ (List.Sublist.cons _ (List.Sublist.cons_cons _ (List.Sublist.cons_cons _ (List.nil_sublist _)))))), ?_⟩
                clear hKc Kc hB306 hown hgr hat
                refine wpAnyT_all (rs := [7]) (by kernel_rfl) (by simp) (fun wa129 hwa129 hRwa129 i hi => ?_)
                have hB308 := hB307.next hwa129
                clear hB307 hwa129 hRwa129
                obtain rfl := List.mem_singleton.1 hi
                refine wpOp_step rfl (fun Kc hKc => ?_)
                refine step_append_any _ rfl (.tmp 124) (.tmp 126) 22 rfl wa.heap.size 43 i0 (.agg #[.int .i64 0, .slice none 0 0, .slice none 0 0, .int .i64 0, .slice none 0 0, .slice none 0 0, .int .i64 0, .int .i64 0]) 8 128 Try.underlying22 hi0 hz0 hz1 hz2 rfl (by omega) (.slice B2 n2 b2) n2 xs2 rfl (hB308.row 1 rfl) _ (some ⟨gl2, 0, none⟩) 1 1 [.int .i64 a.told.len, .slice A' a.told.cuts.length c', .slice R' a.told.dens.length d', .int .i64 a.own.len, .slice A a.own.cuts.length c, .slice R a.own.dens.length d, .int .i64 (-1), .int .i64 0] rfl (reads_lit (n := 1) (s := 8) (hB308.get 0 rfl) rfl) (by intro u hu; simp at hu; rcases hu with rfl | rfl | rfl | rfl | rfl | rfl | rfl | rfl <;> rfl) (by have := HNL.out; unfold maxLen; omega) (by have := HNL.out; omega) hB308.below.size ?_
                intro v6 wb130 hown hgr hat
                obtain ⟨B6, b6, rfl, _, _⟩ := own_nil_len hown
                have hB309 := hB308.grow 1 rfl hgr hown hat
                refine hKc _ _ ⟨(hB309.keep (List.Sublist.cons _ (List.Sublist.cons _ (List.Sublist.cons_cons _ (List.Sublist.cons_cons _ (List.nil_sublist _)))))), ?_⟩
                clear hKc Kc hB308 hown hgr hat
                refine wpAnyT_go (Bx.grows _ _) (hB309.keep (List.Sublist.cons _ (List.Sublist.cons _ (List.Sublist.cons_cons _ (List.Sublist.cons_cons _ (List.nil_sublist _)))))) [8, 9] 0 (by kernel_rfl) ?_
                apply Exists.intro
                refine ⟨fun G hG hN => ?_, ?_⟩
                · have c_y := fun (e : GE (Bx wa [(g7, .cells #[.int .i64 a.told.len, .slice A' a.told.cuts.length c', .slice R' a.told.dens.length d', .int .i64 a.own.len, .slice A a.own.cuts.length c, .slice R a.own.dens.length d, .int .i64 (-1), .int .i64 0] 43), (g6, .cells #[.int .i64 a.own.len, .slice A a.own.cuts.length c, .slice R a.own.dens.length d, .int .i64 a.told.len, .slice A' a.told.cuts.length c', .slice R' a.told.dens.length d', .int .i64 a.after, .int .i64 a.asked] 43)]) G) j => cell_of_row e.w _ j _ _ _ ((GE.h e).get 0 rfl)
                  have z_y := fun (e : GE (Bx wa [(g7, .cells #[.int .i64 a.told.len, .slice A' a.told.cuts.length c', .slice R' a.told.dens.length d', .int .i64 a.own.len, .slice A a.own.cuts.length c, .slice R a.own.dens.length d, .int .i64 (-1), .int .i64 0] 43), (g6, .cells #[.int .i64 a.own.len, .slice A a.own.cuts.length c, .slice R a.own.dens.length d, .int .i64 a.told.len, .slice A' a.told.cuts.length c', .slice R' a.told.dens.length d', .int .i64 a.after, .int .i64 a.asked] 43)]) G) => (GE.h e).lt 0 rfl
                  have c_x := fun (e : GE (Bx wa [(g7, .cells #[.int .i64 a.told.len, .slice A' a.told.cuts.length c', .slice R' a.told.dens.length d', .int .i64 a.own.len, .slice A a.own.cuts.length c, .slice R a.own.dens.length d, .int .i64 (-1), .int .i64 0] 43), (g6, .cells #[.int .i64 a.own.len, .slice A a.own.cuts.length c, .slice R a.own.dens.length d, .int .i64 a.told.len, .slice A' a.told.cuts.length c', .slice R' a.told.dens.length d', .int .i64 a.after, .int .i64 a.asked] 43)]) G) j => cell_of_row e.w _ j _ _ _ ((GE.h e).get 1 rfl)
                  have z_x := fun (e : GE (Bx wa [(g7, .cells #[.int .i64 a.told.len, .slice A' a.told.cuts.length c', .slice R' a.told.dens.length d', .int .i64 a.own.len, .slice A a.own.cuts.length c, .slice R a.own.dens.length d, .int .i64 (-1), .int .i64 0] 43), (g6, .cells #[.int .i64 a.own.len, .slice A a.own.cuts.length c, .slice R a.own.dens.length d, .int .i64 a.told.len, .slice A' a.told.cuts.length c', .slice R' a.told.dens.length d', .int .i64 a.after, .int .i64 a.asked] 43)]) G) => (GE.h e).lt 1 rfl
                  simp only [pickOps, List.getElem?_toArray, List.getElem?_cons_zero, List.getElem?_cons_succ]
                  repeat (first | go_big_quiet_step (fail) | quiet_step (fail))
                  exact wpQuiet_nil rfl
                refine wpAnyT_done (by kernel_rfl) (fun wd131 hwd131 hRwd131 => ?_) _
                refine NoPanic.normal ?_
                have hB310 := hB309.next hwd131
                clear hB309 hwd131 hRwd131
                have hMn : Mx wa [] [⟨.slice B5 (n1 + 1) b5, 43, 8, n1 + 1, xs1 ++ [.int .i64 a.own.len, .slice A a.own.cuts.length c, .slice R a.own.dens.length d, .int .i64 a.told.len, .slice A' a.told.cuts.length c', .slice R' a.told.dens.length d', .int .i64 a.after, .int .i64 a.asked]⟩, ⟨.slice B6 (n2 + 1) b6, 43, 8, n2 + 1, xs2 ++ [.int .i64 a.told.len, .slice A' a.told.cuts.length c', .slice R' a.told.dens.length d', .int .i64 a.own.len, .slice A a.own.cuts.length c, .slice R a.own.dens.length d, .int .i64 (-1), .int .i64 0]⟩] wd131 := hB310.sub0
                clear hB310
                have hnn1 : n1 + 1 = ((othL acs ks ra.acs).take (k + 1)).length := by rw [HT1.out, List.length_append, ← HN1.out]; rfl
                have hnn2 : n2 + 1 = ((tldL acs).take (k + 1)).length := by rw [HT2.out, List.length_append, ← HN2.out]; rfl
                have HM2 := Lib.hid (show ∃ v1 v2 : Value, v1 = .slice B5 (n1 + 1) b5 ∧ v2 = .slice B6 (n2 + 1) b6 ∧ Mx wa [] [⟨v1, 43, 8, ((othL acs ks ra.acs).take (k + 1)).length, xs1 ++ [.int .i64 a.own.len, .slice A a.own.cuts.length c, .slice R a.own.dens.length d, .int .i64 a.told.len, .slice A' a.told.cuts.length c', .slice R' a.told.dens.length d', .int .i64 a.after, .int .i64 a.asked]⟩, ⟨v2, 43, 8, ((tldL acs).take (k + 1)).length, xs2 ++ [.int .i64 a.told.len, .slice A' a.told.cuts.length c', .slice R' a.told.dens.length d', .int .i64 a.own.len, .slice A a.own.cuts.length c, .slice R a.own.dens.length d, .int .i64 (-1), .int .i64 0]⟩] wd131 from ⟨_, _, rfl, rfl, by rw [← hnn1, ← hnn2]; exact hMn⟩)
                have HL1_ := Lib.hid (show Lay kAc w ((othL acs ks ra.acs).take (k + 1)) (xs1 ++ [.int .i64 a.own.len, .slice A a.own.cuts.length c, .slice R a.own.dens.length d, .int .i64 a.told.len, .slice A' a.told.cuts.length c', .slice R' a.told.dens.length d', .int .i64 a.after, .int .i64 a.asked]) by rw [HT1.out]; exact HE1.out.add (by have := (HMr.out.row 0 rfl).1; rw [← HN1.out]; exact this) HEX.out)
                have HL2_ := Lib.hid (show Lay kAc w ((tldL acs).take (k + 1)) (xs2 ++ [.int .i64 a.told.len, .slice A' a.told.cuts.length c', .slice R' a.told.dens.length d', .int .i64 a.own.len, .slice A a.own.cuts.length c, .slice R a.own.dens.length d, .int .i64 (-1), .int .i64 0]) by rw [HT2.out]; exact HE2.out.add (by have := (HMr.out.row 1 rfl).1; rw [← HN2.out]; exact this) HEY.out)
                clear hMn hnn1 hnn2
                go_wp2_with fail
                obtain ⟨v1, v2, e1, e2, hM3⟩ := HM2.out
                exact ⟨⟨k + 1, v1, v2, _, _, HLE.out.1, e1, e2, by go_num, hM3, HL1_.out, HL2_.out⟩, by simpa [intOf] using HLE.out.2⟩
            · obtain rfl := List.mem_singleton.1 hi
              refine wpOp_step rfl (fun Kc hKc => ?_)
              go_simp
              have hB303 := hB302.new (g := wa117.heap.size) rfl (.cells #[.int .i64 a.told.len, .slice A' a.told.cuts.length c', .slice R' a.told.dens.length d', .int .i64 a.own.len, .slice A a.own.cuts.length c, .slice R a.own.dens.length d, .int .i64 (-1), .int .i64 0] 43)
              refine hKc _ _ ⟨(hB303.keep (List.Sublist.cons _ (List.Sublist.cons_cons _ (List.Sublist.cons_cons _ (List.nil_sublist _))))), ?_⟩
              clear hKc Kc hB302
              generalize wa117.heap.size = gl2 at *
              generalize wa117.alloc _ = wb132 at *
              refine wpAnyT_all (rs := [2]) (by kernel_rfl) (by simp) (fun wa133 hwa133 hRwa133 i hi => ?_)
              have hB304 := hB303.next hwa133
              clear hB303 hwa133 hRwa133
              obtain rfl := List.mem_singleton.1 hi
              refine wpOp_step rfl (fun Kc hKc => ?_)
              go_simp
              have hB305 := hB304.new (g := wa133.heap.size) rfl (.cells #[.int .i64 a.own.len, .slice A a.own.cuts.length c, .slice R a.own.dens.length d, .int .i64 a.told.len, .slice A' a.told.cuts.length c', .slice R' a.told.dens.length d', .int .i64 a.after, .int .i64 a.asked] 43)
              refine hKc _ _ ⟨(hB305.keep (List.Sublist.cons _ (List.Sublist.cons _ (List.Sublist.cons_cons _ (List.Sublist.cons_cons _ (List.nil_sublist _)))))), ?_⟩
              clear hKc Kc hB304
              generalize wa133.heap.size = gl1 at *
              generalize wa133.alloc _ = wb134 at *
              refine wpAnyT_all (rs := [3]) (by kernel_rfl) (by simp) (fun wa135 hwa135 hRwa135 i hi => ?_)
              have hB306 := hB305.next hwa135
              clear hB305 hwa135 hRwa135
              obtain rfl := List.mem_singleton.1 hi
              refine wpOp_step rfl (fun Kc hKc => ?_)
              refine step_append_any _ rfl (.tmp 120) (.tmp 122) 22 rfl wa.heap.size 43 i0 (.agg #[.int .i64 0, .slice none 0 0, .slice none 0 0, .int .i64 0, .slice none 0 0, .slice none 0 0, .int .i64 0, .int .i64 0]) 8 128 Try.underlying22 hi0 hz0 hz1 hz2 rfl (by omega) (.slice B1 n1 b1) n1 xs1 rfl (hB306.row 0 rfl) _ (some ⟨gl1, 0, none⟩) 1 1 [.int .i64 a.own.len, .slice A a.own.cuts.length c, .slice R a.own.dens.length d, .int .i64 a.told.len, .slice A' a.told.cuts.length c', .slice R' a.told.dens.length d', .int .i64 a.after, .int .i64 a.asked] rfl (reads_lit (n := 1) (s := 8) (hB306.get 0 rfl) rfl) (by intro u hu; simp at hu; rcases hu with rfl | rfl | rfl | rfl | rfl | rfl | rfl | rfl <;> rfl) (by have := HNL.out; unfold maxLen; omega) (by have := HNL.out; omega) hB306.below.size ?_
              intro v5 wb136 hown hgr hat
              obtain ⟨B5, b5, rfl, _, _⟩ := own_nil_len hown
              have hB307 := hB306.grow 0 rfl hgr hown hat
              refine hKc _ _ ⟨(hB307.keep (List.Sublist.cons _ (List.Sublist.cons _ (List.Sublist.cons_cons _ (List.Sublist.cons_cons _ (List.nil_sublist _)))))), ?_⟩
              clear hKc Kc hB306 hown hgr hat
              refine wpAnyT_all (rs := [7]) (by kernel_rfl) (by simp) (fun wa137 hwa137 hRwa137 i hi => ?_)
              have hB308 := hB307.next hwa137
              clear hB307 hwa137 hRwa137
              obtain rfl := List.mem_singleton.1 hi
              refine wpOp_step rfl (fun Kc hKc => ?_)
              refine step_append_any _ rfl (.tmp 124) (.tmp 126) 22 rfl wa.heap.size 43 i0 (.agg #[.int .i64 0, .slice none 0 0, .slice none 0 0, .int .i64 0, .slice none 0 0, .slice none 0 0, .int .i64 0, .int .i64 0]) 8 128 Try.underlying22 hi0 hz0 hz1 hz2 rfl (by omega) (.slice B2 n2 b2) n2 xs2 rfl (hB308.row 1 rfl) _ (some ⟨gl2, 0, none⟩) 1 1 [.int .i64 a.told.len, .slice A' a.told.cuts.length c', .slice R' a.told.dens.length d', .int .i64 a.own.len, .slice A a.own.cuts.length c, .slice R a.own.dens.length d, .int .i64 (-1), .int .i64 0] rfl (reads_lit (n := 1) (s := 8) (hB308.get 1 rfl) rfl) (by intro u hu; simp at hu; rcases hu with rfl | rfl | rfl | rfl | rfl | rfl | rfl | rfl <;> rfl) (by have := HNL.out; unfold maxLen; omega) (by have := HNL.out; omega) hB308.below.size ?_
              intro v6 wb138 hown hgr hat
              obtain ⟨B6, b6, rfl, _, _⟩ := own_nil_len hown
              have hB309 := hB308.grow 1 rfl hgr hown hat
              refine hKc _ _ ⟨(hB309.keep (List.Sublist.cons _ (List.Sublist.cons _ (List.Sublist.cons_cons _ (List.Sublist.cons_cons _ (List.nil_sublist _)))))), ?_⟩
              clear hKc Kc hB308 hown hgr hat
              refine wpAnyT_go (Bx.grows _ _) (hB309.keep (List.Sublist.cons _ (List.Sublist.cons _ (List.Sublist.cons_cons _ (List.Sublist.cons_cons _ (List.nil_sublist _)))))) [8, 9] 0 (by kernel_rfl) ?_
              apply Exists.intro
              refine ⟨fun G hG hN => ?_, ?_⟩
              · have c_y := fun (e : GE (Bx wa [(g7, .cells #[.int .i64 a.told.len, .slice A' a.told.cuts.length c', .slice R' a.told.dens.length d', .int .i64 a.own.len, .slice A a.own.cuts.length c, .slice R a.own.dens.length d, .int .i64 (-1), .int .i64 0] 43), (g6, .cells #[.int .i64 a.own.len, .slice A a.own.cuts.length c, .slice R a.own.dens.length d, .int .i64 a.told.len, .slice A' a.told.cuts.length c', .slice R' a.told.dens.length d', .int .i64 a.after, .int .i64 a.asked] 43)]) G) j => cell_of_row e.w _ j _ _ _ ((GE.h e).get 0 rfl)
                have z_y := fun (e : GE (Bx wa [(g7, .cells #[.int .i64 a.told.len, .slice A' a.told.cuts.length c', .slice R' a.told.dens.length d', .int .i64 a.own.len, .slice A a.own.cuts.length c, .slice R a.own.dens.length d, .int .i64 (-1), .int .i64 0] 43), (g6, .cells #[.int .i64 a.own.len, .slice A a.own.cuts.length c, .slice R a.own.dens.length d, .int .i64 a.told.len, .slice A' a.told.cuts.length c', .slice R' a.told.dens.length d', .int .i64 a.after, .int .i64 a.asked] 43)]) G) => (GE.h e).lt 0 rfl
                have c_x := fun (e : GE (Bx wa [(g7, .cells #[.int .i64 a.told.len, .slice A' a.told.cuts.length c', .slice R' a.told.dens.length d', .int .i64 a.own.len, .slice A a.own.cuts.length c, .slice R a.own.dens.length d, .int .i64 (-1), .int .i64 0] 43), (g6, .cells #[.int .i64 a.own.len, .slice A a.own.cuts.length c, .slice R a.own.dens.length d, .int .i64 a.told.len, .slice A' a.told.cuts.length c', .slice R' a.told.dens.length d', .int .i64 a.after, .int .i64 a.asked] 43)]) G) j => cell_of_row e.w _ j _ _ _ ((GE.h e).get 1 rfl)
                have z_x := fun (e : GE (Bx wa [(g7, .cells #[.int .i64 a.told.len, .slice A' a.told.cuts.length c', .slice R' a.told.dens.length d', .int .i64 a.own.len, .slice A a.own.cuts.length c, .slice R a.own.dens.length d, .int .i64 (-1), .int .i64 0] 43), (g6, .cells #[.int .i64 a.own.len, .slice A a.own.cuts.length c, .slice R a.own.dens.length d, .int .i64 a.told.len, .slice A' a.told.cuts.length c', .slice R' a.told.dens.length d', .int .i64 a.after, .int .i64 a.asked] 43)]) G) => (GE.h e).lt 1 rfl
                simp only [pickOps, List.getElem?_toArray, List.getElem?_cons_zero, List.getElem?_cons_succ]
                repeat (first | go_big_quiet_step (fail) | quiet_step (fail))
                exact wpQuiet_nil rfl
              refine wpAnyT_done (by kernel_rfl) (fun wd139 hwd139 hRwd139 => ?_) _
              refine NoPanic.normal ?_
              have hB310 := hB309.next hwd139
              clear hB309 hwd139 hRwd139
              have hMn : Mx wa [] [⟨.slice B5 (n1 + 1) b5, 43, 8, n1 + 1, xs1 ++ [.int .i64 a.own.len, .slice A a.own.cuts.length c, .slice R a.own.dens.length d, .int .i64 a.told.len, .slice A' a.told.cuts.length c', .slice R' a.told.dens.length d', .int .i64 a.after, .int .i64 a.asked]⟩, ⟨.slice B6 (n2 + 1) b6, 43, 8, n2 + 1, xs2 ++ [.int .i64 a.told.len, .slice A' a.told.cuts.length c', .slice R' a.told.dens.length d', .int .i64 a.own.len, .slice A a.own.cuts.length c, .slice R a.own.dens.length d, .int .i64 (-1), .int .i64 0]⟩] wd139 := hB310.sub0
              clear hB310
              have hnn1 : n1 + 1 = ((othL acs ks ra.acs).take (k + 1)).length := by rw [HT1.out, List.length_append, ← HN1.out]; rfl
              have hnn2 : n2 + 1 = ((tldL acs).take (k + 1)).length := by rw [HT2.out, List.length_append, ← HN2.out]; rfl
              have HM2 := Lib.hid (show ∃ v1 v2 : Value, v1 = .slice B5 (n1 + 1) b5 ∧ v2 = .slice B6 (n2 + 1) b6 ∧ Mx wa [] [⟨v1, 43, 8, ((othL acs ks ra.acs).take (k + 1)).length, xs1 ++ [.int .i64 a.own.len, .slice A a.own.cuts.length c, .slice R a.own.dens.length d, .int .i64 a.told.len, .slice A' a.told.cuts.length c', .slice R' a.told.dens.length d', .int .i64 a.after, .int .i64 a.asked]⟩, ⟨v2, 43, 8, ((tldL acs).take (k + 1)).length, xs2 ++ [.int .i64 a.told.len, .slice A' a.told.cuts.length c', .slice R' a.told.dens.length d', .int .i64 a.own.len, .slice A a.own.cuts.length c, .slice R a.own.dens.length d, .int .i64 (-1), .int .i64 0]⟩] wd139 from ⟨_, _, rfl, rfl, by rw [← hnn1, ← hnn2]; exact hMn⟩)
              have HL1_ := Lib.hid (show Lay kAc w ((othL acs ks ra.acs).take (k + 1)) (xs1 ++ [.int .i64 a.own.len, .slice A a.own.cuts.length c, .slice R a.own.dens.length d, .int .i64 a.told.len, .slice A' a.told.cuts.length c', .slice R' a.told.dens.length d', .int .i64 a.after, .int .i64 a.asked]) by rw [HT1.out]; exact HE1.out.add (by have := (HMr.out.row 0 rfl).1; rw [← HN1.out]; exact this) HEX.out)
              have HL2_ := Lib.hid (show Lay kAc w ((tldL acs).take (k + 1)) (xs2 ++ [.int .i64 a.told.len, .slice A' a.told.cuts.length c', .slice R' a.told.dens.length d', .int .i64 a.own.len, .slice A a.own.cuts.length c, .slice R a.own.dens.length d, .int .i64 (-1), .int .i64 0]) by rw [HT2.out]; exact HE2.out.add (by have := (HMr.out.row 1 rfl).1; rw [← HN2.out]; exact this) HEY.out)
              clear hMn hnn1 hnn2
              go_wp2_with fail
              obtain ⟨v1, v2, e1, e2, hM3⟩ := HM2.out
              exact ⟨⟨k + 1, v1, v2, _, _, HLE.out.1, e1, e2, by go_num, hM3, HL1_.out, HL2_.out⟩, by simpa [intOf] using HLE.out.2⟩
          have b7 : (a.after == 0) = false := by simpa using e0
          have HAF := Lib.hid e0
          clear e0
          go_upto_region 19 with fail
          clear c_y z_y b7
          have HXO := Lib.hid (show oth a K y.asked = ⟨a.own, a.told, a.after, a.asked⟩ from oth_no HCD.out)
          have HYO := Lib.hid (show tld a = ⟨a.own, a.told, a.after, a.asked⟩ from tld_no HAF.out)
          have HEX := Lib.hid (show kAc.El w (oth a K y.asked) [.int .i64 a.own.len, .slice A a.own.cuts.length c, .slice R a.own.dens.length d, .int .i64 a.told.len, .slice A' a.told.cuts.length c', .slice R' a.told.dens.length d', .int .i64 a.after, .int .i64 a.asked] by rw [HXO.out]; exact ac_el HCC.out.1 HCC.out.2.1 ⟨HAW.out.a0, HAW.out.a1, HAW.out.k0, HAW.out.k1⟩)
          have HEY := Lib.hid (show kAc.El w (tld a) [.int .i64 a.own.len, .slice A a.own.cuts.length c, .slice R a.own.dens.length d, .int .i64 a.told.len, .slice A' a.told.cuts.length c', .slice R' a.told.dens.length d', .int .i64 a.after, .int .i64 a.asked] by rw [HYO.out]; exact ac_el HCC.out.1 HCC.out.2.1 ⟨HAW.out.a0, HAW.out.a1, HAW.out.k0, HAW.out.k1⟩)
          have hRR : Mx wa [(g7, .cells #[.int .i64 a.own.len, .slice A a.own.cuts.length c, .slice R a.own.dens.length d, .int .i64 a.told.len, .slice A' a.told.cuts.length c', .slice R' a.told.dens.length d', .int .i64 a.after, .int .i64 a.asked] 43), (g6, .cells #[.int .i64 a.own.len, .slice A a.own.cuts.length c, .slice R a.own.dens.length d, .int .i64 a.told.len, .slice A' a.told.cuts.length c', .slice R' a.told.dens.length d', .int .i64 a.after, .int .i64 a.asked] 43)] [⟨.slice B1 n1 b1, 43, 8, n1, xs1⟩, ⟨.slice B2 n2 b2, 43, 8, n2, xs2⟩] wp_ := Mx.onto HMr.out hMp
          clear hMp
          go_wp2_with fail
          refine wp_region_T (Bx wa [(g7, .cells #[.int .i64 a.own.len, .slice A a.own.cuts.length c, .slice R a.own.dens.length d, .int .i64 a.told.len, .slice A' a.told.cuts.length c', .slice R' a.told.dens.length d', .int .i64 a.after, .int .i64 a.asked] 43), (g6, .cells #[.int .i64 a.own.len, .slice A a.own.cuts.length c, .slice R a.own.dens.length d, .int .i64 a.told.len, .slice A' a.told.cuts.length c', .slice R' a.told.dens.length d', .int .i64 a.after, .int .i64 a.asked] 43)]) 10 (by kernel_rfl) (by rfl) ((hRR.keep (List.Sublist.cons_cons _ (List.Sublist.cons_cons _ (List.nil_sublist _)))).drew) (fun wq140 hbq => ?_)
          have hB301 := hRR.next hbq
          clear hRR hbq
          refine wpAnyT_go (Bx.grows _ _) (hB301.keep (List.Sublist.cons_cons _ (List.Sublist.cons_cons _ (List.nil_sublist _)))) [0, 1, 4, 5] 6 (by kernel_rfl) ?_
          apply Exists.intro
          refine ⟨fun G hG hN => ?_, ?_⟩
          · have c_y := fun (e : GE (Bx wa [(g7, .cells #[.int .i64 a.own.len, .slice A a.own.cuts.length c, .slice R a.own.dens.length d, .int .i64 a.told.len, .slice A' a.told.cuts.length c', .slice R' a.told.dens.length d', .int .i64 a.after, .int .i64 a.asked] 43), (g6, .cells #[.int .i64 a.own.len, .slice A a.own.cuts.length c, .slice R a.own.dens.length d, .int .i64 a.told.len, .slice A' a.told.cuts.length c', .slice R' a.told.dens.length d', .int .i64 a.after, .int .i64 a.asked] 43)]) G) j => cell_of_row e.w _ j _ _ _ ((GE.h e).get 0 rfl)
            have z_y := fun (e : GE (Bx wa [(g7, .cells #[.int .i64 a.own.len, .slice A a.own.cuts.length c, .slice R a.own.dens.length d, .int .i64 a.told.len, .slice A' a.told.cuts.length c', .slice R' a.told.dens.length d', .int .i64 a.after, .int .i64 a.asked] 43), (g6, .cells #[.int .i64 a.own.len, .slice A a.own.cuts.length c, .slice R a.own.dens.length d, .int .i64 a.told.len, .slice A' a.told.cuts.length c', .slice R' a.told.dens.length d', .int .i64 a.after, .int .i64 a.asked] 43)]) G) => (GE.h e).lt 0 rfl
            have c_x := fun (e : GE (Bx wa [(g7, .cells #[.int .i64 a.own.len, .slice A a.own.cuts.length c, .slice R a.own.dens.length d, .int .i64 a.told.len, .slice A' a.told.cuts.length c', .slice R' a.told.dens.length d', .int .i64 a.after, .int .i64 a.asked] 43), (g6, .cells #[.int .i64 a.own.len, .slice A a.own.cuts.length c, .slice R a.own.dens.length d, .int .i64 a.told.len, .slice A' a.told.cuts.length c', .slice R' a.told.dens.length d', .int .i64 a.after, .int .i64 a.asked] 43)]) G) j => cell_of_row e.w _ j _ _ _ ((GE.h e).get 1 rfl)
            have z_x := fun (e : GE (Bx wa [(g7, .cells #[.int .i64 a.own.len, .slice A a.own.cuts.length c, .slice R a.own.dens.length d, .int .i64 a.told.len, .slice A' a.told.cuts.length c', .slice R' a.told.dens.length d', .int .i64 a.after, .int .i64 a.asked] 43), (g6, .cells #[.int .i64 a.own.len, .slice A a.own.cuts.length c, .slice R a.own.dens.length d, .int .i64 a.told.len, .slice A' a.told.cuts.length c', .slice R' a.told.dens.length d', .int .i64 a.after, .int .i64 a.asked] 43)]) G) => (GE.h e).lt 1 rfl
            simp only [pickOps, List.getElem?_toArray, List.getElem?_cons_zero, List.getElem?_cons_succ]
            repeat (first | go_big_quiet_step (fail) | quiet_step (fail))
            exact wpQuiet_nil rfl
          refine wpAnyT_all (rs := [2, 6]) (by kernel_rfl) (by simp) (fun wa141 hwa141 hRwa141 i hi => ?_)
          have hB302 := hB301.next hwa141
          clear hB301 hwa141 hRwa141
          rcases List.mem_cons.1 hi with rfl | hi
          · refine wpOp_step rfl (fun Kc hKc => ?_)
            go_simp
            have hB303 := hB302.new (g := wa141.heap.size) rfl (.cells #[.int .i64 a.own.len, .slice A a.own.cuts.length c, .slice R a.own.dens.length d, .int .i64 a.told.len, .slice A' a.told.cuts.length c', .slice R' a.told.dens.length d', .int .i64 a.after, .int .i64 a.asked] 43)
            refine hKc _ _ ⟨(hB303.keep (List.Sublist.cons _ (List.Sublist.cons_cons _ (List.Sublist.cons_cons _ (List.nil_sublist _))))), ?_⟩
            clear hKc Kc hB302
            generalize wa141.heap.size = gl1 at *
            generalize wa141.alloc _ = wb142 at *
            refine wpAnyT_all (rs := [3, 6]) (by kernel_rfl) (by simp) (fun wa143 hwa143 hRwa143 i hi => ?_)
            have hB304 := hB303.next hwa143
            clear hB303 hwa143 hRwa143
            rcases List.mem_cons.1 hi with rfl | hi
            · refine wpOp_step rfl (fun Kc hKc => ?_)
              refine step_append_any _ rfl (.tmp 120) (.tmp 122) 22 rfl wa.heap.size 43 i0 (.agg #[.int .i64 0, .slice none 0 0, .slice none 0 0, .int .i64 0, .slice none 0 0, .slice none 0 0, .int .i64 0, .int .i64 0]) 8 128 Try.underlying22 hi0 hz0 hz1 hz2 rfl (by omega) (.slice B1 n1 b1) n1 xs1 rfl (hB304.row 0 rfl) _ (some ⟨gl1, 0, none⟩) 1 1 [.int .i64 a.own.len, .slice A a.own.cuts.length c, .slice R a.own.dens.length d, .int .i64 a.told.len, .slice A' a.told.cuts.length c', .slice R' a.told.dens.length d', .int .i64 a.after, .int .i64 a.asked] rfl (reads_lit (n := 1) (s := 8) (hB304.get 0 rfl) rfl) (by intro u hu; simp at hu; rcases hu with rfl | rfl | rfl | rfl | rfl | rfl | rfl | rfl <;> rfl) (by have := HNL.out; unfold maxLen; omega) (by have := HNL.out; omega) hB304.below.size ?_
              intro v5 wb144 hown hgr hat
              obtain ⟨B5, b5, rfl, _, _⟩ := own_nil_len hown
              have hB305 := hB304.grow 0 rfl hgr hown hat
              refine hKc _ _ ⟨(hB305.keep (List.Sublist.cons _ (List.Sublist.cons_cons _ (List.Sublist.cons_cons _ (List.nil_sublist _))))), ?_⟩
              clear hKc Kc hB304 hown hgr hat
              refine wpAnyT_all (rs := [6]) (by kernel_rfl) (by simp) (fun wa145 hwa145 hRwa145 i hi => ?_)
              have hB306 := hB305.next hwa145
              clear hB305 hwa145 hRwa145
              obtain rfl := List.mem_singleton.1 hi
              refine wpOp_step rfl (fun Kc hKc => ?_)
              go_simp
              have hB307 := hB306.new (g := wa145.heap.size) rfl (.cells #[.int .i64 a.own.len, .slice A a.own.cuts.length c, .slice R a.own.dens.length d, .int .i64 a.told.len, .slice A' a.told.cuts.length c', .slice R' a.told.dens.length d', .int .i64 a.after, .int .i64 a.asked] 43)
              refine hKc _ _ ⟨(hB307.keep (List.Sublist.cons _ (List.Sublist.cons _ (List.Sublist.cons_cons _ (List.Sublist.cons_cons _ (List.nil_sublist _)))))), ?_⟩
              clear hKc Kc hB306
              generalize wa145.heap.size = gl2 at *
              generalize wa145.alloc _ = wb146 at *
              refine wpAnyT_all (rs := [7]) (by kernel_rfl) (by simp) (fun wa147 hwa147 hRwa147 i hi => ?_)
              have hB308 := hB307.next hwa147
              clear hB307 hwa147 hRwa147
              obtain rfl := List.mem_singleton.1 hi
              refine wpOp_step rfl (fun Kc hKc => ?_)
              refine step_append_any _ rfl (.tmp 124) (.tmp 126) 22 rfl wa.heap.size 43 i0 (.agg #[.int .i64 0, .slice none 0 0, .slice none 0 0, .int .i64 0, .slice none 0 0, .slice none 0 0, .int .i64 0, .int .i64 0]) 8 128 Try.underlying22 hi0 hz0 hz1 hz2 rfl (by omega) (.slice B2 n2 b2) n2 xs2 rfl (hB308.row 1 rfl) _ (some ⟨gl2, 0, none⟩) 1 1 [.int .i64 a.own.len, .slice A a.own.cuts.length c, .slice R a.own.dens.length d, .int .i64 a.told.len, .slice A' a.told.cuts.length c', .slice R' a.told.dens.length d', .int .i64 a.after, .int .i64 a.asked] rfl (reads_lit (n := 1) (s := 8) (hB308.get 0 rfl) rfl) (by intro u hu; simp at hu; rcases hu with rfl | rfl | rfl | rfl | rfl | rfl | rfl | rfl <;> rfl) (by have := HNL.out; unfold maxLen; omega) (by have := HNL.out; omega) hB308.below.size ?_
              intro v6 wb148 hown hgr hat
              obtain ⟨B6, b6, rfl, _, _⟩ := own_nil_len hown
              have hB309 := hB308.grow 1 rfl hgr hown hat
              refine hKc _ _ ⟨(hB309.keep (List.Sublist.cons _ (List.Sublist.cons _ (List.Sublist.cons_cons _ (List.Sublist.cons_cons _ (List.nil_sublist _)))))), ?_⟩
              clear hKc Kc hB308 hown hgr hat
              refine wpAnyT_go (Bx.grows _ _) (hB309.keep (List.Sublist.cons _ (List.Sublist.cons _ (List.Sublist.cons_cons _ (List.Sublist.cons_cons _ (List.nil_sublist _)))))) [8, 9] 0 (by kernel_rfl) ?_
              apply Exists.intro
              refine ⟨fun G hG hN => ?_, ?_⟩
              · have c_y := fun (e : GE (Bx wa [(g7, .cells #[.int .i64 a.own.len, .slice A a.own.cuts.length c, .slice R a.own.dens.length d, .int .i64 a.told.len, .slice A' a.told.cuts.length c', .slice R' a.told.dens.length d', .int .i64 a.after, .int .i64 a.asked] 43), (g6, .cells #[.int .i64 a.own.len, .slice A a.own.cuts.length c, .slice R a.own.dens.length d, .int .i64 a.told.len, .slice A' a.told.cuts.length c', .slice R' a.told.dens.length d', .int .i64 a.after, .int .i64 a.asked] 43)]) G) j => cell_of_row e.w _ j _ _ _ ((GE.h e).get 0 rfl)
                have z_y := fun (e : GE (Bx wa [(g7, .cells #[.int .i64 a.own.len, .slice A a.own.cuts.length c, .slice R a.own.dens.length d, .int .i64 a.told.len, .slice A' a.told.cuts.length c', .slice R' a.told.dens.length d', .int .i64 a.after, .int .i64 a.asked] 43), (g6, .cells #[.int .i64 a.own.len, .slice A a.own.cuts.length c, .slice R a.own.dens.length d, .int .i64 a.told.len, .slice A' a.told.cuts.length c', .slice R' a.told.dens.length d', .int .i64 a.after, .int .i64 a.asked] 43)]) G) => (GE.h e).lt 0 rfl
                have c_x := fun (e : GE (Bx wa [(g7, .cells #[.int .i64 a.own.len, .slice A a.own.cuts.length c, .slice R a.own.dens.length d, .int .i64 a.told.len, .slice A' a.told.cuts.length c', .slice R' a.told.dens.length d', .int .i64 a.after, .int .i64 a.asked] 43), (g6, .cells #[.int .i64 a.own.len, .slice A a.own.cuts.length c, .slice R a.own.dens.length d, .int .i64 a.told.len, .slice A' a.told.cuts.length c', .slice R' a.told.dens.length d', .int .i64 a.after, .int .i64 a.asked] 43)]) G) j => cell_of_row e.w _ j _ _ _ ((GE.h e).get 1 rfl)
                have z_x := fun (e : GE (Bx wa [(g7, .cells #[.int .i64 a.own.len, .slice A a.own.cuts.length c, .slice R a.own.dens.length d, .int .i64 a.told.len, .slice A' a.told.cuts.length c', .slice R' a.told.dens.length d', .int .i64 a.after, .int .i64 a.asked] 43), (g6, .cells #[.int .i64 a.own.len, .slice A a.own.cuts.length c, .slice R a.own.dens.length d, .int .i64 a.told.len, .slice A' a.told.cuts.length c', .slice R' a.told.dens.length d', .int .i64 a.after, .int .i64 a.asked] 43)]) G) => (GE.h e).lt 1 rfl
                simp only [pickOps, List.getElem?_toArray, List.getElem?_cons_zero, List.getElem?_cons_succ]
                repeat (first | go_big_quiet_step (fail) | quiet_step (fail))
                exact wpQuiet_nil rfl
              refine wpAnyT_done (by kernel_rfl) (fun wd149 hwd149 hRwd149 => ?_) _
              refine NoPanic.normal ?_
              have hB310 := hB309.next hwd149
              clear hB309 hwd149 hRwd149
              have hMn : Mx wa [] [⟨.slice B5 (n1 + 1) b5, 43, 8, n1 + 1, xs1 ++ [.int .i64 a.own.len, .slice A a.own.cuts.length c, .slice R a.own.dens.length d, .int .i64 a.told.len, .slice A' a.told.cuts.length c', .slice R' a.told.dens.length d', .int .i64 a.after, .int .i64 a.asked]⟩, ⟨.slice B6 (n2 + 1) b6, 43, 8, n2 + 1, xs2 ++ [.int .i64 a.own.len, .slice A a.own.cuts.length c, .slice R a.own.dens.length d, .int .i64 a.told.len, .slice A' a.told.cuts.length c', .slice R' a.told.dens.length d', .int .i64 a.after, .int .i64 a.asked]⟩] wd149 := hB310.sub0
              clear hB310
              have hnn1 : n1 + 1 = ((othL acs ks ra.acs).take (k + 1)).length := by rw [HT1.out, List.length_append, ← HN1.out]; rfl
              have hnn2 : n2 + 1 = ((tldL acs).take (k + 1)).length := by rw [HT2.out, List.length_append, ← HN2.out]; rfl
              have HM2 := Lib.hid (show ∃ v1 v2 : Value, v1 = .slice B5 (n1 + 1) b5 ∧ v2 = .slice B6 (n2 + 1) b6 ∧ Mx wa [] [⟨v1, 43, 8, ((othL acs ks ra.acs).take (k + 1)).length, xs1 ++ [.int .i64 a.own.len, .slice A a.own.cuts.length c, .slice R a.own.dens.length d, .int .i64 a.told.len, .slice A' a.told.cuts.length c', .slice R' a.told.dens.length d', .int .i64 a.after, .int .i64 a.asked]⟩, ⟨v2, 43, 8, ((tldL acs).take (k + 1)).length, xs2 ++ [.int .i64 a.own.len, .slice A a.own.cuts.length c, .slice R a.own.dens.length d, .int .i64 a.told.len, .slice A' a.told.cuts.length c', .slice R' a.told.dens.length d', .int .i64 a.after, .int .i64 a.asked]⟩] wd149 from ⟨_, _, rfl, rfl, by rw [← hnn1, ← hnn2]; exact hMn⟩)
              have HL1_ := Lib.hid (show Lay kAc w ((othL acs ks ra.acs).take (k + 1)) (xs1 ++ [.int .i64 a.own.len, .slice A a.own.cuts.length c, .slice R a.own.dens.length d, .int .i64 a.told.len, .slice A' a.told.cuts.length c', .slice R' a.told.dens.length d', .int .i64 a.after, .int .i64 a.asked]) by rw [HT1.out]; exact HE1.out.add (by have := (HMr.out.row 0 rfl).1; rw [← HN1.out]; exact this) HEX.out)
              have HL2_ := Lib.hid (show Lay kAc w ((tldL acs).take (k + 1)) (xs2 ++ [.int .i64 a.own.len, .slice A a.own.cuts.length c, .slice R a.own.dens.length d, .int .i64 a.told.len, .slice A' a.told.cuts.length c', .slice R' a.told.dens.length d', .int .i64 a.after, .int .i64 a.asked]) by rw [HT2.out]; exact HE2.out.add (by have := (HMr.out.row 1 rfl).1; rw [← HN2.out]; exact this) HEY.out)
              clear hMn hnn1 hnn2
              go_wp2_with fail
              obtain ⟨v1, v2, e1, e2, hM3⟩ := HM2.out
              exact ⟨⟨k + 1, v1, v2, _, _, HLE.out.1, e1, e2, by go_num, hM3, HL1_.out, HL2_.out⟩, by simpa [intOf] using HLE.out.2⟩
            · obtain rfl := List.mem_singleton.1 hi
              refine wpOp_step rfl (fun Kc hKc => ?_)
              go_simp
              have hB305 := hB304.new (g := wa143.heap.size) rfl (.cells #[.int .i64 a.own.len, .slice A a.own.cuts.length c, .slice R a.own.dens.length d, .int .i64 a.told.len, .slice A' a.told.cuts.length c', .slice R' a.told.dens.length d', .int .i64 a.after, .int .i64 a.asked] 43)
              refine hKc _ _ ⟨(hB305.keep (List.Sublist.cons _ (List.Sublist.cons _ (List.Sublist.cons_cons _ (List.Sublist.cons_cons _ (List.nil_sublist _)))))), ?_⟩
              clear hKc Kc hB304
              generalize wa143.heap.size = gl2 at *
              generalize wa143.alloc _ = wb150 at *
              refine wpAnyT_all (rs := [3]) (by kernel_rfl) (by simp) (fun wa151 hwa151 hRwa151 i hi => ?_)
              have hB306 := hB305.next hwa151
              clear hB305 hwa151 hRwa151
              obtain rfl := List.mem_singleton.1 hi
              refine wpOp_step rfl (fun Kc hKc => ?_)
              refine step_append_any _ rfl (.tmp 120) (.tmp 122) 22 rfl wa.heap.size 43 i0 (.agg #[.int .i64 0, .slice none 0 0, .slice none 0 0, .int .i64 0, .slice none 0 0, .slice none 0 0, .int .i64 0, .int .i64 0]) 8 128 Try.underlying22 hi0 hz0 hz1 hz2 rfl (by omega) (.slice B1 n1 b1) n1 xs1 rfl (hB306.row 0 rfl) _ (some ⟨gl1, 0, none⟩) 1 1 [.int .i64 a.own.len, .slice A a.own.cuts.length c, .slice R a.own.dens.length d, .int .i64 a.told.len, .slice A' a.told.cuts.length c', .slice R' a.told.dens.length d', .int .i64 a.after, .int .i64 a.asked] rfl (reads_lit (n := 1) (s := 8) (hB306.get 1 rfl) rfl) (by intro u hu; simp at hu; rcases hu with rfl | rfl | rfl | rfl | rfl | rfl | rfl | rfl <;> rfl) (by have := HNL.out; unfold maxLen; omega) (by have := HNL.out; omega) hB306.below.size ?_
              intro v5 wb152 hown hgr hat
              obtain ⟨B5, b5, rfl, _, _⟩ := own_nil_len hown
              have hB307 := hB306.grow 0 rfl hgr hown hat
              refine hKc _ _ ⟨(hB307.keep (List.Sublist.cons _ (List.Sublist.cons _ (List.Sublist.cons_cons _ (List.Sublist.cons_cons _ (List.nil_sublist _)))))), ?_⟩
              clear hKc Kc hB306 hown hgr hat
              refine wpAnyT_all (rs := [7]) (by kernel_rfl) (by simp) (fun wa153 hwa153 hRwa153 i hi => ?_)
              have hB308 := hB307.next hwa153
              clear hB307 hwa153 hRwa153
              obtain rfl := List.mem_singleton.1 hi
              refine wpOp_step rfl (fun Kc hKc => ?_)
              refine step_append_any _ rfl (.tmp 124) (.tmp 126) 22 rfl wa.heap.size 43 i0 (.agg #[.int .i64 0, .slice none 0 0, .slice none 0 0, .int .i64 0, .slice none 0 0, .slice none 0 0, .int .i64 0, .int .i64 0]) 8 128 Try.underlying22 hi0 hz0 hz1 hz2 rfl (by omega) (.slice B2 n2 b2) n2 xs2 rfl (hB308.row 1 rfl) _ (some ⟨gl2, 0, none⟩) 1 1 [.int .i64 a.own.len, .slice A a.own.cuts.length c, .slice R a.own.dens.length d, .int .i64 a.told.len, .slice A' a.told.cuts.length c', .slice R' a.told.dens.length d', .int .i64 a.after, .int .i64 a.asked] rfl (reads_lit (n := 1) (s := 8) (hB308.get 0 rfl) rfl) (by intro u hu; simp at hu; rcases hu with rfl | rfl | rfl | rfl | rfl | rfl | rfl | rfl <;> rfl) (by have := HNL.out; unfold maxLen; omega) (by have := HNL.out; omega) hB308.below.size ?_
              intro v6 wb154 hown hgr hat
              obtain ⟨B6, b6, rfl, _, _⟩ := own_nil_len hown
              have hB309 := hB308.grow 1 rfl hgr hown hat
              refine hKc _ _ ⟨(hB309.keep (List.Sublist.cons _ (List.Sublist.cons _ (List.Sublist.cons_cons _ (List.Sublist.cons_cons _ (List.nil_sublist _)))))), ?_⟩
              clear hKc Kc hB308 hown hgr hat
              refine wpAnyT_go (Bx.grows _ _) (hB309.keep (List.Sublist.cons _ (List.Sublist.cons _ (List.Sublist.cons_cons _ (List.Sublist.cons_cons _ (List.nil_sublist _)))))) [8, 9] 0 (by kernel_rfl) ?_
              apply Exists.intro
              refine ⟨fun G hG hN => ?_, ?_⟩
              · have c_y := fun (e : GE (Bx wa [(g7, .cells #[.int .i64 a.own.len, .slice A a.own.cuts.length c, .slice R a.own.dens.length d, .int .i64 a.told.len, .slice A' a.told.cuts.length c', .slice R' a.told.dens.length d', .int .i64 a.after, .int .i64 a.asked] 43), (g6, .cells #[.int .i64 a.own.len, .slice A a.own.cuts.length c, .slice R a.own.dens.length d, .int .i64 a.told.len, .slice A' a.told.cuts.length c', .slice R' a.told.dens.length d', .int .i64 a.after, .int .i64 a.asked] 43)]) G) j => cell_of_row e.w _ j _ _ _ ((GE.h e).get 0 rfl)
                have z_y := fun (e : GE (Bx wa [(g7, .cells #[.int .i64 a.own.len, .slice A a.own.cuts.length c, .slice R a.own.dens.length d, .int .i64 a.told.len, .slice A' a.told.cuts.length c', .slice R' a.told.dens.length d', .int .i64 a.after, .int .i64 a.asked] 43), (g6, .cells #[.int .i64 a.own.len, .slice A a.own.cuts.length c, .slice R a.own.dens.length d, .int .i64 a.told.len, .slice A' a.told.cuts.length c', .slice R' a.told.dens.length d', .int .i64 a.after, .int .i64 a.asked] 43)]) G) => (GE.h e).lt 0 rfl
                have c_x := fun (e : GE (Bx wa [(g7, .cells #[.int .i64 a.own.len, .slice A a.own.cuts.length c, .slice R a.own.dens.length d, .int .i64 a.told.len, .slice A' a.told.cuts.length c', .slice R' a.told.dens.length d', .int .i64 a.after, .int .i64 a.asked] 43), (g6, .cells #[.int .i64 a.own.len, .slice A a.own.cuts.length c, .slice R a.own.dens.length d, .int .i64 a.told.len, .slice A' a.told.cuts.length c', .slice R' a.told.dens.length d', .int .i64 a.after, .int .i64 a.asked] 43)]) G) j => cell_of_row e.w _ j _ _ _ ((GE.h e).get 1 rfl)
                have z_x := fun (e : GE (Bx wa [(g7, .cells #[.int .i64 a.own.len, .slice A a.own.cuts.length c, .slice R a.own.dens.length d, .int .i64 a.told.len, .slice A' a.told.cuts.length c', .slice R' a.told.dens.length d', .int .i64 a.after, .int .i64 a.asked] 43), (g6, .cells #[.int .i64 a.own.len, .slice A a.own.cuts.length c, .slice R a.own.dens.length d, .int .i64 a.told.len, .slice A' a.told.cuts.length c', .slice R' a.told.dens.length d', .int .i64 a.after, .int .i64 a.asked] 43)]) G) => (GE.h e).lt 1 rfl
                simp only [pickOps, List.getElem?_toArray, List.getElem?_cons_zero, List.getElem?_cons_succ]
                repeat (first | go_big_quiet_step (fail) | quiet_step (fail))
                exact wpQuiet_nil rfl
              refine wpAnyT_done (by kernel_rfl) (fun wd155 hwd155 hRwd155 => ?_) _
              refine NoPanic.normal ?_
              have hB310 := hB309.next hwd155
              clear hB309 hwd155 hRwd155
              have hMn : Mx wa [] [⟨.slice B5 (n1 + 1) b5, 43, 8, n1 + 1, xs1 ++ [.int .i64 a.own.len, .slice A a.own.cuts.length c, .slice R a.own.dens.length d, .int .i64 a.told.len, .slice A' a.told.cuts.length c', .slice R' a.told.dens.length d', .int .i64 a.after, .int .i64 a.asked]⟩, ⟨.slice B6 (n2 + 1) b6, 43, 8, n2 + 1, xs2 ++ [.int .i64 a.own.len, .slice A a.own.cuts.length c, .slice R a.own.dens.length d, .int .i64 a.told.len, .slice A' a.told.cuts.length c', .slice R' a.told.dens.length d', .int .i64 a.after, .int .i64 a.asked]⟩] wd155 := hB310.sub0
              clear hB310
              have hnn1 : n1 + 1 = ((othL acs ks ra.acs).take (k + 1)).length := by rw [HT1.out, List.length_append, ← HN1.out]; rfl
              have hnn2 : n2 + 1 = ((tldL acs).take (k + 1)).length := by rw [HT2.out, List.length_append, ← HN2.out]; rfl
              have HM2 := Lib.hid (show ∃ v1 v2 : Value, v1 = .slice B5 (n1 + 1) b5 ∧ v2 = .slice B6 (n2 + 1) b6 ∧ Mx wa [] [⟨v1, 43, 8, ((othL acs ks ra.acs).take (k + 1)).length, xs1 ++ [.int .i64 a.own.len, .slice A a.own.cuts.length c, .slice R a.own.dens.length d, .int .i64 a.told.len, .slice A' a.told.cuts.length c', .slice R' a.told.dens.length d', .int .i64 a.after, .int .i64 a.asked]⟩, ⟨v2, 43, 8, ((tldL acs).take (k + 1)).length, xs2 ++ [.int .i64 a.own.len, .slice A a.own.cuts.length c, .slice R a.own.dens.length d, .int .i64 a.told.len, .slice A' a.told.cuts.length c', .slice R' a.told.dens.length d', .int .i64 a.after, .int .i64 a.asked]⟩] wd155 from ⟨_, _, rfl, rfl, by rw [← hnn1, ← hnn2]; exact hMn⟩)
              have HL1_ := Lib.hid (show Lay kAc w ((othL acs ks ra.acs).take (k + 1)) (xs1 ++ [.int .i64 a.own.len, .slice A a.own.cuts.length c, .slice R a.own.dens.length d, .int .i64 a.told.len, .slice A' a.told.cuts.length c', .slice R' a.told.dens.length d', .int .i64 a.after, .int .i64 a.asked]) by rw [HT1.out]; exact HE1.out.add (by have := (HMr.out.row 0 rfl).1; rw [← HN1.out]; exact this) HEX.out)
              have HL2_ := Lib.hid (show Lay kAc w ((tldL acs).take (k + 1)) (xs2 ++ [.int .i64 a.own.len, .slice A a.own.cuts.length c, .slice R a.own.dens.length d, .int .i64 a.told.len, .slice A' a.told.cuts.length c', .slice R' a.told.dens.length d', .int .i64 a.after, .int .i64 a.asked]) by rw [HT2.out]; exact HE2.out.add (by have := (HMr.out.row 1 rfl).1; rw [← HN2.out]; exact this) HEY.out)
              clear hMn hnn1 hnn2
              go_wp2_with fail
              obtain ⟨v1, v2, e1, e2, hM3⟩ := HM2.out
              exact ⟨⟨k + 1, v1, v2, _, _, HLE.out.1, e1, e2, by go_num, hM3, HL1_.out, HL2_.out⟩, by simpa [intOf] using HLE.out.2⟩
          · obtain rfl := List.mem_singleton.1 hi
            refine wpOp_step rfl (fun Kc hKc => ?_)
            go_simp
            have hB303 := hB302.new (g := wa141.heap.size) rfl (.cells #[.int .i64 a.own.len, .slice A a.own.cuts.length c, .slice R a.own.dens.length d, .int .i64 a.told.len, .slice A' a.told.cuts.length c', .slice R' a.told.dens.length d', .int .i64 a.after, .int .i64 a.asked] 43)
            refine hKc _ _ ⟨(hB303.keep (List.Sublist.cons _ (List.Sublist.cons_cons _ (List.Sublist.cons_cons _ (List.nil_sublist _))))), ?_⟩
            clear hKc Kc hB302
            generalize wa141.heap.size = gl2 at *
            generalize wa141.alloc _ = wb156 at *
            refine wpAnyT_all (rs := [2]) (by kernel_rfl) (by simp) (fun wa157 hwa157 hRwa157 i hi => ?_)
            have hB304 := hB303.next hwa157
            clear hB303 hwa157 hRwa157
            obtain rfl := List.mem_singleton.1 hi
            refine wpOp_step rfl (fun Kc hKc => ?_)
            go_simp
            have hB305 := hB304.new (g := wa157.heap.size) rfl (.cells #[.int .i64 a.own.len, .slice A a.own.cuts.length c, .slice R a.own.dens.length d, .int .i64 a.told.len, .slice A' a.told.cuts.length c', .slice R' a.told.dens.length d', .int .i64 a.after, .int .i64 a.asked] 43)
            refine hKc _ _ ⟨(hB305.keep (List.Sublist.cons _ (List.Sublist.cons _ (List.Sublist.cons_cons _ (List.Sublist.cons_cons _ (List.nil_sublist _)))))), ?_⟩
            clear hKc Kc hB304
            generalize wa157.heap.size = gl1 at *
            generalize wa157.alloc _ = wb158 at *
            refine wpAnyT_all (rs := [3]) (by kernel_rfl) (by simp) (fun wa159 hwa159 hRwa159 i hi => ?_)
            have hB306 := hB305.next hwa159
            clear hB305 hwa159 hRwa159
            obtain rfl := List.mem_singleton.1 hi
            refine wpOp_step rfl (fun Kc hKc => ?_)
            refine step_append_any _ rfl (.tmp 120) (.tmp 122) 22 rfl wa.heap.size 43 i0 (.agg #[.int .i64 0, .slice none 0 0, .slice none 0 0, .int .i64 0, .slice none 0 0, .slice none 0 0, .int .i64 0, .int .i64 0]) 8 128 Try.underlying22 hi0 hz0 hz1 hz2 rfl (by omega) (.slice B1 n1 b1) n1 xs1 rfl (hB306.row 0 rfl) _ (some ⟨gl1, 0, none⟩) 1 1 [.int .i64 a.own.len, .slice A a.own.cuts.length c, .slice R a.own.dens.length d, .int .i64 a.told.len, .slice A' a.told.cuts.length c', .slice R' a.told.dens.length d', .int .i64 a.after, .int .i64 a.asked] rfl (reads_lit (n := 1) (s := 8) (hB306.get 0 rfl) rfl) (by intro u hu; simp at hu; rcases hu with rfl | rfl | rfl | rfl | rfl | rfl | rfl | rfl <;> rfl) (by have := HNL.out; unfold maxLen; omega) (by have := HNL.out; omega) hB306.below.size ?_
            intro v5 wb160 hown hgr hat
            obtain ⟨B5, b5, rfl, _, _⟩ := own_nil_len hown
            have hB307 := hB306.grow 0 rfl hgr hown hat
            refine hKc _ _ ⟨(hB307.keep (List.Sublist.cons _ (List.Sublist.cons _ (List.Sublist.cons_cons _ (List.Sublist.cons_cons _ (List.nil_sublist _)))))), ?_⟩
            clear hKc Kc hB306 hown hgr hat
            refine wpAnyT_all (rs := [7]) (by kernel_rfl) (by simp) (fun wa161 hwa161 hRwa161 i hi => ?_)
            have hB308 := hB307.next hwa161
            clear hB307 hwa161 hRwa161
            obtain rfl := List.mem_singleton.1 hi
            refine wpOp_step rfl (fun Kc hKc => ?_)
            refine step_append_any _ rfl (.tmp 124) (.tmp 126) 22 rfl wa.heap.size 43 i0 (.agg #[.int .i64 0, .slice none 0 0, .slice none 0 0, .int .i64 0, .slice none 0 0, .slice none 0 0, .int .i64 0, .int .i64 0]) 8 128 Try.underlying22 hi0 hz0 hz1 hz2 rfl (by omega) (.slice B2 n2 b2) n2 xs2 rfl (hB308.row 1 rfl) _ (some ⟨gl2, 0, none⟩) 1 1 [.int .i64 a.own.len, .slice A a.own.cuts.length c, .slice R a.own.dens.length d, .int .i64 a.told.len, .slice A' a.told.cuts.length c', .slice R' a.told.dens.length d', .int .i64 a.after, .int .i64 a.asked] rfl (reads_lit (n := 1) (s := 8) (hB308.get 1 rfl) rfl) (by intro u hu; simp at hu; rcases hu with rfl | rfl | rfl | rfl | rfl | rfl | rfl | rfl <;> rfl) (by have := HNL.out; unfold maxLen; omega) (by have := HNL.out; omega) hB308.below.size ?_
            intro v6 wb162 hown hgr hat
            obtain ⟨B6, b6, rfl, _, _⟩ := own_nil_len hown
            have hB309 := hB308.grow 1 rfl hgr hown hat
            refine hKc _ _ ⟨(hB309.keep (List.Sublist.cons _ (List.Sublist.cons _ (List.Sublist.cons_cons _ (List.Sublist.cons_cons _ (List.nil_sublist _)))))), ?_⟩
            clear hKc Kc hB308 hown hgr hat
            refine wpAnyT_go (Bx.grows _ _) (hB309.keep (List.Sublist.cons _ (List.Sublist.cons _ (List.Sublist.cons_cons _ (List.Sublist.cons_cons _ (List.nil_sublist _)))))) [8, 9] 0 (by kernel_rfl) ?_
            apply Exists.intro
            refine ⟨fun G hG hN => ?_, ?_⟩
            · have c_y := fun (e : GE (Bx wa [(g7, .cells #[.int .i64 a.own.len, .slice A a.own.cuts.length c, .slice R a.own.dens.length d, .int .i64 a.told.len, .slice A' a.told.cuts.length c', .slice R' a.told.dens.length d', .int .i64 a.after, .int .i64 a.asked] 43), (g6, .cells #[.int .i64 a.own.len, .slice A a.own.cuts.length c, .slice R a.own.dens.length d, .int .i64 a.told.len, .slice A' a.told.cuts.length c', .slice R' a.told.dens.length d', .int .i64 a.after, .int .i64 a.asked] 43)]) G) j => cell_of_row e.w _ j _ _ _ ((GE.h e).get 0 rfl)
              have z_y := fun (e : GE (Bx wa [(g7, .cells #[.int .i64 a.own.len, .slice A a.own.cuts.length c, .slice R a.own.dens.length d, .int .i64 a.told.len, .slice A' a.told.cuts.length c', .slice R' a.told.dens.length d', .int .i64 a.after, .int .i64 a.asked] 43), (g6, .cells #[.int .i64 a.own.len, .slice A a.own.cuts.length c, .slice R a.own.dens.length d, .int .i64 a.told.len, .slice A' a.told.cuts.length c', .slice R' a.told.dens.length d', .int .i64 a.after, .int .i64 a.asked] 43)]) G) => (GE.h e).lt 0 rfl
              have c_x := fun (e : GE (Bx wa [(g7, .cells #[.int .i64 a.own.len, .slice A a.own.cuts.length c, .slice R a.own.dens.length d, .int .i64 a.told.len, .slice A' a.told.cuts.length c', .slice R' a.told.dens.length d', .int .i64 a.after, .int .i64 a.asked] 43), (g6, .cells #[.int .i64 a.own.len, .slice A a.own.cuts.length c, .slice R a.own.dens.length d, .int .i64 a.told.len, .slice A' a.told.cuts.length c', .slice R' a.told.dens.length d', .int .i64 a.after, .int .i64 a.asked] 43)]) G) j => cell_of_row e.w _ j _ _ _ ((GE.h e).get 1 rfl)
              have z_x := fun (e : GE (Bx wa [(g7, .cells #[.int .i64 a.own.len, .slice A a.own.cuts.length c, .slice R a.own.dens.length d, .int .i64 a.told.len, .slice A' a.told.cuts.length c', .slice R' a.told.dens.length d', .int .i64 a.after, .int .i64 a.asked] 43), (g6, .cells #[.int .i64 a.own.len, .slice A a.own.cuts.length c, .slice R a.own.dens.length d, .int .i64 a.told.len, .slice A' a.told.cuts.length c', .slice R' a.told.dens.length d', .int .i64 a.after, .int .i64 a.asked] 43)]) G) => (GE.h e).lt 1 rfl
              simp only [pickOps, List.getElem?_toArray, List.getElem?_cons_zero, List.getElem?_cons_succ]
              repeat (first | go_big_quiet_step (fail) | quiet_step (fail))
              exact wpQuiet_nil rfl
            refine wpAnyT_done (by kernel_rfl) (fun wd163 hwd163 hRwd163 => ?_) _
            refine NoPanic.normal ?_
            have hB310 := hB309.next hwd163
            clear hB309 hwd163 hRwd163
            have hMn : Mx wa [] [⟨.slice B5 (n1 + 1) b5, 43, 8, n1 + 1, xs1 ++ [.int .i64 a.own.len, .slice A a.own.cuts.length c, .slice R a.own.dens.length d, .int .i64 a.told.len, .slice A' a.told.cuts.length c', .slice R' a.told.dens.length d', .int .i64 a.after, .int .i64 a.asked]⟩, ⟨.slice B6 (n2 + 1) b6, 43, 8, n2 + 1, xs2 ++ [.int .i64 a.own.len, .slice A a.own.cuts.length c, .slice R a.own.dens.length d, .int .i64 a.told.len, .slice A' a.told.cuts.length c', .slice R' a.told.dens.length d', .int .i64 a.after, .int .i64 a.asked]⟩] wd163 := hB310.sub0
            clear hB310
            have hnn1 : n1 + 1 = ((othL acs ks ra.acs).take (k + 1)).length := by rw [HT1.out, List.length_append, ← HN1.out]; rfl
            have hnn2 : n2 + 1 = ((tldL acs).take (k + 1)).length := by rw [HT2.out, List.length_append, ← HN2.out]; rfl
            have HM2 := Lib.hid (show ∃ v1 v2 : Value, v1 = .slice B5 (n1 + 1) b5 ∧ v2 = .slice B6 (n2 + 1) b6 ∧ Mx wa [] [⟨v1, 43, 8, ((othL acs ks ra.acs).take (k + 1)).length, xs1 ++ [.int .i64 a.own.len, .slice A a.own.cuts.length c, .slice R a.own.dens.length d, .int .i64 a.told.len, .slice A' a.told.cuts.length c', .slice R' a.told.dens.length d', .int .i64 a.after, .int .i64 a.asked]⟩, ⟨v2, 43, 8, ((tldL acs).take (k + 1)).length, xs2 ++ [.int .i64 a.own.len, .slice A a.own.cuts.length c, .slice R a.own.dens.length d, .int .i64 a.told.len, .slice A' a.told.cuts.length c', .slice R' a.told.dens.length d', .int .i64 a.after, .int .i64 a.asked]⟩] wd163 from ⟨_, _, rfl, rfl, by rw [← hnn1, ← hnn2]; exact hMn⟩)
            have HL1_ := Lib.hid (show Lay kAc w ((othL acs ks ra.acs).take (k + 1)) (xs1 ++ [.int .i64 a.own.len, .slice A a.own.cuts.length c, .slice R a.own.dens.length d, .int .i64 a.told.len, .slice A' a.told.cuts.length c', .slice R' a.told.dens.length d', .int .i64 a.after, .int .i64 a.asked]) by rw [HT1.out]; exact HE1.out.add (by have := (HMr.out.row 0 rfl).1; rw [← HN1.out]; exact this) HEX.out)
            have HL2_ := Lib.hid (show Lay kAc w ((tldL acs).take (k + 1)) (xs2 ++ [.int .i64 a.own.len, .slice A a.own.cuts.length c, .slice R a.own.dens.length d, .int .i64 a.told.len, .slice A' a.told.cuts.length c', .slice R' a.told.dens.length d', .int .i64 a.after, .int .i64 a.asked]) by rw [HT2.out]; exact HE2.out.add (by have := (HMr.out.row 1 rfl).1; rw [← HN2.out]; exact this) HEY.out)
            clear hMn hnn1 hnn2
            go_wp2_with fail
            obtain ⟨v1, v2, e1, e2, hM3⟩ := HM2.out
            exact ⟨⟨k + 1, v1, v2, _, _, HLE.out.1, e1, e2, by go_num, hM3, HL1_.out, HL2_.out⟩, by simpa [intOf] using HLE.out.2⟩
end Go.Proofs.Ytgcbmnohhbcfiab
