/- A list of queries is asked. -/
import Derived.Test.YtgcbmnohhbcfiaaCm16
namespace Go.Proofs.Ytgcbmnohhbcfiaa
open Go.RowKit Go.Deep
set_option linter.unusedVariables false
set_option linter.unusedSimpArgs false

/-- The log of a run; none, where the cakes are no desk. -/
def ranQ (ks : List Ck) (l : List Qy) : List Qy := if deskC ks 0 = 0 then ranTo ks l l.length else []
def RanRes (ks : List Ck) (l : List Qy) (w : World) (e : Ending) (w' : World) : Prop := ∃ P cp S cs, e = .returned (.tuple #[dV P cp (openK ks) S cs (ranQ ks l), .int .i64 (ranQ ks l).length, .bool (decide (deskC ks 0 = 0))]) ∧ Fresh w.heap.size w' (fun V => CsIn V.heap.size V P cp (openK ks) ∧ LgIn V.heap.size V S cs (ranQ ks l)) ∧ Below w.heap.size w w'
def DkIn (P : Option Addr) (cp : Nat) (ks : List Ck) (S : Option Addr) (cs : Nat) (l : List Qy) (V : World) : Prop := CsIn V.heap.size V P cp ks ∧ LgIn V.heap.size V S cs l
theorem DkIn.next {P : Option Addr} {cp : Nat} {ks : List Ck} {S : Option Addr} {cs : Nat} {l : List Qy} {V W : World} (h : DkIn P cp ks S cs l V) (hb : Below V.heap.size V W) : DkIn P cp ks S cs l W := ⟨h.1.next hb, h.2.next hb⟩
/-- What an answer leaves, its parts named. -/
def AnsRes (ks kk : List Ck) (ll : List Qy) (rr : Rt) (cc : Int) (w : World) (e : Ending) (w' : World) : Prop := ∃ P cp S cs, e = .returned (.tuple #[.agg #[.slice P kk.length cp, .slice S ll.length cs], rV rr, .int .i64 cc]) ∧ Fresh w.heap.size w' (DkIn P cp kk S cs ll) ∧ Below w.heap.size w w'
theorem ask_step {ks : List Ck} {l lg : List Qy} {k : Nat} {q : Qy} (hq : l[k]? = some q) {kind : Int} (hk : kdQ q = kind) (hlg : lg = ranTo ks l k) (hz : askC ks lg.length q.agent kind q.a q.b = 0) : askK ks lg.length q.agent kind q.a q.b = ks ∧ askL ks lg q.agent kind q.a q.b = ranTo ks l (k + 1) := by
  subst hlg hk
  exact ⟨if_pos hz, by unfold askL; rw [if_pos hz, ranTo_step hq, if_pos hz]⟩
theorem ask_stay {ks : List Ck} {l lg : List Qy} {k : Nat} {q : Qy} (hq : l[k]? = some q) {kind : Int} (hk : kdQ q = kind) (hlg : lg = ranTo ks l k) (hz : askC ks lg.length q.agent kind q.a q.b ≠ 0) : ranTo ks l (k + 1) = lg := by
  subst hlg hk
  rw [ranTo_step hq, if_neg hz]
set_option maxRecDepth 100000 in
set_option maxHeartbeats 32000000 in
theorem ran_any (ks : List Ck) (A : Option Addr) (c : Nat) (l : List Qy) (B : Option Addr) (d : Nat) (hln : l.length ≤ 1000) (w : World) (h : CsIn w.heap.size w A c ks) (hl : LgIn w.heap.size w B d l) :
    Calls Try.prog 56 #[.slice A ks.length c, .slice B l.length d] w (RanRes ks l w) := by
  have hM0 : Mx w [(w.heap.size, .cells #[(.slice none 0 0), (.slice none 0 0)] 76)] [] (w.alloc (.cells #[(.slice none 0 0), (.slice none 0 0)] 76)) := (Mx.of_bx (Bx.start w)).new rfl _
  have HO := Lib.hid (fun (W : World) (hW : Below w.heap.size w W) => askopen_any ks A c W (h.next hW))
  have HH := Lib.hid (fun (W : World) (hW : Below w.heap.size w W) => hl.next hW)
  have HLN := Lib.hid hln
  clear h hl hln
  go_enter Try.func56, Try.ntmps56
  go_upto_region 1 with fail
  go_wp2_with fail
  refine (HO.out _ hM0.below).mono ?_
  rintro e w1 ⟨P, cp, rfl, hF, hb⟩
  have hF1 := Mf.start hM0 hb (F := DkIn P cp (openK ks) none 0 []) (fun V h1 h2 => ⟨hF V h1 h2, RIn.nil _ _⟩)
  clear hM0 hF hb HO
  obtain ⟨kk, hkk⟩ : ∃ x, x = openK ks := ⟨_, rfl⟩
  obtain ⟨code, hco⟩ : ∃ x, x = deskC ks 0 := ⟨_, rfl⟩
  rw [← hkk] at hF1
  rw [← hkk, ← hco]
  simp only [List.length_nil]
  have HKK := Lib.hid hkk
  have HCO := Lib.hid hco
  clear hkk hco
  go_upto_region 2 with fail
  have hF2 := hF1.new rfl (.cells #[.slice P kk.length cp, .slice none 0 0] 76)
  clear hF1
  generalize w1.heap.size = gD at *
  generalize w1.alloc _ = w2 at *
  by_cases hc : code = 0
  rotate_left
  · have c_D := fun j => cell_of_row _ _ j _ _ _ (hF2.get 0 rfl)
    have z_D := hF2.lt 0 rfl
    have c_R := fun j => cell_of_row _ _ j _ _ _ (hF2.get 1 rfl)
    have z_R := hF2.lt 1 rfl
    have f_R := fun j => frozen_of_row _ _ j _ _ (hF2.get 1 rfl)
    have b1 : (code != 0) = true := by simpa using hc
    have n_1 := hF2.mx.bx.ne 0 1 rfl rfl (by decide)
    have n_2 := hF2.mx.bx.ne 1 0 rfl rfl (by decide)
    simp only at n_1 n_2
    have HC := Lib.hid hc
    clear hc
    go_wp2_with fail
    have hE := hF2.put2 1 rfl (.slice P kk.length cp) (.slice none 0 0)
    clear c_D z_D c_R z_R f_R hF2
    generalize (w2.setCell _ _).setCell _ _ = wE at *
    have c_R := fun j => cell_of_row _ _ j _ _ _ (hE.get 1 rfl)
    have z_R := hE.lt 1 rfl
    refine bodyPost_ret (v := .tuple #[.agg #[.slice P kk.length cp, (.slice none 0 0)], .int .i64 0, .bool false]) (by simp [results, Try.results56, go_sem, c_R, z_R]) rfl ?_
    have hd : ¬ deskC ks 0 = 0 := by rw [← HCO.out]; exact HC.out
    have hr : ranQ ks l = [] := if_neg hd
    refine ⟨P, cp, none, 0, ?_, ?_, hE.below⟩
    · rw [hr, ← HKK.out, decide_eq_false hd]; rfl
    · rw [hr, ← HKK.out]; exact hE.fresh
  subst hc
  have hd : deskC ks 0 = 0 := HCO.out.symm
  have hk : kk = ks := by rw [HKK.out]; exact if_pos hd
  subst hk
  have HD := Lib.hid hd
  clear hd
  have HS := Lib.hid hF2
  clear hF2
  go_wp2_with fail
  go_loopw [9, 10] (fun s9 s10 wr => ∃ (k : Nat) (P : Option Addr) (cp : Nat) (S : Option Addr) (cs : Nat) (b e : Nat), k ≤ l.length ∧ s9 = .int .i64 ((ranTo kk l k).length : Nat) ∧ s10 = .int .i64 k ∧ Mf (DkIn P cp kk S cs (ranTo kk l k)) b e w [(gD, .cells #[.slice P kk.length cp, .slice S (ranTo kk l k).length cs] 76), (w.heap.size, .cells #[(.slice none 0 0), (.slice none 0 0)] 76)] [] wr) (fun _ s10 _ => l.length - (intOf s10).toNat)
  case atStart => exact ⟨0, P, cp, none, 0, _, _, Nat.zero_le _, rfl, rfl, HS.out⟩
  case round =>
    clear HS
    obtain ⟨k, P, cp, S, cs, bb, ee, hk, rfl, rfl, hI⟩ := hrel
    obtain ⟨lg, hlg⟩ : ∃ x, x = ranTo kk l k := ⟨_, rfl⟩
    rw [← hlg] at hI
    simp only [← hlg]
    have HLG := Lib.hid hlg
    have HRL := Lib.hid (show lg.length ≤ k by rw [hlg]; exact ranTo_len _ _ _)
    clear hlg
    by_cases hlt : k < l.length
    rotate_left
    · obtain rfl : k = l.length := by omega
      clear hlt hk
      have c_D := fun j => cell_of_row _ _ j _ _ _ (hI.get 0 rfl)
      have z_D := hI.lt 0 rfl
      have c_R := fun j => cell_of_row _ _ j _ _ _ (hI.get 1 rfl)
      have z_R := hI.lt 1 rfl
      have f_R := fun j => frozen_of_row _ _ j _ _ (hI.get 1 rfl)
      have n_1 := hI.mx.bx.ne 0 1 rfl rfl (by decide)
      have n_2 := hI.mx.bx.ne 1 0 rfl rfl (by decide)
      simp only at n_1 n_2
      go_wp2_with fail
      have hE := hI.put2 1 rfl (.slice P kk.length cp) (.slice S lg.length cs)
      clear c_D z_D c_R z_R f_R hI
      generalize (wr.setCell _ _).setCell _ _ = wE at *
      have c_R := fun j => cell_of_row _ _ j _ _ _ (hE.get 1 rfl)
      have z_R := hE.lt 1 rfl
      refine bodyPost_ret (v := .tuple #[.agg #[.slice P kk.length cp, .slice S lg.length cs], .int .i64 (lg.length : Nat), .bool true]) (by simp [results, Try.results56, go_sem, c_R, z_R]) rfl ?_
      have hr : ranQ kk l = lg := by rw [HLG.out]; exact if_pos HD.out
      refine ⟨P, cp, S, cs, ?_, ?_, hE.below⟩
      · rw [hr, ← HKK.out, decide_eq_true HD.out]
      · rw [hr, ← HKK.out]; exact hE.fresh
    obtain ⟨q, hq⟩ : ∃ q, l[k]? = some q := ⟨_, List.getElem?_eq_getElem hlt⟩
    obtain ⟨z1, z2, z3, z4⟩ := idx_facts hlt (by have := HLN.out; omega)
    have HLE := Lib.hid (And.intro (Nat.succ_le_of_lt hlt) (Nat.sub_lt_sub_left hlt (Nat.lt_succ_self k)))
    have HQ := Lib.hid hq
    obtain ⟨ad, rfl, hbA, hwq, _⟩ := (HH.out w (Below.refl _ _)).query hq
    have HW := Lib.hid hwq
    have w1' : IntKind.i64.wrap ((lg.length : Int) + 1) = (lg.length : Int) + 1 := IntWalk.i64_in _ (by have := HRL.out; have := HLN.out; omega)
    have w2' : wrap64 ((lg.length : Int) + 1) = (lg.length : Int) + 1 := IntWalk.wrap64_in _ (by have := HRL.out; have := HLN.out; omega)
    have HF := Lib.hid (fun (V : World) (hV : Below wr.heap.size wr V) => hI.fresh.ext hV)
    have HIB := Lib.hid hI.below
    have HI := Lib.hid hI.mx
    have HINV := Lib.hid (fun (V : World) (hV : Below wr.heap.size wr V) => hI.next hV)
    have HDX := Lib.hid (fun (V : World) (hV : Below wr.heap.size wr V) => heap_ext (hI.get 0 rfl) hV)
    have HQX := Lib.hid (fun (V : World) (hV : Below wr.heap.size wr V) => by
      obtain ⟨ad', e, hb, _, r⟩ := (HH.out V (bcall HIB.out HIB.out.size hV)).query HQ.out
      obtain rfl := Option.some.inj e
      exact And.intro hb r)
    clear hlt hk hq hwq hbA hI
    have hg0 := HW.out.g0
    have hg1 := HW.out.g1
    go_upto_region 8 with fail
    obtain ⟨kk1, hkk⟩ : ∃ x, x = askK kk lg.length q.agent 1 q.a q.b := ⟨_, rfl⟩
    obtain ⟨ll1, hll⟩ : ∃ x, x = askL kk lg q.agent 1 q.a q.b := ⟨_, rfl⟩
    obtain ⟨rr1, hrr⟩ : ∃ x, x = askR kk lg.length q.agent 1 q.a q.b := ⟨_, rfl⟩
    obtain ⟨cc1, hcc⟩ : ∃ x, x = askC kk lg.length q.agent 1 q.a q.b := ⟨_, rfl⟩
    have HA1 := Lib.hid (fun (P' : Option Addr) (cp' : Nat) (S' : Option Addr) (cs' : Nat) (V : World) (hD : DkIn P' cp' kk S' cs' lg V) => show Calls Try.prog 47 #[.agg #[.slice P' kk.length cp', .slice S' lg.length cs'], .int .i64 q.agent, rV q.a, rV q.b] V (AnsRes kk kk1 ll1 rr1 cc1 V) by
      refine (askvalue_any kk P' cp' lg S' cs' q.agent hg0 hg1 q.a q.b HW.out.a HW.out.b V hD.1 hD.2).mono ?_
      rintro e w' ⟨P, cp, S, cs, rfl, hF, hb⟩
      rw [← hkk, ← hll] at hF
      exact ⟨P, cp, S, cs, by rw [← hkk, ← hll, ← hrr, ← hcc], hF, hb⟩)
    have HKK1 := Lib.hid hkk
    have HLL1 := Lib.hid hll
    have HCC1 := Lib.hid hcc
    clear hkk hll hrr hcc
    go_cut [11, 12, 13] (fun s11 s12 s13 wx => ∃ (gN gP : Nat) (P1 : Option Addr) (c1 : Nat) (S1 : Option Addr) (d1 : Nat), s11 = .pointer (some ⟨gN, 0, none⟩) ∧ s12 = .pointer (some ⟨gP, 0, none⟩) ∧ s13 = .int .i64 cc1 ∧ Mx wr [(gP, rB rr1), (gN, .cells #[.slice P1 kk1.length c1, .slice S1 ll1.length d1] 76)] [] wx ∧ Fresh wr.heap.size wx (DkIn P1 c1 kk1 S1 d1 ll1))
    case first =>
      as_aux_lemma =>
        have hA8 := Mx.of_bx (Bx.start wr)
        go_wp2_with fail
        refine wp_region_T (Bx wr []) 26 (by kernel_rfl) (by rfl) ((hA8.keep (List.nil_sublist _)).drew) (fun wq1 hbq => ?_)
        have hB801 := hA8.next hbq
        clear hA8 hbq
        refine wpAnyT_go (Bx.grows _ _) (hB801.keep (List.nil_sublist _)) [0, 1, 2, 3, 4, 5, 6, 7, 8, 9, 10, 11, 12, 13, 14, 15] 10 (by kernel_rfl) ?_
        apply Exists.intro
        refine ⟨fun G hG hN => ?_, ?_⟩
        · have c_D := fun (e : GE (Bx wr []) G) j => cell_of_row e.w _ j _ _ _ (HDX.out e.w (GE.h e).below)
          have z_D := fun (e : GE (Bx wr []) G) => lt_some (HDX.out e.w (GE.h e).below)
          have q0 := fun (e : GE (Bx wr []) G) => (HQX.out e.w (GE.h e).below).2.1
          have q1 := fun (e : GE (Bx wr []) G) => (HQX.out e.w (GE.h e).below).2.2.1
          have q2 := fun (e : GE (Bx wr []) G) => (HQX.out e.w (GE.h e).below).2.2.2.1
          have q3 := fun (e : GE (Bx wr []) G) => (HQX.out e.w (GE.h e).below).2.2.2.2.1
          have q4 := fun (e : GE (Bx wr []) G) => (HQX.out e.w (GE.h e).below).2.2.2.2.2.1
          have q5 := fun (e : GE (Bx wr []) G) => (HQX.out e.w (GE.h e).below).2.2.2.2.2.2.1
          have q6 := fun (e : GE (Bx wr []) G) => (HQX.out e.w (GE.h e).below).2.2.2.2.2.2.2.1
          have q7 := fun (e : GE (Bx wr []) G) => (HQX.out e.w (GE.h e).below).2.2.2.2.2.2.2.2
          have q9 := fun (e : GE (Bx wr []) G) => (HQX.out e.w (GE.h e).below).1
          have qa := fun (e : GE (Bx wr []) G) => show (ad.add (k * 8)).block < e.w.heap.size by rw [block_add]; exact (HQX.out e.w (GE.h e).below).1
          simp only [pickOps, List.getElem?_toArray, List.getElem?_cons_zero, List.getElem?_cons_succ]
          repeat (first | go_big_quiet_step (fail) | quiet_step (fail))
          exact wpQuiet_nil rfl
        refine wpAnyT_all (rs := [16, 21, 22]) (by kernel_rfl) (by simp) (fun wa2 hwa2 hRwa2 i hi => ?_)
        have hB802 := hB801.next hwa2
        clear hB801 hwa2 hRwa2
        rcases List.mem_cons.1 hi with rfl | hi
        · refine wpOp_step rfl (fun Kc hKc => ?_)
          go_simp
          refine Calls.mono (HA1.out _ _ _ _ _ (HF.out _ hB802.below)) ?_
          rintro e wv3 ⟨P1, c1, S1, d1, rfl, hF, hb⟩
          have hB803 := Mf.start hB802 hb hF
          clear hb hF
          refine hKc _ _ ⟨(hB803.keep (List.nil_sublist _)), ?_⟩
          clear hKc Kc hB802
          refine wpAnyT_go (Bx.grows _ _) (hB803.keep (List.nil_sublist _)) [17, 18, 19, 20] 5 (by kernel_rfl) ?_
          apply Exists.intro
          refine ⟨fun G hG hN => ?_, ?_⟩
          · have c_D := fun (e : GE (Bx wr []) G) j => cell_of_row e.w _ j _ _ _ (HDX.out e.w (GE.h e).below)
            have z_D := fun (e : GE (Bx wr []) G) => lt_some (HDX.out e.w (GE.h e).below)
            have q0 := fun (e : GE (Bx wr []) G) => (HQX.out e.w (GE.h e).below).2.1
            have q1 := fun (e : GE (Bx wr []) G) => (HQX.out e.w (GE.h e).below).2.2.1
            have q2 := fun (e : GE (Bx wr []) G) => (HQX.out e.w (GE.h e).below).2.2.2.1
            have q3 := fun (e : GE (Bx wr []) G) => (HQX.out e.w (GE.h e).below).2.2.2.2.1
            have q4 := fun (e : GE (Bx wr []) G) => (HQX.out e.w (GE.h e).below).2.2.2.2.2.1
            have q5 := fun (e : GE (Bx wr []) G) => (HQX.out e.w (GE.h e).below).2.2.2.2.2.2.1
            have q6 := fun (e : GE (Bx wr []) G) => (HQX.out e.w (GE.h e).below).2.2.2.2.2.2.2.1
            have q7 := fun (e : GE (Bx wr []) G) => (HQX.out e.w (GE.h e).below).2.2.2.2.2.2.2.2
            have q9 := fun (e : GE (Bx wr []) G) => (HQX.out e.w (GE.h e).below).1
            have qa := fun (e : GE (Bx wr []) G) => show (ad.add (k * 8)).block < e.w.heap.size by rw [block_add]; exact (HQX.out e.w (GE.h e).below).1
            simp only [pickOps, List.getElem?_toArray, List.getElem?_cons_zero, List.getElem?_cons_succ]
            repeat (first | go_big_quiet_step (fail) | quiet_step (fail))
            exact wpQuiet_nil rfl
          refine wpAnyT_all (rs := [21, 22]) (by kernel_rfl) (by simp) (fun wa4 hwa4 hRwa4 i hi => ?_)
          have hB804 := hB803.next hwa4
          clear hB803 hwa4 hRwa4
          rcases List.mem_cons.1 hi with rfl | hi
          · refine wpOp_step rfl (fun Kc hKc => ?_)
            go_simp
            have hB805 := hB804.new (g := wa4.heap.size) rfl (.cells #[(.slice none 0 0), (.slice none 0 0)] 76)
            refine hKc _ _ ⟨(hB805.keep (List.nil_sublist _)), ?_⟩
            clear hKc Kc hB804
            generalize wa4.heap.size = gN at *
            generalize wa4.alloc _ = wb5 at *
            refine wpAnyT_all (rs := [22]) (by kernel_rfl) (by simp) (fun wa6 hwa6 hRwa6 i hi => ?_)
            have hB806 := hB805.next hwa6
            clear hB805 hwa6 hRwa6
            obtain rfl := List.mem_singleton.1 hi
            refine wpOp_step rfl (fun Kc hKc => ?_)
            go_simp
            have hB807 := hB806.new (g := wa6.heap.size) rfl (rB ⟨0, 0⟩)
            refine hKc _ _ ⟨(hB807.keep (List.nil_sublist _)), ?_⟩
            clear hKc Kc hB806
            generalize wa6.heap.size = gP at *
            generalize wa6.alloc _ = wb7 at *
            refine wpAnyT_all (rs := [23]) (by kernel_rfl) (by simp) (fun wa8 hwa8 hRwa8 i hi => ?_)
            have hB808 := hB807.next hwa8
            clear hB807 hwa8 hRwa8
            obtain rfl := List.mem_singleton.1 hi
            refine wpOp_step rfl (fun Kc hKc => ?_)
            have c_bd := fun j => cell_of_row _ _ j _ _ _ (hB808.get 1 rfl)
            have z_bd := hB808.lt 1 rfl
            have f_bd := fun j => frozen_of_row _ _ j _ _ (hB808.get 1 rfl)
            go_simp
            have hB809 := hB808.put2 1 rfl (.slice P1 kk1.length c1) (.slice S1 ll1.length d1)
            refine hKc _ _ ⟨(hB809.keep (List.nil_sublist _)), ?_⟩
            clear c_bd z_bd f_bd hKc Kc hB808
            generalize (wa8.setCell _ _).setCell _ _ = wb9 at *
            refine wpAnyT_all (rs := [24]) (by kernel_rfl) (by simp) (fun wa10 hwa10 hRwa10 i hi => ?_)
            have hB810 := hB809.next hwa10
            clear hB809 hwa10 hRwa10
            obtain rfl := List.mem_singleton.1 hi
            refine wpOp_step rfl (fun Kc hKc => ?_)
            have c_br := fun j => cell_of_row _ _ j _ _ _ (hB810.get 0 rfl)
            have z_br := hB810.lt 0 rfl
            have f_br := fun j => frozen_of_row _ _ j _ _ (hB810.get 0 rfl)
            go_simp
            have hB811 := hB810.put 0 rfl (rr1)
            refine hKc _ _ ⟨(hB811.keep (List.nil_sublist _)), ?_⟩
            clear c_br z_br f_br hKc Kc hB810
            generalize (wa10.setCell _ _).setCell _ _ = wb11 at *
            refine wpAnyT_go (Bx.grows _ _) (hB811.keep (List.nil_sublist _)) [25] 0 (by kernel_rfl) ?_
            apply Exists.intro
            refine ⟨fun G hG hN => ?_, ?_⟩
            · have c_D := fun (e : GE (Bx wr []) G) j => cell_of_row e.w _ j _ _ _ (HDX.out e.w (GE.h e).below)
              have z_D := fun (e : GE (Bx wr []) G) => lt_some (HDX.out e.w (GE.h e).below)
              have q0 := fun (e : GE (Bx wr []) G) => (HQX.out e.w (GE.h e).below).2.1
              have q1 := fun (e : GE (Bx wr []) G) => (HQX.out e.w (GE.h e).below).2.2.1
              have q2 := fun (e : GE (Bx wr []) G) => (HQX.out e.w (GE.h e).below).2.2.2.1
              have q3 := fun (e : GE (Bx wr []) G) => (HQX.out e.w (GE.h e).below).2.2.2.2.1
              have q4 := fun (e : GE (Bx wr []) G) => (HQX.out e.w (GE.h e).below).2.2.2.2.2.1
              have q5 := fun (e : GE (Bx wr []) G) => (HQX.out e.w (GE.h e).below).2.2.2.2.2.2.1
              have q6 := fun (e : GE (Bx wr []) G) => (HQX.out e.w (GE.h e).below).2.2.2.2.2.2.2.1
              have q7 := fun (e : GE (Bx wr []) G) => (HQX.out e.w (GE.h e).below).2.2.2.2.2.2.2.2
              have q9 := fun (e : GE (Bx wr []) G) => (HQX.out e.w (GE.h e).below).1
              have qa := fun (e : GE (Bx wr []) G) => show (ad.add (k * 8)).block < e.w.heap.size by rw [block_add]; exact (HQX.out e.w (GE.h e).below).1
              simp only [pickOps, List.getElem?_toArray, List.getElem?_cons_zero, List.getElem?_cons_succ]
              repeat (first | go_big_quiet_step (fail) | quiet_step (fail))
              exact wpQuiet_nil rfl
            refine wpAnyT_done (by kernel_rfl) (fun wd12 hwd12 hRwd12 => ?_) _
            refine NoPanic.normal ?_
            have hB812 := hB811.next hwd12
            clear hB811 hwd12 hRwd12
            have HM := Lib.hid hB812.mx
            have HFr := Lib.hid hB812.fresh
            clear hB812
            go_wp2_with fail
            go_meet
            exact ⟨gN, gP, P1, c1, S1, d1, rfl, rfl, rfl, HM.out, HFr.out⟩
          · obtain rfl := List.mem_singleton.1 hi
            refine wpOp_step rfl (fun Kc hKc => ?_)
            go_simp
            have hB805 := hB804.new (g := wa4.heap.size) rfl (rB ⟨0, 0⟩)
            refine hKc _ _ ⟨(hB805.keep (List.nil_sublist _)), ?_⟩
            clear hKc Kc hB804
            generalize wa4.heap.size = gP at *
            generalize wa4.alloc _ = wb13 at *
            refine wpAnyT_all (rs := [21]) (by kernel_rfl) (by simp) (fun wa14 hwa14 hRwa14 i hi => ?_)
            have hB806 := hB805.next hwa14
            clear hB805 hwa14 hRwa14
            obtain rfl := List.mem_singleton.1 hi
            refine wpOp_step rfl (fun Kc hKc => ?_)
            go_simp
            have hB807 := hB806.new (g := wa14.heap.size) rfl (.cells #[(.slice none 0 0), (.slice none 0 0)] 76)
            refine hKc _ _ ⟨(hB807.keep (List.nil_sublist _)), ?_⟩
            clear hKc Kc hB806
            generalize wa14.heap.size = gN at *
            generalize wa14.alloc _ = wb15 at *
            refine wpAnyT_all (rs := [23]) (by kernel_rfl) (by simp) (fun wa16 hwa16 hRwa16 i hi => ?_)
            have hB808 := hB807.next hwa16
            clear hB807 hwa16 hRwa16
            obtain rfl := List.mem_singleton.1 hi
            refine wpOp_step rfl (fun Kc hKc => ?_)
            have c_bd := fun j => cell_of_row _ _ j _ _ _ (hB808.get 0 rfl)
            have z_bd := hB808.lt 0 rfl
            have f_bd := fun j => frozen_of_row _ _ j _ _ (hB808.get 0 rfl)
            go_simp
            have hB809 := hB808.put2 0 rfl (.slice P1 kk1.length c1) (.slice S1 ll1.length d1)
            refine hKc _ _ ⟨(hB809.keep (List.nil_sublist _)), ?_⟩
            clear c_bd z_bd f_bd hKc Kc hB808
            generalize (wa16.setCell _ _).setCell _ _ = wb17 at *
            refine wpAnyT_all (rs := [24]) (by kernel_rfl) (by simp) (fun wa18 hwa18 hRwa18 i hi => ?_)
            have hB810 := hB809.next hwa18
            clear hB809 hwa18 hRwa18
            obtain rfl := List.mem_singleton.1 hi
            refine wpOp_step rfl (fun Kc hKc => ?_)
            have c_br := fun j => cell_of_row _ _ j _ _ _ (hB810.get 1 rfl)
            have z_br := hB810.lt 1 rfl
            have f_br := fun j => frozen_of_row _ _ j _ _ (hB810.get 1 rfl)
            go_simp
            have hB811 := hB810.put 1 rfl (rr1)
            refine hKc _ _ ⟨(hB811.keep (List.nil_sublist _)), ?_⟩
            clear c_br z_br f_br hKc Kc hB810
            generalize (wa18.setCell _ _).setCell _ _ = wb19 at *
            refine wpAnyT_go (Bx.grows _ _) (hB811.keep (List.nil_sublist _)) [25] 0 (by kernel_rfl) ?_
            apply Exists.intro
            refine ⟨fun G hG hN => ?_, ?_⟩
            · have c_D := fun (e : GE (Bx wr []) G) j => cell_of_row e.w _ j _ _ _ (HDX.out e.w (GE.h e).below)
              have z_D := fun (e : GE (Bx wr []) G) => lt_some (HDX.out e.w (GE.h e).below)
              have q0 := fun (e : GE (Bx wr []) G) => (HQX.out e.w (GE.h e).below).2.1
              have q1 := fun (e : GE (Bx wr []) G) => (HQX.out e.w (GE.h e).below).2.2.1
              have q2 := fun (e : GE (Bx wr []) G) => (HQX.out e.w (GE.h e).below).2.2.2.1
              have q3 := fun (e : GE (Bx wr []) G) => (HQX.out e.w (GE.h e).below).2.2.2.2.1
              have q4 := fun (e : GE (Bx wr []) G) => (HQX.out e.w (GE.h e).below).2.2.2.2.2.1
              have q5 := fun (e : GE (Bx wr []) G) => (HQX.out e.w (GE.h e).below).2.2.2.2.2.2.1
              have q6 := fun (e : GE (Bx wr []) G) => (HQX.out e.w (GE.h e).below).2.2.2.2.2.2.2.1
              have q7 := fun (e : GE (Bx wr []) G) => (HQX.out e.w (GE.h e).below).2.2.2.2.2.2.2.2
              have q9 := fun (e : GE (Bx wr []) G) => (HQX.out e.w (GE.h e).below).1
              have qa := fun (e : GE (Bx wr []) G) => show (ad.add (k * 8)).block < e.w.heap.size by rw [block_add]; exact (HQX.out e.w (GE.h e).below).1
              simp only [pickOps, List.getElem?_toArray, List.getElem?_cons_zero, List.getElem?_cons_succ]
              repeat (first | go_big_quiet_step (fail) | quiet_step (fail))
              exact wpQuiet_nil rfl
            refine wpAnyT_done (by kernel_rfl) (fun wd20 hwd20 hRwd20 => ?_) _
            refine NoPanic.normal ?_
            have hB812 := hB811.next hwd20
            clear hB811 hwd20 hRwd20
            have HM := Lib.hid hB812.mx.swap
            have HFr := Lib.hid hB812.fresh
            clear hB812
            go_wp2_with fail
            go_meet
            exact ⟨gN, gP, P1, c1, S1, d1, rfl, rfl, rfl, HM.out, HFr.out⟩
        · rcases List.mem_cons.1 hi with rfl | hi
          · refine wpOp_step rfl (fun Kc hKc => ?_)
            go_simp
            have hB803 := hB802.new (g := wa2.heap.size) rfl (.cells #[(.slice none 0 0), (.slice none 0 0)] 76)
            refine hKc _ _ ⟨(hB803.keep (List.nil_sublist _)), ?_⟩
            clear hKc Kc hB802
            generalize wa2.heap.size = gN at *
            generalize wa2.alloc _ = wb21 at *
            refine wpAnyT_all (rs := [16, 22]) (by kernel_rfl) (by simp) (fun wa22 hwa22 hRwa22 i hi => ?_)
            have hB804 := hB803.next hwa22
            clear hB803 hwa22 hRwa22
            rcases List.mem_cons.1 hi with rfl | hi
            · refine wpOp_step rfl (fun Kc hKc => ?_)
              go_simp
              refine Calls.mono (HA1.out _ _ _ _ _ (HF.out _ hB804.below)) ?_
              rintro e wv23 ⟨P1, c1, S1, d1, rfl, hF, hb⟩
              have hB805 := Mf.start hB804 hb hF
              clear hb hF
              refine hKc _ _ ⟨(hB805.keep (List.nil_sublist _)), ?_⟩
              clear hKc Kc hB804
              refine wpAnyT_go (Bx.grows _ _) (hB805.keep (List.nil_sublist _)) [17, 18, 19, 20] 4 (by kernel_rfl) ?_
              apply Exists.intro
              refine ⟨fun G hG hN => ?_, ?_⟩
              · have c_D := fun (e : GE (Bx wr []) G) j => cell_of_row e.w _ j _ _ _ (HDX.out e.w (GE.h e).below)
                have z_D := fun (e : GE (Bx wr []) G) => lt_some (HDX.out e.w (GE.h e).below)
                have q0 := fun (e : GE (Bx wr []) G) => (HQX.out e.w (GE.h e).below).2.1
                have q1 := fun (e : GE (Bx wr []) G) => (HQX.out e.w (GE.h e).below).2.2.1
                have q2 := fun (e : GE (Bx wr []) G) => (HQX.out e.w (GE.h e).below).2.2.2.1
                have q3 := fun (e : GE (Bx wr []) G) => (HQX.out e.w (GE.h e).below).2.2.2.2.1
                have q4 := fun (e : GE (Bx wr []) G) => (HQX.out e.w (GE.h e).below).2.2.2.2.2.1
                have q5 := fun (e : GE (Bx wr []) G) => (HQX.out e.w (GE.h e).below).2.2.2.2.2.2.1
                have q6 := fun (e : GE (Bx wr []) G) => (HQX.out e.w (GE.h e).below).2.2.2.2.2.2.2.1
                have q7 := fun (e : GE (Bx wr []) G) => (HQX.out e.w (GE.h e).below).2.2.2.2.2.2.2.2
                have q9 := fun (e : GE (Bx wr []) G) => (HQX.out e.w (GE.h e).below).1
                have qa := fun (e : GE (Bx wr []) G) => show (ad.add (k * 8)).block < e.w.heap.size by rw [block_add]; exact (HQX.out e.w (GE.h e).below).1
                simp only [pickOps, List.getElem?_toArray, List.getElem?_cons_zero, List.getElem?_cons_succ]
                repeat (first | go_big_quiet_step (fail) | quiet_step (fail))
                exact wpQuiet_nil rfl
              refine wpAnyT_all (rs := [22]) (by kernel_rfl) (by simp) (fun wa24 hwa24 hRwa24 i hi => ?_)
              have hB806 := hB805.next hwa24
              clear hB805 hwa24 hRwa24
              obtain rfl := List.mem_singleton.1 hi
              refine wpOp_step rfl (fun Kc hKc => ?_)
              go_simp
              have hB807 := hB806.new (g := wa24.heap.size) rfl (rB ⟨0, 0⟩)
              refine hKc _ _ ⟨(hB807.keep (List.nil_sublist _)), ?_⟩
              clear hKc Kc hB806
              generalize wa24.heap.size = gP at *
              generalize wa24.alloc _ = wb25 at *
              refine wpAnyT_all (rs := [23]) (by kernel_rfl) (by simp) (fun wa26 hwa26 hRwa26 i hi => ?_)
              have hB808 := hB807.next hwa26
              clear hB807 hwa26 hRwa26
              obtain rfl := List.mem_singleton.1 hi
              refine wpOp_step rfl (fun Kc hKc => ?_)
              have c_bd := fun j => cell_of_row _ _ j _ _ _ (hB808.get 1 rfl)
              have z_bd := hB808.lt 1 rfl
              have f_bd := fun j => frozen_of_row _ _ j _ _ (hB808.get 1 rfl)
              go_simp
              have hB809 := hB808.put2 1 rfl (.slice P1 kk1.length c1) (.slice S1 ll1.length d1)
              refine hKc _ _ ⟨(hB809.keep (List.nil_sublist _)), ?_⟩
              clear c_bd z_bd f_bd hKc Kc hB808
              generalize (wa26.setCell _ _).setCell _ _ = wb27 at *
              refine wpAnyT_all (rs := [24]) (by kernel_rfl) (by simp) (fun wa28 hwa28 hRwa28 i hi => ?_)
              have hB810 := hB809.next hwa28
              clear hB809 hwa28 hRwa28
              obtain rfl := List.mem_singleton.1 hi
              refine wpOp_step rfl (fun Kc hKc => ?_)
              have c_br := fun j => cell_of_row _ _ j _ _ _ (hB810.get 0 rfl)
              have z_br := hB810.lt 0 rfl
              have f_br := fun j => frozen_of_row _ _ j _ _ (hB810.get 0 rfl)
              go_simp
              have hB811 := hB810.put 0 rfl (rr1)
              refine hKc _ _ ⟨(hB811.keep (List.nil_sublist _)), ?_⟩
              clear c_br z_br f_br hKc Kc hB810
              generalize (wa28.setCell _ _).setCell _ _ = wb29 at *
              refine wpAnyT_go (Bx.grows _ _) (hB811.keep (List.nil_sublist _)) [25] 0 (by kernel_rfl) ?_
              apply Exists.intro
              refine ⟨fun G hG hN => ?_, ?_⟩
              · have c_D := fun (e : GE (Bx wr []) G) j => cell_of_row e.w _ j _ _ _ (HDX.out e.w (GE.h e).below)
                have z_D := fun (e : GE (Bx wr []) G) => lt_some (HDX.out e.w (GE.h e).below)
                have q0 := fun (e : GE (Bx wr []) G) => (HQX.out e.w (GE.h e).below).2.1
                have q1 := fun (e : GE (Bx wr []) G) => (HQX.out e.w (GE.h e).below).2.2.1
                have q2 := fun (e : GE (Bx wr []) G) => (HQX.out e.w (GE.h e).below).2.2.2.1
                have q3 := fun (e : GE (Bx wr []) G) => (HQX.out e.w (GE.h e).below).2.2.2.2.1
                have q4 := fun (e : GE (Bx wr []) G) => (HQX.out e.w (GE.h e).below).2.2.2.2.2.1
                have q5 := fun (e : GE (Bx wr []) G) => (HQX.out e.w (GE.h e).below).2.2.2.2.2.2.1
                have q6 := fun (e : GE (Bx wr []) G) => (HQX.out e.w (GE.h e).below).2.2.2.2.2.2.2.1
                have q7 := fun (e : GE (Bx wr []) G) => (HQX.out e.w (GE.h e).below).2.2.2.2.2.2.2.2
                have q9 := fun (e : GE (Bx wr []) G) => (HQX.out e.w (GE.h e).below).1
                have qa := fun (e : GE (Bx wr []) G) => show (ad.add (k * 8)).block < e.w.heap.size by rw [block_add]; exact (HQX.out e.w (GE.h e).below).1
                simp only [pickOps, List.getElem?_toArray, List.getElem?_cons_zero, List.getElem?_cons_succ]
                repeat (first | go_big_quiet_step (fail) | quiet_step (fail))
                exact wpQuiet_nil rfl
              refine wpAnyT_done (by kernel_rfl) (fun wd30 hwd30 hRwd30 => ?_) _
              refine NoPanic.normal ?_
              have hB812 := hB811.next hwd30
              clear hB811 hwd30 hRwd30
              have HM := Lib.hid hB812.mx
              have HFr := Lib.hid hB812.fresh
              clear hB812
              go_wp2_with fail
              go_meet
              exact ⟨gN, gP, P1, c1, S1, d1, rfl, rfl, rfl, HM.out, HFr.out⟩
            · obtain rfl := List.mem_singleton.1 hi
              refine wpOp_step rfl (fun Kc hKc => ?_)
              go_simp
              have hB805 := hB804.new (g := wa22.heap.size) rfl (rB ⟨0, 0⟩)
              refine hKc _ _ ⟨(hB805.keep (List.nil_sublist _)), ?_⟩
              clear hKc Kc hB804
              generalize wa22.heap.size = gP at *
              generalize wa22.alloc _ = wb31 at *
              refine wpAnyT_all (rs := [16]) (by kernel_rfl) (by simp) (fun wa32 hwa32 hRwa32 i hi => ?_)
              have hB806 := hB805.next hwa32
              clear hB805 hwa32 hRwa32
              obtain rfl := List.mem_singleton.1 hi
              refine wpOp_step rfl (fun Kc hKc => ?_)
              go_simp
              refine Calls.mono (HA1.out _ _ _ _ _ (HF.out _ hB806.below)) ?_
              rintro e wv33 ⟨P1, c1, S1, d1, rfl, hF, hb⟩
              have hB807 := Mf.start hB806 hb hF
              clear hb hF
              refine hKc _ _ ⟨(hB807.keep (List.nil_sublist _)), ?_⟩
              clear hKc Kc hB806
              refine wpAnyT_go (Bx.grows _ _) (hB807.keep (List.nil_sublist _)) [17, 18, 19, 20] 3 (by kernel_rfl) ?_
              apply Exists.intro
              refine ⟨fun G hG hN => ?_, ?_⟩
              · have c_D := fun (e : GE (Bx wr []) G) j => cell_of_row e.w _ j _ _ _ (HDX.out e.w (GE.h e).below)
                have z_D := fun (e : GE (Bx wr []) G) => lt_some (HDX.out e.w (GE.h e).below)
                have q0 := fun (e : GE (Bx wr []) G) => (HQX.out e.w (GE.h e).below).2.1
                have q1 := fun (e : GE (Bx wr []) G) => (HQX.out e.w (GE.h e).below).2.2.1
                have q2 := fun (e : GE (Bx wr []) G) => (HQX.out e.w (GE.h e).below).2.2.2.1
                have q3 := fun (e : GE (Bx wr []) G) => (HQX.out e.w (GE.h e).below).2.2.2.2.1
                have q4 := fun (e : GE (Bx wr []) G) => (HQX.out e.w (GE.h e).below).2.2.2.2.2.1
                have q5 := fun (e : GE (Bx wr []) G) => (HQX.out e.w (GE.h e).below).2.2.2.2.2.2.1
                have q6 := fun (e : GE (Bx wr []) G) => (HQX.out e.w (GE.h e).below).2.2.2.2.2.2.2.1
                have q7 := fun (e : GE (Bx wr []) G) => (HQX.out e.w (GE.h e).below).2.2.2.2.2.2.2.2
                have q9 := fun (e : GE (Bx wr []) G) => (HQX.out e.w (GE.h e).below).1
                have qa := fun (e : GE (Bx wr []) G) => show (ad.add (k * 8)).block < e.w.heap.size by rw [block_add]; exact (HQX.out e.w (GE.h e).below).1
                simp only [pickOps, List.getElem?_toArray, List.getElem?_cons_zero, List.getElem?_cons_succ]
                repeat (first | go_big_quiet_step (fail) | quiet_step (fail))
                exact wpQuiet_nil rfl
              refine wpAnyT_all (rs := [23]) (by kernel_rfl) (by simp) (fun wa34 hwa34 hRwa34 i hi => ?_)
              have hB808 := hB807.next hwa34
              clear hB807 hwa34 hRwa34
              obtain rfl := List.mem_singleton.1 hi
              refine wpOp_step rfl (fun Kc hKc => ?_)
              have c_bd := fun j => cell_of_row _ _ j _ _ _ (hB808.get 1 rfl)
              have z_bd := hB808.lt 1 rfl
              have f_bd := fun j => frozen_of_row _ _ j _ _ (hB808.get 1 rfl)
              go_simp
              have hB809 := hB808.put2 1 rfl (.slice P1 kk1.length c1) (.slice S1 ll1.length d1)
              refine hKc _ _ ⟨(hB809.keep (List.nil_sublist _)), ?_⟩
              clear c_bd z_bd f_bd hKc Kc hB808
              generalize (wa34.setCell _ _).setCell _ _ = wb35 at *
              refine wpAnyT_all (rs := [24]) (by kernel_rfl) (by simp) (fun wa36 hwa36 hRwa36 i hi => ?_)
              have hB810 := hB809.next hwa36
              clear hB809 hwa36 hRwa36
              obtain rfl := List.mem_singleton.1 hi
              refine wpOp_step rfl (fun Kc hKc => ?_)
              have c_br := fun j => cell_of_row _ _ j _ _ _ (hB810.get 0 rfl)
              have z_br := hB810.lt 0 rfl
              have f_br := fun j => frozen_of_row _ _ j _ _ (hB810.get 0 rfl)
              go_simp
              have hB811 := hB810.put 0 rfl (rr1)
              refine hKc _ _ ⟨(hB811.keep (List.nil_sublist _)), ?_⟩
              clear c_br z_br f_br hKc Kc hB810
              generalize (wa36.setCell _ _).setCell _ _ = wb37 at *
              refine wpAnyT_go (Bx.grows _ _) (hB811.keep (List.nil_sublist _)) [25] 0 (by kernel_rfl) ?_
              apply Exists.intro
              refine ⟨fun G hG hN => ?_, ?_⟩
              · have c_D := fun (e : GE (Bx wr []) G) j => cell_of_row e.w _ j _ _ _ (HDX.out e.w (GE.h e).below)
                have z_D := fun (e : GE (Bx wr []) G) => lt_some (HDX.out e.w (GE.h e).below)
                have q0 := fun (e : GE (Bx wr []) G) => (HQX.out e.w (GE.h e).below).2.1
                have q1 := fun (e : GE (Bx wr []) G) => (HQX.out e.w (GE.h e).below).2.2.1
                have q2 := fun (e : GE (Bx wr []) G) => (HQX.out e.w (GE.h e).below).2.2.2.1
                have q3 := fun (e : GE (Bx wr []) G) => (HQX.out e.w (GE.h e).below).2.2.2.2.1
                have q4 := fun (e : GE (Bx wr []) G) => (HQX.out e.w (GE.h e).below).2.2.2.2.2.1
                have q5 := fun (e : GE (Bx wr []) G) => (HQX.out e.w (GE.h e).below).2.2.2.2.2.2.1
                have q6 := fun (e : GE (Bx wr []) G) => (HQX.out e.w (GE.h e).below).2.2.2.2.2.2.2.1
                have q7 := fun (e : GE (Bx wr []) G) => (HQX.out e.w (GE.h e).below).2.2.2.2.2.2.2.2
                have q9 := fun (e : GE (Bx wr []) G) => (HQX.out e.w (GE.h e).below).1
                have qa := fun (e : GE (Bx wr []) G) => show (ad.add (k * 8)).block < e.w.heap.size by rw [block_add]; exact (HQX.out e.w (GE.h e).below).1
                simp only [pickOps, List.getElem?_toArray, List.getElem?_cons_zero, List.getElem?_cons_succ]
                repeat (first | go_big_quiet_step (fail) | quiet_step (fail))
                exact wpQuiet_nil rfl
              refine wpAnyT_done (by kernel_rfl) (fun wd38 hwd38 hRwd38 => ?_) _
              refine NoPanic.normal ?_
              have hB812 := hB811.next hwd38
              clear hB811 hwd38 hRwd38
              have HM := Lib.hid hB812.mx
              have HFr := Lib.hid hB812.fresh
              clear hB812
              go_wp2_with fail
              go_meet
              exact ⟨gN, gP, P1, c1, S1, d1, rfl, rfl, rfl, HM.out, HFr.out⟩
          · obtain rfl := List.mem_singleton.1 hi
            refine wpOp_step rfl (fun Kc hKc => ?_)
            go_simp
            have hB803 := hB802.new (g := wa2.heap.size) rfl (rB ⟨0, 0⟩)
            refine hKc _ _ ⟨(hB803.keep (List.nil_sublist _)), ?_⟩
            clear hKc Kc hB802
            generalize wa2.heap.size = gP at *
            generalize wa2.alloc _ = wb39 at *
            refine wpAnyT_all (rs := [16, 21]) (by kernel_rfl) (by simp) (fun wa40 hwa40 hRwa40 i hi => ?_)
            have hB804 := hB803.next hwa40
            clear hB803 hwa40 hRwa40
            rcases List.mem_cons.1 hi with rfl | hi
            · refine wpOp_step rfl (fun Kc hKc => ?_)
              go_simp
              refine Calls.mono (HA1.out _ _ _ _ _ (HF.out _ hB804.below)) ?_
              rintro e wv41 ⟨P1, c1, S1, d1, rfl, hF, hb⟩
              have hB805 := Mf.start hB804 hb hF
              clear hb hF
              refine hKc _ _ ⟨(hB805.keep (List.nil_sublist _)), ?_⟩
              clear hKc Kc hB804
              refine wpAnyT_go (Bx.grows _ _) (hB805.keep (List.nil_sublist _)) [17, 18, 19, 20] 4 (by kernel_rfl) ?_
              apply Exists.intro
              refine ⟨fun G hG hN => ?_, ?_⟩
              · have c_D := fun (e : GE (Bx wr []) G) j => cell_of_row e.w _ j _ _ _ (HDX.out e.w (GE.h e).below)
                have z_D := fun (e : GE (Bx wr []) G) => lt_some (HDX.out e.w (GE.h e).below)
                have q0 := fun (e : GE (Bx wr []) G) => (HQX.out e.w (GE.h e).below).2.1
                have q1 := fun (e : GE (Bx wr []) G) => (HQX.out e.w (GE.h e).below).2.2.1
                have q2 := fun (e : GE (Bx wr []) G) => (HQX.out e.w (GE.h e).below).2.2.2.1
                have q3 := fun (e : GE (Bx wr []) G) => (HQX.out e.w (GE.h e).below).2.2.2.2.1
                have q4 := fun (e : GE (Bx wr []) G) => (HQX.out e.w (GE.h e).below).2.2.2.2.2.1
                have q5 := fun (e : GE (Bx wr []) G) => (HQX.out e.w (GE.h e).below).2.2.2.2.2.2.1
                have q6 := fun (e : GE (Bx wr []) G) => (HQX.out e.w (GE.h e).below).2.2.2.2.2.2.2.1
                have q7 := fun (e : GE (Bx wr []) G) => (HQX.out e.w (GE.h e).below).2.2.2.2.2.2.2.2
                have q9 := fun (e : GE (Bx wr []) G) => (HQX.out e.w (GE.h e).below).1
                have qa := fun (e : GE (Bx wr []) G) => show (ad.add (k * 8)).block < e.w.heap.size by rw [block_add]; exact (HQX.out e.w (GE.h e).below).1
                simp only [pickOps, List.getElem?_toArray, List.getElem?_cons_zero, List.getElem?_cons_succ]
                repeat (first | go_big_quiet_step (fail) | quiet_step (fail))
                exact wpQuiet_nil rfl
              refine wpAnyT_all (rs := [21]) (by kernel_rfl) (by simp) (fun wa42 hwa42 hRwa42 i hi => ?_)
              have hB806 := hB805.next hwa42
              clear hB805 hwa42 hRwa42
              obtain rfl := List.mem_singleton.1 hi
              refine wpOp_step rfl (fun Kc hKc => ?_)
              go_simp
              have hB807 := hB806.new (g := wa42.heap.size) rfl (.cells #[(.slice none 0 0), (.slice none 0 0)] 76)
              refine hKc _ _ ⟨(hB807.keep (List.nil_sublist _)), ?_⟩
              clear hKc Kc hB806
              generalize wa42.heap.size = gN at *
              generalize wa42.alloc _ = wb43 at *
              refine wpAnyT_all (rs := [23]) (by kernel_rfl) (by simp) (fun wa44 hwa44 hRwa44 i hi => ?_)
              have hB808 := hB807.next hwa44
              clear hB807 hwa44 hRwa44
              obtain rfl := List.mem_singleton.1 hi
              refine wpOp_step rfl (fun Kc hKc => ?_)
              have c_bd := fun j => cell_of_row _ _ j _ _ _ (hB808.get 0 rfl)
              have z_bd := hB808.lt 0 rfl
              have f_bd := fun j => frozen_of_row _ _ j _ _ (hB808.get 0 rfl)
              go_simp
              have hB809 := hB808.put2 0 rfl (.slice P1 kk1.length c1) (.slice S1 ll1.length d1)
              refine hKc _ _ ⟨(hB809.keep (List.nil_sublist _)), ?_⟩
              clear c_bd z_bd f_bd hKc Kc hB808
              generalize (wa44.setCell _ _).setCell _ _ = wb45 at *
              refine wpAnyT_all (rs := [24]) (by kernel_rfl) (by simp) (fun wa46 hwa46 hRwa46 i hi => ?_)
              have hB810 := hB809.next hwa46
              clear hB809 hwa46 hRwa46
              obtain rfl := List.mem_singleton.1 hi
              refine wpOp_step rfl (fun Kc hKc => ?_)
              have c_br := fun j => cell_of_row _ _ j _ _ _ (hB810.get 1 rfl)
              have z_br := hB810.lt 1 rfl
              have f_br := fun j => frozen_of_row _ _ j _ _ (hB810.get 1 rfl)
              go_simp
              have hB811 := hB810.put 1 rfl (rr1)
              refine hKc _ _ ⟨(hB811.keep (List.nil_sublist _)), ?_⟩
              clear c_br z_br f_br hKc Kc hB810
              generalize (wa46.setCell _ _).setCell _ _ = wb47 at *
              refine wpAnyT_go (Bx.grows _ _) (hB811.keep (List.nil_sublist _)) [25] 0 (by kernel_rfl) ?_
              apply Exists.intro
              refine ⟨fun G hG hN => ?_, ?_⟩
              · have c_D := fun (e : GE (Bx wr []) G) j => cell_of_row e.w _ j _ _ _ (HDX.out e.w (GE.h e).below)
                have z_D := fun (e : GE (Bx wr []) G) => lt_some (HDX.out e.w (GE.h e).below)
                have q0 := fun (e : GE (Bx wr []) G) => (HQX.out e.w (GE.h e).below).2.1
                have q1 := fun (e : GE (Bx wr []) G) => (HQX.out e.w (GE.h e).below).2.2.1
                have q2 := fun (e : GE (Bx wr []) G) => (HQX.out e.w (GE.h e).below).2.2.2.1
                have q3 := fun (e : GE (Bx wr []) G) => (HQX.out e.w (GE.h e).below).2.2.2.2.1
                have q4 := fun (e : GE (Bx wr []) G) => (HQX.out e.w (GE.h e).below).2.2.2.2.2.1
                have q5 := fun (e : GE (Bx wr []) G) => (HQX.out e.w (GE.h e).below).2.2.2.2.2.2.1
                have q6 := fun (e : GE (Bx wr []) G) => (HQX.out e.w (GE.h e).below).2.2.2.2.2.2.2.1
                have q7 := fun (e : GE (Bx wr []) G) => (HQX.out e.w (GE.h e).below).2.2.2.2.2.2.2.2
                have q9 := fun (e : GE (Bx wr []) G) => (HQX.out e.w (GE.h e).below).1
                have qa := fun (e : GE (Bx wr []) G) => show (ad.add (k * 8)).block < e.w.heap.size by rw [block_add]; exact (HQX.out e.w (GE.h e).below).1
                simp only [pickOps, List.getElem?_toArray, List.getElem?_cons_zero, List.getElem?_cons_succ]
                repeat (first | go_big_quiet_step (fail) | quiet_step (fail))
                exact wpQuiet_nil rfl
              refine wpAnyT_done (by kernel_rfl) (fun wd48 hwd48 hRwd48 => ?_) _
              refine NoPanic.normal ?_
              have hB812 := hB811.next hwd48
              clear hB811 hwd48 hRwd48
              have HM := Lib.hid hB812.mx.swap
              have HFr := Lib.hid hB812.fresh
              clear hB812
              go_wp2_with fail
              go_meet
              exact ⟨gN, gP, P1, c1, S1, d1, rfl, rfl, rfl, HM.out, HFr.out⟩
            · obtain rfl := List.mem_singleton.1 hi
              refine wpOp_step rfl (fun Kc hKc => ?_)
              go_simp
              have hB805 := hB804.new (g := wa40.heap.size) rfl (.cells #[(.slice none 0 0), (.slice none 0 0)] 76)
              refine hKc _ _ ⟨(hB805.keep (List.nil_sublist _)), ?_⟩
              clear hKc Kc hB804
              generalize wa40.heap.size = gN at *
              generalize wa40.alloc _ = wb49 at *
              refine wpAnyT_all (rs := [16]) (by kernel_rfl) (by simp) (fun wa50 hwa50 hRwa50 i hi => ?_)
              have hB806 := hB805.next hwa50
              clear hB805 hwa50 hRwa50
              obtain rfl := List.mem_singleton.1 hi
              refine wpOp_step rfl (fun Kc hKc => ?_)
              go_simp
              refine Calls.mono (HA1.out _ _ _ _ _ (HF.out _ hB806.below)) ?_
              rintro e wv51 ⟨P1, c1, S1, d1, rfl, hF, hb⟩
              have hB807 := Mf.start hB806 hb hF
              clear hb hF
              refine hKc _ _ ⟨(hB807.keep (List.nil_sublist _)), ?_⟩
              clear hKc Kc hB806
              refine wpAnyT_go (Bx.grows _ _) (hB807.keep (List.nil_sublist _)) [17, 18, 19, 20] 3 (by kernel_rfl) ?_
              apply Exists.intro
              refine ⟨fun G hG hN => ?_, ?_⟩
              · have c_D := fun (e : GE (Bx wr []) G) j => cell_of_row e.w _ j _ _ _ (HDX.out e.w (GE.h e).below)
                have z_D := fun (e : GE (Bx wr []) G) => lt_some (HDX.out e.w (GE.h e).below)
                have q0 := fun (e : GE (Bx wr []) G) => (HQX.out e.w (GE.h e).below).2.1
                have q1 := fun (e : GE (Bx wr []) G) => (HQX.out e.w (GE.h e).below).2.2.1
                have q2 := fun (e : GE (Bx wr []) G) => (HQX.out e.w (GE.h e).below).2.2.2.1
                have q3 := fun (e : GE (Bx wr []) G) => (HQX.out e.w (GE.h e).below).2.2.2.2.1
                have q4 := fun (e : GE (Bx wr []) G) => (HQX.out e.w (GE.h e).below).2.2.2.2.2.1
                have q5 := fun (e : GE (Bx wr []) G) => (HQX.out e.w (GE.h e).below).2.2.2.2.2.2.1
                have q6 := fun (e : GE (Bx wr []) G) => (HQX.out e.w (GE.h e).below).2.2.2.2.2.2.2.1
                have q7 := fun (e : GE (Bx wr []) G) => (HQX.out e.w (GE.h e).below).2.2.2.2.2.2.2.2
                have q9 := fun (e : GE (Bx wr []) G) => (HQX.out e.w (GE.h e).below).1
                have qa := fun (e : GE (Bx wr []) G) => show (ad.add (k * 8)).block < e.w.heap.size by rw [block_add]; exact (HQX.out e.w (GE.h e).below).1
                simp only [pickOps, List.getElem?_toArray, List.getElem?_cons_zero, List.getElem?_cons_succ]
                repeat (first | go_big_quiet_step (fail) | quiet_step (fail))
                exact wpQuiet_nil rfl
              refine wpAnyT_all (rs := [23]) (by kernel_rfl) (by simp) (fun wa52 hwa52 hRwa52 i hi => ?_)
              have hB808 := hB807.next hwa52
              clear hB807 hwa52 hRwa52
              obtain rfl := List.mem_singleton.1 hi
              refine wpOp_step rfl (fun Kc hKc => ?_)
              have c_bd := fun j => cell_of_row _ _ j _ _ _ (hB808.get 0 rfl)
              have z_bd := hB808.lt 0 rfl
              have f_bd := fun j => frozen_of_row _ _ j _ _ (hB808.get 0 rfl)
              go_simp
              have hB809 := hB808.put2 0 rfl (.slice P1 kk1.length c1) (.slice S1 ll1.length d1)
              refine hKc _ _ ⟨(hB809.keep (List.nil_sublist _)), ?_⟩
              clear c_bd z_bd f_bd hKc Kc hB808
              generalize (wa52.setCell _ _).setCell _ _ = wb53 at *
              refine wpAnyT_all (rs := [24]) (by kernel_rfl) (by simp) (fun wa54 hwa54 hRwa54 i hi => ?_)
              have hB810 := hB809.next hwa54
              clear hB809 hwa54 hRwa54
              obtain rfl := List.mem_singleton.1 hi
              refine wpOp_step rfl (fun Kc hKc => ?_)
              have c_br := fun j => cell_of_row _ _ j _ _ _ (hB810.get 1 rfl)
              have z_br := hB810.lt 1 rfl
              have f_br := fun j => frozen_of_row _ _ j _ _ (hB810.get 1 rfl)
              go_simp
              have hB811 := hB810.put 1 rfl (rr1)
              refine hKc _ _ ⟨(hB811.keep (List.nil_sublist _)), ?_⟩
              clear c_br z_br f_br hKc Kc hB810
              generalize (wa54.setCell _ _).setCell _ _ = wb55 at *
              refine wpAnyT_go (Bx.grows _ _) (hB811.keep (List.nil_sublist _)) [25] 0 (by kernel_rfl) ?_
              apply Exists.intro
              refine ⟨fun G hG hN => ?_, ?_⟩
              · have c_D := fun (e : GE (Bx wr []) G) j => cell_of_row e.w _ j _ _ _ (HDX.out e.w (GE.h e).below)
                have z_D := fun (e : GE (Bx wr []) G) => lt_some (HDX.out e.w (GE.h e).below)
                have q0 := fun (e : GE (Bx wr []) G) => (HQX.out e.w (GE.h e).below).2.1
                have q1 := fun (e : GE (Bx wr []) G) => (HQX.out e.w (GE.h e).below).2.2.1
                have q2 := fun (e : GE (Bx wr []) G) => (HQX.out e.w (GE.h e).below).2.2.2.1
                have q3 := fun (e : GE (Bx wr []) G) => (HQX.out e.w (GE.h e).below).2.2.2.2.1
                have q4 := fun (e : GE (Bx wr []) G) => (HQX.out e.w (GE.h e).below).2.2.2.2.2.1
                have q5 := fun (e : GE (Bx wr []) G) => (HQX.out e.w (GE.h e).below).2.2.2.2.2.2.1
                have q6 := fun (e : GE (Bx wr []) G) => (HQX.out e.w (GE.h e).below).2.2.2.2.2.2.2.1
                have q7 := fun (e : GE (Bx wr []) G) => (HQX.out e.w (GE.h e).below).2.2.2.2.2.2.2.2
                have q9 := fun (e : GE (Bx wr []) G) => (HQX.out e.w (GE.h e).below).1
                have qa := fun (e : GE (Bx wr []) G) => show (ad.add (k * 8)).block < e.w.heap.size by rw [block_add]; exact (HQX.out e.w (GE.h e).below).1
                simp only [pickOps, List.getElem?_toArray, List.getElem?_cons_zero, List.getElem?_cons_succ]
                repeat (first | go_big_quiet_step (fail) | quiet_step (fail))
                exact wpQuiet_nil rfl
              refine wpAnyT_done (by kernel_rfl) (fun wd56 hwd56 hRwd56 => ?_) _
              refine NoPanic.normal ?_
              have hB812 := hB811.next hwd56
              clear hB811 hwd56 hRwd56
              have HM := Lib.hid hB812.mx.swap
              have HFr := Lib.hid hB812.fresh
              clear hB812
              go_wp2_with fail
              go_meet
              exact ⟨gN, gP, P1, c1, S1, d1, rfl, rfl, rfl, HM.out, HFr.out⟩
    case rest =>
      as_aux_lemma =>
        obtain ⟨gN, gP, P1, c1, S1, d1, rfl, rfl, rfl, hM1, hFr1⟩ := hcut
        generalize wc = w8 at *
        have hb8 := hM1.below
        have HN8 := Lib.hid (fun (V : World) (hV : Below w8.heap.size w8 V) => heap_ext (hM1.get 1 rfl) hV)
        have HB8 := Lib.hid hb8
        have HM1 := Lib.hid hM1
        have HFr1 := Lib.hid hFr1
        obtain ⟨qb, qr⟩ := HQX.out _ HB8.out
        obtain ⟨q0, q1, q2, q3, q4, q5, q6, q7⟩ := qr
        have qa : (ad.add (k * 8)).block < w8.heap.size := by rw [block_add]; exact qb
        have HD8 := Lib.hid (HDX.out _ hb8)
        clear hM1 hFr1 hb8
        try go_upto_region 9 with fail
        by_cases hk2 : q.kind = 2
        · have b2 : (q.kind == 2) = true := by simpa using hk2
          have HK2 := Lib.hid (show kdQ q = 2 from if_pos hk2)
          clear hk2
          go_upto_region 10 with fail
          clear qb q0 q1 q2 q3 q4 q5 q6 q7 qa b2
          obtain ⟨kk2, hkk⟩ : ∃ x, x = askK kk lg.length q.agent 2 q.a q.b := ⟨_, rfl⟩
          obtain ⟨ll2, hll⟩ : ∃ x, x = askL kk lg q.agent 2 q.a q.b := ⟨_, rfl⟩
          obtain ⟨rr2, hrr⟩ : ∃ x, x = askR kk lg.length q.agent 2 q.a q.b := ⟨_, rfl⟩
          obtain ⟨cc2, hcc⟩ : ∃ x, x = askC kk lg.length q.agent 2 q.a q.b := ⟨_, rfl⟩
          have HA2 := Lib.hid (fun (P' : Option Addr) (cp' : Nat) (S' : Option Addr) (cs' : Nat) (V : World) (hD : DkIn P' cp' kk S' cs' lg V) => show Calls Try.prog 49 #[.agg #[.slice P' kk.length cp', .slice S' lg.length cs'], .int .i64 q.agent, rV q.a, rV q.b] V (AnsRes kk kk2 ll2 rr2 cc2 V) by
            refine (askmark_any kk P' cp' lg S' cs' q.agent hg0 hg1 q.a q.b HW.out.a HW.out.b V hD.1 hD.2).mono ?_
            rintro e w' ⟨P, cp, S, cs, rfl, hF, hb⟩
            rw [← hkk, ← hll] at hF
            exact ⟨P, cp, S, cs, by rw [← hkk, ← hll, ← hrr, ← hcc], hF, hb⟩)
          have HKK2 := Lib.hid hkk
          have HLL2 := Lib.hid hll
          have HCC2 := Lib.hid hcc
          clear hkk hll hrr hcc
          go_cut [13] (fun s13 wx => ∃ (P2 : Option Addr) (c2 : Nat) (S2 : Option Addr) (d2 : Nat), s13 = .int .i64 cc2 ∧ Mx wr [(gP, rB rr1), (gN, .cells #[.slice P2 kk2.length c2, .slice S2 ll2.length d2] 76)] [] wx ∧ Fresh wr.heap.size wx (DkIn P2 c2 kk2 S2 d2 ll2))
          case first =>
            as_aux_lemma =>
              have hA9 := HM1.out
              go_wp2_with fail
              refine wp_region_T (Bx wr []) 23 (by kernel_rfl) (by rfl) ((hA9.keep (List.nil_sublist _)).drew) (fun wq57 hbq => ?_)
              have hB1001 := hA9.next hbq
              clear hA9 hbq
              refine wpAnyT_go (Bx.grows _ _) (hB1001.keep (List.nil_sublist _)) [0, 1, 2, 3, 4, 5, 6, 7, 8, 9, 10, 11, 12, 13, 14, 15] 7 (by kernel_rfl) ?_
              apply Exists.intro
              refine ⟨fun G hG hN => ?_, ?_⟩
              · have c_D := fun (e : GE (Bx wr []) G) j => cell_of_row e.w _ j _ _ _ (HDX.out e.w (GE.h e).below)
                have z_D := fun (e : GE (Bx wr []) G) => lt_some (HDX.out e.w (GE.h e).below)
                have q0 := fun (e : GE (Bx wr []) G) => (HQX.out e.w (GE.h e).below).2.1
                have q1 := fun (e : GE (Bx wr []) G) => (HQX.out e.w (GE.h e).below).2.2.1
                have q2 := fun (e : GE (Bx wr []) G) => (HQX.out e.w (GE.h e).below).2.2.2.1
                have q3 := fun (e : GE (Bx wr []) G) => (HQX.out e.w (GE.h e).below).2.2.2.2.1
                have q4 := fun (e : GE (Bx wr []) G) => (HQX.out e.w (GE.h e).below).2.2.2.2.2.1
                have q5 := fun (e : GE (Bx wr []) G) => (HQX.out e.w (GE.h e).below).2.2.2.2.2.2.1
                have q6 := fun (e : GE (Bx wr []) G) => (HQX.out e.w (GE.h e).below).2.2.2.2.2.2.2.1
                have q7 := fun (e : GE (Bx wr []) G) => (HQX.out e.w (GE.h e).below).2.2.2.2.2.2.2.2
                have q9 := fun (e : GE (Bx wr []) G) => (HQX.out e.w (GE.h e).below).1
                have qa := fun (e : GE (Bx wr []) G) => show (ad.add (k * 8)).block < e.w.heap.size by rw [block_add]; exact (HQX.out e.w (GE.h e).below).1
                simp only [pickOps, List.getElem?_toArray, List.getElem?_cons_zero, List.getElem?_cons_succ]
                repeat (first | go_big_quiet_step (fail) | quiet_step (fail))
                exact wpQuiet_nil rfl
              refine wpAnyT_all (rs := [16]) (by kernel_rfl) (by simp) (fun wa58 hwa58 hRwa58 i hi => ?_)
              have hB1002 := hB1001.next hwa58
              clear hB1001 hwa58 hRwa58
              obtain rfl := List.mem_singleton.1 hi
              refine wpOp_step rfl (fun Kc hKc => ?_)
              go_simp
              refine Calls.mono (HA2.out _ _ _ _ _ (HF.out _ hB1002.below)) ?_
              rintro e wv59 ⟨P2, c2, S2, d2, rfl, hF, hb⟩
              have hB1003 := Mf.start hB1002 hb hF
              clear hb hF
              refine hKc _ _ ⟨(hB1003.keep (List.nil_sublist _)), ?_⟩
              clear hKc Kc hB1002
              refine wpAnyT_go (Bx.grows _ _) (hB1003.keep (List.nil_sublist _)) [17, 18, 19, 20] 2 (by kernel_rfl) ?_
              apply Exists.intro
              refine ⟨fun G hG hN => ?_, ?_⟩
              · have c_D := fun (e : GE (Bx wr []) G) j => cell_of_row e.w _ j _ _ _ (HDX.out e.w (GE.h e).below)
                have z_D := fun (e : GE (Bx wr []) G) => lt_some (HDX.out e.w (GE.h e).below)
                have q0 := fun (e : GE (Bx wr []) G) => (HQX.out e.w (GE.h e).below).2.1
                have q1 := fun (e : GE (Bx wr []) G) => (HQX.out e.w (GE.h e).below).2.2.1
                have q2 := fun (e : GE (Bx wr []) G) => (HQX.out e.w (GE.h e).below).2.2.2.1
                have q3 := fun (e : GE (Bx wr []) G) => (HQX.out e.w (GE.h e).below).2.2.2.2.1
                have q4 := fun (e : GE (Bx wr []) G) => (HQX.out e.w (GE.h e).below).2.2.2.2.2.1
                have q5 := fun (e : GE (Bx wr []) G) => (HQX.out e.w (GE.h e).below).2.2.2.2.2.2.1
                have q6 := fun (e : GE (Bx wr []) G) => (HQX.out e.w (GE.h e).below).2.2.2.2.2.2.2.1
                have q7 := fun (e : GE (Bx wr []) G) => (HQX.out e.w (GE.h e).below).2.2.2.2.2.2.2.2
                have q9 := fun (e : GE (Bx wr []) G) => (HQX.out e.w (GE.h e).below).1
                have qa := fun (e : GE (Bx wr []) G) => show (ad.add (k * 8)).block < e.w.heap.size by rw [block_add]; exact (HQX.out e.w (GE.h e).below).1
                simp only [pickOps, List.getElem?_toArray, List.getElem?_cons_zero, List.getElem?_cons_succ]
                repeat (first | go_big_quiet_step (fail) | quiet_step (fail))
                exact wpQuiet_nil rfl
              refine wpAnyT_all (rs := [21]) (by kernel_rfl) (by simp) (fun wa60 hwa60 hRwa60 i hi => ?_)
              have hB1004 := hB1003.next hwa60
              clear hB1003 hwa60 hRwa60
              obtain rfl := List.mem_singleton.1 hi
              refine wpOp_step rfl (fun Kc hKc => ?_)
              have c_bd := fun j => cell_of_row _ _ j _ _ _ (hB1004.get 1 rfl)
              have z_bd := hB1004.lt 1 rfl
              have f_bd := fun j => frozen_of_row _ _ j _ _ (hB1004.get 1 rfl)
              go_simp
              have hB1005 := hB1004.put2 1 rfl (.slice P2 kk2.length c2) (.slice S2 ll2.length d2)
              refine hKc _ _ ⟨(hB1005.keep (List.nil_sublist _)), ?_⟩
              clear c_bd z_bd f_bd hKc Kc hB1004
              generalize (wa60.setCell _ _).setCell _ _ = wb61 at *
              refine wpAnyT_go (Bx.grows _ _) (hB1005.keep (List.nil_sublist _)) [22] 0 (by kernel_rfl) ?_
              apply Exists.intro
              refine ⟨fun G hG hN => ?_, ?_⟩
              · have c_D := fun (e : GE (Bx wr []) G) j => cell_of_row e.w _ j _ _ _ (HDX.out e.w (GE.h e).below)
                have z_D := fun (e : GE (Bx wr []) G) => lt_some (HDX.out e.w (GE.h e).below)
                have q0 := fun (e : GE (Bx wr []) G) => (HQX.out e.w (GE.h e).below).2.1
                have q1 := fun (e : GE (Bx wr []) G) => (HQX.out e.w (GE.h e).below).2.2.1
                have q2 := fun (e : GE (Bx wr []) G) => (HQX.out e.w (GE.h e).below).2.2.2.1
                have q3 := fun (e : GE (Bx wr []) G) => (HQX.out e.w (GE.h e).below).2.2.2.2.1
                have q4 := fun (e : GE (Bx wr []) G) => (HQX.out e.w (GE.h e).below).2.2.2.2.2.1
                have q5 := fun (e : GE (Bx wr []) G) => (HQX.out e.w (GE.h e).below).2.2.2.2.2.2.1
                have q6 := fun (e : GE (Bx wr []) G) => (HQX.out e.w (GE.h e).below).2.2.2.2.2.2.2.1
                have q7 := fun (e : GE (Bx wr []) G) => (HQX.out e.w (GE.h e).below).2.2.2.2.2.2.2.2
                have q9 := fun (e : GE (Bx wr []) G) => (HQX.out e.w (GE.h e).below).1
                have qa := fun (e : GE (Bx wr []) G) => show (ad.add (k * 8)).block < e.w.heap.size by rw [block_add]; exact (HQX.out e.w (GE.h e).below).1
                simp only [pickOps, List.getElem?_toArray, List.getElem?_cons_zero, List.getElem?_cons_succ]
                repeat (first | go_big_quiet_step (fail) | quiet_step (fail))
                exact wpQuiet_nil rfl
              refine wpAnyT_done (by kernel_rfl) (fun wd62 hwd62 hRwd62 => ?_) _
              refine NoPanic.normal ?_
              have hB1006 := hB1005.next hwd62
              clear hB1005 hwd62 hRwd62
              have HM := Lib.hid hB1006.mx
              have HFr := Lib.hid hB1006.fresh
              clear hB1006
              go_wp2_with fail
              go_meet
              exact ⟨P2, c2, S2, d2, rfl, HM.out, HFr.out⟩
          case rest =>
            as_aux_lemma =>
              obtain ⟨P2, c2, S2, d2, rfl, hM2, hFr2⟩ := hcut
              generalize wc = w10 at *
              have HB10 := Lib.hid hM2.below
              have HN10 := Lib.hid (hM2.get 1 rfl)
              have HFr2 := Lib.hid hFr2
              clear hM2 hFr2
              have hgen := True.intro
              try go_upto_region 11 with fail
              by_cases hz : cc2 = 0
              rotate_left
              · have b1 : (cc2 == 0) = false := by simpa using hz
                have HST := Lib.hid (show ranTo kk l (k + 1) = lg from ask_stay HQ.out HK2.out HLG.out (by rw [← HCC2.out]; exact hz))
                clear hz
                go_wp2_with fail
                exact ⟨⟨k + 1, P, cp, S, cs, _, _, HLE.out.1, by rw [HST.out], by go_num, by rw [HST.out]; exact (HINV.out _ HB10.out)⟩, by simpa [intOf] using HLE.out.2⟩
              subst hz
              have hst := ask_step HQ.out HK2.out HLG.out HCC2.out.symm
              have HST := Lib.hid (show ranTo kk l (k + 1) = ll2 by rw [HLL2.out]; exact hst.2.symm)
              have hkt : kk2 = kk := by rw [HKK2.out]; exact hst.1
              have HLN2 := Lib.hid (show ll2.length = lg.length + 1 by rw [HLL2.out, askL, if_pos HCC2.out.symm, List.length_append]; rfl)
              clear hst
              have hE := Mf.start HI.out HB10.out HFr2.out
              rw [hkt] at hE
              have HE := Lib.hid hE
              have h_N := HN10.out
              rw [hkt] at h_N
              have c_N := fun j => cell_of_row _ _ j _ _ _ h_N
              have z_N := lt_some h_N
              have c_D := fun j => cell_of_row _ _ j _ _ _ (hE.get 0 rfl)
              have z_D := hE.lt 0 rfl
              have f_D := fun j => frozen_of_row _ _ j _ _ (hE.get 0 rfl)
              clear h_N hE hkt
              go_wp2_with fail
              have HE2 := Lib.hid (HE.out.put2 0 rfl (.slice P2 kk.length c2) (.slice S2 ll2.length d2))
              exact ⟨⟨k + 1, P2, c2, S2, d2, _, _, HLE.out.1, by rw [HST.out, HLN2.out]; go_num, by go_num, by rw [HST.out]; exact HE2.out⟩, by simpa [intOf] using HLE.out.2⟩
        have e2 : q.kind ≠ 2 := hk2
        have b2 : (q.kind == 2) = false := by simpa using hk2
        have HK1 := Lib.hid (show kdQ q = 1 from if_neg e2)
        clear hk2 e2
        by_cases hz : cc1 = 0
        rotate_left
        · have b1 : (cc1 == 0) = false := by simpa using hz
          have HST := Lib.hid (show ranTo kk l (k + 1) = lg from ask_stay HQ.out HK1.out HLG.out (by rw [← HCC1.out]; exact hz))
          clear hz
          go_wp2_with fail
          exact ⟨⟨k + 1, P, cp, S, cs, _, _, HLE.out.1, by rw [HST.out], by go_num, by rw [HST.out]; exact (HINV.out _ HB8.out)⟩, by simpa [intOf] using HLE.out.2⟩
        subst hz
        have hst := ask_step HQ.out HK1.out HLG.out HCC1.out.symm
        have HST := Lib.hid (show ranTo kk l (k + 1) = ll1 by rw [HLL1.out]; exact hst.2.symm)
        have hkt : kk1 = kk := by rw [HKK1.out]; exact hst.1
        have HLN2 := Lib.hid (show ll1.length = lg.length + 1 by rw [HLL1.out, askL, if_pos HCC1.out.symm, List.length_append]; rfl)
        clear hst
        have hE := Mf.start HI.out HB8.out HFr1.out
        rw [hkt] at hE
        have HE := Lib.hid hE
        have h_N := HN8.out _ (Below.refl _ _)
        rw [hkt] at h_N
        have c_N := fun j => cell_of_row _ _ j _ _ _ h_N
        have z_N := lt_some h_N
        have c_D := fun j => cell_of_row _ _ j _ _ _ (hE.get 0 rfl)
        have z_D := hE.lt 0 rfl
        have f_D := fun j => frozen_of_row _ _ j _ _ (hE.get 0 rfl)
        clear h_N hE hkt
        go_wp2_with fail
        have HE2 := Lib.hid (HE.out.put2 0 rfl (.slice P1 kk.length c1) (.slice S1 ll1.length d1))
        exact ⟨⟨k + 1, P1, c1, S1, d1, _, _, HLE.out.1, by rw [HST.out, HLN2.out]; go_num, by go_num, by rw [HST.out]; exact HE2.out⟩, by simpa [intOf] using HLE.out.2⟩
end Go.Proofs.Ytgcbmnohhbcfiaa
