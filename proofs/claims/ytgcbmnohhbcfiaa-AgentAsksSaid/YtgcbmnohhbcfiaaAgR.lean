/- Meetings are opened, asked and run. -/
import Derived.Test.YtgcbmnohhbcfiaaAgM
import Derived.Test.YtgcbmnohhbcfiaaAgC
namespace Go.Proofs.Ytgcbmnohhbcfiaa
open Go.RowKit Go.Deep
set_option linter.unusedVariables false
set_option linter.unusedSimpArgs false

theorem own_mono {B B' : Nat} {w : World} {e : TypeId} {v : Value} {n size : Nat} {xs : List Value} (h : w.ownsRow B e size v n xs) (hB : B' ≤ B) : w.ownsRow B' e size v n xs :=
  ⟨h.1, h.2.imp id (fun ⟨g, cap, cur, e, hg, r⟩ => ⟨g, cap, cur, e, Nat.le_trans hB hg, r⟩)⟩
/-- Boxes of the caller's, and a meeting that was made since. -/
theorem MtOwn.join {w w1 W : World} {va vl : Value} {m : Mt} {L L' : List (Nat × Obj)} (hx : Mx w L [] w1) (h : MtOwn w1 va vl m L' W) : MtOwn w va vl m (L' ++ L) W := by
  obtain ⟨⟨xs, hm⟩, hw⟩ := h
  have hb := hm.below
  have k := hx.next hb
  refine ⟨⟨xs, ⟨⟨⟨bcall hx.below hx.below.size hb, fun r hr => ?_, ?_, fun r hr => ?_⟩, fun r hr => own_mono (hm.mx.own r hr) hx.below.size, fun r hr g hg hm' => ?_, hm.mx.nd⟩, fun V a b => hm.sep V a (fun g h1 h2 hx' => b g (Nat.le_trans hx.below.size h1) h2 (fun hm' => ?_))⟩⟩, hw⟩
  · rcases List.mem_append.1 hr with u | u
    · exact Nat.le_trans hx.below.size (hm.mx.bx.own r u)
    · exact hx.bx.own r u
  · rw [List.map_append, List.nodup_append]
    refine ⟨hm.mx.bx.nd, hx.bx.nd, fun a ha b hb' e => ?_⟩
    obtain ⟨p, hp, rfl⟩ := List.mem_map.1 ha
    obtain ⟨q, hq, rfl⟩ := List.mem_map.1 hb'
    have h1 := hm.mx.bx.own p hp
    have h2 := lt_some (hx.bx.at_ q hq)
    omega
  · rcases List.mem_append.1 hr with u | u
    · exact hm.mx.bx.at_ r u
    · exact k.bx.at_ r u
  · rw [List.map_append] at hm'
    rcases List.mem_append.1 hm' with u | u
    · exact hm.mx.apart r hr g hg u
    · obtain ⟨q, hq, e⟩ := List.mem_map.1 u
      have h1 := (own_ge' (hm.mx.own r hr) g hg).1
      have h2 := lt_some (hx.bx.at_ q hq)
      omega
  · rcases List.mem_append.1 hm' with u | u
    · rw [List.map_append] at u
      rcases List.mem_append.1 u with u | u
      · exact hx' (List.mem_append_left _ u)
      · obtain ⟨q, hq, e⟩ := List.mem_map.1 u
        have h2 := lt_some (hx.bx.at_ q hq)
        omega
    · exact hx' (List.mem_append_right _ u)
/-- No meeting. -/
theorem MtOwn.zero_ {w W : World} {L : List (Nat × Obj)} (h : Mx w L [] W) : MtOwn w (.slice none 0 0) (.slice none 0 0) Mt.none_ [] W :=
  ⟨⟨[], (((Ms.of_mx h (fun V => Lay.nil kAcU V)).nil 84 8).nil 116 8).subl (List.nil_sublist _)⟩, fun q hq => by simp [Mt.none_] at hq⟩
theorem MtOwn.put2 {w W : World} {va vl : Value} {m : Mt} {L : List (Nat × Obj)} (h : MtOwn w va vl m L W) (i : Nat) {g : Nat} {x y : Value} {t : TypeId} (hi : L[i]? = some (g, .cells #[x, y] t)) (a c : Value) : MtOwn w va vl m (L.set i (g, .cells #[a, c] t)) ((W.setCell ⟨g, 0, none⟩ a).setCell ⟨g, 1, none⟩ c) := ⟨h.ms.imp (fun _ k => k.put2 i hi a c), h.wf⟩
theorem MtOwn.get {w W : World} {va vl : Value} {m : Mt} {L : List (Nat × Obj)} (h : MtOwn w va vl m L W) (i : Nat) {p : Nat × Obj} (hi : L[i]? = some p) : W.heap[p.1]? = some p.2 := h.ms.elim (fun _ k => k.get i hi)
theorem MtOwn.lt {w W : World} {va vl : Value} {m : Mt} {L : List (Nat × Obj)} (h : MtOwn w va vl m L W) (i : Nat) {p : Nat × Obj} (hi : L[i]? = some p) : p.1 < W.heap.size := h.ms.elim (fun _ k => k.lt i hi)
theorem MtOwn.new {w W : World} {va vl : Value} {m : Mt} {L : List (Nat × Obj)} (h : MtOwn w va vl m L W) {g : Nat} (hg : g = W.heap.size) (o : Obj) : MtOwn w va vl m ((g, o) :: L) (W.alloc o) := ⟨h.ms.imp (fun _ k => k.new hg o), h.wf⟩
theorem MtOwn.put {w W : World} {va vl : Value} {m : Mt} {L : List (Nat × Obj)} (h : MtOwn w va vl m L W) (i : Nat) {g : Nat} {r0 : Rt} (hi : L[i]? = some (g, rB r0)) (r : Rt) : MtOwn w va vl m (L.set i (g, rB r)) ((W.setCell ⟨g, 0, none⟩ (.int .i64 r.n)).setCell ⟨g, 1, none⟩ (.int .i64 r.d)) := h.put2 i hi _ _
/-- The meeting of actors that was opened. -/
def openM (acs : List Ac) : Mt := if meetC acs [] = 0 then ⟨acs, []⟩ else Mt.none_
/-- What opening leaves. -/
def MopenRes (acs : List Ac) (w : World) (e : Ending) (w' : World) : Prop := ∃ va vl, e = .returned (.tuple #[.agg #[va, vl], .int .i64 (meetC acs [])]) ∧ MtOwn w va vl (openM acs) [] w'
/-- What a run leaves. -/
def MrunRes (m : Mt) (l : List Qy) (w : World) (e : Ending) (w' : World) : Prop := ∃ va vl, e = .returned (.tuple #[.agg #[va, vl], .int .i64 (m.rN l : Nat), .int .i64 (m.rC l)]) ∧ MtOwn w va vl (m.rM l) [] w'
/-- What one question leaves. -/
def MaskedRes (m : Mt) (q : Qy) (w : World) (e : Ending) (w' : World) : Prop := ∃ va vl, e = .returned (.tuple #[.agg #[va, vl], rV (m.aR q), .int .i64 (m.aC q)]) ∧ MtOwn w va vl (m.aM q) [] w'
set_option maxRecDepth 100000 in
set_option maxHeartbeats 16000000 in
theorem mopen_any (acs : List Ac) (S : Option Addr) (s : Nat) (w : World) (h : AsIn w.heap.size w S s acs) :
    Calls Try.prog 63 #[.slice S acs.length s] w (MopenRes acs w) := by
  have HC := Lib.hid (fun (W : World) (hW : Below w.heap.size w W) => mcheck_any acs S s [] none 0 W (h.next hW) (RIn.nil _ _))
  have HB := Lib.hid (fun (hc : meetC acs [] = 0) (W : World) (hW : Below w.heap.size w W) => begin_any acs S s [] none 0 W (h.next hW) (RIn.nil _ _) (MeetOk.small (meetC_zero.1 hc)))
  have hM0 : Mx w [(w.heap.size, .cells #[.slice none 0 0, .slice none 0 0] 61)] [] (w.alloc (.cells #[.slice none 0 0, .slice none 0 0] 61)) := (Mx.of_bx (Bx.start w)).new rfl _
  have hm := Nat.le_trans h.len h.cap
  clear h
  obtain ⟨code, hco⟩ : ∃ x, x = meetC acs [] := ⟨_, rfl⟩
  rw [← hco] at HC HB
  have HCO := Lib.hid hco
  have HO := Lib.hid (show openM acs = (if code = 0 then ⟨acs, []⟩ else Mt.none_) by rw [hco]; rfl)
  clear hco hm
  go_enter Try.func63, Try.ntmps63
  go_upto_region 2 with fail
  have hM1 := hM0.new (g := w.heap.size + 1) (by simp) (.cells #[.slice S acs.length s, .slice none 0 0] 61)
  clear hM0
  generalize hw0 : (w.alloc (.cells #[.slice none 0 0, .slice none 0 0] 61)).alloc (.cells #[.slice S acs.length s, .slice none 0 0] 61) = w0 at *
  clear hw0
  generalize w.heap.size + 1 = gM at *
  have c_m := fun j => cell_of_row _ _ j _ _ _ (hM1.get 0 rfl)
  have z_m := hM1.lt 0 rfl
  go_wp2_with fail
  refine (HC.out _ hM1.below).mono ?_
  rintro e w2 ⟨rfl, hb⟩
  have hB2 := hM1.next hb
  clear c_m z_m hb hM1
  clear HC
  by_cases hc : code = 0
  rotate_left
  · have b1 : (code != 0) = true := by simpa using hc
    rw [if_neg hc] at HO
    clear hc HB
    have c_r := fun j => cell_of_row _ _ j _ _ _ (hB2.get 1 rfl)
    have z_r := hB2.lt 1 rfl
    have f_r := fun j => frozen_of_row _ _ j _ _ (hB2.get 1 rfl)
    go_wp2_with fail
    have hE := hB2.put2 1 rfl (.slice none 0 0) (.slice none 0 0)
    clear c_r z_r f_r hB2
    generalize (w2.setCell _ _).setCell _ _ = wE at *
    have c_r := fun j => cell_of_row _ _ j _ _ _ (hE.get 1 rfl)
    have z_r := hE.lt 1 rfl
    refine bodyPost_ret (v := .tuple #[.agg #[.slice none 0 0, .slice none 0 0], .int .i64 code]) (by simp [results, Try.results63, go_sem, c_r, z_r]) rfl ?_
    exact ⟨_, _, by rw [HCO.out], by rw [HO.out]; exact MtOwn.zero_ hE⟩
  subst hc
  rw [if_pos rfl] at HO
  have HB2 := Lib.hid (HB.out rfl)
  clear HB
  have c_m := fun j => cell_of_row _ _ j _ _ _ (hB2.get 0 rfl)
  have z_m := hB2.lt 0 rfl
  go_wp2_with fail
  refine (HB2.out _ hB2.below).mono ?_
  rintro e w2 ⟨g, va, vl, rfl, hMt⟩
  obtain ⟨P, cp, S2, cs2, rfl, rfl, _⟩ := hMt.fresh
  have hJ : MtOwn w (.slice P acs.length cp) (.slice S2 ([] : List Qy).length cs2) ⟨acs, []⟩ [(g, .cells #[.slice P acs.length cp, .slice S2 ([] : List Qy).length cs2] 147), (gM, .cells #[.slice S acs.length s, .slice none 0 0] 61), (w.heap.size, .cells #[.slice none 0 0, .slice none 0 0] 61)] w2 := MtOwn.join hB2 hMt
  clear hMt HB2
  clear c_m z_m hB2
  have c_g := fun j => cell_of_row _ _ j _ _ _ (hJ.get 0 rfl)
  have z_g := hJ.lt 0 rfl
  have c_r := fun j => cell_of_row _ _ j _ _ _ (hJ.get 2 rfl)
  have z_r := hJ.lt 2 rfl
  have f_r := fun j => frozen_of_row _ _ j _ _ (hJ.get 2 rfl)
  go_wp2_with fail
  have hE := hJ.put2 2 rfl (.slice P acs.length cp) (.slice S2 ([] : List Qy).length cs2)
  clear hJ c_g z_g c_r z_r f_r
  simp only [List.length_nil] at hE
  generalize (w2.setCell _ _).setCell _ _ = wE at *
  have c_r := fun j => cell_of_row _ _ j _ _ _ (hE.get 2 rfl)
  have z_r := hE.lt 2 rfl
  refine bodyPost_ret (v := .tuple #[.agg #[.slice P acs.length cp, .slice S2 0 cs2], .int .i64 0]) (by simp [results, Try.results63, go_sem, c_r, z_r]) rfl ?_
  exact ⟨_, _, by rw [HCO.out], by rw [HO.out]; exact hE.subl (List.nil_sublist _)⟩
set_option maxRecDepth 100000 in
set_option maxHeartbeats 32000000 in
theorem mrun_any (m : Mt) (S : Option Addr) (s : Nat) (B : Option Addr) (d : Nat) (l : List Qy) (C : Option Addr) (c : Nat) (w : World) (h : AsIn w.heap.size w S s m.acs) (hl : LgIn w.heap.size w B d m.log) (hq : LgIn w.heap.size w C c l) :
    Calls Try.prog 39 #[mV S s m.acs B d m.log, .slice C l.length c] w (MrunRes m l w) := by
  have HC := Lib.hid (fun (W : World) (hW : Below w.heap.size w W) => mcheck_any m.acs S s m.log B d W (h.next hW) (hl.next hW))
  have HB := Lib.hid (fun (hc : meetC m.acs m.log = 0) (W : World) (hW : Below w.heap.size w W) => begin_any m.acs S s m.log B d W (h.next hW) (hl.next hW) (MeetOk.small (meetC_zero.1 hc)))
  have HQ := Lib.hid (fun (W : World) (hW : Below w.heap.size w W) => hq.next hW)
  have hM0 : Mx w [(w.heap.size + 1, .cells #[.slice none 0 0, .slice none 0 0] 61), (w.heap.size, mB S s m.acs B d m.log)] [] ((w.alloc (mB S s m.acs B d m.log)).alloc (.cells #[.slice none 0 0, .slice none 0 0] 61)) := ((Mx.of_bx (Bx.start w)).new rfl _).new (by simp) _
  have hlm := Nat.le_trans hq.len hq.cap
  unfold maxLen at hlm
  clear h hl hq
  obtain ⟨code, hco⟩ : ∃ x, x = meetC m.acs m.log := ⟨_, rfl⟩
  rw [← hco] at HC HB
  have HCO := Lib.hid (show m.code = code from hco.symm)
  have HOK := Lib.hid (fun (e : code = 0) => show MtOk m from meetC_zero.1 (by rw [← hco]; exact e))
  clear hco
  go_enter Try.func39, Try.ntmps39
  go_upto_region 1 with fail
  generalize hw0 : (w.alloc (mB S s m.acs B d m.log)).alloc (.cells #[.slice none 0 0, .slice none 0 0] 61) = w0 at *
  clear hw0
  generalize w.heap.size + 1 = gR at *
  have c_m := fun j => cell_of_row _ _ j _ _ _ (hM0.get 1 rfl)
  have z_m := hM0.lt 1 rfl
  go_wp2_with fail
  refine (HC.out _ hM0.below).mono ?_
  rintro e w2 ⟨rfl, hb⟩
  have hB2 := hM0.next hb
  clear c_m z_m hb hM0
  clear HC
  by_cases hc : code = 0
  rotate_left
  · have b1 : (code != 0) = true := by simpa using hc
    have HX := Lib.hid (Mt.r_bad (m := m) (l := l) (by rw [HCO.out]; exact hc))
    clear hc HB
    have c_r := fun j => cell_of_row _ _ j _ _ _ (hB2.get 0 rfl)
    have z_r := hB2.lt 0 rfl
    have f_r := fun j => frozen_of_row _ _ j _ _ (hB2.get 0 rfl)
    go_wp2_with fail
    have hE := hB2.put2 0 rfl (.slice none 0 0) (.slice none 0 0)
    clear c_r z_r f_r hB2
    generalize (w2.setCell _ _).setCell _ _ = wE at *
    have c_r := fun j => cell_of_row _ _ j _ _ _ (hE.get 0 rfl)
    have z_r := hE.lt 0 rfl
    refine bodyPost_ret (v := .tuple #[.agg #[.slice none 0 0, .slice none 0 0], .int .i64 0, .int .i64 code]) (by simp [results, Try.results39, go_sem, c_r, z_r]) rfl ?_
    exact ⟨_, _, by rw [HX.out.1, HX.out.2.2, HCO.out]; rfl, by rw [HX.out.2.1]; exact MtOwn.zero_ hE⟩
  subst hc
  have HB2 := Lib.hid (HB.out rfl)
  have HOK2 := Lib.hid (HOK.out rfl)
  clear HB HOK
  by_cases hn : 2000 < l.length
  · have b1 : decide ((2000 : Int) < (l.length : Int)) = true := decide_eq_true (by omega)
    have HX := Lib.hid (Mt.r_many (m := m) (l := l) HCO.out hn)
    clear hn HB2
    have c_r := fun j => cell_of_row _ _ j _ _ _ (hB2.get 0 rfl)
    have z_r := hB2.lt 0 rfl
    have f_r := fun j => frozen_of_row _ _ j _ _ (hB2.get 0 rfl)
    go_wp2_with fail
    have hE := hB2.put2 0 rfl (.slice none 0 0) (.slice none 0 0)
    clear c_r z_r f_r hB2
    generalize (w2.setCell _ _).setCell _ _ = wE at *
    have c_r := fun j => cell_of_row _ _ j _ _ _ (hE.get 0 rfl)
    have z_r := hE.lt 0 rfl
    refine bodyPost_ret (v := .tuple #[.agg #[.slice none 0 0, .slice none 0 0], .int .i64 0, .int .i64 4]) (by simp [results, Try.results39, go_sem, c_r, z_r]) rfl ?_
    exact ⟨_, _, by rw [HX.out.1, HX.out.2.2]; rfl, by rw [HX.out.2.1]; exact MtOwn.zero_ hE⟩
  have b1 : decide ((2000 : Int) < (l.length : Int)) = false := decide_eq_false (by omega)
  have HX := Lib.hid (Mt.r_run (m := m) (l := l) HCO.out (by omega))
  clear hn
  have c_m := fun j => cell_of_row _ _ j _ _ _ (hB2.get 1 rfl)
  have z_m := hB2.lt 1 rfl
  go_wp2_with fail
  refine (HB2.out _ hB2.below).mono ?_
  rintro e wg ⟨g, va, vl, rfl, hMt⟩
  have HM1 := Lib.hid hB2
  have hMt0 : MtOwn w2 va vl m [(g, .cells #[va, vl] 147)] wg := hMt
  clear HB2 hMt
  clear c_m z_m hB2 b1
  go_wp2_with fail
  go_loopw [30] (fun s30 wr => ∃ (k : Nat) (m' : Mt) (va vl : Value), k ≤ l.length ∧ s30 = .int .i64 k ∧ Hid (Runs m l m' k) ∧ Hid (MtOk m') ∧ MtOwn w2 va vl m' [(g, .cells #[va, vl] 147)] wr) (fun s30 _ => l.length - (intOf s30).toNat)
  case atStart => exact ⟨0, m, va, vl, Nat.zero_le _, rfl, Runs.start _ _, HOK2.out, hMt0⟩
  case round =>
    clear hMt0
    obtain ⟨k, m', va, vl, hk, rfl, hrun, hok, hMt⟩ := hrel
    obtain ⟨P, cp, S2, cs2, rfl, rfl, _⟩ := hMt.fresh
    by_cases hlt : k < l.length
    rotate_left
    · obtain rfl : k = l.length := by omega
      have HR := Lib.hid hrun.out.done
      have HMt := Lib.hid hMt
      clear hrun hok hk hlt HQ
      go_upto_region 15 with fail
      have hMt := HMt.out
      clear HMt
      have hJ : MtOwn w (.slice P m'.acs.length cp) (.slice S2 m'.log.length cs2) m' [(g, .cells #[.slice P m'.acs.length cp, .slice S2 m'.log.length cs2] 147), (gR, .cells #[.slice none 0 0, .slice none 0 0] 61), (w.heap.size, mB S s m.acs B d m.log)] _ := MtOwn.join HM1.out hMt
      clear hMt
      have c_g := fun j => cell_of_row _ _ j _ _ _ (hJ.get 0 rfl)
      have z_g := hJ.lt 0 rfl
      have c_r := fun j => cell_of_row _ _ j _ _ _ (hJ.get 1 rfl)
      have z_r := hJ.lt 1 rfl
      have f_r := fun j => frozen_of_row _ _ j _ _ (hJ.get 1 rfl)
      go_wp2_with fail
      have hE := hJ.put2 1 rfl (.slice P m'.acs.length cp) (.slice S2 m'.log.length cs2)
      clear hJ c_g z_g c_r z_r f_r
      generalize (World.setCell _ _ _).setCell _ _ = wE at *
      have c_r := fun j => cell_of_row _ _ j _ _ _ (hE.get 1 rfl)
      have z_r := hE.lt 1 rfl
      refine bodyPost_ret (v := .tuple #[.agg #[.slice P m'.acs.length cp, .slice S2 m'.log.length cs2], .int .i64 (l.length : Int), .int .i64 0]) (by simp [results, Try.results39, go_sem, c_r, z_r]) rfl ?_
      exact ⟨_, _, by rw [HX.out.1, HX.out.2.2, HR.out.2.2, HR.out.2.1], by rw [HX.out.2.1, HR.out.1]; exact hE.subl (List.nil_sublist _)⟩
    obtain ⟨q, hqk⟩ : ∃ q, l[k]? = some q := ⟨_, List.getElem?_eq_getElem hlt⟩
    have hbW := bcall HM1.out.below HM1.out.below.size hMt.below
    obtain ⟨ad, rfl, hb, hwq, c0, c1, c2, c3, c4, c5, c6, c7⟩ := (HQ.out _ hbW).query hqk
    obtain ⟨z1, z2, z3, z4⟩ := idx_facts hlt hlm
    have HLE := Lib.hid (And.intro (Nat.succ_le_of_lt hlt) (Nat.sub_lt_sub_left hlt (Nat.lt_succ_self k)))
    have HK := Lib.hid hqk
    have hM2 := hMt.new rfl (qB q)
    have c_q := fun j => cell_of_row _ _ j _ _ _ (hM2.get 0 rfl)
    have z_q := hM2.lt 0 rfl
    obtain ⟨rr, hrr⟩ : ∃ x, x = m'.res q := ⟨_, rfl⟩
    obtain ⟨er, her⟩ : ∃ x, x = m'.err q := ⟨_, rfl⟩
    have HA := Lib.hid (mask_any m' q hwq hok.out w2 g (.slice P m'.acs.length cp) (.slice S2 m'.log.length cs2) _ (hM2.subl (List.sublist_cons_self _ _)))
    unfold MaskRes at HA
    rw [← hrr, ← her] at HA
    have HER := Lib.hid her
    clear hM2 hMt hqk hwq hk hlt hbW HQ her hrr
    go_wp2_with fail
    refine HA.out.mono ?_
    rintro e w5 ⟨va, vl, rfl, hMt⟩
    clear HA c_q z_q c0 c1 c2 c3 c4 c5 c6 c7 hb
    by_cases he : er = 0
    rotate_left
    · have b2 : (er != 0) = true := by simpa using he
      have HR := Lib.hid (hrun.out.stop HK.out (by rw [← HER.out]; exact he))
      rw [← HER.out] at HR
      rw [show m'.next q = m' from if_neg (by rw [← HER.out]; exact he)] at hMt
      obtain ⟨P, cp, S2, cs2, rfl, rfl, _⟩ := hMt.fresh
      clear he hrun hok
      go_upto_region 12 with fail
      have hM3 := (hMt.new rfl (rB rr)).subl (List.sublist_cons_self _ _)
      clear hMt
      generalize w5.alloc _ = w6 at *
      have HMt := Lib.hid hM3
      clear hM3
      go_upto_region 13 with fail
      have hMt := HMt.out
      clear HMt
      have hJ : MtOwn w (.slice P m'.acs.length cp) (.slice S2 m'.log.length cs2) m' [(g, .cells #[.slice P m'.acs.length cp, .slice S2 m'.log.length cs2] 147), (gR, .cells #[.slice none 0 0, .slice none 0 0] 61), (w.heap.size, mB S s m.acs B d m.log)] _ := MtOwn.join HM1.out hMt
      clear hMt
      have c_g := fun j => cell_of_row _ _ j _ _ _ (hJ.get 0 rfl)
      have z_g := hJ.lt 0 rfl
      have c_r := fun j => cell_of_row _ _ j _ _ _ (hJ.get 1 rfl)
      have z_r := hJ.lt 1 rfl
      have f_r := fun j => frozen_of_row _ _ j _ _ (hJ.get 1 rfl)
      go_wp2_with fail
      have hE := hJ.put2 1 rfl (.slice P m'.acs.length cp) (.slice S2 m'.log.length cs2)
      clear hJ c_g z_g c_r z_r f_r
      generalize (World.setCell _ _ _).setCell _ _ = wE at *
      have c_r := fun j => cell_of_row _ _ j _ _ _ (hE.get 1 rfl)
      have z_r := hE.lt 1 rfl
      refine bodyPost_ret (v := .tuple #[.agg #[.slice P m'.acs.length cp, .slice S2 m'.log.length cs2], .int .i64 (k : Int), .int .i64 er]) (by simp [results, Try.results39, go_sem, c_r, z_r]) rfl ?_
      exact ⟨_, _, by rw [HX.out.1, HX.out.2.2, HR.out.2.2, HR.out.2.1], by rw [HX.out.2.1, HR.out.1]; exact hE.subl (List.nil_sublist _)⟩
    subst he
    have hst := HER.out.symm
    have HRN := Lib.hid (hrun.out.step HK.out hst)
    have HON := Lib.hid (hok.out.step hst)
    rw [show m'.next q = m'.step q from if_pos hst] at hMt
    obtain ⟨P, cp, S2, cs2, rfl, rfl, _⟩ := hMt.fresh
    clear hst hrun hok
    go_upto_region 12 with fail
    have hM3 := (hMt.new rfl (rB rr)).subl (List.sublist_cons_self _ _)
    clear hMt
    generalize w5.alloc _ = w6 at *
    have HMt := Lib.hid hM3
    clear hM3
    go_wp2_with fail
    exact ⟨⟨k + 1, m'.step q, _, _, HLE.out.1, by go_num, HRN.out, HON.out, HMt.out⟩, by simpa [intOf] using HLE.out.2⟩
theorem Mt.a_bad {m : Mt} {q : Qy} (h : m.code ≠ 0) : m.aC q = m.code ∧ m.aM q = Mt.none_ ∧ m.aR q = ⟨0, 0⟩ := by
  have e : m.aC q = m.code := if_pos h
  exact ⟨e, if_neg (by rw [e]; exact h), if_neg (by rw [e]; exact h)⟩
theorem Mt.a_no {m : Mt} {q : Qy} (h : m.code = 0) (k : m.err q ≠ 0) : m.aC q = m.err q ∧ m.aM q = Mt.none_ ∧ m.aR q = ⟨0, 0⟩ := by
  have e : m.aC q = m.err q := if_neg (by omega)
  exact ⟨e, if_neg (by rw [e]; exact k), if_neg (by rw [e]; exact k)⟩
theorem Mt.a_yes {m : Mt} {q : Qy} (h : m.code = 0) (k : m.err q = 0) : m.aC q = 0 ∧ m.aM q = m.step q ∧ m.aR q = m.ans q := by
  have e : m.aC q = 0 := by rw [show m.aC q = m.err q from if_neg (by omega)]; exact k
  exact ⟨e, if_pos e, if_pos e⟩
set_option maxRecDepth 100000 in
set_option maxHeartbeats 32000000 in
theorem masked_any (m : Mt) (q : Qy) (hq : q.wf) (hz : q.ans = ⟨0, 0⟩) (S : Option Addr) (s : Nat) (B : Option Addr) (d : Nat) (w : World) (h : AsIn w.heap.size w S s m.acs) (hl : LgIn w.heap.size w B d m.log) :
    Calls Try.prog 65 #[mV S s m.acs B d m.log, .int .i64 q.agent, .int .u8 q.kind, rV q.a, rV q.b] w (MaskedRes m q w) := by
  have HC := Lib.hid (fun (W : World) (hW : Below w.heap.size w W) => mcheck_any m.acs S s m.log B d W (h.next hW) (hl.next hW))
  have HB := Lib.hid (fun (hc : meetC m.acs m.log = 0) (W : World) (hW : Below w.heap.size w W) => begin_any m.acs S s m.log B d W (h.next hW) (hl.next hW) (MeetOk.small (meetC_zero.1 hc)))
  have hM0 : Mx w [(w.heap.size + 1 + 1 + 1 + 1, rB ⟨0, 0⟩), (w.heap.size + 1 + 1 + 1, .cells #[.slice none 0 0, .slice none 0 0] 61), (w.heap.size + 1 + 1, rB q.b), (w.heap.size + 1, rB q.a), (w.heap.size, mB S s m.acs B d m.log)] [] (((((w.alloc (mB S s m.acs B d m.log)).alloc (rB q.a)).alloc (rB q.b)).alloc (.cells #[.slice none 0 0, .slice none 0 0] 61)).alloc (rB ⟨0, 0⟩)) := (((((Mx.of_bx (Bx.start w)).new rfl _).new (by simp) _).new (by simp) _).new (by simp) _).new (by simp) _
  clear h hl
  obtain ⟨code, hco⟩ : ∃ x, x = meetC m.acs m.log := ⟨_, rfl⟩
  rw [← hco] at HC HB
  have HCO := Lib.hid (show m.code = code from hco.symm)
  have HOK := Lib.hid (fun (e : code = 0) => show MtOk m from meetC_zero.1 (by rw [← hco]; exact e))
  have HQ := Lib.hid hq
  have HZ := Lib.hid hz
  clear hco hq hz
  go_enter Try.func65, Try.ntmps65
  go_upto_region 1 with fail
  generalize hw0 : ((((w.alloc (mB S s m.acs B d m.log)).alloc (rB q.a)).alloc (rB q.b)).alloc (.cells #[.slice none 0 0, .slice none 0 0] 61)).alloc (rB ⟨0, 0⟩) = w0 at *
  clear hw0
  generalize w.heap.size + 1 + 1 + 1 + 1 = gV at *
  generalize w.heap.size + 1 + 1 + 1 = gR at *
  generalize w.heap.size + 1 + 1 = gB at *
  generalize w.heap.size + 1 = gA at *
  have c_m := fun j => cell_of_row _ _ j _ _ _ (hM0.get 4 rfl)
  have z_m := hM0.lt 4 rfl
  go_wp2_with fail
  refine (HC.out _ hM0.below).mono ?_
  rintro e w2 ⟨rfl, hb⟩
  have hB2 := hM0.next hb
  clear c_m z_m hb hM0
  clear HC
  by_cases hc : code = 0
  rotate_left
  · have b1 : (code != 0) = true := by simpa using hc
    have HX := Lib.hid (Mt.a_bad (m := m) (q := q) (by rw [HCO.out]; exact hc))
    clear hc HB
    have c_v := fun j => cell_of_row _ _ j _ _ _ (hB2.get 0 rfl)
    have z_v := hB2.lt 0 rfl
    have f_v := fun j => frozen_of_row _ _ j _ _ (hB2.get 0 rfl)
    have c_r := fun j => cell_of_row _ _ j _ _ _ (hB2.get 1 rfl)
    have z_r := hB2.lt 1 rfl
    have f_r := fun j => frozen_of_row _ _ j _ _ (hB2.get 1 rfl)
    have n_rv := hB2.bx.ne 1 0 rfl rfl (by decide)
    have n_vr := hB2.bx.ne 0 1 rfl rfl (by decide)
    simp only at n_rv n_vr
    go_wp2_with fail
    have hE := (hB2.put2 1 rfl (.slice none 0 0) (.slice none 0 0)).put 0 rfl ⟨0, 0⟩
    clear c_v z_v f_v c_r z_r f_r hB2
    generalize (((World.setCell _ _ _).setCell _ _).setCell _ _).setCell _ _ = wE at *
    have c_r := fun j => cell_of_row _ _ j _ _ _ (hE.get 1 rfl)
    have z_r := hE.lt 1 rfl
    have c_v := fun j => cell_of_row _ _ j _ _ _ (hE.get 0 rfl)
    have z_v := hE.lt 0 rfl
    refine bodyPost_ret (v := .tuple #[.agg #[.slice none 0 0, .slice none 0 0], rV ⟨0, 0⟩, .int .i64 code]) (by simp [results, Try.results65, go_sem, c_r, z_r, c_v, z_v]) rfl ?_
    exact ⟨_, _, by rw [HX.out.1, HX.out.2.2, HCO.out], by rw [HX.out.2.1]; exact MtOwn.zero_ hE⟩
  subst hc
  have HB2 := Lib.hid (HB.out rfl)
  have HOK2 := Lib.hid (HOK.out rfl)
  clear HB HOK
  have c_m := fun j => cell_of_row _ _ j _ _ _ (hB2.get 4 rfl)
  have z_m := hB2.lt 4 rfl
  go_wp2_with fail
  refine (HB2.out _ hB2.below).mono ?_
  rintro e wg ⟨g, va, vl, rfl, hMt⟩
  have HM1 := Lib.hid hB2
  have hMt0 : MtOwn w2 va vl m [(g, .cells #[va, vl] 147)] wg := hMt
  have hBg := hB2.next hMt.below
  clear HB2 hMt
  clear c_m z_m hB2
  have c_b := fun j => cell_of_row _ _ j _ _ _ (hBg.get 2 rfl)
  have z_b := hBg.lt 2 rfl
  have c_a := fun j => cell_of_row _ _ j _ _ _ (hBg.get 3 rfl)
  have z_a := hBg.lt 3 rfl
  obtain ⟨rr, hrr⟩ : ∃ x, x = m.res q := ⟨_, rfl⟩
  obtain ⟨er, her⟩ : ∃ x, x = m.err q := ⟨_, rfl⟩
  have HA := Lib.hid (show Calls Try.prog 108 #[.pointer (some ⟨g, 0, none⟩), .agg #[.int .i64 q.agent, .int .u8 q.kind, .int .i64 q.a.n, .int .i64 q.a.d, .int .i64 q.b.n, .int .i64 q.b.d, .int .i64 0, .int .i64 0]] wg (fun e w' => ∃ va vl, e = .returned (.tuple #[rV rr, .int .i64 er]) ∧ MtOwn w2 va vl (m.next q) [(g, .cells #[va, vl] 147)] w') by
    have := mask_any m q HQ.out HOK2.out w2 g va vl _ hMt0
    unfold MaskRes at this
    rw [← hrr, ← her] at this
    have e1 : qV q = .agg #[.int .i64 q.agent, .int .u8 q.kind, .int .i64 q.a.n, .int .i64 q.a.d, .int .i64 q.b.n, .int .i64 q.b.d, .int .i64 0, .int .i64 0] := by show Value.agg #[_, _, _, _, _, _, _, _] = _; rw [HZ.out]
    rwa [e1] at this)
  have HER := Lib.hid her
  have HRR := Lib.hid hrr
  clear hMt0 hrr her
  go_wp2_with fail
  refine HA.out.mono ?_
  rintro e w5 ⟨va, vl, rfl, hMt⟩
  clear HA
  clear c_b z_b c_a z_a hBg
  by_cases he : er = 0
  rotate_left
  · have b2 : (er != 0) = true := by simpa using he
    have HX := Lib.hid (Mt.a_no (m := m) HCO.out (by rw [← HER.out]; exact he))
    rw [← HER.out] at HX
    clear he
    go_upto_region 6 with fail
    have hM3 := (hMt.new rfl (rB rr)).below
    clear hMt
    generalize w5.alloc _ = w6 at *
    have hB3 := HM1.out.next hM3
    clear hM3
    have c_v := fun j => cell_of_row _ _ j _ _ _ (hB3.get 0 rfl)
    have z_v := hB3.lt 0 rfl
    have f_v := fun j => frozen_of_row _ _ j _ _ (hB3.get 0 rfl)
    have c_r := fun j => cell_of_row _ _ j _ _ _ (hB3.get 1 rfl)
    have z_r := hB3.lt 1 rfl
    have f_r := fun j => frozen_of_row _ _ j _ _ (hB3.get 1 rfl)
    have n_rv := hB3.bx.ne 1 0 rfl rfl (by decide)
    have n_vr := hB3.bx.ne 0 1 rfl rfl (by decide)
    simp only at n_rv n_vr
    go_wp2_with fail
    have hE := (hB3.put2 1 rfl (.slice none 0 0) (.slice none 0 0)).put 0 rfl ⟨0, 0⟩
    clear c_v z_v f_v c_r z_r f_r hB3
    generalize (((World.setCell _ _ _).setCell _ _).setCell _ _).setCell _ _ = wE at *
    have c_r := fun j => cell_of_row _ _ j _ _ _ (hE.get 1 rfl)
    have z_r := hE.lt 1 rfl
    have c_v := fun j => cell_of_row _ _ j _ _ _ (hE.get 0 rfl)
    have z_v := hE.lt 0 rfl
    refine bodyPost_ret (v := .tuple #[.agg #[.slice none 0 0, .slice none 0 0], rV ⟨0, 0⟩, .int .i64 er]) (by simp [results, Try.results65, go_sem, c_r, z_r, c_v, z_v]) rfl ?_
    exact ⟨_, _, by rw [HX.out.1, HX.out.2.2], by rw [HX.out.2.1]; exact MtOwn.zero_ hE⟩
  subst he
  have HX := Lib.hid (Mt.a_yes (m := m) HCO.out HER.out.symm)
  rw [show m.next q = m.step q from if_pos HER.out.symm] at hMt
  have HRA := Lib.hid (show rr = m.ans q by rw [HRR.out]; exact if_pos HER.out.symm)
  obtain ⟨mm, hmm⟩ : ∃ x, x = m.step q := ⟨_, rfl⟩
  rw [← hmm] at hMt
  have HMM := Lib.hid hmm
  clear hmm
  obtain ⟨P, cp, S2, cs2, rfl, rfl, _⟩ := hMt.fresh
  go_upto_region 6 with fail
  have hM3 := hMt.new rfl (rB rr)
  clear hMt
  generalize w5.heap.size = gX at *
  generalize w5.alloc _ = w6 at *
  have hJ : MtOwn w (.slice P mm.acs.length cp) (.slice S2 mm.log.length cs2) mm [(gX, rB rr), (g, .cells #[.slice P mm.acs.length cp, .slice S2 mm.log.length cs2] 147), (gV, rB ⟨0, 0⟩), (gR, .cells #[.slice none 0 0, .slice none 0 0] 61), (gB, rB q.b), (gA, rB q.a), (w.heap.size, mB S s m.acs B d m.log)] w6 := MtOwn.join HM1.out hM3
  clear hM3
  obtain ⟨⟨xs, hms⟩, hwf⟩ := hJ
  have HWF := Lib.hid hwf
  clear hwf
  go_wp2_with fail
  refine wp_region_T (Bx w [(gX, rB rr), (g, .cells #[.slice P mm.acs.length cp, .slice S2 mm.log.length cs2] 147)]) 8 (by kernel_rfl) (by rfl) ((hms.keep (List.Sublist.cons_cons _ (List.Sublist.cons_cons _ (List.nil_sublist _)))).drew) (fun wq1 hbq => ?_)
  have hB31 := hms.next hbq
  clear hms hbq
  refine wpAnyT_go (Bx.grows _ _) (hB31.keep (List.Sublist.cons_cons _ (List.Sublist.cons_cons _ (List.nil_sublist _)))) [0, 1, 2, 3, 4] 3 (by kernel_rfl) ?_
  apply Exists.intro
  refine ⟨fun G hG hN => ?_, ?_⟩
  · have c_x := fun (e : GE (Bx w [(gX, rB rr), (g, .cells #[.slice P mm.acs.length cp, .slice S2 mm.log.length cs2] 147)]) G) j => cell_of_row e.w _ j _ _ _ ((GE.h e).get 0 rfl)
    have z_x := fun (e : GE (Bx w [(gX, rB rr), (g, .cells #[.slice P mm.acs.length cp, .slice S2 mm.log.length cs2] 147)]) G) => (GE.h e).lt 0 rfl
    have c_g := fun (e : GE (Bx w [(gX, rB rr), (g, .cells #[.slice P mm.acs.length cp, .slice S2 mm.log.length cs2] 147)]) G) j => cell_of_row e.w _ j _ _ _ ((GE.h e).get 1 rfl)
    have z_g := fun (e : GE (Bx w [(gX, rB rr), (g, .cells #[.slice P mm.acs.length cp, .slice S2 mm.log.length cs2] 147)]) G) => (GE.h e).lt 1 rfl
    simp only [pickOps, List.getElem?_toArray, List.getElem?_cons_zero, List.getElem?_cons_succ]
    repeat (first | go_big_quiet_step (fail) | quiet_step (fail))
    exact wpQuiet_nil rfl
  refine wpAnyT_all (rs := [5]) (by kernel_rfl) (by simp) (fun wa2 hwa2 hRwa2 i hi => ?_)
  have hB32 := hB31.next hwa2
  clear hB31 hwa2 hRwa2
  obtain rfl := List.mem_singleton.1 hi
  refine wpOp_step rfl (fun Kc hKc => ?_)
  have c_r := fun j => cell_of_row _ _ j _ _ _ (hB32.get 3 rfl)
  have z_r := hB32.lt 3 rfl
  have f_r := fun j => frozen_of_row _ _ j _ _ (hB32.get 3 rfl)
  go_simp
  have hB33 := hB32.put2 3 rfl (.slice P mm.acs.length cp) (.slice S2 mm.log.length cs2)
  refine hKc _ _ ⟨(hB33.keep (List.Sublist.cons_cons _ (List.Sublist.cons_cons _ (List.nil_sublist _)))), ?_⟩
  clear c_r z_r f_r hKc Kc hB32
  generalize (wa2.setCell _ _).setCell _ _ = wb3 at *
  refine wpAnyT_all (rs := [6]) (by kernel_rfl) (by simp) (fun wa4 hwa4 hRwa4 i hi => ?_)
  have hB34 := hB33.next hwa4
  clear hB33 hwa4 hRwa4
  obtain rfl := List.mem_singleton.1 hi
  refine wpOp_step rfl (fun Kc hKc => ?_)
  have c_v := fun j => cell_of_row _ _ j _ _ _ (hB34.get 2 rfl)
  have z_v := hB34.lt 2 rfl
  have f_v := fun j => frozen_of_row _ _ j _ _ (hB34.get 2 rfl)
  go_simp
  have hB35 := hB34.put2 2 rfl (.int .i64 rr.n) (.int .i64 rr.d)
  refine hKc _ _ ⟨(hB35.keep (List.Sublist.cons_cons _ (List.Sublist.cons_cons _ (List.nil_sublist _)))), ?_⟩
  clear c_v z_v f_v hKc Kc hB34
  generalize (wa4.setCell _ _).setCell _ _ = wb5 at *
  refine wpAnyT_go (Bx.grows _ _) (hB35.keep (List.Sublist.cons_cons _ (List.Sublist.cons_cons _ (List.nil_sublist _)))) [7] 0 (by kernel_rfl) ?_
  apply Exists.intro
  refine ⟨fun G hG hN => ?_, ?_⟩
  · have c_x := fun (e : GE (Bx w [(gX, rB rr), (g, .cells #[.slice P mm.acs.length cp, .slice S2 mm.log.length cs2] 147)]) G) j => cell_of_row e.w _ j _ _ _ ((GE.h e).get 0 rfl)
    have z_x := fun (e : GE (Bx w [(gX, rB rr), (g, .cells #[.slice P mm.acs.length cp, .slice S2 mm.log.length cs2] 147)]) G) => (GE.h e).lt 0 rfl
    have c_g := fun (e : GE (Bx w [(gX, rB rr), (g, .cells #[.slice P mm.acs.length cp, .slice S2 mm.log.length cs2] 147)]) G) j => cell_of_row e.w _ j _ _ _ ((GE.h e).get 1 rfl)
    have z_g := fun (e : GE (Bx w [(gX, rB rr), (g, .cells #[.slice P mm.acs.length cp, .slice S2 mm.log.length cs2] 147)]) G) => (GE.h e).lt 1 rfl
    simp only [pickOps, List.getElem?_toArray, List.getElem?_cons_zero, List.getElem?_cons_succ]
    repeat (first | go_big_quiet_step (fail) | quiet_step (fail))
    exact wpQuiet_nil rfl
  refine wpAnyT_done (by kernel_rfl) (fun wd6 hwd6 hRwd6 => ?_) _
  refine NoPanic.normal ?_
  have hB36 := hB35.next hwd6
  clear hB35 hwd6 hRwd6
  go_wp2_with fail
  have hE := hB36
  clear hB36
  have c_r := fun j => cell_of_row _ _ j _ _ _ (hE.get 3 rfl)
  have z_r := hE.lt 3 rfl
  have c_v := fun j => cell_of_row _ _ j _ _ _ (hE.get 2 rfl)
  have z_v := hE.lt 2 rfl
  refine bodyPost_ret (v := .tuple #[.agg #[.slice P mm.acs.length cp, .slice S2 mm.log.length cs2], rV rr, .int .i64 0]) (by simp [results, Try.results65, go_sem, c_r, z_r, c_v, z_v]) rfl ?_
  exact ⟨_, _, by rw [HX.out.1, HX.out.2.2, HRA.out], by rw [HX.out.2.1, ← HMM.out]; exact ⟨⟨xs, hE.subl (List.nil_sublist _)⟩, HWF.out⟩⟩
end Go.Proofs.Ytgcbmnohhbcfiaa
