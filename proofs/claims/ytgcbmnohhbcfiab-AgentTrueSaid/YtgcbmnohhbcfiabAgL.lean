/- The chapter's examples. -/
import Derived.Test.YtgcbmnohhbcfiabAgG
namespace Go.Proofs.Ytgcbmnohhbcfiab
open Go.RowKit Go.Deep
set_option linter.unusedVariables false
set_option linter.unusedSimpArgs false

def aQ : Qy := ⟨0, 1, ⟨0, 1⟩, ⟨1, 1⟩, ⟨0, 0⟩⟩
def aM0 : Mt := ⟨[givenA], []⟩
def aM1 : Mt := ⟨[⟨flatK 1, flatK 3, 1, 1⟩], [⟨0, 1, ⟨0, 1⟩, ⟨1, 1⟩, ⟨1, 1⟩⟩]⟩
def aM2 : Mt := ⟨[⟨flatK 1, flatK 3, 1, 2⟩], [⟨0, 1, ⟨0, 1⟩, ⟨1, 1⟩, ⟨1, 1⟩⟩, ⟨0, 1, ⟨0, 1⟩, ⟨1, 1⟩, ⟨3, 1⟩⟩]⟩
theorem bl_one {g : Nat} {W : World} {t : TypeId} {fr : Nat × Nat} {b : Bool} (h : W.heap[g]? = some (.cells #[.bool b] t fr)) : RIn kBl W.heap.size W (some ⟨g, 0, none⟩) 1 [b] := by
  refine ⟨fun i x hi => ?_, Nat.le_refl _, by unfold maxLen; omega⟩
  have h0 : i = 0 := by
    rcases Nat.eq_zero_or_pos i with q | q
    · exact q
    · rw [List.getElem?_eq_none (by simp; omega)] at hi; cases hi
  subst h0
  obtain rfl : b = x := by simpa using hi
  refine ⟨_, [.bool b], rfl, lt_some h, rfl, fun j u hu => ?_⟩
  rw [add_mk, Nat.zero_add, cell_of_row _ _ _ _ _ _ h, ← Array.getElem?_toList, Nat.zero_mul, Nat.zero_add]; exact hu
theorem aq_wf : aQ.wf := ⟨by decide, by decide, by decide, by decide, ⟨by decide, by decide, by decide, by decide⟩, ⟨by decide, by decide, by decide, by decide⟩, ⟨by decide, by decide, by decide, by decide⟩⟩
theorem a0_code : meetC aM0.acs [] = 0 := by decide +kernel
theorem a0_open : openM [givenA] = aM0 := if_pos a0_code
theorem a1_all : aM0.aC aQ = 0 ∧ aM0.ans aQ = ⟨1, 1⟩ := by decide +kernel
theorem a1_step : aM0.step aQ = aM1 := by
  unfold Mt.step; rw [a1_all.2]; rfl
theorem a2_all : aM1.aC aQ = 0 ∧ aM1.ans aQ = ⟨3, 1⟩ := by decide +kernel
theorem a2_step : aM1.step aQ = aM2 := by
  unfold Mt.step; rw [a2_all.2]; rfl
theorem a2_honest : aM2.code = 0 ∧ aM2.honest = [false] := by decide +kernel
/-- A meeting that hangs on what was made since alone. -/
def MtFr (m : Mt) (w : World) (P : Option Addr) (cp : Nat) (S : Option Addr) (cs : Nat) (w' : World) : Prop := Fresh w.heap.size w' (fun V => AsIn V.heap.size V P cp m.acs ∧ LgIn V.heap.size V S cs m.log) ∧ Below w.heap.size w w'
theorem MtOwn.fr {w W : World} {va vl : Value} {m : Mt} {L : List (Nat × Obj)} (h : MtOwn w va vl m L W) : ∃ P cp S cs, va = .slice P m.acs.length cp ∧ vl = .slice S m.log.length cs ∧ MtFr m w P cp S cs W := by
  obtain ⟨P, cp, S, cs, e1, e2, hf⟩ := h.fresh
  exact ⟨P, cp, S, cs, e1, e2, hf, h.below⟩
theorem al_open (S : Option Addr) (w : World) (h : AsIn w.heap.size w S 1 [givenA]) : Calls Try.prog 9 #[.slice S 1 1] w (fun e w' => ∃ P cp S cs, e = .returned (.tuple #[.agg #[.slice P 1 cp, .slice S 0 cs], .int .i64 0]) ∧ MtFr aM0 w P cp S cs w') := by
  refine (mopen_any [givenA] S 1 w h).mono ?_
  rintro e w' ⟨va, vl, rfl, hm⟩
  rw [a0_open] at hm
  obtain ⟨P, cp, S, cs, rfl, rfl, hf⟩ := hm.fr
  exact ⟨P, cp, S, cs, by rw [show meetC [givenA] [] = 0 from a0_code]; rfl, hf⟩
theorem al_ask1 (P : Option Addr) (cp : Nat) (S : Option Addr) (cs : Nat) (w : World) (h : AsIn w.heap.size w P cp aM0.acs ∧ LgIn w.heap.size w S cs aM0.log) : Calls Try.prog 27 #[.agg #[.slice P 1 cp, .slice S 0 cs], .int .i64 0, .int .u8 1, .agg #[.int .i64 0, .int .i64 1], .agg #[.int .i64 1, .int .i64 1]] w (fun e w' => ∃ P cp S cs, e = .returned (.tuple #[.agg #[.slice P 1 cp, .slice S 1 cs], .agg #[.int .i64 1, .int .i64 1], .int .i64 0]) ∧ MtFr aM1 w P cp S cs w') := by
  refine (masked_any aM0 aQ aq_wf rfl P cp S cs w h.1 h.2).mono ?_
  rintro e w' ⟨va, vl, rfl, hm⟩
  rw [show aM0.aM aQ = aM1 from (if_pos a1_all.1).trans a1_step] at hm
  obtain ⟨P, cp, S, cs, rfl, rfl, hf⟩ := hm.fr
  exact ⟨P, cp, S, cs, by rw [a1_all.1, show aM0.aR aQ = ⟨1, 1⟩ from (if_pos a1_all.1).trans a1_all.2]; rfl, hf⟩
theorem al_ask2 (P : Option Addr) (cp : Nat) (S : Option Addr) (cs : Nat) (w : World) (h : AsIn w.heap.size w P cp aM1.acs ∧ LgIn w.heap.size w S cs aM1.log) : Calls Try.prog 27 #[.agg #[.slice P 1 cp, .slice S 1 cs], .int .i64 0, .int .u8 1, .agg #[.int .i64 0, .int .i64 1], .agg #[.int .i64 1, .int .i64 1]] w (fun e w' => ∃ P cp S cs, e = .returned (.tuple #[.agg #[.slice P 1 cp, .slice S 2 cs], .agg #[.int .i64 3, .int .i64 1], .int .i64 0]) ∧ MtFr aM2 w P cp S cs w') := by
  refine (masked_any aM1 aQ aq_wf rfl P cp S cs w h.1 h.2).mono ?_
  rintro e w' ⟨va, vl, rfl, hm⟩
  rw [show aM1.aM aQ = aM2 from (if_pos a2_all.1).trans a2_step] at hm
  obtain ⟨P, cp, S, cs, rfl, rfl, hf⟩ := hm.fr
  exact ⟨P, cp, S, cs, by rw [a2_all.1, show aM1.aR aQ = ⟨3, 1⟩ from (if_pos a2_all.1).trans a2_all.2]; rfl, hf⟩
theorem al_honest (P : Option Addr) (cp : Nat) (S : Option Addr) (cs : Nat) (w : World) (h : AsIn w.heap.size w P cp aM2.acs ∧ LgIn w.heap.size w S cs aM2.log) : Calls Try.prog 16 #[.agg #[.slice P 1 cp, .slice S 2 cs]] w (fun e w' => ∃ A c, e = .returned (.tuple #[.slice A 1 c, .int .i64 0]) ∧ RIn kBl w'.heap.size w' A c [false] ∧ Below w.heap.size w w') := by
  refine (honest_any aM2 P cp S cs w h.1 h.2).mono ?_
  rintro e w' ⟨A, c, rfl, hr, hb⟩
  rw [a2_honest.2] at hr
  exact ⟨A, c, by rw [a2_honest.1, a2_honest.2]; rfl, hr, hb⟩
theorem agiven_any' (w : World) : Calls Try.prog 25 #[] w (fun e w' => ∃ (A : Option Addr) (c : Nat) (R : Option Addr) (d : Nat) (A' : Option Addr) (c' : Nat) (R' : Option Addr) (d' : Nat), e = .returned (.agg #[.int .i64 2, .slice A 2 c, .slice R 1 d, .int .i64 2, .slice A' 2 c', .slice R' 1 d', .int .i64 1, .int .i64 0]) ∧ Fresh w.heap.size w' (fun V => kAc.El V givenA [.int .i64 2, .slice A 2 c, .slice R 1 d, .int .i64 2, .slice A' 2 c', .slice R' 1 d', .int .i64 1, .int .i64 0]) ∧ Below w.heap.size w w') := agiven_any w
/-- The last actor's count, where it lies. -/
theorem a2_cell {P : Option Addr} {cp : Nat} {W : World} (h : AsIn W.heap.size W P cp aM2.acs) : ∃ ad, P = some ad ∧ ad.block < W.heap.size ∧ W.cell? ⟨ad.block, ad.off + 7, none⟩ = some (.int .i64 2) := by
  obtain ⟨ad, A, c, R, d, A', c', R', d', e, hb, _, _, _, hat⟩ := h.actor (i := 0) (a := ⟨flatK 1, flatK 3, 1, 2⟩) rfl
  refine ⟨ad, e, hb, ?_⟩
  have := hat.c7
  rw [Nat.zero_mul, show ad.add 0 = ad by simp [Addr.add]] at this
  exact this
set_option maxRecDepth 100000 in
set_option maxHeartbeats 32000000 in
theorem agalive_any (w : World) : Calls Try.prog 7 #[] w fun e w' => e = .returned (.bool true) ∧ Below w.heap.size w w' := by
  go_enter Try.func7, Try.ntmps7
  try dsimp only [List.append]
  go_upto_region 1 with fail
  go_wp2_with fail
  refine (agiven_any' w).mono ?_
  rintro e w1 ⟨A, c, R, d, A', c', R', d', rfl, hF, hb⟩
  have hA := as_one (heap_new (w := w1) (o := (.cells #[.int .i64 2, .slice A 2 c, .slice R 1 d, .int .i64 2, .slice A' 2 c', .slice R' 1 d', .int .i64 1, .int .i64 0] 43)) rfl) rfl (kAc.next hF.here (one_alloc w1 (.cells #[.int .i64 2, .slice A 2 c, .slice R 1 d, .int .i64 2, .slice A' 2 c', .slice R' 1 d', .int .i64 1, .int .i64 0] 43)))
  have hb1 := bcall hb hb.size (one_alloc w1 (.cells #[.int .i64 2, .slice A 2 c, .slice R 1 d, .int .i64 2, .slice A' 2 c', .slice R' 1 d', .int .i64 1, .int .i64 0] 43))
  clear hF hb
  go_wp2_with fail
  refine (al_open _ _ hA).mono ?_
  rintro e w2 ⟨P, cp, S, cs, rfl, hF, hb⟩
  have HB2 := Lib.hid (bcall hb1 hb1.size hb)
  have HF0 := Lib.hid (fun (V : World) (hV : Below w2.heap.size w2 V) => hF.ext hV)
  clear hA hb1 hF hb
  go_upto_region 2 with fail
  have hM1 : Mx w2 [(w2.heap.size, .cells #[.slice P 1 cp, .slice S 0 cs] 27)] [] (w2.alloc (.cells #[.slice P 1 cp, .slice S 0 cs] 27)) := (Mx.of_bx (Bx.start w2)).new rfl _
  obtain ⟨g1, hg1⟩ : ∃ x, x = w2.heap.size := ⟨_, rfl⟩
  rw [← hg1] at hM1 ⊢
  clear hg1
  generalize w2.alloc _ = w3 at *
  go_wp2_with fail
  refine (of_any 0 _).mono ?_
  rintro e w4 ⟨rfl, hb⟩
  have hB4 := hM1.next hb
  clear hb hM1
  go_wp2_with fail
  refine (of_any 1 _).mono ?_
  rintro e w5 ⟨rfl, hb⟩
  have hB5 := hB4.next hb
  clear hb hB4
  go_upto_region 3 with fail
  have hB6 := (hB5.new rfl (rB ⟨0, 1⟩)).new (g := w5.heap.size + 1) (by simp) (rB ⟨1, 1⟩)
  clear hB5
  generalize w5.heap.size + 1 = g4 at *
  generalize w5.heap.size = g3 at *
  generalize (World.alloc w5 _).alloc _ = w6 at *
  have c_o := fun j => cell_of_row _ _ j _ _ _ (hB6.get 0 rfl)
  have z_o := hB6.lt 0 rfl
  have c_z := fun j => cell_of_row _ _ j _ _ _ (hB6.get 1 rfl)
  have z_z := hB6.lt 1 rfl
  have c_m0 := fun j => cell_of_row _ _ j _ _ _ (hB6.get 2 rfl)
  have z_m0 := hB6.lt 2 rfl
  go_wp2_with fail
  refine (al_ask1 _ _ _ _ _ (HF0.out _ hB6.below)).mono ?_
  rintro e w7 ⟨P1, cp1, S1, cs1, rfl, hF, hb⟩
  have hB7 := hB6.next hb
  have HF1 := Lib.hid (fun (V : World) (hV : Below w7.heap.size w7 V) => hF.ext hV)
  have HW1 := Lib.hid (Below.refl w7.heap.size w7)
  clear c_o z_o c_z z_z c_m0 z_m0 hF hb hB6
  go_upto_region 4 with fail
  have HV1 := Lib.hid (show Below w7.heap.size w7 ((w7.alloc (.cells #[.slice P1 1 cp1, .slice S1 1 cs1] 27)).alloc (rB ⟨1, 1⟩)) from (one_alloc _ _).alloc (by simp) _)
  have hB8 := (hB7.new rfl (.cells #[.slice P1 1 cp1, .slice S1 1 cs1] 27)).new (g := w7.heap.size + 1) (by simp) (rB ⟨1, 1⟩)
  clear hB7
  have HG1 := Lib.hid (fun (V : World) (hV : Below ((w7.alloc (.cells #[.slice P1 1 cp1, .slice S1 1 cs1] 27)).alloc (rB ⟨1, 1⟩)).heap.size ((w7.alloc (.cells #[.slice P1 1 cp1, .slice S1 1 cs1] 27)).alloc (rB ⟨1, 1⟩)) V) => HF1.out V (bcall HV1.out HV1.out.size hV))
  clear HF1 HW1 HV1
  obtain ⟨g5, hg5⟩ : ∃ x, x = w7.heap.size := ⟨_, rfl⟩
  obtain ⟨g6, hg6⟩ : ∃ x, x = w7.heap.size + 1 := ⟨_, rfl⟩
  obtain ⟨w8, hw8⟩ : ∃ x, x = (w7.alloc (.cells #[.slice P1 1 cp1, .slice S1 1 cs1] 27)).alloc (rB ⟨1, 1⟩) := ⟨_, rfl⟩
  rw [← hw8] at HG1
  rw [← hg6, ← hg5, ← hw8] at hB8
  rw [← hw8, ← hg6, ← hg5]
  clear hg5 hg6 hw8
  clear HF0
  have HX1 := Lib.hid (Below.refl w8.heap.size w8)
  have c_m1 := fun j => cell_of_row _ _ j _ _ _ (hB8.get 1 rfl)
  have z_m1 := hB8.lt 1 rfl
  have c_o := fun j => cell_of_row _ _ j _ _ _ (hB8.get 2 rfl)
  have z_o := hB8.lt 2 rfl
  have c_z := fun j => cell_of_row _ _ j _ _ _ (hB8.get 3 rfl)
  have z_z := hB8.lt 3 rfl
  go_wp2_with fail
  refine (al_ask2 _ _ _ _ _ (HG1.out _ (Below.refl _ _))).mono ?_
  rintro e w9 ⟨P2, cp2, S2, cs2, rfl, hF, hb⟩
  have hB9 := hB8.next hb
  have HF2 := Lib.hid (fun (V : World) (hV : Below w9.heap.size w9 V) => hF.ext hV)
  have HW2 := Lib.hid (Below.refl w9.heap.size w9)
  clear c_m1 z_m1 c_o z_o c_z z_z hF hb hB8
  go_upto_region 5 with fail
  have HV2 := Lib.hid (show Below w9.heap.size w9 ((w9.alloc (.cells #[.slice P2 1 cp2, .slice S2 2 cs2] 27)).alloc (rB ⟨3, 1⟩)) from (one_alloc _ _).alloc (by simp) _)
  have hB10 := (hB9.new rfl (.cells #[.slice P2 1 cp2, .slice S2 2 cs2] 27)).new (g := w9.heap.size + 1) (by simp) (rB ⟨3, 1⟩)
  clear hB9
  have HG2 := Lib.hid (fun (V : World) (hV : Below ((w9.alloc (.cells #[.slice P2 1 cp2, .slice S2 2 cs2] 27)).alloc (rB ⟨3, 1⟩)).heap.size ((w9.alloc (.cells #[.slice P2 1 cp2, .slice S2 2 cs2] 27)).alloc (rB ⟨3, 1⟩)) V) => HF2.out V (bcall HV2.out HV2.out.size hV))
  clear HF2 HW2 HV2
  obtain ⟨g8, hg8⟩ : ∃ x, x = w9.heap.size := ⟨_, rfl⟩
  obtain ⟨g9, hg9⟩ : ∃ x, x = w9.heap.size + 1 := ⟨_, rfl⟩
  obtain ⟨w10, hw10⟩ : ∃ x, x = (w9.alloc (.cells #[.slice P2 1 cp2, .slice S2 2 cs2] 27)).alloc (rB ⟨3, 1⟩) := ⟨_, rfl⟩
  rw [← hw10] at HG2
  rw [← hg9, ← hg8, ← hw10] at hB10
  rw [← hw10, ← hg9, ← hg8]
  clear hg8 hg9 hw10
  clear HG1 HX1
  have c_m2 := fun j => cell_of_row _ _ j _ _ _ (hB10.get 1 rfl)
  have z_m2 := hB10.lt 1 rfl
  go_wp2_with fail
  refine (al_honest _ _ _ _ _ (HG2.out _ (Below.refl _ _))).mono ?_
  rintro e w11 ⟨A9, c9, rfl, hr9, hb⟩
  have hB11 := hB10.next hb
  have HG := Lib.hid (fun (V : World) (hV : Below w11.heap.size w11 V) => HG2.out V (bcall hb hb.size hV))
  have HR := Lib.hid (fun (V : World) (hV : Below w11.heap.size w11 V) => hr9.next hV)
  clear c_m2 z_m2 hb hr9 hB10 HG2
  go_upto_region 6 with fail
  have HBw := Lib.hid (bcall HB2.out HB2.out.size hB11.below)
  have HCm2 := Lib.hid (fun (V : World) (hV : Below w11.heap.size w11 V) => heap_ext (hB11.get 1 rfl) hV)
  have HCr2 := Lib.hid (fun (V : World) (hV : Below w11.heap.size w11 V) => heap_ext (hB11.get 0 rfl) hV)
  have HCr1 := Lib.hid (fun (V : World) (hV : Below w11.heap.size w11 V) => heap_ext (hB11.get 2 rfl) hV)
  have HCo := Lib.hid (fun (V : World) (hV : Below w11.heap.size w11 V) => heap_ext (hB11.get 4 rfl) hV)
  obtain ⟨ad, rfl, _, _⟩ := a2_cell (HG.out _ (Below.refl _ _)).1
  have HAD := Lib.hid (fun (V : World) (hV : Below w11.heap.size w11 V) => show ad.block < V.heap.size ∧ V.cell? ⟨ad.block, ad.off + 7, none⟩ = some (.int .i64 2) by
    obtain ⟨ae, e, h1, h2⟩ := a2_cell (HG.out V hV).1
    obtain rfl := Option.some.inj e
    exact ⟨h1, h2⟩)
  clear hB11
  clear HG
  have hX := Mx.of_bx (Bx.start w11)
  go_wp2_with fail
  refine wp_region_T (Bx w11 []) 50 (by kernel_rfl) (by rfl) ((hX.keep (List.nil_sublist _)).drew) (fun wq1 hbq => ?_)
  have hB61 := hX.next hbq
  clear hX hbq
  refine wpAnyT_go (Bx.grows _ _) (hB61.keep (List.nil_sublist _)) [0, 1, 2, 3, 4, 5, 6, 7, 8, 9, 10, 11, 12, 13, 14, 15, 16, 17, 18, 19, 20, 21, 22, 23, 24, 25, 26, 27, 28, 29, 30, 31, 32, 33, 34, 35, 36, 37, 38, 39, 40, 41, 42, 43, 44, 45] 4 (by kernel_rfl) ?_
  apply Exists.intro
  refine ⟨fun G hG hN => ?_, ?_⟩
  · have c_m2 := fun (e : GE (Bx w11 []) G) j => cell_of_row e.w _ j _ _ _ (HCm2.out e.w (GE.h e).below)
    have z_m2 := fun (e : GE (Bx w11 []) G) => lt_some (HCm2.out e.w (GE.h e).below)
    have c_r2 := fun (e : GE (Bx w11 []) G) j => cell_of_row e.w _ j _ _ _ (HCr2.out e.w (GE.h e).below)
    have z_r2 := fun (e : GE (Bx w11 []) G) => lt_some (HCr2.out e.w (GE.h e).below)
    have c_r1 := fun (e : GE (Bx w11 []) G) j => cell_of_row e.w _ j _ _ _ (HCr1.out e.w (GE.h e).below)
    have z_r1 := fun (e : GE (Bx w11 []) G) => lt_some (HCr1.out e.w (GE.h e).below)
    have c_o := fun (e : GE (Bx w11 []) G) j => cell_of_row e.w _ j _ _ _ (HCo.out e.w (GE.h e).below)
    have z_o := fun (e : GE (Bx w11 []) G) => lt_some (HCo.out e.w (GE.h e).below)
    have q_1 := fun (e : GE (Bx w11 []) G) => (HAD.out e.w (GE.h e).below).1
    have q_2 := fun (e : GE (Bx w11 []) G) => (HAD.out e.w (GE.h e).below).2
    simp only [pickOps, List.getElem?_toArray, List.getElem?_cons_zero, List.getElem?_cons_succ]
    repeat (first | go_big_quiet_step ((first | (go_at_call 26; exact calls_ge (Bx.grows _ _) hG (of_any _ _)))) | quiet_step ((first | (go_at_call 26; exact calls_ge (Bx.grows _ _) hG (of_any _ _)))))
    exact wpQuiet_nil rfl
  refine wpAnyT_all (rs := [46]) (by kernel_rfl) (by simp) (fun wa2 hwa2 hRwa2 i hi => ?_)
  have hB62 := hB61.next hwa2
  clear hB61 hwa2 hRwa2
  obtain rfl := List.mem_singleton.1 hi
  refine wpOp_step rfl (fun Kc hKc => ?_)
  go_simp
  have hB63 := hB62.new (g := wa2.heap.size) rfl (.cells #[.bool false] 4)
  refine hKc _ _ ⟨(hB63.keep (List.nil_sublist _)), ?_⟩
  clear hKc Kc hB62
  generalize wa2.heap.size = gF at *
  generalize wa2.alloc _ = wb3 at *
  refine wpAnyT_all (rs := [47]) (by kernel_rfl) (by simp) (fun wa4 hwa4 hRwa4 i hi => ?_)
  have hB64 := hB63.next hwa4
  clear hB63 hwa4 hRwa4
  obtain rfl := List.mem_singleton.1 hi
  refine wpOp_step rfl (fun Kc hKc => ?_)
  go_simp
  refine Calls.mono (samebools_any [false] A9 c9 (some ⟨gF, 0, none⟩) 1 _ (HR.out _ hB64.below) (bl_one (hB64.get 0 rfl))) ?_
  rintro e wv5 ⟨rfl, hb⟩
  have hB65 := hB64.next hb
  clear hb
  refine hKc _ _ ⟨(hB65.keep (List.nil_sublist _)), ?_⟩
  clear hKc Kc hB64
  refine wpAnyT_go (Bx.grows _ _) (hB65.keep (List.nil_sublist _)) [48, 49] 0 (by kernel_rfl) ?_
  apply Exists.intro
  refine ⟨fun G hG hN => ?_, ?_⟩
  · have c_m2 := fun (e : GE (Bx w11 []) G) j => cell_of_row e.w _ j _ _ _ (HCm2.out e.w (GE.h e).below)
    have z_m2 := fun (e : GE (Bx w11 []) G) => lt_some (HCm2.out e.w (GE.h e).below)
    have c_r2 := fun (e : GE (Bx w11 []) G) j => cell_of_row e.w _ j _ _ _ (HCr2.out e.w (GE.h e).below)
    have z_r2 := fun (e : GE (Bx w11 []) G) => lt_some (HCr2.out e.w (GE.h e).below)
    have c_r1 := fun (e : GE (Bx w11 []) G) j => cell_of_row e.w _ j _ _ _ (HCr1.out e.w (GE.h e).below)
    have z_r1 := fun (e : GE (Bx w11 []) G) => lt_some (HCr1.out e.w (GE.h e).below)
    have c_o := fun (e : GE (Bx w11 []) G) j => cell_of_row e.w _ j _ _ _ (HCo.out e.w (GE.h e).below)
    have z_o := fun (e : GE (Bx w11 []) G) => lt_some (HCo.out e.w (GE.h e).below)
    have q_1 := fun (e : GE (Bx w11 []) G) => (HAD.out e.w (GE.h e).below).1
    have q_2 := fun (e : GE (Bx w11 []) G) => (HAD.out e.w (GE.h e).below).2
    simp only [pickOps, List.getElem?_toArray, List.getElem?_cons_zero, List.getElem?_cons_succ]
    repeat (first | go_big_quiet_step ((first | (go_at_call 26; exact calls_ge (Bx.grows _ _) hG (of_any _ _)))) | quiet_step ((first | (go_at_call 26; exact calls_ge (Bx.grows _ _) hG (of_any _ _)))))
    exact wpQuiet_nil rfl
  refine wpAnyT_done (by kernel_rfl) (fun wd6 hwd6 hRwd6 => ?_) _
  refine NoPanic.normal ?_
  have hB66 := hB65.next hwd6
  clear hB65 hwd6 hRwd6
  have HE := Lib.hid (bcall HBw.out HBw.out.size hB66.below)
  clear hB66
  go_wp2_with fail
  go_ret
  exact ⟨rfl, HE.out⟩
end Go.Proofs.Ytgcbmnohhbcfiab
