/- AgentAsks returns true. -/
import Derived.Test.YtgcbmnohhbcfiaaAgSq
import Derived.Test.YtgcbmnohhbcfiaaAgZ
import Derived.Test.YtgcbmnohhbcfiaaAgG
namespace Go.Proofs.Ytgcbmnohhbcfiaa
open Go.RowKit Go.Deep
set_option linter.unusedVariables false
set_option linter.unusedSimpArgs false

theorem bools0_any (a : List Bool) (A : Option Addr) (c : Nat) (B : Option Addr) (d : Nat) (w : World) (ha : RIn kBl w.heap.size w A c a) (hb : RIn kBl w.heap.size w B d a) :
    Calls Try.prog 71 #[.slice A a.length c, .slice B a.length d] w fun e w' => e = .returned (.bool true) ∧ Below w.heap.size w w' := samebools_any a A c B d w ha hb
/-- What a call has left: a meeting, and what may be written of it. -/
def MtHas (N M : Nat) (m : Mt) (P : Option Addr) (cp : Nat) (T : Option Addr) (ct : Nat) (V : World) : Prop := (AsIn V.heap.size V P cp m.acs ∧ LgIn V.heap.size V T ct m.log) ∧ Spo N M m.acs m.log P T V
theorem MtOwn.has {w W : World} {va vl : Value} {m : Mt} {L : List (Nat × Obj)} (h : MtOwn w va vl m L W) : ∃ P cp T ct, va = .slice P m.acs.length cp ∧ vl = .slice T m.log.length ct ∧ Fresh w.heap.size W (MtHas w.heap.size W.heap.size m P cp T ct) := by
  obtain ⟨P, cp, T, ct, rfl, rfl, hf⟩ := h.fresh
  have sp := h.spo
  exact ⟨P, cp, T, ct, rfl, rfl, fun V hs hk => ⟨hf V hs hk, sp.to (fun g h1 h2 => hk g h1 h2) hs⟩⟩
set_option maxRecDepth 100000 in
set_option maxHeartbeats 64000000 in
theorem agentasks_walk (m : Mt) (S : Option Addr) (s : Nat) (B : Option Addr) (dl : Nat) (q : Qy) (hq : q.wf) (hqa : q.ans = ⟨0, 0⟩) (w : World) (h : AsIn w.heap.size w S s m.acs) (hl : LgIn w.heap.size w B dl m.log) :
    Calls Try.prog 13 #[mV S s m.acs B dl m.log, .int .i64 q.agent, .int .u8 q.kind, rV q.a, rV q.b] w fun e w' => e = .returned (.bool true) ∧ Below w.heap.size w w' := by
  have HG := Lib.hid (fun (W : World) (hW : Below w.heap.size w W) => fgreatm_any m.acs S s m.log B dl W (h.next hW) (Nat.le_trans hl.len hl.cap))
  have HH := Lib.hid (fun (W : World) (hW : Below w.heap.size w W) => And.intro (h.next hW) (hl.next hW))
  obtain ⟨oc, hoc⟩ : ∃ x, x = meetC m.acs [] := ⟨_, rfl⟩
  obtain ⟨om, hom⟩ : ∃ x, x = openM m.acs := ⟨_, rfl⟩
  obtain ⟨nm, hnm⟩ : ∃ x, x = m.aM q := ⟨_, rfl⟩
  obtain ⟨nr, hnr⟩ : ∃ x, x = m.aR q := ⟨_, rfl⟩
  obtain ⟨nc, hnc⟩ : ∃ x, x = m.aC q := ⟨_, rfl⟩
  obtain ⟨hb_, hhb⟩ : ∃ x, x = m.honest := ⟨_, rfl⟩
  obtain ⟨co, hco⟩ : ∃ x, x = m.code := ⟨_, rfl⟩
  have HO := Lib.hid (fun (W : World) (hW : Below w.heap.size w W) => show Calls Try.prog 63 #[.slice S m.acs.length s] W (fun e w' => ∃ va vl, e = .returned (.tuple #[.agg #[va, vl], .int .i64 oc]) ∧ MtOwn W va vl om [] w') by
    rw [hoc, hom]; exact mopen_any m.acs S s W (h.next hW))
  have HP := Lib.hid (fun (W : World) (hW : Below w.heap.size w W) => show Calls Try.prog 64 #[.slice S m.acs.length s] W (fun e w' => ∃ va vl, e = .returned (.tuple #[.agg #[va, vl], .int .i64 oc]) ∧ MtOwn W va vl om [] w') by
    rw [hoc, hom]; exact fmopen_any m.acs S s W (h.next hW))
  have HN := Lib.hid (fun (W : World) (hW : Below w.heap.size w W) => show Calls Try.prog 65 #[mV S s m.acs B dl m.log, .int .i64 q.agent, .int .u8 q.kind, rV q.a, rV q.b] W (fun e w' => ∃ va vl, e = .returned (.tuple #[.agg #[va, vl], rV nr, .int .i64 nc]) ∧ MtOwn W va vl nm [] w') by
    rw [hnr, hnc, hnm]; exact masked_any m q hq hqa S s B dl W (h.next hW) (hl.next hW))
  have HQ := Lib.hid (fun (W : World) (hW : Below w.heap.size w W) => show Calls Try.prog 66 #[mV S s m.acs B dl m.log, .int .i64 q.agent, .int .u8 q.kind, rV q.a, rV q.b] W (fun e w' => ∃ va vl, e = .returned (.tuple #[.agg #[va, vl], rV nr, .int .i64 nc]) ∧ MtOwn W va vl nm [] w') by
    rw [hnr, hnc, hnm]; exact fmasked_any m q hq S s B dl W (h.next hW) (hl.next hW))
  have HX := Lib.hid (fun (W : World) (hW : Below w.heap.size w W) => show Calls Try.prog 67 #[mV S s m.acs B dl m.log] W (fun e w' => ∃ A c, e = .returned (.tuple #[.slice A hb_.length c, .int .i64 co]) ∧ RIn kBl w'.heap.size w' A c hb_ ∧ Below W.heap.size W w') by
    rw [hhb, hco]; exact honest_any m S s B dl W (h.next hW) (hl.next hW))
  have HY := Lib.hid (fun (W : World) (hW : Below w.heap.size w W) => show Calls Try.prog 68 #[mV S s m.acs B dl m.log] W (fun e w' => ∃ A c, e = .returned (.tuple #[.slice A hb_.length c, .int .i64 co]) ∧ RIn kBl w'.heap.size w' A c hb_ ∧ Below W.heap.size W w') by
    rw [hhb, hco]; exact fhonest_any m S s B dl W (h.next hW) (hl.next hW))
  have HC1 := Lib.hid (fun (W : World) (hW : Below w.heap.size w W) => show Calls Try.prog 69 #[mV S s m.acs B dl m.log] W (fun e w' => e = .returned (.int .i64 co) ∧ Below W.heap.size W w') by
    rw [hco]; exact mcheck_any m.acs S s m.log B dl W (h.next hW) (hl.next hW))
  have HC2 := Lib.hid (fun (W : World) (hW : Below w.heap.size w W) => show Calls Try.prog 70 #[mV S s m.acs B dl m.log] W (fun e w' => e = .returned (.int .i64 co) ∧ Below W.heap.size W w') by
    rw [hco]; exact fmcheck_any m.acs S s m.log B dl W (h.next hW) (hl.next hW))
  have HTW := Lib.hid (fun (g : greatM m.acs m.log.length = false) (W : World) (hW : Below w.heap.size w W) => fmtwin_any m.acs S s m.log B dl W (h.next hW) (hl.next hW) (greatM_small g).1)
  have hM0 : Ms (fun _ => True) w [(w.heap.size + 1 + 1, rB q.b), (w.heap.size + 1, rB q.a), (w.heap.size, mB S s m.acs B dl m.log)] [] (((w.alloc (mB S s m.acs B dl m.log)).alloc (rB q.a)).alloc (rB q.b)) := Ms.of_mx ((((Mx.of_bx (Bx.start w)).new rfl _).new (by simp) _).new (by simp) _) (fun _ => trivial)
  clear h hl hoc hom hnm hnr hnc hhb hco hq hqa
  obtain ⟨gr, hgr⟩ : ∃ x, x = greatM m.acs m.log.length := ⟨_, rfl⟩
  rw [← hgr] at HG HTW
  clear hgr
  go_enter Try.func13, Try.ntmps13
  try dsimp only [List.append]
  go_upto_region 1 with fail
  generalize hw0 : ((w.alloc (mB S s m.acs B dl m.log)).alloc (rB q.a)).alloc (rB q.b) = w0 at *
  clear hw0
  generalize w.heap.size + 1 + 1 = gB at *
  generalize w.heap.size + 1 = gA at *
  have c_m := fun j => cell_of_row _ _ j _ _ _ (hM0.get 2 rfl)
  have z_m := hM0.lt 2 rfl
  go_wp2_with fail
  refine (HG.out _ hM0.below).mono ?_
  rintro e w1 ⟨rfl, hb⟩
  have hB1 := hM0.next hb
  clear c_m z_m hb hM0
  clear HG
  cases gr with
  | true =>
    have HE := Lib.hid hB1.below
    clear hB1
    go_wp2_with fail
    go_ret
    exact ⟨rfl, HE.out⟩
  | false =>
  have HT := Lib.hid (HTW.out rfl)
  clear HTW
  have c_m := fun j => cell_of_row _ _ j _ _ _ (hB1.get 2 rfl)
  have z_m := hB1.lt 2 rfl
  go_wp2_with fail
  refine (HT.out _ hB1.below).mono ?_
  rintro e wW ⟨va, vl, rfl, hMt⟩
  obtain ⟨Pw, cw, Tw, dw, rfl, rfl, hF⟩ := hMt.fresh
  have hW0 := hF.here
  have HWA := Lib.hid (fun (V : World) (hV : Below wW.heap.size wW V) => And.intro (hW0.1.next hV) (hW0.2.next hV))
  have hB2 := (hB1.call hMt.below hF).imp (fun V _ => True.intro)
  have hB2 : Ms (fun _ => True) w [(gB, rB q.b), (gA, rB q.a), (w.heap.size, mB S s m.acs B dl m.log)] [] wW := hB2
  have hU0 := Bx.start wW
  clear hMt hF hW0 HT
  clear c_m z_m hB1
  go_upto_region 4 with fail
  have hB3 := hB2.new (g := wW.heap.size) rfl (.cells #[.slice Pw m.acs.length cw, .slice Tw m.log.length dw] 61)
  have hU1 := (hU0.new (g := wW.heap.size) rfl (.cells #[.slice Pw m.acs.length cw, .slice Tw m.log.length dw] 61)).drop
  obtain ⟨gW, hggW⟩ : ∃ x, x = wW.heap.size := ⟨_, rfl⟩
  rw [← hggW] at hB3
  rw [← hggW]
  have EgW := Lib.hid hggW
  clear hB2 hU0 hggW
  generalize wW.alloc _ = w3 at *
  have c_m := fun j => cell_of_row _ _ j _ _ _ (hB3.get 3 rfl)
  have z_m := hB3.lt 3 rfl
  go_wp2_with fail
  refine (HO.out _ hB3.below).mono ?_
  rintro e w4 ⟨va, vl, rfl, hMt⟩
  obtain ⟨Poo, coo, Too, doo, rfl, rfl, hF⟩ := hMt.has
  obtain ⟨noo, hnoo⟩ : ∃ x, x = w3.heap.size := ⟨_, rfl⟩
  obtain ⟨moo, hmoo⟩ : ∃ x, x = w4.heap.size := ⟨_, rfl⟩
  have Noo := Lib.hid hnoo
  have Moo := Lib.hid hmoo
  have hszoo := hMt.below.size
  rw [← hnoo, ← hmoo] at hszoo
  have Zoo := Lib.hid hszoo
  have Loo_w := Lib.hid (show _ < noo by rw [hnoo]; exact hB3.lt 0 rfl)
  have Loo_m := Lib.hid (show _ < noo by rw [hnoo]; exact hB3.lt 3 rfl)
  have LUoo := Lib.hid (show wW.heap.size ≤ noo by rw [hnoo]; exact hU1.below.size)
  have LWoo := Lib.hid (show w.heap.size ≤ noo by rw [hnoo]; exact hB3.below.size)
  have hB4 := hB3.call hMt.below hF
  rw [← hnoo, ← hmoo] at hB4
  have hU2 := hU1.next hMt.below
  clear hMt hF hszoo hnoo hmoo
  clear c_m z_m hB3 hU1 HO
  go_upto_region 5 with fail
  have hB5 := hB4.new (g := w4.heap.size) rfl (.cells #[.slice Poo om.acs.length coo, .slice Too om.log.length doo] 61)
  have hU3 := (hU2.new (g := w4.heap.size) rfl (.cells #[.slice Poo om.acs.length coo, .slice Too om.log.length doo] 61)).drop
  obtain ⟨gO, hggO⟩ : ∃ x, x = w4.heap.size := ⟨_, rfl⟩
  rw [← hggO] at hB5
  rw [← hggO]
  have EgO := Lib.hid hggO
  clear hB4 hU2 hggO
  generalize w4.alloc _ = w5 at *
  have c_m := fun j => cell_of_row _ _ j _ _ _ (hB5.get 4 rfl)
  have z_m := hB5.lt 4 rfl
  go_wp2_with fail
  refine (HP.out _ hB5.below).mono ?_
  rintro e w6 ⟨va, vl, rfl, hMt⟩
  obtain ⟨Pp, cp, Tp, dp, rfl, rfl, hF⟩ := hMt.has
  obtain ⟨np, hnp⟩ : ∃ x, x = w5.heap.size := ⟨_, rfl⟩
  obtain ⟨mp, hmp⟩ : ∃ x, x = w6.heap.size := ⟨_, rfl⟩
  have Np := Lib.hid hnp
  have Mp := Lib.hid hmp
  have hszp := hMt.below.size
  rw [← hnp, ← hmp] at hszp
  have Zp := Lib.hid hszp
  have Lp_o := Lib.hid (show _ < np by rw [hnp]; exact hB5.lt 0 rfl)
  have Lp_w := Lib.hid (show _ < np by rw [hnp]; exact hB5.lt 1 rfl)
  have Lp_m := Lib.hid (show _ < np by rw [hnp]; exact hB5.lt 4 rfl)
  have LUp := Lib.hid (show wW.heap.size ≤ np by rw [hnp]; exact hU3.below.size)
  have LWp := Lib.hid (show w.heap.size ≤ np by rw [hnp]; exact hB5.below.size)
  have hB6 := hB5.call hMt.below hF
  rw [← hnp, ← hmp] at hB6
  have hU4 := hU3.next hMt.below
  clear hMt hF hszp hnp hmp
  clear c_m z_m hB5 hU3 HP
  go_upto_region 6 with fail
  have hB7 := hB6.new (g := w6.heap.size) rfl (.cells #[.slice Pp om.acs.length cp, .slice Tp om.log.length dp] 61)
  have hU5 := (hU4.new (g := w6.heap.size) rfl (.cells #[.slice Pp om.acs.length cp, .slice Tp om.log.length dp] 61)).drop
  obtain ⟨gP, hggP⟩ : ∃ x, x = w6.heap.size := ⟨_, rfl⟩
  rw [← hggP] at hB7
  rw [← hggP]
  have EgP := Lib.hid hggP
  clear hB6 hU4 hggP
  generalize w6.alloc _ = w7 at *
  have c_b := fun j => cell_of_row _ _ j _ _ _ (hB7.get 3 rfl)
  have z_b := hB7.lt 3 rfl
  have c_a := fun j => cell_of_row _ _ j _ _ _ (hB7.get 4 rfl)
  have z_a := hB7.lt 4 rfl
  have c_m := fun j => cell_of_row _ _ j _ _ _ (hB7.get 5 rfl)
  have z_m := hB7.lt 5 rfl
  go_wp2_with fail
  refine (HN.out _ hB7.below).mono ?_
  rintro e w8 ⟨va, vl, rfl, hMt⟩
  obtain ⟨Pn, cn, Tn, dn, rfl, rfl, hF⟩ := hMt.has
  obtain ⟨nn, hnn⟩ : ∃ x, x = w7.heap.size := ⟨_, rfl⟩
  obtain ⟨mn, hmn⟩ : ∃ x, x = w8.heap.size := ⟨_, rfl⟩
  have Nn := Lib.hid hnn
  have Mn := Lib.hid hmn
  have hszn := hMt.below.size
  rw [← hnn, ← hmn] at hszn
  have Zn := Lib.hid hszn
  have Ln_o := Lib.hid (show _ < nn by rw [hnn]; exact hB7.lt 1 rfl)
  have Ln_w := Lib.hid (show _ < nn by rw [hnn]; exact hB7.lt 2 rfl)
  have Ln_m := Lib.hid (show _ < nn by rw [hnn]; exact hB7.lt 5 rfl)
  have LUn := Lib.hid (show wW.heap.size ≤ nn by rw [hnn]; exact hU5.below.size)
  have LWn := Lib.hid (show w.heap.size ≤ nn by rw [hnn]; exact hB7.below.size)
  have hB8 := hB7.call hMt.below hF
  rw [← hnn, ← hmn] at hB8
  have hU6 := hU5.next hMt.below
  clear hMt hF hszn hnn hmn
  clear c_b z_b c_a z_a c_m z_m hB7 hU5 HN
  go_upto_region 7 with fail
  have hB9 := (hB8.new (g := w8.heap.size) rfl (.cells #[.slice Pn nm.acs.length cn, .slice Tn nm.log.length dn] 61)).new (g := w8.heap.size + 1) (by simp) (rB nr)
  have hU7 := ((hU6.new (g := w8.heap.size) rfl (.cells #[.slice Pn nm.acs.length cn, .slice Tn nm.log.length dn] 61)).new (g := w8.heap.size + 1) (by simp) (rB nr)).drop.drop
  obtain ⟨gV, hggV⟩ : ∃ x, x = w8.heap.size + 1 := ⟨_, rfl⟩
  rw [← hggV] at hB9
  rw [← hggV]
  clear hggV
  obtain ⟨gN, hggN⟩ : ∃ x, x = w8.heap.size := ⟨_, rfl⟩
  rw [← hggN] at hB9
  rw [← hggN]
  have EgN := Lib.hid hggN
  clear hB8 hU6 hggN
  generalize (w8.alloc _).alloc _ = w9 at *
  have c_b := fun j => cell_of_row _ _ j _ _ _ (hB9.get 5 rfl)
  have z_b := hB9.lt 5 rfl
  have c_a := fun j => cell_of_row _ _ j _ _ _ (hB9.get 6 rfl)
  have z_a := hB9.lt 6 rfl
  have c_m := fun j => cell_of_row _ _ j _ _ _ (hB9.get 7 rfl)
  have z_m := hB9.lt 7 rfl
  go_wp2_with fail
  refine (HQ.out _ hB9.below).mono ?_
  rintro e w10 ⟨va, vl, rfl, hMt⟩
  obtain ⟨Pq_, cq_, Tq_, dq_, rfl, rfl, hF⟩ := hMt.has
  obtain ⟨nq_, hnq_⟩ : ∃ x, x = w9.heap.size := ⟨_, rfl⟩
  obtain ⟨mq_, hmq_⟩ : ∃ x, x = w10.heap.size := ⟨_, rfl⟩
  have Nq_ := Lib.hid hnq_
  have Mq_ := Lib.hid hmq_
  have hszq_ := hMt.below.size
  rw [← hnq_, ← hmq_] at hszq_
  have Zq_ := Lib.hid hszq_
  have Lq__n := Lib.hid (show _ < nq_ by rw [hnq_]; exact hB9.lt 1 rfl)
  have Lq__o := Lib.hid (show _ < nq_ by rw [hnq_]; exact hB9.lt 3 rfl)
  have Lq__w := Lib.hid (show _ < nq_ by rw [hnq_]; exact hB9.lt 4 rfl)
  have Lq__m := Lib.hid (show _ < nq_ by rw [hnq_]; exact hB9.lt 7 rfl)
  have LUq_ := Lib.hid (show wW.heap.size ≤ nq_ by rw [hnq_]; exact hU7.below.size)
  have LWq_ := Lib.hid (show w.heap.size ≤ nq_ by rw [hnq_]; exact hB9.below.size)
  have hB10 := hB9.call hMt.below hF
  rw [← hnq_, ← hmq_] at hB10
  have hU8 := hU7.next hMt.below
  clear hMt hF hszq_ hnq_ hmq_
  clear c_b z_b c_a z_a c_m z_m hB9 hU7 HQ
  go_upto_region 8 with fail
  have hB11 := (hB10.new (g := w10.heap.size) rfl (.cells #[.slice Pq_ nm.acs.length cq_, .slice Tq_ nm.log.length dq_] 61)).new (g := w10.heap.size + 1) (by simp) (rB nr)
  have hU9 := ((hU8.new (g := w10.heap.size) rfl (.cells #[.slice Pq_ nm.acs.length cq_, .slice Tq_ nm.log.length dq_] 61)).new (g := w10.heap.size + 1) (by simp) (rB nr)).drop.drop
  obtain ⟨gU, hggU⟩ : ∃ x, x = w10.heap.size + 1 := ⟨_, rfl⟩
  rw [← hggU] at hB11
  rw [← hggU]
  clear hggU
  obtain ⟨gQ, hggQ⟩ : ∃ x, x = w10.heap.size := ⟨_, rfl⟩
  rw [← hggQ] at hB11
  rw [← hggQ]
  have EgQ := Lib.hid hggQ
  clear hB10 hU8 hggQ
  generalize (w10.alloc _).alloc _ = w11 at *
  have c_m := fun j => cell_of_row _ _ j _ _ _ (hB11.get 9 rfl)
  have z_m := hB11.lt 9 rfl
  go_wp2_with fail
  refine (HX.out _ hB11.below).mono ?_
  rintro e w12 ⟨Ax, kx, rfl, hxB, hb⟩
  have hB12 := hB11.next hb
  have hU10 := hU9.next hb
  clear c_m z_m hb hB11 hU9 HX
  have c_m := fun j => cell_of_row _ _ j _ _ _ (hB12.get 9 rfl)
  have z_m := hB12.lt 9 rfl
  go_wp2_with fail
  refine (HY.out _ hB12.below).mono ?_
  rintro e w13 ⟨Ay, ky, rfl, hyB, hb⟩
  have hB13 := hB12.next hb
  have hU11 := hU10.next hb
  have hxB := hxB.next hb
  clear c_m z_m hb hB12 hU10 HY
  have HB9 := Lib.hid hB13.below
  have HU9 := Lib.hid hU11.below
  have HBw := Lib.hid (fun (V : World) (hV : Below w13.heap.size w13 V) => bcall hB13.below hB13.below.size hV)
  have B_u := Lib.hid (fun (V : World) (hV : Below w13.heap.size w13 V) => heap_ext (hB13.get 0 rfl) hV)
  have B_q_ := Lib.hid (fun (V : World) (hV : Below w13.heap.size w13 V) => heap_ext (hB13.get 1 rfl) hV)
  have B_v := Lib.hid (fun (V : World) (hV : Below w13.heap.size w13 V) => heap_ext (hB13.get 2 rfl) hV)
  have B_n := Lib.hid (fun (V : World) (hV : Below w13.heap.size w13 V) => heap_ext (hB13.get 3 rfl) hV)
  have B_p := Lib.hid (fun (V : World) (hV : Below w13.heap.size w13 V) => heap_ext (hB13.get 4 rfl) hV)
  have B_o := Lib.hid (fun (V : World) (hV : Below w13.heap.size w13 V) => heap_ext (hB13.get 5 rfl) hV)
  have B_w := Lib.hid (fun (V : World) (hV : Below w13.heap.size w13 V) => heap_ext (hB13.get 6 rfl) hV)
  have B_b := Lib.hid (fun (V : World) (hV : Below w13.heap.size w13 V) => heap_ext (hB13.get 7 rfl) hV)
  have B_a := Lib.hid (fun (V : World) (hV : Below w13.heap.size w13 V) => heap_ext (hB13.get 8 rfl) hV)
  have B_m := Lib.hid (fun (V : World) (hV : Below w13.heap.size w13 V) => heap_ext (hB13.get 9 rfl) hV)
  obtain ⟨⟨⟨⟨_, ho⟩, hp⟩, hn⟩, hq_⟩ := hB13.here
  have HSo := Lib.hid ho.2
  have HSn := Lib.hid hn.2
  have HSM1 := Lib.hid (fun (V : World) (hV : Below w13.heap.size w13 V) => fmsame_any om.acs om.log Poo coo Too doo Pp cp Tp dp V (ho.1.1.next hV) (ho.1.2.next hV) (hp.1.1.next hV) (hp.1.2.next hV))
  have HSM2 := Lib.hid (fun (V : World) (hV : Below w13.heap.size w13 V) => fmsame_any nm.acs nm.log Pn cn Tn dn Pq_ cq_ Tq_ dq_ V (hn.1.1.next hV) (hn.1.2.next hV) (hq_.1.1.next hV) (hq_.1.2.next hV))
  have HSB := Lib.hid (fun (V : World) (hV : Below w13.heap.size w13 V) => bools0_any hb_ Ax kx Ay ky V (hxB.next hV) (hyB.next hV))
  have HLo := Lib.hid (And.intro (Nat.le_trans ho.1.1.len ho.1.1.cap) (Nat.le_trans ho.1.2.len ho.1.2.cap))
  have HLn := Lib.hid (And.intro (Nat.le_trans hn.1.1.len hn.1.1.cap) (Nat.le_trans hn.1.2.len hn.1.2.cap))
  clear ho hp hn hq_ hxB hyB hB13 hU11
  have h_m := B_m.out _ (Below.refl _ _)
  have c_m := fun j => cell_of_row _ _ j _ _ _ h_m
  have z_m := lt_some h_m
  clear h_m
  have h_o := B_o.out _ (Below.refl _ _)
  have c_o := fun j => cell_of_row _ _ j _ _ _ h_o
  have z_o := lt_some h_o
  clear h_o
  have h_p := B_p.out _ (Below.refl _ _)
  have c_p := fun j => cell_of_row _ _ j _ _ _ h_p
  have z_p := lt_some h_p
  clear h_p
  have h_n := B_n.out _ (Below.refl _ _)
  have c_n := fun j => cell_of_row _ _ j _ _ _ h_n
  have z_n := lt_some h_n
  clear h_n
  have h_q_ := B_q_.out _ (Below.refl _ _)
  have c_q_ := fun j => cell_of_row _ _ j _ _ _ h_q_
  have z_q_ := lt_some h_q_
  clear h_q_
  have h_v := B_v.out _ (Below.refl _ _)
  have c_v := fun j => cell_of_row _ _ j _ _ _ h_v
  have z_v := lt_some h_v
  clear h_v
  have h_u := B_u.out _ (Below.refl _ _)
  have c_u := fun j => cell_of_row _ _ j _ _ _ h_u
  have z_u := lt_some h_u
  clear h_u
  go_upto_region 10 with fail
  go_cut [114] (fun s114 wx => s114 = .bool false ∧ Below w13.heap.size w13 wx)
  case first =>
    refine wp_region_ext (by kernel_rfl) (by kernel_rfl) ?_
    iterate 12 (first | go_big_quiet_step ((first | (go_at_call 69; exact calls_ext (HC1.out _ (HBw.out _ (Ext.h _)))) | (go_at_call 70; exact calls_ext (HC2.out _ (HBw.out _ (Ext.h _)))) | (go_at_call 41; exact calls_ext (HSM1.out _ (Ext.h _))))) | quiet_step ((first | (go_at_call 69; exact calls_ext (HC1.out _ (HBw.out _ (Ext.h _)))) | (go_at_call 70; exact calls_ext (HC2.out _ (HBw.out _ (Ext.h _)))) | (go_at_call 41; exact calls_ext (HSM1.out _ (Ext.h _))))))
    repeat (first | go_big_quiet_step ((first | (go_at_call 41; exact calls_ext (HSM2.out _ (Ext.h _))) | (go_at_call 71; exact calls_ext (HSB.out _ (Ext.h _))))) | quiet_step ((first | (go_at_call 41; exact calls_ext (HSM2.out _ (Ext.h _))) | (go_at_call 71; exact calls_ext (HSB.out _ (Ext.h _))))))
    refine wpQuiet_nil ?_
    rintro _ ⟨⟨wE, hb⟩, rfl⟩
    have HE := Lib.hid hb
    clear hb
    go_wp2_with fail
    go_meet
    exact ⟨rfl, HE.out⟩
  case rest =>
    obtain ⟨rfl, hbX⟩ := hcut
    clear c_m z_m c_o z_o c_p z_p c_n z_n c_q_ z_q_ c_v z_v c_u z_u HC1 HC2 HSM1 HSM2 HSB
    generalize wc = w10 at *
    have e1 : gO = moo := EgO.out.trans Moo.out.symm
    have e2 : gN = mn := EgN.out.trans Mn.out.symm
    have l1 := Ln_o.out
    have l2 : gN < w13.heap.size := lt_some (B_n.out _ (Below.refl _ _))
    have l3 := Zn.out
    have l4 := Zoo.out
    have l5 := Loo_m.out
    have l6 := Loo_w.out
    have l7 := Ln_m.out
    have l8 := Ln_w.out
    have l9 := hbX.size
    have HLE1 := Lib.hid (show moo ≤ w10.heap.size by omega)
    have HSo2 := Lib.hid (HSo.out.to (fun g h1 h2 => hbX.block g (by omega)) hbX.size)
    have HBM := Lib.hid (show ∀ V, Keep noo moo w10 V → V.heap[w.heap.size]? = some (mB S s m.acs B dl m.log) ∧ V.heap[gW]? = some (.cells #[.slice Pw m.acs.length cw, .slice Tw m.log.length dw] 61) ∧ V.heap[gN]? = some (.cells #[.slice Pn nm.acs.length cn, .slice Tn nm.log.length dn] 61) from fun V k => ⟨(k.block _ (lt_some (B_m.out _ hbX)) (Or.inl l5)).trans (B_m.out _ hbX), (k.block _ (lt_some (B_w.out _ hbX)) (Or.inl l6)).trans (B_w.out _ hbX), (k.block _ (lt_some (B_n.out _ hbX)) (Or.inr (by omega))).trans (B_n.out _ hbX)⟩)
    have HSn2 := Lib.hid (fun (V : World) (k : Keep noo moo w10 V) => show Spo nn mn nm.acs nm.log Pn Tn V from HSn.out.to (fun g h1 h2 => (k.block g (by omega) (Or.inr (by omega))).trans (hbX.block g (by omega))) (Nat.le_trans hbX.size k.size))
    have HLE2 := Lib.hid (fun (V : World) (k : Keep noo moo w10 V) => show mn ≤ V.heap.size from Nat.le_trans (by omega) k.size)
    have HW1 := Lib.hid (fun (V : World) (k : Keep noo moo w10 V) => Below.keep (HBw.out _ hbX) k LWoo.out (HBw.out _ hbX).size)
    have HU1 := Lib.hid (fun (V : World) (k : Keep noo moo w10 V) => Below.keep (bcall HU9.out HU9.out.size hbX) k LUoo.out (bcall HU9.out HU9.out.size hbX).size)
    have HL7 := Lib.hid (And.intro l7 l8)
    have h_o := B_o.out _ hbX
    have c_o := fun j => cell_of_row _ _ j _ _ _ h_o
    have z_o := lt_some h_o
    clear h_o e1 e2 l1 l2 l3 l4 l5 l6 l7 l8 l9 hbX
    go_wp2_with fail
    refine (spoil_any om.acs om.log Poo coo Too doo noo moo w10 HLE1.out (by have := HLo.out.1; unfold maxLen at this; omega) (by have := HLo.out.2; unfold maxLen at this; omega) HSo2.out).mono ?_
    rintro e w12 ⟨rfl, hk1⟩
    have HBM2 := Lib.hid (HBM.out _ hk1)
    have HSn3 := Lib.hid (HSn2.out _ hk1)
    have HLE3 := Lib.hid (HLE2.out _ hk1)
    have HW2 := Lib.hid (HW1.out _ hk1)
    have HU2 := Lib.hid (HU1.out _ hk1)
    clear hk1 HBM HSn2 HLE2 HW1 HU1 c_o z_o
    have h_n := HBM2.out.2.2
    have c_n := fun j => cell_of_row _ _ j _ _ _ h_n
    have z_n := lt_some h_n
    clear h_n
    go_wp2_with fail
    refine (spoil_any nm.acs nm.log Pn cn Tn dn nn mn w12 HLE3.out (by have := HLn.out.1; unfold maxLen at this; omega) (by have := HLn.out.2; unfold maxLen at this; omega) HSn3.out).mono ?_
    rintro e w14 ⟨rfl, hk2⟩
    have HE1 := Lib.hid (Below.keep HW2.out hk2 LWn.out HW2.out.size)
    have HE2 := Lib.hid (Below.keep HU2.out hk2 LUn.out HU2.out.size)
    have h_m := (hk2.block _ (lt_some HBM2.out.1) (Or.inl HL7.out.1)).trans HBM2.out.1
    have c_m := fun j => cell_of_row _ _ j _ _ _ h_m
    have z_m := lt_some h_m
    have h_w := (hk2.block _ (lt_some HBM2.out.2.1) (Or.inl HL7.out.2)).trans HBM2.out.2.1
    have c_w := fun j => cell_of_row _ _ j _ _ _ h_w
    have z_w := lt_some h_w
    clear h_m h_w hk2 c_n z_n
    have HSM := Lib.hid (fmsame_any m.acs m.log S s B dl Pw cw Tw dw w14 (HH.out _ HE1.out).1 (HH.out _ HE1.out).2 (HWA.out _ HE2.out).1 (HWA.out _ HE2.out).2)
    go_wp2_with fail
    refine HSM.out.mono ?_
    rintro e w15 ⟨rfl, hb⟩
    have HE := Lib.hid (bcall HE1.out HE1.out.size hb)
    clear hb c_m z_m c_w z_w
    go_wp2_with fail
    go_ret
    exact ⟨rfl, HE.out⟩
end Go.Proofs.Ytgcbmnohhbcfiaa
