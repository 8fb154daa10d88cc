/- AgentRuns returns true. -/
import Derived.Test.YtgcbmnohhbcfiaaAgY
import Derived.Test.YtgcbmnohhbcfiaaAgG0
namespace Go.Proofs.Ytgcbmnohhbcfiaa
open Go.RowKit Go.Deep
set_option linter.unusedVariables false
set_option linter.unusedSimpArgs false

theorem runs_same (l : List Qy) (A : Option Addr) (c : Nat) (B : Option Addr) (d : Nat) (w : World) (ha : LgIn w.heap.size w A c l) (hb : LgIn w.heap.size w B d l) :
    Calls Try.prog 42 #[.slice A l.length c, .slice B l.length d] w fun e w' => e = .returned (.bool true) ∧ Below w.heap.size w w' := by
  have := fsamelogs_any l l A c B d w ha hb
  rwa [show sameQ l l = true from decide_eq_true rfl] at this
set_option maxRecDepth 100000 in
set_option maxHeartbeats 32000000 in
theorem agentruns_walk (m : Mt) (S : Option Addr) (s : Nat) (B : Option Addr) (d : Nat) (l : List Qy) (C : Option Addr) (c : Nat) (who : Int) (w : World) (h : AsIn w.heap.size w S s m.acs) (hl : LgIn w.heap.size w B d m.log) (hq : LgIn w.heap.size w C c l) :
    Calls Try.prog 7 #[mV S s m.acs B d m.log, .slice C l.length c, .int .i64 who] w fun e w' => e = .returned (.bool true) ∧ Below w.heap.size w w' := by
  have HG := Lib.hid (fun (W : World) (hW : Below w.heap.size w W) => fgreatm_any m.acs S s m.log B d W (h.next hW) (Nat.le_trans hl.len hl.cap))
  have HQ := Lib.hid (fun (W : World) (hW : Below w.heap.size w W) => hq.next hW)
  obtain ⟨rm, hrm⟩ : ∃ x, x = m.rM l := ⟨_, rfl⟩
  obtain ⟨rn, hrn⟩ : ∃ x, x = m.rN l := ⟨_, rfl⟩
  obtain ⟨rc, hrc⟩ : ∃ x, x = m.rC l := ⟨_, rfl⟩
  have HR1 := Lib.hid (fun (W : World) (hW : Below w.heap.size w W) => show Calls Try.prog 39 #[mV S s m.acs B d m.log, .slice C l.length c] W (fun e w' => ∃ P cp T ct, e = .returned (.tuple #[.agg #[.slice P rm.acs.length cp, .slice T rm.log.length ct], .int .i64 (rn : Int), .int .i64 rc]) ∧ Below W.heap.size W w' ∧ Fresh W.heap.size w' (fun V => AsIn V.heap.size V P cp rm.acs ∧ LgIn V.heap.size V T ct rm.log)) by
    refine (mrun_any m S s B d l C c W (h.next hW) (hl.next hW) (hq.next hW)).mono ?_
    rintro e w' ⟨va, vl, rfl, k⟩
    rw [← hrm] at k
    obtain ⟨P, cp, T, ct, rfl, rfl, hf⟩ := k.fresh
    exact ⟨P, cp, T, ct, by rw [hrn, hrc], k.below, hf⟩)
  have HR2 := Lib.hid (fun (W : World) (hW : Below w.heap.size w W) => show Calls Try.prog 40 #[mV S s m.acs B d m.log, .slice C l.length c] W (fun e w' => ∃ P cp T ct, e = .returned (.tuple #[.agg #[.slice P rm.acs.length cp, .slice T rm.log.length ct], .int .i64 (rn : Int), .int .i64 rc]) ∧ Below W.heap.size W w' ∧ Fresh W.heap.size w' (fun V => AsIn V.heap.size V P cp rm.acs ∧ LgIn V.heap.size V T ct rm.log)) by
    rw [hrm, hrn, hrc]
    exact frun_any m S s B d l C c W (h.next hW) (hl.next hW) (hq.next hW))
  have hM0 : Ms (fun _ => True) w [(w.heap.size, mB S s m.acs B d m.log)] [] (w.alloc (mB S s m.acs B d m.log)) := Ms.of_mx ((Mx.of_bx (Bx.start w)).new rfl _) (fun _ => trivial)
  clear h hl hq hrm hrn hrc
  obtain ⟨gr, hgr⟩ : ∃ x, x = greatM m.acs m.log.length := ⟨_, rfl⟩
  rw [← hgr] at HG
  obtain ⟨bad, hbad⟩ : ∃ x, x = (gr || (decide (30 < l.length) && decide (l.length ≤ 2000)) || decide (2010 < l.length)) := ⟨_, rfl⟩
  have HBD := Lib.hid hbad
  clear hgr hbad
  go_enter Try.func7, Try.ntmps7
  try dsimp only [List.append]
  go_upto_region 1 with fail
  generalize hw0 : w.alloc (mB S s m.acs B d m.log) = w0 at *
  clear hw0
  go_cut [29] (fun s29 wx => s29 = .bool bad ∧ Ms (fun _ => True) w [(w.heap.size, mB S s m.acs B d m.log)] [] wx)
  case first =>
    have c_m := fun j => cell_of_row _ _ j _ _ _ (hM0.get 0 rfl)
    have z_m := hM0.lt 0 rfl
    go_wp2_with fail
    refine (HG.out _ hM0.below).mono ?_
    rintro e w1 ⟨rfl, hb⟩
    have hB1 := hM0.next hb
    clear c_m z_m hb hM0
    clear HG
    cases gr with
    | true =>
      have HE := Lib.hid (show bad = true by rw [HBD.out]; rfl)
      clear HBD
      have HM := Lib.hid hB1
      clear hB1
      go_wp2_with fail
      go_meet
      exact ⟨by rw [HE.out], HM.out⟩
    | false =>
    by_cases q1 : 30 < l.length
    rotate_left
    · have b1 : decide ((30 : Int) < (l.length : Int)) = false := decide_eq_false (by omega)
      have b1n : decide (30 < l.length) = false := decide_eq_false (by omega)
      have b3 : decide ((2010 : Int) < (l.length : Int)) = false := decide_eq_false (by omega)
      have b3n : decide (2010 < l.length) = false := decide_eq_false (by omega)
      have HE := Lib.hid (show bad = false by rw [HBD.out, decide_eq_false (show ¬ 30 < l.length by omega), decide_eq_false (show ¬ 2010 < l.length by omega)]; rfl)
      clear HBD q1
      have HM := Lib.hid hB1
      clear hB1
      go_wp2_with fail
      go_meet
      exact ⟨by rw [HE.out], HM.out⟩
    by_cases q2 : l.length ≤ 2000
    · have b1 : decide ((30 : Int) < (l.length : Int)) = true := decide_eq_true (by omega)
      have b1n : decide (30 < l.length) = true := decide_eq_true (by omega)
      have b2 : decide ((l.length : Int) ≤ 2000) = true := decide_eq_true (by omega)
      have b2n : decide (l.length ≤ 2000) = true := decide_eq_true (by omega)
      have HE := Lib.hid (show bad = true by rw [HBD.out, decide_eq_true q1, decide_eq_true q2]; rfl)
      clear HBD q1 q2
      have HM := Lib.hid hB1
      clear hB1
      go_wp2_with fail
      go_meet
      exact ⟨by rw [HE.out], HM.out⟩
    by_cases q3 : 2010 < l.length
    · have b1 : decide ((30 : Int) < (l.length : Int)) = true := decide_eq_true (by omega)
      have b1n : decide (30 < l.length) = true := decide_eq_true (by omega)
      have b2 : decide ((l.length : Int) ≤ 2000) = false := decide_eq_false (by omega)
      have b2n : decide (l.length ≤ 2000) = false := decide_eq_false (by omega)
      have b3 : decide ((2010 : Int) < (l.length : Int)) = true := decide_eq_true (by omega)
      have b3n : decide (2010 < l.length) = true := decide_eq_true (by omega)
      have HE := Lib.hid (show bad = true by rw [HBD.out, decide_eq_true (show 30 < l.length by omega), decide_eq_false (show ¬ l.length ≤ 2000 by omega), decide_eq_true (show 2010 < l.length by omega)]; rfl)
      clear HBD q1 q2 q3
      have HM := Lib.hid hB1
      clear hB1
      go_wp2_with fail
      go_meet
      exact ⟨by rw [HE.out], HM.out⟩
    · have b1 : decide ((30 : Int) < (l.length : Int)) = true := decide_eq_true (by omega)
      have b1n : decide (30 < l.length) = true := decide_eq_true (by omega)
      have b2 : decide ((l.length : Int) ≤ 2000) = false := decide_eq_false (by omega)
      have b2n : decide (l.length ≤ 2000) = false := decide_eq_false (by omega)
      have b3 : decide ((2010 : Int) < (l.length : Int)) = false := decide_eq_false (by omega)
      have b3n : decide (2010 < l.length) = false := decide_eq_false (by omega)
      have HE := Lib.hid (show bad = false by rw [HBD.out, decide_eq_true (show 30 < l.length by omega), decide_eq_false (show ¬ l.length ≤ 2000 by omega), decide_eq_false (show ¬ 2010 < l.length by omega)]; rfl)
      clear HBD q1 q2 q3
      have HM := Lib.hid hB1
      clear hB1
      go_wp2_with fail
      go_meet
      exact ⟨by rw [HE.out], HM.out⟩
  case rest =>
    obtain ⟨rfl, hMc⟩ := hcut
    clear hM0 HG
    cases bad with
    | true =>
      have HE := Lib.hid hMc.below
      clear hMc HBD
      go_wp2_with fail
      go_ret
      exact ⟨rfl, HE.out⟩
    | false =>
    have HLN := Lib.hid (show l.length ≤ 3000 by
      rcases Nat.lt_or_ge 2010 l.length with q | q
      · have e := HBD.out
        rw [decide_eq_true q, Bool.or_true] at e
        cases e
      · omega)
    clear HBD
    have c_m := fun j => cell_of_row _ _ j _ _ _ (hMc.get 0 rfl)
    have z_m := hMc.lt 0 rfl
    go_wp2_with fail
    refine (HR1.out _ hMc.below).mono ?_
    rintro e w21 ⟨P3, p3, T3, t3, rfl, hb, hF⟩
    have hB21 := hMc.call hb hF
    clear c_m z_m hb hF hMc HR1
    go_upto_region 4 with fail
    have hB22 := hB21.new (g := w21.heap.size) rfl (.cells #[.slice P3 rm.acs.length p3, .slice T3 rm.log.length t3] 61)
    clear hB21
    generalize w21.heap.size = gA at *
    generalize w21.alloc _ = w22 at *
    have c_m := fun j => cell_of_row _ _ j _ _ _ (hB22.get 1 rfl)
    have z_m := hB22.lt 1 rfl
    go_wp2_with fail
    refine (HR2.out _ hB22.below).mono ?_
    rintro e w23 ⟨P4, p4, T4, t4, rfl, hb, hF⟩
    have hB23 := hB22.call hb hF
    clear c_m z_m hb hF hB22 HR2
    go_upto_region 5 with fail
    have hB24 := hB23.new (g := w23.heap.size) rfl (.cells #[.slice P4 rm.acs.length p4, .slice T4 rm.log.length t4] 61)
    clear hB23
    generalize w23.heap.size = gB at *
    generalize w23.alloc _ = w24 at *
    obtain ⟨⟨_, i1, i2⟩, i3, i4⟩ := hB24.here
    have HS := Lib.hid (fmsame0_any rm.acs rm.log P3 p3 T3 t3 P4 p4 T4 t4 _ i1 i2 i3 i4)
    clear i1 i2 i3 i4
    have c_b := fun j => cell_of_row _ _ j _ _ _ (hB24.get 0 rfl)
    have z_b := hB24.lt 0 rfl
    have c_a := fun j => cell_of_row _ _ j _ _ _ (hB24.get 1 rfl)
    have z_a := hB24.lt 1 rfl
    go_wp2_with fail
    refine (HS.out).mono ?_
    rintro e w25 ⟨rfl, hb⟩
    have hB25 := hB24.next hb
    clear c_b z_b c_a z_a hb hB24
    clear HS
    go_wp2_with fail
    refine (agof_any l C c who _ (HQ.out _ hB25.below) HLN.out).mono ?_
    rintro e w26 ⟨A5, cA5, rfl, _, hLA5, hb⟩
    have hB26 := hB25.next hb
    clear hb hB25
    go_wp2_with fail
    refine (fagof_any l C c who _ (HQ.out _ hB26.below) HLN.out).mono ?_
    rintro e w27 ⟨A6, cA6, rfl, _, hLA6, hb⟩
    have hB27 := hB26.next hb
    have hLA5 := hLA5.next hb
    clear hb hB26
    have HS := Lib.hid (runs_same (ofL l who) _ _ _ _ _ hLA5 hLA6)
    clear hLA5 hLA6
    go_wp2_with fail
    refine (HS.out).mono ?_
    rintro e w28 ⟨rfl, hb⟩
    have hB28 := hB27.next hb
    clear hb hB27
    have HE := Lib.hid hB28.below
    clear hB28 HS
    go_wp2_with fail
    go_ret
    exact ⟨rfl, HE.out⟩
end Go.Proofs.Ytgcbmnohhbcfiaa
