/- A meeting is run: the reference. -/
import Derived.Test.YtgcbmnohhbcfiaaAgX
namespace Go.Proofs.Ytgcbmnohhbcfiaa
open Go.RowKit Go.Deep
set_option linter.unusedVariables false
set_option linter.unusedSimpArgs false

theorem Ms.perm {F : World → Prop} {w W : World} {L M : List (Nat × Obj)} {R : List Rw} (h : Ms F w L R W) (hp : L.Perm M) : Ms F w M R W := by
  refine ⟨⟨h.mx.bx.perm hp, h.mx.own, fun r hr g hg hm => h.mx.apart r hr g hg ((hp.map _).mem_iff.2 hm), h.mx.nd⟩, h.sep.less (fun m hm => ?_)⟩
  rcases List.mem_append.1 hm with q | q
  · exact List.mem_append_left _ ((hp.map _).mem_iff.2 q)
  · exact List.mem_append_right _ q
theorem Ms.fresh {F : World → Prop} {w W : World} {L : List (Nat × Obj)} {R : List Rw} (h : Ms F w L R W) : Fresh w.heap.size W F := fun V hs hk => h.sep V hs (fun g h1 h2 _ => hk g h1 h2)
/-- What the reference's run leaves. -/
def FrunRes (m : Mt) (l : List Qy) (w : World) (e : Ending) (w' : World) : Prop := ∃ P cp S cs, e = .returned (.tuple #[.agg #[.slice P (m.rM l).acs.length cp, .slice S (m.rM l).log.length cs], .int .i64 (m.rN l : Nat), .int .i64 (m.rC l)]) ∧ Below w.heap.size w w' ∧ Fresh w.heap.size w' (fun V => AsIn V.heap.size V P cp (m.rM l).acs ∧ LgIn V.heap.size V S cs (m.rM l).log)
theorem FrunRes.mk' {m : Mt} {l : List Qy} {w w' : World} {M : Mt} {n : Nat} {c : Int} {P S : Option Addr} {cp cs : Nat} {L : List (Nat × Obj)} {R : List Rw} (h1 : m.rM l = M) (h2 : m.rN l = n) (h3 : m.rC l = c) (k : Ms (fun V => AsIn V.heap.size V P cp M.acs ∧ LgIn V.heap.size V S cs M.log) w L R w') :
    FrunRes m l w (.returned (.tuple #[.agg #[.slice P M.acs.length cp, .slice S M.log.length cs], .int .i64 (n : Int), .int .i64 c])) w' := by
  subst h1 h2 h3
  exact ⟨P, cp, S, cs, rfl, k.below, k.fresh⟩
section
variable {P : Program} {ops : Array Oper} {Q : Exit → Act → World → Prop} {R F : World → Prop}
/-- Two blocks are made, in either order. -/
theorem wpAnyT_twoS {base : World} {L : List (Nat × Obj)} {Rr : List Rw} {n M fuel : Nat} {a : Act} {W0 : World} {i j : Nat} {oi oj : Obj}
    (h0 : Ms F base L Rr W0) (hRm : ∀ W, Ms F base L Rr W → R W)
    (hB : (decide (ops.size = n) && decide (M < 2 ^ n) && decide (i < n) && decide (j < n) && decide (readyGo M (tabOf ops) 0 = [i, j]) && decide (readyGo (M ||| (1 <<< i)) (tabOf ops) 0 = [j]) && decide (readyGo (M ||| (1 <<< j)) (tabOf ops) 0 = [i])) = true)
    (hA : ∃ ai aj : Nat → Act, ∃ aij : Nat → Nat → Act,
      (∀ (g : Nat) (W : World) (K : Act → World → Prop), W.heap.size = g → K (ai g) (W.alloc oi) → wpOp P ops (NoPanic Q) i K a W) ∧
      (∀ (gi g : Nat) (W : World) (K : Act → World → Prop), W.heap.size = g → K (aij gi g) (W.alloc oj) → wpOp P ops (NoPanic Q) j K (ai gi) W) ∧
      (∀ (g : Nat) (W : World) (K : Act → World → Prop), W.heap.size = g → K (aj g) (W.alloc oj) → wpOp P ops (NoPanic Q) j K a W) ∧
      (∀ (gj g : Nat) (W : World) (K : Act → World → Prop), W.heap.size = g → K (aij g gj) (W.alloc oi) → wpOp P ops (NoPanic Q) i K (aj gj) W) ∧
      ∀ gi gj W, Ms F base ((gj, oj) :: (gi, oi) :: L) Rr W → wpAnyE P .any ops (NoPanic Q) R fuel (arrOf n ((M ||| (1 <<< i)) ||| (1 <<< j))) (aij gi gj) W) :
    wpAnyE P .any ops (NoPanic Q) R (fuel + 1 + 1) (arrOf n M) a W0 := by
  simp only [Bool.and_eq_true, decide_eq_true_eq] at hB
  obtain ⟨⟨⟨⟨⟨⟨rfl, b0⟩, bi⟩, bj⟩, r0⟩, r1⟩, r2⟩ := hB
  obtain ⟨ai, aj, aij, si, sij, sj, sji, h⟩ := hA
  have ei : (M ||| (1 <<< j)) ||| (1 <<< i) = (M ||| (1 <<< i)) ||| (1 <<< j) := by rw [Nat.or_assoc, Nat.or_assoc, Nat.or_comm (1 <<< j)]
  refine wpAnyE_all (rs := [i, j]) (by rw [ready_T b0]; exact r0) (by simp) fun W1 hW1 hR1 k hk => ?_
  have m1 := h0.next hW1
  rw [arrOf_set]
  rcases List.mem_cons.1 hk with rfl | hk
  · refine si _ W1 _ rfl ⟨hRm _ (m1.new rfl oi).drop, ?_⟩
    refine wpAnyE_all (rs := [j]) (by rw [ready_T (bit_lt b0 bi)]; exact r1) (by simp) fun W2 hW2 hR2 k2 hk2 => ?_
    obtain rfl := List.mem_singleton.1 hk2
    have m2 := (m1.new rfl oi).next hW2
    rw [arrOf_set]
    exact sij _ _ W2 _ rfl ⟨hRm _ ((m2.new rfl oj).drop).drop, h _ _ _ (m2.new rfl oj)⟩
  · obtain rfl := List.mem_singleton.1 hk
    refine sj _ W1 _ rfl ⟨hRm _ (m1.new rfl oj).drop, ?_⟩
    refine wpAnyE_all (rs := [i]) (by rw [ready_T (bit_lt b0 bj)]; exact r2) (by simp) fun W2 hW2 hR2 k2 hk2 => ?_
    obtain rfl := List.mem_singleton.1 hk2
    have m2 := (m1.new rfl oj).next hW2
    rw [arrOf_set, ei]
    exact sji _ _ W2 _ rfl ⟨hRm _ ((m2.new rfl oi).drop).drop, h _ _ _ ((m2.new rfl oi).perm (List.Perm.swap _ _ _))⟩
end
set_option maxRecDepth 100000 in
set_option maxHeartbeats 64000000 in
theorem frun_any (m : Mt) (S : Option Addr) (s : Nat) (B : Option Addr) (dl : Nat) (l : List Qy) (C : Option Addr) (c : Nat) (w : World) (h : AsIn w.heap.size w S s m.acs) (hl : LgIn w.heap.size w B dl m.log) (hq : LgIn w.heap.size w C c l) :
    Calls Try.prog 40 #[mV S s m.acs B dl m.log, .slice C l.length c] w (FrunRes m l w) := by
  have HC := Lib.hid (fun (W : World) (hW : Below w.heap.size w W) => fmcheck_any m.acs S s m.log B dl W (h.next hW) (hl.next hW))
  have HT := Lib.hid (fun (hc : meetC m.acs m.log = 0) (W : World) (hW : Below w.heap.size w W) => fmtwin_any m.acs S s m.log B dl W (h.next hW) (hl.next hW) (MeetOk.small (meetC_zero.1 hc)))
  have HQ := Lib.hid hq
  have hB0 : Bx w [(w.heap.size + 1, .cells #[.slice none 0 0, .slice none 0 0] 61), (w.heap.size, mB S s m.acs B dl m.log)] ((w.alloc (mB S s m.acs B dl m.log)).alloc (.cells #[.slice none 0 0, .slice none 0 0] 61)) := ((Bx.start w).new rfl _).new (by simp) _
  have hlm := Nat.le_trans hq.len hq.cap
  unfold maxLen at hlm
  clear h hl hq
  obtain ⟨code, hco⟩ : ∃ x, x = meetC m.acs m.log := ⟨_, rfl⟩
  rw [← hco] at HC HT
  have HCO := Lib.hid (show m.code = code from hco.symm)
  have HOK := Lib.hid (fun (e : code = 0) => show MtOk m from meetC_zero.1 (by rw [← hco]; exact e))
  clear hco
  go_enter Try.func40, Try.ntmps40
  try dsimp only [List.append]
  go_upto_region 1 with fail
  generalize hw0 : (w.alloc (mB S s m.acs B dl m.log)).alloc (.cells #[.slice none 0 0, .slice none 0 0] 61) = w0 at *
  clear hw0
  generalize w.heap.size + 1 = gR at *
  have c_m := fun j => cell_of_row _ _ j _ _ _ (hB0.get 1 rfl)
  have z_m := hB0.lt 1 rfl
  go_wp2_with fail
  refine (HC.out _ hB0.below).mono ?_
  rintro e w2 ⟨rfl, hb⟩
  have hB2 := hB0.next hb
  clear c_m z_m hb hB0
  clear HC
  by_cases hc : code = 0
  rotate_left
  · have b1 : (code != 0) = true := by simpa using hc
    have HX := Lib.hid (Mt.r_bad (m := m) (l := l) (by rw [HCO.out]; exact hc))
    clear hc HT
    have c_r := fun j => cell_of_row _ _ j _ _ _ (hB2.get 0 rfl)
    have z_r := hB2.lt 0 rfl
    have f_r := fun j => frozen_of_row _ _ j _ _ (hB2.get 0 rfl)
    go_wp2_with fail
    have hE := (Mx.of_bx hB2).put2 0 rfl (.slice none 0 0) (.slice none 0 0)
    clear c_r z_r f_r hB2
    generalize (w2.setCell _ _).setCell _ _ = wE at *
    have c_r := fun j => cell_of_row _ _ j _ _ _ (hE.get 0 rfl)
    have z_r := hE.lt 0 rfl
    refine bodyPost_ret (v := .tuple #[.agg #[.slice none 0 0, .slice none 0 0], .int .i64 0, .int .i64 code]) (by simp [results, Try.results40, go_sem, c_r, z_r]) rfl ?_
    exact FrunRes.mk' (M := Mt.none_) (n := 0) HX.out.2.1 HX.out.2.2 (HX.out.1.trans HCO.out) (Ms.of_mx hE (fun V => ⟨RIn.nil _ _, RIn.nil _ _⟩))
  subst hc
  have HT2 := Lib.hid (HT.out rfl)
  have HOK2 := Lib.hid (HOK.out rfl)
  clear HT HOK
  by_cases hn : 2000 < l.length
  · have b1 : decide ((2000 : Int) < (l.length : Int)) = true := decide_eq_true (by omega)
    have HX := Lib.hid (Mt.r_many (m := m) (l := l) HCO.out hn)
    clear hn HT2
    have c_r := fun j => cell_of_row _ _ j _ _ _ (hB2.get 0 rfl)
    have z_r := hB2.lt 0 rfl
    have f_r := fun j => frozen_of_row _ _ j _ _ (hB2.get 0 rfl)
    go_wp2_with fail
    have hE := (Mx.of_bx hB2).put2 0 rfl (.slice none 0 0) (.slice none 0 0)
    clear c_r z_r f_r hB2
    generalize (w2.setCell _ _).setCell _ _ = wE at *
    have c_r := fun j => cell_of_row _ _ j _ _ _ (hE.get 0 rfl)
    have z_r := hE.lt 0 rfl
    refine bodyPost_ret (v := .tuple #[.agg #[.slice none 0 0, .slice none 0 0], .int .i64 0, .int .i64 4]) (by simp [results, Try.results40, go_sem, c_r, z_r]) rfl ?_
    exact FrunRes.mk' (M := Mt.none_) (n := 0) HX.out.2.1 HX.out.2.2 (HX.out.1) (Ms.of_mx hE (fun V => ⟨RIn.nil _ _, RIn.nil _ _⟩))
  have b1 : decide ((2000 : Int) < (l.length : Int)) = false := decide_eq_false (by omega)
  have HX := Lib.hid (Mt.r_run (m := m) (l := l) HCO.out (by omega))
  clear hn
  have c_m := fun j => cell_of_row _ _ j _ _ _ (hB2.get 1 rfl)
  have z_m := hB2.lt 1 rfl
  go_wp2_with fail
  refine (HT2.out _ hB2.below).mono ?_
  rintro e wt ⟨va, vl, rfl, hMt⟩
  obtain ⟨P, cp, T, ct, rfl, rfl, hFr⟩ := hMt.fresh
  have hM1 := ((Ms.of_mx (F := fun _ => True) (Mx.of_bx hB2) (fun _ => trivial)).call hMt.below hFr).imp (fun V k => k.2)
  clear HT2 hMt hFr
  clear c_m z_m hB2 b1
  go_upto_region 7 with fail
  have hM2 := hM1.new (g := wt.heap.size) rfl (.cells #[.slice P m.acs.length cp, .slice T m.log.length ct] 61)
  clear hM1
  generalize wt.heap.size = gN at *
  generalize wt.alloc _ = w2 at *
  have HM2 := Lib.hid hM2
  clear hM2
  go_wp2_with fail
  go_loopw [9] (fun s9 wr => ∃ (k : Nat) (m' : Mt) (P : Option Addr) (cp : Nat) (T : Option Addr) (ct : Nat), k ≤ l.length ∧ s9 = .int .i64 k ∧ Hid (Runs m l m' k) ∧ Hid (MtOk m') ∧ Ms (fun V => AsIn V.heap.size V P cp m'.acs ∧ LgIn V.heap.size V T ct m'.log) w [(gN, .cells #[.slice P m'.acs.length cp, .slice T m'.log.length ct] 61), (gR, .cells #[.slice none 0 0, .slice none 0 0] 61), (w.heap.size, mB S s m.acs B dl m.log)] [] wr) (fun s9 _ => l.length - (intOf s9).toNat)
  case atStart => exact ⟨0, m, P, cp, T, ct, Nat.zero_le _, rfl, Runs.start _ _, HOK2.out, HM2.out⟩
  case round =>
    clear HM2
    obtain ⟨k, m', P, cp, T, ct, hk, rfl, hrun, hok, hMr⟩ := hrel
    by_cases hlt : k < l.length
    rotate_left
    · obtain rfl : k = l.length := by omega
      have HR := Lib.hid hrun.out.done
      clear hrun hok hk hlt HQ
      have c_now := fun j => cell_of_row _ _ j _ _ _ (hMr.get 0 rfl)
      have z_now := hMr.lt 0 rfl
      have c_r := fun j => cell_of_row _ _ j _ _ _ (hMr.get 1 rfl)
      have z_r := hMr.lt 1 rfl
      have f_r := fun j => frozen_of_row _ _ j _ _ (hMr.get 1 rfl)
      go_wp2_with fail
      have hE := (hMr).put2 1 rfl (.slice P m'.acs.length cp) (.slice T m'.log.length ct)
      clear c_now z_now c_r z_r f_r hMr
      generalize (World.setCell _ _ _).setCell _ _ = wE at *
      have c_r := fun j => cell_of_row _ _ j _ _ _ (hE.get 1 rfl)
      have z_r := hE.lt 1 rfl
      refine bodyPost_ret (v := .tuple #[.agg #[.slice P m'.acs.length cp, .slice T m'.log.length ct], .int .i64 (l.length : Nat), .int .i64 0]) (by simp [results, Try.results40, go_sem, c_r, z_r]) rfl ?_
      exact FrunRes.mk' (M := m') (n := l.length) (HX.out.2.1.trans HR.out.1) (HX.out.2.2.trans HR.out.2.1) (HX.out.1.trans HR.out.2.2) hE
    obtain ⟨q, hqk⟩ : ∃ q, l[k]? = some q := ⟨_, List.getElem?_eq_getElem hlt⟩
    obtain ⟨ad, rfl, hbq, hwq, d0, d1, d2, d3, d4, d5, _, _⟩ := HQ.out.query hqk
    have hba : (ad.add (k * 8)).block < w.heap.size := by rw [block_add]; exact hbq
    have HQC := Lib.hid (fun (W : World) (hW : Below w.heap.size w W) => And.intro ((hW.cell hba).trans d0) (And.intro ((hW.cell (p := ⟨(ad.add (k * 8)).block, (ad.add (k * 8)).off + 1, none⟩) hba).trans d1) (And.intro ((hW.cell (p := ⟨(ad.add (k * 8)).block, (ad.add (k * 8)).off + 2, none⟩) hba).trans d2) (And.intro ((hW.cell (p := ⟨(ad.add (k * 8)).block, (ad.add (k * 8)).off + 3, none⟩) hba).trans d3) (And.intro ((hW.cell (p := ⟨(ad.add (k * 8)).block, (ad.add (k * 8)).off + 4, none⟩) hba).trans d4) (And.intro ((hW.cell (p := ⟨(ad.add (k * 8)).block, (ad.add (k * 8)).off + 5, none⟩) hba).trans d5) (Nat.lt_of_lt_of_le hba hW.size)))))))
    obtain ⟨z1, z2, z3, z4⟩ := idx_facts hlt hlm
    have HLE := Lib.hid (And.intro (Nat.succ_le_of_lt hlt) (Nat.sub_lt_sub_left hlt (Nat.lt_succ_self k)))
    have HK := Lib.hid hqk
    have HIX := Lib.hid (And.intro z1 (And.intro z2 (And.intro z3 z4)))
    obtain ⟨rr, hrr⟩ : ∃ x, x = m'.aR q := ⟨_, rfl⟩
    obtain ⟨er, her⟩ : ∃ x, x = m'.aC q := ⟨_, rfl⟩
    obtain ⟨mm, hmm⟩ : ∃ x, x = m'.aM q := ⟨_, rfl⟩
    have HA := Lib.hid (fun (V : World) (h1 : AsIn V.heap.size V P cp m'.acs) (h2 : LgIn V.heap.size V T ct m'.log) => show Calls Try.prog 66 #[mV P cp m'.acs T ct m'.log, .int .i64 q.agent, .int .u8 q.kind, rV q.a, rV q.b] V (fun e w' => ∃ va vl, e = .returned (.tuple #[.agg #[va, vl], rV rr, .int .i64 er]) ∧ MtOwn V va vl mm [] w') by
      rw [hrr, her, hmm]; exact fmasked_any m' q hwq P cp T ct V h1 h2)
    have HER := Lib.hid her
    have HMM := Lib.hid hmm
    have HCZ := Lib.hid (show m'.code = 0 from meetC_zero.2 hok.out)
    clear hqk hbq hwq d0 d1 d2 d3 d4 d5 hba hk hlt her hrr hmm
    go_upto_region 10 with fail
    go_cut [10, 11, 12] (fun s10 s11 s12 wx => ∃ gX gY P2 cp2 S2 cs2, s10 = .pointer (some ⟨gX, 0, none⟩) ∧ s11 = .pointer (some ⟨gY, 0, none⟩) ∧ s12 = .int .i64 er ∧ Ms (fun V => (AsIn V.heap.size V P cp m'.acs ∧ LgIn V.heap.size V T ct m'.log) ∧ (AsIn V.heap.size V P2 cp2 mm.acs ∧ LgIn V.heap.size V S2 cs2 mm.log)) w [(gY, rB rr), (gX, .cells #[.slice P2 mm.acs.length cp2, .slice S2 mm.log.length cs2] 61), (gN, .cells #[.slice P m'.acs.length cp, .slice T m'.log.length ct] 61), (gR, .cells #[.slice none 0 0, .slice none 0 0] 61), (w.heap.size, mB S s m.acs B dl m.log)] [] wx)
    case first =>
      go_wp2_with fail
      refine wp_region_T (Bx w [(gN, .cells #[.slice P m'.acs.length cp, .slice T m'.log.length ct] 61), (w.heap.size, mB S s m.acs B dl m.log)]) 31 (by kernel_rfl) (by rfl) ((hMr.keep (List.Sublist.cons_cons _ (List.Sublist.cons _ (List.Sublist.cons_cons _ (List.nil_sublist _))))).drew) (fun wq1 hbq => ?_)
      have hB21 := hMr.next hbq
      clear hMr hbq
      refine wpAnyT_go (Bx.grows _ _) (hB21.keep (List.Sublist.cons_cons _ (List.Sublist.cons _ (List.Sublist.cons_cons _ (List.nil_sublist _))))) [0, 1, 2, 3, 4, 5, 6, 7, 8, 9, 10, 11, 12, 13, 14, 15, 16, 17, 18, 19, 20] 10 (by kernel_rfl) ?_
      apply Exists.intro
      refine ⟨fun G hG hN => ?_, ?_⟩
      · have c_now := fun (e : GE (Bx w [(gN, .cells #[.slice P m'.acs.length cp, .slice T m'.log.length ct] 61), (w.heap.size, mB S s m.acs B dl m.log)]) G) j => cell_of_row e.w _ j _ _ _ ((GE.h e).get 0 rfl)
        have z_now := fun (e : GE (Bx w [(gN, .cells #[.slice P m'.acs.length cp, .slice T m'.log.length ct] 61), (w.heap.size, mB S s m.acs B dl m.log)]) G) => (GE.h e).lt 0 rfl
        have c_m := fun (e : GE (Bx w [(gN, .cells #[.slice P m'.acs.length cp, .slice T m'.log.length ct] 61), (w.heap.size, mB S s m.acs B dl m.log)]) G) j => cell_of_row e.w _ j _ _ _ ((GE.h e).get 1 rfl)
        have z_m := fun (e : GE (Bx w [(gN, .cells #[.slice P m'.acs.length cp, .slice T m'.log.length ct] 61), (w.heap.size, mB S s m.acs B dl m.log)]) G) => (GE.h e).lt 1 rfl
        have e0 := fun (e : GE (Bx w [(gN, .cells #[.slice P m'.acs.length cp, .slice T m'.log.length ct] 61), (w.heap.size, mB S s m.acs B dl m.log)]) G) => (HQC.out e.w (GE.h e).below).1
        have e1 := fun (e : GE (Bx w [(gN, .cells #[.slice P m'.acs.length cp, .slice T m'.log.length ct] 61), (w.heap.size, mB S s m.acs B dl m.log)]) G) => (HQC.out e.w (GE.h e).below).2.1
        have e2 := fun (e : GE (Bx w [(gN, .cells #[.slice P m'.acs.length cp, .slice T m'.log.length ct] 61), (w.heap.size, mB S s m.acs B dl m.log)]) G) => (HQC.out e.w (GE.h e).below).2.2.1
        have e3 := fun (e : GE (Bx w [(gN, .cells #[.slice P m'.acs.length cp, .slice T m'.log.length ct] 61), (w.heap.size, mB S s m.acs B dl m.log)]) G) => (HQC.out e.w (GE.h e).below).2.2.2.1
        have e4 := fun (e : GE (Bx w [(gN, .cells #[.slice P m'.acs.length cp, .slice T m'.log.length ct] 61), (w.heap.size, mB S s m.acs B dl m.log)]) G) => (HQC.out e.w (GE.h e).below).2.2.2.2.1
        have e5 := fun (e : GE (Bx w [(gN, .cells #[.slice P m'.acs.length cp, .slice T m'.log.length ct] 61), (w.heap.size, mB S s m.acs B dl m.log)]) G) => (HQC.out e.w (GE.h e).below).2.2.2.2.2.1
        have e6 := fun (e : GE (Bx w [(gN, .cells #[.slice P m'.acs.length cp, .slice T m'.log.length ct] 61), (w.heap.size, mB S s m.acs B dl m.log)]) G) => (HQC.out e.w (GE.h e).below).2.2.2.2.2.2
        simp only [pickOps, List.getElem?_toArray, List.getElem?_cons_zero, List.getElem?_cons_succ]
        repeat (first | go_big_quiet_step (fail) | quiet_step (fail))
        exact wpQuiet_nil rfl
      refine wpAnyT_all (rs := [21, 26, 27]) (by kernel_rfl) (by simp) (fun wa2 hwa2 hRwa2 i hi => ?_)
      have hB22 := hB21.next hwa2
      clear hB21 hwa2 hRwa2
      rcases List.mem_cons.1 hi with rfl | hi
      · refine wpOp_step rfl (fun Kc hKc => ?_)
        go_simp
        refine Calls.mono (HA.out wa2 (hB22).here.1 (hB22).here.2) ?_
        rintro e wv3 ⟨va, vl, rfl, hMt⟩
        obtain ⟨P2, cp2, S2, cs2, rfl, rfl, hFr⟩ := hMt.fresh
        have hB23 := (hB22).call hMt.below hFr
        clear hMt hFr
        refine hKc _ _ ⟨(hB23.keep (List.Sublist.cons_cons _ (List.Sublist.cons _ (List.Sublist.cons_cons _ (List.nil_sublist _))))), ?_⟩
        clear hKc Kc hB22
        refine wpAnyT_go (Bx.grows _ _) (hB23.keep (List.Sublist.cons_cons _ (List.Sublist.cons _ (List.Sublist.cons_cons _ (List.nil_sublist _))))) [22, 23, 24, 25] 5 (by kernel_rfl) ?_
        apply Exists.intro
        refine ⟨fun G hG hN => ?_, ?_⟩
        · simp only [pickOps, List.getElem?_toArray, List.getElem?_cons_zero, List.getElem?_cons_succ]
          repeat (first | go_big_quiet_step (fail) | quiet_step (fail))
          exact wpQuiet_nil rfl
        refine wpAnyT_twoS (i := 26) (j := 27) (oi := (.cells #[.slice none 0 0, .slice none 0 0] 61)) (oj := (rB ⟨0, 0⟩)) hB23 (fun _ k => k.keep (List.Sublist.cons_cons _ (List.Sublist.cons _ (List.Sublist.cons_cons _ (List.nil_sublist _))))) (by kernel_rfl) ?_
        apply Exists.intro
        apply Exists.intro
        apply Exists.intro
        refine ⟨?_, ?_, ?_, ?_, ?_⟩
        · intro g W K hg hK
          try dsimp only
          refine wpOp_step rfl (fun Kc hKc => ?_)
          go_simp
          try rw [hg]
          exact hKc _ _ hK
        · intro g0 g W K hg hK
          try dsimp only
          refine wpOp_step rfl (fun Kc hKc => ?_)
          go_simp
          try rw [hg]
          exact hKc _ _ hK
        · intro g W K hg hK
          try dsimp only
          refine wpOp_step rfl (fun Kc hKc => ?_)
          go_simp
          try rw [hg]
          exact hKc _ _ hK
        · intro g0 g W K hg hK
          try dsimp only
          refine wpOp_step rfl (fun Kc hKc => ?_)
          go_simp
          try rw [hg]
          exact hKc _ _ hK
        intro gX gY wt4 hB24
        try dsimp only
        refine wpAnyT_all (rs := [28]) (by kernel_rfl) (by simp) (fun wa5 hwa5 hRwa5 i hi => ?_)
        have hB25 := hB24.next hwa5
        clear hB24 hwa5 hRwa5
        obtain rfl := List.mem_singleton.1 hi
        refine wpOp_step rfl (fun Kc hKc => ?_)
        have c_nx := fun j => cell_of_row _ _ j _ _ _ (hB25.get 1 rfl)
        have z_nx := hB25.lt 1 rfl
        have f_nx := fun j => frozen_of_row _ _ j _ _ (hB25.get 1 rfl)
        go_simp
        have hB26 := hB25.put2 1 rfl (.slice P2 mm.acs.length cp2) (.slice S2 mm.log.length cs2)
        refine hKc _ _ ⟨(hB26.keep (List.Sublist.cons _ (List.Sublist.cons _ (List.Sublist.cons_cons _ (List.Sublist.cons _ (List.Sublist.cons_cons _ (List.nil_sublist _))))))), ?_⟩
        clear c_nx z_nx f_nx hKc Kc hB25
        generalize (wa5.setCell _ _).setCell _ _ = wb6 at *
        refine wpAnyT_all (rs := [29]) (by kernel_rfl) (by simp) (fun wa7 hwa7 hRwa7 i hi => ?_)
        have hB27 := hB26.next hwa7
        clear hB26 hwa7 hRwa7
        obtain rfl := List.mem_singleton.1 hi
        refine wpOp_step rfl (fun Kc hKc => ?_)
        have c_y := fun j => cell_of_row _ _ j _ _ _ (hB27.get 0 rfl)
        have z_y := hB27.lt 0 rfl
        have f_y := fun j => frozen_of_row _ _ j _ _ (hB27.get 0 rfl)
        go_simp
        have hB28 := hB27.put2 0 rfl (.int .i64 rr.n) (.int .i64 rr.d)
        refine hKc _ _ ⟨(hB28.keep (List.Sublist.cons _ (List.Sublist.cons _ (List.Sublist.cons_cons _ (List.Sublist.cons _ (List.Sublist.cons_cons _ (List.nil_sublist _))))))), ?_⟩
        clear c_y z_y f_y hKc Kc hB27
        generalize (wa7.setCell _ _).setCell _ _ = wb8 at *
        refine wpAnyT_go (Bx.grows _ _) (hB28.keep (List.Sublist.cons _ (List.Sublist.cons _ (List.Sublist.cons_cons _ (List.Sublist.cons _ (List.Sublist.cons_cons _ (List.nil_sublist _))))))) [30] 0 (by kernel_rfl) ?_
        apply Exists.intro
        refine ⟨fun G hG hN => ?_, ?_⟩
        · simp only [pickOps, List.getElem?_toArray, List.getElem?_cons_zero, List.getElem?_cons_succ]
          repeat (first | go_big_quiet_step (fail) | quiet_step (fail))
          exact wpQuiet_nil rfl
        refine wpAnyT_done (by kernel_rfl) (fun wd9 hwd9 hRwd9 => ?_) _
        refine NoPanic.normal ?_
        have hB29 := hB28.next hwd9
        clear hB28 hwd9 hRwd9
        have HM := Lib.hid hB29
        clear hB29
        go_wp2_with fail
        go_meet
        exact ⟨_, _, _, _, _, _, rfl, rfl, rfl, HM.out⟩
      · rcases List.mem_cons.1 hi with rfl | hi
        · refine wpOp_step rfl (fun Kc hKc => ?_)
          go_simp
          have hB23 := hB22.new (g := wa2.heap.size) rfl (.cells #[.slice none 0 0, .slice none 0 0] 61)
          refine hKc _ _ ⟨(hB23.keep (List.Sublist.cons _ (List.Sublist.cons_cons _ (List.Sublist.cons _ (List.Sublist.cons_cons _ (List.nil_sublist _)))))), ?_⟩
          clear hKc Kc hB22
          generalize wa2.heap.size = gX at *
          generalize wa2.alloc _ = wb10 at *
          refine wpAnyT_all (rs := [21, 27]) (by kernel_rfl) (by simp) (fun wa11 hwa11 hRwa11 i hi => ?_)
          have hB24 := hB23.next hwa11
          clear hB23 hwa11 hRwa11
          rcases List.mem_cons.1 hi with rfl | hi
          · refine wpOp_step rfl (fun Kc hKc => ?_)
            go_simp
            refine Calls.mono (HA.out wa11 (hB24).here.1 (hB24).here.2) ?_
            rintro e wv12 ⟨va, vl, rfl, hMt⟩
            obtain ⟨P2, cp2, S2, cs2, rfl, rfl, hFr⟩ := hMt.fresh
            have hB25 := (hB24).call hMt.below hFr
            clear hMt hFr
            refine hKc _ _ ⟨(hB25.keep (List.Sublist.cons _ (List.Sublist.cons_cons _ (List.Sublist.cons _ (List.Sublist.cons_cons _ (List.nil_sublist _)))))), ?_⟩
            clear hKc Kc hB24
            refine wpAnyT_go (Bx.grows _ _) (hB25.keep (List.Sublist.cons _ (List.Sublist.cons_cons _ (List.Sublist.cons _ (List.Sublist.cons_cons _ (List.nil_sublist _)))))) [22, 23, 24, 25] 4 (by kernel_rfl) ?_
            apply Exists.intro
            refine ⟨fun G hG hN => ?_, ?_⟩
            · simp only [pickOps, List.getElem?_toArray, List.getElem?_cons_zero, List.getElem?_cons_succ]
              repeat (first | go_big_quiet_step (fail) | quiet_step (fail))
              exact wpQuiet_nil rfl
            refine wpAnyT_all (rs := [27]) (by kernel_rfl) (by simp) (fun wa13 hwa13 hRwa13 i hi => ?_)
            have hB26 := hB25.next hwa13
            clear hB25 hwa13 hRwa13
            obtain rfl := List.mem_singleton.1 hi
            refine wpOp_step rfl (fun Kc hKc => ?_)
            go_simp
            have hB27 := hB26.new (g := wa13.heap.size) rfl (rB ⟨0, 0⟩)
            refine hKc _ _ ⟨(hB27.keep (List.Sublist.cons _ (List.Sublist.cons _ (List.Sublist.cons_cons _ (List.Sublist.cons _ (List.Sublist.cons_cons _ (List.nil_sublist _))))))), ?_⟩
            clear hKc Kc hB26
            generalize wa13.heap.size = gY at *
            generalize wa13.alloc _ = wb14 at *
            refine wpAnyT_all (rs := [28]) (by kernel_rfl) (by simp) (fun wa15 hwa15 hRwa15 i hi => ?_)
            have hB28 := hB27.next hwa15
            clear hB27 hwa15 hRwa15
            obtain rfl := List.mem_singleton.1 hi
            refine wpOp_step rfl (fun Kc hKc => ?_)
            have c_nx := fun j => cell_of_row _ _ j _ _ _ (hB28.get 1 rfl)
            have z_nx := hB28.lt 1 rfl
            have f_nx := fun j => frozen_of_row _ _ j _ _ (hB28.get 1 rfl)
            go_simp
            have hB29 := hB28.put2 1 rfl (.slice P2 mm.acs.length cp2) (.slice S2 mm.log.length cs2)
            refine hKc _ _ ⟨(hB29.keep (List.Sublist.cons _ (List.Sublist.cons _ (List.Sublist.cons_cons _ (List.Sublist.cons _ (List.Sublist.cons_cons _ (List.nil_sublist _))))))), ?_⟩
            clear c_nx z_nx f_nx hKc Kc hB28
            generalize (wa15.setCell _ _).setCell _ _ = wb16 at *
            refine wpAnyT_all (rs := [29]) (by kernel_rfl) (by simp) (fun wa17 hwa17 hRwa17 i hi => ?_)
            have hB30 := hB29.next hwa17
            clear hB29 hwa17 hRwa17
            obtain rfl := List.mem_singleton.1 hi
            refine wpOp_step rfl (fun Kc hKc => ?_)
            have c_y := fun j => cell_of_row _ _ j _ _ _ (hB30.get 0 rfl)
            have z_y := hB30.lt 0 rfl
            have f_y := fun j => frozen_of_row _ _ j _ _ (hB30.get 0 rfl)
            go_simp
            have hB31 := hB30.put2 0 rfl (.int .i64 rr.n) (.int .i64 rr.d)
            refine hKc _ _ ⟨(hB31.keep (List.Sublist.cons _ (List.Sublist.cons _ (List.Sublist.cons_cons _ (List.Sublist.cons _ (List.Sublist.cons_cons _ (List.nil_sublist _))))))), ?_⟩
            clear c_y z_y f_y hKc Kc hB30
            generalize (wa17.setCell _ _).setCell _ _ = wb18 at *
            refine wpAnyT_go (Bx.grows _ _) (hB31.keep (List.Sublist.cons _ (List.Sublist.cons _ (List.Sublist.cons_cons _ (List.Sublist.cons _ (List.Sublist.cons_cons _ (List.nil_sublist _))))))) [30] 0 (by kernel_rfl) ?_
            apply Exists.intro
            refine ⟨fun G hG hN => ?_, ?_⟩
            · simp only [pickOps, List.getElem?_toArray, List.getElem?_cons_zero, List.getElem?_cons_succ]
              repeat (first | go_big_quiet_step (fail) | quiet_step (fail))
              exact wpQuiet_nil rfl
            refine wpAnyT_done (by kernel_rfl) (fun wd19 hwd19 hRwd19 => ?_) _
            refine NoPanic.normal ?_
            have hB32 := hB31.next hwd19
            clear hB31 hwd19 hRwd19
            have HM := Lib.hid hB32
            clear hB32
            go_wp2_with fail
            go_meet
            exact ⟨_, _, _, _, _, _, rfl, rfl, rfl, HM.out⟩
          · obtain rfl := List.mem_singleton.1 hi
            refine wpOp_step rfl (fun Kc hKc => ?_)
            go_simp
            have hB25 := hB24.new (g := wa11.heap.size) rfl (rB ⟨0, 0⟩)
            refine hKc _ _ ⟨(hB25.keep (List.Sublist.cons _ (List.Sublist.cons _ (List.Sublist.cons_cons _ (List.Sublist.cons _ (List.Sublist.cons_cons _ (List.nil_sublist _))))))), ?_⟩
            clear hKc Kc hB24
            generalize wa11.heap.size = gY at *
            generalize wa11.alloc _ = wb20 at *
            refine wpAnyT_all (rs := [21]) (by kernel_rfl) (by simp) (fun wa21 hwa21 hRwa21 i hi => ?_)
            have hB26 := hB25.next hwa21
            clear hB25 hwa21 hRwa21
            obtain rfl := List.mem_singleton.1 hi
            refine wpOp_step rfl (fun Kc hKc => ?_)
            go_simp
            refine Calls.mono (HA.out wa21 (hB26).here.1 (hB26).here.2) ?_
            rintro e wv22 ⟨va, vl, rfl, hMt⟩
            obtain ⟨P2, cp2, S2, cs2, rfl, rfl, hFr⟩ := hMt.fresh
            have hB27 := (hB26).call hMt.below hFr
            clear hMt hFr
            refine hKc _ _ ⟨(hB27.keep (List.Sublist.cons _ (List.Sublist.cons _ (List.Sublist.cons_cons _ (List.Sublist.cons _ (List.Sublist.cons_cons _ (List.nil_sublist _))))))), ?_⟩
            clear hKc Kc hB26
            refine wpAnyT_go (Bx.grows _ _) (hB27.keep (List.Sublist.cons _ (List.Sublist.cons _ (List.Sublist.cons_cons _ (List.Sublist.cons _ (List.Sublist.cons_cons _ (List.nil_sublist _))))))) [22, 23, 24, 25] 3 (by kernel_rfl) ?_
            apply Exists.intro
            refine ⟨fun G hG hN => ?_, ?_⟩
            · simp only [pickOps, List.getElem?_toArray, List.getElem?_cons_zero, List.getElem?_cons_succ]
              repeat (first | go_big_quiet_step (fail) | quiet_step (fail))
              exact wpQuiet_nil rfl
            refine wpAnyT_all (rs := [28]) (by kernel_rfl) (by simp) (fun wa23 hwa23 hRwa23 i hi => ?_)
            have hB28 := hB27.next hwa23
            clear hB27 hwa23 hRwa23
            obtain rfl := List.mem_singleton.1 hi
            refine wpOp_step rfl (fun Kc hKc => ?_)
            have c_nx := fun j => cell_of_row _ _ j _ _ _ (hB28.get 1 rfl)
            have z_nx := hB28.lt 1 rfl
            have f_nx := fun j => frozen_of_row _ _ j _ _ (hB28.get 1 rfl)
            go_simp
            have hB29 := hB28.put2 1 rfl (.slice P2 mm.acs.length cp2) (.slice S2 mm.log.length cs2)
            refine hKc _ _ ⟨(hB29.keep (List.Sublist.cons _ (List.Sublist.cons _ (List.Sublist.cons_cons _ (List.Sublist.cons _ (List.Sublist.cons_cons _ (List.nil_sublist _))))))), ?_⟩
            clear c_nx z_nx f_nx hKc Kc hB28
            generalize (wa23.setCell _ _).setCell _ _ = wb24 at *
            refine wpAnyT_all (rs := [29]) (by kernel_rfl) (by simp) (fun wa25 hwa25 hRwa25 i hi => ?_)
            have hB30 := hB29.next hwa25
            clear hB29 hwa25 hRwa25
            obtain rfl := List.mem_singleton.1 hi
            refine wpOp_step rfl (fun Kc hKc => ?_)
            have c_y := fun j => cell_of_row _ _ j _ _ _ (hB30.get 0 rfl)
            have z_y := hB30.lt 0 rfl
            have f_y := fun j => frozen_of_row _ _ j _ _ (hB30.get 0 rfl)
            go_simp
            have hB31 := hB30.put2 0 rfl (.int .i64 rr.n) (.int .i64 rr.d)
            refine hKc _ _ ⟨(hB31.keep (List.Sublist.cons _ (List.Sublist.cons _ (List.Sublist.cons_cons _ (List.Sublist.cons _ (List.Sublist.cons_cons _ (List.nil_sublist _))))))), ?_⟩
            clear c_y z_y f_y hKc Kc hB30
            generalize (wa25.setCell _ _).setCell _ _ = wb26 at *
            refine wpAnyT_go (Bx.grows _ _) (hB31.keep (List.Sublist.cons _ (List.Sublist.cons _ (List.Sublist.cons_cons _ (List.Sublist.cons _ (List.Sublist.cons_cons _ (List.nil_sublist _))))))) [30] 0 (by kernel_rfl) ?_
            apply Exists.intro
            refine ⟨fun G hG hN => ?_, ?_⟩
            · simp only [pickOps, List.getElem?_toArray, List.getElem?_cons_zero, List.getElem?_cons_succ]
              repeat (first | go_big_quiet_step (fail) | quiet_step (fail))
              exact wpQuiet_nil rfl
            refine wpAnyT_done (by kernel_rfl) (fun wd27 hwd27 hRwd27 => ?_) _
            refine NoPanic.normal ?_
            have hB32 := hB31.next hwd27
            clear hB31 hwd27 hRwd27
            have HM := Lib.hid hB32
            clear hB32
            go_wp2_with fail
            go_meet
            exact ⟨_, _, _, _, _, _, rfl, rfl, rfl, HM.out⟩
        · obtain rfl := List.mem_singleton.1 hi
          refine wpOp_step rfl (fun Kc hKc => ?_)
          go_simp
          have hB23 := hB22.new (g := wa2.heap.size) rfl (rB ⟨0, 0⟩)
          refine hKc _ _ ⟨(hB23.keep (List.Sublist.cons _ (List.Sublist.cons_cons _ (List.Sublist.cons _ (List.Sublist.cons_cons _ (List.nil_sublist _)))))), ?_⟩
          clear hKc Kc hB22
          generalize wa2.heap.size = gY at *
          generalize wa2.alloc _ = wb28 at *
          refine wpAnyT_all (rs := [21, 26]) (by kernel_rfl) (by simp) (fun wa29 hwa29 hRwa29 i hi => ?_)
          have hB24 := hB23.next hwa29
          clear hB23 hwa29 hRwa29
          rcases List.mem_cons.1 hi with rfl | hi
          · refine wpOp_step rfl (fun Kc hKc => ?_)
            go_simp
            refine Calls.mono (HA.out wa29 (hB24).here.1 (hB24).here.2) ?_
            rintro e wv30 ⟨va, vl, rfl, hMt⟩
            obtain ⟨P2, cp2, S2, cs2, rfl, rfl, hFr⟩ := hMt.fresh
            have hB25 := (hB24).call hMt.below hFr
            clear hMt hFr
            refine hKc _ _ ⟨(hB25.keep (List.Sublist.cons _ (List.Sublist.cons_cons _ (List.Sublist.cons _ (List.Sublist.cons_cons _ (List.nil_sublist _)))))), ?_⟩
            clear hKc Kc hB24
            refine wpAnyT_go (Bx.grows _ _) (hB25.keep (List.Sublist.cons _ (List.Sublist.cons_cons _ (List.Sublist.cons _ (List.Sublist.cons_cons _ (List.nil_sublist _)))))) [22, 23, 24, 25] 4 (by kernel_rfl) ?_
            apply Exists.intro
            refine ⟨fun G hG hN => ?_, ?_⟩
            · simp only [pickOps, List.getElem?_toArray, List.getElem?_cons_zero, List.getElem?_cons_succ]
              repeat (first | go_big_quiet_step (fail) | quiet_step (fail))
              exact wpQuiet_nil rfl
            refine wpAnyT_all (rs := [26]) (by kernel_rfl) (by simp) (fun wa31 hwa31 hRwa31 i hi => ?_)
            have hB26 := hB25.next hwa31
            clear hB25 hwa31 hRwa31
            obtain rfl := List.mem_singleton.1 hi
            refine wpOp_step rfl (fun Kc hKc => ?_)
            go_simp
            have hB27 := hB26.new (g := wa31.heap.size) rfl (.cells #[.slice none 0 0, .slice none 0 0] 61)
            refine hKc _ _ ⟨(hB27.keep (List.Sublist.cons _ (List.Sublist.cons _ (List.Sublist.cons_cons _ (List.Sublist.cons _ (List.Sublist.cons_cons _ (List.nil_sublist _))))))), ?_⟩
            clear hKc Kc hB26
            generalize wa31.heap.size = gX at *
            generalize wa31.alloc _ = wb32 at *
            refine wpAnyT_all (rs := [28]) (by kernel_rfl) (by simp) (fun wa33 hwa33 hRwa33 i hi => ?_)
            have hB28 := hB27.next hwa33
            clear hB27 hwa33 hRwa33
            obtain rfl := List.mem_singleton.1 hi
            refine wpOp_step rfl (fun Kc hKc => ?_)
            have c_nx := fun j => cell_of_row _ _ j _ _ _ (hB28.get 0 rfl)
            have z_nx := hB28.lt 0 rfl
            have f_nx := fun j => frozen_of_row _ _ j _ _ (hB28.get 0 rfl)
            go_simp
            have hB29 := hB28.put2 0 rfl (.slice P2 mm.acs.length cp2) (.slice S2 mm.log.length cs2)
            refine hKc _ _ ⟨(hB29.keep (List.Sublist.cons _ (List.Sublist.cons _ (List.Sublist.cons_cons _ (List.Sublist.cons _ (List.Sublist.cons_cons _ (List.nil_sublist _))))))), ?_⟩
            clear c_nx z_nx f_nx hKc Kc hB28
            generalize (wa33.setCell _ _).setCell _ _ = wb34 at *
            refine wpAnyT_all (rs := [29]) (by kernel_rfl) (by simp) (fun wa35 hwa35 hRwa35 i hi => ?_)
            have hB30 := hB29.next hwa35
            clear hB29 hwa35 hRwa35
            obtain rfl := List.mem_singleton.1 hi
            refine wpOp_step rfl (fun Kc hKc => ?_)
            have c_y := fun j => cell_of_row _ _ j _ _ _ (hB30.get 1 rfl)
            have z_y := hB30.lt 1 rfl
            have f_y := fun j => frozen_of_row _ _ j _ _ (hB30.get 1 rfl)
            go_simp
            have hB31 := hB30.put2 1 rfl (.int .i64 rr.n) (.int .i64 rr.d)
            refine hKc _ _ ⟨(hB31.keep (List.Sublist.cons _ (List.Sublist.cons _ (List.Sublist.cons_cons _ (List.Sublist.cons _ (List.Sublist.cons_cons _ (List.nil_sublist _))))))), ?_⟩
            clear c_y z_y f_y hKc Kc hB30
            generalize (wa35.setCell _ _).setCell _ _ = wb36 at *
            refine wpAnyT_go (Bx.grows _ _) (hB31.keep (List.Sublist.cons _ (List.Sublist.cons _ (List.Sublist.cons_cons _ (List.Sublist.cons _ (List.Sublist.cons_cons _ (List.nil_sublist _))))))) [30] 0 (by kernel_rfl) ?_
            apply Exists.intro
            refine ⟨fun G hG hN => ?_, ?_⟩
            · simp only [pickOps, List.getElem?_toArray, List.getElem?_cons_zero, List.getElem?_cons_succ]
              repeat (first | go_big_quiet_step (fail) | quiet_step (fail))
              exact wpQuiet_nil rfl
            refine wpAnyT_done (by kernel_rfl) (fun wd37 hwd37 hRwd37 => ?_) _
            refine NoPanic.normal ?_
            have hB32 := hB31.next hwd37
            clear hB31 hwd37 hRwd37
            have HM := Lib.hid hB32
            clear hB32
            go_wp2_with fail
            go_meet
            exact ⟨_, _, _, _, _, _, rfl, rfl, rfl, HM.out.perm (List.Perm.swap _ _ _)⟩
          · obtain rfl := List.mem_singleton.1 hi
            refine wpOp_step rfl (fun Kc hKc => ?_)
            go_simp
            have hB25 := hB24.new (g := wa29.heap.size) rfl (.cells #[.slice none 0 0, .slice none 0 0] 61)
            refine hKc _ _ ⟨(hB25.keep (List.Sublist.cons _ (List.Sublist.cons _ (List.Sublist.cons_cons _ (List.Sublist.cons _ (List.Sublist.cons_cons _ (List.nil_sublist _))))))), ?_⟩
            clear hKc Kc hB24
            generalize wa29.heap.size = gX at *
            generalize wa29.alloc _ = wb38 at *
            refine wpAnyT_all (rs := [21]) (by kernel_rfl) (by simp) (fun wa39 hwa39 hRwa39 i hi => ?_)
            have hB26 := hB25.next hwa39
            clear hB25 hwa39 hRwa39
            obtain rfl := List.mem_singleton.1 hi
            refine wpOp_step rfl (fun Kc hKc => ?_)
            go_simp
            refine Calls.mono (HA.out wa39 (hB26).here.1 (hB26).here.2) ?_
            rintro e wv40 ⟨va, vl, rfl, hMt⟩
            obtain ⟨P2, cp2, S2, cs2, rfl, rfl, hFr⟩ := hMt.fresh
            have hB27 := (hB26).call hMt.below hFr
            clear hMt hFr
            refine hKc _ _ ⟨(hB27.keep (List.Sublist.cons _ (List.Sublist.cons _ (List.Sublist.cons_cons _ (List.Sublist.cons _ (List.Sublist.cons_cons _ (List.nil_sublist _))))))), ?_⟩
            clear hKc Kc hB26
            refine wpAnyT_go (Bx.grows _ _) (hB27.keep (List.Sublist.cons _ (List.Sublist.cons _ (List.Sublist.cons_cons _ (List.Sublist.cons _ (List.Sublist.cons_cons _ (List.nil_sublist _))))))) [22, 23, 24, 25] 3 (by kernel_rfl) ?_
            apply Exists.intro
            refine ⟨fun G hG hN => ?_, ?_⟩
            · simp only [pickOps, List.getElem?_toArray, List.getElem?_cons_zero, List.getElem?_cons_succ]
              repeat (first | go_big_quiet_step (fail) | quiet_step (fail))
              exact wpQuiet_nil rfl
            refine wpAnyT_all (rs := [28]) (by kernel_rfl) (by simp) (fun wa41 hwa41 hRwa41 i hi => ?_)
            have hB28 := hB27.next hwa41
            clear hB27 hwa41 hRwa41
            obtain rfl := List.mem_singleton.1 hi
            refine wpOp_step rfl (fun Kc hKc => ?_)
            have c_nx := fun j => cell_of_row _ _ j _ _ _ (hB28.get 0 rfl)
            have z_nx := hB28.lt 0 rfl
            have f_nx := fun j => frozen_of_row _ _ j _ _ (hB28.get 0 rfl)
            go_simp
            have hB29 := hB28.put2 0 rfl (.slice P2 mm.acs.length cp2) (.slice S2 mm.log.length cs2)
            refine hKc _ _ ⟨(hB29.keep (List.Sublist.cons _ (List.Sublist.cons _ (List.Sublist.cons_cons _ (List.Sublist.cons _ (List.Sublist.cons_cons _ (List.nil_sublist _))))))), ?_⟩
            clear c_nx z_nx f_nx hKc Kc hB28
            generalize (wa41.setCell _ _).setCell _ _ = wb42 at *
            refine wpAnyT_all (rs := [29]) (by kernel_rfl) (by simp) (fun wa43 hwa43 hRwa43 i hi => ?_)
            have hB30 := hB29.next hwa43
            clear hB29 hwa43 hRwa43
            obtain rfl := List.mem_singleton.1 hi
            refine wpOp_step rfl (fun Kc hKc => ?_)
            have c_y := fun j => cell_of_row _ _ j _ _ _ (hB30.get 1 rfl)
            have z_y := hB30.lt 1 rfl
            have f_y := fun j => frozen_of_row _ _ j _ _ (hB30.get 1 rfl)
            go_simp
            have hB31 := hB30.put2 1 rfl (.int .i64 rr.n) (.int .i64 rr.d)
            refine hKc _ _ ⟨(hB31.keep (List.Sublist.cons _ (List.Sublist.cons _ (List.Sublist.cons_cons _ (List.Sublist.cons _ (List.Sublist.cons_cons _ (List.nil_sublist _))))))), ?_⟩
            clear c_y z_y f_y hKc Kc hB30
            generalize (wa43.setCell _ _).setCell _ _ = wb44 at *
            refine wpAnyT_go (Bx.grows _ _) (hB31.keep (List.Sublist.cons _ (List.Sublist.cons _ (List.Sublist.cons_cons _ (List.Sublist.cons _ (List.Sublist.cons_cons _ (List.nil_sublist _))))))) [30] 0 (by kernel_rfl) ?_
            apply Exists.intro
            refine ⟨fun G hG hN => ?_, ?_⟩
            · simp only [pickOps, List.getElem?_toArray, List.getElem?_cons_zero, List.getElem?_cons_succ]
              repeat (first | go_big_quiet_step (fail) | quiet_step (fail))
              exact wpQuiet_nil rfl
            refine wpAnyT_done (by kernel_rfl) (fun wd45 hwd45 hRwd45 => ?_) _
            refine NoPanic.normal ?_
            have hB32 := hB31.next hwd45
            clear hB31 hwd45 hRwd45
            have HM := Lib.hid hB32
            clear hB32
            go_wp2_with fail
            go_meet
            exact ⟨_, _, _, _, _, _, rfl, rfl, rfl, HM.out.perm (List.Perm.swap _ _ _)⟩
    case rest =>
      obtain ⟨gX, gY, P2, cp2, S2, cs2, rfl, rfl, rfl, hMc⟩ := hcut
      clear hMr HA HQC HIX
      by_cases he : er = 0
      rotate_left
      · have b2 : (er != 0) = true := by simpa using he
        have HAE := Lib.hid (show m'.aC q = m'.err q from if_neg (by rw [HCZ.out]; decide))
        have HR := Lib.hid (hrun.out.stop HK.out (by rw [← HAE.out, ← HER.out]; exact he))
        rw [← HAE.out, ← HER.out] at HR
        clear he hrun hok
        have c_now := fun j => cell_of_row _ _ j _ _ _ (hMc.get 2 rfl)
        have z_now := hMc.lt 2 rfl
        have c_r := fun j => cell_of_row _ _ j _ _ _ (hMc.get 3 rfl)
        have z_r := hMc.lt 3 rfl
        have f_r := fun j => frozen_of_row _ _ j _ _ (hMc.get 3 rfl)
        go_wp2_with fail
        have hE := (hMc.imp (fun V k => k.1)).put2 3 rfl (.slice P m'.acs.length cp) (.slice T m'.log.length ct)
        clear c_now z_now c_r z_r f_r hMc
        generalize (World.setCell _ _ _).setCell _ _ = wE at *
        have c_r := fun j => cell_of_row _ _ j _ _ _ (hE.get 3 rfl)
        have z_r := hE.lt 3 rfl
        refine bodyPost_ret (v := .tuple #[.agg #[.slice P m'.acs.length cp, .slice T m'.log.length ct], .int .i64 (k : Nat), .int .i64 er]) (by simp [results, Try.results40, go_sem, c_r, z_r]) rfl ?_
        exact FrunRes.mk' (M := m') (n := k) (HX.out.2.1.trans HR.out.1) (HX.out.2.2.trans HR.out.2.1) (HX.out.1.trans HR.out.2.2) hE
      subst he
      have hst : m'.err q = 0 := by rw [← show m'.aC q = m'.err q from if_neg (by rw [HCZ.out]; decide), ← HER.out]
      have HRN := Lib.hid (hrun.out.step HK.out hst)
      have HON := Lib.hid (hok.out.step hst)
      have e1 : mm = m'.step q := by rw [HMM.out]; exact (Mt.a_yes HCZ.out hst).2.1
      rw [← e1] at HRN HON
      clear hst hrun hok e1
      have c_nx := fun j => cell_of_row _ _ j _ _ _ (hMc.get 1 rfl)
      have z_nx := hMc.lt 1 rfl
      have c_now := fun j => cell_of_row _ _ j _ _ _ (hMc.get 2 rfl)
      have z_now := hMc.lt 2 rfl
      have f_now := fun j => frozen_of_row _ _ j _ _ (hMc.get 2 rfl)
      have n_nx := hMc.mx.bx.ne 1 2 rfl rfl (by decide)
      simp only at n_nx
      have HZ := Lib.hid (((hMc.put2 2 rfl (.slice P2 mm.acs.length cp2) (.slice S2 mm.log.length cs2)).imp (fun V k => k.2)).drop.drop)
      clear hMc n_nx
      go_wp2_with fail
      exact ⟨⟨k + 1, mm, P2, cp2, S2, cs2, HLE.out.1, by go_num, HRN.out, HON.out, HZ.out⟩, by simpa [intOf] using HLE.out.2⟩
end Go.Proofs.Ytgcbmnohhbcfiaa
