/- Values of adjust, walked. -/
import Derived.Test.YtcjfcfgkejoeeaaAdE
import Derived.Test.YtcjfcfgkejoeeaaAdV
import Derived.Test.YtcjfcfgkejoeeaaRtM
import Derived.Test.YtcjfcfgkejoeeaaRtW
import Derived.StillTailTactics
import Derived.RegionTactic
namespace Go.Proofs.Ytcjfcfgkejoeeaa
open Go.RowKit Go.Deep
set_option linter.unusedVariables false
set_option linter.unusedSimpArgs false

/-- What Values keeps in memory: the goods, the division, two results, two sums. -/
structure VIn (w : World) (A : Option Addr) (c : Nat) (bs : List (List Int)) (O : Option Addr) (oc : Nat) (d : Pt) (x0 x1 : Rt) (gs : Nat) (s0 s1 : Int) (wr : World) : Prop where
  below : Below w.heap.size w wr
  g : wr.heap[w.heap.size]? = some (gB A c bs)
  p : wr.heap[w.heap.size + 1]? = some (pB O oc d)
  r0 : wr.heap[w.heap.size + 2]? = some (rB x0)
  r1 : wr.heap[w.heap.size + 3]? = some (rB x1)
  lt : w.heap.size + 4 ≤ gs
  s : wr.heap[gs]? = some (.cells #[.int .i64 s0, .int .i64 s1] 59)
section
variable {w : World} {A : Option Addr} {c : Nat} {bs : List (List Int)} {O : Option Addr} {oc : Nat} {d : Pt} {x0 x1 : Rt} {s0 s1 : Int} {gs : Nat} {wr w1 : World}
theorem VIn.next (h : VIn w A c bs O oc d x0 x1 gs s0 s1 wr) (hb : Below wr.heap.size wr w1) : VIn w A c bs O oc d x0 x1 gs s0 s1 w1 :=
  ⟨bcall h.below h.below.size hb, heap_ext h.g hb, heap_ext h.p hb, heap_ext h.r0 hb, heap_ext h.r1 hb, h.lt, heap_ext h.s hb⟩
theorem VIn.drew (h : VIn w A c bs O oc d x0 x1 gs s0 s1 wr) : VIn w A c bs O oc d x0 x1 gs s0 s1 wr.drew := ⟨h.below.drew, h.g, h.p, h.r0, h.r1, h.lt, h.s⟩
theorem VIn.set0 (h : VIn w A c bs O oc d x0 x1 gs s0 s1 wr) (t : Int) : VIn w A c bs O oc d x0 x1 gs t s1 (wr.setCell ⟨gs, 0, none⟩ (.int .i64 t)) :=
  have l := h.lt
  ⟨h.below.setCell (show w.heap.size ≤ gs by omega) _, by rw [heap_set_ne (by omega)]; exact h.g, by rw [heap_set_ne (by omega)]; exact h.p, by rw [heap_set_ne (by omega)]; exact h.r0, by rw [heap_set_ne (by omega)]; exact h.r1, l, by rw [heap_set h.s]; rfl⟩
theorem VIn.set1 (h : VIn w A c bs O oc d x0 x1 gs s0 s1 wr) (t : Int) : VIn w A c bs O oc d x0 x1 gs s0 t (wr.setCell ⟨gs, 1, none⟩ (.int .i64 t)) :=
  have l := h.lt
  ⟨h.below.setCell (show w.heap.size ≤ gs by omega) _, by rw [heap_set_ne (by omega)]; exact h.g, by rw [heap_set_ne (by omega)]; exact h.p, by rw [heap_set_ne (by omega)]; exact h.r0, by rw [heap_set_ne (by omega)]; exact h.r1, l, by rw [heap_set h.s]; rfl⟩
theorem VIn.res0 (h : VIn w A c bs O oc d x0 x1 gs s0 s1 wr) (y : Rt) : VIn w A c bs O oc d y x1 gs s0 s1 ((wr.setCell ⟨w.heap.size + 2, 0, none⟩ (.int .i64 y.n)).setCell ⟨w.heap.size + 2, 1, none⟩ (.int .i64 y.d)) :=
  have l := h.lt
  ⟨(h.below.setCell (show w.heap.size ≤ _ by simp <;> omega) _).setCell (show w.heap.size ≤ _ by simp <;> omega) _, by rw [heap_set_ne (by omega), heap_set_ne (by omega)]; exact h.g, by rw [heap_set_ne (by omega), heap_set_ne (by omega)]; exact h.p, by rw [heap_set (heap_set h.r0)]; rfl, by rw [heap_set_ne (by omega), heap_set_ne (by omega)]; exact h.r1, l, by rw [heap_set_ne (by omega), heap_set_ne (by omega)]; exact h.s⟩
theorem VIn.res1 (h : VIn w A c bs O oc d x0 x1 gs s0 s1 wr) (y : Rt) : VIn w A c bs O oc d x0 y gs s0 s1 ((wr.setCell ⟨w.heap.size + 3, 0, none⟩ (.int .i64 y.n)).setCell ⟨w.heap.size + 3, 1, none⟩ (.int .i64 y.d)) :=
  have l := h.lt
  ⟨(h.below.setCell (show w.heap.size ≤ _ by simp <;> omega) _).setCell (show w.heap.size ≤ _ by simp <;> omega) _, by rw [heap_set_ne (by omega), heap_set_ne (by omega)]; exact h.g, by rw [heap_set_ne (by omega), heap_set_ne (by omega)]; exact h.p, by rw [heap_set_ne (by omega), heap_set_ne (by omega)]; exact h.r0, by rw [heap_set (heap_set h.r1)]; rfl, l, by rw [heap_set_ne (by omega), heap_set_ne (by omega)]; exact h.s⟩
theorem VIn.facts (h : VIn w A c bs O oc d x0 x1 gs s0 s1 wr) : (gs < wr.heap.size ∧ w.heap.size + 3 < wr.heap.size ∧ w.heap.size + 1 < wr.heap.size) ∧ (∀ j, wr.cell? ⟨w.heap.size, j, none⟩ = (#[Value.slice A bs.length c] : Array Value)[j]?) ∧ (∀ j, wr.cell? ⟨w.heap.size + 1, j, none⟩ = (#[Value.slice O d.ow.length oc, .int .i64 d.sp, .int .i64 d.p.n, .int .i64 d.p.d] : Array Value)[j]?)
    ∧ (∀ j, wr.cell? ⟨gs, j, none⟩ = (#[Value.int .i64 s0, .int .i64 s1] : Array Value)[j]?) ∧ (∀ j, wr.frozen? ⟨gs, j, none⟩ = false) :=
  ⟨⟨lt_some h.s, by have := lt_some h.r1; omega, by have := lt_some h.p; omega⟩, fun j => cell_of_row _ _ j _ _ _ h.g, fun j => cell_of_row _ _ j _ _ _ h.p, fun j => cell_of_row _ _ j _ _ _ h.s, fun j => frozen_of_row _ _ j _ _ h.s⟩
end

set_option maxRecDepth 100000 in
set_option maxHeartbeats 8000000 in
theorem avalues_any (bs : List (List Int)) (A : Option Addr) (c : Nat) (d : Pt) (O : Option Addr) (oc : Nat) (w : World) (h : GIn w.heap.size w A c bs) (hp : PIn w.heap.size w O oc d) :
    Calls Try.prog 10 #[gV A c bs, pV O oc d] w fun e w' => e = .returned (.tuple #[if d.code bs = 0 then rV (d.val bs 0) else rV ⟨0, 0⟩, if d.code bs = 0 then rV (d.val bs 1) else rV ⟨0, 0⟩, .int .i64 (d.code bs)]) ∧ Below w.heap.size w w' := by
  have HBel0 := Lib.hid (show Below w.heap.size w ((((w.alloc (gB A c bs)).alloc (pB O oc d)).alloc (rB ⟨0, 0⟩)).alloc (rB ⟨0, 0⟩)) from (((one_alloc w _).alloc (by simp) _).alloc (by simp; omega) _).alloc (by simp; omega) _)
  have hg0 : ((((w.alloc (gB A c bs)).alloc (pB O oc d)).alloc (rB ⟨0, 0⟩)).alloc (rB ⟨0, 0⟩)).heap[w.heap.size]? = some (gB A c bs) := heap_old (heap_old (heap_old (heap_new rfl)))
  have hp0 : ((((w.alloc (gB A c bs)).alloc (pB O oc d)).alloc (rB ⟨0, 0⟩)).alloc (rB ⟨0, 0⟩)).heap[w.heap.size + 1]? = some (pB O oc d) := heap_old (heap_old (heap_new (by simp)))
  have hr0 : ((((w.alloc (gB A c bs)).alloc (pB O oc d)).alloc (rB ⟨0, 0⟩)).alloc (rB ⟨0, 0⟩)).heap[w.heap.size + 2]? = some (rB ⟨0, 0⟩) := heap_old (heap_new (by simp))
  have hr1 : ((((w.alloc (gB A c bs)).alloc (pB O oc d)).alloc (rB ⟨0, 0⟩)).alloc (rB ⟨0, 0⟩)).heap[w.heap.size + 3]? = some (rB ⟨0, 0⟩) := heap_new (by simp)
  have HV := Lib.hid (fun (W : World) (hW : GIn W.heap.size W A c bs) (hP : PIn W.heap.size W O oc d) => avalid_any bs A c d O oc W hW hP)
  have HB := Lib.hid h
  have HP := Lib.hid hp
  clear h hp
  by_cases hc : d.code bs = 0
  rotate_left
  · rw [if_neg hc, if_neg hc]
    have q1 : (d.code bs != 0) = true := by simpa using hc
    clear hc
    generalize d.code bs = code at *
    go_enter Try.func10, Try.ntmps10
    go_wp2_with fail
    refine (HV.out _ (HB.out.next HBel0.out) (HP.out.next HBel0.out)).mono ?_
    rintro e w1 ⟨rfl, hb1⟩
    have hr0 := heap_ext hr0 hb1
    have hr1 := heap_ext hr1 hb1
    have c0 := fun j => cell_of_row _ _ j _ _ _ hr0
    have c1 := fun j => cell_of_row _ _ j _ _ _ hr1
    have f0 := fun j => frozen_of_row _ _ j _ _ hr0
    have f1 := fun j => frozen_of_row _ _ j _ _ hr1
    have z1 := lt_some hr1
    have z0 := lt_some hr0
    go_wp2_with fail
    exact bodyPost_ret (v := .tuple #[.agg #[.int .i64 0, .int .i64 0], .agg #[.int .i64 0, .int .i64 0], .int .i64 code]) (by simp [results, Try.results10, go_sem, c0, c1, f0, f1, z0, z1]) rfl ⟨rfl, ((((bcall HBel0.out HBel0.out.size hb1).setCell (show w.heap.size ≤ _ by simp <;> omega) _).setCell (show w.heap.size ≤ _ by simp <;> omega) _).setCell (show w.heap.size ≤ _ by simp <;> omega) _).setCell (show w.heap.size ≤ _ by simp <;> omega) _⟩
  rw [if_pos hc, if_pos hc]
  have HK := Lib.hid (ptOk hc)
  have q1 : (d.code bs != 0) = false := by simpa using hc
  rw [hc] at q1 HV ⊢
  clear hc
  have hn := HK.out.len
  have hn10 := HK.out.ad.n10
  obtain ⟨n, hne⟩ : ∃ n, n = (gr bs 0).length := ⟨_, rfl⟩
  rw [← hne] at hn hn10 HK
  have HNE := Lib.hid hne
  clear hne
  have HL := Lib.hid hn
  clear hn
  go_enter Try.func10, Try.ntmps10
  go_wp2_with fail
  refine (HV.out _ (HB.out.next HBel0.out) (HP.out.next HBel0.out)).mono ?_
  rintro e w1 ⟨rfl, hb1⟩
  have hV1 : VIn w A c bs O oc d ⟨0, 0⟩ ⟨0, 0⟩ w1.heap.size 0 0 (w1.alloc (.cells #[.int .i64 0, .int .i64 0] 59)) :=
    ⟨(bcall HBel0.out HBel0.out.size hb1).alloc (bcall HBel0.out HBel0.out.size hb1).size _, heap_old (heap_ext hg0 hb1), heap_old (heap_ext hp0 hb1), heap_old (heap_ext hr0 hb1), heap_old (heap_ext hr1 hb1), by have := lt_some (heap_ext hr1 hb1); omega, heap_new rfl⟩
  clear hb1 hg0 hp0 hr0 hr1 HV
  have HV1 := Lib.hid hV1
  clear hV1
  go_upto_region 5 with fail
  generalize w1.heap.size = gs at *
  generalize w1.alloc _ = w2 at *
  have hV2 := HV1.out
  clear HV1
  obtain ⟨z, cg, cp, cs, fs⟩ := hV2.facts
  have HV2 := Lib.hid hV2
  clear hV2
  go_wp2_with fail
  clear cg cp cs fs z
  go_loopw [9, 10, 22] (fun _ _ i wr => ∃ k : Nat, k ≤ n ∧ i = .int .i64 k ∧ VIn w A c bs O oc d ⟨0, 0⟩ ⟨0, 0⟩ gs (d.sum bs 0 k) (d.sum bs 1 k) wr) (fun _ _ i _ => n - (intOf i).toNat)
  case atStart => exact ⟨0, Nat.zero_le _, rfl, HV2.out⟩
  case round =>
    obtain ⟨k, hk, rfl, hVr⟩ := hrel
    have hlo : (d.ow.length : Int) = (n : Int) := by have := HL.out; omega
    by_cases hlt : k < n
    · have two := HK.out.ad.two
      obtain ⟨od, rfl, hob, hoc⟩ := HP.out.ow.at_ (show k < d.ow.length by rw [HL.out]; exact hlt)
      obtain ⟨bd, R0, c0, rfl, hb0, hc0, hl0, _, hi0⟩ := HB.out.at0 (show 0 < bs.length by omega)
      obtain ⟨bd', R1, c1, hAe', hb1, hc1, hl1, _, hi1⟩ := HB.out.at1 (show 1 < bs.length by omega)
      obtain rfl : bd = bd' := by simpa using hAe'
      obtain ⟨rd0, rfl, hrb0, hrc0⟩ := hi0.at_ (show k < (gr bs 0).length by have := HK.out.ad.l0; omega)
      obtain ⟨rd1, rfl, hrb1, hrc1⟩ := hi1.at_ (show k < (gr bs 1).length by have := HK.out.ad.l1; omega)
      have HF := Lib.hid (fun (W : World) (hb : Below w.heap.size w W) => show W.cell? bd = some (.slice (some rd0) (gr bs 0).length c0) ∧ W.cell? ⟨bd.block, bd.off + 1, none⟩ = some (.slice (some rd1) (gr bs 1).length c1) ∧ W.cell? (rd0.add k) = some (.int .i64 (gi (gr bs 0) k)) ∧ W.cell? (rd1.add k) = some (.int .i64 (gi (gr bs 1) k)) ∧ W.cell? (od.add k) = some (.int .i64 (gi d.ow k)) from
        ⟨(hb.cell hb0).trans hc0, (hb.cell (p := ⟨bd.block, bd.off + 1, none⟩) hb0).trans hc1, (hb.cell (by rw [block_add]; exact hrb0)).trans hrc0, (hb.cell (by rw [block_add]; exact hrb1)).trans hrc1, (hb.cell (by rw [block_add]; exact hob)).trans hoc⟩)
      clear hob hoc hb0 hc0 hi0 hb1 hc1 hi1 hAe' hrb0 hrc0 hrb1 hrc1
      have i0 : (0 : Int) < (bs.length : Int) := by omega
      have i0n : 0 < bs.length := by omega
      have i1n : 1 < bs.length := by omega
      have i1 : (1 : Int) < (bs.length : Int) := by omega
      have i2 : (k : Int) < ((gr bs 0).length : Int) := by have := HK.out.ad.l0; omega
      have i3 : (k : Int) < ((gr bs 1).length : Int) := by have := HK.out.ad.l1; omega
      have i4 : (k : Int) < (d.ow.length : Int) := by omega
      have i5 : (0 : Int) ≤ (k : Int) := by omega
      have T0 := Lib.hid (HK.out.term_bd (i := 0) (by omega) hlt)
      have T1 := Lib.hid (HK.out.term_bd (i := 1) (by omega) hlt)
      have S0 := HK.out.sum_bd (i := 0) (by omega) hk
      have S1 := HK.out.sum_bd (i := 1) (by omega) hk
      have HOW := Lib.hid (HK.out.ow k hlt)
      have hd0 := HK.out.d0; have hd1 := HK.out.d1; have hn0 := HK.out.n0; have hn1 := HK.out.n1
      clear two hlo
      obtain ⟨z, cg, cp, cs, fs⟩ := hVr.facts
      obtain ⟨f0, f1, f2, f3, f4⟩ := HF.out wr hVr.below
      by_cases hs : (k : Int) = d.sp
      · have q : ((k : Int) == d.sp) = true := by simpa using hs
        have t0 : d.term bs 0 k = gi (gr bs 0) k * d.p.n := by unfold Pt.term; rw [if_pos hs]; rfl
        have t1 : d.term bs 1 k = gi (gr bs 1) k * (d.p.d - d.p.n) := by unfold Pt.term; rw [if_pos hs]; rfl
        have b0 := T0.out; have b1 := T1.out
        have HS0 := Lib.hid (Pt.sum_succ bs d 0 k)
        have HS1 := Lib.hid (Pt.sum_succ bs d 1 k)
        rw [t0] at HS0 b0
        rw [t1] at HS1 b1
        have m0 : IntKind.i64.wrap (gi (gr bs 0) k * d.p.n) = gi (gr bs 0) k * d.p.n := IntWalk.i64_in _ (by omega)
        have m1 : IntKind.i64.wrap (d.p.d - d.p.n) = d.p.d - d.p.n := IntWalk.i64_in _ (by omega)
        have m2 : IntKind.i64.wrap (gi (gr bs 1) k * (d.p.d - d.p.n)) = gi (gr bs 1) k * (d.p.d - d.p.n) := IntWalk.i64_in _ (by omega)
        have m0' : wrap64 (gi (gr bs 0) k * d.p.n) = gi (gr bs 0) k * d.p.n := IntWalk.wrap64_in _ (by omega)
        have m2' : wrap64 (gi (gr bs 1) k * (d.p.d - d.p.n)) = gi (gr bs 1) k * (d.p.d - d.p.n) := IntWalk.wrap64_in _ (by omega)
        generalize d.sum bs 0 k = s0 at *
        generalize d.sum bs 1 k = s1 at *
        have m3 : IntKind.i64.wrap (s0 + gi (gr bs 0) k * d.p.n) = s0 + gi (gr bs 0) k * d.p.n := IntWalk.i64_in _ (by omega)
        have m4 : IntKind.i64.wrap (s1 + gi (gr bs 1) k * (d.p.d - d.p.n)) = s1 + gi (gr bs 1) k * (d.p.d - d.p.n) := IntWalk.i64_in _ (by omega)
        have m3' : wrap64 (s0 + gi (gr bs 0) k * d.p.n) = s0 + gi (gr bs 0) k * d.p.n := IntWalk.wrap64_in _ (by omega)
        have m4' : wrap64 (s1 + gi (gr bs 1) k * (d.p.d - d.p.n)) = s1 + gi (gr bs 1) k * (d.p.d - d.p.n) := IntWalk.wrap64_in _ (by omega)
        clear hs t0 t1 T0 T1 b0 b1
        go_upto_region 9 with fail
        go_still_tail 15, (by kernel_rfl)
        change wpList _ _ _ _ _ wr.drew
        have hVD := hVr.drew
        clear z cg cp cs fs f0 f1 f2 f3 f4
        clear hVr
        generalize wr.drew = wd at hVD ⊢
        obtain ⟨z, cg, cp, cs, fs⟩ := hVD.facts
        obtain ⟨f0, f1, f2, f3, f4⟩ := HF.out wd hVD.below
        go_upto_region 10 with fail
        have hVE := hVD.set0 (s0 + gi (gr bs 0) k * d.p.n)
        clear z cg cp cs fs f0 f1 f2 f3 f4
        clear hVD
        generalize wd.setCell _ _ = we at hVE ⊢
        obtain ⟨z, cg, cp, cs, fs⟩ := hVE.facts
        obtain ⟨f0, f1, f2, f3, f4⟩ := HF.out we hVE.below
        go_still_tail 19, (by kernel_rfl)
        change wpList _ _ _ _ _ we.drew
        have hVF := hVE.drew
        clear z cg cp cs fs f0 f1 f2 f3 f4
        clear hVE
        generalize we.drew = wf at hVF ⊢
        obtain ⟨z, cg, cp, cs, fs⟩ := hVF.facts
        obtain ⟨f0, f1, f2, f3, f4⟩ := HF.out wf hVF.below
        have hVG := hVF.set1 (s1 + gi (gr bs 1) k * (d.p.d - d.p.n))
        have HVG := Lib.hid hVG
        clear hVG
        go_wp2_with fail
        go_roundw
        case rel => exact ⟨k + 1, by omega, by go_num, by rw [HS0.out, HS1.out]; exact HVG.out⟩
        case measure => simp [intOf]; omega
      · have q : ((k : Int) == d.sp) = false := by simpa using hs
        rcases HOW.out with ho | ho
        · have t0 : d.term bs 0 k = gi (gr bs 0) k * d.p.d := by unfold Pt.term; rw [if_neg hs]; simp [ho]
          have t1 : d.term bs 1 k = 0 := by unfold Pt.term; rw [if_neg hs]; simp [ho]
          have b0 := T0.out
          have HS0 := Lib.hid (Pt.sum_succ bs d 0 k)
          have HS1 := Lib.hid (Pt.sum_succ bs d 1 k)
          rw [t0] at HS0 b0
          rw [t1, Int.add_zero] at HS1
          rw [ho] at f4
          have m0 : IntKind.i64.wrap (gi (gr bs 0) k * d.p.d) = gi (gr bs 0) k * d.p.d := IntWalk.i64_in _ (by omega)
          have m0' : wrap64 (gi (gr bs 0) k * d.p.d) = gi (gr bs 0) k * d.p.d := IntWalk.wrap64_in _ (by omega)
          have HG4 := Lib.hid ho
          clear hs t0 t1 T0 T1 HOW ho
          generalize d.sum bs 0 k = s0 at *
          generalize d.sum bs 1 k = s1 at *
          have m3 : IntKind.i64.wrap (s0 + gi (gr bs 0) k * d.p.d) = s0 + gi (gr bs 0) k * d.p.d := IntWalk.i64_in _ (by omega)
          have m3' : wrap64 (s0 + gi (gr bs 0) k * d.p.d) = s0 + gi (gr bs 0) k * d.p.d := IntWalk.wrap64_in _ (by omega)
          clear b0
          go_upto_region 11 with fail
          go_still_tail 17, (by kernel_rfl)
          change wpList _ _ _ _ _ wr.drew
          have hVD := hVr.drew
          clear z cg cp cs fs f0 f1 f2 f3 f4
          clear hVr
          generalize wr.drew = wd at hVD ⊢
          obtain ⟨z, cg, cp, cs, fs⟩ := hVD.facts
          obtain ⟨f0, f1, f2, f3, f4⟩ := HF.out wd hVD.below
          rw [HG4.out] at f4
          have HVG := Lib.hid (hVD.set0 (s0 + gi (gr bs 0) k * d.p.d))
          clear hVD
          go_wp2_with fail
          go_roundw
          case rel => exact ⟨k + 1, by omega, by go_num, by rw [HS0.out, HS1.out]; exact HVG.out⟩
          case measure => simp [intOf]; omega
        · have t1 : d.term bs 1 k = gi (gr bs 1) k * d.p.d := by unfold Pt.term; rw [if_neg hs]; simp [ho]
          have t0 : d.term bs 0 k = 0 := by unfold Pt.term; rw [if_neg hs]; simp [ho]
          have b0 := T1.out
          have HS1 := Lib.hid (Pt.sum_succ bs d 1 k)
          have HS0 := Lib.hid (Pt.sum_succ bs d 0 k)
          rw [t1] at HS1 b0
          rw [t0, Int.add_zero] at HS0
          rw [ho] at f4
          have m0 : IntKind.i64.wrap (gi (gr bs 1) k * d.p.d) = gi (gr bs 1) k * d.p.d := IntWalk.i64_in _ (by omega)
          have m0' : wrap64 (gi (gr bs 1) k * d.p.d) = gi (gr bs 1) k * d.p.d := IntWalk.wrap64_in _ (by omega)
          have HG4 := Lib.hid ho
          clear hs t0 t1 T0 T1 HOW ho
          generalize d.sum bs 0 k = s0 at *
          generalize d.sum bs 1 k = s1 at *
          have m3 : IntKind.i64.wrap (s1 + gi (gr bs 1) k * d.p.d) = s1 + gi (gr bs 1) k * d.p.d := IntWalk.i64_in _ (by omega)
          have m3' : wrap64 (s1 + gi (gr bs 1) k * d.p.d) = s1 + gi (gr bs 1) k * d.p.d := IntWalk.wrap64_in _ (by omega)
          clear b0
          go_upto_region 11 with fail
          go_still_tail 17, (by kernel_rfl)
          change wpList _ _ _ _ _ wr.drew
          have hVD := hVr.drew
          clear z cg cp cs fs f0 f1 f2 f3 f4
          clear hVr
          generalize wr.drew = wd at hVD ⊢
          obtain ⟨z, cg, cp, cs, fs⟩ := hVD.facts
          obtain ⟨f0, f1, f2, f3, f4⟩ := HF.out wd hVD.below
          rw [HG4.out] at f4
          have HVG := Lib.hid (hVD.set1 (s1 + gi (gr bs 1) k * d.p.d))
          clear hVD
          go_wp2_with fail
          go_roundw
          case rel => exact ⟨k + 1, by omega, by go_num, by rw [HS0.out, HS1.out]; exact HVG.out⟩
          case measure => simp [intOf]; omega
    · obtain rfl : k = n := by omega
      have S0 := HK.out.sum_bd (i := 0) (by omega) (Nat.le_refl k)
      have S1 := HK.out.sum_bd (i := 1) (by omega) (Nat.le_refl k)
      have hd0 := HK.out.d0; have hd1 := HK.out.d1
      have HM0 := Lib.hid (fun (W : World) => rmake_any (d.sum bs 0 k) d.p.d (by omega) (by omega) (by omega) (by omega) W)
      have HM1 := Lib.hid (fun (W : World) => rmake_any (d.sum bs 1 k) d.p.d (by omega) (by omega) (by omega) (by omega) W)
      rw [HK.out.make 0] at HM0
      rw [HK.out.make 1] at HM1
      obtain ⟨R0, hR0⟩ : ∃ R, R = d.val bs 0 := ⟨_, rfl⟩
      obtain ⟨R1, hR1⟩ : ∃ R, R = d.val bs 1 := ⟨_, rfl⟩
      rw [← hR0] at HM0
      rw [← hR1] at HM1
      have HR0 := Lib.hid hR0
      have HR1 := Lib.hid hR1
      clear hR0 hR1
      generalize makeC (d.sum bs 0 k) d.p.d = C0 at *
      generalize makeC (d.sum bs 1 k) d.p.d = C1 at *
      generalize d.sum bs 0 k = s0 at *
      generalize d.sum bs 1 k = s1 at *
      clear S0 S1 hd0 hd1
      have HVr := Lib.hid hVr
      obtain ⟨z, cg, cp, cs, fs⟩ := hVr.facts
      clear hVr
      go_wp2_with fail
      refine (HM0.out _).mono ?_
      rintro e w5 ⟨rfl, hb5⟩
      have hV5 := HVr.out.next hb5
      clear z cg cp cs fs hb5 HVr
      have c2 := fun j => cell_of_row _ _ j _ _ _ hV5.r0
      have f2 := fun j => frozen_of_row _ _ j _ _ hV5.r0
      have HV6 := Lib.hid (hV5.res0 R0)
      obtain ⟨⟨z1, z2, z3⟩, cg, cp, cs, fs⟩ := hV5.facts
      clear hV5
      go_upto_region 14 with fail
      clear c2 f2 z1 z2 z3 cg cp cs fs
      generalize (w5.setCell _ _).setCell _ _ = w6 at *
      obtain ⟨⟨z1, z2, z3⟩, cg, cp, cs, fs⟩ := HV6.out.facts
      go_wp2_with fail
      refine (HM1.out _).mono ?_
      rintro e w7 ⟨rfl, hb7⟩
      have hV7 := HV6.out.next hb7
      clear z1 z2 z3 cg cp cs fs hb7 HV6
      have c3 := fun j => cell_of_row _ _ j _ _ _ hV7.r1
      have f3 := fun j => frozen_of_row _ _ j _ _ hV7.r1
      have HV8 := Lib.hid (hV7.res1 R1)
      obtain ⟨⟨z1, z2, z3⟩, cg, cp, cs, fs⟩ := hV7.facts
      clear hV7
      go_upto_region 15 with fail
      clear c3 f3 z1 z2 z3 cg cp cs fs
      generalize (w7.setCell _ _).setCell _ _ = w8 at *
      have hV8 := HV8.out
      have c2 := fun j => cell_of_row _ _ j _ _ _ hV8.r0
      have f2 := fun j => frozen_of_row _ _ j _ _ hV8.r0
      have c3 := fun j => cell_of_row _ _ j _ _ _ hV8.r1
      have f3 := fun j => frozen_of_row _ _ j _ _ hV8.r1
      have z2 := lt_some hV8.r0
      have z3 := lt_some hV8.r1
      clear hV8
      go_region
      all_goals
        go_wp2_with fail
        refine bodyPost_ret (v := .tuple #[rV R0, rV R1, .int .i64 0]) (by simp [results, Try.results10, go_sem, c2, c3, f2, f3, z2, z3]) rfl ⟨by rw [HR0.out, HR1.out], ?_⟩
        first
          | exact ((((HV8.out.below.setCell (show w.heap.size ≤ _ by simp <;> omega) _).setCell (show w.heap.size ≤ _ by simp <;> omega) _).setCell (show w.heap.size ≤ _ by simp <;> omega) _).setCell (show w.heap.size ≤ _ by simp <;> omega) _).drew
          | exact ((((HV8.out.below.drew.setCell (show w.heap.size ≤ _ by simp <;> omega) _).setCell (show w.heap.size ≤ _ by simp <;> omega) _).setCell (show w.heap.size ≤ _ by simp <;> omega) _).setCell (show w.heap.size ≤ _ by simp <;> omega) _)
end Go.Proofs.Ytcjfcfgkejoeeaa
