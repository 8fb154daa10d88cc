/- Value and Values of adjust's reference, walked. -/
import Derived.Test.YtcjfcfgkejoeeaaAdE
import Derived.Test.YtcjfcfgkejoeeaaAdV
import Derived.Test.YtcjfcfgkejoeeaaRfF
import Derived.Test.YtcjfcfgkejoeeaaGrow
import Derived.Deep.RegionWith
namespace Go.Proofs.Ytcjfcfgkejoeeaa
open Go.RowKit Go.Deep
set_option linter.unusedVariables false
set_option linter.unusedSimpArgs false

/-- What Value keeps in memory: the goods, the division, the result, the sum. -/
structure FIn (w : World) (A : Option Addr) (c : Nat) (bs : List (List Int)) (O : Option Addr) (oc : Nat) (d : Pt) (gs : Nat) (s : Rt) (wr : World) : Prop where
  below : Below w.heap.size w wr
  g : wr.heap[w.heap.size]? = some (gB A c bs)
  p : wr.heap[w.heap.size + 1]? = some (pB O oc d)
  r : wr.heap[w.heap.size + 2]? = some (rB ⟨0, 0⟩)
  lt : w.heap.size + 3 ≤ gs
  s : wr.heap[gs]? = some (rB s)
/-- The same, with a good's value and the part. -/
structure FIn2 (w : World) (A : Option Addr) (c : Nat) (bs : List (List Int)) (O : Option Addr) (oc : Nat) (d : Pt) (gs : Nat) (s : Rt) (g9 : Nat) (x q : Rt) (wr : World) : Prop where
  f : FIn w A c bs O oc d gs s wr
  lt9 : gs < g9
  x : wr.heap[g9]? = some (rB x)
  q : wr.heap[g9 + 1]? = some (rB q)
section
variable {w : World} {A : Option Addr} {c : Nat} {bs : List (List Int)} {O : Option Addr} {oc : Nat} {d : Pt} {gs g9 : Nat} {s x q : Rt} {wr w1 : World}
theorem FIn.next (h : FIn w A c bs O oc d gs s wr) (hb : Below wr.heap.size wr w1) : FIn w A c bs O oc d gs s w1 :=
  ⟨bcall h.below h.below.size hb, heap_ext h.g hb, heap_ext h.p hb, heap_ext h.r hb, h.lt, heap_ext h.s hb⟩
theorem FIn2.next (h : FIn2 w A c bs O oc d gs s g9 x q wr) (hb : Below wr.heap.size wr w1) : FIn2 w A c bs O oc d gs s g9 x q w1 := ⟨h.f.next hb, h.lt9, heap_ext h.x hb, heap_ext h.q hb⟩
theorem FIn.drew (h : FIn w A c bs O oc d gs s wr) : FIn w A c bs O oc d gs s wr.drew := ⟨h.below.drew, h.g, h.p, h.r, h.lt, h.s⟩
theorem FIn2.drew (h : FIn2 w A c bs O oc d gs s g9 x q wr) : FIn2 w A c bs O oc d gs s g9 x q wr.drew := ⟨h.f.drew, h.lt9, h.x, h.q⟩
theorem FIn.other (h : FIn w A c bs O oc d gs s wr) {g : Nat} (hg : gs < g) (j : Nat) (u : Value) : FIn w A c bs O oc d gs s (wr.setCell ⟨g, j, none⟩ u) :=
  have l := h.lt
  ⟨h.below.setCell (show w.heap.size ≤ g by omega) _, by rw [heap_set_ne (by omega)]; exact h.g, by rw [heap_set_ne (by omega)]; exact h.p, by rw [heap_set_ne (by omega)]; exact h.r, l, by rw [heap_set_ne (by omega)]; exact h.s⟩
theorem FIn.setS (h : FIn w A c bs O oc d gs s wr) (y : Rt) : FIn w A c bs O oc d gs y ((wr.setCell ⟨gs, 0, none⟩ (.int .i64 y.n)).setCell ⟨gs, 1, none⟩ (.int .i64 y.d)) :=
  have l := h.lt
  ⟨(h.below.setCell (show w.heap.size ≤ gs by omega) _).setCell (show w.heap.size ≤ gs by omega) _, by rw [heap_set_ne (by omega), heap_set_ne (by omega)]; exact h.g, by rw [heap_set_ne (by omega), heap_set_ne (by omega)]; exact h.p, by rw [heap_set_ne (by omega), heap_set_ne (by omega)]; exact h.r, l, by rw [heap_set (heap_set h.s)]; rfl⟩
theorem FIn2.setX (h : FIn2 w A c bs O oc d gs s g9 x q wr) (y : Rt) : FIn2 w A c bs O oc d gs s g9 y q ((wr.setCell ⟨g9, 0, none⟩ (.int .i64 y.n)).setCell ⟨g9, 1, none⟩ (.int .i64 y.d)) :=
  ⟨(h.f.other h.lt9 _ _).other h.lt9 _ _, h.lt9, by rw [heap_set (heap_set h.x)]; rfl, by rw [heap_set_ne (by omega), heap_set_ne (by omega)]; exact h.q⟩
theorem FIn2.setQ (h : FIn2 w A c bs O oc d gs s g9 x q wr) (y : Rt) : FIn2 w A c bs O oc d gs s g9 x y ((wr.setCell ⟨g9 + 1, 0, none⟩ (.int .i64 y.n)).setCell ⟨g9 + 1, 1, none⟩ (.int .i64 y.d)) :=
  have l := h.lt9
  ⟨(h.f.other (by omega) _ _).other (by omega) _ _, h.lt9, by rw [heap_set_ne (by omega), heap_set_ne (by omega)]; exact h.x, by rw [heap_set (heap_set h.q)]; rfl⟩
theorem FIn.more (h : FIn w A c bs O oc d gs s wr) (x q : Rt) : FIn2 w A c bs O oc d gs s wr.heap.size x q ((wr.alloc (rB x)).alloc (rB q)) :=
  ⟨(h.next (one_alloc _ _)).next (one_alloc _ _), lt_some h.s, heap_old (heap_new rfl), heap_new (by simp)⟩
theorem FIn.facts (h : FIn w A c bs O oc d gs s wr) : (gs < wr.heap.size ∧ w.heap.size + 2 < wr.heap.size ∧ w.heap.size + 1 < wr.heap.size) ∧ (∀ j, wr.cell? ⟨w.heap.size, j, none⟩ = (#[Value.slice A bs.length c] : Array Value)[j]?) ∧ (∀ j, wr.cell? ⟨w.heap.size + 1, j, none⟩ = (#[Value.slice O d.ow.length oc, .int .i64 d.sp, .int .i64 d.p.n, .int .i64 d.p.d] : Array Value)[j]?) :=
  ⟨⟨lt_some h.s, by have := lt_some h.r; omega, by have := lt_some h.p; omega⟩, fun j => cell_of_row _ _ j _ _ _ h.g, fun j => cell_of_row _ _ j _ _ _ h.p⟩
end

set_option maxRecDepth 100000 in
set_option maxHeartbeats 8000000 in
theorem fvalue0_any (bs : List (List Int)) (A : Option Addr) (c : Nat) (d : Pt) (O : Option Addr) (oc : Nat) (n : Nat) (w : World) (h : GIn w.heap.size w A c bs) (hp : PIn w.heap.size w O oc d) (hk : PtOk bs d n) :
    Calls Try.prog 26 #[gV A c bs, pV O oc d, .int .i64 0] w fun e w' => e = .returned (rV (d.val bs 0)) ∧ Below w.heap.size w w' := by
  have HBel0 := Lib.hid (show Below w.heap.size w (((w.alloc (gB A c bs)).alloc (pB O oc d)).alloc (rB ⟨0, 0⟩)) from ((one_alloc w _).alloc (by simp) _).alloc (by simp; omega) _)
  have hg0 : (((w.alloc (gB A c bs)).alloc (pB O oc d)).alloc (rB ⟨0, 0⟩)).heap[w.heap.size]? = some (gB A c bs) := heap_old (heap_old (heap_new rfl))
  have hp0 : (((w.alloc (gB A c bs)).alloc (pB O oc d)).alloc (rB ⟨0, 0⟩)).heap[w.heap.size + 1]? = some (pB O oc d) := heap_old (heap_new (by simp))
  have hr0 : (((w.alloc (gB A c bs)).alloc (pB O oc d)).alloc (rB ⟨0, 0⟩)).heap[w.heap.size + 2]? = some (rB ⟨0, 0⟩) := heap_new (by simp)
  have HB := Lib.hid h
  have HP := Lib.hid hp
  have HK := Lib.hid hk
  have HOF := Lib.hid (fun (n : Int) (W : World) => of_any n W)
  have HL := Lib.hid hk.len
  have HVAL := Lib.hid (hk.up_last 0)
  have HZ := Lib.hid (hk.up_zero 0)
  have n10 := hk.ad.n10
  clear h hp hk
  rw [← HVAL.out]
  go_enter Try.func26, Try.ntmps26
  go_wp2_with fail
  refine (HOF.out 0 _).mono ?_
  rintro e w1 ⟨rfl, hb1⟩
  have hV1 : FIn w A c bs O oc d w1.heap.size ⟨0, 1⟩ (w1.alloc (rB ⟨0, 1⟩)) :=
    ⟨(bcall HBel0.out HBel0.out.size hb1).alloc (bcall HBel0.out HBel0.out.size hb1).size _, heap_old (heap_ext hg0 hb1), heap_old (heap_ext hp0 hb1), heap_old (heap_ext hr0 hb1), by have := lt_some (heap_ext hr0 hb1); omega, heap_new rfl⟩
  clear hb1 hg0 hp0 hr0
  rw [← HZ.out] at hV1
  have HV1 := Lib.hid hV1
  clear hV1
  go_upto_region 2 with fail
  have HE := Lib.hid (show w1.alloc (.cells #[.int .i64 0, .int .i64 1] 27) = w1.alloc (rB (d.upTo bs 0 0)) by rw [HZ.out])
  rw [HE.out]
  generalize w1.heap.size = gs at *
  generalize w1.alloc _ = w2 at *
  clear HE HZ HVAL
  go_wp2_with fail
  go_loopw [8, 9, 10] (fun i_ _ _ wr => ∃ k : Nat, k ≤ n ∧ i_ = .int .i64 k ∧ FIn w A c bs O oc d gs (d.upTo bs 0 k) wr) (fun i_ _ _ _ => n - (intOf i_).toNat)
  case atStart => exact ⟨0, Nat.zero_le _, rfl, HV1.out⟩
  case round =>
    obtain ⟨k, hk, rfl, hVr⟩ := hrel
    have hlo : (d.ow.length : Int) = (n : Int) := by have := HL.out; omega
    by_cases hlt : k < n
    · have two := HK.out.ad.two
      obtain ⟨od, rfl, hob, hoc⟩ := HP.out.ow.at_ (show k < d.ow.length by rw [HL.out]; exact hlt)
      obtain ⟨bd, R0, c0, rfl, hb0, hc0, hl0, _, hi0⟩ := HB.out.at0 (show 0 < bs.length by omega)
      obtain ⟨rd0, rfl, hrb0, hrc0⟩ := hi0.at_ (show k < (gr bs 0).length by have := HK.out.ad.l0; omega)
      have HF := Lib.hid (fun (W : World) (hb : Below w.heap.size w W) => show W.cell? bd = some (.slice (some rd0) (gr bs 0).length c0) ∧ W.cell? (rd0.add k) = some (.int .i64 (gi (gr bs 0) k)) ∧ W.cell? (od.add k) = some (.int .i64 (gi d.ow k)) from
        ⟨(hb.cell hb0).trans hc0, (hb.cell (by rw [block_add]; exact hrb0)).trans hrc0, (hb.cell (by rw [block_add]; exact hob)).trans hoc⟩)
      clear hob hoc hb0 hc0 hi0 hrb0 hrc0
      have i0 : (0 : Int) < (bs.length : Int) := by omega
      have i0n : 0 < bs.length := by omega
      have i2 : (k : Int) < ((gr bs 0).length : Int) := by have := HK.out.ad.l0; omega
      have i4 : (k : Int) < (d.ow.length : Int) := by omega
      have i5 : (0 : Int) ≤ (k : Int) := by omega
      have HTS := Lib.hid (fun hs => HK.out.term_split (i := 0) (by omega) hlt hs)
      have HTW := Lib.hid (fun hs ho => HK.out.term_whole (i := 0) (by omega) hlt hs ho)
      have HTN := Lib.hid (fun hs ho => HK.out.term_none (i := 0) (k := k) hs ho)
      have HADD := Lib.hid (fun (x : Rt) ox ex => HK.out.add (i := 0) (by omega) hlt (x := x) ox ex)
      have HUP := Lib.hid (HK.out.up (i := 0) (by omega) hk)
      have HPO := Lib.hid (HK.out.part_ok 0)
      have HVO := Lib.hid (HK.out.v (i := 0) (by omega) hlt)
      clear two hlo
      obtain ⟨z, cg, cp⟩ := hVr.facts
      obtain ⟨f0, f1, f2⟩ := HF.out wr hVr.below
      have HVr := Lib.hid hVr
      clear hVr
      go_wp2_with fail
      refine (HOF.out _ _).mono ?_
      rintro e w3 ⟨rfl, hb3⟩
      have hV3 := HVr.out.next hb3
      clear z cg cp f0 f1 f2 hb3 HVr
      have z9 := hV3.more ⟨gi (gr bs 0) k, 1⟩ d.p
      obtain ⟨z, cg, cp⟩ := hV3.facts
      clear hV3
      go_upto_region 7 with fail
      have HV5 := Lib.hid z9
      clear z cg cp z9
      generalize hg9 : w3.heap.size = g9 at *
      generalize (w3.alloc _).alloc _ = w5 at *
      clear hg9
      have HV6 := Lib.hid (show FIn2 w (some bd) c bs (some od) oc d gs (d.upTo bs 0 k) g9 ⟨gi (gr bs 0) k, 1⟩ (d.part 0) w5 from HV5.out)
      clear HV5
      have o1 := of_ok (n := gi (gr bs 0) k) (by have := HVO.out; omega) (by have := HVO.out; omega)
      have O1 := Lib.hid o1
      clear o1
      obtain ⟨z, cg, cp⟩ := HV6.out.f.facts
      obtain ⟨f0, f1, f2⟩ := HF.out _ HV6.out.f.below
      by_cases hs : (k : Int) = d.sp
      · have q : ((k : Int) == d.sp) = true := by simpa using hs
        have TS := Lib.hid (HTS.out hs)
        have HMU := Lib.hid (fun (W : World) => fmul_any ⟨gi (gr bs 0) k, 1⟩ (d.part 0) O1.out.wf HPO.out.wf W)
        have HAD := Lib.hid (fun (W : World) => fadd_any (d.upTo bs 0 k) (mulR ⟨gi (gr bs 0) k, 1⟩ (d.part 0)) HUP.out.1.wf TS.out.1.wf W)
        rw [HADD.out _ TS.out.1 TS.out.2] at HAD
        clear hs TS HTS HTW HTN HADD
        obtain ⟨UP, hU⟩ : ∃ U, U = d.upTo bs 0 (k + 1) := ⟨_, rfl⟩
        rw [← hU] at HAD
        have HU := Lib.hid hU
        clear hU
        generalize addC (d.upTo bs 0 k) (mulR ⟨gi (gr bs 0) k, 1⟩ (d.part 0)) = AC at *
        generalize mulC ⟨gi (gr bs 0) k, 1⟩ (d.part 0) = MC at *
        generalize mulR ⟨gi (gr bs 0) k, 1⟩ (d.part 0) = MX at *
        have c9 := fun j => cell_of_row _ _ j _ _ _ HV6.out.x
        have c10 := fun j => cell_of_row _ _ j _ _ _ HV6.out.q
        go_wp2_with fail
        refine (HMU.out _).mono ?_
        rintro e w6 ⟨rfl, hb6⟩
        have hV6 := HV6.out.next hb6
        clear hb6 c9 c10 z cg cp f0 f1 f2
        have c9 := fun j => cell_of_row _ _ j _ _ _ hV6.x
        have f9 := fun j => frozen_of_row _ _ j _ _ hV6.x
        have hV7 := hV6.setX MX
        clear hV6 HV6
        go_upto_region 12 with fail
        clear c9 f9
        generalize (w6.setCell _ _).setCell _ _ = w7 at *
        have c9 := fun j => cell_of_row _ _ j _ _ _ hV7.x
        have c7 := fun j => cell_of_row _ _ j _ _ _ hV7.f.s
        have HV7 := Lib.hid hV7
        clear hV7
        go_wp2_with fail
        refine (HAD.out _).mono ?_
        rintro e w8 ⟨rfl, hb8⟩
        have hV8 := HV7.out.f.next hb8
        clear c9 c7 hb8 HV7
        have c7 := fun j => cell_of_row _ _ j _ _ _ hV8.s
        have f7 := fun j => frozen_of_row _ _ j _ _ hV8.s
        have HV9 := Lib.hid (hV8.setS UP)
        clear hV8
        go_wp2_with fail
        go_roundw
        case rel => exact ⟨k + 1, by omega, by go_num, by rw [← HU.out]; exact HV9.out⟩
        case measure => simp [intOf]; omega
      · have q : ((k : Int) == d.sp) = false := by simpa using hs
        by_cases ho : gi d.ow k = 0
        · have q2 : (gi d.ow k != 0) = false := by simpa using ho
          have TS := Lib.hid (HTW.out hs (by simpa using ho))
          have HAD := Lib.hid (fun (W : World) => fadd_any (d.upTo bs 0 k) ⟨gi (gr bs 0) k, 1⟩ HUP.out.1.wf TS.out.1.wf W)
          rw [HADD.out _ TS.out.1 TS.out.2] at HAD
          clear hs ho TS HTS HTW HTN HADD
          obtain ⟨UP, hU⟩ : ∃ U, U = d.upTo bs 0 (k + 1) := ⟨_, rfl⟩
          rw [← hU] at HAD
          have HU := Lib.hid hU
          clear hU
          generalize addC (d.upTo bs 0 k) ⟨gi (gr bs 0) k, 1⟩ = AC at *
          have hV7 := HV6.out
          clear HV6
          have c9 := fun j => cell_of_row _ _ j _ _ _ hV7.x
          have c7 := fun j => cell_of_row _ _ j _ _ _ hV7.f.s
          have HV7 := Lib.hid hV7
          clear hV7
          go_wp2_with fail
          refine (HAD.out _).mono ?_
          rintro e w8 ⟨rfl, hb8⟩
          have hV8 := HV7.out.f.next hb8
          clear c9 c7 hb8 HV7
          have c7 := fun j => cell_of_row _ _ j _ _ _ hV8.s
          have f7 := fun j => frozen_of_row _ _ j _ _ hV8.s
          have HV9 := Lib.hid (hV8.setS UP)
          clear hV8
          go_wp2_with fail
          go_roundw
          case rel => exact ⟨k + 1, by omega, by go_num, by rw [← HU.out]; exact HV9.out⟩
          case measure => simp [intOf]; omega
        · have q2 : (gi d.ow k != 0) = true := by simpa using ho
          have HN := Lib.hid (HTN.out hs (by simpa using ho))
          clear hs ho HTS HTW HTN HADD
          go_wp2_with fail
          go_roundw
          case rel => exact ⟨k + 1, by omega, by go_num, by rw [HN.out]; exact HV6.out.f⟩
          case measure => simp [intOf]; omega
    · obtain rfl : k = n := by omega
      obtain ⟨R, hR⟩ : ∃ R, R = d.upTo bs 0 k := ⟨_, rfl⟩
      rw [← hR] at hVr
      have HR := Lib.hid hR
      clear hR
      obtain ⟨z, cg, cp⟩ := hVr.facts
      have cs := fun j => cell_of_row _ _ j _ _ _ hVr.s
      have cr := fun j => cell_of_row _ _ j _ _ _ hVr.r
      have fr := fun j => frozen_of_row _ _ j _ _ hVr.r
      have zr := lt_some hVr.r
      have HB9 := Lib.hid hVr.below
      clear hVr
      go_wp2_with fail
      exact bodyPost_ret (v := .agg #[.int .i64 R.n, .int .i64 R.d]) (by simp [results, Try.results26, go_sem, cr, fr, zr]) rfl ⟨by rw [← HR.out], (HB9.out.setCell (show w.heap.size ≤ _ by simp <;> omega) _).setCell (show w.heap.size ≤ _ by simp <;> omega) _⟩

set_option maxRecDepth 100000 in
set_option maxHeartbeats 8000000 in
theorem fvalue1_any (bs : List (List Int)) (A : Option Addr) (c : Nat) (d : Pt) (O : Option Addr) (oc : Nat) (n : Nat) (w : World) (h : GIn w.heap.size w A c bs) (hp : PIn w.heap.size w O oc d) (hk : PtOk bs d n) :
    Calls Try.prog 26 #[gV A c bs, pV O oc d, .int .i64 1] w fun e w' => e = .returned (rV (d.val bs 1)) ∧ Below w.heap.size w w' := by
  have HBel0 := Lib.hid (show Below w.heap.size w (((w.alloc (gB A c bs)).alloc (pB O oc d)).alloc (rB ⟨0, 0⟩)) from ((one_alloc w _).alloc (by simp) _).alloc (by simp; omega) _)
  have hg0 : (((w.alloc (gB A c bs)).alloc (pB O oc d)).alloc (rB ⟨0, 0⟩)).heap[w.heap.size]? = some (gB A c bs) := heap_old (heap_old (heap_new rfl))
  have hp0 : (((w.alloc (gB A c bs)).alloc (pB O oc d)).alloc (rB ⟨0, 0⟩)).heap[w.heap.size + 1]? = some (pB O oc d) := heap_old (heap_new (by simp))
  have hr0 : (((w.alloc (gB A c bs)).alloc (pB O oc d)).alloc (rB ⟨0, 0⟩)).heap[w.heap.size + 2]? = some (rB ⟨0, 0⟩) := heap_new (by simp)
  have HB := Lib.hid h
  have HP := Lib.hid hp
  have HK := Lib.hid hk
  have HOF := Lib.hid (fun (n : Int) (W : World) => of_any n W)
  have HL := Lib.hid hk.len
  have HVAL := Lib.hid (hk.up_last 1)
  have HZ := Lib.hid (hk.up_zero 1)
  have n10 := hk.ad.n10
  clear h hp hk
  rw [← HVAL.out]
  go_enter Try.func26, Try.ntmps26
  go_wp2_with fail
  refine (HOF.out 0 _).mono ?_
  rintro e w1 ⟨rfl, hb1⟩
  have hV1 : FIn w A c bs O oc d w1.heap.size ⟨0, 1⟩ (w1.alloc (rB ⟨0, 1⟩)) :=
    ⟨(bcall HBel0.out HBel0.out.size hb1).alloc (bcall HBel0.out HBel0.out.size hb1).size _, heap_old (heap_ext hg0 hb1), heap_old (heap_ext hp0 hb1), heap_old (heap_ext hr0 hb1), by have := lt_some (heap_ext hr0 hb1); omega, heap_new rfl⟩
  clear hb1 hg0 hp0 hr0
  rw [← HZ.out] at hV1
  have HV1 := Lib.hid hV1
  clear hV1
  go_upto_region 2 with fail
  have HE := Lib.hid (show w1.alloc (.cells #[.int .i64 0, .int .i64 1] 27) = w1.alloc (rB (d.upTo bs 1 0)) by rw [HZ.out])
  rw [HE.out]
  generalize w1.heap.size = gs at *
  generalize w1.alloc _ = w2 at *
  clear HE HZ HVAL
  go_wp2_with fail
  go_loopw [8, 9, 10] (fun i_ _ _ wr => ∃ k : Nat, k ≤ n ∧ i_ = .int .i64 k ∧ FIn w A c bs O oc d gs (d.upTo bs 1 k) wr) (fun i_ _ _ _ => n - (intOf i_).toNat)
  case atStart => exact ⟨0, Nat.zero_le _, rfl, HV1.out⟩
  case round =>
    obtain ⟨k, hk, rfl, hVr⟩ := hrel
    have hlo : (d.ow.length : Int) = (n : Int) := by have := HL.out; omega
    by_cases hlt : k < n
    · have two := HK.out.ad.two
      obtain ⟨od, rfl, hob, hoc⟩ := HP.out.ow.at_ (show k < d.ow.length by rw [HL.out]; exact hlt)
      obtain ⟨bd, R0, c0, rfl, hb0, hc0, hl0, _, hi0⟩ := HB.out.at1 (show 1 < bs.length by omega)
      obtain ⟨rd0, rfl, hrb0, hrc0⟩ := hi0.at_ (show k < (gr bs 1).length by have := HK.out.ad.l1; omega)
      have HF := Lib.hid (fun (W : World) (hb : Below w.heap.size w W) => show W.cell? ⟨bd.block, bd.off + 1, none⟩ = some (.slice (some rd0) (gr bs 1).length c0) ∧ W.cell? (rd0.add k) = some (.int .i64 (gi (gr bs 1) k)) ∧ W.cell? (od.add k) = some (.int .i64 (gi d.ow k)) from
        ⟨(hb.cell (p := ⟨bd.block, bd.off + 1, none⟩) hb0).trans hc0, (hb.cell (by rw [block_add]; exact hrb0)).trans hrc0, (hb.cell (by rw [block_add]; exact hob)).trans hoc⟩)
      clear hob hoc hb0 hc0 hi0 hrb0 hrc0
      have i0 : (1 : Int) < (bs.length : Int) := by omega
      have i0n : 1 < bs.length := by omega
      have i2 : (k : Int) < ((gr bs 1).length : Int) := by have := HK.out.ad.l1; omega
      have i4 : (k : Int) < (d.ow.length : Int) := by omega
      have i5 : (0 : Int) ≤ (k : Int) := by omega
      have HTS := Lib.hid (fun hs => HK.out.term_split (i := 1) (by omega) hlt hs)
      have HTW := Lib.hid (fun hs ho => HK.out.term_whole (i := 1) (by omega) hlt hs ho)
      have HTN := Lib.hid (fun hs ho => HK.out.term_none (i := 1) (k := k) hs ho)
      have HADD := Lib.hid (fun (x : Rt) ox ex => HK.out.add (i := 1) (by omega) hlt (x := x) ox ex)
      have HUP := Lib.hid (HK.out.up (i := 1) (by omega) hk)
      have HPO := Lib.hid (HK.out.part_ok 1)
      have HVO := Lib.hid (HK.out.v (i := 1) (by omega) hlt)
      clear two hlo
      obtain ⟨z, cg, cp⟩ := hVr.facts
      obtain ⟨f0, f1, f2⟩ := HF.out wr hVr.below
      have HVr := Lib.hid hVr
      clear hVr
      go_wp2_with fail
      refine (HOF.out _ _).mono ?_
      rintro e w3 ⟨rfl, hb3⟩
      have hV3 := HVr.out.next hb3
      clear z cg cp f0 f1 f2 hb3 HVr
      have z9 := hV3.more ⟨gi (gr bs 1) k, 1⟩ d.p
      obtain ⟨z, cg, cp⟩ := hV3.facts
      clear hV3
      go_upto_region 7 with fail
      have HV5 := Lib.hid z9
      clear z cg cp z9
      generalize hg9 : w3.heap.size = g9 at *
      generalize (w3.alloc _).alloc _ = w5 at *
      clear hg9
      have HSB := Lib.hid (fun (W : World) => fsub_any ⟨1, 1⟩ d.p (of_ok (n := 1) (by omega) (by omega)).wf HK.out.p.wf W)
      rw [HK.out.part_sub] at HSB
      generalize subC ⟨1, 1⟩ d.p = SC at HSB
      go_upto_region 8 with fail
      go_cut [36] (fun _ wx => FIn2 w (some bd) c bs (some od) oc d gs (d.upTo bs 1 k) g9 ⟨gi (gr bs 1) k, 1⟩ (d.part 1) wx)
      case first =>
        have hV5 := HV5.out
        have z10 := lt_some hV5.q
        have c10 := fun j => cell_of_row _ _ j _ _ _ hV5.q
        clear hV5
        go_region_with ((first
          | (go_at_call 23; (with_reducible refine (HOF.out _ _).mono ?_); rintro e wa ⟨rfl, hba⟩; have HA1 := Lib.hid (HV5.out.drew.next hba); clear hba c10; have c10 := fun j => cell_of_row _ _ j _ _ _ HA1.out.q)
          | (go_at_call 43; (with_reducible refine (HSB.out _).mono ?_); rintro e wb ⟨rfl, hbb⟩; have HA2 := Lib.hid (HA1.out.next hbb); clear hbb c10; have c10 := fun j => cell_of_row _ _ j _ _ _ HA2.out.q; have f10 := fun j => frozen_of_row _ _ j _ _ HA2.out.q)))
        all_goals
          go_wp2_with fail
          go_meet
          exact HA2.out.setQ (d.part 1)
      case rest =>
        have HV6 := Lib.hid hcut
        clear hcut HV5
        have o1 := of_ok (n := gi (gr bs 1) k) (by have := HVO.out; omega) (by have := HVO.out; omega)
        have O1 := Lib.hid o1
        clear o1
        obtain ⟨z, cg, cp⟩ := HV6.out.f.facts
        obtain ⟨f0, f1, f2⟩ := HF.out _ HV6.out.f.below
        by_cases hs : (k : Int) = d.sp
        · have q : ((k : Int) == d.sp) = true := by simpa using hs
          have TS := Lib.hid (HTS.out hs)
          have HMU := Lib.hid (fun (W : World) => fmul_any ⟨gi (gr bs 1) k, 1⟩ (d.part 1) O1.out.wf HPO.out.wf W)
          have HAD := Lib.hid (fun (W : World) => fadd_any (d.upTo bs 1 k) (mulR ⟨gi (gr bs 1) k, 1⟩ (d.part 1)) HUP.out.1.wf TS.out.1.wf W)
          rw [HADD.out _ TS.out.1 TS.out.2] at HAD
          clear hs TS HTS HTW HTN HADD
          obtain ⟨UP, hU⟩ : ∃ U, U = d.upTo bs 1 (k + 1) := ⟨_, rfl⟩
          rw [← hU] at HAD
          have HU := Lib.hid hU
          clear hU
          generalize addC (d.upTo bs 1 k) (mulR ⟨gi (gr bs 1) k, 1⟩ (d.part 1)) = AC at *
          generalize mulC ⟨gi (gr bs 1) k, 1⟩ (d.part 1) = MC at *
          generalize mulR ⟨gi (gr bs 1) k, 1⟩ (d.part 1) = MX at *
          have c9 := fun j => cell_of_row _ _ j _ _ _ HV6.out.x
          have c10 := fun j => cell_of_row _ _ j _ _ _ HV6.out.q
          go_wp2_with fail
          refine (HMU.out _).mono ?_
          rintro e w6 ⟨rfl, hb6⟩
          have hV6 := HV6.out.next hb6
          clear hb6 c9 c10 z cg cp f0 f1 f2
          have c9 := fun j => cell_of_row _ _ j _ _ _ hV6.x
          have f9 := fun j => frozen_of_row _ _ j _ _ hV6.x
          have hV7 := hV6.setX MX
          clear hV6 HV6
          go_upto_region 12 with fail
          clear c9 f9
          generalize (w6.setCell _ _).setCell _ _ = w7 at *
          have c9 := fun j => cell_of_row _ _ j _ _ _ hV7.x
          have c7 := fun j => cell_of_row _ _ j _ _ _ hV7.f.s
          have HV7 := Lib.hid hV7
          clear hV7
          go_wp2_with fail
          refine (HAD.out _).mono ?_
          rintro e w8 ⟨rfl, hb8⟩
          have hV8 := HV7.out.f.next hb8
          clear c9 c7 hb8 HV7
          have c7 := fun j => cell_of_row _ _ j _ _ _ hV8.s
          have f7 := fun j => frozen_of_row _ _ j _ _ hV8.s
          have HV9 := Lib.hid (hV8.setS UP)
          clear hV8
          go_wp2_with fail
          go_roundw
          case rel => exact ⟨k + 1, by omega, by go_num, by rw [← HU.out]; exact HV9.out⟩
          case measure => simp [intOf]; omega
        · have q : ((k : Int) == d.sp) = false := by simpa using hs
          by_cases ho : gi d.ow k = 1
          · have q2 : (gi d.ow k != 1) = false := by simpa using ho
            have TS := Lib.hid (HTW.out hs (by simpa using ho))
            have HAD := Lib.hid (fun (W : World) => fadd_any (d.upTo bs 1 k) ⟨gi (gr bs 1) k, 1⟩ HUP.out.1.wf TS.out.1.wf W)
            rw [HADD.out _ TS.out.1 TS.out.2] at HAD
            clear hs ho TS HTS HTW HTN HADD
            obtain ⟨UP, hU⟩ : ∃ U, U = d.upTo bs 1 (k + 1) := ⟨_, rfl⟩
            rw [← hU] at HAD
            have HU := Lib.hid hU
            clear hU
            generalize addC (d.upTo bs 1 k) ⟨gi (gr bs 1) k, 1⟩ = AC at *
            have hV7 := HV6.out
            clear HV6
            have c9 := fun j => cell_of_row _ _ j _ _ _ hV7.x
            have c7 := fun j => cell_of_row _ _ j _ _ _ hV7.f.s
            have HV7 := Lib.hid hV7
            clear hV7
            go_wp2_with fail
            refine (HAD.out _).mono ?_
            rintro e w8 ⟨rfl, hb8⟩
            have hV8 := HV7.out.f.next hb8
            clear c9 c7 hb8 HV7
            have c7 := fun j => cell_of_row _ _ j _ _ _ hV8.s
            have f7 := fun j => frozen_of_row _ _ j _ _ hV8.s
            have HV9 := Lib.hid (hV8.setS UP)
            clear hV8
            go_wp2_with fail
            go_roundw
            case rel => exact ⟨k + 1, by omega, by go_num, by rw [← HU.out]; exact HV9.out⟩
            case measure => simp [intOf]; omega
          · have q2 : (gi d.ow k != 1) = true := by simpa using ho
            have HN := Lib.hid (HTN.out hs (by simpa using ho))
            clear hs ho HTS HTW HTN HADD
            go_wp2_with fail
            go_roundw
            case rel => exact ⟨k + 1, by omega, by go_num, by rw [HN.out]; exact HV6.out.f⟩
            case measure => simp [intOf]; omega
    · obtain rfl : k = n := by omega
      obtain ⟨R, hR⟩ : ∃ R, R = d.upTo bs 1 k := ⟨_, rfl⟩
      rw [← hR] at hVr
      have HR := Lib.hid hR
      clear hR
      obtain ⟨z, cg, cp⟩ := hVr.facts
      have cs := fun j => cell_of_row _ _ j _ _ _ hVr.s
      have cr := fun j => cell_of_row _ _ j _ _ _ hVr.r
      have fr := fun j => frozen_of_row _ _ j _ _ hVr.r
      have zr := lt_some hVr.r
      have HB9 := Lib.hid hVr.below
      clear hVr
      go_wp2_with fail
      exact bodyPost_ret (v := .agg #[.int .i64 R.n, .int .i64 R.d]) (by simp [results, Try.results26, go_sem, cr, fr, zr]) rfl ⟨by rw [← HR.out], (HB9.out.setCell (show w.heap.size ≤ _ by simp <;> omega) _).setCell (show w.heap.size ≤ _ by simp <;> omega) _⟩

/-- What Values keeps in memory: the goods, the division, two results. -/
def VsIn (w : World) (A : Option Addr) (c : Nat) (bs : List (List Int)) (O : Option Addr) (oc : Nat) (d : Pt) (wx : World) : Prop := Below w.heap.size w wx ∧ wx.heap[w.heap.size]? = some (gB A c bs) ∧ wx.heap[w.heap.size + 1]? = some (pB O oc d) ∧ (∃ x y : Value, wx.heap[w.heap.size + 2]? = some (.cells #[x, y] 27)) ∧ ∃ x y : Value, wx.heap[w.heap.size + 3]? = some (.cells #[x, y] 27)
set_option maxRecDepth 100000 in
set_option maxHeartbeats 4000000 in
theorem fvalues_any (bs : List (List Int)) (A : Option Addr) (c : Nat) (d : Pt) (O : Option Addr) (oc : Nat) (w : World) (h : GIn w.heap.size w A c bs) (hp : PIn w.heap.size w O oc d) :
    Calls Try.prog 11 #[gV A c bs, pV O oc d] w fun e w' => e = .returned (.tuple #[if d.code bs = 0 then rV (d.val bs 0) else rV ⟨0, 0⟩, if d.code bs = 0 then rV (d.val bs 1) else rV ⟨0, 0⟩, .int .i64 (d.code bs)]) ∧ Below w.heap.size w w' := by
  have HBel0 := Lib.hid (show Below w.heap.size w ((((w.alloc (gB A c bs)).alloc (pB O oc d)).alloc (rB ⟨0, 0⟩)).alloc (rB ⟨0, 0⟩)) from (((one_alloc w _).alloc (by simp) _).alloc (by simp; omega) _).alloc (by simp; omega) _)
  have hg0 : ((((w.alloc (gB A c bs)).alloc (pB O oc d)).alloc (rB ⟨0, 0⟩)).alloc (rB ⟨0, 0⟩)).heap[w.heap.size]? = some (gB A c bs) := heap_old (heap_old (heap_old (heap_new rfl)))
  have hp0 : ((((w.alloc (gB A c bs)).alloc (pB O oc d)).alloc (rB ⟨0, 0⟩)).alloc (rB ⟨0, 0⟩)).heap[w.heap.size + 1]? = some (pB O oc d) := heap_old (heap_old (heap_new (by simp)))
  have hr0 : ((((w.alloc (gB A c bs)).alloc (pB O oc d)).alloc (rB ⟨0, 0⟩)).alloc (rB ⟨0, 0⟩)).heap[w.heap.size + 2]? = some (rB ⟨0, 0⟩) := heap_old (heap_new (by simp))
  have hr1 : ((((w.alloc (gB A c bs)).alloc (pB O oc d)).alloc (rB ⟨0, 0⟩)).alloc (rB ⟨0, 0⟩)).heap[w.heap.size + 3]? = some (rB ⟨0, 0⟩) := heap_new (by simp)
  have HV := Lib.hid (fun (W : World) (hW : GIn W.heap.size W A c bs) (hP : PIn W.heap.size W O oc d) => fvalid_any bs A c d O oc W hW hP)
  have HB := Lib.hid h
  have HP := Lib.hid hp
  clear h hp
  by_cases hc : d.code bs = 0
  rotate_left
  · rw [if_neg hc, if_neg hc]
    have q1 : (d.code bs != 0) = true := by simpa using hc
    clear hc
    generalize d.code bs = code at *
    go_enter Try.func11, Try.ntmps11
    go_wp2_with fail
    refine (HV.out _ (HB.out.next HBel0.out) (HP.out.next HBel0.out)).mono ?_
    rintro e w1 ⟨rfl, hb1⟩
    have HB1 := Lib.hid (bcall HBel0.out HBel0.out.size hb1)
    have hg1 := heap_ext hg0 hb1
    have hp1 := heap_ext hp0 hb1
    have hr0 := heap_ext hr0 hb1
    have hr1 := heap_ext hr1 hb1
    have cg := fun j => cell_of_row _ _ j _ _ _ hg1
    have cp := fun j => cell_of_row _ _ j _ _ _ hp1
    clear hb1 hg0 hp0
    go_wp2_with fail
    refine (HV.out _ (HB.out.next HB1.out) (HP.out.next HB1.out)).mono ?_
    rintro e w2 ⟨rfl, hb2⟩
    have hr0 := heap_ext hr0 hb2
    have hr1 := heap_ext hr1 hb2
    have HB2 := Lib.hid (bcall HB1.out HB1.out.size hb2)
    clear hb2 cg cp hg1 hp1
    have c0 := fun j => cell_of_row _ _ j _ _ _ hr0
    have c1 := fun j => cell_of_row _ _ j _ _ _ hr1
    have f0 := fun j => frozen_of_row _ _ j _ _ hr0
    have f1 := fun j => frozen_of_row _ _ j _ _ hr1
    have z1 := lt_some hr1
    have z0 := lt_some hr0
    go_wp2_with fail
    exact bodyPost_ret (v := .tuple #[.agg #[.int .i64 0, .int .i64 0], .agg #[.int .i64 0, .int .i64 0], .int .i64 code]) (by simp [results, Try.results11, go_sem, c0, c1, f0, f1, z0, z1]) rfl ⟨rfl, (((HB2.out.setCell (show w.heap.size ≤ _ by simp <;> omega) _).setCell (show w.heap.size ≤ _ by simp <;> omega) _).setCell (show w.heap.size ≤ _ by simp <;> omega) _).setCell (show w.heap.size ≤ _ by simp <;> omega) _⟩
  rw [if_pos hc, if_pos hc]
  have HK := Lib.hid (ptOk hc)
  have q1 : (d.code bs != 0) = false := by simpa using hc
  rw [hc] at q1 HV ⊢
  clear hc
  have H0 := Lib.hid (fun (W : World) (hW : VsIn w A c bs O oc d W) => fvalue0_any bs A c d O oc _ W (HB.out.next hW.1) (HP.out.next hW.1) HK.out)
  have H1 := Lib.hid (fun (W : World) (hW : VsIn w A c bs O oc d W) => fvalue1_any bs A c d O oc _ W (HB.out.next hW.1) (HP.out.next hW.1) HK.out)
  generalize d.val bs 0 = R0 at *
  generalize d.val bs 1 = R1 at *
  go_enter Try.func11, Try.ntmps11
  go_wp2_with fail
  refine (HV.out _ (HB.out.next HBel0.out) (HP.out.next HBel0.out)).mono ?_
  rintro e w1 ⟨rfl, hb1⟩
  have hT : VsIn w A c bs O oc d w1 :=
    ⟨bcall HBel0.out HBel0.out.size hb1, heap_ext hg0 hb1, heap_ext hp0 hb1, ⟨_, _, heap_ext hr0 hb1⟩, ⟨_, _, heap_ext hr1 hb1⟩⟩
  clear hb1 hg0 hp0 hr0 hr1 HV
  go_upto_region 3 with fail
  have HRG : Grows (VsIn w A c bs O oc d) := fun _ _ h hb => ⟨bcall h.1 h.1.size hb, heap_ext h.2.1 hb, heap_ext h.2.2.1 hb, h.2.2.2.1.elim fun x h => h.elim fun y h => ⟨x, y, heap_ext h hb⟩, h.2.2.2.2.elim fun x h => h.elim fun y h => ⟨x, y, heap_ext h hb⟩⟩
  refine wp_region_grown (VsIn w A c bs O oc d) HRG ⟨hT.1.drew, hT.2⟩ [0, 1, 2, 3, 4, 5] 9 3 (by kernel_rfl) (by kernel_rfl) ?_
  apply Exists.intro
  refine ⟨fun G hG hN => ?_, ?_⟩
  · have cg := fun (e : GE (VsIn w A c bs O oc d) G) j => cell_of_row e.w _ j _ _ _ e.h.2.1
    have cp := fun (e : GE (VsIn w A c bs O oc d) G) j => cell_of_row e.w _ j _ _ _ e.h.2.2.1
    simp only [pickOps, List.getElem?_toArray, List.getElem?_cons_zero, List.getElem?_cons_succ]
    repeat (first | go_big_quiet_step ((first | (go_at_call 26; first | (with_reducible exact calls_ge HRG hG (H0.out _ (GE.h (R := VsIn w A c bs O oc d) (G := G) _))) | (with_reducible exact calls_ge HRG hG (H1.out _ (GE.h (R := VsIn w A c bs O oc d) (G := G) _)))))) | quiet_step ((first | (go_at_call 26; first | (with_reducible exact calls_ge HRG hG (H0.out _ (GE.h (R := VsIn w A c bs O oc d) (G := G) _))) | (with_reducible exact calls_ge HRG hG (H1.out _ (GE.h (R := VsIn w A c bs O oc d) (G := G) _)))))))
    exact wpQuiet_nil rfl
  refine wpAnyE_all (rs := [6]) (by kernel_rfl) (by simp) (fun W1 hW1 hRW1 i hi => ?_)
  obtain rfl := List.mem_singleton.1 hi
  obtain ⟨x0, x1, hr0⟩ := hRW1.2.2.2.1
  obtain ⟨x2, x3, hr1⟩ := hRW1.2.2.2.2
  have c1 := fun j => cell_of_row _ _ j _ _ _ hr0
  have c2 := fun j => frozen_of_row _ _ j _ _ hr0
  refine wpOp_step rfl (fun K hK => ?_)
  go_simp
  refine hK _ _ ⟨⟨(hRW1.1.setCell (show w.heap.size ≤ _ by simp <;> omega) _).setCell (show w.heap.size ≤ _ by simp <;> omega) _, by rw [heap_set_ne (by omega), heap_set_ne (by omega)]; exact hRW1.2.1, by rw [heap_set_ne (by omega), heap_set_ne (by omega)]; exact hRW1.2.2.1, ⟨_, _, heap_set (heap_set hr0)⟩, ⟨_, _, by rw [heap_set_ne (by omega), heap_set_ne (by omega)]; exact hr1⟩⟩, ?_⟩
  clear hK K
  clear c1 c2
  have hr2 := heap_set (j := 1) (u := .int .i64 R0.d) (heap_set (j := 0) (u := .int .i64 R0.n) hr0)
  have hr3 : ((W1.setCell ⟨w.heap.size + 1 + 1, 0, none⟩ (.int .i64 R0.n)).setCell ⟨w.heap.size + 1 + 1, 1, none⟩ (.int .i64 R0.d)).heap[w.heap.size + 3]? = some (.cells #[x2, x3] 27) := by rw [heap_set_ne (by omega), heap_set_ne (by omega)]; exact hr1
  clear hr0 hr1
  refine wpAnyE_all (rs := [7]) (by kernel_rfl) (by simp) (fun W2 hW2 hRW2 i hi => ?_)
  obtain rfl := List.mem_singleton.1 hi
  have hr2 := heap_ext hr2 hW2
  have hr3 := heap_ext hr3 hW2
  have c1 := fun j => cell_of_row _ _ j _ _ _ hr3
  have c2 := fun j => frozen_of_row _ _ j _ _ hr3
  refine wpOp_step rfl (fun K hK => ?_)
  go_simp
  refine hK _ _ ⟨⟨(hRW2.1.setCell (show w.heap.size ≤ _ by simp <;> omega) _).setCell (show w.heap.size ≤ _ by simp <;> omega) _, by rw [heap_set_ne (by omega), heap_set_ne (by omega)]; exact hRW2.2.1, by rw [heap_set_ne (by omega), heap_set_ne (by omega)]; exact hRW2.2.2.1, ⟨_, _, by rw [heap_set_ne (by omega), heap_set_ne (by omega)]; exact hr2⟩, ⟨_, _, heap_set (heap_set hr3)⟩⟩, ?_⟩
  clear hK K
  clear c1 c2
  have hr5 := heap_set (j := 1) (u := .int .i64 R1.d) (heap_set (j := 0) (u := .int .i64 R1.n) hr3)
  have hr4 : ((W2.setCell ⟨w.heap.size + 1 + 1 + 1, 0, none⟩ (.int .i64 R1.n)).setCell ⟨w.heap.size + 1 + 1 + 1, 1, none⟩ (.int .i64 R1.d)).heap[w.heap.size + 2]? = _ := (by rw [heap_set_ne (by omega), heap_set_ne (by omega)] : _ = _).trans hr2
  refine wpAnyE_all (rs := [8]) (by kernel_rfl) (by simp) (fun W3 hW3 hRW3 i hi => ?_)
  obtain rfl := List.mem_singleton.1 hi
  refine wpOp_step rfl (fun K hK => ?_)
  go_simp
  refine hK _ _ ⟨hRW3, ?_⟩
  clear hK K
  refine wpAnyE_done (by kernel_rfl) (fun W4 hW4 hR4 => ?_) _
  refine NoPanic.normal ?_
  have hr4 := heap_ext (heap_ext hr4 hW3) hW4
  have hr5 := heap_ext (heap_ext hr5 hW3) hW4
  have c0 := fun j => cell_of_row _ _ j _ _ _ hr4
  have c1 := fun j => cell_of_row _ _ j _ _ _ hr5
  have z0 := lt_some hr4
  have z1 := lt_some hr5
  go_wp2_with fail
  exact bodyPost_ret (v := .tuple #[rV R0, rV R1, .int .i64 0]) (by simp [results, Try.results11, go_sem, c0, c1, z0, z1]) rfl ⟨rfl, hR4.1⟩
end Go.Proofs.Ytcjfcfgkejoeeaa
