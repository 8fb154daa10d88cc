/- The reference's Add, walked. -/
import Derived.Test.YtgcbmnohhbcfiaaCm4
import Derived.Deep.DeepCutAuto
namespace Go.Proofs.Ytgcbmnohhbcfiaa
open Go.RowKit Go.Deep
set_option linter.unusedVariables false
set_option linter.unusedSimpArgs false

/-- The boxes of two ratios, and a result's. -/
structure TriIn (w : World) (a b : Rt) (wr : World) : Prop where
  below : Below w.heap.size w wr
  ba : wr.heap[w.heap.size]? = some (rB a)
  bb : wr.heap[w.heap.size + 1]? = some (rB b)
  r : ∃ x y : Value, wr.heap[w.heap.size + 2]? = some (.cells #[x, y] 37)
section
variable {w : World} {a b : Rt} {wr w1 : World}
theorem TriIn.next (h : TriIn w a b wr) (hb : Below wr.heap.size wr w1) : TriIn w a b w1 :=
  ⟨bcall h.below h.below.size hb, heap_ext h.ba hb, heap_ext h.bb hb, h.r.elim fun x h => h.elim fun y h => ⟨x, y, heap_ext h hb⟩⟩
theorem TriIn.start (w : World) (a b : Rt) : TriIn w a b (((w.alloc (rB a)).alloc (rB b)).alloc (rB ⟨0, 0⟩)) :=
  ⟨(TwoIn.start w a b).below, (TwoIn.start w a b).ba, (TwoIn.start w a b).bb, ⟨_, _, (TwoIn.start w a b).r⟩⟩
theorem TriIn.set (h : TriIn w a b wr) {g : Nat} (hg : w.heap.size + 3 ≤ g) (j : Nat) (u : Value) : TriIn w a b (wr.setCell ⟨g, j, none⟩ u) :=
  ⟨h.below.setCell (show w.heap.size ≤ g by omega) _, by rw [heap_set_ne (by omega)]; exact h.ba, by rw [heap_set_ne (by omega)]; exact h.bb,
    h.r.elim fun x h => h.elim fun y h => ⟨x, y, by rw [heap_set_ne (by omega)]; exact h⟩⟩
theorem TriIn.setR (h : TriIn w a b wr) (u v : Value) : TriIn w a b ((wr.setCell ⟨w.heap.size + 2, 0, none⟩ u).setCell ⟨w.heap.size + 2, 1, none⟩ v) :=
  ⟨(h.below.setCell (by simp) _).setCell (by simp) _, by rw [heap_set_ne (by omega), heap_set_ne (by omega)]; exact h.ba, by rw [heap_set_ne (by omega), heap_set_ne (by omega)]; exact h.bb,
    h.r.elim fun x h => h.elim fun y h => ⟨u, v, by rw [heap_set (heap_set h)]; rfl⟩⟩
theorem TriIn.end_ (h : TriIn w a b wr) (x y : Value) : Below w.heap.size w ((wr.setCell ⟨w.heap.size + 2, 0, none⟩ x).setCell ⟨w.heap.size + 2, 1, none⟩ y) :=
  (h.below.setCell (by simp) _).setCell (by simp) _
theorem TriIn.lt (h : TriIn w a b wr) : w.heap.size + 3 ≤ wr.heap.size := by obtain ⟨x, y, h⟩ := h.r; have := lt_some h; omega
end

set_option maxRecDepth 100000 in
set_option maxHeartbeats 8000000 in
theorem fadd_any (a b : Rt) (ha : a.wf) (hb : b.wf) (w : World) :
    Calls Try.prog 125 #[rV a, rV b] w fun e w' => e = .returned (.tuple #[rV (addR a b), .int .i64 (addC a b)]) ∧ Below w.heap.size w w' := by
  have hT0 := TriIn.start w a b
  have HC := Lib.hid (fun (W : World) => fboth_any a b ha hb W)
  by_cases hc : code2 a b = 0
  rotate_left
  · have q1 : (code2 a b != 0) = true := by simpa using hc
    have hr := add_bad hc
    rw [hr.1, hr.2]
    clear hr hc ha hb
    generalize code2 a b = c at HC q1
    go_enter Try.func125, Try.ntmps125
    go_wp2_with fail
    refine (HC.out _).mono ?_
    rintro e w1 ⟨rfl, hb1⟩
    have hT1 := hT0.next hb1
    clear hb1 hT0
    have ca := fun j => cell_of_row w1 _ j _ _ _ hT1.ba
    have cb := fun j => cell_of_row w1 _ j _ _ _ hT1.bb
    go_wp2_with fail
    refine (HC.out _).mono ?_
    rintro e w2 ⟨rfl, hb2⟩
    have hT2 := hT1.next hb2
    clear hb2 hT1 ca cb
    obtain ⟨x0, x1, hr0⟩ := hT2.r
    have c1 := fun j => cell_of_row w2 _ j _ _ _ hr0
    have c2 := fun j => frozen_of_row w2 _ j _ _ hr0
    have z1 := lt_some hr0
    go_wp2_with fail
    exact bodyPost_ret (v := .tuple #[.agg #[.int .i64 0, .int .i64 0], .int .i64 c]) (by simp [results, Try.results125, go_sem, c1, c2, z1]) rfl ⟨rfl, hT2.end_ _ _⟩
  obtain ⟨oa, ob⟩ := ok_code2 hc
  have q1 : (code2 a b != 0) = false := by simpa using hc
  rw [(add_ok hc).1, (add_ok hc).2]
  clear ha hb hc
  have S := sumOf oa ob
  have n0 := oa.n0; have n1 := oa.n1; have d0 := oa.d0; have d1 := oa.d1
  have m0 := ob.n0; have m1 := ob.n1; have e0 := ob.d0; have e1 := ob.d1
  have HG := Lib.hid (fun (W : World) => fgcd_any a.d b.d W (by omega) (by omega) (by omega) (by omega))
  have gle := gcdI_le (a := a.d) (b := b.d) (by omega)
  generalize hg : gcdI a.d b.d = g at *
  generalize hp : a.d / g = p at *
  generalize hq : b.d / g = q at *
  generalize hh : gcdI (a.n * q + b.n * p) g = h at *
  have g0 := S.g0; have p0 := S.p0; have q0 := S.q0; have h0 := S.h0
  have wd1 : IntKind.u64.wrap a.d = a.d := IntWalk.u64_in _ (by omega)
  have wd2 : IntKind.u64.wrap b.d = b.d := IntWalk.u64_in _ (by omega)
  have v1 : IntKind.u64.wrap (a.d.tdiv g) = p := (IntWalk.u64_quo _ _ (by omega)).trans hp
  have v2 : IntKind.u64.wrap (b.d.tdiv g) = q := (IntWalk.u64_quo _ _ (by omega)).trans hq
  have v3 : ¬ g = 0 := by omega
  have pd : p ≤ a.d := by rw [← hp]; exact Int.ediv_le_self _ (by omega)
  have qd : q ≤ b.d := by rw [← hq]; exact Int.ediv_le_self _ (by omega)
  have an := absI_nonneg a.n
  have al : absI a.n ≤ 1000000000000000000 := by unfold absI; omega
  have bn := absI_nonneg b.n
  have bl : absI b.n ≤ 1000000000000000000 := by unfold absI; omega
  have HS1 := Lib.hid (fun (W : World) => fabs_any a.n W (by omega) (by omega))
  have HS2 := Lib.hid (fun (W : World) => fabs_any b.n W (by omega) (by omega))
  have HM1 := Lib.hid (fun (W : World) => times_any (absI a.n) q W an (by omega) (by omega) (by omega))
  have HM2 := Lib.hid (fun (W : World) => times_any (absI b.n) p W bn (by omega) (by omega) (by omega))
  have HSS := Lib.hid S
  have X0 : 0 ≤ absI a.n * q := Int.mul_nonneg an (by omega)
  have Y0 : 0 ≤ absI b.n * p := Int.mul_nonneg bn (by omega)
  have X1 : absI a.n * q ≤ 1000000000000000000 * 1000000000000000000 := Int.mul_le_mul al (by omega) (by omega) (by omega)
  have Y1 : absI b.n * p ≤ 1000000000000000000 * 1000000000000000000 := Int.mul_le_mul bl (by omega) (by omega) (by omega)
  have HM := Lib.hid (show MidOk (absI a.n * q) (absI b.n * p) (a.n * q) (b.n * p) from ⟨absI_mul q0, absI_mul p0⟩)
  have HA := Lib.hid (mul_sign (x := a.n) q0)
  have HB := Lib.hid (mul_sign (x := b.n) p0)
  have HZ := Lib.hid (fun h00 => S.zero h00)
  have HFIN := Lib.hid S.fin
  generalize mkR (a.q + b.q) = R at HZ HFIN ⊢
  generalize mkC (a.q + b.q) = C at HZ HFIN ⊢
  generalize ht : a.n * q + b.n * p = t at *
  clear S
  go_enter Try.func125, Try.ntmps125
  go_wp2_with fail
  refine (HC.out _).mono ?_
  rintro e w1 ⟨rfl, hb1⟩
  have hT1 := hT0.next hb1
  clear hb1 hT0
  have ca := fun j => cell_of_row w1 _ j _ _ _ hT1.ba
  have cb := fun j => cell_of_row w1 _ j _ _ _ hT1.bb
  go_wp2_with fail
  refine (HG.out _).mono ?_
  rintro e w2 ⟨rfl, hb2⟩
  have hT2 := hT1.next hb2
  clear hb2 hT1 ca cb HC HG
  go_upto_region 4 with fail
  generalize absI a.n * q = X at *
  generalize absI b.n * p = Y at *
  go_cut [7, 8] (fun s7 s8 wx => ∃ g7 g8, s7 = .pointer (some ⟨g7, 0, none⟩) ∧ s8 = .pointer (some ⟨g8, 0, none⟩) ∧ TriIn w a b wx ∧ wx.heap[g7]? = some (wB X) ∧ wx.heap[g8]? = some (wB Y) ∧ g7 ≠ g8 ∧ w.heap.size + 3 ≤ g7 ∧ w.heap.size + 3 ≤ g8)
  case first =>
    have HRG : Grows (TriIn w a b) := fun _ _ h hb => h.next hb
    refine wp_region_grown (TriIn w a b) HRG ((hT2).next (Below.refl _ _).drew) [0, 1, 2, 3, 4, 5, 6, 7, 8, 9, 10, 11, 12, 13, 14, 15, 16, 17] 22 4 (by kernel_rfl) (by kernel_rfl) ?_
    apply Exists.intro
    refine ⟨fun G hG hN => ?_, ?_⟩
    · have ca := fun (e : GE (TriIn w a b) G) j => cell_of_row e.w _ j _ _ _ e.h.ba
      have cb := fun (e : GE (TriIn w a b) G) j => cell_of_row e.w _ j _ _ _ e.h.bb
      simp only [pickOps, List.getElem?_toArray, List.getElem?_cons_zero, List.getElem?_cons_succ]
      repeat (first | go_big_quiet_step ((first | (go_at_call 88; first | (with_reducible exact calls_ge HRG hG (HS1.out _)) | (with_reducible exact calls_ge HRG hG (HS2.out _))) | (go_at_call 95; first | (with_reducible exact calls_ge HRG hG (HM1.out _)) | (with_reducible exact calls_ge HRG hG (HM2.out _))))) | quiet_step ((first | (go_at_call 88; first | (with_reducible exact calls_ge HRG hG (HS1.out _)) | (with_reducible exact calls_ge HRG hG (HS2.out _))) | (go_at_call 95; first | (with_reducible exact calls_ge HRG hG (HM1.out _)) | (with_reducible exact calls_ge HRG hG (HM2.out _))))))
      exact wpQuiet_nil rfl
    refine wpAnyE_all (rs := [18, 19]) (by kernel_rfl) (by simp) (fun W1 hW1 hRW1 i hi => ?_)
    rcases List.mem_cons.1 hi with rfl | hi
    · refine wpOp_step rfl (fun K hK => ?_)
      go_simp
      refine hK _ _ ⟨hRW1.next (one_alloc _ _), ?_⟩
      clear hK K
      refine wpAnyE_all (rs := [19]) (by kernel_rfl) (by simp) (fun W2 hW2 hRW2 i hi => ?_)
      obtain rfl := List.mem_singleton.1 hi
      have hx1 := heap_ext (heap_new (w := W1) (o := Obj.cells #[.int .u64 0, .int .u64 0] 133) rfl) hW2
      refine wpOp_step rfl (fun K hK => ?_)
      go_simp
      refine hK _ _ ⟨hRW2.next (one_alloc _ _), ?_⟩
      clear hK K
      refine wpAnyE_all (rs := [20]) (by kernel_rfl) (by simp) (fun W3 hW3 hRW3 i hi => ?_)
      obtain rfl := List.mem_singleton.1 hi
      have hx2 := heap_ext (heap_new (w := W2) (o := Obj.cells #[.int .u64 0, .int .u64 0] 133) rfl) hW3
      have hx1 := heap_ext (heap_old hx1) hW3
      have hne : W1.heap.size ≠ W2.heap.size := by have := hW2.size; simp at this; omega
      have s1 : w.heap.size + 3 ≤ W1.heap.size := hRW1.lt
      have s2 : w.heap.size + 3 ≤ W2.heap.size := hRW2.lt
      have c1 := fun j => cell_of_row _ _ j _ _ _ hx1
      have f1 := fun j => frozen_of_row _ _ j _ _ hx1
      refine wpOp_step rfl (fun K hK => ?_)
      go_simp
      refine hK _ _ ⟨(hRW3.set s1 _ _).set s1 _ _, ?_⟩
      clear hK K
      clear c1 f1
      refine wpAnyE_all (rs := [21]) (by kernel_rfl) (by simp) (fun W4 hW4 hRW4 i hi => ?_)
      obtain rfl := List.mem_singleton.1 hi
      have y5 := heap_ext (heap_set (j := 1) (u := .int .u64 (lo64 X)) (heap_set (j := 0) (u := .int .u64 (hi64 X)) hx1)) hW4
      have y6 := heap_ext (by rw [heap_set_ne (Ne.symm hne), heap_set_ne (Ne.symm hne)]; exact hx2) hW4
      have c1 := fun j => cell_of_row _ _ j _ _ _ y6
      have f1 := fun j => frozen_of_row _ _ j _ _ y6
      refine wpOp_step rfl (fun K hK => ?_)
      go_simp
      refine hK _ _ ⟨(hRW4.set s2 _ _).set s2 _ _, ?_⟩
      clear hK K
      clear c1 f1
      refine wpAnyE_done (by kernel_rfl) (fun W5 hW5 hR5 => ?_) _
      refine NoPanic.normal ?_
      have z6 := heap_ext (heap_set (j := 1) (u := .int .u64 (lo64 Y)) (heap_set (j := 0) (u := .int .u64 (hi64 Y)) y6)) hW5
      have z5 := heap_ext (by rw [heap_set_ne hne, heap_set_ne hne]; exact y5) hW5
      go_wp2_with fail
      go_meet
      exact ⟨_, _, rfl, rfl, hR5, z5, z6, hne, s1, s2⟩
    · obtain rfl := List.mem_singleton.1 hi
      refine wpOp_step rfl (fun K hK => ?_)
      go_simp
      refine hK _ _ ⟨hRW1.next (one_alloc _ _), ?_⟩
      clear hK K
      refine wpAnyE_all (rs := [18]) (by kernel_rfl) (by simp) (fun W2 hW2 hRW2 i hi => ?_)
      obtain rfl := List.mem_singleton.1 hi
      have hx1 := heap_ext (heap_new (w := W1) (o := Obj.cells #[.int .u64 0, .int .u64 0] 133) rfl) hW2
      refine wpOp_step rfl (fun K hK => ?_)
      go_simp
      refine hK _ _ ⟨hRW2.next (one_alloc _ _), ?_⟩
      clear hK K
      refine wpAnyE_all (rs := [20]) (by kernel_rfl) (by simp) (fun W3 hW3 hRW3 i hi => ?_)
      obtain rfl := List.mem_singleton.1 hi
      have hx2 := heap_ext (heap_new (w := W2) (o := Obj.cells #[.int .u64 0, .int .u64 0] 133) rfl) hW3
      have hx1 := heap_ext (heap_old hx1) hW3
      have hne : W1.heap.size ≠ W2.heap.size := by have := hW2.size; simp at this; omega
      have s1 : w.heap.size + 3 ≤ W1.heap.size := hRW1.lt
      have s2 : w.heap.size + 3 ≤ W2.heap.size := hRW2.lt
      have c1 := fun j => cell_of_row _ _ j _ _ _ hx2
      have f1 := fun j => frozen_of_row _ _ j _ _ hx2
      refine wpOp_step rfl (fun K hK => ?_)
      go_simp
      refine hK _ _ ⟨(hRW3.set s2 _ _).set s2 _ _, ?_⟩
      clear hK K
      clear c1 f1
      refine wpAnyE_all (rs := [21]) (by kernel_rfl) (by simp) (fun W4 hW4 hRW4 i hi => ?_)
      obtain rfl := List.mem_singleton.1 hi
      have y5 := heap_ext (heap_set (j := 1) (u := .int .u64 (lo64 X)) (heap_set (j := 0) (u := .int .u64 (hi64 X)) hx2)) hW4
      have y6 := heap_ext (by rw [heap_set_ne (Ne.symm (Ne.symm hne)), heap_set_ne (Ne.symm (Ne.symm hne))]; exact hx1) hW4
      have c1 := fun j => cell_of_row _ _ j _ _ _ y6
      have f1 := fun j => frozen_of_row _ _ j _ _ y6
      refine wpOp_step rfl (fun K hK => ?_)
      go_simp
      refine hK _ _ ⟨(hRW4.set s1 _ _).set s1 _ _, ?_⟩
      clear hK K
      clear c1 f1
      refine wpAnyE_done (by kernel_rfl) (fun W5 hW5 hR5 => ?_) _
      refine NoPanic.normal ?_
      have z6 := heap_ext (heap_set (j := 1) (u := .int .u64 (lo64 Y)) (heap_set (j := 0) (u := .int .u64 (hi64 Y)) y6)) hW5
      have z5 := heap_ext (by rw [heap_set_ne (Ne.symm hne), heap_set_ne (Ne.symm hne)]; exact y5) hW5
      go_wp2_with fail
      go_meet
      exact ⟨_, _, rfl, rfl, hR5, z5, z6, Ne.symm hne, s2, s1⟩
  case rest =>
    obtain ⟨g7, g8, rfl, rfl, hT3, y7, y8, hne, s7, s8⟩ := hcut
    have HPL := Lib.hid (fun (W : World) => plus_any X Y W X0 Y0 (by omega))
    clear hT2
    have ca := fun j => cell_of_row _ _ j _ _ _ hT3.ba
    have c7 := fun j => cell_of_row _ _ j _ _ _ y7
    have c8 := fun j => cell_of_row _ _ j _ _ _ y8
    go_wp2_with fail
    refine (HPL.out _).mono ?_
    rintro e w4 ⟨rfl, hb4⟩
    have hT4 := hT3.next hb4
    have z7 := heap_ext y7 hb4
    have z8 := heap_ext y8 hb4
    clear hb4 hT3 y7 y8 ca c7 c8
    have ca := fun j => cell_of_row _ _ j _ _ _ hT4.ba
    have cb := fun j => cell_of_row _ _ j _ _ _ hT4.bb
    have za := lt_some hT4.ba
    have zb := lt_some hT4.bb
    have HSP1 := Lib.hid (fun (W : World) (h1 : 0 ≤ absI t) (h2 : absI t < 340282366920938463463374607431768211456) => split_any (absI t) g W h1 h2 g0 (by omega))
    obtain ⟨sA, hsA⟩ : ∃ A, decide (a.n < 0) = A := ⟨_, rfl⟩
    obtain ⟨sB, hsB⟩ : ∃ B, decide (b.n < 0) = B := ⟨_, rfl⟩
    go_upto_region 7 with fail
    have HLE := Lib.hid (fun (W : World) => fless_any X Y W)
    have HMI := Lib.hid (fun (W : World) => minus_raw X Y W)
    have k7 := lt_some z7
    have k8 := lt_some z8
    have hT5 := hT4.next (one_alloc w4 (wB (X + Y)))
    have z10 := heap_new (w := w4) (o := wB (X + Y)) rfl
    have z7 := heap_ext z7 (one_alloc w4 (wB (X + Y)))
    have z8 := heap_ext z8 (one_alloc w4 (wB (X + Y)))
    have s10 := hT4.lt
    have n7 : g7 ≠ w4.heap.size := by omega
    have n8 : g8 ≠ w4.heap.size := by omega
    clear hT4 ca cb za zb k7 k8
    generalize w4.heap.size = g10 at *
    generalize w4.alloc _ = w5 at *
    have ca := fun j => cell_of_row _ _ j _ _ _ hT5.ba
    have cb := fun j => cell_of_row _ _ j _ _ _ hT5.bb
    have za := lt_some hT5.ba
    have zb := lt_some hT5.bb
    go_upto_if 61 with fail
    have HT5 := Lib.hid hT5
    have Z7 := Lib.hid z7
    have Z8 := Lib.hid z8
    have Z10 := Lib.hid z10
    clear hT5 z7 z8 z10 ca cb za zb
    go_cut [9, 10] (fun s9 s10 wx => ∃ m T, s9 = .bool m ∧ s10 = .pointer (some ⟨g10, 0, none⟩) ∧ Hid (T = absI t) ∧ Hid (t ≠ 0 → m = decide (t < 0)) ∧ TriIn w a b wx ∧ wx.heap[g10]? = some (wB T))
    case first =>
      cases sA
      · cases sB
        · have sa : ¬ a.n < 0 := by simpa using hsA
          have sb : ¬ b.n < 0 := by simpa using hsB
          have hk : (a.n * q < 0 ↔ b.n * p < 0) := by rw [← HA.out, ← HB.out]; omega
          have ea : decide (a.n * q < 0) = false := by rw [decide_eq_false_iff_not, ← HA.out]; omega
          have hS := HM.out.same hk
          have hG := HM.out.sgn hk
          rw [ht] at hS hG
          have HSG : Hid (t ≠ 0 → false = decide (t < 0)) := Lib.hid (fun hne => by rw [← ea]; exact hG hne)
          have HST := Lib.hid hS
          clear sa sb hk ea hS hG
          go_wp2_with fail
          go_meet
          exact ⟨_, _, rfl, rfl, HST, HSG, HT5.out, Z10.out⟩
        · have sa : ¬ a.n < 0 := by simpa using hsA
          have sb : b.n < 0 := by simpa using hsB
          have hk : ¬ (a.n * q < 0 ↔ b.n * p < 0) := by rw [← HA.out, ← HB.out]; omega
          have ea : decide (a.n * q < 0) = false := by rw [decide_eq_false_iff_not, ← HA.out]; omega
          have c7 := fun j => cell_of_row _ _ j _ _ _ Z7.out
          have c8 := fun j => cell_of_row _ _ j _ _ _ Z8.out
          clear sa sb
          by_cases hxy : X < Y
          · have hS := HM.out.diff1 hk hxy
            rw [ht] at hS
            have HSG : Hid (t ≠ 0 → (!false) = decide (t < 0)) := Lib.hid (fun _ => by rw [← ea]; exact hS.2)
            have HST := Lib.hid hS.1
            have HMY := Lib.hid (fun (W : World) => minus_any Y X W X0 (by omega) (by omega))
            have t1 : decide (X < Y) = true := by simpa using hxy
            clear hS hxy ea hk
            go_wp2_with fail
            refine (HMI.out _).mono ?_
            rintro e w6 ⟨rfl, hb6⟩
            have Z10a := heap_ext Z10.out hb6
            have c10 := fun j => cell_of_row _ _ j _ _ _ Z10a
            have f10 := fun j => frozen_of_row _ _ j _ _ Z10a
            generalize mHi X Y = mh at *
            generalize lo64 (X - Y) = ml at *
            clear c7 c8
            have Z7a := heap_ext Z7.out hb6
            have Z8a := heap_ext Z8.out hb6
            have HT6 := HT5.out.next hb6
            go_upto_region 9 with fail
            have Z10b := heap_set (j := 1) (u := .int .u64 ml) (heap_set (j := 0) (u := .int .u64 mh) Z10a)
            have Z7b : ((w6.setCell ⟨g10, 0, none⟩ (.int .u64 mh)).setCell ⟨g10, 1, none⟩ (.int .u64 ml)).heap[g7]? = some (wB X) := by rw [heap_set_ne n7, heap_set_ne n7]; exact Z7a
            have Z8b : ((w6.setCell ⟨g10, 0, none⟩ (.int .u64 mh)).setCell ⟨g10, 1, none⟩ (.int .u64 ml)).heap[g8]? = some (wB Y) := by rw [heap_set_ne n8, heap_set_ne n8]; exact Z8a
            have HT7 := (HT6.set s10 0 (.int .u64 mh)).set s10 1 (.int .u64 ml)
            clear c10 f10 Z7a Z8a Z10a HT6 hb6
            generalize (w6.setCell _ _).setCell _ _ = w7 at *
            have c7 := fun j => cell_of_row _ _ j _ _ _ Z7b
            have c8 := fun j => cell_of_row _ _ j _ _ _ Z8b
            go_wp2_with fail
            refine (HLE.out _).mono ?_
            rintro e w8 ⟨rfl, hb8⟩
            have Z10c := heap_ext Z10b hb8
            have Z7c := heap_ext Z7b hb8
            have Z8c := heap_ext Z8b hb8
            have HT8 := HT7.next hb8
            clear c7 c8 HT7 Z10b Z7b Z8b hb8
            have c7 := fun j => cell_of_row _ _ j _ _ _ Z7c
            have c8 := fun j => cell_of_row _ _ j _ _ _ Z8c
            go_wp2_with fail
            refine (HMY.out _).mono ?_
            rintro e w9 ⟨rfl, hb9⟩
            have Z10d := heap_ext Z10c hb9
            have HT9 := HT8.next hb9
            clear c7 c8 HT8 Z10c Z7c Z8c hb9
            have c10 := fun j => cell_of_row _ _ j _ _ _ Z10d
            have f10 := fun j => frozen_of_row _ _ j _ _ Z10d
            have cb := fun j => cell_of_row _ _ j _ _ _ HT9.bb
            have zb := lt_some HT9.bb
            go_wp2_with fail
            go_meet
            exact ⟨_, _, rfl, rfl, HST, HSG, (HT9.set s10 _ _).set s10 _ _, heap_set (heap_set Z10d)⟩
          · have hS := HM.out.diff2 hk hxy
            rw [ht] at hS
            have HSG : Hid (t ≠ 0 → false = decide (t < 0)) := Lib.hid (fun h => by rw [← ea]; exact hS.2 h)
            have HST := Lib.hid hS.1
            have HMX := Lib.hid (fun (W : World) => minus_any X Y W Y0 (by omega) (by omega))
            have t1 : decide (X < Y) = false := by simpa using hxy
            clear hS hxy ea hk
            go_wp2_with fail
            refine (HMX.out _).mono ?_
            rintro e w6 ⟨rfl, hb6⟩
            have Z10a := heap_ext Z10.out hb6
            have c10 := fun j => cell_of_row _ _ j _ _ _ Z10a
            have f10 := fun j => frozen_of_row _ _ j _ _ Z10a
            clear c7 c8
            have Z7a := heap_ext Z7.out hb6
            have Z8a := heap_ext Z8.out hb6
            have HT6 := HT5.out.next hb6
            go_upto_region 9 with fail
            have Z10b := heap_set (j := 1) (u := .int .u64 (lo64 (X - Y))) (heap_set (j := 0) (u := .int .u64 (hi64 (X - Y))) Z10a)
            have Z7b : ((w6.setCell ⟨g10, 0, none⟩ (.int .u64 (hi64 (X - Y)))).setCell ⟨g10, 1, none⟩ (.int .u64 (lo64 (X - Y)))).heap[g7]? = some (wB X) := by rw [heap_set_ne n7, heap_set_ne n7]; exact Z7a
            have Z8b : ((w6.setCell ⟨g10, 0, none⟩ (.int .u64 (hi64 (X - Y)))).setCell ⟨g10, 1, none⟩ (.int .u64 (lo64 (X - Y)))).heap[g8]? = some (wB Y) := by rw [heap_set_ne n8, heap_set_ne n8]; exact Z8a
            have HT7 := (HT6.set s10 0 (.int .u64 (hi64 (X - Y)))).set s10 1 (.int .u64 (lo64 (X - Y)))
            clear c10 f10 Z7a Z8a Z10a HT6 hb6
            generalize (w6.setCell _ _).setCell _ _ = w7 at *
            have c7 := fun j => cell_of_row _ _ j _ _ _ Z7b
            have c8 := fun j => cell_of_row _ _ j _ _ _ Z8b
            go_wp2_with fail
            refine (HLE.out _).mono ?_
            rintro e w8 ⟨rfl, hb8⟩
            have Z10c := heap_ext Z10b hb8
            have HT8 := HT7.next hb8
            clear c7 c8 HT7 Z10b Z7b Z8b hb8
            go_wp2_with fail
            go_meet
            exact ⟨_, _, rfl, rfl, HST, HSG, HT8, Z10c⟩
      · cases sB
        · have sa : a.n < 0 := by simpa using hsA
          have sb : ¬ b.n < 0 := by simpa using hsB
          have hk : ¬ (a.n * q < 0 ↔ b.n * p < 0) := by rw [← HA.out, ← HB.out]; omega
          have ea : decide (a.n * q < 0) = true := by rw [decide_eq_true_iff, ← HA.out]; omega
          have c7 := fun j => cell_of_row _ _ j _ _ _ Z7.out
          have c8 := fun j => cell_of_row _ _ j _ _ _ Z8.out
          clear sa sb
          by_cases hxy : X < Y
          · have hS := HM.out.diff1 hk hxy
            rw [ht] at hS
            have HSG : Hid (t ≠ 0 → (!true) = decide (t < 0)) := Lib.hid (fun _ => by rw [← ea]; exact hS.2)
            have HST := Lib.hid hS.1
            have HMY := Lib.hid (fun (W : World) => minus_any Y X W X0 (by omega) (by omega))
            have t1 : decide (X < Y) = true := by simpa using hxy
            clear hS hxy ea hk
            go_wp2_with fail
            refine (HMI.out _).mono ?_
            rintro e w6 ⟨rfl, hb6⟩
            have Z10a := heap_ext Z10.out hb6
            have c10 := fun j => cell_of_row _ _ j _ _ _ Z10a
            have f10 := fun j => frozen_of_row _ _ j _ _ Z10a
            generalize mHi X Y = mh at *
            generalize lo64 (X - Y) = ml at *
            clear c7 c8
            have Z7a := heap_ext Z7.out hb6
            have Z8a := heap_ext Z8.out hb6
            have HT6 := HT5.out.next hb6
            go_upto_region 9 with fail
            have Z10b := heap_set (j := 1) (u := .int .u64 ml) (heap_set (j := 0) (u := .int .u64 mh) Z10a)
            have Z7b : ((w6.setCell ⟨g10, 0, none⟩ (.int .u64 mh)).setCell ⟨g10, 1, none⟩ (.int .u64 ml)).heap[g7]? = some (wB X) := by rw [heap_set_ne n7, heap_set_ne n7]; exact Z7a
            have Z8b : ((w6.setCell ⟨g10, 0, none⟩ (.int .u64 mh)).setCell ⟨g10, 1, none⟩ (.int .u64 ml)).heap[g8]? = some (wB Y) := by rw [heap_set_ne n8, heap_set_ne n8]; exact Z8a
            have HT7 := (HT6.set s10 0 (.int .u64 mh)).set s10 1 (.int .u64 ml)
            clear c10 f10 Z7a Z8a Z10a HT6 hb6
            generalize (w6.setCell _ _).setCell _ _ = w7 at *
            have c7 := fun j => cell_of_row _ _ j _ _ _ Z7b
            have c8 := fun j => cell_of_row _ _ j _ _ _ Z8b
            go_wp2_with fail
            refine (HLE.out _).mono ?_
            rintro e w8 ⟨rfl, hb8⟩
            have Z10c := heap_ext Z10b hb8
            have Z7c := heap_ext Z7b hb8
            have Z8c := heap_ext Z8b hb8
            have HT8 := HT7.next hb8
            clear c7 c8 HT7 Z10b Z7b Z8b hb8
            have c7 := fun j => cell_of_row _ _ j _ _ _ Z7c
            have c8 := fun j => cell_of_row _ _ j _ _ _ Z8c
            go_wp2_with fail
            refine (HMY.out _).mono ?_
            rintro e w9 ⟨rfl, hb9⟩
            have Z10d := heap_ext Z10c hb9
            have HT9 := HT8.next hb9
            clear c7 c8 HT8 Z10c Z7c Z8c hb9
            have c10 := fun j => cell_of_row _ _ j _ _ _ Z10d
            have f10 := fun j => frozen_of_row _ _ j _ _ Z10d
            have cb := fun j => cell_of_row _ _ j _ _ _ HT9.bb
            have zb := lt_some HT9.bb
            go_wp2_with fail
            go_meet
            exact ⟨_, _, rfl, rfl, HST, HSG, (HT9.set s10 _ _).set s10 _ _, heap_set (heap_set Z10d)⟩
          · have hS := HM.out.diff2 hk hxy
            rw [ht] at hS
            have HSG : Hid (t ≠ 0 → true = decide (t < 0)) := Lib.hid (fun h => by rw [← ea]; exact hS.2 h)
            have HST := Lib.hid hS.1
            have HMX := Lib.hid (fun (W : World) => minus_any X Y W Y0 (by omega) (by omega))
            have t1 : decide (X < Y) = false := by simpa using hxy
            clear hS hxy ea hk
            go_wp2_with fail
            refine (HMX.out _).mono ?_
            rintro e w6 ⟨rfl, hb6⟩
            have Z10a := heap_ext Z10.out hb6
            have c10 := fun j => cell_of_row _ _ j _ _ _ Z10a
            have f10 := fun j => frozen_of_row _ _ j _ _ Z10a
            clear c7 c8
            have Z7a := heap_ext Z7.out hb6
            have Z8a := heap_ext Z8.out hb6
            have HT6 := HT5.out.next hb6
            go_upto_region 9 with fail
            have Z10b := heap_set (j := 1) (u := .int .u64 (lo64 (X - Y))) (heap_set (j := 0) (u := .int .u64 (hi64 (X - Y))) Z10a)
            have Z7b : ((w6.setCell ⟨g10, 0, none⟩ (.int .u64 (hi64 (X - Y)))).setCell ⟨g10, 1, none⟩ (.int .u64 (lo64 (X - Y)))).heap[g7]? = some (wB X) := by rw [heap_set_ne n7, heap_set_ne n7]; exact Z7a
            have Z8b : ((w6.setCell ⟨g10, 0, none⟩ (.int .u64 (hi64 (X - Y)))).setCell ⟨g10, 1, none⟩ (.int .u64 (lo64 (X - Y)))).heap[g8]? = some (wB Y) := by rw [heap_set_ne n8, heap_set_ne n8]; exact Z8a
            have HT7 := (HT6.set s10 0 (.int .u64 (hi64 (X - Y)))).set s10 1 (.int .u64 (lo64 (X - Y)))
            clear c10 f10 Z7a Z8a Z10a HT6 hb6
            generalize (w6.setCell _ _).setCell _ _ = w7 at *
            have c7 := fun j => cell_of_row _ _ j _ _ _ Z7b
            have c8 := fun j => cell_of_row _ _ j _ _ _ Z8b
            go_wp2_with fail
            refine (HLE.out _).mono ?_
            rintro e w8 ⟨rfl, hb8⟩
            have Z10c := heap_ext Z10b hb8
            have HT8 := HT7.next hb8
            clear c7 c8 HT7 Z10b Z7b Z8b hb8
            go_wp2_with fail
            go_meet
            exact ⟨_, _, rfl, rfl, HST, HSG, HT8, Z10c⟩
        · have sa : a.n < 0 := by simpa using hsA
          have sb : b.n < 0 := by simpa using hsB
          have hk : (a.n * q < 0 ↔ b.n * p < 0) := by rw [← HA.out, ← HB.out]; omega
          have ea : decide (a.n * q < 0) = true := by rw [decide_eq_true_iff, ← HA.out]; omega
          have hS := HM.out.same hk
          have hG := HM.out.sgn hk
          rw [ht] at hS hG
          have HSG : Hid (t ≠ 0 → true = decide (t < 0)) := Lib.hid (fun hne => by rw [← ea]; exact hG hne)
          have HST := Lib.hid hS
          clear sa sb hk ea hS hG
          go_wp2_with fail
          go_meet
          exact ⟨_, _, rfl, rfl, HST, HSG, HT5.out, Z10.out⟩
    case rest =>
      obtain ⟨m, T, rfl, rfl, hT, hm, hT6, z6⟩ := hcut
      clear HT5 Z7 Z8 Z10 HMI HLE
      by_cases t0 : t = 0
      · obtain rfl : T = 0 := by rw [hT.out, t0]; rfl
        obtain ⟨hR, hC⟩ := HZ.out t0
        subst hR
        subst hC
        clear hm hT HSP1 HZ HFIN HSS t0
        have c10 : ∀ j, wc.cell? ⟨g10, j, none⟩ = (#[Value.int .u64 0, .int .u64 0] : Array Value)[j]? := fun j => cell_of_row _ _ j _ _ _ z6
        obtain ⟨x0, x1, hr0⟩ := hT6.r
        have c1 := fun j => cell_of_row _ _ j _ _ _ hr0
        have c2 := fun j => frozen_of_row _ _ j _ _ hr0
        have z1 := lt_some hr0
        go_wp2_with fail
        exact bodyPost_ret (v := .tuple #[.agg #[.int .i64 0, .int .i64 1], .int .i64 0]) (by simp [results, Try.results125, go_sem, c1, c2, z1]) rfl ⟨rfl, hT6.end_ _ _⟩
      · obtain rfl := hT.out
        have tb : absI t ≤ X + Y := by have := HM.out.x; have := HM.out.y; rw [← ht]; unfold absI at *; omega
        have T0 := absI_nonneg t
        have Tne : absI t ≠ 0 := by unfold absI; omega
        have c10 := fun j => cell_of_row _ _ j _ _ _ z6
        have Z6 := Lib.hid z6
        have HT6 := Lib.hid hT6
        clear z6 hT6
        go_upto_region 12 with fail
        go_cut [76] (fun s76 wx => s76 = .bool false ∧ wx = wc)
        case first =>
          by_cases hz : hi64 (absI t) = 0
          · have q3 : (hi64 (absI t) == 0) = true := by simpa using hz
            have q4 : (lo64 (absI t) == 0) = false := by simp; intro hl; exact Tne (two_zero hz hl)
            have q5 : ¬ lo64 (absI t) = 0 := by simpa using q4
            clear Tne
            go_wp2_with fail
            go_meet
            exact ⟨rfl, rfl⟩
          · have q3 : (hi64 (absI t) == 0) = false := by simpa using hz
            clear Tne
            go_wp2_with fail
            go_meet
            exact ⟨rfl, rfl⟩
        case rest =>
          obtain ⟨rfl, rfl⟩ := hcut
          have hmt : m = decide (t < 0) := hm.out t0
          have hle : h ≤ g := Int.le_of_dvd g0 HSS.out.hg
          have HSPA := Lib.hid (fun (W : World) => HSP1.out W T0 (by omega))
          have hbm := Int.emod_nonneg (absI t) (show g ≠ 0 by omega)
          have hbm2 := Int.emod_lt_of_pos (absI t) g0
          have HGC := Lib.hid (fun (W : World) => fgcd_any (absI t % g) g W hbm (by omega) (by omega) (by omega))
          rw [show gcdI (absI t % g) g = h by rw [gcdI_comm, gcdI_step T0 (by omega), gcdI_abs]; exact hh] at HGC
          have HSPB := Lib.hid (fun (W : World) => split_any (absI t) h W T0 (by omega) h0 (by omega))
          have N0 : 0 ≤ absI t / h := HSS.out.num0
          have k0 : 0 ≤ b.d / h := Int.ediv_nonneg (by omega) (by omega)
          have k1 : b.d / h ≤ b.d := Int.ediv_le_self _ (by omega)
          have v4 : IntKind.u64.wrap (b.d.tdiv h) = b.d / h := IntWalk.u64_quo _ _ (by omega)
          have v5 : ¬ h = 0 := by omega
          have HTM := Lib.hid (fun (W : World) => times_any p (b.d / h) W (by omega) (by omega) k0 (by omega))
          have D0 : 0 ≤ p * (b.d / h) := Int.mul_nonneg (by omega) k0
          have HDM := Lib.hid (fun (W : World) => made_any m (absI t / h) (p * (b.d / h)) W N0 D0)
          unfold signR signC at HDM
          rw [hmt, HFIN.out.1, HFIN.out.2] at HDM
          rw [hmt]
          clear hmt hm HZ HFIN HSS hh ht t0 Tne HM HA HB HPL HS1 HS2 HM1 HM2 HSP1 hg hp hq tb hbm hbm2
          generalize decide (t < 0) = sg at *
          generalize absI t / g = u1 at *
          generalize absI t % g = u2 at *
          generalize hN : absI t / h = N at *
          generalize p * (b.d / h) = D at *
          generalize b.d / h = bd at *
          clear hN
          go_wp2_with fail
          refine (HSPA.out _).mono ?_
          rintro e w7 ⟨rfl, hb7⟩
          have Z6a := heap_ext Z6.out hb7
          have HT7 := HT6.out.next hb7
          clear c10
          go_upto_region 15 with fail
          have HT8 := HT7.next (one_alloc w7 (wB u1))
          have Z6b := heap_ext Z6a (one_alloc w7 (wB u1))
          clear HT7 Z6a hb7
          generalize w7.heap.size = g11 at *
          generalize w7.alloc _ = w8 at *
          go_wp2_with fail
          refine (HGC.out _).mono ?_
          rintro e w9 ⟨rfl, hb9⟩
          have Z6c := heap_ext Z6b hb9
          have HT9 := HT8.next hb9
          clear HT8 Z6b hb9
          have c10 := fun j => cell_of_row _ _ j _ _ _ Z6c
          go_wp2_with fail
          refine (HSPB.out _).mono ?_
          rintro e w10 ⟨rfl, hb10⟩
          have HT10 := HT9.next hb10
          clear HT9 Z6c hb10 c10
          go_upto_region 17 with fail
          have HT11 := HT10.next (one_alloc w10 (wB N))
          have Z14 := heap_new (w := w10) (o := wB N) rfl
          have s14 := HT10.lt
          clear HT10
          generalize w10.heap.size = g14 at *
          generalize w10.alloc _ = w11 at *
          clear HSPA HSPB HGC HT6 Z6
          have HRG : Grows (fun wx => TriIn w a b wx ∧ wx.heap[g14]? = some (wB N)) := fun _ _ h hb => ⟨h.1.next hb, heap_ext h.2 hb⟩
          refine wp_region_grown (fun wx => TriIn w a b wx ∧ wx.heap[g14]? = some (wB N)) HRG ⟨HT11.next (Below.refl _ _).drew, Z14⟩ [0, 1, 2, 3, 4, 5, 6, 7, 8, 9, 10, 11, 12, 13, 14, 15] 18 2 (by kernel_rfl) (by kernel_rfl) ?_
          apply Exists.intro
          refine ⟨fun G hG hN => ?_, ?_⟩
          · have ca := fun (e : GE (fun wx => TriIn w a b wx ∧ wx.heap[g14]? = some (wB N)) G) j => cell_of_row e.w _ j _ _ _ e.h.1.ba
            have cb := fun (e : GE (fun wx => TriIn w a b wx ∧ wx.heap[g14]? = some (wB N)) G) j => cell_of_row e.w _ j _ _ _ e.h.1.bb
            have c14 := fun (e : GE (fun wx => TriIn w a b wx ∧ wx.heap[g14]? = some (wB N)) G) j => cell_of_row e.w _ j _ _ _ e.h.2
            simp only [pickOps, List.getElem?_toArray, List.getElem?_cons_zero, List.getElem?_cons_succ]
            repeat (first | go_big_quiet_step ((first | (go_at_call 95; exact calls_ge HRG hG (HTM.out _)) | (go_at_call 119; exact calls_ge HRG hG (HDM.out _)))) | quiet_step ((first | (go_at_call 95; exact calls_ge HRG hG (HTM.out _)) | (go_at_call 119; exact calls_ge HRG hG (HDM.out _)))))
            exact wpQuiet_nil rfl
          refine wpAnyE_all (rs := [16]) (by kernel_rfl) (by simp) (fun W1 hW1 hRW1 i hi => ?_)
          obtain rfl := List.mem_singleton.1 hi
          obtain ⟨x0, x1, hr0⟩ := hRW1.1.r
          have c1 := fun j => cell_of_row _ _ j _ _ _ hr0
          have c2 := fun j => frozen_of_row _ _ j _ _ hr0
          refine wpOp_step rfl (fun K hK => ?_)
          go_simp
          refine hK _ _ ⟨⟨hRW1.1.setR _ _, by rw [heap_set_ne (by omega), heap_set_ne (by omega)]; exact hRW1.2⟩, ?_⟩
          clear hK K
          clear c1 c2
          refine wpAnyE_all (rs := [17]) (by kernel_rfl) (by simp) (fun W2 hW2 hRW2 i hi => ?_)
          obtain rfl := List.mem_singleton.1 hi
          refine wpOp_step rfl (fun K hK => ?_)
          go_simp
          refine hK _ _ ⟨hRW2, ?_⟩
          clear hK K
          refine wpAnyE_done (by kernel_rfl) (fun W3 hW3 hR3 => ?_) _
          refine NoPanic.normal ?_
          have hr1 := heap_ext (heap_ext (heap_set (heap_set hr0)) hW2) hW3
          have c1 := fun j => cell_of_row _ _ j _ _ _ hr1
          have z1 := lt_some hr1
          go_wp2_with fail
          exact bodyPost_ret (v := .tuple #[rV R, .int .i64 C]) (by simp [results, Try.results125, go_sem, c1, z1]) rfl ⟨rfl, hR3.1.below⟩
end Go.Proofs.Ytgcbmnohhbcfiaa
