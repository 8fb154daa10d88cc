/- AdjustPlaces returns true for every goods and number. -/
import Derived.Test.YtcjfcfgkejoeeaaAdLF
import Derived.Test.YtcjfcfgkejoeeaaTwin
import Derived.RegionTactic
import Derived.Deep.DeepCutAuto
namespace Go.Proofs.Ytcjfcfgkejoeeaa
open Go.RowKit Go.Deep
set_option linter.unusedVariables false
set_option linter.unusedSimpArgs false

/-- The first values so many times as great. -/
def partL (m : Int) (k : Nat) (l : List Int) : List Int := (l.take k).map (· * m) ++ l.drop k
theorem partL_zero (m : Int) (l : List Int) : partL m 0 l = l := by simp [partL]
theorem partL_all (m : Int) (l : List Int) : partL m l.length l = moreL m l := by simp [partL, moreL]
theorem partL_length (m : Int) (k : Nat) (l : List Int) : (partL m k l).length = l.length := by simp [partL]; omega
theorem partL_gi {m : Int} {k j : Nat} {l : List Int} (hj : j < l.length) : gi (partL m k l) j = if j < k then gi l j * m else gi l j := by
  rw [gi_get (by rw [partL_length]; exact hj), gi_get hj]
  unfold partL
  rw [List.getElem_append]
  simp only [List.length_map, List.length_take, List.getElem_map, List.getElem_take, List.getElem_drop]
  by_cases h : j < k
  · rw [if_pos h, dif_pos (by omega)]
  · rw [if_neg h, dif_neg (by omega)]
    congr 1; omega
theorem partL_set {m : Int} {k : Nat} {l : List Int} (hk : k < l.length) : (partL m k l).set k (gi l k * m) = partL m (k + 1) l := by
  refine gi_ext (by simp [partL_length]) (fun j hj => ?_)
  rw [List.length_set, partL_length] at hj
  rw [partL_gi hj]
  by_cases e : j = k
  · subst e; rw [gi_set_eq (by rw [partL_length]; exact hj), if_pos (by omega)]
  · rw [gi_set_ne e, partL_gi hj]
    by_cases h : j < k
    · rw [if_pos h, if_pos (by omega)]
    · rw [if_neg h, if_neg (by omega)]
theorem gd_rows {g n c0 c1 : Nat} {w : World} {R0 R1 : Option Addr} {cs : List (List Int)} (h3 : w.heap[g]? = some (.cells #[.slice R0 n c0, .slice R1 n c1] 25)) (l0 : (gr cs 0).length = n) (l1 : (gr cs 1).length = n) (two : cs.length = 2)
    (i0 : Ints w.heap.size w R0 (gr cs 0)) (i1 : Ints w.heap.size w R1 (gr cs 1)) (m0 : n ≤ c0 ∧ c0 ≤ maxLen) (m1 : n ≤ c1 ∧ c1 ≤ maxLen) : GIn w.heap.size w (some ⟨g, 0, none⟩) 2 cs :=
  ⟨fun _ => ⟨_, rfl, lt_some h3, fun i hi => by
    match i, (show i < 2 by omega) with
    | 0, _ => exact ⟨R0, c0, by rw [add_mk, cell_of_row _ _ _ _ _ _ h3, l0]; rfl, by omega, m0.2, i0⟩
    | 1, _ => exact ⟨R1, c1, by rw [add_mk, cell_of_row _ _ _ _ _ _ h3, l1]; rfl, by omega, m1.2, i1⟩⟩, by omega, by unfold maxLen; omega⟩
/-- The goods while they are multiplied. -/
structure MoIn (w5 : World) (g7 : Nat) (v : Value) (rows : List (List Int)) (xs : List Value) (b : Nat → Nat) (wr : World) : Prop where
  below : Below w5.heap.size w5 wr
  r : RowsV w5.heap.size wr v rows xs b
  g : wr.heap[g7]? = some (.cells #[v] 24)
  out : ∀ (i : Nat) (x : Value), xs[i]? = some x → x.ownBlock ≠ some g7
theorem MoIn.store {w5 wr : World} {g7 : Nat} {v : Value} {rows : List (List Int)} {xs : List Value} {b : Nat → Nat} (h : MoIn w5 g7 v rows xs b wr) {i k : Nat} (hi : i < rows.length) (hk : k < (gr rows i).length) (u : Int) :
    ∃ g cap gv cv, xs[i]? = some (.slice (some ⟨g, 0, none⟩) (gr rows i).length cap) ∧ v = .slice (some ⟨gv, 0, none⟩) rows.length cv ∧ wr.cell? ⟨gv, i, none⟩ = some (.slice (some ⟨g, 0, none⟩) (gr rows i).length cap) ∧ wr.cell? ⟨g, k, none⟩ = some (.int .i64 (gi (gr rows i) k)) ∧ wr.frozen? ⟨g, k, none⟩ = false ∧
      MoIn w5 g7 v (rows.set i ((gr rows i).set k u)) xs b (wr.setCell ⟨g, k, none⟩ (.int .i64 u)) := by
  obtain ⟨g, cap, e1, e2, e3, e4, e5, e6, e7⟩ := h.r.store hi hk u
  obtain ⟨gv, cv, hv, _, _⟩ := h.r.own.form (by omega)
  subst hv
  refine ⟨g, cap, gv, cv, e1, rfl, ?_, e2, e3, h.below.setCell e4 _, e7, ?_, h.out⟩
  · have hx : i < xs.length := (List.getElem?_eq_some_iff.1 e1).1
    have hc := h.r.own.cellAt i (by omega)
    rw [hc, e1]
  · rw [heap_set_ne (fun e => h.out i _ e1 (by simp [Value.ownBlock, e]))]; exact h.g
theorem MoIn.start {w5 w6 : World} {v : Value} {rows : List (List Int)} {xs : List Value} {b : Nat → Nat} (hb : Below w5.heap.size w5 w6) (h : RowsV w5.heap.size w6 v rows xs b) : MoIn w5 w6.heap.size v rows xs b (w6.alloc (.cells #[v] 24)) :=
  ⟨hb.alloc hb.size _, h.next (one_alloc _ _), heap_new rfl, fun i x e k => by
    rcases Nat.lt_or_ge i rows.length with q | q
    · obtain ⟨y, e1, e2, _⟩ := h.row i q
      rw [e] at e1
      obtain rfl := Option.some.inj e1
      have := own_ge e2 _ k
      omega
    · have := h.own.1
      have := (List.getElem?_eq_some_iff.1 e).1
      omega⟩
theorem MoIn.next {w5 wr w1 : World} {g7 : Nat} {v : Value} {rows : List (List Int)} {xs : List Value} {b : Nat → Nat} (h : MoIn w5 g7 v rows xs b wr) (hb : Below wr.heap.size wr w1) : MoIn w5 g7 v rows xs b w1 :=
  ⟨bcall h.below h.below.size hb, h.r.next hb, heap_ext h.g hb, h.out⟩

/-- Both rows of the goods while they are multiplied. -/
theorem MoIn.step0 {w5 wr : World} {g7 gv cv k n : Nat} {r0 r1 : List Int} {xs : List Value} {b : Nat → Nat} (h : MoIn w5 g7 (.slice (some ⟨gv, 0, none⟩) n cv) [r0, r1] xs b wr) (hk : k < r0.length) (u : Int) :
    ∃ g cap, wr.cell? ⟨gv, 0, none⟩ = some (.slice (some ⟨g, 0, none⟩) r0.length cap) ∧ wr.cell? ⟨g, k, none⟩ = some (.int .i64 (gi r0 k)) ∧ wr.frozen? ⟨g, k, none⟩ = false ∧
      MoIn w5 g7 (.slice (some ⟨gv, 0, none⟩) n cv) [r0.set k u, r1] xs b (wr.setCell ⟨g, k, none⟩ (.int .i64 u)) := by
  obtain ⟨g, cap, gv', cv', e1, e2, e3, e4, e5, e6⟩ := h.store (i := 0) (by simp) hk u
  simp only [Value.slice.injEq, Option.some.injEq, Addr.mk.injEq] at e2
  obtain ⟨⟨rfl, -, -⟩, rfl, rfl⟩ := e2
  exact ⟨g, cap, e3, e4, e5, e6⟩
theorem MoIn.step1 {w5 wr : World} {g7 gv cv k n : Nat} {r0 r1 : List Int} {xs : List Value} {b : Nat → Nat} (h : MoIn w5 g7 (.slice (some ⟨gv, 0, none⟩) n cv) [r0, r1] xs b wr) (hk : k < r1.length) (u : Int) :
    ∃ g cap, wr.cell? ⟨gv, 1, none⟩ = some (.slice (some ⟨g, 0, none⟩) r1.length cap) ∧ wr.cell? ⟨g, k, none⟩ = some (.int .i64 (gi r1 k)) ∧ wr.frozen? ⟨g, k, none⟩ = false ∧
      MoIn w5 g7 (.slice (some ⟨gv, 0, none⟩) n cv) [r0, r1.set k u] xs b (wr.setCell ⟨g, k, none⟩ (.int .i64 u)) := by
  obtain ⟨g, cap, gv', cv', e1, e2, e3, e4, e5, e6⟩ := h.store (i := 1) (by simp) hk u
  simp only [Value.slice.injEq, Option.some.injEq, Addr.mk.injEq] at e2
  obtain ⟨⟨rfl, -, -⟩, rfl, rfl⟩ := e2
  exact ⟨g, cap, e3, e4, e5, e6⟩
theorem rows_gin {B : Nat} {w : World} {gv cv : Nat} {rows : List (List Int)} {xs : List Value} {b : Nat → Nat} (h : RowsV B w (.slice (some ⟨gv, 0, none⟩) 2 cv) rows xs b) : GIn w.heap.size w (some ⟨gv, 0, none⟩) cv rows := by
  obtain ⟨R, d, e, h1, h2, h3⟩ := h.rows
  simp only [Value.slice.injEq] at e
  obtain ⟨e1, e2, e3⟩ := e
  subst e1; subst e3
  exact ⟨h3, h1, h2⟩
theorem two_rows {bs : List (List Int)} (h : bs.length = 2) : bs = [gr bs 0, gr bs 1] := by
  match bs, h with
  | [a, b], _ => rfl

set_option maxRecDepth 100000 in
set_option maxHeartbeats 16000000 in
theorem places_walk (bs : List (List Int)) (A : Option Addr) (c : Nat) (m : Int) (w : World) (h : GIn w.heap.size w A c bs) (wm : (Lit.int .i64 m).wf = true) :
    Calls Try.prog 7 #[gV A c bs, .int .i64 m] w fun e w' => e = .returned (.bool true) ∧ Below w.heap.size w w' := by
  have HBel0 := Lib.hid (one_alloc w (gB A c bs))
  have hg0 : (w.alloc (gB A c bs)).heap[w.heap.size]? = some (gB A c bs) := heap_new rfl
  have HB := Lib.hid h
  obtain ⟨fb, hfb⟩ : ∃ b, b = fitB bs := ⟨_, rfl⟩
  have HFI := Lib.hid (fun (W : World) (hW : Below w.heap.size w W) => hfb ▸ fit_any bs A c W (h.next hW))
  have HFB := Lib.hid hfb
  clear h hfb wm
  go_enter Try.func7, Try.ntmps7
  try dsimp only [List.append]
  go_wp2_with fail
  refine (alive_any _).mono ?_
  rintro e w1 ⟨rfl, hb1⟩
  have HB1 := Lib.hid (bcall HBel0.out HBel0.out.size hb1)
  have hg1 := heap_ext hg0 hb1
  clear hg0 hb1
  have cg := fun j => cell_of_row _ _ j _ _ _ hg1
  go_wp2_with fail
  refine (HFI.out _ HB1.out).mono ?_
  rintro e w2 ⟨rfl, hb2⟩
  have HB2 := Lib.hid (bcall HB1.out HB1.out.size hb2)
  have hg2 := heap_ext hg1 hb2
  clear cg hg1 hb2
  have cg := fun j => cell_of_row _ _ j _ _ _ hg2
  cases fb with
  | false =>
    go_wp2_with fail
    go_ret
    exact ⟨rfl, HB2.out⟩
  | true =>
  by_cases m1 : m < 1
  · have q : decide (m < 1) = true := by simpa using m1
    go_wp2_with fail
    go_ret
    exact ⟨rfl, HB2.out⟩
  have qm1 : decide (m < 1) = false := by simpa using m1
  by_cases m2 : 10 < m
  · have q : decide (10 < m) = true := by simpa using m2
    go_wp2_with fail
    go_ret
    exact ⟨rfl, HB2.out⟩
  have qm2 : decide (10 < m) = false := by simpa using m2
  have hc := fit_code HFB.out.symm
  have HC := Lib.hid hc
  have HK := Lib.hid (show AdOk bs (num bs) from ad_ok hc)
  have n0 := num_pos HK.out
  have n10 := HK.out.n10
  have two := HK.out.two
  obtain ⟨bd, R0, c0, rfl, hb0, hc0, hl0, hm0, hi0⟩ := HB.out.at0 (show 0 < bs.length by omega)
  obtain ⟨bd', R1, c1, hA', hb1, hc1, hl1, hm1, hi1⟩ := HB.out.at1 (show 1 < bs.length by omega)
  obtain rfl : bd = bd' := by simpa using hA'
  rw [HK.out.l0] at hc0 hl0
  rw [HK.out.l1] at hc1 hl1
  have HR := Lib.hid (fun (W : World) (hb : Below w.heap.size w W) => show W.cell? bd = some (.slice R0 (num bs) c0) ∧ W.cell? ⟨bd.block, bd.off + 1, none⟩ = some (.slice R1 (num bs) c1) from ⟨(hb.cell hb0).trans hc0, (hb.cell (p := ⟨bd.block, bd.off + 1, none⟩) hb0).trans hc1⟩)
  have HI0 := Lib.hid hi0
  have HI1 := Lib.hid hi1
  have HL0 := Lib.hid (And.intro hl0 hm0)
  have HL1 := Lib.hid (And.intro hl1 hm1)
  have i0 : (0 : Int) < (bs.length : Int) := by omega
  have i0n : 0 < bs.length := by omega
  have i1 : (1 : Int) < (bs.length : Int) := by omega
  have i1n : 1 < bs.length := by omega
  clear two hc hA' hb0 hc0 hb1 hc1 hi0 hi1 hl0 hm0 hl1 hm1 HFI HFB
  go_upto_region 4 with fail
  clear cg
  go_cut [6] (fun s6 wx => ∃ g6 A', s6 = .pointer (some ⟨g6, 0, none⟩) ∧ Below w2.heap.size w2 wx ∧ wx.heap[g6]? = some (gB (some A') 2 (swapB bs)) ∧ GIn wx.heap.size wx (some A') 2 (swapB bs))
  case first =>
    refine wp_region_flow 12 (by kernel_rfl) (by rfl) (fun w0 hb0 => ?_)
    have hk0 := heap_ext hg2 hb0
    have HB0 := Lib.hid (bcall HB2.out HB2.out.size hb0)
    refine wpAnyE_go (w0 := w0) (w1 := w0) (X := []) (fun _ h => h) (RK.start _) [0, 1, 2, 3, 4, 5, 6, 7] 4 (by kernel_rfl) ?_
    apply Exists.intro
    refine ⟨fun G hG hN => ?_, ?_⟩
    · have cg := fun (e : GE (RK w0 w0 []) G) j => cell_of_row e.w _ j _ _ _ (heap_ext hk0 e.h.b)
      have zg := fun (e : GE (RK w0 w0 []) G) => lt_some (heap_ext hk0 e.h.b)
      have cr0 := fun (e : GE (RK w0 w0 []) G) => (HR.out e.w (bcall HB0.out HB0.out.size e.h.b)).1
      have cr1 := fun (e : GE (RK w0 w0 []) G) => (HR.out e.w (bcall HB0.out HB0.out.size e.h.b)).2
      simp only [pickOps, List.getElem?_toArray, List.getElem?_cons_zero, List.getElem?_cons_succ]
      repeat (first | go_big_quiet_step (fail) | quiet_step (fail))
      exact wpQuiet_nil rfl
    refine wpAnyE_all (rs := [8, 10]) (by kernel_rfl) (by simp) (fun W1 hW1 hRW1 i hi => ?_)
    rcases List.mem_cons.1 hi with rfl | hi
    · refine wpOp_step rfl (fun K hK => ?_)
      go_simp
      refine hK _ _ ⟨hRW1.grow (one_alloc _ _), ?_⟩
      clear hK K
      have hy := heap_new (w := W1) (o := (Obj.cells #[.slice R1 (num bs) c1, .slice R0 (num bs) c0] 25)) rfl
      refine wpAnyE_go (w0 := w0) (w1 := (W1.alloc (Obj.cells #[.slice R1 (num bs) c1, .slice R0 (num bs) c0] 25))) (X := []) (RK.move (hRW1.grow (one_alloc _ _)) (by simp)) (RK.here (hRW1.grow (one_alloc _ _))) [9] 2 (by kernel_rfl) ?_
      apply Exists.intro
      refine ⟨fun G hG hN => ?_, ?_⟩
      · simp only [pickOps, List.getElem?_toArray, List.getElem?_cons_zero, List.getElem?_cons_succ]
        repeat (first | go_big_quiet_step (fail) | quiet_step (fail))
        exact wpQuiet_nil rfl
      refine wpAnyE_all (rs := [10]) (by kernel_rfl) (by simp) (fun W3 hW3 hRW3 i hi => ?_)
      obtain rfl := List.mem_singleton.1 hi
      have hy := heap_ext hy hW3
      have hne : W1.heap.size ≠ W3.heap.size := by have := lt_some hy; omega
      have hz : w0.heap.size ≤ W3.heap.size := hRW3.b.size
      have hz2 := hRW3.s
      refine wpOp_step rfl (fun K hK => ?_)
      go_simp
      refine hK _ _ ⟨hRW3.grow (one_alloc _ _), ?_⟩
      clear hK K
      have hy := heap_old (o' := (Obj.cells #[.slice none 0 0] 24)) hy
      have hx := heap_new (w := W3) (o := (Obj.cells #[.slice none 0 0] 24)) rfl
      refine wpAnyE_all (rs := [11]) (by kernel_rfl) (by simp) (fun W4 hW4 hRW4 i hi => ?_)
      obtain rfl := List.mem_singleton.1 hi
      have hx := heap_ext hx hW4
      have hy := heap_ext hy hW4
      have ck := fun j => cell_of_row _ _ j _ _ _ hx
      have fk := fun j => frozen_of_row _ _ j _ _ hx
      refine wpOp_step rfl (fun K hK => ?_)
      go_simp
      refine hK _ _ ⟨hRW4.set hz (Or.inr hz2), ?_⟩
      clear hK K
      clear ck fk
      have hy := (heap_set_ne (j := 0) (u := .slice (some ⟨W1.heap.size, 0, none⟩) 2 2) (show W1.heap.size ≠ W3.heap.size by first | exact hne | exact Ne.symm hne)).trans hy
      have hx := heap_set (j := 0) (u := .slice (some ⟨W1.heap.size, 0, none⟩) 2 2) hx
      refine wpAnyE_done (by kernel_rfl) (fun W5 hW5 hRW5 => ?_) _
      refine NoPanic.normal ?_
      have hx := heap_ext hx hW5
      have hy := heap_ext hy hW5
      go_wp2_with fail
      go_meet
      exact ⟨_, _, rfl, bcall hb0 hb0.size hRW5.b, hx, gd_rows hy (by rw [swap0]; exact HK.out.l1) (by rw [swap1]; exact HK.out.l0) rfl (by rw [swap0]; exact HI1.out.next (bcall HB0.out HB0.out.size hRW5.b)) (by rw [swap1]; exact HI0.out.next (bcall HB0.out HB0.out.size hRW5.b)) HL1.out HL0.out⟩
    · obtain rfl := List.mem_singleton.1 hi
      refine wpOp_step rfl (fun K hK => ?_)
      go_simp
      refine hK _ _ ⟨hRW1.grow (one_alloc _ _), ?_⟩
      clear hK K
      have hx := heap_new (w := W1) (o := (Obj.cells #[.slice none 0 0] 24)) rfl
      refine wpAnyE_all (rs := [8]) (by kernel_rfl) (by simp) (fun W3 hW3 hRW3 i hi => ?_)
      obtain rfl := List.mem_singleton.1 hi
      have hx := heap_ext hx hW3
      have hne : W1.heap.size ≠ W3.heap.size := by have := lt_some hx; omega
      have hz : w0.heap.size ≤ W1.heap.size := hRW1.b.size
      refine wpOp_step rfl (fun K hK => ?_)
      go_simp
      refine hK _ _ ⟨hRW3.grow (one_alloc _ _), ?_⟩
      clear hK K
      have hx := heap_old (o' := (Obj.cells #[.slice R1 (num bs) c1, .slice R0 (num bs) c0] 25)) hx
      have hy := heap_new (w := W3) (o := (Obj.cells #[.slice R1 (num bs) c1, .slice R0 (num bs) c0] 25)) rfl
      refine wpAnyE_go (w0 := w0) (w1 := (W3.alloc (Obj.cells #[.slice R1 (num bs) c1, .slice R0 (num bs) c0] 25))) (X := [W1.heap.size]) (RK.move (hRW3.grow (one_alloc _ _)) (by simp; exact hz)) (RK.here (hRW3.grow (one_alloc _ _))) [9] 1 (by kernel_rfl) ?_
      apply Exists.intro
      refine ⟨fun G hG hN => ?_, ?_⟩
      · simp only [pickOps, List.getElem?_toArray, List.getElem?_cons_zero, List.getElem?_cons_succ]
        repeat (first | go_big_quiet_step (fail) | quiet_step (fail))
        exact wpQuiet_nil rfl
      refine wpAnyE_all (rs := [11]) (by kernel_rfl) (by simp) (fun W4 hW4 hRW4 i hi => ?_)
      obtain rfl := List.mem_singleton.1 hi
      have hx := heap_ext hx hW4
      have hy := heap_ext hy hW4
      have ck := fun j => cell_of_row _ _ j _ _ _ hx
      have fk := fun j => frozen_of_row _ _ j _ _ hx
      refine wpOp_step rfl (fun K hK => ?_)
      go_simp
      refine hK _ _ ⟨hRW4.set hz (by simp), ?_⟩
      clear hK K
      clear ck fk
      have hy := (heap_set_ne (j := 0) (u := .slice (some ⟨W3.heap.size, 0, none⟩) 2 2) (show W3.heap.size ≠ W1.heap.size by first | exact hne | exact Ne.symm hne)).trans hy
      have hx := heap_set (j := 0) (u := .slice (some ⟨W3.heap.size, 0, none⟩) 2 2) hx
      refine wpAnyE_done (by kernel_rfl) (fun W5 hW5 hRW5 => ?_) _
      refine NoPanic.normal ?_
      have hx := heap_ext hx hW5
      have hy := heap_ext hy hW5
      go_wp2_with fail
      go_meet
      exact ⟨_, _, rfl, bcall hb0 hb0.size hRW5.b, hx, gd_rows hy (by rw [swap0]; exact HK.out.l1) (by rw [swap1]; exact HK.out.l0) rfl (by rw [swap0]; exact HI1.out.next (bcall HB0.out HB0.out.size hRW5.b)) (by rw [swap1]; exact HI0.out.next (bcall HB0.out HB0.out.size hRW5.b)) HL1.out HL0.out⟩
  case rest =>
    obtain ⟨g6, A', rfl, hbA, h6, hS6⟩ := hcut
    have HB3 := Lib.hid (bcall HB2.out HB2.out.size hbA)
    have hg3 := heap_ext hg2 hbA
    have HS3 := Lib.hid hS6
    have cg := fun j => cell_of_row _ _ j _ _ _ hg3
    clear hbA hg2 hS6 HB2
    have HTW := Lib.hid (fun (W : World) (hW : Below w.heap.size w W) => twin_any bs (some bd) c W (HB.out.next hW).rows (by have := HK.out.two; omega) (fun i hi => by
      have := HK.out.n10; have := HK.out.l0; have := HK.out.l1
      match i, (show i < 2 by have := HK.out.two; omega) with
      | 0, _ => omega
      | 1, _ => omega))
    generalize wc = w5 at *
    go_wp2_with fail
    refine (HTW.out _ HB3.out).mono ?_
    rintro e w6 ⟨v, xs, bf, rfl, hV, hb6⟩
    obtain ⟨gv, cv, rfl, _, _⟩ := hV.own.form (by have := HK.out.two; omega)
    have two : bs.length = 2 := HK.out.two
    have hbs := two_rows two
    have HMS := Lib.hid (MoIn.start hb6 hV)
    rw [show MoIn w5 w6.heap.size (.slice (some ⟨gv, 0, none⟩) bs.length cv) bs = MoIn w5 w6.heap.size (.slice (some ⟨gv, 0, none⟩) bs.length cv) [partL m 0 (gr bs 0), partL m 0 (gr bs 1)] from by rw [partL_zero, partL_zero, ← hbs]] at HMS
    have HT := Lib.hid two
    clear hV hb6 HTW cg two hbs
    go_wp2_with fail
    generalize w6.heap.size = g7 at *
    generalize w6.alloc _ = w7 at *
    go_loopw [8] (fun s8 wr => ∃ k : Nat, k ≤ num bs ∧ s8 = .int .i64 k ∧ MoIn w5 g7 (.slice (some ⟨gv, 0, none⟩) bs.length cv) [partL m k (gr bs 0), partL m k (gr bs 1)] xs bf wr) (fun s8 _ => num bs - (intOf s8).toNat)
    case atStart => exact ⟨0, Nat.zero_le _, rfl, HMS.out⟩
    case round =>
      obtain ⟨k, hk, rfl, hM⟩ := hrel
      have HBr := Lib.hid (bcall HB3.out HB3.out.size hM.below)
      have hg := heap_ext hg3 hM.below
      have cg := fun j => cell_of_row _ _ j _ _ _ hg
      have q0 := (HR.out _ HBr.out).1
      by_cases hlt : k < num bs
      · have v0 := HK.out.v0 k hlt
        have v1 := HK.out.v1 k hlt
        have lt : (k : Int) < (num bs : Int) := by omega
        have p0 := prod_bd v0.1 v0.2 (show 0 ≤ m by omega) (show m ≤ 1000000 by omega)
        have p1 := prod_bd v1.1 v1.2 (show 0 ≤ m by omega) (show m ≤ 1000000 by omega)
        have x0 : IntKind.i64.wrap (gi (gr bs 0) k * m) = gi (gr bs 0) k * m := IntWalk.i64_in _ (by omega)
        have x1 : IntKind.i64.wrap (gi (gr bs 1) k * m) = gi (gr bs 1) k * m := IntWalk.i64_in _ (by omega)
        have x0' : wrap64 (gi (gr bs 0) k * m) = gi (gr bs 0) k * m := IntWalk.wrap64_in _ (by omega)
        have x1' : wrap64 (gi (gr bs 1) k * m) = gi (gr bs 1) k * m := IntWalk.wrap64_in _ (by omega)
        obtain ⟨ga, ca, e1, e2, e3, hM1⟩ := hM.step0 (k := k) (by rw [partL_length, HK.out.l0]; exact hlt) (gi (gr bs 0) k * m)
        rw [partL_length, HK.out.l0] at e1
        rw [partL_gi (by rw [HK.out.l0]; exact hlt), if_neg (Nat.lt_irrefl k)] at e2
        rw [partL_set (by rw [HK.out.l0]; exact hlt)] at hM1
        have h7 := hM.g
        have c7 := fun j => cell_of_row _ _ j _ _ _ h7
        have HM1 := Lib.hid hM1
        clear hM1 hM h7 v0 v1 p0 p1
        generalize hp0 : gi (gr bs 0) k = P0 at *
        generalize hp1 : gi (gr bs 1) k = P1 at *
        have hM1 := HM1.out
        obtain ⟨gb, cb, f1, f2, f3, hM2⟩ := hM1.step1 (k := k) (by rw [partL_length, HK.out.l1]; exact hlt) (P1 * m)
        rw [partL_length, HK.out.l1] at f1
        rw [partL_gi (by rw [HK.out.l1]; exact hlt), if_neg (Nat.lt_irrefl k), hp1] at f2
        rw [← hp1, partL_set (by rw [HK.out.l1]; exact hlt), hp1] at hM2
        have h7' := hM1.g
        have c7' := fun j => cell_of_row _ _ j _ _ _ h7'
        have HM2 := Lib.hid hM2
        clear hM1 hM2 HM1 hp0 hp1 h7' hg
        go_wp2_with fail
        exact ⟨⟨k + 1, by omega, by go_num, HM2.out⟩, by simp [intOf]; omega⟩
      · obtain rfl : k = num bs := by omega
        have hM' := hM
        rw [show partL m (num bs) (gr bs 0) = moreL m (gr bs 0) by rw [← HK.out.l0]; exact partL_all _ _, show partL m (num bs) (gr bs 1) = moreL m (gr bs 1) by rw [← HK.out.l1]; exact partL_all _ _] at hM'
        have h6 := heap_ext h6 hM.below
        have h7 : wr.heap[g7]? = some (gB (some ⟨gv, 0, none⟩) cv (moreB m bs)) := by have := hM.g; rw [HT.out] at this; exact this
        have HGB := Lib.hid (fun (W : World) (hW : Below wr.heap.size wr W) => HB.out.next (bcall HBr.out HBr.out.size hW))
        have HGS := Lib.hid (fun (W : World) (hW : Below wr.heap.size wr W) => (HS3.out.next hM.below).next hW)
        have HRM := hM'.r
        rw [HT.out] at HRM
        have HGM := Lib.hid (fun (W : World) (hW : Below wr.heap.size wr W) => (rows_gin HRM).next hW)
        have K := Lib.hid (Below.refl wr.heap.size wr)
        have HM0 := Lib.hid (show 0 < m by omega)
        clear hM hM' HRM
        have HDV := Lib.hid (adivide_any bs (some bd) c wr (HGB.out _ K.out))
        have z_hg := lt_some hg
        go_wp2_with fail
        refine HDV.out.mono ?_
        rintro e wa ⟨O, oc, D, rfl, hP, hD, _, hb⟩
        have hD := hD HC.out
        have HDE := Lib.hid hD
        have HPD := Lib.hid (hP.next (one_alloc wa (pB O oc D)))
        have K := Lib.hid (bcall K.out K.out.size hb)
        have K := Lib.hid (K.out.alloc K.out.size (pB O oc D))
        have hg := heap_ext hg hb
        have h6 := heap_ext h6 hb
        have h7 := heap_ext h7 hb
        have hg := heap_old (o' := (pB O oc D)) hg
        have h6 := heap_old (o' := (pB O oc D)) h6
        have h7 := heap_old (o' := (pB O oc D)) h7
        have ha : (wa.alloc (pB O oc D)).heap[wa.heap.size]? = some (pB O oc D) := heap_new rfl
        clear z_hg
        clear hb hP hD HDV cg q0
        rw [HC.out]
        go_upto_region 12 with fail
        generalize wa.heap.size = g9 at *
        generalize hwb : wa.alloc _ = wb at *
        clear hwb
        have S := Lib.hid (Below.refl wb.heap.size wb)
        have HDW := Lib.hid (adivide_any (swapB bs) (some A') 2 wb (HGS.out _ K.out))
        have c_h6 := fun j => cell_of_row _ _ j _ _ _ h6
        have z_h6 := lt_some h6
        go_wp2_with fail
        refine HDW.out.mono ?_
        rintro e wd ⟨O2, oc2, D2, rfl, hP, hD, _, hb⟩
        have hD := hD (swap_code HC.out)
        have HDE2 := Lib.hid hD
        have HPE := Lib.hid (hP.next (one_alloc wd (pB O2 oc2 D2)))
        have K := Lib.hid (bcall K.out K.out.size hb)
        have K := Lib.hid (K.out.alloc K.out.size (pB O2 oc2 D2))
        have S := Lib.hid (bcall S.out S.out.size hb)
        have S := Lib.hid (S.out.alloc S.out.size (pB O2 oc2 D2))
        have hg := heap_ext hg hb
        have h6 := heap_ext h6 hb
        have h7 := heap_ext h7 hb
        have ha := heap_ext ha hb
        have hg := heap_old (o' := (pB O2 oc2 D2)) hg
        have h6 := heap_old (o' := (pB O2 oc2 D2)) h6
        have h7 := heap_old (o' := (pB O2 oc2 D2)) h7
        have ha := heap_old (o' := (pB O2 oc2 D2)) ha
        have h11 : (wd.alloc (pB O2 oc2 D2)).heap[wd.heap.size]? = some (pB O2 oc2 D2) := heap_new rfl
        clear c_h6 z_h6
        clear hb hP hD HDW
        rw [swap_code HC.out]
        go_upto_region 13 with fail
        generalize wd.heap.size = g11 at *
        generalize hwe : wd.alloc _ = we at *
        clear hwe
        have T := Lib.hid (Below.refl we.heap.size we)
        obtain ⟨X, hX⟩ : ∃ X, X = D.val bs 0 := ⟨_, rfl⟩
        obtain ⟨Y, hY⟩ : ∃ Y, Y = D.val bs 1 := ⟨_, rfl⟩
        have hX2 : D2.val (swapB bs) 0 = X := by rw [hX, HDE.out, HDE2.out]; exact (swap_val HC.out).symm
        obtain ⟨Z, hZ⟩ : ∃ Z, Z = D2.val (swapB bs) 1 := ⟨_, rfl⟩
        have HVA := Lib.hid (values_ok bs (some bd) c D O oc we (HGB.out _ K.out) (HPD.out.next S.out) (by rw [HDE.out]; exact divP_code HC.out))
        have HVB := Lib.hid (fun (W : World) (hk : Below wr.heap.size wr W) (hW : Below we.heap.size we W) => values_ok (swapB bs) (some A') 2 D2 O2 oc2 W (HGS.out _ hk) (HPE.out.next hW) (by rw [HDE2.out]; exact divP_code (swap_code HC.out)))
        rw [← hX, ← hY] at HVA
        rw [hX2, ← hZ] at HVB
        clear hX hY hZ hX2
        have c_hg := fun j => cell_of_row _ _ j _ _ _ hg
        have z_hg := lt_some hg
        have c_ha := fun j => cell_of_row _ _ j _ _ _ ha
        have z_ha := lt_some ha
        go_wp2_with fail
        refine HVA.out.mono ?_
        rintro e wf ⟨rfl, hb⟩
        have K := Lib.hid (bcall K.out K.out.size hb)
        have K := Lib.hid (K.out.alloc K.out.size (rB X))
        have K := Lib.hid (K.out.alloc K.out.size (rB Y))
        have S := Lib.hid (bcall S.out S.out.size hb)
        have S := Lib.hid (S.out.alloc S.out.size (rB X))
        have S := Lib.hid (S.out.alloc S.out.size (rB Y))
        have T := Lib.hid (bcall T.out T.out.size hb)
        have T := Lib.hid (T.out.alloc T.out.size (rB X))
        have T := Lib.hid (T.out.alloc T.out.size (rB Y))
        have h6 := heap_ext h6 hb
        have h7 := heap_ext h7 hb
        have ha := heap_ext ha hb
        have h11 := heap_ext h11 hb
        have h6 := heap_old (o' := (rB X)) h6
        have h7 := heap_old (o' := (rB X)) h7
        have ha := heap_old (o' := (rB X)) ha
        have h11 := heap_old (o' := (rB X)) h11
        have h6 := heap_old (o' := (rB Y)) h6
        have h7 := heap_old (o' := (rB Y)) h7
        have ha := heap_old (o' := (rB Y)) ha
        have h11 := heap_old (o' := (rB Y)) h11
        have h13 : ((wf.alloc (rB X)).alloc (rB Y)).heap[wf.heap.size]? = some (rB X) := heap_old (heap_new rfl)
        clear c_hg z_hg c_ha z_ha
        clear hb HVA hg
        go_upto_region 14 with fail
        generalize wf.heap.size = g13 at *
        generalize hwg : (wf.alloc _).alloc _ = wg at *
        clear hwg
        have HVC := Lib.hid (HVB.out wg K.out T.out)
        have c_h6 := fun j => cell_of_row _ _ j _ _ _ h6
        have z_h6 := lt_some h6
        have c_h11 := fun j => cell_of_row _ _ j _ _ _ h11
        have z_h11 := lt_some h11
        go_wp2_with fail
        refine HVC.out.mono ?_
        rintro e wh ⟨rfl, hb⟩
        have K := Lib.hid (bcall K.out K.out.size hb)
        have K := Lib.hid (K.out.alloc K.out.size (rB X))
        have K := Lib.hid (K.out.alloc K.out.size (rB Z))
        have S := Lib.hid (bcall S.out S.out.size hb)
        have S := Lib.hid (S.out.alloc S.out.size (rB X))
        have S := Lib.hid (S.out.alloc S.out.size (rB Z))
        have h7 := heap_ext h7 hb
        have ha := heap_ext ha hb
        have h13 := heap_ext h13 hb
        have h7 := heap_old (o' := (rB X)) h7
        have ha := heap_old (o' := (rB X)) ha
        have h13 := heap_old (o' := (rB X)) h13
        have h7 := heap_old (o' := (rB Z)) h7
        have ha := heap_old (o' := (rB Z)) ha
        have h13 := heap_old (o' := (rB Z)) h13
        have h16 : ((wh.alloc (rB X)).alloc (rB Z)).heap[wh.heap.size]? = some (rB X) := heap_old (heap_new rfl)
        clear c_h6 z_h6 c_h11 z_h11
        clear hb HVB HVC h6 h11
        go_upto_region 15 with fail
        generalize wh.heap.size = g16 at *
        generalize hwi : (wh.alloc _).alloc _ = wi at *
        clear hwi
        obtain ⟨gc, hgc⟩ : ∃ x, x = gdCode (moreB m bs) := ⟨_, rfl⟩
        have HFG := Lib.hid (hgc ▸ fgcheck_any (moreB m bs) (some ⟨gv, 0, none⟩) cv wi (HGM.out _ K.out))
        have c_h13 := fun j => cell_of_row _ _ j _ _ _ h13
        have z_h13 := lt_some h13
        have c_h16 := fun j => cell_of_row _ _ j _ _ _ h16
        have z_h16 := lt_some h16
        have c_h7 := fun j => cell_of_row _ _ j _ _ _ h7
        have z_h7 := lt_some h7
        go_wp2_with fail
        refine HFG.out.mono ?_
        rintro e wj ⟨rfl, hb⟩
        have K := Lib.hid (bcall K.out K.out.size hb)
        have S := Lib.hid (bcall S.out S.out.size hb)
        have h7 := heap_ext h7 hb
        have ha := heap_ext ha hb
        clear c_h13 z_h13 c_h16 z_h16 c_h7 z_h7
        clear hb HFG h13 h16
        by_cases hz : gc = 0
        rotate_left
        · have q2 : (gc != 0) = true := by simpa using hz
          go_wp2_with fail
          go_ret
          exact ⟨rfl, bcall HBr.out HBr.out.size K.out⟩
        have q2 : (gc != 0) = false := by simpa using hz
        have HC3 := Lib.hid (show adCode (moreB m bs) = 0 from more_code HC.out HM0.out (hgc.symm.trans hz))
        have HDX := Lib.hid (adivide_any (moreB m bs) (some ⟨gv, 0, none⟩) cv wj (HGM.out _ K.out))
        have c_h7 := fun j => cell_of_row _ _ j _ _ _ h7
        have z_h7 := lt_some h7
        go_wp2_with fail
        refine HDX.out.mono ?_
        rintro e wk ⟨O3, oc3, D3, rfl, hP, hD, _, hb⟩
        have hD : D3 = D := (hD HC3.out).trans ((more_div HC.out HM0.out).trans HDE.out.symm)
        subst hD
        have hP3 := hP.next (one_alloc wk (pB O3 oc3 D3))
        have K := Lib.hid (bcall K.out K.out.size hb)
        have K := Lib.hid (K.out.alloc K.out.size (pB O3 oc3 D3))
        have S := Lib.hid (bcall S.out S.out.size hb)
        have S := Lib.hid (S.out.alloc S.out.size (pB O3 oc3 D3))
        have ha := heap_ext ha hb
        have ha := heap_old (o' := (pB O3 oc3 D3)) ha
        have h19 : (wk.alloc (pB O3 oc3 D3)).heap[wk.heap.size]? = some (pB O3 oc3 D3) := heap_new rfl
        clear c_h7 z_h7
        clear hb hP HDX h7
        rw [HC3.out]
        go_upto_region 20 with fail
        generalize wk.heap.size = g19 at *
        generalize hwl : wk.alloc _ = wl at *
        clear hwl
        have HSM := Lib.hid (ptsame_any D3 O O3 oc oc3 wl (HPD.out.next S.out) hP3)
        clear hP3
        have c_ha := fun j => cell_of_row _ _ j _ _ _ ha
        have z_ha := lt_some ha
        have c_h19 := fun j => cell_of_row _ _ j _ _ _ h19
        have z_h19 := lt_some h19
        go_wp2_with fail
        refine HSM.out.mono ?_
        rintro e wm ⟨rfl, hb⟩
        clear c_ha z_ha c_h19 z_h19
        go_wp2_with fail
        go_ret
        exact ⟨rfl, bcall HBr.out HBr.out.size (bcall K.out K.out.size hb)⟩
end Go.Proofs.Ytcjfcfgkejoeeaa
