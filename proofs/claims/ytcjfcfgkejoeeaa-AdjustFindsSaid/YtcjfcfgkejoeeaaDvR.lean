/- The reference's division: what it keeps in memory, and the walk. -/
import Derived.Test.YtcjfcfgkejoeeaaAdW
import Derived.Test.YtcjfcfgkejoeeaaDvD
import Derived.Test.YtcjfcfgkejoeeaaAdLO
import Derived.Test.YtcjfcfgkejoeeaaAdD
import Derived.Test.YtcjfcfgkejoeeaaRfM
import Derived.Test.YtcjfcfgkejoeeaaRfF
import Derived.Test.YtcjfcfgkejoeeaaFlowA
import Derived.Deep.DeepCutAuto
import Derived.StillTailTactics
import Derived.RegionTactic
namespace Go.Proofs.Ytcjfcfgkejoeeaa
open Go.RowKit Go.Deep
set_option linter.unusedVariables false
set_option linter.unusedSimpArgs false

/-- The goods, the result, the division. -/
structure RvIn (w : World) (A : Option Addr) (c : Nat) (bs : List (List Int)) (g4 : Nat) (v : Value) (ow : List Int) (sp : Int) (p : Rt) (wr : World) : Prop where
  below : Below w.heap.size w wr
  g : wr.heap[w.heap.size]? = some (gB A c bs)
  r : wr.heap[w.heap.size + 1]? = some (.cells #[.slice none 0 0, .int .i64 0, .int .i64 0, .int .i64 0] 29)
  lt : w.heap.size + 2 ≤ g4
  d : wr.heap[g4]? = some (.cells #[v, .int .i64 sp, .int .i64 p.n, .int .i64 p.d] 29)
  o : wr.ownsRow (g4 + 1) 3 1 v ow.length (intsV ow)
section
variable {w : World} {A : Option Addr} {c : Nat} {bs : List (List Int)} {g4 : Nat} {v : Value} {ow : List Int} {sp : Int} {p : Rt} {wr w1 : World}
theorem RvIn.next (h : RvIn w A c bs g4 v ow sp p wr) (hb : Below wr.heap.size wr w1) : RvIn w A c bs g4 v ow sp p w1 :=
  ⟨bcall h.below h.below.size hb, heap_ext h.g hb, heap_ext h.r hb, h.lt, heap_ext h.d hb, ownsRow_ext h.o hb⟩
theorem RvIn.drewN (h : RvIn w A c bs g4 v ow sp p wr) (n : Nat) : RvIn w A c bs g4 v ow sp p (wr.drewN n) := ⟨below_drewN h.below n, h.g, h.r, h.lt, h.d, h.o⟩
theorem RvIn.ge (h : RvIn w A c bs g4 v ow sp p wr) : ∀ g, v.ownBlock = some g → g4 + 1 ≤ g ∧ g < wr.heap.size := own_ge h.o
theorem RvIn.other (h : RvIn w A c bs g4 v ow sp p wr) {g : Nat} (hg : g4 + 1 ≤ g) (hn : v.ownBlock ≠ some g) (j : Nat) (u : Value) : RvIn w A c bs g4 v ow sp p (wr.setCell ⟨g, j, none⟩ u) :=
  have l := h.lt
  ⟨h.below.setCell (show w.heap.size ≤ g by omega) _, by rw [heap_set_ne (by omega)]; exact h.g, by rw [heap_set_ne (by omega)]; exact h.r, l, by rw [heap_set_ne (by omega)]; exact h.d,
    ownsRow_of_block h.o (fun g' e => heap_set_ne (fun k => hn (by rw [e, k])))⟩
theorem RvIn.setSp (h : RvIn w A c bs g4 v ow sp p wr) (t : Int) : RvIn w A c bs g4 v ow t p (wr.setCell ⟨g4, 1, none⟩ (.int .i64 t)) :=
  have l := h.lt
  ⟨h.below.setCell (show w.heap.size ≤ g4 by omega) _, by rw [heap_set_ne (by omega)]; exact h.g, by rw [heap_set_ne (by omega)]; exact h.r, l, by rw [heap_set h.d]; rfl,
    ownsRow_of_block h.o (fun g' e => heap_set_ne (by have := h.ge g' e; omega))⟩
theorem RvIn.setP (h : RvIn w A c bs g4 v ow sp p wr) (t : Rt) : RvIn w A c bs g4 v ow sp t ((wr.setCell ⟨g4, 2, none⟩ (.int .i64 t.n)).setCell ⟨g4, 3, none⟩ (.int .i64 t.d)) :=
  have l := h.lt
  ⟨(h.below.setCell (show w.heap.size ≤ g4 by omega) _).setCell (show w.heap.size ≤ g4 by omega) _, by rw [heap_set_ne (by omega), heap_set_ne (by omega)]; exact h.g, by rw [heap_set_ne (by omega), heap_set_ne (by omega)]; exact h.r, l, by rw [heap_set (heap_set h.d)]; rfl,
    ownsRow_of_block h.o (fun g' e => by have := h.ge g' e; rw [heap_set_ne (by omega), heap_set_ne (by omega)])⟩
theorem RvIn.setOw {g cap n : Nat} (h : RvIn w A c bs g4 (.slice (some ⟨g, 0, none⟩) n cap) ow sp p wr) (hn : ow.length = n) (k : Nat) (x : Int) : RvIn w A c bs g4 (.slice (some ⟨g, 0, none⟩) n cap) (ow.set k x) sp p (wr.setCell ⟨g, k, none⟩ (.int .i64 x)) := by
  subst hn
  have l := h.lt
  have ge := h.ge g rfl
  exact ⟨h.below.setCell (show w.heap.size ≤ g by omega) _, by rw [heap_set_ne (by omega)]; exact h.g, by rw [heap_set_ne (by omega)]; exact h.r, l, by rw [heap_set_ne (by omega)]; exact h.d,
    by have := (h.o.stored k (.int .i64 x)).1; rw [intsV_set] at this; simpa using this⟩
theorem RvIn.app (h : RvIn w A c bs g4 v ow sp p wr) {o : Obj} {v' : Value} {x : Int}
    (ho : w1.ownsRow (g4 + 1) 3 1 v' (ow.length + 1) (intsV ow ++ [.int .i64 x])) (hg : (wr.alloc o).grownBy w1 v.ownBlock) : RvIn w A c bs g4 v' (ow ++ [x]) sp p (w1.setCell ⟨g4, 0, none⟩ v') := by
  have l := h.lt
  have hz := lt_some h.d
  have hk := grown_keep h.o hg
  have ge := own_ge ho
  have ho2 : w1.ownsRow (g4 + 1) 3 1 v' (ow ++ [x]).length (intsV (ow ++ [x])) := by rw [intsV_append] at ho; simpa using ho
  exact {
    below := ((h.below.alloc h.below.size o).grown hg (by have := h.below.size; simp; omega) (fun g e => by have := own_ge h.o g e; omega)).setCell (show w.heap.size ≤ g4 by omega) _
    g := by rw [heap_set_ne (by omega), hk _ (by omega) (by omega)]; exact h.g
    r := by rw [heap_set_ne (by omega), hk _ (by omega) (by omega)]; exact h.r
    lt := l
    d := by rw [heap_set (by rw [hk _ (by omega) (by omega)]; exact h.d)]; rfl
    o := ownsRow_of_block ho2 (fun g e => heap_set_ne (by have := ge g e; omega)) }
theorem RvIn.facts (h : RvIn w A c bs g4 v ow sp p wr) : (g4 < wr.heap.size ∧ w.heap.size + 1 < wr.heap.size ∧ w.heap.size < wr.heap.size) ∧ (∀ j, wr.cell? ⟨w.heap.size, j, none⟩ = (#[Value.slice A bs.length c] : Array Value)[j]?)
    ∧ (∀ j, wr.cell? ⟨g4, j, none⟩ = (#[v, .int .i64 sp, .int .i64 p.n, .int .i64 p.d] : Array Value)[j]?) ∧ (∀ j, wr.frozen? ⟨g4, j, none⟩ = false) :=
  ⟨⟨lt_some h.d, lt_some h.r, lt_some h.g⟩, fun j => cell_of_row _ _ j _ _ _ h.g, fun j => cell_of_row _ _ j _ _ _ h.d, fun j => frozen_of_row _ _ j _ _ h.d⟩
end
theorem rv_end {w : World} {A : Option Addr} {c : Nat} {bs : List (List Int)} {g4 gO cO n : Nat} {ow : List Int} {sp : Int} {p : Rt} {wr : World}
    (h : RvIn w A c bs g4 (.slice (some ⟨gO, 0, none⟩) n cO) ow sp p wr) (hn : ow.length = n) (hc : n ≤ cO ∧ cO ≤ maxLen) (s0 : -9223372036854775808 ≤ sp) (s1 : sp ≤ 9223372036854775807) (hp : p.wf) (ha : adCode bs = 0) (he : divP bs = ⟨ow, sp, p⟩) (i0 i1 i2 i3 : Nat) (u0 u1 u2 u3 : Value) :
    DvPost bs w (.returned (.tuple #[.agg #[(.slice (some ⟨gO, 0, none⟩) n cO), .int .i64 sp, .int .i64 p.n, .int .i64 p.d], .int .i64 0])) ((((wr.setCell ⟨w.heap.size + 1, i0, none⟩ u0).setCell ⟨w.heap.size + 1, i1, none⟩ u1).setCell ⟨w.heap.size + 1, i2, none⟩ u2).setCell ⟨w.heap.size + 1, i3, none⟩ u3) := by
  subst hn
  have g := h.ge gO rfl
  have l := h.lt
  refine ⟨some ⟨gO, 0, none⟩, cO, ⟨ow, sp, p⟩, by rw [ha], ?_, fun _ => he.symm, fun e => absurd ha e, (((h.below.setCell (show w.heap.size ≤ w.heap.size + 1 by omega) _).setCell (show w.heap.size ≤ w.heap.size + 1 by omega) _).setCell (show w.heap.size ≤ w.heap.size + 1 by omega) _).setCell (show w.heap.size ≤ w.heap.size + 1 by omega) _⟩
  refine ⟨?_, hc.1, hc.2, s0, s1, hp⟩
  have ho : ((((wr.setCell ⟨w.heap.size + 1, i0, none⟩ u0).setCell ⟨w.heap.size + 1, i1, none⟩ u1).setCell ⟨w.heap.size + 1, i2, none⟩ u2).setCell ⟨w.heap.size + 1, i3, none⟩ u3).ownsRow (g4 + 1) 3 1 (.slice (some ⟨gO, 0, none⟩) ow.length cO) ow.length (intsV ow) :=
    ownsRow_of_block h.o (fun g' e => by
      have := h.ge g' e
      rw [heap_set_ne (by omega), heap_set_ne (by omega), heap_set_ne (by omega), heap_set_ne (by omega)])
  exact (Ints.of_own ho).1
section
variable {bs : List (List Int)}
theorem worth_ini {i : Nat} {q : Int} (h : q.toNat = i) : worthTo bs (iniL bs (num bs)) i q (num bs) = hasTo bs q (num bs) := by
  subst h
  unfold worthTo hasTo
  exact sumTo_congr (fun k hk => by rw [iniL_gi hk])
theorem PassIn.bd (h : AdOk bs (num bs)) {l : List Nat} {ow : List Int} {hr ho : Int} (p : PassIn bs l ow hr ho) : (0 ≤ hr ∧ hr ≤ 10000) ∧ 0 ≤ ho ∧ ho ≤ 10000 := by
  have a := sumTo_bd (f := fun k => if gi ow k = (richN bs : Int) then own bs k else 0) (lo := 0) (hi := 1000) (k := num bs) (fun k hk => by have := h.own_bd hk; split <;> omega)
  have b := sumTo_bd (f := fun k => if gi ow k = 1 - (richN bs : Int) then oth bs k else 0) (lo := 0) (hi := 1000) (k := num bs) (fun k hk => by have := h.oth_bd hk; split <;> omega)
  have n10 := h.n10
  have e1 := p.r
  have e2 := p.o
  unfold sumR at e1
  unfold sumO at e2
  omega
/-- What the richer one has, read from memory. -/
def rvM (bs : List (List Int)) (gO : Nat) (wr : World) : Nat := (sumTo (fun k => match wr.cell? ⟨gO, k, none⟩ with | some (.int _ x) => if x = (richN bs : Int) then own bs k else 0 | _ => 0) (num bs)).toNat
theorem rvM_eq {gO : Nat} {wr : World} {l : List Nat} {ow : List Int} {hr ho : Int} (p : PassIn bs l ow hr ho) (h : ∀ k, k < num bs → wr.cell? ⟨gO, k, none⟩ = some (.int .i64 (gi ow k))) : rvM bs gO wr = hr.toNat := by
  rw [p.r]
  unfold rvM sumR
  congr 1
  exact sumTo_congr (fun k hk => by rw [h k hk])
theorem both_sum (bs : List (List Int)) (k : Nat) : gi (gr bs 0) k + gi (gr bs 1) k = own bs k + oth bs k := by
  unfold own oth
  rcases rich_cases bs with e | e <;> rw [e]
  show _ = gi (gr bs 1) k + gi (gr bs 0) k
  omega
/-- The state while goods are passed. -/
structure RdIn (w : World) (A : Option Addr) (c : Nat) (bs : List (List Int)) (g4 gO cO : Nat) (l : List Nat) (ow : List Int) (hr ho : Int) (wr : World) : Prop where
  rv : RvIn w A c bs g4 (.slice (some ⟨gO, 0, none⟩) (num bs) cO) ow (-1) ⟨0, 1⟩ wr
  p : PassIn bs l ow hr ho
  s : List.Pairwise (Prec (ltD bs)) l
  e : divP bs = passR bs l ow hr ho
theorem RdIn.cells {w : World} {A : Option Addr} {c g4 gO cO : Nat} {l : List Nat} {ow : List Int} {hr ho : Int} {wr : World} (h : RdIn w A c bs g4 gO cO l ow hr ho wr) : ∀ k, k < num bs → wr.cell? ⟨gO, k, none⟩ = some (.int .i64 (gi ow k)) := fun k hk => by
  have q : k < ow.length := by rw [h.p.len]; exact hk
  have o := h.rv.o
  rw [h.p.len] at o
  have := o.cellAt k (by omega)
  rw [this, intsV_at q]
theorem RdIn.ints {w : World} {A : Option Addr} {c g4 gO cO : Nat} {l : List Nat} {ow : List Int} {hr ho : Int} {wr : World} (h : RdIn w A c bs g4 gO cO l ow hr ho wr) : Ints wr.heap.size wr (some ⟨gO, 0, none⟩) ow := by
  have o := h.rv.o
  have l := h.p.len
  rw [← l] at o
  exact (Ints.of_own o).1
theorem RdIn.next {w : World} {A : Option Addr} {c g4 gO cO : Nat} {l : List Nat} {ow : List Int} {hr ho : Int} {wr w1 : World} (h : RdIn w A c bs g4 gO cO l ow hr ho wr) (hb : Below wr.heap.size wr w1) : RdIn w A c bs g4 gO cO l ow hr ho w1 := ⟨h.rv.next hb, h.p, h.s, h.e⟩
theorem RdIn.drewN {w : World} {A : Option Addr} {c g4 gO cO : Nat} {l : List Nat} {ow : List Int} {hr ho : Int} {wr : World} (h : RdIn w A c bs g4 gO cO l ow hr ho wr) (n : Nat) : RdIn w A c bs g4 gO cO l ow hr ho (wr.drewN n) := ⟨h.rv.drewN n, h.p, h.s, h.e⟩
end

set_option maxRecDepth 100000 in
set_option maxHeartbeats 16000000 in
theorem fdivide_any (bs : List (List Int)) (A : Option Addr) (c : Nat) (w : World) (h : GIn w.heap.size w A c bs) :
    Calls Try.prog 16 #[gV A c bs] w (DvPost bs w) := by
  have HBel0 := Lib.hid (show Below w.heap.size w ((w.alloc (gB A c bs)).alloc (.cells #[.slice none 0 0, .int .i64 0, .int .i64 0, .int .i64 0] 29)) from (one_alloc w _).alloc (by simp) _)
  have hg0 : ((w.alloc (gB A c bs)).alloc (.cells #[.slice none 0 0, .int .i64 0, .int .i64 0, .int .i64 0] 29)).heap[w.heap.size]? = some (gB A c bs) := heap_old (heap_new rfl)
  have hr0 : ((w.alloc (gB A c bs)).alloc (.cells #[.slice none 0 0, .int .i64 0, .int .i64 0, .int .i64 0] 29)).heap[w.heap.size + 1]? = some (.cells #[.slice none 0 0, .int .i64 0, .int .i64 0, .int .i64 0] 29) := heap_new (by simp)
  obtain ⟨i0, hi0, hz0, hz1, hz2⟩ := info_parts info3
  have HB := Lib.hid h
  have HC := Lib.hid (fun (W : World) (hW : Below w.heap.size w W) => facheck_any bs A c W (h.next hW))
  have hcc := h.cap
  have hlc := h.len
  unfold maxLen at hcc
  clear h
  by_cases hc : adCode bs = 0
  rotate_left
  · have q1 : (adCode bs != 0) = true := by simpa using hc
    have HCN := Lib.hid hc
    obtain ⟨code, hcode⟩ : ∃ code, code = adCode bs := ⟨_, rfl⟩
    rw [← hcode] at q1 HC
    have HCO := Lib.hid hcode
    clear hc hcode
    go_enter Try.func16, Try.ntmps16
    have cg := fun j => cell_of_row _ _ j _ _ _ hg0
    go_wp2_with fail
    refine (HC.out _ HBel0.out).mono ?_
    rintro e w1 ⟨rfl, hb1⟩
    have HB1 := Lib.hid (bcall HBel0.out HBel0.out.size hb1)
    have hr1 := heap_ext hr0 hb1
    have hg1 := heap_ext hg0 hb1
    clear hb1 cg hg0 hr0
    have cg := fun j => cell_of_row _ _ j _ _ _ hg1
    have zg := lt_some hg1
    go_wp2_with fail
    refine (HC.out _ HB1.out).mono ?_
    rintro e w2 ⟨rfl, hb2⟩
    have HB2 := Lib.hid (bcall HB1.out HB1.out.size hb2)
    have hr2 := heap_ext hr1 hb2
    clear hb2 cg zg hg1 hr1
    have c1 := fun j => cell_of_row _ _ j _ _ _ hr2
    have f1 := fun j => frozen_of_row _ _ j _ _ hr2
    have z1 := lt_some hr2
    go_wp2_with fail
    refine bodyPost_ret (v := .tuple #[.agg #[.slice none 0 0, .int .i64 0, .int .i64 0, .int .i64 0], .int .i64 code]) (by simp [results, Try.results16, go_sem, c1, f1, z1]) rfl ?_
    exact ⟨none, 0, ⟨[], 0, ⟨0, 0⟩⟩, by rw [← HCO.out]; rfl, ⟨Ints.nil_, Nat.le_refl _, by unfold maxLen; omega, by decide, by decide, ⟨by decide, by decide, by decide, by decide⟩⟩, fun k => absurd k HCN.out, fun _ => rfl, (((HB2.out.setCell (show w.heap.size ≤ _ by simp <;> omega) _).setCell (show w.heap.size ≤ _ by simp <;> omega) _).setCell (show w.heap.size ≤ _ by simp <;> omega) _).setCell (show w.heap.size ≤ _ by simp <;> omega) _⟩
  have q1 : (adCode bs != 0) = false := by simpa using hc
  have HK := Lib.hid (show AdOk bs (num bs) from ad_ok hc)
  have HC0 := Lib.hid hc
  rw [hc] at HC q1
  clear hc
  have n10 := HK.out.n10
  have n0 := num_pos HK.out
  have two := HK.out.two
  obtain ⟨bd, R0, c0, rfl, hb0, hc0, hl0, hm0, hi0_⟩ := HB.out.at0 (show 0 < bs.length by omega)
  obtain ⟨bd', R1, c1, hAe', hb1, hc1, hl1, hm1, hi1_⟩ := HB.out.at1 (show 1 < bs.length by omega)
  obtain rfl : bd = bd' := by simpa using hAe'
  have HI0 := Lib.hid hi0_
  have HI1 := Lib.hid hi1_
  have L0 := HK.out.l0
  have L1 := HK.out.l1
  have HF0 := Lib.hid (fun (W : World) (hb : Below w.heap.size w W) => show W.cell? bd = some (.slice R0 (num bs) c0) ∧ W.cell? ⟨bd.block, bd.off + 1, none⟩ = some (.slice R1 (num bs) c1) from
    ⟨(hb.cell hb0).trans (L0 ▸ hc0), (hb.cell (p := ⟨bd.block, bd.off + 1, none⟩) hb0).trans (L1 ▸ hc1)⟩)
  have i0b : (0 : Int) < (bs.length : Int) := by omega
  have i0n : 0 < bs.length := by omega
  have i1b : (1 : Int) < (bs.length : Int) := by omega
  have i1n : 1 < bs.length := by omega
  have HWO := Lib.hid (fun (W : World) (hW : Below w.heap.size w W) (ow : List Int) (O : Option Addr) (oc i : Nat) (q : Int) (ho : Ints W.heap.size W O ow) (hi : i < 2) (hl : ow.length = num bs) => worth_any bs (some bd) c ow O oc i q W (HB.out.next hW) ho (by have := HK.out.two; omega)
    (by have := HK.out.l0; have := HK.out.l1; match i, hi with | 0, _ => omega | 1, _ => omega) (by have := HK.out.n10; omega) (fun k hk => HK.out.v hi (by omega)))
  clear hb0 hc0 hb1 hc1 hAe' hi0_ hi1_ hl0 hl1 hm0 hm1 two L0 L1
  go_enter Try.func16, Try.ntmps16
  have cg := fun j => cell_of_row _ _ j _ _ _ hg0
  go_wp2_with fail
  refine (HC.out _ HBel0.out).mono ?_
  rintro e w1 ⟨rfl, hb1⟩
  clear cg
  go_wp2_with fail
  refine (of_any 0 w1).mono ?_
  rintro e w2 ⟨rfl, hb2⟩
  have hB2 := bcall (bcall HBel0.out HBel0.out.size hb1) (bcall HBel0.out HBel0.out.size hb1).size hb2
  have hV1 : RvIn w (some bd) c bs w2.heap.size (.slice none 0 0) (iniL bs 0) (-1) ⟨0, 1⟩ (w2.alloc (.cells #[.slice none 0 0, .int .i64 (-1), .int .i64 0, .int .i64 1] 29)) :=
    ⟨hB2.alloc hB2.size _, heap_old (heap_ext (heap_ext hg0 hb1) hb2), heap_old (heap_ext (heap_ext hr0 hb1) hb2), lt_some (heap_ext (heap_ext hr0 hb1) hb2), heap_new rfl, World.ownsRow_nil _ _ _ _⟩
  have HV1 := Lib.hid hV1
  clear hb1 hb2 hB2 hg0 hr0 hV1
  go_wp2_with fail
  generalize w2.heap.size = g4 at *
  generalize w2.alloc _ = w3 at *
  go_loopw [5] (fun i wr => ∃ (k : Nat) (v : Value), k ≤ num bs ∧ i = .int .i64 k ∧ RvIn w (some bd) c bs g4 v (iniL bs k) (-1) ⟨0, 1⟩ wr) (fun i _ => num bs - (intOf i).toNat)
  case atStart => exact ⟨0, _, Nat.zero_le _, rfl, HV1.out⟩
  case round =>
    obtain ⟨k, v, hk, rfl, hVr⟩ := hrel
    by_cases hlt : k < num bs
    · obtain ⟨rd0, rfl, hrb0, hrc0⟩ := HI0.out.at_ (show k < (gr bs 0).length by have := HK.out.l0; omega)
      obtain ⟨rd1, rfl, hrb1, hrc1⟩ := HI1.out.at_ (show k < (gr bs 1).length by have := HK.out.l1; omega)
      have HF := Lib.hid (fun (W : World) (hb : Below w.heap.size w W) => show W.cell? bd = some (.slice (some rd0) (num bs) c0) ∧ W.cell? ⟨bd.block, bd.off + 1, none⟩ = some (.slice (some rd1) (num bs) c1) ∧ W.cell? (rd0.add k) = some (.int .i64 (gi (gr bs 0) k)) ∧ W.cell? (rd1.add k) = some (.int .i64 (gi (gr bs 1) k)) from
        ⟨(HF0.out W hb).1, (HF0.out W hb).2, (hb.cell (by rw [block_add]; exact hrb0)).trans hrc0, (hb.cell (by rw [block_add]; exact hrb1)).trans hrc1⟩)
      clear hrb0 hrc0 hrb1 hrc1
      have i2 : (k : Int) < (num bs : Int) := by omega
      have i5 : (0 : Int) ≤ (k : Int) := by omega
      have HIS := Lib.hid (iniL_succ bs k)
      obtain ⟨z0, cg, cd, fd⟩ := hVr.facts
      obtain ⟨f0, f1, f2, f3⟩ := HF.out _ hVr.below
      have HVq := Lib.hid hVr
      have HLE := Lib.hid (show k + 1 ≤ num bs by omega)
      have HME := Lib.hid (show num bs - (k + 1) < num bs - k by omega)
      clear hVr
      by_cases q : gi (gr bs 0) k < gi (gr bs 1) k
      · have qd : decide (gi (gr bs 0) k < gi (gr bs 1) k) = true := by simpa using q
        have hini : ini bs k = 1 := by unfold ini; rw [if_pos q]
        have HI := Lib.hid (show iniL bs (k + 1) = iniL bs k ++ [1] by rw [HIS.out, hini])
        have hLn := Lib.hid (iniL_length bs k)
        clear q hini HIS
        go_wp2_with fail
        go_quiet (fail)
        clear z0 cg cd fd f0 f1 f2 f3
        have HVr := Lib.hid (HVq.out.drewN nq)
        clear HVq
        generalize World.drewN _ nq = w6 at *
        obtain ⟨⟨z0, z1, z2⟩, cg, cd, fd⟩ := HVr.out.facts
        obtain ⟨f0, f1, f2, f3⟩ := HF.out _ HVr.out.below
        obtain ⟨owk, howk⟩ : ∃ l, l = iniL bs k := ⟨_, rfl⟩
        have HOWK := Lib.hid howk
        have hsz := HVr.out.below.size
        have h4 := HVr.out.lt
        rw [← howk] at hLn HVr
        clear howk
        go_wp2_with (at_builtin; refine wpList_append_lies _ rfl (.tmp 45) (.tmp 46) 25 rfl (g4 + 1) 3 i0 (.int .i64 0) 1 8 Try.underlying25 hi0 hz0 hz1 hz2 rfl (by omega) v owk.length (intsV owk) rfl (HVr.out.o.alloc _) ⟨w6.heap.size, 0, none⟩ 1 1 [.int .i64 1] rfl rfl (one_new _ _ _) (one_one _) (by have := hLn.out; omega) (by have := hLn.out; unfold maxLen; omega) (by have := hLn.out; omega) (by simp; omega) (w6.heap.size + 1) (by simp) ?_; intro gq capq w7 hown' hgrow hat hlt'; have HW3 := Lib.hid (HVr.out.app hown' hgrow); have kG := grown_keep HVr.out.o hgrow; have cG3 := fun i => cell_of_row w7 _ i _ _ _ ((kG g4 (by omega) (by omega)).trans HVr.out.d); have fG3 := fun i => frozen_of_row w7 _ i _ _ ((kG g4 (by omega) (by omega)).trans HVr.out.d); clear hown' hgrow hat hlt' kG)
        generalize w7.setCell _ _ = w8 at HW3 ⊢
        rw [HOWK.out, ← HI.out] at HW3
        exact ⟨⟨k + 1, _, HLE.out, by go_num, HW3.out⟩, by simpa [intOf] using HME.out⟩
      · have qd : decide (gi (gr bs 0) k < gi (gr bs 1) k) = false := by simpa using q
        have hini : ini bs k = 0 := by unfold ini; rw [if_neg q]
        have HI := Lib.hid (show iniL bs (k + 1) = iniL bs k ++ [0] by rw [HIS.out, hini])
        have hLn := Lib.hid (iniL_length bs k)
        clear q hini HIS
        go_wp2_with fail
        go_quiet (fail)
        clear z0 cg cd fd f0 f1 f2 f3
        have HVr := Lib.hid (HVq.out.drewN nq)
        clear HVq
        generalize World.drewN _ nq = w6 at *
        obtain ⟨⟨z0, z1, z2⟩, cg, cd, fd⟩ := HVr.out.facts
        obtain ⟨f0, f1, f2, f3⟩ := HF.out _ HVr.out.below
        obtain ⟨owk, howk⟩ : ∃ l, l = iniL bs k := ⟨_, rfl⟩
        have HOWK := Lib.hid howk
        have hsz := HVr.out.below.size
        have h4 := HVr.out.lt
        rw [← howk] at hLn HVr
        clear howk
        go_wp2_with (at_builtin; refine wpList_append_lies _ rfl (.tmp 50) (.tmp 51) 25 rfl (g4 + 1) 3 i0 (.int .i64 0) 1 8 Try.underlying25 hi0 hz0 hz1 hz2 rfl (by omega) v owk.length (intsV owk) rfl (HVr.out.o.alloc _) ⟨w6.heap.size, 0, none⟩ 1 1 [.int .i64 0] rfl rfl (one_new _ _ _) (one_one _) (by have := hLn.out; omega) (by have := hLn.out; unfold maxLen; omega) (by have := hLn.out; omega) (by simp; omega) (w6.heap.size + 1) (by simp) ?_; intro gq capq w7 hown' hgrow hat hlt'; have HW3 := Lib.hid (HVr.out.app hown' hgrow); have kG := grown_keep HVr.out.o hgrow; have cG3 := fun i => cell_of_row w7 _ i _ _ _ ((kG g4 (by omega) (by omega)).trans HVr.out.d); have fG3 := fun i => frozen_of_row w7 _ i _ _ ((kG g4 (by omega) (by omega)).trans HVr.out.d); clear hown' hgrow hat hlt' kG)
        generalize w7.setCell _ _ = w8 at HW3 ⊢
        rw [HOWK.out, ← HI.out] at HW3
        exact ⟨⟨k + 1, _, HLE.out, by go_num, HW3.out⟩, by simpa [intOf] using HME.out⟩
    · obtain rfl : k = num bs := by omega
      obtain ⟨gO, cO, hvO, _, hgO⟩ := hVr.o.form (by rw [iniL_length]; exact n0)
      subst hvO
      rw [iniL_length] at hVr
      have HCO := Lib.hid (show num bs ≤ cO ∧ cO ≤ maxLen from by
        rcases hVr.o.2 with ⟨e, _⟩ | ⟨g, cap, cur, e, _, _, x1, x2, _⟩
        · cases e
        · injection e with e1 e2 e3; subst e3; rw [iniL_length] at x1; exact ⟨x1, x2⟩)
      have hRD : RdIn w (some bd) c bs g4 gO cO (ord bs) (iniL bs (num bs)) (hasR bs) (hasO bs) wr := ⟨hVr, ad_start HK.out, HK.out.sorted, rfl⟩
      have HRD := Lib.hid hRD
      have HIW := Lib.hid (fun (i : Nat) (q : Int) (h : q.toNat = i) (hi : i < 2) (W : World) (hW : Below wr.heap.size wr W) => show Calls Try.prog 40 #[gV (some bd) c bs, .slice (some ⟨gO, 0, none⟩) (num bs) cO, .int .i64 i, .int .i64 q] W (fun e w' => e = .returned (.int .i64 (hasTo bs q (num bs))) ∧ Below W.heap.size W w') from by
        have := HWO.out W (bcall HRD.out.rv.below HRD.out.rv.below.size hW) (iniL bs (num bs)) (some ⟨gO, 0, none⟩) cO i q ((HRD.out.next hW).ints) hi (iniL_length _ _)
        rw [iniL_length, worth_ini h] at this
        exact this)
      have K1 := Lib.hid (fun (W : World) (hW : Below wr.heap.size wr W) => show Calls Try.prog 40 #[gV (some bd) c bs, .slice (some ⟨gO, 0, none⟩) (num bs) cO, .int .i64 1, .int .i64 1] W (fun e w' => e = .returned (.int .i64 (hasTo bs 1 (num bs))) ∧ Below W.heap.size W w') from HIW.out 1 1 rfl (by decide) W hW)
      have K2 := Lib.hid (fun (W : World) (hW : Below wr.heap.size wr W) => show Calls Try.prog 40 #[gV (some bd) c bs, .slice (some ⟨gO, 0, none⟩) (num bs) cO, .int .i64 0, .int .i64 0] W (fun e w' => e = .returned (.int .i64 (hasTo bs 0 (num bs))) ∧ Below W.heap.size W w') from HIW.out 0 0 rfl (by decide) W hW)
      have HRI := Lib.hid (show richN bs = if hasTo bs 0 (num bs) < hasTo bs 1 (num bs) then 1 else 0 from rfl)
      obtain ⟨⟨z0, z1, z2⟩, cg, cd, fd⟩ := hVr.facts
      obtain ⟨f0, f1⟩ := HF0.out _ hVr.below
      clear hVr hRD hgO HIW hlt hk
      generalize hasTo bs 0 (num bs) = h0 at *
      generalize hasTo bs 1 (num bs) = h1 at *
      go_wp2_with fail
      refine wp_region_ext (by kernel_rfl) (by kernel_rfl) ?_
      repeat (first | go_big_quiet_step ((first | (go_at_call 40; first | (with_reducible exact calls_ext (K1.out _ (Ext.h _))) | (with_reducible exact calls_ext (K2.out _ (Ext.h _)))))) | quiet_step ((first | (go_at_call 40; first | (with_reducible exact calls_ext (K1.out _ (Ext.h _))) | (with_reducible exact calls_ext (K2.out _ (Ext.h _)))))))
      refine wpQuiet_nil ?_
      rintro _ ⟨⟨w4, hb4⟩, rfl⟩
      have HRD4 := Lib.hid (HRD.out.next hb4)
      clear K1 K2 HRD hb4 z0 z1 z2 cg cd fd f0 f1
      go_upto_if 62 with fail
      go_cut [6] (fun s6 wx => s6 = .int .i64 (richN bs : Nat) ∧ RdIn w (some bd) c bs g4 gO cO (ord bs) (iniL bs (num bs)) (hasR bs) (hasO bs) wx)
      case first =>
        by_cases hq : h0 < h1
        · have qd : decide (h0 < h1) = true := by simpa using hq
          have HR := Lib.hid (show richN bs = 1 by rw [HRI.out, if_pos hq])
          clear HRI
          go_wp2_with fail
          go_meet
          exact ⟨by rw [HR.out]; rfl, HRD4.out⟩
        · have qd : decide (h0 < h1) = false := by simpa using hq
          have HR := Lib.hid (show richN bs = 0 by rw [HRI.out, if_neg hq])
          clear HRI
          go_wp2_with fail
          go_meet
          exact ⟨by rw [HR.out]; rfl, HRD4.out⟩
      case rest =>
        obtain ⟨rfl, hRD4⟩ := hcut
        clear HRI HRD4
        have HRD4 := Lib.hid hRD4
        clear hRD4
        obtain ⟨r, hr⟩ : ∃ r, r = richN bs := ⟨_, rfl⟩
        have r1 : r ≤ 1 := by have := rich_cases bs; omega
        rw [← hr]
        have HR := Lib.hid hr
        clear hr
        have j3 : IntKind.i64.wrap (1 - (r : Int)) = 1 - (r : Int) := IntWalk.i64_in _ (by omega)
        have j3' : wrap64 (1 - (r : Int)) = 1 - (r : Int) := IntWalk.wrap64_in _ (by omega)
        go_wp2_with fail
        go_loopw [7] (fun s7 wr => ∃ (l : List Nat) (ow : List Int) (hr ho : Int), RdIn w (some bd) c bs g4 gO cO l ow hr ho wr) (fun _ wr => rvM bs gO wr)
        case atStart => exact ⟨_, _, _, _, HRD4.out⟩
        case round =>
          obtain ⟨l, ow, hr, ho, hD⟩ := hrel
          have HD := Lib.hid hD
          have HL := Lib.hid hD.p.len
          obtain ⟨⟨b1, b2⟩, b3, b4⟩ := hD.p.bd HK.out
          have m1 : IntKind.i64.wrap (hr - ho) = hr - ho := IntWalk.i64_in _ (by omega)
          have m1' : wrap64 (hr - ho) = hr - ho := IntWalk.wrap64_in _ (by omega)
          have K1 := Lib.hid (fun (W : World) (hW : Below wr.heap.size wr W) => show Calls Try.prog 40 #[gV (some bd) c bs, .slice (some ⟨gO, 0, none⟩) (num bs) cO, .int .i64 (r : Nat), .int .i64 (r : Nat)] W (fun e w' => e = .returned (.int .i64 hr) ∧ Below W.heap.size W w') from by
            have := HWO.out W (bcall HD.out.rv.below HD.out.rv.below.size hW) ow (some ⟨gO, 0, none⟩) cO r (r : Nat) ((HD.out.next hW).ints) (by omega) HL.out
            rw [HL.out, show worthTo bs ow r (r : Nat) (num bs) = hr from by rw [HD.out.p.r, HR.out]; rfl] at this
            exact this)
          have K2 := Lib.hid (fun (W : World) (hW : Below wr.heap.size wr W) => show Calls Try.prog 40 #[gV (some bd) c bs, .slice (some ⟨gO, 0, none⟩) (num bs) cO, .int .i64 (1 - (r : Int)), .int .i64 (1 - (r : Int))] W (fun e w' => e = .returned (.int .i64 ho) ∧ Below W.heap.size W w') from by
            have := HWO.out W (bcall HD.out.rv.below HD.out.rv.below.size hW) ow (some ⟨gO, 0, none⟩) cO (1 - r) (1 - (r : Int)) ((HD.out.next hW).ints) (by omega) HL.out
            rw [HL.out, show worthTo bs ow (1 - r) (1 - (r : Int)) (num bs) = ho from by rw [HD.out.p.o, HR.out]; rfl, show ((1 - r : Nat) : Int) = 1 - (r : Int) by omega] at this
            exact this)
          have HN := Lib.hid (fun (W : World) (hW : Below wr.heap.size wr W) => show Calls Try.prog 41 #[gV (some bd) c bs, .slice (some ⟨gO, 0, none⟩) (num bs) cO, .int .i64 (r : Nat)] W (fun e w' => e = .returned (.int .i64 (optI l.head?)) ∧ Below W.heap.size W w') from by
            have := next_any bs (some bd) c ow (some ⟨gO, 0, none⟩) cO W (HB.out.next (bcall HD.out.rv.below HD.out.rv.below.size hW)) ((HD.out.next hW).ints) HK.out HL.out
            rw [HL.out, next_head HK.out HD.out.p HD.out.s, ← HR.out] at this
            exact this)
          have HMM := Lib.hid (rvM_eq hD.p hD.cells)
          obtain ⟨⟨z0, z1, z2⟩, cg, cd, fd⟩ := hD.rv.facts
          clear hD
          go_wp2_with fail
          refine wp_region_ext (by kernel_rfl) (by kernel_rfl) ?_
          repeat (first | go_big_quiet_step ((first | (go_at_call 40; first | (with_reducible exact calls_ext (K1.out _ (Ext.h _))) | (with_reducible exact calls_ext (K2.out _ (Ext.h _)))))) | quiet_step ((first | (go_at_call 40; first | (with_reducible exact calls_ext (K1.out _ (Ext.h _))) | (with_reducible exact calls_ext (K2.out _ (Ext.h _)))))))
          refine wpQuiet_nil ?_
          rintro _ ⟨⟨w5, hb5⟩, rfl⟩
          have hD5 := HD.out.next hb5
          have HN5 := Lib.hid (HN.out _ hb5)
          clear K1 K2 HN z0 z1 z2 cg cd fd hb5 HD
          obtain ⟨⟨z0, z1, z2⟩, cg, cd, fd⟩ := hD5.rv.facts
          have HD5 := Lib.hid hD5
          clear hD5
          go_wp2_with fail
          refine HN5.out.mono ?_
          rintro e w6 ⟨rfl, hb6⟩
          have HD6 := Lib.hid (HD5.out.next hb6)
          clear HN5 HD5 z0 z1 z2 cg cd fd hb6
          by_cases q1 : hr - ho ≤ 0
          · have q1' : decide (hr - ho ≤ 0) = true := by simpa using q1
            have HQE := Lib.hid (show divP bs = ⟨ow, -1, ⟨0, 1⟩⟩ from by
              rw [HD6.out.e]
              cases l with
              | nil => rfl
              | cons x l => exact passR_stop q1)
            have hv := HD6.out.rv
            clear q1
            obtain ⟨⟨z0, z1, z2⟩, cg, cd, fd⟩ := hv.facts
            have HVF := Lib.hid hv
            have cr := fun i => cell_of_row _ _ i _ _ _ hv.r
            have fr := fun i => frozen_of_row _ _ i _ _ hv.r
            clear hv
            go_wp2_with fail
            refine bodyPost_ret (v := .tuple #[.agg #[(.slice (some ⟨gO, 0, none⟩) (num bs) cO), .int .i64 (-1), .int .i64 (Rt.mk 0 1).n, .int .i64 (Rt.mk 0 1).d], .int .i64 0]) (by simp [results, Try.results16, go_sem, cr, fr, z1]) rfl ?_
            exact rv_end HVF.out HL.out HCO.out (by omega) (by omega) ⟨by decide, by decide, by decide, by decide⟩ HC0.out HQE.out _ _ _ _ _ _ _ _
          have q1' : decide (hr - ho ≤ 0) = false := by simpa using q1
          cases l with
          | nil =>
            have HQE := Lib.hid (show divP bs = ⟨ow, -1, ⟨0, 1⟩⟩ from by rw [HD6.out.e]; rfl)
            have q2' : decide ((-1 : Int) < 0) = true := rfl
            have e0 : optI (List.head? (α := Nat) []) = -1 := rfl
            rw [e0]
            have hv := HD6.out.rv
            clear q1
            obtain ⟨⟨z0, z1, z2⟩, cg, cd, fd⟩ := hv.facts
            have HVF := Lib.hid hv
            have cr := fun i => cell_of_row _ _ i _ _ _ hv.r
            have fr := fun i => frozen_of_row _ _ i _ _ hv.r
            clear hv
            go_wp2_with fail
            refine bodyPost_ret (v := .tuple #[.agg #[(.slice (some ⟨gO, 0, none⟩) (num bs) cO), .int .i64 (-1), .int .i64 (Rt.mk 0 1).n, .int .i64 (Rt.mk 0 1).d], .int .i64 0]) (by simp [results, Try.results16, go_sem, cr, fr, z1]) rfl ?_
            exact rv_end HVF.out HL.out HCO.out (by omega) (by omega) ⟨by decide, by decide, by decide, by decide⟩ HC0.out HQE.out _ _ _ _ _ _ _ _
          | cons x l =>
            have e0 : optI (List.head? (x :: l)) = (x : Int) := rfl
            rw [e0]
            have q2' : decide ((x : Int) < 0) = false := by simp
            obtain ⟨hxn, hxr, hx0, hx1⟩ := HD6.out.p.mem x (List.mem_cons_self ..)
            have HXN := Lib.hid hxn
            obtain ⟨rd0, rfl, hrb0, hrc0⟩ := HI0.out.at_ (show x < (gr bs 0).length by have := HK.out.l0; omega)
            obtain ⟨rd1, rfl, hrb1, hrc1⟩ := HI1.out.at_ (show x < (gr bs 1).length by have := HK.out.l1; omega)
            have hB6 := HD6.out.rv.below
            have f0 := (HF0.out _ hB6).1
            have f1 := (HF0.out _ hB6).2
            have f2 := (hB6.cell (by rw [block_add]; exact hrb0)).trans hrc0
            have f3 := (hB6.cell (by rw [block_add]; exact hrb1)).trans hrc1
            have ob1 := HK.out.own_bd hxn
            have ob2 := HK.out.oth_bd hxn
            have hX := both_sum bs x
            have i1 : (x : Int) < (num bs : Int) := by omega
            have i2 : (0 : Int) ≤ (x : Int) := by omega
            have mx1 : IntKind.i64.wrap (gi (gr bs 0) x + gi (gr bs 1) x) = gi (gr bs 0) x + gi (gr bs 1) x := IntWalk.i64_in _ (by omega)
            have mx2 : wrap64 (gi (gr bs 0) x + gi (gr bs 1) x) = gi (gr bs 0) x + gi (gr bs 1) x := IntWalk.wrap64_in _ (by omega)
            rw [hX] at mx1 mx2
            have HXX := Lib.hid hX
            obtain ⟨⟨z0, z1, z2⟩, cg, cd, fd⟩ := HD6.out.rv.facts
            clear hrb0 hrc0 hrb1 hrc1 hB6 hX
            have mx3 : IntKind.i64.wrap (gi (gr bs 0) x + gi (gr bs 1) x) = own bs x + oth bs x := by rw [HXX.out]; exact mx1
            have mx4 : wrap64 (gi (gr bs 0) x + gi (gr bs 1) x) = own bs x + oth bs x := by rw [HXX.out]; exact mx2
            obtain ⟨XX, hXX⟩ : ∃ XX, XX = own bs x + oth bs x := ⟨_, rfl⟩
            have HXS := Lib.hid hXX
            rw [← hXX] at mx3 mx4
            have bx : 1 ≤ XX ∧ XX ≤ 2000 := by omega
            clear hXX mx1 mx2
            by_cases q2 : hr - ho < XX
            · have q3 : decide (XX ≤ hr - ho) = false := by simpa using q2
              obtain ⟨P0, hP0⟩ : ∃ P0, P0 = makeR (hr - ho) XX := ⟨_, rfl⟩
              obtain ⟨PP, hPP⟩ : ∃ PP, PP = makeR (partOf bs (hr - ho) XX) XX := ⟨_, rfl⟩
              have HMK := Lib.hid (fun (W : World) => hP0 ▸ fmake_any (hr - ho) XX (by omega) (by omega) (by omega) (by omega) W)
              have pm := part_make (bs := bs) (more := hr - ho) (x := XX) (by omega) q2 bx.2
              rw [← hPP, ← hP0] at pm
              have HPS := Lib.hid (show r = 0 → PP = subR ⟨1, 1⟩ P0 from fun e => by rw [← pm, if_pos (by rw [← HR.out]; exact e)])
              have HPN := Lib.hid (show r ≠ 0 → PP = P0 from fun e => by rw [← pm, if_neg (by rw [← HR.out]; exact e)])
              have hmk := makeR_ok (n := hr - ho) (d := XX) (by omega) (by omega) (by omega) (by omega)
              rw [← hP0] at hmk
              have HPW := Lib.hid (show PP.wf from by
                rw [hPP]
                have hh : 0 ≤ partOf bs (hr - ho) XX ∧ partOf bs (hr - ho) XX ≤ 2000 := by unfold partOf; split <;> omega
                exact (makeR_ok (by omega) (by omega) (by omega) (by omega)).1.wf)
              have HSB := Lib.hid (fun (W : World) => fsub_any ⟨1, 1⟩ P0 (of_ok (n := 1) (by omega) (by omega)).wf hmk.1.wf W)
              have HQE := Lib.hid (show divP bs = ⟨ow.set x 0, x, PP⟩ from by rw [HD6.out.e, passR_split q1 (by rw [← HXS.out]; exact q2), hPP, HXS.out])
              have HLW := Lib.hid (show (ow.set x 0).length = num bs from by rw [List.length_set]; exact HL.out)
              clear hP0 hPP pm hmk q1 q2 hxr hx0 hx1 ob1 ob2 bx
              go_wp2_with fail
              go_quiet (fail)
              clear z0 z1 z2 cg cd fd f0 f1 f2 f3
              have hv := HD6.out.rv.drewN nq
              clear HD6
              generalize World.drewN _ nq = w7 at *
              rcases Nat.eq_zero_or_pos r with r0 | r0
              · have qr : ((r : Int) == 0) = true := by simp [r0]
                go_wp2_with fail
                refine (HMK.out _).mono ?_
                rintro e w8 ⟨rfl, hb8⟩
                have hv0 := hv.next hb8
                have hv := hv0.next (one_alloc w8 (rB P0))
                have h10 : (w8.alloc (rB P0)).heap[w8.heap.size]? = some (rB P0) := heap_new rfl
                have S10 := Lib.hid (show w.heap.size ≤ w8.heap.size from hv0.below.size)
                have H10 := Lib.hid (show g4 + 1 ≤ w8.heap.size from by have := hv0.facts.1.1; omega)
                have N10 := Lib.hid (show (Value.slice (some ⟨gO, 0, none⟩) (num bs) cO).ownBlock ≠ some w8.heap.size from fun e => by have := hv0.ge _ e; omega)
                have G10 := Lib.hid (show gO < w8.heap.size from (hv0.ge _ rfl).2)
                clear hb8 hv0
                go_wp2_with fail
                generalize w8.heap.size = g10 at *
                generalize w8.alloc _ = w9 at *
                have hBx := hv.below
                refine wp_region_flow_at w [g10] 7 (by kernel_rfl) (by rfl) hBx (fun w0 hb0 hB0 => ?_)
                clear hBx
                have hv := hv.next hb0
                have h10 := heap_ext h10 hb0
                refine wpAnyE_go (w0 := w) (w1 := w0) (X := [g10]) (fun _ h => h) (RK.at0 hB0) [0] 6 (by kernel_rfl) ?_
                apply Exists.intro
                refine ⟨fun G hG hN => ?_, ?_⟩
                · simp only [pickOps, List.getElem?_toArray, List.getElem?_cons_zero, List.getElem?_cons_succ]
                  repeat (first | go_big_quiet_step ((first | (go_at_call 23; exact calls_ge (RK.grows _ _ _) hG (of_any 1 _)))) | quiet_step ((first | (go_at_call 23; exact calls_ge (RK.grows _ _ _) hG (of_any 1 _)))))
                  exact wpQuiet_nil rfl
                refine wpAnyE_all (rs := [1]) (by kernel_rfl) (by simp) (fun W1 hW1 hRW1 i hi => ?_)
                obtain rfl := List.mem_singleton.1 hi
                have hv := hv.next hW1
                have h10 := heap_ext h10 hW1
                have c10 := fun j => cell_of_row _ _ j _ _ _ h10
                have z10 := lt_some h10
                refine wpOp_step rfl (fun K hK => ?_)
                go_simp
                refine hK _ _ ⟨hRW1, ?_⟩
                clear hK K
                clear c10 z10
                refine wpAnyE_go (w0 := w) (w1 := W1) (X := [g10]) (RK.move hRW1 (fun g hg => Or.inl hg)) (RK.here hRW1) [2, 3, 4, 5] 1 (by kernel_rfl) ?_
                apply Exists.intro
                refine ⟨fun G hG hN => ?_, ?_⟩
                · simp only [pickOps, List.getElem?_toArray, List.getElem?_cons_zero, List.getElem?_cons_succ]
                  repeat (first | go_big_quiet_step ((first | (go_at_call 43; exact calls_ge (RK.grows _ _ _) hG (HSB.out _)))) | quiet_step ((first | (go_at_call 43; exact calls_ge (RK.grows _ _ _) hG (HSB.out _)))))
                  exact wpQuiet_nil rfl
                refine wpAnyE_all (rs := [6]) (by kernel_rfl) (by simp) (fun W2 hW2 hRW2 i hi => ?_)
                obtain rfl := List.mem_singleton.1 hi
                have hv := hv.next hW2
                have h10 := heap_ext h10 hW2
                have c10 := fun j => cell_of_row _ _ j _ _ _ h10
                have f10 := fun j => frozen_of_row _ _ j _ _ h10
                have z10 := lt_some h10
                refine wpOp_step rfl (fun K hK => ?_)
                go_simp
                refine hK _ _ ⟨(hRW2.set S10.out (Or.inl (by simp))).set S10.out (Or.inl (by simp)), ?_⟩
                clear hK K
                clear c10 f10 z10
                have hv := (hv.other H10.out N10.out 0 (.int .i64 (subR ⟨1, 1⟩ P0).n)).other H10.out N10.out 1 (.int .i64 (subR ⟨1, 1⟩ P0).d)
                have h10 := heap_set (j := 1) (u := .int .i64 (subR ⟨1, 1⟩ P0).d) (heap_set (j := 0) (u := .int .i64 (subR ⟨1, 1⟩ P0).n) h10)
                refine wpAnyE_done (by kernel_rfl) (fun W3 hW3 hRW3 => ?_) _
                refine NoPanic.normal ?_
                have hv := hv.next hW3
                have h10 : W3.heap[g10]? = some (rB PP) := by
                  have := heap_ext h10 hW3
                  rw [HPS.out (by omega)]
                  exact this
                go_wp2_with fail
                have e10 := H10.out
                have e11 := G10.out
                have hBx := hv.below
                have geo := hv.ge gO rfl
                have lt4 := hv.lt
                have l10 := lt_some h10
                refine wp_region_flow_at w [gO, g4] 11 (by kernel_rfl) (by rfl) hBx (fun w0 hb0 hB0 => ?_)
                clear hBx
                have hv := hv.next hb0
                have h10 := heap_ext h10 hb0
                refine wpAnyE_go (w0 := w) (w1 := w0) (X := [gO, g4]) (fun _ h => h) (RK.at0 hB0) [0, 2, 3, 4] 7 (by kernel_rfl) ?_
                apply Exists.intro
                refine ⟨fun G hG hN => ?_, ?_⟩
                · have c10 := fun (e : GE (RK w w0 [gO, g4]) G) j => cell_of_row e.w _ j _ _ _ (RK.at (GE.h e) h10 (by simp; omega))
                  have z10 := fun (e : GE (RK w w0 [gO, g4]) G) => lt_some (RK.at (GE.h e) h10 (by simp; omega))
                  simp only [pickOps, List.getElem?_toArray, List.getElem?_cons_zero, List.getElem?_cons_succ]
                  repeat (first | go_big_quiet_step (fail) | quiet_step (fail))
                  exact wpQuiet_nil rfl
                refine wpAnyE_all (rs := [1]) (by kernel_rfl) (by simp) (fun W1 hW1 hRW1 i hi => ?_)
                obtain rfl := List.mem_singleton.1 hi
                have hv := hv.next hW1
                obtain ⟨⟨z0, z1, z2⟩, cg, cd, fd⟩ := hv.facts
                refine wpOp_step rfl (fun K hK => ?_)
                go_simp
                refine hK _ _ ⟨hRW1, ?_⟩
                clear hK K
                clear z0 z1 z2 cg cd fd
                refine wpAnyE_go (w0 := w) (w1 := W1) (X := [gO, g4]) (RK.move hRW1 (fun g hg => Or.inl hg)) (RK.here hRW1) [5] 5 (by kernel_rfl) ?_
                apply Exists.intro
                refine ⟨fun G hG hN => ?_, ?_⟩
                · simp only [pickOps, List.getElem?_toArray, List.getElem?_cons_zero, List.getElem?_cons_succ]
                  repeat (first | go_big_quiet_step (fail) | quiet_step (fail))
                  exact wpQuiet_nil rfl
                refine wpAnyE_all (rs := [6]) (by kernel_rfl) (by simp) (fun W2 hW2 hRW2 i hi => ?_)
                obtain rfl := List.mem_singleton.1 hi
                have hv := hv.next hW2
                have fO : ∀ j, W2.frozen? ⟨gO, j, none⟩ = false := fun j => by have o := hv.o; rw [HL.out] at o; exact o.frozenAt j
                have cy : W2.cell? ⟨gO, x, none⟩ = some (.int .i64 (gi ow x)) := by
                  have o := hv.o
                  rw [HL.out] at o
                  rw [o.cellAt x (by omega), intsV_at (by rw [HL.out]; exact HXN.out)]
                refine wpOp_step rfl (fun K hK => ?_)
                go_simp
                refine hK _ _ ⟨hRW2.set (show w.heap.size ≤ gO by omega) (Or.inl (by simp)), ?_⟩
                clear hK K
                clear fO cy
                have hv := hv.setOw HL.out x 0
                have hRX := hRW2.set (j := x) (u := .int .i64 0) (show w.heap.size ≤ gO by omega) (Or.inl (by simp))
                refine wpAnyE_go (w0 := w) (w1 := (W2.setCell ⟨gO, x, none⟩ (.int .i64 0))) (X := [gO, g4]) (RK.move hRX (fun g hg => Or.inl hg)) (RK.here hRX) [7] 3 (by kernel_rfl) ?_
                apply Exists.intro
                refine ⟨fun G hG hN => ?_, ?_⟩
                · simp only [pickOps, List.getElem?_toArray, List.getElem?_cons_zero, List.getElem?_cons_succ]
                  repeat (first | go_big_quiet_step (fail) | quiet_step (fail))
                  exact wpQuiet_nil rfl
                refine wpAnyE_all (rs := [8]) (by kernel_rfl) (by simp) (fun W3 hW3 hRW3 i hi => ?_)
                obtain rfl := List.mem_singleton.1 hi
                have hv := hv.next hW3
                obtain ⟨⟨z0, z1, z2⟩, cg, cd, fd⟩ := hv.facts
                refine wpOp_step rfl (fun K hK => ?_)
                go_simp
                refine hK _ _ ⟨hRW3.set (show w.heap.size ≤ g4 by omega) (Or.inl (by simp)), ?_⟩
                clear hK K
                clear z0 z1 z2 cg cd fd
                have hv := hv.setSp (x : Nat)
                have hRX := hRW3.set (j := 1) (u := .int .i64 (x : Nat)) (show w.heap.size ≤ g4 by omega) (Or.inl (by simp))
                refine wpAnyE_go (w0 := w) (w1 := (W3.setCell ⟨g4, 1, none⟩ (.int .i64 (x : Nat)))) (X := [gO, g4]) (RK.move hRX (fun g hg => Or.inl hg)) (RK.here hRX) [9] 1 (by kernel_rfl) ?_
                apply Exists.intro
                refine ⟨fun G hG hN => ?_, ?_⟩
                · simp only [pickOps, List.getElem?_toArray, List.getElem?_cons_zero, List.getElem?_cons_succ]
                  repeat (first | go_big_quiet_step (fail) | quiet_step (fail))
                  exact wpQuiet_nil rfl
                refine wpAnyE_all (rs := [10]) (by kernel_rfl) (by simp) (fun W4 hW4 hRW4 i hi => ?_)
                obtain rfl := List.mem_singleton.1 hi
                have hv := hv.next hW4
                obtain ⟨⟨z0, z1, z2⟩, cg, cd, fd⟩ := hv.facts
                refine wpOp_step rfl (fun K hK => ?_)
                go_simp
                refine hK _ _ ⟨(hRW4.set (show w.heap.size ≤ g4 by omega) (Or.inl (by simp))).set (show w.heap.size ≤ g4 by omega) (Or.inl (by simp)), ?_⟩
                clear hK K
                clear z0 z1 z2 cg cd fd
                have hv := hv.setP PP
                refine wpAnyE_done (by kernel_rfl) (fun W5 hW5 hRW5 => ?_) _
                refine NoPanic.normal ?_
                have hv := hv.next hW5
                clear h10
                obtain ⟨⟨z0, z1, z2⟩, cg, cd, fd⟩ := hv.facts
                have HVF := Lib.hid hv
                have cr := fun i => cell_of_row _ _ i _ _ _ hv.r
                have fr := fun i => frozen_of_row _ _ i _ _ hv.r
                clear hv
                go_wp2_with fail
                refine bodyPost_ret (v := .tuple #[.agg #[(.slice (some ⟨gO, 0, none⟩) (num bs) cO), .int .i64 (x : Nat), .int .i64 PP.n, .int .i64 PP.d], .int .i64 0]) (by simp [results, Try.results16, go_sem, cr, fr, z1]) rfl ?_
                exact rv_end HVF.out HLW.out HCO.out (by omega) (by omega) HPW.out HC0.out HQE.out _ _ _ _ _ _ _ _
              · have qr : ((r : Int) == 0) = false := by simp; omega
                go_wp2_with fail
                refine (HMK.out _).mono ?_
                rintro e w8 ⟨rfl, hb8⟩
                have hv0 := hv.next hb8
                have hv := hv0.next (one_alloc w8 (rB P0))
                have h10 : (w8.alloc (rB P0)).heap[w8.heap.size]? = some (rB P0) := heap_new rfl
                have H10 := Lib.hid (show g4 + 1 ≤ w8.heap.size from by have := hv0.facts.1.1; omega)
                have G10 := Lib.hid (show gO < w8.heap.size from (hv0.ge _ rfl).2)
                rw [← HPN.out (by omega)] at h10 hv ⊢
                clear hb8 hv0
                go_wp2_with fail
                generalize w8.heap.size = g10 at *
                generalize w8.alloc _ = w9 at *
                have e10 := H10.out
                have e11 := G10.out
                have hBx := hv.below
                have geo := hv.ge gO rfl
                have lt4 := hv.lt
                have l10 := lt_some h10
                refine wp_region_flow_at w [gO, g4] 11 (by kernel_rfl) (by rfl) hBx (fun w0 hb0 hB0 => ?_)
                clear hBx
                have hv := hv.next hb0
                have h10 := heap_ext h10 hb0
                refine wpAnyE_go (w0 := w) (w1 := w0) (X := [gO, g4]) (fun _ h => h) (RK.at0 hB0) [0, 2, 3, 4] 7 (by kernel_rfl) ?_
                apply Exists.intro
                refine ⟨fun G hG hN => ?_, ?_⟩
                · have c10 := fun (e : GE (RK w w0 [gO, g4]) G) j => cell_of_row e.w _ j _ _ _ (RK.at (GE.h e) h10 (by simp; omega))
                  have z10 := fun (e : GE (RK w w0 [gO, g4]) G) => lt_some (RK.at (GE.h e) h10 (by simp; omega))
                  simp only [pickOps, List.getElem?_toArray, List.getElem?_cons_zero, List.getElem?_cons_succ]
                  repeat (first | go_big_quiet_step (fail) | quiet_step (fail))
                  exact wpQuiet_nil rfl
                refine wpAnyE_all (rs := [1]) (by kernel_rfl) (by simp) (fun W1 hW1 hRW1 i hi => ?_)
                obtain rfl := List.mem_singleton.1 hi
                have hv := hv.next hW1
                obtain ⟨⟨z0, z1, z2⟩, cg, cd, fd⟩ := hv.facts
                refine wpOp_step rfl (fun K hK => ?_)
                go_simp
                refine hK _ _ ⟨hRW1, ?_⟩
                clear hK K
                clear z0 z1 z2 cg cd fd
                refine wpAnyE_go (w0 := w) (w1 := W1) (X := [gO, g4]) (RK.move hRW1 (fun g hg => Or.inl hg)) (RK.here hRW1) [5] 5 (by kernel_rfl) ?_
                apply Exists.intro
                refine ⟨fun G hG hN => ?_, ?_⟩
                · simp only [pickOps, List.getElem?_toArray, List.getElem?_cons_zero, List.getElem?_cons_succ]
                  repeat (first | go_big_quiet_step (fail) | quiet_step (fail))
                  exact wpQuiet_nil rfl
                refine wpAnyE_all (rs := [6]) (by kernel_rfl) (by simp) (fun W2 hW2 hRW2 i hi => ?_)
                obtain rfl := List.mem_singleton.1 hi
                have hv := hv.next hW2
                have fO : ∀ j, W2.frozen? ⟨gO, j, none⟩ = false := fun j => by have o := hv.o; rw [HL.out] at o; exact o.frozenAt j
                have cy : W2.cell? ⟨gO, x, none⟩ = some (.int .i64 (gi ow x)) := by
                  have o := hv.o
                  rw [HL.out] at o
                  rw [o.cellAt x (by omega), intsV_at (by rw [HL.out]; exact HXN.out)]
                refine wpOp_step rfl (fun K hK => ?_)
                go_simp
                refine hK _ _ ⟨hRW2.set (show w.heap.size ≤ gO by omega) (Or.inl (by simp)), ?_⟩
                clear hK K
                clear fO cy
                have hv := hv.setOw HL.out x 0
                have hRX := hRW2.set (j := x) (u := .int .i64 0) (show w.heap.size ≤ gO by omega) (Or.inl (by simp))
                refine wpAnyE_go (w0 := w) (w1 := (W2.setCell ⟨gO, x, none⟩ (.int .i64 0))) (X := [gO, g4]) (RK.move hRX (fun g hg => Or.inl hg)) (RK.here hRX) [7] 3 (by kernel_rfl) ?_
                apply Exists.intro
                refine ⟨fun G hG hN => ?_, ?_⟩
                · simp only [pickOps, List.getElem?_toArray, List.getElem?_cons_zero, List.getElem?_cons_succ]
                  repeat (first | go_big_quiet_step (fail) | quiet_step (fail))
                  exact wpQuiet_nil rfl
                refine wpAnyE_all (rs := [8]) (by kernel_rfl) (by simp) (fun W3 hW3 hRW3 i hi => ?_)
                obtain rfl := List.mem_singleton.1 hi
                have hv := hv.next hW3
                obtain ⟨⟨z0, z1, z2⟩, cg, cd, fd⟩ := hv.facts
                refine wpOp_step rfl (fun K hK => ?_)
                go_simp
                refine hK _ _ ⟨hRW3.set (show w.heap.size ≤ g4 by omega) (Or.inl (by simp)), ?_⟩
                clear hK K
                clear z0 z1 z2 cg cd fd
                have hv := hv.setSp (x : Nat)
                have hRX := hRW3.set (j := 1) (u := .int .i64 (x : Nat)) (show w.heap.size ≤ g4 by omega) (Or.inl (by simp))
                refine wpAnyE_go (w0 := w) (w1 := (W3.setCell ⟨g4, 1, none⟩ (.int .i64 (x : Nat)))) (X := [gO, g4]) (RK.move hRX (fun g hg => Or.inl hg)) (RK.here hRX) [9] 1 (by kernel_rfl) ?_
                apply Exists.intro
                refine ⟨fun G hG hN => ?_, ?_⟩
                · simp only [pickOps, List.getElem?_toArray, List.getElem?_cons_zero, List.getElem?_cons_succ]
                  repeat (first | go_big_quiet_step (fail) | quiet_step (fail))
                  exact wpQuiet_nil rfl
                refine wpAnyE_all (rs := [10]) (by kernel_rfl) (by simp) (fun W4 hW4 hRW4 i hi => ?_)
                obtain rfl := List.mem_singleton.1 hi
                have hv := hv.next hW4
                obtain ⟨⟨z0, z1, z2⟩, cg, cd, fd⟩ := hv.facts
                refine wpOp_step rfl (fun K hK => ?_)
                go_simp
                refine hK _ _ ⟨(hRW4.set (show w.heap.size ≤ g4 by omega) (Or.inl (by simp))).set (show w.heap.size ≤ g4 by omega) (Or.inl (by simp)), ?_⟩
                clear hK K
                clear z0 z1 z2 cg cd fd
                have hv := hv.setP PP
                refine wpAnyE_done (by kernel_rfl) (fun W5 hW5 hRW5 => ?_) _
                refine NoPanic.normal ?_
                have hv := hv.next hW5
                clear h10
                obtain ⟨⟨z0, z1, z2⟩, cg, cd, fd⟩ := hv.facts
                have HVF := Lib.hid hv
                have cr := fun i => cell_of_row _ _ i _ _ _ hv.r
                have fr := fun i => frozen_of_row _ _ i _ _ hv.r
                clear hv
                go_wp2_with fail
                refine bodyPost_ret (v := .tuple #[.agg #[(.slice (some ⟨gO, 0, none⟩) (num bs) cO), .int .i64 (x : Nat), .int .i64 PP.n, .int .i64 PP.d], .int .i64 0]) (by simp [results, Try.results16, go_sem, cr, fr, z1]) rfl ?_
                exact rv_end HVF.out HLW.out HCO.out (by omega) (by omega) HPW.out HC0.out HQE.out _ _ _ _ _ _ _ _
            · have q3 : decide (XX ≤ hr - ho) = true := by simp; omega
              have HQ := Lib.hid (show divP bs = passR bs l (ow.set x (1 - (r : Int))) (hr - own bs x) (ho + oth bs x) from by rw [HD6.out.e, passR_pass q1 (by rw [← HXS.out]; exact q2), HR.out])
              have HP := Lib.hid (show PassIn bs l (ow.set x (1 - (r : Int))) (hr - own bs x) (ho + oth bs x) from by rw [HR.out]; exact PassIn.pass HK.out HD6.out.p (by rw [← HXS.out]; exact q2))
              have HSR := Lib.hid (show List.Pairwise (Prec (ltD bs)) l from (List.pairwise_cons.1 HD6.out.s).2)
              have HME := Lib.hid (show (hr - own bs x).toNat < hr.toNat from by omega)
              clear q1 q2 hxr hx0 hx1 ob1 ob2
              go_wp2_with fail
              go_quiet (fail)
              clear z0 z1 z2 cg cd fd f0 f1 f2 f3
              have HD7 := Lib.hid (HD6.out.drewN nq)
              clear HD6
              generalize World.drewN _ nq = w7 at *
              obtain ⟨⟨z0, z1, z2⟩, cg, cd, fd⟩ := HD7.out.rv.facts
              have cy := HD7.out.cells x HXN.out
              have fO : ∀ j, w7.frozen? ⟨gO, j, none⟩ = false := fun j => by have o := HD7.out.rv.o; rw [HL.out] at o; exact o.frozenAt j
              have HDN := Lib.hid (show RdIn w (some bd) c bs g4 gO cO l (ow.set x (1 - (r : Int))) (hr - own bs x) (ho + oth bs x) (w7.setCell ⟨gO, x, none⟩ (.int .i64 (1 - (r : Int)))) from ⟨HD7.out.rv.setOw HL.out x _, HP.out, HSR.out, HQ.out⟩)
              clear HD7
              go_wp2_with fail
              exact ⟨⟨_, _, _, _, HDN.out⟩, by rw [rvM_eq HDN.out.p HDN.out.cells, HMM.out]; exact HME.out⟩
end Go.Proofs.Ytcjfcfgkejoeeaa
