/- What Divide keeps in memory, and how each step hands it on. -/
import Derived.Test.YtcjfcfgkejoeeaaAdO
import Derived.Test.YtcjfcfgkejoeeaaOwn
import Derived.Test.YtcjfcfgkejoeeaaDvP
import Derived.Test.YtcjfcfgkejoeeaaSortW
import Derived.Test.YtcjfcfgkejoeeaaRtW
namespace Go.Proofs.Ytcjfcfgkejoeeaa
open Go.RowKit Go.Deep
set_option linter.unusedVariables false
set_option linter.unusedSimpArgs false

/-- The goods, the result, the division, what both have. -/
structure DvIn (w : World) (A : Option Addr) (c : Nat) (bs : List (List Int)) (g5 : Nat) (v : Value) (ow : List Int) (sp : Int) (p : Rt) (h0 h1 : Int) (wr : World) : Prop where
  below : Below w.heap.size w wr
  g : wr.heap[w.heap.size]? = some (gB A c bs)
  r : wr.heap[w.heap.size + 1]? = some (.cells #[.slice none 0 0, .int .i64 0, .int .i64 0, .int .i64 0] 29)
  lt : w.heap.size + 2 ≤ g5
  d : wr.heap[g5]? = some (.cells #[v, .int .i64 sp, .int .i64 p.n, .int .i64 p.d] 29)
  h : wr.heap[g5 + 1]? = some (.cells #[.int .i64 h0, .int .i64 h1] 68)
  o : wr.ownsRow (g5 + 2) 3 1 v ow.length (intsV ow)
section
variable {w : World} {A : Option Addr} {c : Nat} {bs : List (List Int)} {g5 : Nat} {v : Value} {ow : List Int} {sp : Int} {p : Rt} {h0 h1 : Int} {wr w1 : World}
theorem DvIn.next (h : DvIn w A c bs g5 v ow sp p h0 h1 wr) (hb : Below wr.heap.size wr w1) : DvIn w A c bs g5 v ow sp p h0 h1 w1 :=
  ⟨bcall h.below h.below.size hb, heap_ext h.g hb, heap_ext h.r hb, h.lt, heap_ext h.d hb, heap_ext h.h hb, ownsRow_ext h.o hb⟩
theorem DvIn.drewN (h : DvIn w A c bs g5 v ow sp p h0 h1 wr) (n : Nat) : DvIn w A c bs g5 v ow sp p h0 h1 (wr.drewN n) := ⟨below_drewN h.below n, h.g, h.r, h.lt, h.d, h.h, h.o⟩
theorem DvIn.drew (h : DvIn w A c bs g5 v ow sp p h0 h1 wr) : DvIn w A c bs g5 v ow sp p h0 h1 wr.drew := ⟨h.below.drew, h.g, h.r, h.lt, h.d, h.h, h.o⟩
theorem DvIn.ge (h : DvIn w A c bs g5 v ow sp p h0 h1 wr) : ∀ g, v.ownBlock = some g → g5 + 2 ≤ g ∧ g < wr.heap.size := own_ge h.o
/-- Another block is written. -/
theorem DvIn.other (h : DvIn w A c bs g5 v ow sp p h0 h1 wr) {g : Nat} (hg : g5 + 2 ≤ g) (hn : v.ownBlock ≠ some g) (j : Nat) (u : Value) : DvIn w A c bs g5 v ow sp p h0 h1 (wr.setCell ⟨g, j, none⟩ u) :=
  have l := h.lt
  ⟨h.below.setCell (show w.heap.size ≤ g by omega) _, by rw [heap_set_ne (by omega)]; exact h.g, by rw [heap_set_ne (by omega)]; exact h.r, l, by rw [heap_set_ne (by omega)]; exact h.d, by rw [heap_set_ne (by omega)]; exact h.h,
    ownsRow_of_block h.o (fun g' e => heap_set_ne (fun k => hn (by rw [e, k])))⟩
theorem DvIn.setH0 (h : DvIn w A c bs g5 v ow sp p h0 h1 wr) (t : Int) : DvIn w A c bs g5 v ow sp p t h1 (wr.setCell ⟨g5 + 1, 0, none⟩ (.int .i64 t)) :=
  have l := h.lt
  ⟨h.below.setCell (show w.heap.size ≤ g5 + 1 by omega) _, by rw [heap_set_ne (by omega)]; exact h.g, by rw [heap_set_ne (by omega)]; exact h.r, l, by rw [heap_set_ne (by omega)]; exact h.d, by rw [heap_set h.h]; rfl,
    ownsRow_of_block h.o (fun g' e => heap_set_ne (by have := h.ge g' e; omega))⟩
theorem DvIn.setH1 (h : DvIn w A c bs g5 v ow sp p h0 h1 wr) (t : Int) : DvIn w A c bs g5 v ow sp p h0 t (wr.setCell ⟨g5 + 1, 1, none⟩ (.int .i64 t)) :=
  have l := h.lt
  ⟨h.below.setCell (show w.heap.size ≤ g5 + 1 by omega) _, by rw [heap_set_ne (by omega)]; exact h.g, by rw [heap_set_ne (by omega)]; exact h.r, l, by rw [heap_set_ne (by omega)]; exact h.d, by rw [heap_set h.h]; rfl,
    ownsRow_of_block h.o (fun g' e => heap_set_ne (by have := h.ge g' e; omega))⟩
theorem DvIn.setSp (h : DvIn w A c bs g5 v ow sp p h0 h1 wr) (t : Int) : DvIn w A c bs g5 v ow t p h0 h1 (wr.setCell ⟨g5, 1, none⟩ (.int .i64 t)) :=
  have l := h.lt
  ⟨h.below.setCell (show w.heap.size ≤ g5 by omega) _, by rw [heap_set_ne (by omega)]; exact h.g, by rw [heap_set_ne (by omega)]; exact h.r, l, by rw [heap_set h.d]; rfl, by rw [heap_set_ne (by omega)]; exact h.h,
    ownsRow_of_block h.o (fun g' e => heap_set_ne (by have := h.ge g' e; omega))⟩
theorem DvIn.setP (h : DvIn w A c bs g5 v ow sp p h0 h1 wr) (t : Rt) : DvIn w A c bs g5 v ow sp t h0 h1 ((wr.setCell ⟨g5, 2, none⟩ (.int .i64 t.n)).setCell ⟨g5, 3, none⟩ (.int .i64 t.d)) :=
  have l := h.lt
  ⟨(h.below.setCell (show w.heap.size ≤ g5 by omega) _).setCell (show w.heap.size ≤ g5 by omega) _, by rw [heap_set_ne (by omega), heap_set_ne (by omega)]; exact h.g, by rw [heap_set_ne (by omega), heap_set_ne (by omega)]; exact h.r, l, by rw [heap_set (heap_set h.d)]; rfl, by rw [heap_set_ne (by omega), heap_set_ne (by omega)]; exact h.h,
    ownsRow_of_block h.o (fun g' e => by have := h.ge g' e; rw [heap_set_ne (by omega), heap_set_ne (by omega)])⟩
theorem DvIn.setOw {g cap : Nat} (h : DvIn w A c bs g5 (.slice (some ⟨g, 0, none⟩) ow.length cap) ow sp p h0 h1 wr) (k : Nat) (x : Int) : DvIn w A c bs g5 (.slice (some ⟨g, 0, none⟩) ow.length cap) (ow.set k x) sp p h0 h1 (wr.setCell ⟨g, k, none⟩ (.int .i64 x)) :=
  have l := h.lt
  have ge := h.ge g rfl
  ⟨h.below.setCell (show w.heap.size ≤ g by omega) _, by rw [heap_set_ne (by omega)]; exact h.g, by rw [heap_set_ne (by omega)]; exact h.r, l, by rw [heap_set_ne (by omega)]; exact h.d, by rw [heap_set_ne (by omega)]; exact h.h,
    by have := (h.o.stored k (.int .i64 x)).1; rw [intsV_set] at this; simpa using this⟩
theorem DvIn.app (h : DvIn w A c bs g5 v ow sp p h0 h1 wr) {o : Obj} {v' : Value} {x : Int}
    (ho : w1.ownsRow (g5 + 2) 3 1 v' (ow.length + 1) (intsV ow ++ [.int .i64 x])) (hg : (wr.alloc o).grownBy w1 v.ownBlock) : DvIn w A c bs g5 v' (ow ++ [x]) sp p h0 h1 (w1.setCell ⟨g5, 0, none⟩ v') := by
  have l := h.lt
  have hz := lt_some h.h
  have hk := grown_keep h.o hg
  have ge := own_ge ho
  have ho2 : w1.ownsRow (g5 + 2) 3 1 v' (ow ++ [x]).length (intsV (ow ++ [x])) := by rw [intsV_append] at ho; simpa using ho
  exact {
    below := ((h.below.alloc h.below.size o).grown hg (by have := h.below.size; simp; omega) (fun g e => by have := own_ge h.o g e; omega)).setCell (show w.heap.size ≤ g5 by omega) _
    g := by rw [heap_set_ne (by omega), hk _ (by omega) (by omega)]; exact h.g
    r := by rw [heap_set_ne (by omega), hk _ (by omega) (by omega)]; exact h.r
    lt := l
    d := by rw [heap_set (by rw [hk _ (by omega) (by omega)]; exact h.d)]; rfl
    h := by rw [heap_set_ne (by omega), hk _ (by omega) (by omega)]; exact h.h
    o := ownsRow_of_block ho2 (fun g e => heap_set_ne (by have := ge g e; omega)) }
/-- What both have, by who is the richer one. -/
theorem DvIn.setR {r : Nat} {hr ho : Int} (hr1 : r ≤ 1) (h : DvIn w A c bs g5 v ow sp p (if r = 0 then hr else ho) (if r = 0 then ho else hr) wr) (t : Int) : DvIn w A c bs g5 v ow sp p (if r = 0 then t else ho) (if r = 0 then ho else t) (wr.setCell ⟨g5 + 1, r, none⟩ (.int .i64 t)) := by
  match r, hr1 with
  | 0, _ => exact h.setH0 t
  | 1, _ => exact h.setH1 t
theorem DvIn.setO {r : Nat} {hr ho : Int} (hr1 : r ≤ 1) (h : DvIn w A c bs g5 v ow sp p (if r = 0 then hr else ho) (if r = 0 then ho else hr) wr) (t : Int) : DvIn w A c bs g5 v ow sp p (if r = 0 then hr else t) (if r = 0 then t else hr) (wr.setCell ⟨g5 + 1, 1 - r, none⟩ (.int .i64 t)) := by
  match r, hr1 with
  | 0, _ => exact h.setH1 t
  | 1, _ => exact h.setH0 t
theorem DvIn.hR {r : Nat} {hr ho : Int} (hr1 : r ≤ 1) (h : DvIn w A c bs g5 v ow sp p (if r = 0 then hr else ho) (if r = 0 then ho else hr) wr) : wr.cell? ⟨g5 + 1, r, none⟩ = some (.int .i64 hr) ∧ wr.cell? ⟨g5 + 1, 1 - r, none⟩ = some (.int .i64 ho) := by
  have c := fun j => cell_of_row _ _ j _ _ _ h.h
  match r, hr1 with
  | 0, _ => exact ⟨c 0, c 1⟩
  | 1, _ => exact ⟨c 1, c 0⟩
theorem DvIn.facts (h : DvIn w A c bs g5 v ow sp p h0 h1 wr) : (g5 + 1 < wr.heap.size ∧ g5 < wr.heap.size ∧ w.heap.size + 1 < wr.heap.size ∧ w.heap.size < wr.heap.size) ∧ (∀ j, wr.cell? ⟨w.heap.size, j, none⟩ = (#[Value.slice A bs.length c] : Array Value)[j]?)
    ∧ (∀ j, wr.cell? ⟨g5, j, none⟩ = (#[v, .int .i64 sp, .int .i64 p.n, .int .i64 p.d] : Array Value)[j]?) ∧ (∀ j, wr.frozen? ⟨g5, j, none⟩ = false)
    ∧ (∀ j, wr.cell? ⟨g5 + 1, j, none⟩ = (#[Value.int .i64 h0, .int .i64 h1] : Array Value)[j]?) ∧ (∀ j, wr.frozen? ⟨g5 + 1, j, none⟩ = false) :=
  ⟨⟨lt_some h.h, lt_some h.d, lt_some h.r, lt_some h.g⟩, fun j => cell_of_row _ _ j _ _ _ h.g, fun j => cell_of_row _ _ j _ _ _ h.d, fun j => frozen_of_row _ _ j _ _ h.d, fun j => cell_of_row _ _ j _ _ _ h.h, fun j => frozen_of_row _ _ j _ _ h.h⟩
end

/-- The comparison by which the goods are sorted. -/
theorem cfD_any (bs : List (List Int)) (n : Nat) (hb : AdOk bs n) (g11 g12 : Nat) (P Q : Option Addr) (pc qc : Nat) (a b : Nat) (ha : a < n) (hb' : b < n) (w : World)
    (h11 : w.heap[g11]? = some (.cells #[.slice P n pc] 25)) (h12 : w.heap[g12]? = some (.cells #[.slice Q n qc] 25))
    (hP : Ints w.heap.size w P (gr bs (richN bs))) (hQ : Ints w.heap.size w Q (gr bs (1 - richN bs))) (hl : (gr bs (richN bs)).length = n) (hl' : (gr bs (1 - richN bs)).length = n) :
    Calls Try.prog 38 #[.int .i64 a, .int .i64 b, .pointer (some ⟨g11, 0, none⟩), .pointer (some ⟨g12, 0, none⟩)] w fun e w' => e = .returned (.int .i64 (cfD bs a b)) ∧ Below w.heap.size w w' := by
  obtain ⟨pd, rfl, hpb, c1⟩ := hP.at_ (show a < _ by omega)
  obtain ⟨pd', e1, _, c2⟩ := hP.at_ (show b < _ by omega)
  obtain rfl : pd = pd' := by simpa using e1
  obtain ⟨qd, rfl, hqb, c3⟩ := hQ.at_ (show a < _ by omega)
  obtain ⟨qd', e2, _, c4⟩ := hQ.at_ (show b < _ by omega)
  obtain rfl : qd = qd' := by simpa using e2
  have z1 := cell_of_row _ _ 0 _ _ _ h11
  have z2 := cell_of_row _ _ 0 _ _ _ h12
  have i1 : (a : Int) < (n : Int) := by omega
  have i2 : (b : Int) < (n : Int) := by omega
  have i3 : (0 : Int) ≤ (a : Int) := by omega
  have i4 : (0 : Int) ≤ (b : Int) := by omega
  have o1 := hb.own_bd ha
  have o2 := hb.own_bd hb'
  have t1 := hb.oth_bd ha
  have t2 := hb.oth_bd hb'
  have m1 : IntKind.i64.wrap (own bs a * oth bs b) = own bs a * oth bs b := IntWalk.i64_in _ (by have := prod_bd o1.1 o1.2 t2.1 (by omega); omega)
  have m2 : IntKind.i64.wrap (own bs b * oth bs a) = own bs b * oth bs a := IntWalk.i64_in _ (by have := prod_bd o2.1 o2.2 t1.1 (by omega); omega)
  have HE := Lib.hid (show cfD bs a b = cmpI (own bs a * oth bs b) (own bs b * oth bs a) from rfl)
  have f1 : gi (gr bs (richN bs)) a = own bs a := rfl
  have f2 : gi (gr bs (richN bs)) b = own bs b := rfl
  have f3 : gi (gr bs (1 - richN bs)) a = oth bs a := rfl
  have f4 : gi (gr bs (1 - richN bs)) b = oth bs b := rfl
  rw [f1] at c1; rw [f2] at c2; rw [f3] at c3; rw [f4] at c4
  clear f1 f2 f3 f4 hP hQ h11 h12 o1 o2 t1 t2 hb e1 e2
  rw [HE.out]
  clear HE
  generalize own bs a = oa at *
  generalize own bs b = ob at *
  generalize oth bs a = ta at *
  generalize oth bs b = tb at *
  go_enter Try.func38, Try.ntmps38
  go_wp2_with fail
  go_quiet ((go_at_call 39; exact quiet_left (compare_any _ _ _)))
  go_wp2_with fail
  go_ret
  exact ⟨rfl, below_drewN (Below.refl _ _) _⟩
end Go.Proofs.Ytcjfcfgkejoeeaa
