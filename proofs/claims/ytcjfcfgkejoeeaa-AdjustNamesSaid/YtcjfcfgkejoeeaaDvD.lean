/- What Divide keeps in memory while goods are passed. -/
import Derived.Test.YtcjfcfgkejoeeaaDvA
import Derived.Test.YtcjfcfgkejoeeaaDvC
namespace Go.Proofs.Ytcjfcfgkejoeeaa
open Go.RowKit Go.Deep
set_option linter.unusedVariables false
set_option linter.unusedSimpArgs false

structure PsIn (w : World) (A : Option Addr) (c : Nat) (bs : List (List Int)) (g5 gO cO r g11 g12 g13 n : Nat) (Rr Ro : Option Addr) (cr co : Nat) (od : List Nat) (ow : List Int) (hr ho : Int) (wr : World) : Prop where
  dv : DvIn w A c bs g5 (.slice (some ⟨gO, 0, none⟩) n cO) ow (-1) ⟨0, 1⟩ (if r = 0 then hr else ho) (if r = 0 then ho else hr) wr
  h11 : wr.heap[g11]? = some (.cells #[.slice Rr n cr] 25)
  h12 : wr.heap[g12]? = some (.cells #[.slice Ro n co] 25)
  o : ∀ t x, od[t]? = some x → wr.cell? ⟨g13, t, none⟩ = some (.int .i64 (x : Nat))
  len : ow.length = n
  lg : g13 < wr.heap.size
  l0 : gO < g11
  l1 : gO < g12
  l2 : gO < g13
section
variable {w : World} {A : Option Addr} {c : Nat} {bs : List (List Int)} {g5 gO cO r g11 g12 g13 n : Nat} {Rr Ro : Option Addr} {cr co : Nat} {od : List Nat} {ow : List Int} {hr ho : Int} {wr w1 : World}
theorem PsIn.ge (h : PsIn w A c bs g5 gO cO r g11 g12 g13 n Rr Ro cr co od ow hr ho wr) : g5 + 2 ≤ gO ∧ gO < wr.heap.size := h.dv.ge gO rfl
theorem PsIn.drew (h : PsIn w A c bs g5 gO cO r g11 g12 g13 n Rr Ro cr co od ow hr ho wr) : PsIn w A c bs g5 gO cO r g11 g12 g13 n Rr Ro cr co od ow hr ho wr.drew :=
  ⟨h.dv.drew, h.h11, h.h12, h.o, h.len, h.lg, h.l0, h.l1, h.l2⟩
theorem PsIn.drewN (h : PsIn w A c bs g5 gO cO r g11 g12 g13 n Rr Ro cr co od ow hr ho wr) (m : Nat) : PsIn w A c bs g5 gO cO r g11 g12 g13 n Rr Ro cr co od ow hr ho (wr.drewN m) :=
  ⟨h.dv.drewN m, h.h11, h.h12, h.o, h.len, h.lg, h.l0, h.l1, h.l2⟩
theorem PsIn.next (h : PsIn w A c bs g5 gO cO r g11 g12 g13 n Rr Ro cr co od ow hr ho wr) (hb : Below wr.heap.size wr w1) : PsIn w A c bs g5 gO cO r g11 g12 g13 n Rr Ro cr co od ow hr ho w1 :=
  ⟨h.dv.next hb, heap_ext h.h11 hb, heap_ext h.h12 hb, fun t x e => (hb.cell (p := ⟨g13, t, none⟩) h.lg).trans (h.o t x e), h.len, Nat.lt_of_lt_of_le h.lg hb.size, h.l0, h.l1, h.l2⟩
theorem PsIn.setOw (h : PsIn w A c bs g5 gO cO r g11 g12 g13 n Rr Ro cr co od ow hr ho wr) (k : Nat) (x : Int) : PsIn w A c bs g5 gO cO r g11 g12 g13 n Rr Ro cr co od (ow.set k x) hr ho (wr.setCell ⟨gO, k, none⟩ (.int .i64 x)) := by
  have l0 := h.l0; have l1 := h.l1; have l2 := h.l2
  obtain rfl := h.len
  exact ⟨h.dv.setOw k x, by rw [heap_set_ne (by omega)]; exact h.h11, by rw [heap_set_ne (by omega)]; exact h.h12,
    fun t x e => by rw [World.cell?_of_block (heap_set_ne (show g13 ≠ gO by omega))]; exact h.o t x e, by simp, by simpa using h.lg, l0, l1, l2⟩
theorem PsIn.setR (hr1 : r ≤ 1) (h : PsIn w A c bs g5 gO cO r g11 g12 g13 n Rr Ro cr co od ow hr ho wr) (t : Int) : PsIn w A c bs g5 gO cO r g11 g12 g13 n Rr Ro cr co od ow t ho (wr.setCell ⟨g5 + 1, r, none⟩ (.int .i64 t)) := by
  have l0 := h.l0; have l1 := h.l1; have l2 := h.l2; have l3 := h.ge
  exact ⟨h.dv.setR hr1 t, by rw [heap_set_ne (by omega)]; exact h.h11, by rw [heap_set_ne (by omega)]; exact h.h12,
    fun t x e => by rw [World.cell?_of_block (heap_set_ne (show g13 ≠ g5 + 1 by omega))]; exact h.o t x e, h.len, by simpa using h.lg, l0, l1, l2⟩
theorem PsIn.setO (hr1 : r ≤ 1) (h : PsIn w A c bs g5 gO cO r g11 g12 g13 n Rr Ro cr co od ow hr ho wr) (t : Int) : PsIn w A c bs g5 gO cO r g11 g12 g13 n Rr Ro cr co od ow hr t (wr.setCell ⟨g5 + 1, 1 - r, none⟩ (.int .i64 t)) := by
  have l0 := h.l0; have l1 := h.l1; have l2 := h.l2; have l3 := h.ge
  exact ⟨h.dv.setO hr1 t, by rw [heap_set_ne (by omega)]; exact h.h11, by rw [heap_set_ne (by omega)]; exact h.h12,
    fun t x e => by rw [World.cell?_of_block (heap_set_ne (show g13 ≠ g5 + 1 by omega))]; exact h.o t x e, h.len, by simpa using h.lg, l0, l1, l2⟩
/-- What a round reads. -/
theorem PsIn.facts (hr1 : r ≤ 1) (h : PsIn w A c bs g5 gO cO r g11 g12 g13 n Rr Ro cr co od ow hr ho wr) :
    (wr.cell? ⟨g5 + 1, r, none⟩ = some (.int .i64 hr) ∧ wr.cell? ⟨g5 + 1, 1 - r, none⟩ = some (.int .i64 ho)) ∧ (∀ j, wr.frozen? ⟨g5 + 1, j, none⟩ = false)
    ∧ (∀ j, wr.cell? ⟨g11, j, none⟩ = (#[Value.slice Rr n cr] : Array Value)[j]?) ∧ (∀ j, wr.cell? ⟨g12, j, none⟩ = (#[Value.slice Ro n co] : Array Value)[j]?)
    ∧ (∀ j, wr.cell? ⟨g5, j, none⟩ = (#[.slice (some ⟨gO, 0, none⟩) n cO, .int .i64 (-1), .int .i64 0, .int .i64 1] : Array Value)[j]?) ∧ (∀ j, wr.frozen? ⟨g5, j, none⟩ = false) ∧ (∀ j, wr.frozen? ⟨gO, j, none⟩ = false) ∧ (∀ j, j < n → ∃ y, wr.cell? ⟨gO, j, none⟩ = some (.int .i64 y)) := by
  have l := h.len
  obtain ⟨_, _, _, f, _, f2⟩ := h.dv.facts
  refine ⟨h.dv.hR hr1, fun j => frozen_of_row _ _ j _ _ h.dv.h, fun j => cell_of_row _ _ j _ _ _ h.h11, fun j => cell_of_row _ _ j _ _ _ h.h12, fun j => cell_of_row _ _ j _ _ _ h.dv.d, fun j => frozen_of_row _ _ j _ _ h.dv.d, ?_, ?_⟩
  · subst l; exact fun j => h.dv.o.frozenAt j
  · subst l; exact fun j hj => ⟨gi ow j, by rw [h.dv.o.cellAt j (by omega), intsV_at hj]⟩
end
/-- What Divide answers. -/
def DvPost (bs : List (List Int)) (w : World) (e : Ending) (w' : World) : Prop :=
  ∃ (O : Option Addr) (oc : Nat) (D : Pt), e = .returned (.tuple #[pV O oc D, .int .i64 (adCode bs)]) ∧ PIn w'.heap.size w' O oc D ∧ (adCode bs = 0 → D = divP bs) ∧ (adCode bs ≠ 0 → D = ⟨[], 0, ⟨0, 0⟩⟩) ∧ Below w.heap.size w w'

theorem dv_end {w : World} {A : Option Addr} {c : Nat} {bs : List (List Int)} {g5 gO cO n : Nat} {ow : List Int} {sp : Int} {p : Rt} {h0 h1 : Int} {wr : World}
    (h : DvIn w A c bs g5 (.slice (some ⟨gO, 0, none⟩) n cO) ow sp p h0 h1 wr) (hn : ow.length = n) (hc : n ≤ cO ∧ cO ≤ maxLen) (s0 : -9223372036854775808 ≤ sp) (s1 : sp ≤ 9223372036854775807) (hp : p.wf) (ha : adCode bs = 0) (he : divP bs = ⟨ow, sp, p⟩) (i0 i1 i2 i3 : Nat) (u0 u1 u2 u3 : Value) :
    DvPost bs w (.returned (.tuple #[.agg #[(.slice (some ⟨gO, 0, none⟩) n cO), .int .i64 sp, .int .i64 p.n, .int .i64 p.d], .int .i64 0])) ((((wr.setCell ⟨w.heap.size + 1, i0, none⟩ u0).setCell ⟨w.heap.size + 1, i1, none⟩ u1).setCell ⟨w.heap.size + 1, i2, none⟩ u2).setCell ⟨w.heap.size + 1, i3, none⟩ u3) := by
  subst hn
  have g := h.ge gO rfl
  have l := h.lt
  refine ⟨some ⟨gO, 0, none⟩, cO, ⟨ow, sp, p⟩, by rw [ha], ?_, fun _ => he.symm, fun e => absurd ha e, (((h.below.setCell (show w.heap.size ≤ w.heap.size + 1 by omega) _).setCell (show w.heap.size ≤ w.heap.size + 1 by omega) _).setCell (show w.heap.size ≤ w.heap.size + 1 by omega) _).setCell (show w.heap.size ≤ w.heap.size + 1 by omega) _⟩
  refine ⟨?_, hc.1, hc.2, s0, s1, hp⟩
  have ho : ((((wr.setCell ⟨w.heap.size + 1, i0, none⟩ u0).setCell ⟨w.heap.size + 1, i1, none⟩ u1).setCell ⟨w.heap.size + 1, i2, none⟩ u2).setCell ⟨w.heap.size + 1, i3, none⟩ u3).ownsRow (g5 + 2) 3 1 (.slice (some ⟨gO, 0, none⟩) ow.length cO) ow.length (intsV ow) :=
    ownsRow_of_block h.o (fun g' e => by
      have := h.ge g' e
      rw [heap_set_ne (by omega), heap_set_ne (by omega), heap_set_ne (by omega), heap_set_ne (by omega)])
  exact (Ints.of_own ho).1
end Go.Proofs.Ytcjfcfgkejoeeaa
