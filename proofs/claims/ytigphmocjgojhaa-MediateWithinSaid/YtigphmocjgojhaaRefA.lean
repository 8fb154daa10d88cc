/- What the reference's loop keeps in memory, and how each step of a round hands it on. -/
import Derived.Test.YtigphmocjgojhaaRunC
namespace Go.Proofs.Ytigphmocjgojhaa
open Go.RowKit
set_option linter.unusedVariables false
set_option linter.unusedSimpArgs false

structure RefW (b : Bg) (B k : Nat) (v : Value) (w wr : World) : Prop where
  below : Below B w wr
  bx : wr.heap[B]? = some (.cells #[.int .i64 b.s.f, .int .i64 b.s.l, .int .i64 b.s.n, .int .i64 b.s.d, .int .i64 b.b.f, .int .i64 b.b.l, .int .i64 b.b.n, .int .i64 b.b.d, .int .i64 b.o] 25 (0, 0))
  rs : wr.heap[B + 1]? = some (.cells #[.bool false, .int .i64 0, .int .i64 0, .int .u8 0] 40 (0, 0))
  row : wr.ownsRow (B + 1 + 1) 49 2 v k (offCells b k)
  nil : v = .slice none 0 0 ↔ k = 0

theorem RefW.ext {b : Bg} {B k : Nat} {v : Value} {w wr w1 : World} (h : RefW b B k v w wr) (hb : Below wr.heap.size wr w1) : RefW b B k v w w1 where
  below := bcall h.below (by have := lt_some h.bx; omega) hb
  bx := by rw [hb.block _ (lt_some h.bx)]; exact h.bx
  rs := by rw [hb.block _ (lt_some h.rs)]; exact h.rs
  row := ownsRow_ext h.row hb
  nil := h.nil

theorem RefW.append {b : Bg} {B k : Nat} {v v' : Value} {w wr w1 : World} (h : RefW b B k v w wr) {o : Obj} {x : Int} (hx : ((k % 2 : Nat) : Int) = x)
    (ho : w1.ownsRow (B + 1 + 1) 49 2 v' (k + 1) (offCells b k ++ [.int .u8 x, .int .i64 (pr b k)])) (hg : (wr.alloc o).grownBy w1 v.ownBlock) (hn : ¬ v' = .slice none 0 0) : RefW b B (k + 1) v' w w1 := by
  have hr : ∀ g, some g = v.ownBlock → B + 1 + 1 ≤ g := by
    intro g e
    rcases h.row.2 with ⟨rfl, _⟩ | ⟨g', cap, cur, rfl, hg', _⟩
    · simp [Value.ownBlock] at e
    · simp [Value.ownBlock] at e; omega
  have hblk : ∀ g, g < B + 1 + 1 → g < wr.heap.size → w1.heap[g]? = wr.heap[g]? := by
    intro g h1 h2
    rw [hg.block g (by simp; omega) (fun e => by have := hr g e; omega), Below.heap_alloc _ _ _ h2]
  have hB : B ≤ wr.heap.size := by have := lt_some h.bx; omega
  exact {
    below := (h.below.alloc hB o).grown hg (by simp; omega) (fun g e => by have := hr g e.symm; omega)
    bx := by rw [hblk _ (by omega) (lt_some h.bx)]; exact h.bx
    rs := by rw [hblk _ (by omega) (lt_some h.rs)]; exact h.rs
    row := by rw [offCells_succ, hx]; exact ho
    nil := by simp [hn] }

theorem RefW.facts {b : Bg} {B k : Nat} {v : Value} {w wr : World} (h : RefW b B k v w wr) :
    (B < wr.heap.size ∧ B + 1 < wr.heap.size ∧ ¬ B = wr.heap.size ∧ ¬ B + 1 = wr.heap.size) ∧ (∀ j, wr.cell? ⟨B, j, none⟩ = (#[.int .i64 b.s.f, .int .i64 b.s.l, .int .i64 b.s.n, .int .i64 b.s.d, .int .i64 b.b.f, .int .i64 b.b.l, .int .i64 b.b.n, .int .i64 b.b.d, .int .i64 b.o] : Array Value)[j]?) ∧
    (∀ j, wr.cell? ⟨B + 1, j, none⟩ = (#[.bool false, .int .i64 0, .int .i64 0, .int .u8 0] : Array Value)[j]?) ∧ (∀ j, wr.frozen? ⟨B + 1, j, none⟩ = false) :=
  ⟨⟨lt_some h.bx, lt_some h.rs, by have := lt_some h.bx; omega, by have := lt_some h.rs; omega⟩, fun j => cell_of_row _ _ _ _ _ _ h.bx, fun j => cell_of_row _ _ _ _ _ _ h.rs, fun j => frozen_of_row _ _ _ _ _ h.rs⟩

theorem RefW.offer_at {b : Bg} {B k : Nat} {v : Value} {w wr : World} (h : RefW b B k v w wr) (hk : 0 < k) :
    ∃ g cap, v = .slice (some ⟨g, 0, none⟩) k cap ∧ g < wr.heap.size ∧ k ≤ cap ∧ ∀ i, i < k → wr.cell? ⟨g, i * 2 + 1, none⟩ = some (.int .i64 (pr b i)) := by
  rcases h.row.2 with ⟨_, h0⟩ | ⟨g, cap, cur, rfl, _, hh, hc, _⟩
  · omega
  · refine ⟨g, cap, rfl, lt_some hh, hc, fun i hi => ?_⟩
    rw [h.row.cellAt _ (by omega)]
    exact (offCells_get b k i hi).2

theorem RefW.res {b : Bg} {B k : Nat} {v : Value} {w wr : World} (h : RefW b B k v w wr) (u0 u1 u2 u3 : Value) :
    ((((wr.setCell ⟨B + 1, 0, none⟩ u0).setCell ⟨B + 1, 1, none⟩ u1).setCell ⟨B + 1, 2, none⟩ u2).setCell ⟨B + 1, 3, none⟩ u3).ownsRow (B + 1 + 1) 49 2 v k (offCells b k) ∧
    Below B w ((((wr.setCell ⟨B + 1, 0, none⟩ u0).setCell ⟨B + 1, 1, none⟩ u1).setCell ⟨B + 1, 2, none⟩ u2).setCell ⟨B + 1, 3, none⟩ u3) :=
  ⟨ownsRow_set_ne (ownsRow_set_ne (ownsRow_set_ne (ownsRow_set_ne h.row (by omega)) (by omega)) (by omega)) (by omega),
    (((h.below.setCell (by simp) _).setCell (by simp) _).setCell (by simp) _).setCell (by simp) _⟩

theorem startref (b : Bg) (w : World) : RefW b w.heap.size 0 (.slice none 0 0) w
    ((w.alloc (.cells #[.int .i64 b.s.f, .int .i64 b.s.l, .int .i64 b.s.n, .int .i64 b.s.d, .int .i64 b.b.f, .int .i64 b.b.l, .int .i64 b.b.n, .int .i64 b.b.d, .int .i64 b.o] 25)).alloc
      (.cells #[.bool false, .int .i64 0, .int .i64 0, .int .u8 0] 40)) where
  below := ((Below.refl _ _).alloc (Nat.le_refl _) _).alloc (by simp) _
  bx := heap_old (heap_new rfl)
  rs := heap_new (by simp)
  row := World.ownsRow_nil _ _ _ _
  nil := by simp

theorem two_new' {w : World} {g : Nat} (hg : g = w.heap.size) (x y : Value) (e : TypeId) : ∀ j u, [x, y][j]? = some u → (w.alloc (.cells #[x, y] e)).cell? ((⟨g, 0, none⟩ : Addr).add j) = some u := by
  subst hg; exact two_new w x y e

/-- A slice's length: a loop's measure. -/
def lenOf : Value → Nat | .slice _ n _ => n | _ => 0

theorem ownsRow_drewN {w : World} {base : Nat} {e : TypeId} {size : Nat} {v : Value} {n : Nat} {xs : List Value} (h : w.ownsRow base e size v n xs) (m : Nat) : (w.drewN m).ownsRow base e size v n xs := h

theorem nxt_pr {b : Bg} {k : Nat} (h : 2 ≤ k) : nxt (sta b k) (pr b (k - 2)) = pr b k := by
  obtain ⟨n, rfl⟩ : ∃ n, k = n + 2 := ⟨k - 2, by omega⟩
  rw [show n + 2 - 2 = n by omega, pr]
  simp [sta]

end Go.Proofs.Ytigphmocjgojhaa
