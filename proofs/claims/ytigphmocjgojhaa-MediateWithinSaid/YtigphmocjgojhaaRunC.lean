/- What the loop that makes the offers keeps in memory, and how each step of a round hands it on. -/
import Derived.Test.YtigphmocjgojhaaRunB
namespace Go.Proofs.Ytigphmocjgojhaa
open Go.RowKit
set_option linter.unusedVariables false
set_option linter.unusedSimpArgs false

abbrev fvHalf (b : Bg) : Value := .func (.func 30) #[b.v] #[]
abbrev fvNone (b : Bg) : Value := .func (.func 28) #[b.v] #[]

def offCells (b : Bg) (k : Nat) : List Value := (List.range k).flatMap fun i => [.int .u8 ((i % 2 : Nat) : Int), .int .i64 (pr b i)]

theorem offCells_succ (b : Bg) (k : Nat) : offCells b (k + 1) = offCells b k ++ [.int .u8 ((k % 2 : Nat) : Int), .int .i64 (pr b k)] := by
  simp [offCells, List.range_succ]
theorem offCells_length (b : Bg) : ∀ k, (offCells b k).length = k * 2
  | 0 => rfl
  | k + 1 => by rw [offCells_succ, List.length_append, offCells_length b k]; simp; omega
theorem offCells_get (b : Bg) : ∀ (k i : Nat), i < k → (offCells b k)[i * 2]? = some (.int .u8 ((i % 2 : Nat) : Int)) ∧ (offCells b k)[i * 2 + 1]? = some (.int .i64 (pr b i))
  | 0, i, h => by omega
  | k + 1, i, h => by
    rw [offCells_succ]
    by_cases hi : i < k
    · have := offCells_get b k i hi
      rw [List.getElem?_append_left (by rw [offCells_length]; omega), List.getElem?_append_left (by rw [offCells_length]; omega)]; exact this
    · obtain rfl : i = k := by omega
      rw [List.getElem?_append_right (by rw [offCells_length]; omega), List.getElem?_append_right (by rw [offCells_length]; omega), offCells_length]
      simp [show i * 2 + 1 - i * 2 = 1 by omega]

/-- The party's cells. -/
abbrev partyCells (by' : Int) (s : St) (x : Int) : Array Value := #[.int .u8 by', .int .i64 s.f, .int .i64 s.l, .int .i64 s.n, .int .i64 s.d, .int .i64 x]

structure RunW (b : Bg) (B : Nat) (x0 x1 : Int) (k : Nat) (v : Value) (w wr : World) : Prop where
  below : Below B w wr
  bx : wr.heap[B]? = some (.cells #[.int .i64 b.s.f, .int .i64 b.s.l, .int .i64 b.s.n, .int .i64 b.s.d, .int .i64 b.b.f, .int .i64 b.b.l, .int .i64 b.b.n, .int .i64 b.b.d, .int .i64 b.o] 25 (0, 0))
  rs : wr.heap[B + 1]? = some (.cells #[.bool false, .int .i64 0, .int .i64 0, .int .u8 0] 40 (0, 0))
  p0 : wr.heap[B + 1 + 1]? = some (.cells (partyCells 0 b.s x0) 63 (0, 0))
  p1 : wr.heap[B + 1 + 1 + 1]? = some (.cells (partyCells 1 b.b x1) 63 (0, 0))
  ar : wr.heap[B + 1 + 1 + 1 + 1]? = some (.cells #[.pointer (some ⟨B + 1 + 1, 0, none⟩), .pointer (some ⟨B + 1 + 1 + 1, 0, none⟩)] 64 (0, 0))
  row : wr.ownsRow (B + 1 + 1 + 1 + 1 + 1) 49 2 v k (offCells b k)
  nil : v = .slice none 0 0 ↔ k = 0

theorem lt_some {w : World} {g : Nat} {o : Obj} (h : w.heap[g]? = some o) : g < w.heap.size := by
  rw [Array.getElem?_eq_some_iff] at h; exact h.1

theorem ownsRow_ext {w w1 : World} {base : Nat} {e : TypeId} {size : Nat} {v : Value} {n : Nat} {xs : List Value} (h : w.ownsRow base e size v n xs) (hb : Below w.heap.size w w1) : w1.ownsRow base e size v n xs := by
  obtain ⟨h1, h2⟩ := h
  refine ⟨h1, ?_⟩
  rcases h2 with h2 | ⟨g, cap, cur, hv, hg, hh, r⟩
  · exact Or.inl h2
  · exact Or.inr ⟨g, cap, cur, hv, hg, by rw [hb.block g (lt_some hh)]; exact hh, r⟩

theorem RunW.ext {b : Bg} {B : Nat} {x0 x1 : Int} {k : Nat} {v : Value} {w wr w1 : World} (h : RunW b B x0 x1 k v w wr) (hb : Below wr.heap.size wr w1) : RunW b B x0 x1 k v w w1 where
  below := bcall h.below (by have := lt_some h.bx; omega) hb
  bx := by rw [hb.block _ (lt_some h.bx)]; exact h.bx
  rs := by rw [hb.block _ (lt_some h.rs)]; exact h.rs
  p0 := by rw [hb.block _ (lt_some h.p0)]; exact h.p0
  p1 := by rw [hb.block _ (lt_some h.p1)]; exact h.p1
  ar := by rw [hb.block _ (lt_some h.ar)]; exact h.ar
  row := ownsRow_ext h.row hb
  nil := h.nil

theorem heap_set {w : World} {g j : Nat} {u : Value} {cs : Array Value} {e : TypeId} {fr : Nat × Nat} (h : w.heap[g]? = some (.cells cs e fr)) : (w.setCell ⟨g, j, none⟩ u).heap[g]? = some (.cells (cs.setIfInBounds j u) e fr) := by
  simp [World.setCell, Array.getElem?_modify, h]

theorem heap_set_ne {w : World} {g g' j : Nat} {u : Value} (h : g' ≠ g) : (w.setCell ⟨g, j, none⟩ u).heap[g']? = w.heap[g']? := by
  simp [World.setCell, Array.getElem?_modify, Ne.symm h]

theorem ownsRow_set_ne {w : World} {base : Nat} {e : TypeId} {size : Nat} {v : Value} {n : Nat} {xs : List Value} (h : w.ownsRow base e size v n xs) {g j : Nat} {u : Value} (hg : g < base) : (w.setCell ⟨g, j, none⟩ u).ownsRow base e size v n xs :=
  ownsRow_setCell_below h hg u

theorem RunW.offer0 {b : Bg} {B : Nat} {x0 x1 y : Int} {k : Nat} {v : Value} {w wr w1 : World} (h : RunW b B x0 x1 k v w wr) (hb : Below wr.heap.size (wr.setCell ⟨B + 1 + 1, 5, none⟩ (.int .i64 y)) w1) : RunW b B y x1 k v w w1 := by
  have h' : RunW b B y x1 k v w (wr.setCell ⟨B + 1 + 1, 5, none⟩ (.int .i64 y)) := {
    below := h.below.setCell (by simp; omega) _
    bx := by rw [heap_set_ne (by omega)]; exact h.bx
    rs := by rw [heap_set_ne (by omega)]; exact h.rs
    p0 := by rw [heap_set h.p0]; rfl
    p1 := by rw [heap_set_ne (by omega)]; exact h.p1
    ar := by rw [heap_set_ne (by omega)]; exact h.ar
    row := ownsRow_set_ne h.row (by omega)
    nil := h.nil }
  exact h'.ext (by simpa using hb)

theorem RunW.offer1 {b : Bg} {B : Nat} {x0 x1 y : Int} {k : Nat} {v : Value} {w wr w1 : World} (h : RunW b B x0 x1 k v w wr) (hb : Below wr.heap.size (wr.setCell ⟨B + 1 + 1 + 1, 5, none⟩ (.int .i64 y)) w1) : RunW b B x0 y k v w w1 := by
  have h' : RunW b B x0 y k v w (wr.setCell ⟨B + 1 + 1 + 1, 5, none⟩ (.int .i64 y)) := {
    below := h.below.setCell (by simp; omega) _
    bx := by rw [heap_set_ne (by omega)]; exact h.bx
    rs := by rw [heap_set_ne (by omega)]; exact h.rs
    p0 := by rw [heap_set_ne (by omega)]; exact h.p0
    p1 := by rw [heap_set h.p1]; rfl
    ar := by rw [heap_set_ne (by omega)]; exact h.ar
    row := ownsRow_set_ne h.row (by omega)
    nil := h.nil }
  exact h'.ext (by simpa using hb)

theorem RunW.append {b : Bg} {B : Nat} {x0 x1 : Int} {k : Nat} {v v' : Value} {w wr w1 : World} (h : RunW b B x0 x1 k v w wr) {o : Obj}
    (ho : w1.ownsRow (B + 1 + 1 + 1 + 1 + 1) 49 2 v' (k + 1) (offCells b k ++ [.int .u8 ((k % 2 : Nat) : Int), .int .i64 (pr b k)])) (hg : (wr.alloc o).grownBy w1 v.ownBlock) (hn : v' = .slice none 0 0 ↔ v = .slice none 0 0 ∧ 1 = 0) : RunW b B x0 x1 (k + 1) v' w w1 := by
  have hr : ∀ g, some g = v.ownBlock → B + 1 + 1 + 1 + 1 + 1 ≤ g := by
    intro g e
    rcases h.row.2 with ⟨rfl, _⟩ | ⟨g', cap, cur, rfl, hg', _⟩
    · simp [Value.ownBlock] at e
    · simp [Value.ownBlock] at e; omega
  have hblk : ∀ g, g < B + 1 + 1 + 1 + 1 + 1 → g < wr.heap.size → w1.heap[g]? = wr.heap[g]? := by
    intro g h1 h2
    rw [hg.block g (by simp; omega) (fun e => by have := hr g e; omega), Below.heap_alloc _ _ _ h2]
  have hB : B ≤ wr.heap.size := by have := lt_some h.bx; omega
  exact {
    below := (h.below.alloc hB o).grown hg (by simp; omega) (fun g e => by have := hr g e.symm; omega)
    bx := by rw [hblk _ (by omega) (lt_some h.bx)]; exact h.bx
    rs := by rw [hblk _ (by omega) (lt_some h.rs)]; exact h.rs
    p0 := by rw [hblk _ (by omega) (lt_some h.p0)]; exact h.p0
    p1 := by rw [hblk _ (by omega) (lt_some h.p1)]; exact h.p1
    ar := by rw [hblk _ (by omega) (lt_some h.ar)]; exact h.ar
    row := by rw [offCells_succ]; exact ho
    nil := by rw [hn]; simp }

/-- What the walk asks of a round's world. -/
theorem RunW.facts {b : Bg} {B : Nat} {x0 x1 : Int} {k : Nat} {v : Value} {w wr : World} (h : RunW b B x0 x1 k v w wr) :
    B + 1 + 1 + 1 + 1 < wr.heap.size ∧ wr.cell? ⟨B, 8, none⟩ = some (.int .i64 b.o) ∧
    (∀ j, wr.cell? ⟨B + 1, j, none⟩ = (#[.bool false, .int .i64 0, .int .i64 0, .int .u8 0] : Array Value)[j]?) ∧ (∀ j, wr.frozen? ⟨B + 1, j, none⟩ = false) ∧
    wr.cell? ⟨B + 1 + 1 + 1 + 1, 0, none⟩ = some (.pointer (some ⟨B + 1 + 1, 0, none⟩)) ∧ wr.cell? ⟨B + 1 + 1 + 1 + 1, 1, none⟩ = some (.pointer (some ⟨B + 1 + 1 + 1, 0, none⟩)) ∧
    (∀ j, wr.cell? ⟨B + 1 + 1, j, none⟩ = (partyCells 0 b.s x0)[j]?) ∧ (∀ j, wr.cell? ⟨B + 1 + 1 + 1, j, none⟩ = (partyCells 1 b.b x1)[j]?) ∧
    wr.frozen? ⟨B + 1 + 1, 5, none⟩ = false ∧ wr.frozen? ⟨B + 1 + 1 + 1, 5, none⟩ = false :=
  ⟨lt_some h.ar, cell_of_row _ _ _ _ _ _ h.bx, fun j => cell_of_row _ _ _ _ _ _ h.rs, fun j => frozen_of_row _ _ _ _ _ h.rs, cell_of_row _ _ _ _ _ _ h.ar, cell_of_row _ _ _ _ _ _ h.ar,
    fun j => cell_of_row _ _ _ _ _ _ h.p0, fun j => cell_of_row _ _ _ _ _ _ h.p1, frozen_of_row _ _ _ _ _ h.p0, frozen_of_row _ _ _ _ _ h.p1⟩

/-- Where there are offers, the list's address, and an offer's price in it. -/
theorem RunW.offer_at {b : Bg} {B : Nat} {x0 x1 : Int} {k : Nat} {v : Value} {w wr : World} (h : RunW b B x0 x1 k v w wr) (hk : 0 < k) :
    ∃ g cap, v = .slice (some ⟨g, 0, none⟩) k cap ∧ g < wr.heap.size ∧ k ≤ cap ∧ ∀ i, i < k → wr.cell? ⟨g, i * 2 + 1, none⟩ = some (.int .i64 (pr b i)) := by
  rcases h.row.2 with ⟨_, h0⟩ | ⟨g, cap, cur, rfl, _, hh, hc, _⟩
  · omega
  · refine ⟨g, cap, rfl, lt_some hh, hc, fun i hi => ?_⟩
    rw [h.row.cellAt _ (by omega)]
    exact (offCells_get b k i hi).2


abbrev Deal.v (d : Deal) : Value := .agg #[.bool d.made, .int .i64 d.price, .int .i64 d.after, .int .u8 d.by']

/-- What a run of offers leaves: the offers up to its end, and the deal. -/
def RunPost (b : Bg) (med : Bool) (w : World) (e : Ending) (w' : World) : Prop :=
  ∃ v, e = .returned (.tuple #[v, (deal b med).v]) ∧ w'.ownsRow w.heap.size 49 2 v (endN b med) (offCells b (endN b med)) ∧ Below w.heap.size w w'

theorem ownsRow_base {w : World} {base base' : Nat} {e : TypeId} {size : Nat} {v : Value} {n : Nat} {xs : List Value} (h : w.ownsRow base e size v n xs) (hb : base' ≤ base) : w.ownsRow base' e size v n xs := by
  obtain ⟨h1, h2⟩ := h
  refine ⟨h1, ?_⟩
  rcases h2 with h2 | ⟨g, cap, cur, hv, hg, r⟩
  · exact Or.inl h2
  · exact Or.inr ⟨g, cap, cur, hv, by omega, r⟩

theorem fin_some {b : Bg} {med : Bool} {k : Nat} {d : Deal} {v : Value} {w w' : World} {base : Nat} (hk : (k : Int) ≤ b.o) (hns : ∀ i, i < k → stop b med i = none) (hs : stop b med k = some d)
    (hrow : w'.ownsRow base 49 2 v k (offCells b k)) (hbase : w.heap.size ≤ base) (hb : Below w.heap.size w w') : RunPost b med w (.returned (.tuple #[v, d.v])) w' := by
  have he : endN b med = k := endN_eq hk hns (by simp [hs])
  refine ⟨v, ?_, ?_, hb⟩
  · rw [deal, he, hs]; rfl
  · rw [he]; exact ownsRow_base hrow hbase

theorem stop_med {b : Bg} {k : Nat} (h0 : 0 < k) (h2 : k % 2 = 0) (hz : zoneB b (halfP b k) = true) : stop b true k = some ⟨true, halfP b k, k, 2⟩ := by
  unfold stop; rw [if_pos ⟨rfl, h0, h2, hz⟩]
theorem stop_end {b : Bg} {med : Bool} {k : Nat} (hn : ¬ (med = true ∧ 0 < k ∧ k % 2 = 0 ∧ zoneB b (halfP b k) = true)) (hk : (k : Int) = b.o) : stop b med k = some ⟨false, 0, 0, 0⟩ := by
  unfold stop; rw [if_neg hn, if_pos hk]
theorem stop_acc {b : Bg} {med : Bool} {k : Nat} (hn : ¬ (med = true ∧ 0 < k ∧ k % 2 = 0 ∧ zoneB b (halfP b k) = true)) (hk : ¬ (k : Int) = b.o) (h0 : 0 < k) (ha : accAt b k = true) : stop b med k = some ⟨true, pr b (k - 1), k, (k % 2 : Nat)⟩ := by
  unfold stop; rw [if_neg hn, if_neg hk, if_pos ⟨h0, ha⟩]
theorem stop_not {b : Bg} {med : Bool} {k : Nat} (hn : ¬ (med = true ∧ 0 < k ∧ k % 2 = 0 ∧ zoneB b (halfP b k) = true)) (hk : ¬ (k : Int) = b.o) (h0 : ¬ (0 < k ∧ accAt b k = true)) : stop b med k = none := by
  unfold stop; rw [if_neg hn, if_neg hk, if_neg h0]

theorem RunW.res {b : Bg} {B : Nat} {x0 x1 : Int} {k : Nat} {v : Value} {w wr : World} (h : RunW b B x0 x1 k v w wr) (u0 u1 u2 u3 : Value) :
    ((((wr.setCell ⟨B + 1, 0, none⟩ u0).setCell ⟨B + 1, 1, none⟩ u1).setCell ⟨B + 1, 2, none⟩ u2).setCell ⟨B + 1, 3, none⟩ u3).ownsRow (B + 1 + 1 + 1 + 1 + 1) 49 2 v k (offCells b k) ∧
    Below B w ((((wr.setCell ⟨B + 1, 0, none⟩ u0).setCell ⟨B + 1, 1, none⟩ u1).setCell ⟨B + 1, 2, none⟩ u2).setCell ⟨B + 1, 3, none⟩ u3) :=
  ⟨ownsRow_set_ne (ownsRow_set_ne (ownsRow_set_ne (ownsRow_set_ne h.row (by omega)) (by omega)) (by omega)) (by omega),
    (((h.below.setCell (by simp) _).setCell (by simp) _).setCell (by simp) _).setCell (by simp) _⟩

theorem info49 : (Try.prog.info? 49).map (fun i => (i.zero, i.size, i.bytes)) = some (some (.agg #[.int .u8 0, .int .i64 0]), 2, 16) := by kernel_rfl

theorem heap_new {w : World} {g : Nat} {o : Obj} (h : g = w.heap.size) : (w.alloc o).heap[g]? = some o := by subst h; exact heap_alloc_new w o
theorem heap_old {w : World} {g : Nat} {o o' : Obj} (h : w.heap[g]? = some o) : (w.alloc o').heap[g]? = some o := by rw [Below.heap_alloc _ _ _ (lt_some h)]; exact h

theorem start_w (b : Bg) (w : World) : RunW b w.heap.size (pr b (0 + 0 % 2)) (pr b (0 + 1 - 0 % 2)) 0 (.slice none 0 0) w
    (((((w.alloc (.cells #[.int .i64 b.s.f, .int .i64 b.s.l, .int .i64 b.s.n, .int .i64 b.s.d, .int .i64 b.b.f, .int .i64 b.b.l, .int .i64 b.b.n, .int .i64 b.b.d, .int .i64 b.o] 25)).alloc
      (.cells #[.bool false, .int .i64 0, .int .i64 0, .int .u8 0] 40)).alloc (.cells #[.int .u8 0, .int .i64 b.s.f, .int .i64 b.s.l, .int .i64 b.s.n, .int .i64 b.s.d, .int .i64 b.s.f] 63)).alloc
      (.cells #[.int .u8 1, .int .i64 b.b.f, .int .i64 b.b.l, .int .i64 b.b.n, .int .i64 b.b.d, .int .i64 b.b.f] 63)).alloc
      (.cells #[.pointer (some ⟨w.heap.size + 1 + 1, 0, none⟩), .pointer (some ⟨w.heap.size + 1 + 1 + 1, 0, none⟩)] 64)) where
  below := (((((Below.refl _ _).alloc (Nat.le_refl _) _).alloc (by simp) _).alloc (by simp; omega) _).alloc (by simp; omega) _).alloc (by simp; omega) _
  bx := heap_old (heap_old (heap_old (heap_old (heap_new rfl))))
  rs := heap_old (heap_old (heap_old (heap_new (by simp))))
  p0 := heap_old (heap_old (heap_new (by simp)))
  p1 := heap_old (heap_new (by simp))
  ar := heap_new (by simp)
  row := World.ownsRow_nil _ _ _ _
  nil := by simp

theorem step_even {b : Bg} (hc : b.code = 0) {B k : Nat} (hk : k % 2 = 0) {v v' : Value} {w wr w1 : World} {o : Obj} (h : RunW b B (nextV b.s (pr b k)) (pr b (k + 1)) k v w wr)
    (ho : w1.ownsRow (B + 1 + 1 + 1 + 1 + 1) 49 2 v' (k + 1) (offCells b k ++ [.int .u8 0, .int .i64 (pr b k)])) (hg : (wr.alloc o).grownBy w1 v.ownBlock) (hn : ¬ v' = .slice none 0 0) :
    RunW b B (pr b (k + 1 + (k + 1) % 2)) (pr b (k + 1 + 1 - (k + 1) % 2)) (k + 1) v' w w1 := by
  have hp := (pr_next hc k).2.1
  rw [show sta b k = b.s by simp [sta, hk]] at hp
  rw [hp] at h
  rw [show k + 1 + (k + 1) % 2 = k + 2 by omega, show k + 1 + 1 - (k + 1) % 2 = k + 1 by omega]
  exact h.append (by rw [hk]; exact ho) hg (by simp [hn])

theorem step_odd {b : Bg} (hc : b.code = 0) {B k : Nat} (hk : k % 2 = 1) {v v' : Value} {w wr w1 : World} {o : Obj} (h : RunW b B (pr b (k + 1)) (nextV b.b (pr b k)) k v w wr)
    (ho : w1.ownsRow (B + 1 + 1 + 1 + 1 + 1) 49 2 v' (k + 1) (offCells b k ++ [.int .u8 1, .int .i64 (pr b k)])) (hg : (wr.alloc o).grownBy w1 v.ownBlock) (hn : ¬ v' = .slice none 0 0) :
    RunW b B (pr b (k + 1 + (k + 1) % 2)) (pr b (k + 1 + 1 - (k + 1) % 2)) (k + 1) v' w w1 := by
  have hp := (pr_next hc k).2.1
  rw [show sta b k = b.b by simp [sta, hk]] at hp
  rw [hp] at h
  rw [show k + 1 + (k + 1) % 2 = k + 1 by omega, show k + 1 + 1 - (k + 1) % 2 = k + 2 by omega]
  exact h.append (by rw [hk]; exact ho) hg (by simp [hn])

theorem two_new (w : World) (x y : Value) (e : TypeId) : ∀ j u, [x, y][j]? = some u → (w.alloc (.cells #[x, y] e)).cell? ((⟨w.heap.size, 0, none⟩ : Addr).add j) = some u := by
  intro j u hj
  match j, hj with
  | 0, hj => simp at hj; subst hj; simp [Addr.add]
  | 1, hj => simp at hj; subst hj; simp [Addr.add]

theorem ns_step {b : Bg} {med : Bool} {k : Nat} (h : ∀ i, i < k → stop b med i = none) (hk : stop b med k = none) : ∀ i, i < k + 1 → stop b med i = none := by
  intro i hi
  by_cases h' : i < k
  · exact h i h'
  · obtain rfl : i = k := by omega
    exact hk

end Go.Proofs.Ytigphmocjgojhaa
