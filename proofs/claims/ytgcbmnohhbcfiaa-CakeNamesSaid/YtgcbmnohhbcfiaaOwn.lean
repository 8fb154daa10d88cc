/- Rows of numbers that the call makes and appends to. -/
import Derived.Test.YtgcbmnohhbcfiaaAppend
import Derived.Deep.AppendLies
import Derived.Deep.OwnRows
namespace Go.Proofs.Ytgcbmnohhbcfiaa
open Go.RowKit Go.Deep
set_option linter.unusedVariables false
set_option linter.unusedSimpArgs false

abbrev intsV (l : List Int) : List Value := l.map (Value.int .i64)
theorem intsV_append (l : List Int) (x : Int) : intsV l ++ [.int .i64 x] = intsV (l ++ [x]) := by simp
theorem intsV_set (l : List Int) (k : Nat) (x : Int) : (intsV l).set k (.int .i64 x) = intsV (l.set k x) := by rw [intsV, intsV, List.map_set]
theorem intsV_at {l : List Int} {k : Nat} (h : k < l.length) : (intsV l)[k]? = some (.int .i64 (gi l k)) := by
  rw [gi_get h]; simp [intsV, h]
theorem own_ge {base : Nat} {wr : World} {e : TypeId} {v : Value} {n : Nat} {xs : List Value} (h : wr.ownsRow base e 1 v n xs) : ∀ g, v.ownBlock = some g → base ≤ g ∧ g < wr.heap.size := by
  intro g e
  rcases h.2 with ⟨rfl, _⟩ | ⟨g', cap, cur, rfl, hg', hh, _⟩
  · simp [Value.ownBlock] at e
  · simp [Value.ownBlock] at e; subst e; exact ⟨hg', lt_some hh⟩

/-- What an append leaves alone. -/
theorem grown_keep {base : Nat} {wr w1 : World} {e : TypeId} {v : Value} {n : Nat} {xs : List Value} {o : Obj} (h : wr.ownsRow base e 1 v n xs) (hg : (wr.alloc o).grownBy w1 v.ownBlock) :
    ∀ g, g < base → g < wr.heap.size → w1.heap[g]? = wr.heap[g]? := by
  intro g h1 h2
  rw [hg.block g (by simp; omega) (fun e => by have := own_ge h g e.symm; omega), Below.heap_alloc _ _ _ h2]

theorem grown_drew {wr w1 : World} {o : Obj} {row : Option Nat} (hg : ((wr.alloc o).drew).grownBy w1 row) : (wr.alloc o).grownBy w1 row := ⟨hg.os, hg.tape, hg.output, hg.size, hg.block⟩
theorem grown_cells {base : Nat} {wr w1 : World} {e : TypeId} {v : Value} {n : Nat} {xs : List Value} {o : Obj} (h : wr.ownsRow base e 1 v n xs) (hg : ((wr.alloc o).drew).grownBy w1 v.ownBlock) :
    ∀ p : Addr, p.block < base → p.block < wr.heap.size → w1.cell? p = wr.cell? p ∧ w1.frozen? p = wr.frozen? p := fun p h1 h2 =>
  have hk := grown_keep h (grown_drew hg) p.block h1 h2
  ⟨World.cell?_of_block hk, World.frozen?_of_block hk⟩

theorem ownsRow_of_block {base : Nat} {wr w1 : World} {e : TypeId} {v : Value} {n : Nat} {xs : List Value} (h : wr.ownsRow base e 1 v n xs) (hk : ∀ g, v.ownBlock = some g → w1.heap[g]? = wr.heap[g]?) : w1.ownsRow base e 1 v n xs := by
  refine ⟨h.1, ?_⟩
  rcases h.2 with h2 | ⟨g, cap, cur, rfl, hg, hh, r⟩
  · exact Or.inl h2
  · exact Or.inr ⟨g, cap, cur, rfl, hg, by rw [hk g (by simp [Value.ownBlock])]; exact hh, r⟩

theorem set_block {wr : World} {g i g' : Nat} {u : Value} (h : g' ≠ g) : (wr.setCell ⟨g, i, none⟩ u).heap[g']? = wr.heap[g']? := heap_set_ne h

theorem one_new (w : World) (x : Value) (e : TypeId) : ∀ j u, [x][j]? = some u → (w.alloc (.cells #[x] e)).cell? ((⟨w.heap.size, 0, none⟩ : Addr).add j) = some u := by
  intro j u hj
  match j, hj with
  | 0, hj => simp at hj; subst hj; simp [Addr.add]
theorem one_one (n : Int) : ∀ u ∈ [Value.int .i64 n], u.oneCell' = true := by intro u hu; simp at hu; subst hu; rfl

end Go.Proofs.Ytgcbmnohhbcfiaa
