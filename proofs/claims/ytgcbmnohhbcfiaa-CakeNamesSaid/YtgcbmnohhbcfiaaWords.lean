/- Words of our own for memory: a slice of integers, a slice of such slices, what was made and stays. -/
import Derived.Test.YtgcbmnohhbcfiaaKit
import Derived.Test.YtgcbmnohhbcfiaaPlain
import Derived.Laws.OwnMore
import Derived.Deep.AppendLies
import Derived.OwnWalk
import Derived.Deep.Draws
import Derived.Deep.OwnRows
import Derived.Deep.Matrix
import Derived.Deep.LoopGhost
namespace Go.Proofs.Ytgcbmnohhbcfiaa
open Go.RowKit
set_option linter.unusedVariables false
set_option linter.unusedSimpArgs false

theorem block_add (a : Addr) (n : Nat) : (a.add n).block = a.block := by unfold Addr.add; split <;> rfl
theorem add_add_ (a : Addr) (i j : Nat) : (a.add i).add j = a.add (i + j) := by
  unfold Addr.add
  by_cases hi : i = 0 <;> by_cases hj : j = 0 <;> simp [hi, hj, Nat.add_assoc]
theorem add_mk (b o j : Nat) : (⟨b, o, none⟩ : Addr).add j = ⟨b, o + j, none⟩ := by
  unfold Addr.add; split
  · rename_i h; subst h; rfl
  · rfl

/-- The slice of address A reads as the integers xs; its cells lie below block B. -/
def Ints (B : Nat) (w : World) (A : Option Addr) (xs : List Int) : Prop :=
  0 < xs.length → ∃ ad, A = some ad ∧ ad.block < B ∧ ∀ k, k < xs.length → w.cell? (ad.add k) = some (.int .i64 (gi xs k))

section
variable {B B' : Nat} {w w' : World} {A : Option Addr} {xs : List Int}
theorem Ints.nil_ : Ints B w A [] := fun h => by simp at h
theorem Ints.at_ {k : Nat} (h : Ints B w A xs) (hk : k < xs.length) : ∃ ad, A = some ad ∧ ad.block < B ∧ w.cell? (ad.add k) = some (.int .i64 (gi xs k)) := by
  obtain ⟨ad, e, hb, hc⟩ := h (by omega)
  exact ⟨ad, e, hb, hc k hk⟩
theorem Ints.keep (h : Ints B w A xs) (hk : ∀ p : Addr, p.block < B → w'.cell? p = w.cell? p) : Ints B w' A xs := fun h0 => by
  obtain ⟨ad, e, hb, hc⟩ := h h0
  exact ⟨ad, e, hb, fun k hk' => (hk _ (by rw [block_add]; exact hb)).trans (hc k hk')⟩
theorem Ints.more (h : Ints B w A xs) (hB : B ≤ B') : Ints B' w A xs := fun h0 => by
  obtain ⟨ad, e, hb, hc⟩ := h h0
  exact ⟨ad, e, by omega, hc⟩
theorem Ints.below (h : Ints B w A xs) (hb : Below B w w') : Ints B w' A xs := h.keep fun _ hp => hb.cell hp
theorem Ints.drew (h : Ints B w A xs) : Ints B w.drew A xs := h
theorem Ints.drewN (h : Ints B w A xs) (k : Nat) : Ints B (w.drewN k) A xs := h
theorem Ints.next (h : Ints w.heap.size w A xs) (hb : Below w.heap.size w w') : Ints w'.heap.size w' A xs := (h.below hb).more hb.size
theorem Ints.of_own {base : Nat} {e : TypeId} {n c : Nat} (h : w.ownsRow base e 1 (.slice A n c) n (xs.map (Value.int .i64))) : Ints w.heap.size w A xs ∧ n = xs.length := by
  have hl : n = xs.length := by have := h.1; simpa using this.symm
  refine ⟨fun h0 => ?_, hl⟩
  obtain ⟨g, cap, hv, _, hlt⟩ := h.form (by omega)
  have hA : A = some ⟨g, 0, none⟩ := by injection hv
  subst hA
  refine ⟨_, rfl, hlt, fun k hk => h.cells (g := g) rfl k _ ?_⟩
  rw [List.getElem?_map, List.getElem?_eq_getElem hk]
  simp [gi_get hk]
end

/-- The slice of address A reads as the lists bs; all cells lie below block B. -/
def IntRows (B : Nat) (w : World) (A : Option Addr) (bs : List (List Int)) : Prop :=
  0 < bs.length → ∃ ad, A = some ad ∧ ad.block < B ∧ ∀ i, i < bs.length → ∃ (R : Option Addr) (c : Nat), w.cell? (ad.add i) = some (.slice R (gr bs i).length c) ∧ (gr bs i).length ≤ c ∧ c ≤ maxLen ∧ Ints B w R (gr bs i)

section
variable {B B' : Nat} {w w' : World} {A : Option Addr} {bs : List (List Int)}
theorem IntRows.at_ {i : Nat} (h : IntRows B w A bs) (hi : i < bs.length) : ∃ (ad : Addr) (R : Option Addr) (c : Nat), A = some ad ∧ ad.block < B ∧ w.cell? (ad.add i) = some (.slice R (gr bs i).length c) ∧ (gr bs i).length ≤ c ∧ c ≤ maxLen ∧ Ints B w R (gr bs i) := by
  obtain ⟨ad, e, hb, hc⟩ := h (by omega)
  obtain ⟨R, c, r⟩ := hc i hi
  exact ⟨ad, R, c, e, hb, r⟩
theorem IntRows.keep (h : IntRows B w A bs) (hk : ∀ p : Addr, p.block < B → w'.cell? p = w.cell? p) : IntRows B w' A bs := fun h0 => by
  obtain ⟨ad, e, hb, hc⟩ := h h0
  refine ⟨ad, e, hb, fun i hi => ?_⟩
  obtain ⟨R, c, r1, r2, r3, r4⟩ := hc i hi
  exact ⟨R, c, (hk _ (by rw [block_add]; exact hb)).trans r1, r2, r3, r4.keep hk⟩
theorem IntRows.more (h : IntRows B w A bs) (hB : B ≤ B') : IntRows B' w A bs := fun h0 => by
  obtain ⟨ad, e, hb, hc⟩ := h h0
  refine ⟨ad, e, by omega, fun i hi => ?_⟩
  obtain ⟨R, c, r1, r2, r3, r4⟩ := hc i hi
  exact ⟨R, c, r1, r2, r3, r4.more hB⟩
theorem IntRows.below (h : IntRows B w A bs) (hb : Below B w w') : IntRows B w' A bs := h.keep fun _ hp => hb.cell hp
theorem IntRows.next (h : IntRows w.heap.size w A bs) (hb : Below w.heap.size w w') : IntRows w'.heap.size w' A bs := (h.below hb).more hb.size
theorem IntRows.drew (h : IntRows B w A bs) : IntRows B w.drew A bs := h
theorem IntRows.drewN (h : IntRows B w A bs) (k : Nat) : IntRows B (w.drewN k) A bs := h
end

theorem lt_some {w : World} {g : Nat} {o : Obj} (h : w.heap[g]? = some o) : g < w.heap.size := by
  rw [Array.getElem?_eq_some_iff] at h; exact h.1
theorem heap_new {w : World} {g : Nat} {o : Obj} (h : g = w.heap.size) : (w.alloc o).heap[g]? = some o := by subst h; exact heap_alloc_new w o
theorem heap_old {w : World} {g : Nat} {o o' : Obj} (h : w.heap[g]? = some o) : (w.alloc o').heap[g]? = some o := by rw [Below.heap_alloc _ _ _ (lt_some h)]; exact h
theorem heap_ext {w w1 : World} {g : Nat} {o : Obj} (h : w.heap[g]? = some o) (hb : Below w.heap.size w w1) : w1.heap[g]? = some o := by rw [hb.block _ (lt_some h)]; exact h
theorem heap_below {B : Nat} {w w1 : World} {g : Nat} {o : Obj} (h : w.heap[g]? = some o) (hb : Below B w w1) (hg : g < B) : w1.heap[g]? = some o := by rw [hb.block _ hg]; exact h
theorem heap_set {w : World} {g j : Nat} {u : Value} {cs : Array Value} {e : TypeId} {fr : Nat × Nat} (h : w.heap[g]? = some (.cells cs e fr)) : (w.setCell ⟨g, j, none⟩ u).heap[g]? = some (.cells (cs.setIfInBounds j u) e fr) := by
  simp [World.setCell, Array.getElem?_modify, h]
theorem heap_set_ne {w : World} {g g' j : Nat} {u : Value} (h : g' ≠ g) : (w.setCell ⟨g, j, none⟩ u).heap[g']? = w.heap[g']? := by
  simp [World.setCell, Array.getElem?_modify, Ne.symm h]
theorem ownsRow_ext {w w1 : World} {base : Nat} {e : TypeId} {size : Nat} {v : Value} {n : Nat} {xs : List Value} (h : w.ownsRow base e size v n xs) (hb : Below w.heap.size w w1) : w1.ownsRow base e size v n xs := by
  obtain ⟨h1, h2⟩ := h
  refine ⟨h1, ?_⟩
  rcases h2 with h2 | ⟨g, cap, cur, hv, hg, hh, r⟩
  · exact Or.inl h2
  · exact Or.inr ⟨g, cap, cur, hv, hg, by rw [hb.block g (lt_some hh)]; exact hh, r⟩
theorem ownsRow_base {w : World} {base base' : Nat} {e : TypeId} {size : Nat} {v : Value} {n : Nat} {xs : List Value} (h : w.ownsRow base e size v n xs) (hb : base' ≤ base) : w.ownsRow base' e size v n xs := by
  obtain ⟨h1, h2⟩ := h
  refine ⟨h1, ?_⟩
  rcases h2 with h2 | ⟨g, cap, cur, hv, hg, r⟩
  · exact Or.inl h2
  · exact Or.inr ⟨g, cap, cur, hv, by omega, r⟩
theorem getD_map_int (l : List Int) (k : Nat) : (l.map (Value.int .i64)).getD k (.int .i64 0) = .int .i64 (gi l k) := by
  simp only [gi, List.getD_eq_getElem?_getD, List.getElem?_map]; cases l[k]? <;> rfl

end Go.Proofs.Ytgcbmnohhbcfiaa
