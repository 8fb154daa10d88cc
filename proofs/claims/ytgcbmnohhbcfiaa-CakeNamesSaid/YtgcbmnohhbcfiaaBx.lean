/- Boxes of the call's own: their blocks, each with what it holds. -/
import Derived.Test.YtgcbmnohhbcfiaaWords
import Derived.Test.YtgcbmnohhbcfiaaRtW
namespace Go.Proofs.Ytgcbmnohhbcfiaa
open Go.RowKit
set_option linter.unusedVariables false
set_option linter.unusedSimpArgs false

structure Bx (w : World) (L : List (Nat × Obj)) (W : World) : Prop where
  below : Below w.heap.size w W
  own : ∀ p, p ∈ L → w.heap.size ≤ p.1
  nd : (L.map (·.1)).Nodup
  at_ : ∀ p, p ∈ L → W.heap[p.1]? = some p.2
section
variable {w W W1 : World} {L : List (Nat × Obj)}
theorem Bx.start (w : World) : Bx w [] w := ⟨Below.refl _ _, fun _ h => by simp at h, by simp, fun _ h => by simp at h⟩
theorem Bx.from {W0 : World} (h : Below w.heap.size w W0) : Bx w [] W0 := ⟨h, fun _ h => by simp at h, by simp, fun _ h => by simp at h⟩
theorem Bx.get (h : Bx w L W) (i : Nat) {p : Nat × Obj} (hi : L[i]? = some p) : W.heap[p.1]? = some p.2 := h.at_ p (List.mem_of_getElem? hi)
theorem Bx.le (h : Bx w L W) (i : Nat) {p : Nat × Obj} (hi : L[i]? = some p) : w.heap.size ≤ p.1 := h.own p (List.mem_of_getElem? hi)
theorem Bx.lt (h : Bx w L W) (i : Nat) {p : Nat × Obj} (hi : L[i]? = some p) : p.1 < W.heap.size := lt_some (h.get i hi)
theorem Bx.next (h : Bx w L W) (hb : Below W.heap.size W W1) : Bx w L W1 := ⟨bcall h.below h.below.size hb, h.own, h.nd, fun p hp => heap_ext (h.at_ p hp) hb⟩
theorem Bx.drew (h : Bx w L W) : Bx w L W.drew := ⟨h.below.drew, h.own, h.nd, h.at_⟩
theorem Bx.drewN (h : Bx w L W) (n : Nat) : Bx w L (W.drewN n) := ⟨below_drewN h.below n, h.own, h.nd, h.at_⟩
theorem Bx.new (h : Bx w L W) {g : Nat} (hg : g = W.heap.size) (o : Obj) : Bx w ((g, o) :: L) (W.alloc o) := by
  subst hg
  refine ⟨h.below.alloc h.below.size o, fun p hp => ?_, ?_, fun p hp => ?_⟩
  · rcases List.mem_cons.1 hp with rfl | hp
    · exact h.below.size
    · exact h.own p hp
  · rw [List.map_cons, List.nodup_cons]
    refine ⟨fun hm => ?_, h.nd⟩
    obtain ⟨p, hp, e⟩ := List.mem_map.1 hm
    have := lt_some (h.at_ p hp)
    omega
  · rcases List.mem_cons.1 hp with rfl | hp
    · exact heap_new rfl
    · exact heap_old (h.at_ p hp)
theorem Bx.drop {p : Nat × Obj} (h : Bx w (p :: L) W) : Bx w L W := ⟨h.below, fun q hq => h.own q (List.mem_cons_of_mem _ hq), (List.nodup_cons.1 h.nd).2, fun q hq => h.at_ q (List.mem_cons_of_mem _ hq)⟩
theorem Bx.sub {M : List (Nat × Obj)} (h : Bx w L W) (hs : List.Sublist M L) : Bx w M W := ⟨h.below, fun q hq => h.own q (hs.mem hq), (hs.map _).nodup h.nd, fun q hq => h.at_ q (hs.mem hq)⟩
theorem setNodup {α : Type} {f : α → Nat} {a b : α} (hf : f a = f b) : ∀ (L : List α) (i : Nat), L[i]? = some a → (L.set i b).map f = L.map f
  | [], _, h => by simp at h
  | x :: L, 0, h => by
    have : x = a := by simpa using h
    subst this; simp [hf]
  | x :: L, i + 1, h => by simpa using setNodup hf L i (by simpa using h)
theorem heap_set_ {g j : Nat} {cs : Array Value} {t : TypeId} {u : Value} (h : W.heap[g]? = some (.cells cs t)) : (W.setCell ⟨g, j, none⟩ u).heap[g]? = some (.cells (cs.setIfInBounds j u) t) := heap_set h
theorem Bx.ne (h : Bx w L W) (i j : Nat) {p q : Nat × Obj} (hi : L[i]? = some p) (hj : L[j]? = some q) (hij : i ≠ j) : ¬ p.1 = q.1 := fun e => by
  have a : (L.map (·.1))[i]? = some p.1 := by rw [List.getElem?_map, hi]; rfl
  have b : (L.map (·.1))[j]? = some p.1 := by rw [List.getElem?_map, hj]; simp [e]
  have hlt : i < (L.map (·.1)).length := by
    rcases Nat.lt_or_ge i (L.map (·.1)).length with q | q
    · exact q
    · rw [List.getElem?_eq_none q] at a; cases a
  exact hij ((List.getElem?_inj hlt h.nd).1 (a.trans b.symm))
theorem Bx.perm {M : List (Nat × Obj)} (h : Bx w L W) (hp : L.Perm M) : Bx w M W := ⟨h.below, fun q hq => h.own q (hp.mem_iff.2 hq), (hp.map _).nodup_iff.1 h.nd, fun q hq => h.at_ q (hp.mem_iff.2 hq)⟩
theorem Bx.swap {P Q M : List (Nat × Obj)} (h : Bx w (P ++ (Q ++ M)) W) : Bx w (Q ++ (P ++ M)) W := h.perm (by rw [← List.append_assoc, ← List.append_assoc]; exact List.perm_append_comm.append_right M)
/-- A store into a box's cell. -/
theorem Bx.set (h : Bx w L W) (i : Nat) {g : Nat} {cs : Array Value} {t : TypeId} (hi : L[i]? = some (g, .cells cs t)) (j : Nat) (u : Value) : Bx w (L.set i (g, .cells (cs.setIfInBounds j u) t)) (W.setCell ⟨g, j, none⟩ u) := by
  have hm := List.mem_of_getElem? hi
  have hne : ∀ k p, L[k]? = some p → k ≠ i → p.1 ≠ g := fun k p hk hki e => by
    have a : (L.map (·.1))[k]? = some g := by rw [List.getElem?_map, hk]; simp [e]
    have b : (L.map (·.1))[i]? = some g := by rw [List.getElem?_map, hi]; rfl
    have hlt : k < (L.map (·.1)).length := by
      rcases Nat.lt_or_ge k (L.map (·.1)).length with q | q
      · exact q
      · rw [List.getElem?_eq_none q] at a; cases a
    exact hki ((List.getElem?_inj hlt h.nd).1 (a.trans b.symm))
  refine ⟨h.below.setCell (h.own _ hm) _, fun p hp => ?_, ?_, fun p hp => ?_⟩
  · rcases List.mem_or_eq_of_mem_set hp with hp | rfl
    · exact h.own p hp
    · exact (h.own _ hm : w.heap.size ≤ g)
  · rw [setNodup (f := fun x : Nat × Obj => x.1) (a := (g, Obj.cells cs t)) (b := (g, Obj.cells (cs.setIfInBounds j u) t)) rfl L i hi]; exact h.nd
  · obtain ⟨k, hk⟩ := List.mem_iff_getElem?.1 hp
    by_cases e : k = i
    · subst e
      have hlt : k < L.length := by
        rcases Nat.lt_or_ge k L.length with q | q
        · exact q
        · rw [List.getElem?_eq_none q] at hi; cases hi
      rw [List.getElem?_set_self hlt] at hk
      obtain rfl : (g, Obj.cells (cs.setIfInBounds j u) t) = p := by simpa using hk
      exact heap_set_ (h.at_ _ hm)
    · rw [List.getElem?_set_ne (Ne.symm e)] at hk
      have := hne k p hk e
      rw [heap_set_ne this]
      exact h.at_ p (List.mem_of_getElem? hk)
/-- One more, made behind the world in which the others stood. -/
theorem Bx.add {W0 : World} (h : Bx w L W0) (hb : Below W0.heap.size W0 W) {g : Nat} {o : Obj} (hg : W0.heap.size ≤ g) (ho : W.heap[g]? = some o) : Bx w ((g, o) :: L) W := by
  have k := h.next hb
  refine ⟨k.below, fun p hp => ?_, ?_, fun p hp => ?_⟩
  · rcases List.mem_cons.1 hp with rfl | hp
    · exact Nat.le_trans h.below.size hg
    · exact k.own p hp
  · rw [List.map_cons, List.nodup_cons]
    refine ⟨fun hm => ?_, h.nd⟩
    obtain ⟨p, hp, e⟩ := List.mem_map.1 hm
    have := lt_some (h.at_ p hp)
    have : p.1 = g := e
    omega
  · rcases List.mem_cons.1 hp with rfl | hp
    · exact ho
    · exact k.at_ p hp
/-- A ratio is stored into its box. -/
theorem Bx.put (h : Bx w L W) (i : Nat) {g : Nat} {r0 : Rt} (hi : L[i]? = some (g, rB r0)) (r : Rt) : Bx w (L.set i (g, rB r)) ((W.setCell ⟨g, 0, none⟩ (.int .i64 r.n)).setCell ⟨g, 1, none⟩ (.int .i64 r.d)) := by
  have a := h.set i hi 0 (.int .i64 r.n)
  have hlt : i < L.length := by
    rcases Nat.lt_or_ge i L.length with q | q
    · exact q
    · rw [List.getElem?_eq_none q] at hi; cases hi
  have b := a.set i (List.getElem?_set_self hlt) 1 (.int .i64 r.d)
  rw [List.set_set] at b
  exact b
/-- A number in a box of its own. -/
abbrev eB (x : Int) : Obj := .cells #[.int .i64 x] 27
theorem Bx.putE (h : Bx w L W) (i : Nat) {g : Nat} {x0 : Int} (hi : L[i]? = some (g, eB x0)) (x : Int) : Bx w (L.set i (g, eB x)) (W.setCell ⟨g, 0, none⟩ (.int .i64 x)) := h.set i hi 0 (.int .i64 x)
end
end Go.Proofs.Ytgcbmnohhbcfiaa
