/- The library's Compact, over a row of the call's own. -/
import Derived.Test.YtgcbmnohhbcfiaaShelf
import Derived.Test.YtgcbmnohhbcfiaaClone
import Derived.Test.YtgcbmnohhbcfiaaCkTw
namespace Go.Proofs.Ytgcbmnohhbcfiaa
open Go.RowKit Go.Deep
set_option linter.unusedVariables false
set_option linter.unusedSimpArgs false

def setL (cs : Array Value) : Nat → List Value → Array Value
  | _, [] => cs
  | o, v :: r => setL (cs.setIfInBounds o v) (o + 1) r
theorem setL_size : ∀ (vs : List Value) (cs : Array Value) (o : Nat), (setL cs o vs).size = cs.size
  | [], _, _ => rfl
  | v :: r, cs, o => by rw [setL, setL_size r]; simp
theorem setL_at : ∀ (vs : List Value) (cs : Array Value) (o j : Nat), o + vs.length ≤ cs.size → (setL cs o vs)[j]? = if o ≤ j ∧ j < o + vs.length then vs[j - o]? else cs[j]?
  | [], cs, o, j, _ => by rw [setL, if_neg (by simp <;> omega)]
  | v :: r, cs, o, j, h => by
    have hl : (v :: r).length = r.length + 1 := rfl
    rw [setL, setL_at r _ _ _ (by simp; omega), hl]
    by_cases e : o = j
    · subst e
      rw [if_neg (by omega), if_pos (by omega), Array.getElem?_setIfInBounds_self_of_lt (by omega)]; simp
    · rw [Array.getElem?_setIfInBounds_ne e]
      by_cases q : o + 1 ≤ j ∧ j < o + 1 + r.length
      · rw [if_pos q, if_pos (by omega), show j - o = (j - (o + 1)) + 1 by omega]; rfl
      · rw [if_neg q, if_neg (by omega)]
theorem heap_setCells {g : Nat} {t : TypeId} {fr : Nat × Nat} : ∀ (vs : List Value) (o : Nat) (w : World) (cs : Array Value), w.heap[g]? = some (.cells cs t fr) → (w.setCells g o vs).heap[g]? = some (.cells (setL cs o vs) t fr)
  | [], _, _, _, h => h
  | v :: r, o, w, cs, h => by rw [World.setCells, setL]; exact heap_setCells r _ _ _ (heap_set h)
theorem heap_setCells_ne {g g' : Nat} (hne : g' ≠ g) : ∀ (vs : List Value) (o : Nat) (w : World), (w.setCells g o vs).heap[g']? = w.heap[g']?
  | [], _, _ => rfl
  | v :: r, o, w => by rw [World.setCells, heap_setCells_ne hne r]; exact heap_set_ne hne
theorem size_setCells_ (g : Nat) : ∀ (vs : List Value) (o : Nat) (w : World), (w.setCells g o vs).heap.size = w.heap.size
  | [], _, _ => rfl
  | v :: r, o, w => by rw [World.setCells, size_setCells_ g r]; simp
theorem kept_setCells (g : Nat) : ∀ (vs : List Value) (o : Nat) (w : World), (w.setCells g o vs).os = w.os ∧ (w.setCells g o vs).tape = w.tape ∧ (w.setCells g o vs).output = w.output
  | [], _, _ => ⟨rfl, rfl, rfl⟩
  | v :: r, o, w => by rw [World.setCells]; exact kept_setCells g r _ _
theorem compact_len (l : List Int) : (Lib.compact l).length ≤ l.length := by
  have := nLen_le ⟨0, [], l⟩ l.length
  have e := compact_dens ⟨0, [], l⟩
  simp only at e
  rw [e]; exact this
theorem compact_any (v : Value) (l : List Int) (W : World) (B : Nat) (ho : W.ownsRow B 3 1 v l.length (intsV l)) (hl : l.length ≤ 1000) :
    Calls Try.prog 78 #[v] W fun e w' => ∃ v', e = .returned v' ∧ w'.ownsRow B 3 1 v' (Lib.compact l).length (intsV (Lib.compact l)) ∧ W.grownBy w' v.ownBlock ∧ v'.ownBlock = v.ownBlock := by
  rcases ho.2 with ⟨rfl, hn⟩ | ⟨g, cap, cur, rfl, hg, hh, h1, h2, h3, h4⟩
  · obtain rfl : l = [] := List.eq_nil_of_length_eq_zero hn
    refine (Try.slices_Compact_int_empty none 0 W).mono ?_
    rintro e w' ⟨rfl, rfl⟩
    exact ⟨_, rfl, World.ownsRow_nil _ _ _ _, World.grownBy.refl _ _, rfl⟩
  · simp only [Nat.mul_one] at h3 h4
    have hcell : ∀ j, j < l.length → W.cell? ⟨g, 0 + j, none⟩ = some (.int .i64 (l.getD j 0)) := fun j hj => by
      rw [Nat.zero_add, cell_of_row _ _ _ _ _ _ hh, ← Array.getElem?_toList]
      have e : (cur.toList.take l.length)[j]? = (intsV l)[j]? := by rw [h4]
      rw [List.getElem?_take, if_pos hj] at e
      rw [e, intsV_at hj]; rfl
    have hfr : ∀ j, j < l.length → W.frozen? ⟨g, 0 + j, none⟩ = false := fun j _ => by rw [Nat.zero_add]; exact frozen_of_row _ _ _ _ _ hh
    refine (Try.slices_Compact_int_cells g 0 l.length cap l W (Nat.le_refl _) (by omega) h1 hcell hfr).mono ?_
    rintro e w' ⟨rfl, q, rfl⟩
    rw [List.take_length]
    have cl := compact_len l
    obtain ⟨vs, hvs⟩ : ∃ vs, vs = (Lib.compact l ++ List.replicate (l.length - (Lib.compact l).length) 0).map (Value.int .i64) := ⟨_, rfl⟩
    rw [← hvs]
    have hvl : vs.length = l.length := by rw [hvs]; simp; omega
    have hq : (W.drewN q).heap[g]? = some (.cells cur 3 (0, 0)) := hh
    refine ⟨_, rfl, ⟨by simp, Or.inr ⟨g, cap, _, rfl, hg, heap_setCells vs 0 _ cur hq, by omega, h2, by rw [setL_size]; omega, ?_⟩⟩, ?_, rfl⟩
    · apply List.ext_getElem?
      intro j
      rw [List.getElem?_take, Array.getElem?_toList, Nat.mul_one]
      by_cases hj : j < (Lib.compact l).length
      · rw [if_pos hj, setL_at _ _ _ _ (by omega), if_pos (by omega), hvs, Nat.sub_zero, List.map_append, List.getElem?_append_left (by simpa using hj)]
      · rw [if_neg hj, List.getElem?_eq_none (by simp; omega)]
    · have kp := kept_setCells g vs 0 (W.drewN q)
      refine ⟨kp.1, kp.2.1, kp.2.2, by rw [size_setCells_]; exact Nat.le_refl _, fun k hk hne => ?_⟩
      rw [heap_setCells_ne (fun e => hne (by rw [e]; rfl))]; rfl
end Go.Proofs.Ytgcbmnohhbcfiaa
