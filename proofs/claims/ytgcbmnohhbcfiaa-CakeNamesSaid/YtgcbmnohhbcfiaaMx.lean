/- Boxes and rows of the call's own. -/
import Derived.Test.YtgcbmnohhbcfiaaBx
import Derived.Test.YtgcbmnohhbcfiaaOwn
import Derived.Test.YtgcbmnohhbcfiaaFlowA
namespace Go.Proofs.Ytgcbmnohhbcfiaa
open Go.RowKit Go.Deep
set_option linter.unusedVariables false
set_option linter.unusedSimpArgs false

/-- A row: the slice, its elements' type and size, how many, its cells. -/
structure Rw where
  v : Value
  e : TypeId
  size : Nat
  n : Nat
  xs : List Value
structure Mx (w : World) (L : List (Nat × Obj)) (R : List Rw) (W : World) : Prop where
  bx : Bx w L W
  own : ∀ r, r ∈ R → W.ownsRow w.heap.size r.e r.size r.v r.n r.xs
  apart : ∀ r, r ∈ R → ∀ g, r.v.ownBlock = some g → g ∉ L.map (·.1)
  nd : (R.filterMap (·.v.ownBlock)).Nodup
theorem own_ge' {base : Nat} {wr : World} {e : TypeId} {v : Value} {n size : Nat} {xs : List Value} (h : wr.ownsRow base e size v n xs) : ∀ g, v.ownBlock = some g → base ≤ g ∧ g < wr.heap.size := by
  intro g e
  rcases h.2 with ⟨rfl, _⟩ | ⟨g', cap, cur, rfl, hg', hh, _⟩
  · simp [Value.ownBlock] at e
  · simp [Value.ownBlock] at e; subst e; exact ⟨hg', lt_some hh⟩
theorem ownsRow_block {base : Nat} {wr w1 : World} {e : TypeId} {v : Value} {n size : Nat} {xs : List Value} (h : wr.ownsRow base e size v n xs) (hk : ∀ g, v.ownBlock = some g → w1.heap[g]? = wr.heap[g]?) : w1.ownsRow base e size v n xs := by
  refine ⟨h.1, ?_⟩
  rcases h.2 with h2 | ⟨g, cap, cur, rfl, hg, hh, r⟩
  · exact Or.inl h2
  · exact Or.inr ⟨g, cap, cur, rfl, hg, by rw [hk g (by simp [Value.ownBlock])]; exact hh, r⟩
section
variable {w W W1 : World} {L : List (Nat × Obj)} {R : List Rw}
theorem Mx.of_bx (h : Bx w L W) : Mx w L [] W := ⟨h, fun _ h => by simp at h, fun _ h => by simp at h, by simp⟩
theorem Mx.below (h : Mx w L R W) : Below w.heap.size w W := h.bx.below
theorem Mx.row (h : Mx w L R W) (i : Nat) {r : Rw} (hi : R[i]? = some r) : W.ownsRow w.heap.size r.e r.size r.v r.n r.xs := h.own r (List.mem_of_getElem? hi)
theorem Mx.get (h : Mx w L R W) (i : Nat) {p : Nat × Obj} (hi : L[i]? = some p) : W.heap[p.1]? = some p.2 := h.bx.get i hi
theorem Mx.lt (h : Mx w L R W) (i : Nat) {p : Nat × Obj} (hi : L[i]? = some p) : p.1 < W.heap.size := h.bx.lt i hi
theorem Mx.le (h : Mx w L R W) (i : Nat) {p : Nat × Obj} (hi : L[i]? = some p) : w.heap.size ≤ p.1 := h.bx.le i hi
theorem Mx.ne (h : Mx w L R W) (i j : Nat) {p q : Nat × Obj} (hi : L[i]? = some p) (hj : L[j]? = some q) (hij : i ≠ j) : ¬ p.1 = q.1 := h.bx.ne i j hi hj hij
theorem Mx.next (h : Mx w L R W) (hb : Below W.heap.size W W1) : Mx w L R W1 :=
  ⟨h.bx.next hb, fun r hr => ownsRow_block (h.own r hr) (fun g hg => hb.block g (own_ge' (h.own r hr) g hg).2), h.apart, h.nd⟩
theorem Mx.drew (h : Mx w L R W) : Mx w L R W.drew := ⟨h.bx.drew, fun r hr => h.own r hr, h.apart, h.nd⟩
theorem Mx.drewN (h : Mx w L R W) (n : Nat) : Mx w L R (W.drewN n) := ⟨h.bx.drewN n, fun r hr => h.own r hr, h.apart, h.nd⟩
theorem Mx.new (h : Mx w L R W) {g : Nat} (hg : g = W.heap.size) (o : Obj) : Mx w ((g, o) :: L) R (W.alloc o) := by
  refine ⟨h.bx.new hg o, fun r hr => (ownsRow_block (h.own r hr) (fun g hg => Below.heap_alloc _ _ _ (own_ge' (h.own r hr) g hg).2)), fun r hr g' hg' hm => ?_, h.nd⟩
  have := (own_ge' (h.own r hr) g' hg').2
  rw [List.map_cons, List.mem_cons] at hm
  rcases hm with hm | hm
  · simp only at hm; omega
  · exact h.apart r hr g' hg' hm
theorem Mx.add {W0 : World} (h : Mx w L R W0) (hb : Below W0.heap.size W0 W) {g : Nat} {o : Obj} (hg : W0.heap.size ≤ g) (ho : W.heap[g]? = some o) : Mx w ((g, o) :: L) R W := by
  have k := h.next hb
  refine ⟨h.bx.add hb hg ho, k.own, fun r hr g' hg' hm => ?_, h.nd⟩
  have := (own_ge' (h.own r hr) g' hg').2
  rw [List.map_cons, List.mem_cons] at hm
  rcases hm with hm | hm
  · simp only at hm; omega
  · exact h.apart r hr g' hg' hm
theorem Mx.drop {p : Nat × Obj} (h : Mx w (p :: L) R W) : Mx w L R W := ⟨h.bx.drop, h.own, fun r hr g hg hm => h.apart r hr g hg (by rw [List.map_cons]; exact List.mem_cons_of_mem _ hm), h.nd⟩
theorem Mx.dropR {r : Rw} (h : Mx w L (r :: R) W) : Mx w L R W := by
  refine ⟨h.bx, fun q hq => h.own q (List.mem_cons_of_mem _ hq), fun q hq => h.apart q (List.mem_cons_of_mem _ hq), ?_⟩
  have := h.nd
  rw [List.filterMap_cons] at this
  split at this
  · exact this
  · exact (List.nodup_cons.1 this).2
theorem Mx.set (h : Mx w L R W) (i : Nat) {g : Nat} {cs : Array Value} {t : TypeId} (hi : L[i]? = some (g, .cells cs t)) (j : Nat) (u : Value) : Mx w (L.set i (g, .cells (cs.setIfInBounds j u) t)) R (W.setCell ⟨g, j, none⟩ u) := by
  have hm : g ∈ L.map (·.1) := List.mem_map.2 ⟨_, List.mem_of_getElem? hi, rfl⟩
  refine ⟨h.bx.set i hi j u, fun r hr => ownsRow_block (h.own r hr) (fun g' hg' => heap_set_ne (fun e => by subst e; exact h.apart r hr g' hg' hm)), fun r hr g' hg' => ?_, h.nd⟩
  rw [setNodup (f := fun x : Nat × Obj => x.1) (a := (g, Obj.cells cs t)) (b := (g, Obj.cells (cs.setIfInBounds j u) t)) rfl L i hi]
  exact h.apart r hr g' hg'
theorem Mx.put (h : Mx w L R W) (i : Nat) {g : Nat} {r0 : Rt} (hi : L[i]? = some (g, rB r0)) (r : Rt) : Mx w (L.set i (g, rB r)) R ((W.setCell ⟨g, 0, none⟩ (.int .i64 r.n)).setCell ⟨g, 1, none⟩ (.int .i64 r.d)) := by
  have a := h.set i hi 0 (.int .i64 r.n)
  have hlt : i < L.length := by
    rcases Nat.lt_or_ge i L.length with q | q
    · exact q
    · rw [List.getElem?_eq_none q] at hi; cases hi
  have b := a.set i (List.getElem?_set_self hlt) 1 (.int .i64 r.d)
  rw [List.set_set] at b
  exact b
/-- A row that is not there yet. -/
theorem Mx.nil (h : Mx w L R W) (e : TypeId) (size : Nat) : Mx w L (⟨.slice none 0 0, e, size, 0, []⟩ :: R) W := by
  refine ⟨h.bx, fun r hr => ?_, fun r hr g hg => ?_, ?_⟩
  · rcases List.mem_cons.1 hr with rfl | hr
    · exact ⟨by simp, Or.inl ⟨rfl, rfl⟩⟩
    · exact h.own r hr
  · rcases List.mem_cons.1 hr with rfl | hr
    · simp [Value.ownBlock] at hg
    · exact h.apart r hr g hg
  · rw [List.filterMap_cons]; simpa [Value.ownBlock] using h.nd
/-- A row that was made since. -/
theorem Mx.addR {W0 : World} (h : Mx w L R W0) (hb : Below W0.heap.size W0 W) (r : Rw) (ho : W.ownsRow W0.heap.size r.e r.size r.v r.n r.xs) : Mx w L (r :: R) W := by
  have k := h.next hb
  have ge := own_ge' ho
  refine ⟨k.bx, fun q hq => ?_, fun q hq g hg => ?_, ?_⟩
  · rcases List.mem_cons.1 hq with rfl | hq
    · refine ⟨ho.1, ?_⟩
      rcases ho.2 with h2 | ⟨g, cap, cur, e, hg, r⟩
      · exact Or.inl h2
      · exact Or.inr ⟨g, cap, cur, e, Nat.le_trans h.bx.below.size hg, r⟩
    · exact k.own q hq
  · rcases List.mem_cons.1 hq with rfl | hq
    · intro hm
      obtain ⟨p, hp, e⟩ := List.mem_map.1 hm
      have := lt_some (h.bx.at_ p hp)
      have := (ge g hg).1
      have e : p.1 = g := e
      omega
    · exact k.apart q hq g hg
  · rw [List.filterMap_cons]
    cases hv : r.v.ownBlock with
    | none => exact h.nd
    | some g =>
      simp only
      rw [List.nodup_cons]
      refine ⟨fun hm => ?_, h.nd⟩
      obtain ⟨q, hq, e⟩ := List.mem_filterMap.1 hm
      have := (own_ge' (h.own q hq) g e).2
      have := (ge g hv).1
      omega
theorem filterMap_nodup_ne {α : Type} {f : α → Option Nat} : ∀ {l : List α} {i j : Nat} {a b : α} {g : Nat}, (l.filterMap f).Nodup → l[i]? = some a → l[j]? = some b → i ≠ j → f a = some g → f b = some g → False
  | [], i, j, a, b, g, _, hi, _, _, _, _ => by simp at hi
  | x :: l, i, j, a, b, g, hn, hi, hj, hij, ha, hb => by
    rw [List.filterMap_cons] at hn
    match i, j with
    | 0, 0 => exact hij rfl
    | 0, j + 1 =>
      have : x = a := by simpa using hi
      subst this
      rw [ha] at hn
      exact (List.nodup_cons.1 hn).1 (List.mem_filterMap.2 ⟨b, List.mem_of_getElem? (by simpa using hj), hb⟩)
    | i + 1, 0 =>
      have : x = b := by simpa using hj
      subst this
      rw [hb] at hn
      exact (List.nodup_cons.1 hn).1 (List.mem_filterMap.2 ⟨a, List.mem_of_getElem? (by simpa using hi), ha⟩)
    | i + 1, j + 1 =>
      have hn' : (l.filterMap f).Nodup := by
        split at hn
        · exact hn
        · exact (List.nodup_cons.1 hn).2
      exact filterMap_nodup_ne hn' (by simpa using hi) (by simpa using hj) (by omega) ha hb
/-- A row has grown: in place, or into a new block. -/
theorem Mx.grow (h : Mx w L R W) (i : Nat) {r : Rw} (hi : R[i]? = some r) {v' : Value} {n' : Nat} {xs' : List Value} (hg : W.grownBy W1 r.v.ownBlock) (ho : W1.ownsRow w.heap.size r.e r.size v' n' xs')
    (hat : v'.ownBlock = r.v.ownBlock ∨ v'.ownBlock = some W.heap.size) : Mx w L (R.set i ⟨v', r.e, r.size, n', xs'⟩) W1 := by
  have hr := h.own r (List.mem_of_getElem? hi)
  have hilt : i < R.length := by
    rcases Nat.lt_or_ge i R.length with q | q
    · exact q
    · rw [List.getElem?_eq_none q] at hi; cases hi
  have keep : ∀ k q, R[k]? = some q → k ≠ i → W1.ownsRow w.heap.size q.e q.size q.v q.n q.xs := fun k q hk hki => by
    have hq := h.own q (List.mem_of_getElem? hk)
    refine ownsRow_block hq (fun g hgq => hg.block g (own_ge' hq g hgq).2 (fun e => ?_))
    exact filterMap_nodup_ne h.nd hk hi hki hgq e.symm
  refine ⟨⟨h.bx.below.grown hg h.bx.below.size (fun g e => (own_ge' hr g e).1), h.bx.own, h.bx.nd, fun p hp => ?_⟩, fun q hq => ?_, fun q hq g hgq => ?_, ?_⟩
  · have hlt := lt_some (h.bx.at_ p hp)
    rw [hg.block p.1 hlt (fun e => h.apart r (List.mem_of_getElem? hi) p.1 e.symm (List.mem_map.2 ⟨p, hp, rfl⟩))]
    exact h.bx.at_ p hp
  · obtain ⟨k, hk⟩ := List.mem_iff_getElem?.1 hq
    by_cases e : k = i
    · subst e
      rw [List.getElem?_set_self hilt] at hk
      obtain rfl : (⟨v', r.e, r.size, n', xs'⟩ : Rw) = q := by simpa using hk
      exact ho
    · rw [List.getElem?_set_ne (Ne.symm e)] at hk
      exact keep k q hk e
  · obtain ⟨k, hk⟩ := List.mem_iff_getElem?.1 hq
    by_cases e : k = i
    · subst e
      rw [List.getElem?_set_self hilt] at hk
      obtain rfl : (⟨v', r.e, r.size, n', xs'⟩ : Rw) = q := by simpa using hk
      rcases hat with hat | hat
      · exact h.apart r (List.mem_of_getElem? hi) g (by rw [← hat]; exact hgq)
      · intro hm
        obtain ⟨p, hp, ep⟩ := List.mem_map.1 hm
        have := lt_some (h.bx.at_ p hp)
        have hgq : v'.ownBlock = some g := hgq
        rw [hat] at hgq
        injection hgq with hgq
        have ep : p.1 = g := ep
        omega
    · rw [List.getElem?_set_ne (Ne.symm e)] at hk
      exact h.apart q (List.mem_of_getElem? hk) g hgq
  · have key : ∀ (l : List Rw) (i : Nat), l[i]? = some r → (l.filterMap (·.v.ownBlock)).Nodup → (∀ q, q ∈ l → ∀ g, q.v.ownBlock = some g → g < W.heap.size) → ((l.set i ⟨v', r.e, r.size, n', xs'⟩).filterMap (·.v.ownBlock)).Nodup := by
      intro l
      induction l with
      | nil => intro i hi; simp at hi
      | cons x l ih =>
        intro i hi hn hlt
        rw [List.filterMap_cons] at hn
        have hn' : (l.filterMap (·.v.ownBlock)).Nodup := by
          split at hn
          · exact hn
          · exact (List.nodup_cons.1 hn).2
        match i with
        | 0 =>
          have : x = r := by simpa using hi
          subst this
          rw [List.set_cons_zero, List.filterMap_cons]
          rcases hat with hat | hat
          · simp only [hat]; exact hn
          · simp only [hat]
            rw [List.nodup_cons]
            refine ⟨fun hm => ?_, hn'⟩
            obtain ⟨q, hq, e⟩ := List.mem_filterMap.1 hm
            have := hlt q (List.mem_cons_of_mem _ hq) _ e
            omega
        | i + 1 =>
          rw [List.set_cons_succ, List.filterMap_cons]
          have hk := ih i (by simpa using hi) hn' (fun q hq => hlt q (List.mem_cons_of_mem _ hq))
          cases hx : x.v.ownBlock with
          | none => exact hk
          | some gx =>
            simp only
            rw [hx] at hn
            rw [List.nodup_cons]
            refine ⟨fun hm => ?_, hk⟩
            obtain ⟨q, hq, e⟩ := List.mem_filterMap.1 hm
            obtain ⟨k, hkq⟩ := List.mem_iff_getElem?.1 hq
            have hil : i < l.length := by
              rcases Nat.lt_or_ge i l.length with q | q
              · exact q
              · have : l[i]? = some r := by simpa using hi
                rw [List.getElem?_eq_none q] at this; cases this
            by_cases ek : k = i
            · subst ek
              rw [List.getElem?_set_self hil] at hkq
              obtain rfl : (⟨v', r.e, r.size, n', xs'⟩ : Rw) = q := by simpa using hkq
              have e : v'.ownBlock = some gx := e
              rcases hat with hat | hat
              · rw [hat] at e
                exact (List.nodup_cons.1 hn).1 (List.mem_filterMap.2 ⟨r, List.mem_of_getElem? (by simpa using hi), e⟩)
              · rw [hat] at e
                injection e with e
                have := hlt x (by simp) gx hx
                omega
            · rw [List.getElem?_set_ne (Ne.symm ek)] at hkq
              exact (List.nodup_cons.1 hn).1 (List.mem_filterMap.2 ⟨q, List.mem_of_getElem? hkq, e⟩)
    exact key R i hi h.nd (fun q hq g hgq => (own_ge' (h.own q hq) g hgq).2)
end
end Go.Proofs.Ytgcbmnohhbcfiaa
