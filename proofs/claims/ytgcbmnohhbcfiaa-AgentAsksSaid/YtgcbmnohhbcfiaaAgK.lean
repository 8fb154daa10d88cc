/- Boxes and rows, and what hangs on none of them. -/
import Derived.Test.YtgcbmnohhbcfiaaCn1
import Derived.Test.YtgcbmnohhbcfiaaAgO
namespace Go.Proofs.Ytgcbmnohhbcfiaa
open Go.RowKit Go.Deep
set_option linter.unusedVariables false
set_option linter.unusedSimpArgs false

def rowsB (L : List (Nat × Obj)) (R : List Rw) : List Nat := L.map (·.1) ++ R.filterMap (·.v.ownBlock)
theorem rowsB_box {L : List (Nat × Obj)} {R : List Rw} {i : Nat} {p : Nat × Obj} (h : L[i]? = some p) : p.1 ∈ rowsB L R := List.mem_append_left _ (List.mem_map.2 ⟨p, List.mem_of_getElem? h, rfl⟩)
theorem rowsB_row {L : List (Nat × Obj)} {R : List Rw} {i g : Nat} {r : Rw} (h : R[i]? = some r) (hg : r.v.ownBlock = some g) : g ∈ rowsB L R := List.mem_append_right _ (List.mem_filterMap.2 ⟨r, List.mem_of_getElem? h, hg⟩)
theorem Mx.lt_rows {w W : World} {L : List (Nat × Obj)} {R : List Rw} (h : Mx w L R W) : ∀ g, g ∈ rowsB L R → g < W.heap.size := by
  intro g hg
  rcases List.mem_append.1 hg with q | q
  · obtain ⟨p, hp, rfl⟩ := List.mem_map.1 q
    exact lt_some (h.bx.at_ p hp)
  · obtain ⟨r, hr, e⟩ := List.mem_filterMap.1 q
    exact (own_ge' (h.own r hr) g e).2
theorem own_someA {B : Nat} {w : World} {e : TypeId} {A : Option Addr} {c n size : Nat} {xs : List Value} (h : w.ownsRow B e size (.slice A n c) n xs) (hn : 0 < n) : ∃ g, A = some ⟨g, 0, none⟩ := by
  rcases h.2 with ⟨e, _⟩ | ⟨g, cap, cur, e, _⟩
  · obtain ⟨_, rfl, _⟩ := Value.slice.inj e; omega
  · obtain ⟨rfl, _, _⟩ := Value.slice.inj e; exact ⟨g, rfl⟩
theorem Mx.setRowA {w W : World} {L : List (Nat × Obj)} {R : List Rw} {g n cap size : Nat} {e : TypeId} {xs : List Value} (h : Mx w L R W) (i : Nat) (hi : R[i]? = some ⟨.slice (some ⟨g, 0, none⟩) n cap, e, size, n, xs⟩) (j : Nat) (u : Value) :
    Mx w L (R.set i ⟨.slice (some ⟨g, 0, none⟩) n cap, e, size, n, xs.set j u⟩) (W.setCell ⟨g, j, none⟩ u) :=
  have s := (h.row i hi).stored j u
  h.grow i hi s.2 s.1 (Or.inl rfl)
structure Ms (F : World → Prop) (w : World) (L : List (Nat × Obj)) (R : List Rw) (W : World) : Prop where
  mx : Mx w L R W
  sep : Sep w.heap.size W (rowsB L R) F
section
variable {F G : World → Prop} {w W W1 W0 : World} {L : List (Nat × Obj)} {R : List Rw}
theorem Ms.of_mx (h : Mx w L R W) (hF : ∀ V, F V) : Ms F w L R W := ⟨h, fun V _ _ => hF V⟩
theorem Ms.below (h : Ms F w L R W) : Below w.heap.size w W := h.mx.below
theorem Ms.here (h : Ms F w L R W) : F W := h.sep.here
theorem Ms.imp (h : Ms F w L R W) (hi : ∀ V, F V → G V) : Ms G w L R W := ⟨h.mx, h.sep.imp hi⟩
theorem Ms.row (h : Ms F w L R W) (i : Nat) {r : Rw} (hi : R[i]? = some r) : W.ownsRow w.heap.size r.e r.size r.v r.n r.xs := h.mx.row i hi
theorem Ms.get (h : Ms F w L R W) (i : Nat) {p : Nat × Obj} (hi : L[i]? = some p) : W.heap[p.1]? = some p.2 := h.mx.get i hi
theorem Ms.lt (h : Ms F w L R W) (i : Nat) {p : Nat × Obj} (hi : L[i]? = some p) : p.1 < W.heap.size := h.mx.lt i hi
theorem Ms.keep (h : Ms F w L R W) {L' : List (Nat × Obj)} (hs : L'.Sublist L) : Bx w L' W := h.mx.keep hs
theorem Ms.next (h : Ms F w L R W) (hb : Below W.heap.size W W1) : Ms F w L R W1 := ⟨h.mx.next hb, h.sep.next hb⟩
theorem Ms.drew (h : Ms F w L R W) : Ms F w L R W.drew := ⟨h.mx.drew, fun V a b => h.sep V a b⟩
/-- What a call has left, on which nothing of the rest hangs. -/
theorem Ms.call (h : Ms F w L R W0) (hb : Below W0.heap.size W0 W) (hG : Fresh W0.heap.size W G) : Ms (fun V => F V ∧ G V) w L R W := by
  refine ⟨h.mx.next hb, fun V h1 h2 => ⟨(h.sep.next hb) V h1 h2, hG V h1 (fun g h3 h4 => h2 g (Nat.le_trans h.below.size h3) h4 (fun hm => ?_))⟩⟩
  have := h.mx.lt_rows g hm
  omega
theorem Ms.new (h : Ms F w L R W) {g : Nat} (hg : g = W.heap.size) (o : Obj) : Ms F w ((g, o) :: L) R (W.alloc o) := by
  refine ⟨h.mx.new hg o, h.sep.step (one_alloc W o).size (fun m _ hm _ => (one_alloc W o).block m hm) (fun m hm => ?_)⟩
  rcases List.mem_append.1 hm with q | q
  · rw [List.map_cons] at q
    rcases List.mem_cons.1 q with q | q
    · right; rw [q]; simp only; omega
    · exact Or.inl (List.mem_append_left _ q)
  · exact Or.inl (List.mem_append_right _ q)
theorem Ms.subl (h : Ms F w L R W) {L' : List (Nat × Obj)} (hs : L'.Sublist L) : Ms F w L' R W := by
  refine ⟨⟨h.mx.keep hs, h.mx.own, fun r hr g hg hm => h.mx.apart r hr g hg ((hs.map _).subset hm), h.mx.nd⟩, h.sep.less (fun m hm => ?_)⟩
  rcases List.mem_append.1 hm with q | q
  · exact List.mem_append_left _ ((hs.map _).subset q)
  · exact List.mem_append_right _ q
theorem Ms.drop {p : Nat × Obj} (h : Ms F w (p :: L) R W) : Ms F w L R W := h.subl (List.sublist_cons_self _ _)
theorem Ms.set (h : Ms F w L R W) (i : Nat) {g : Nat} {cs : Array Value} {t : TypeId} (hi : L[i]? = some (g, .cells cs t)) (j : Nat) (u : Value) : Ms F w (L.set i (g, .cells (cs.setIfInBounds j u) t)) R (W.setCell ⟨g, j, none⟩ u) := by
  refine ⟨h.mx.set i hi j u, h.sep.step (by simp) (fun m _ hm hx => heap_set_ne (fun q => hx (by subst q; exact rowsB_box hi))) (fun m hm => Or.inl ?_)⟩
  have e := setNodup (f := fun x : Nat × Obj => x.1) (a := (g, Obj.cells cs t)) (b := (g, Obj.cells (cs.setIfInBounds j u) t)) rfl L i hi
  unfold rowsB at hm ⊢
  rwa [e] at hm
theorem set_lt {α : Type} {l : List α} {i : Nat} {a : α} (h : l[i]? = some a) : i < l.length := by
  rcases Nat.lt_or_ge i l.length with q | q
  · exact q
  · rw [List.getElem?_eq_none q] at h; cases h
theorem Ms.put2 (h : Ms F w L R W) (i : Nat) {g : Nat} {x y : Value} {t : TypeId} (hi : L[i]? = some (g, .cells #[x, y] t)) (a c : Value) : Ms F w (L.set i (g, .cells #[a, c] t)) R ((W.setCell ⟨g, 0, none⟩ a).setCell ⟨g, 1, none⟩ c) := by
  have b := (h.set i hi 0 a).set i (List.getElem?_set_self (set_lt hi)) 1 c
  rw [List.set_set] at b
  exact b
theorem Ms.put (h : Ms F w L R W) (i : Nat) {g : Nat} {r0 : Rt} (hi : L[i]? = some (g, rB r0)) (r : Rt) : Ms F w (L.set i (g, rB r)) R ((W.setCell ⟨g, 0, none⟩ (.int .i64 r.n)).setCell ⟨g, 1, none⟩ (.int .i64 r.d)) := h.put2 i hi _ _
theorem Ms.put3 (h : Ms F w L R W) (i : Nat) {g : Nat} {cs : Array Value} {t : TypeId} (hi : L[i]? = some (g, .cells cs t)) (j : Nat) (a b c : Value) :
    Ms F w (L.set i (g, .cells (((cs.setIfInBounds j a).setIfInBounds (j + 1) b).setIfInBounds (j + 2) c) t)) R (((W.setCell ⟨g, j, none⟩ a).setCell ⟨g, j + 1, none⟩ b).setCell ⟨g, j + 2, none⟩ c) := by
  have k := ((h.set i hi j a).set i (List.getElem?_set_self (set_lt hi)) (j + 1) b)
  rw [List.set_set] at k
  have k2 := k.set i (List.getElem?_set_self (set_lt hi)) (j + 2) c
  rw [List.set_set] at k2
  exact k2
theorem Ms.nil (h : Ms F w L R W) (e : TypeId) (size : Nat) : Ms F w L (⟨.slice none 0 0, e, size, 0, []⟩ :: R) W := ⟨h.mx.nil e size, h.sep.less (fun m hm => by
  rcases List.mem_append.1 hm with q | q
  · exact List.mem_append_left _ q
  · obtain ⟨r', hr, e⟩ := List.mem_filterMap.1 q
    rcases List.mem_cons.1 hr with rfl | hr
    · simp [Value.ownBlock] at e
    · exact List.mem_append_right _ (List.mem_filterMap.2 ⟨r', hr, e⟩))⟩
theorem Ms.addR (h : Ms F w L R W0) (hb : Below W0.heap.size W0 W) (r : Rw) (ho : W.ownsRow W0.heap.size r.e r.size r.v r.n r.xs) : Ms F w L (r :: R) W := by
  refine ⟨h.mx.addR hb r ho, h.sep.step hb.size (fun m _ hm _ => hb.block m hm) (fun m hm => ?_)⟩
  rcases List.mem_append.1 hm with q | q
  · exact Or.inl (List.mem_append_left _ q)
  · obtain ⟨r', hr, e⟩ := List.mem_filterMap.1 q
    rcases List.mem_cons.1 hr with rfl | hr
    · exact Or.inr (own_ge' ho m e).1
    · exact Or.inl (List.mem_append_right _ (List.mem_filterMap.2 ⟨r', hr, e⟩))
theorem Ms.grow (h : Ms F w L R W) (i : Nat) {r : Rw} (hi : R[i]? = some r) {v' : Value} {n' : Nat} {xs' : List Value} (hg : W.grownBy W1 r.v.ownBlock) (ho : W1.ownsRow w.heap.size r.e r.size v' n' xs')
    (hat : v'.ownBlock = r.v.ownBlock ∨ v'.ownBlock = some W.heap.size) : Ms F w L (R.set i ⟨v', r.e, r.size, n', xs'⟩) W1 := by
  refine ⟨h.mx.grow i hi hg ho hat, h.sep.step hg.size (fun m _ hm hx => hg.block m hm (fun e => hx (rowsB_row hi e.symm))) (fun m hm => ?_)⟩
  rcases List.mem_append.1 hm with q | q
  · exact Or.inl (List.mem_append_left _ q)
  · obtain ⟨r', hr, e⟩ := List.mem_filterMap.1 q
    rcases List.mem_or_eq_of_mem_set hr with hr | rfl
    · exact Or.inl (List.mem_append_right _ (List.mem_filterMap.2 ⟨r', hr, e⟩))
    · have e : v'.ownBlock = some m := e
      rcases hat with q | q
      · exact Or.inl (rowsB_row hi (by rw [← q]; exact e))
      · rw [q] at e; exact Or.inr (by have := Option.some.inj e; omega)
theorem Ms.setRow {g n cap size : Nat} {e : TypeId} {xs : List Value} (h : Ms F w L R W) (i : Nat) (hi : R[i]? = some ⟨.slice (some ⟨g, 0, none⟩) n cap, e, size, n, xs⟩) (j : Nat) (u : Value) :
    Ms F w L (R.set i ⟨.slice (some ⟨g, 0, none⟩) n cap, e, size, n, xs.set j u⟩) (W.setCell ⟨g, j, none⟩ u) :=
  have s := (h.row i hi).stored j u
  h.grow i hi s.2 s.1 (Or.inl rfl)
theorem Ms.rowAt {g n cap size : Nat} {e : TypeId} {xs : List Value} (h : Ms F w L R W) (i : Nat) (hi : R[i]? = some ⟨.slice (some ⟨g, 0, none⟩) n cap, e, size, n, xs⟩) :
    (∀ j u, j < n * size → xs[j]? = some u → W.cell? ⟨g, j, none⟩ = some u) ∧ (∀ j, W.frozen? ⟨g, j, none⟩ = false) ∧ g < W.heap.size :=
  ⟨fun j u hj hu => ((h.row i hi).cellAt j hj).trans hu, fun j => (h.row i hi).frozenAt j, (own_ge' (h.row i hi) g rfl).2⟩
end
/-- The elements of a row. -/
def Lay {α : Type} (k : Kd α) (w : World) (l : List α) (xs : List Value) : Prop := ∀ i a, l[i]? = some a → ∃ vs, k.El w a vs ∧ ∀ j u, vs[j]? = some u → xs[i * k.s + j]? = some u
theorem Lay.nil {α : Type} (k : Kd α) (w : World) : Lay k w [] [] := fun i a h => by simp at h
theorem Lay.add {α : Type} {k : Kd α} {w : World} {l : List α} {xs vs : List Value} {a : α} (h : Lay k w l xs) (hx : xs.length = l.length * k.s) (hv : k.El w a vs) : Lay k w (l ++ [a]) (xs ++ vs) := by
  intro i b hi
  by_cases h1 : i < l.length
  · rw [List.getElem?_append_left h1] at hi
    obtain ⟨us, h3, h2⟩ := h i b hi
    refine ⟨us, h3, fun j u hu => ?_⟩
    have := h2 j u hu
    have hlt : i * k.s + j < xs.length := by
      rcases Nat.lt_or_ge (i * k.s + j) xs.length with q | q
      · exact q
      · rw [List.getElem?_eq_none q] at this; cases this
    rw [List.getElem?_append_left hlt]; exact this
  · rw [List.getElem?_append_right (by omega)] at hi
    have h0 : i - l.length = 0 := by
      rcases Nat.eq_zero_or_pos (i - l.length) with q | q
      · exact q
      · rw [List.getElem?_eq_none (by simp; omega)] at hi; cases hi
    rw [h0] at hi
    obtain rfl : a = b := by simpa using hi
    obtain rfl : i = l.length := by omega
    refine ⟨vs, hv, fun j u hu => ?_⟩
    rw [← hx, List.getElem?_append_right (by omega), Nat.add_sub_cancel_left]; exact hu
theorem Lay.in_ {α : Type} {k : Kd α} {B : Nat} {w W : World} {v : Value} {l : List α} {xs : List Value} (h : Lay k w l xs) (hb : Below w.heap.size w W) (ho : W.ownsRow B k.t k.s v l.length xs) : ∃ A c, v = .slice A l.length c ∧ RIn k W.heap.size W A c l := by
  rcases ho.2 with ⟨rfl, h0⟩ | ⟨g, cap, cur, rfl, hg, hh, h1, h2, h3, h4⟩
  · have : l = [] := List.eq_nil_of_length_eq_zero h0
    subst this
    exact ⟨none, 0, rfl, RIn.nil _ _⟩
  · refine ⟨_, cap, rfl, fun i a hi => ?_, h1, h2⟩
    obtain ⟨vs, h6, h5⟩ := h i a hi
    refine ⟨_, vs, rfl, lt_some hh, k.next h6 hb, fun j u hu => ?_⟩
    have e := h5 j u hu
    have hlt : i * k.s + j < l.length * k.s := by
      rw [← ho.1]
      rcases Nat.lt_or_ge (i * k.s + j) xs.length with q | q
      · exact q
      · rw [List.getElem?_eq_none q] at e; cases e
    rw [add_mk, Nat.zero_add, cell_of_row _ _ _ _ _ _ hh]
    rw [← h4, List.getElem?_take, if_pos hlt] at e
    simpa using e
/-- One element of a row is put anew. -/
theorem Lay.setAt {α : Type} {k : Kd α} {w : World} {l : List α} {xs ys vs : List Value} {i : Nat} {a : α} (h : Lay k w l xs) (hi : i < l.length) (hv : k.El w a vs) (h1 : ∀ j u, vs[j]? = some u → ys[i * k.s + j]? = some u) (h2 : ∀ m, (m < i * k.s ∨ i * k.s + k.s ≤ m) → ys[m]? = xs[m]?) : Lay k w (l.set i a) ys := by
  intro j b hj
  by_cases e : j = i
  · subst e
    rw [List.getElem?_set_self hi] at hj
    obtain rfl := Option.some.inj hj
    exact ⟨vs, hv, h1⟩
  · rw [List.getElem?_set_ne (Ne.symm e)] at hj
    obtain ⟨us, p2, p1⟩ := h j b hj
    refine ⟨us, p2, fun m u hu => ?_⟩
    have hm : m < k.s := by
      rw [← k.wide p2]
      rcases Nat.lt_or_ge m us.length with q | q
      · exact q
      · rw [List.getElem?_eq_none q] at hu; cases hu
    rw [h2 _ ?_]
    · exact p1 m u hu
    · rcases Nat.lt_or_gt_of_ne e with q | q
      · left
        have : (j + 1) * k.s ≤ i * k.s := Nat.mul_le_mul_right _ q
        rw [Nat.succ_mul] at this; omega
      · right
        have : (i + 1) * k.s ≤ j * k.s := Nat.mul_le_mul_right _ q
        rw [Nat.succ_mul] at this; omega
/-- What isn't frozen: the densities of an actor of the call's own. -/
def Unf (K : Ck) (R : Option Addr) (V : World) : Prop := ∀ ad, R = some ad → ∀ k, k < K.dens.length → V.frozen? (ad.add k) = false
theorem frozen_block {V W : World} {a : Addr} (h : W.heap[a.block]? = V.heap[a.block]?) : W.frozen? a = V.frozen? a := by unfold World.frozen?; rw [h]
theorem Unf.next {K : Ck} {A R : Option Addr} {c d : Nat} {V W : World} (h : Unf K R V) (hC : CIn V.heap.size V A c R d K) (hb : Below V.heap.size V W) : Unf K R W := fun ad e k hk => by
  obtain ⟨ad', e', hB, _⟩ := hC.dens.at_ hk
  rw [e] at e'
  obtain rfl := Option.some.inj e'
  rw [frozen_block (hb.block _ (by rw [block_add]; exact hB))]
  exact h ad e k hk
def acElU (w : World) (a : Ac) (vs : List Value) : Prop := ∃ A c R d A' c' R' d', vs = acL a A c R d A' c' R' d' ∧ CIn w.heap.size w A c R d a.own ∧ CIn w.heap.size w A' c' R' d' a.told ∧ a.wf ∧ Unf a.own R w
def kAcU : Kd Ac := ⟨116, 8, acElU, by decide, fun h => by obtain ⟨A, c, R, d, A', c', R', d', rfl, _⟩ := h; rfl,
  fun h hb => by obtain ⟨A, c, R, d, A', c', R', d', e, h1, h2, h3, h4⟩ := h; exact ⟨A, c, R, d, A', c', R', d', e, h1.next hb, h2.next hb, h3, h4.next h1 hb⟩⟩
theorem Lay.plain {V : World} {acs : List Ac} {xs : List Value} (h : Lay kAcU V acs xs) : Lay kAc V acs xs := fun i a hi => by
  obtain ⟨vs, ⟨A, c, R, d, A', c', R', d', e, h1, h2, h3, _⟩, hv⟩ := h i a hi
  exact ⟨vs, ⟨A, c, R, d, A', c', R', d', e, h1, h2, h3⟩, hv⟩
/-- An actor that was asked once more. -/
theorem Lay.more {w : World} {acs : List Ac} {xs : List Value} {i : Nat} {a : Ac} (h : Lay kAcU w acs xs) (hx : xs.length = acs.length * 8) (hi : acs[i]? = some a) (h1 : a.asked + 1 ≤ 9223372036854775807) : Lay kAcU w (acs.set i a.more) (xs.set (i * 8 + 7) (.int .i64 (a.asked + 1))) := by
  obtain ⟨vs, ⟨A, c, R, d, A', c', R', d', rfl, hC, hC', hw, hu_⟩, hv⟩ := h i a hi
  have hl := set_lt hi
  have hb : (i + 1) * 8 ≤ acs.length * 8 := Nat.mul_le_mul_right _ hl
  refine h.setAt (vs := acL a.more A c R d A' c' R' d') hl ⟨A, c, R, d, A', c', R', d', rfl, hC, hC', ⟨hw.a0, hw.a1, by show _ ≤ a.asked + 1; have := hw.k0; omega, h1⟩, hu_⟩ (fun j u hu => ?_) (fun m hm => ?_)
  · show (xs.set (i * 8 + 7) _)[i * 8 + j]? = some u
    by_cases q : j = 7
    · subst q
      rw [List.getElem?_set_self (by omega)]
      obtain rfl : Value.int .i64 (a.asked + 1) = u := by simpa [Ac.more] using hu
      rfl
    · rw [List.getElem?_set_ne (by omega)]
      refine hv j u ?_
      rw [← hu]
      match j, q with
      | 0, _ => rfl
      | 1, _ => rfl
      | 2, _ => rfl
      | 3, _ => rfl
      | 4, _ => rfl
      | 5, _ => rfl
      | 6, _ => rfl
      | j + 8, _ => rfl
  · have hm : m < i * 8 ∨ i * 8 + 8 ≤ m := hm
    rw [List.getElem?_set_ne (by omega)]
/-- A meeting of the call's own: two rows. -/
structure MtOwn (w : World) (va vl : Value) (m : Mt) (L : List (Nat × Obj)) (W : World) : Prop where
  ms : ∃ xs, Ms (fun V => Lay kAcU V m.acs xs) w L [⟨va, 116, 8, m.acs.length, xs⟩, ⟨vl, 84, 8, m.log.length, lgV m.log⟩] W
  wf : ∀ q, q ∈ m.log → q.wf
theorem MtOwn.below {w W : World} {va vl : Value} {m : Mt} {L : List (Nat × Obj)} (h : MtOwn w va vl m L W) : Below w.heap.size w W := h.ms.elim (fun _ k => k.below)
theorem MtOwn.next {w W W1 : World} {va vl : Value} {m : Mt} {L : List (Nat × Obj)} (h : MtOwn w va vl m L W) (hb : Below W.heap.size W W1) : MtOwn w va vl m L W1 := ⟨h.ms.imp (fun _ k => k.next hb), h.wf⟩
theorem MtOwn.subl {w W : World} {va vl : Value} {m : Mt} {L L' : List (Nat × Obj)} (h : MtOwn w va vl m L W) (hs : L'.Sublist L) : MtOwn w va vl m L' W := ⟨h.ms.imp (fun _ k => k.subl hs), h.wf⟩
/-- It hangs on nothing but what was made since. -/
theorem MtOwn.fresh {w W : World} {va vl : Value} {m : Mt} {L : List (Nat × Obj)} (h : MtOwn w va vl m L W) : ∃ P cp S cs, va = .slice P m.acs.length cp ∧ vl = .slice S m.log.length cs ∧ Fresh w.heap.size W (fun V => AsIn V.heap.size V P cp m.acs ∧ LgIn V.heap.size V S cs m.log) := by
  obtain ⟨⟨xs, hm⟩, hw⟩ := h
  have o1 := hm.row 0 rfl
  have o2 := hm.row 1 rfl
  obtain ⟨S, cs, rfl, f2⟩ := LgIn.of_own o2 hw
  obtain ⟨P, cp, e, _⟩ := (hm.here).plain.in_ (Below.refl _ _) o1
  obtain rfl : va = _ := e
  refine ⟨P, cp, S, cs, rfl, rfl, fun V hs hk => ⟨?_, f2 V hs hk⟩⟩
  have p1 : V.ownsRow w.heap.size 116 8 (.slice P m.acs.length cp) m.acs.length xs := ownsRow_block o1 (fun g e => hk g (own_ge' o1 g e).1 (own_ge' o1 g e).2)
  have hF := hm.sep V hs (fun g h1 h2 _ => hk g h1 h2)
  obtain ⟨P', cp', e', hr⟩ := hF.plain.in_ (Below.refl _ _) p1
  obtain ⟨rfl, _, rfl⟩ := Value.slice.inj e'
  exact hr
/-- What hangs on the call's own alone: for a caller. -/
def MtRes (m : Mt) (w : World) (va vl : Value) (w' : World) : Prop := MtOwn w va vl m [] w'
theorem KOwn.mono {B B' : Nat} {w : World} {u v : Value} {K : Ck} (h : KOwn B w u v K) (hB : B' ≤ B) : KOwn B' w u v K :=
  ⟨⟨h.cu.1, h.cu.2.imp id (fun ⟨g, cap, cur, e, hg, r⟩ => ⟨g, cap, cur, e, Nat.le_trans hB hg, r⟩)⟩, ⟨h.de.1, h.de.2.imp id (fun ⟨g, cap, cur, e, hg, r⟩ => ⟨g, cap, cur, e, Nat.le_trans hB hg, r⟩)⟩, h.w0, h.w1⟩
theorem infoAc : (Try.prog.info? 116).map (fun i => (i.zero, i.size, i.bytes)) = some (some (.agg #[.int .i64 0, .slice none 0 0, .slice none 0 0, .int .i64 0, .slice none 0 0, .slice none 0 0, .int .i64 0, .int .i64 0]), 8, 128) := by kernel_rfl
theorem one8 (a : Ac) (A : Option Addr) (c : Nat) (R : Option Addr) (d : Nat) (A' : Option Addr) (c' : Nat) (R' : Option Addr) (d' : Nat) : ∀ u ∈ acL a A c R d A' c' R' d', u.oneCell' = true := by
  intro u hu; simp at hu; rcases hu with rfl | rfl | rfl | rfl | rfl | rfl | rfl | rfl <;> rfl
end Go.Proofs.Ytgcbmnohhbcfiaa
