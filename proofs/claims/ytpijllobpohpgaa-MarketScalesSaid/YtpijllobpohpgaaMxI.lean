/- Rows of the call's own, of integers. -/
import Derived.Test.YtpijllobpohpgaaMx
import Derived.Test.YtpijllobpohpgaaFlowR
namespace Go.Proofs.Ytpijllobpohpgaa
open Go.RowKit Go.Deep
set_option linter.unusedVariables false
set_option linter.unusedSimpArgs false

abbrev iR (v : Value) (l : List Int) : Rw := ⟨v, 3, 1, l.length, intsV l⟩
theorem Mx.addI {w W W0 : World} {L : List (Nat × Obj)} {R : List Rw} (h : Mx w L R W0) (hb : Below W0.heap.size W0 W) {v : Value} {l : List Int} (ho : W.ownsRow W0.heap.size 3 1 v l.length (intsV l)) : Mx w L (iR v l :: R) W := h.addR hb (iR v l) ho
theorem own_nil_len {B : Nat} {w : World} {e : TypeId} {v : Value} {n size : Nat} {xs : List Value} (h : w.ownsRow B e size v n xs) : ∃ A c, v = .slice A n c ∧ n ≤ c ∧ c ≤ maxLen := by
  rcases h.2 with ⟨rfl, rfl⟩ | ⟨g, cap, cur, rfl, _, _, h1, h2, _⟩
  · exact ⟨none, 0, rfl, Nat.le_refl _, by unfold maxLen; omega⟩
  · exact ⟨_, cap, rfl, h1, h2⟩
/-- An element of a row is written. -/
theorem Mx.setRow {w W : World} {L : List (Nat × Obj)} {R : List Rw} {g n cap size : Nat} {e : TypeId} {xs : List Value} (h : Mx w L R W) (i : Nat) (hi : R[i]? = some ⟨.slice (some ⟨g, 0, none⟩) n cap, e, size, n, xs⟩) (j : Nat) (u : Value) :
    Mx w L (R.set i ⟨.slice (some ⟨g, 0, none⟩) n cap, e, size, n, xs.set j u⟩) (W.setCell ⟨g, j, none⟩ u) :=
  have s := (h.row i hi).stored j u
  h.grow i hi s.2 s.1 (Or.inl rfl)
theorem own_some {B : Nat} {w : World} {e : TypeId} {A : Option Addr} {c n size : Nat} {xs : List Value} (h : w.ownsRow B e size (.slice A n c) n xs) (hn : 0 < n) : ∃ g, A = some ⟨g, 0, none⟩ := by
  rcases h.2 with ⟨e, _⟩ | ⟨g, cap, cur, e, _⟩
  · obtain ⟨_, rfl, _⟩ := Value.slice.inj e; omega
  · obtain ⟨rfl, _, _⟩ := Value.slice.inj e; exact ⟨g, rfl⟩
/-- What an element of a row is, and that it may be written. -/
theorem Mx.rowAt {w W : World} {L : List (Nat × Obj)} {R : List Rw} {g n cap size : Nat} {e : TypeId} {xs : List Value} (h : Mx w L R W) (i : Nat) (hi : R[i]? = some ⟨.slice (some ⟨g, 0, none⟩) n cap, e, size, n, xs⟩) :
    (∀ j u, j < n * size → xs[j]? = some u → W.cell? ⟨g, j, none⟩ = some u) ∧ (∀ j, W.frozen? ⟨g, j, none⟩ = false) ∧ g < W.heap.size :=
  ⟨fun j u hj hu => ((h.row i hi).cellAt j hj).trans hu, fun j => (h.row i hi).frozenAt j, (own_ge' (h.row i hi) g rfl).2⟩
/-- A row that was made with room for all its elements. -/
theorem Mx.lit {w W : World} {L : List (Nat × Obj)} {R : List Rw} (h : Mx w L R W) (cs : Array Value) (e : TypeId) (size n : Nat) (hm : n ≤ maxLen) (hs : cs.size = n * size) :
    Mx w L (⟨.slice (some ⟨W.heap.size, 0, none⟩) n n, e, size, n, cs.toList⟩ :: R) (W.alloc (.cells cs e)) :=
  h.addR (one_alloc W (.cells cs e)) ⟨.slice (some ⟨W.heap.size, 0, none⟩) n n, e, size, n, cs.toList⟩ (World.ownsRow_lit W cs n (Nat.le_refl _) hm hs)
theorem Mx.room {w W : World} {L : List (Nat × Obj)} {R : List Rw} {A : Option Addr} {n cap size : Nat} {e : TypeId} {xs : List Value} (h : Mx w L R W) (i : Nat) (hi : R[i]? = some ⟨.slice A n cap, e, size, n, xs⟩) : n ≤ cap ∧ cap ≤ maxLen := by
  obtain ⟨A', c', e', h1, h2⟩ := own_nil_len (h.row i hi)
  obtain ⟨rfl, _, rfl⟩ := Value.slice.inj e'
  exact ⟨h1, h2⟩
end Go.Proofs.Ytpijllobpohpgaa
