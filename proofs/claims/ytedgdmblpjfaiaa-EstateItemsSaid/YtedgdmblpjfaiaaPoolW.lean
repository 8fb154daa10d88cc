/- What EstatePool and EstateItems keep in memory. -/
import Derived.Test.YtedgdmblpjfaiaaRowsZ
namespace Go.Proofs.Ytedgdmblpjfaiaa
open Go.RowKit Go.Deep
set_option linter.unusedVariables false
set_option linter.unusedSimpArgs false

theorem info22z : (Try.prog.info? 22).map (fun i => (i.zero, i.size, i.bytes)) = some (some (.slice none 0 0), 1, 24) := by kernel_rfl
theorem one_slice (A : Option Addr) (n c : Nat) : ∀ u ∈ [Value.slice A n c], u.oneCell' = true := by intro u hu; simp at hu; subst hu; rfl

/-- The estate in which all bid as the first, being built. -/
structure YW (E : Est) (A : Option Addr) (c : Nat) (x0 : Value) (w3 : World) (k : Nat) (v : Value) (wr : World) : Prop where
  below : Below w3.heap.size w3 wr
  y : wr.heap[w3.heap.size]? = some (.cells #[.slice A E.sh.length c, v] 25 (0, 0))
  x : wr.ownsRow (w3.heap.size + 1) 22 1 v k (List.replicate k x0)
theorem YW.start (E : Est) (A : Option Addr) (c : Nat) (x0 : Value) (w3 : World) : YW E A c x0 w3 0 (.slice none 0 0) (w3.alloc (.cells #[.slice A E.sh.length c, .slice none 0 0] 25)) :=
  ⟨one_alloc _ _, heap_new rfl, World.ownsRow_nil _ _ _ _⟩
theorem YW.step {E : Est} {A : Option Addr} {c : Nat} {x0 : Value} {w3 : World} {k : Nat} {v v' : Value} {wr w1 : World} (h : YW E A c x0 w3 k v wr) {o : Obj}
    (ho : w1.ownsRow (w3.heap.size + 1) 22 1 v' (k + 1) (List.replicate k x0 ++ [x0])) (hg : (wr.alloc o).grownBy w1 v.ownBlock) :
    YW E A c x0 w3 (k + 1) v' (w1.setCell ⟨w3.heap.size, 1, none⟩ v') := by
  have hz := lt_some h.y
  have hk := grown_keep h.x hg
  have ge := own_ge ho
  exact {
    below := ((h.below.alloc (by omega) o).grown hg (by simp; omega) (fun g e => by have := own_ge h.x g e; omega)).setCell (by first | (simp; done) | (simp; omega)) _
    y := by rw [heap_set (by rw [hk _ (by omega) (by omega)]; exact h.y)]; rfl
    x := by rw [List.replicate_succ']; exact ownsRow_of_block ho (fun g e => set_block (by have := ge g e; omega)) }

theorem alike_in {E : Est} (hE : E.Ok) {A R R0 : Option Addr} {c d c0 : Nat} {w w3 : World} {v : Value} {wr : World} (hW : EstIn w E A c R d w3) (h0 : (E.row 0).length ≤ c0) (h1 : c0 ≤ maxLen) (hr : Ints w3.heap.size w3 R0 (E.row 0))
    (h : YW E A c (.slice R0 (E.row 0).length c0) w3 E.sh.length v wr) :
    ∃ R' d', v = .slice R' E.alike.bd.length d' ∧ EstIn w3 E.alike A c R' d' wr := by
  have hl : E.alike.bd.length = E.sh.length := List.length_replicate
  have he := hW.next h.below
  have hr' := hr.next h.below
  have hn1 := hE.n1
  have hn10 := hE.n10
  rcases h.x.2 with ⟨hv, h0'⟩ | ⟨g, cap, cur, hv, hg, hh, hc, hm, r⟩
  · exfalso; have : E.n = E.sh.length := rfl; omega
  · subst hv
    refine ⟨some ⟨g, 0, none⟩, cap, by rw [hl], h.below, by unfold bxOf; rw [hl]; exact h.y, ⟨he.e.sh, fun _ => ⟨_, rfl, lt_some hh, fun i hi => ?_⟩, he.e.shl, he.e.shm, by rw [hl]; exact hc, hm⟩⟩
    rw [hl] at hi
    have e := Est.alike_row (E := E) hi
    unfold Est.row at e
    rw [e]
    refine ⟨R0, c0, h.x.cells (g := g) rfl i _ ?_, h0, h1, hr'⟩
    rw [List.getElem?_replicate, if_pos hi]; rfl

/-- The estate whose rows are made anew. -/
structure ZW (E : Est) (A : Option Addr) (c : Nat) (w3 : World) (rows : List (List Int)) (v : Value) (xs : List Value) (b : Nat → Nat) (wr : World) : Prop where
  below : Below w3.heap.size w3 wr
  z : wr.heap[w3.heap.size]? = some (.cells #[.slice A E.sh.length c, v] 25 (0, 0))
  rows : RowsZ w3.heap.size wr v rows xs b
theorem ZW.start (E : Est) (A : Option Addr) (c : Nat) (w3 : World) : ZW E A c w3 [] (.slice none 0 0) [] (fun _ => w3.heap.size + 1) (w3.alloc (.cells #[.slice A E.sh.length c, .slice none 0 0] 25)) := by
  have h := RowsZ.start (B := w3.heap.size) (w := w3.alloc (.cells #[.slice A E.sh.length c, .slice none 0 0] 25)) (by simp)
  rw [World.size_alloc] at h
  exact ⟨one_alloc _ _, heap_new rfl, h⟩
theorem ZW.step {E : Est} {A : Option Addr} {c : Nat} {w3 wr wA w1 : World} {v v' x' : Value} {rows : List (List Int)} {l : List Int} {xs : List Value} {b : Nat → Nat} (h : ZW E A c w3 rows v xs b wr) (hA : Below wr.heap.size wr wA)
    (hx : wA.ownsRow wr.heap.size 3 1 x' l.length (cellsL l)) (hg : wA.grownBy w1 v.ownBlock) (ho : w1.ownsRow (w3.heap.size + 1) 22 1 v' (rows.length + 1) (xs ++ [x']))
    (hat : v'.ownBlock = v.ownBlock ∨ v'.ownBlock = some wA.heap.size) :
    ∃ b', ZW E A c w3 (rows ++ [l]) v' (xs ++ [x']) b' (w1.setCell ⟨w3.heap.size, 1, none⟩ v') := by
  have hz := lt_some h.z
  have hs := hA.size
  have gv := own_ge h.rows.own
  refine ⟨_, ?_, ?_, h.rows.step hA hx hg ho hat⟩
  · exact ((bcall h.below h.below.size hA).grown hg (by omega) (fun g e => by have := gv g e; omega)).setCell (by first | (simp; done) | (simp; omega)) _
  · rw [heap_set (by rw [hg.block _ (by omega) (fun e => by have := gv _ e.symm; omega), hA.block _ hz]; exact h.z)]; rfl
theorem ZW.in {E : Est} {A : Option Addr} {c : Nat} {R : Option Addr} {d : Nat} {w w3 wr : World} {v : Value} {rows : List (List Int)} {xs : List Value} {b : Nat → Nat} (hW : EstIn w E A c R d w3) (h : ZW E A c w3 rows v xs b wr) :
    ∃ R' d', v = .slice R' rows.length d' ∧ EstIn w3 ⟨E.sh, rows⟩ A c R' d' wr := by
  obtain ⟨R', d', rfl, h1, h2, h3⟩ := h.rows.rows
  have he := hW.next h.below
  exact ⟨R', d', rfl, h.below, h.z, ⟨he.e.sh, h3, he.e.shl, he.e.shm, h1, h2⟩⟩
theorem own_zero {base : Nat} {w : World} {e : TypeId} {size n : Nat} {v : Value} {xs : List Value} (h : w.ownsRow base e size v (0 + n) ([] ++ xs)) : w.ownsRow base e size v n xs := by rwa [Nat.zero_add, List.nil_append] at h
theorem own_slice {base : Nat} {w : World} {e : TypeId} {size n : Nat} {v : Value} {xs : List Value} (h : w.ownsRow base e size v n xs) : ∃ A c, v = .slice A n c := by
  rcases h.2 with ⟨rfl, rfl⟩ | ⟨g, cap, cur, rfl, _⟩
  · exact ⟨_, _, rfl⟩
  · exact ⟨_, _, rfl⟩
theorem fresh_below {wr w5 : World} {o : Obj} {row : Option Nat} (hg : ((wr.alloc o).drew).grownBy w5 row) (hr : row = some wr.heap.size) : Below wr.heap.size wr w5 :=
  ((one_alloc wr o).drew).grown hg (by simp) (fun g e => by rw [hr] at e; injection e with e; omega)
theorem more_below {wr w5 w6 : World} {g : Nat} (hb : Below wr.heap.size wr w5) (hg : w5.grownBy w6 (some g)) (hw : wr.heap.size ≤ g) : Below wr.heap.size wr w6 :=
  hb.grown hg hb.size (fun k e => by injection e with e; omega)
theorem ZW.cells {E : Est} {A : Option Addr} {c : Nat} {w3 : World} {rows : List (List Int)} {v : Value} {xs : List Value} {b : Nat → Nat} {wr w5 w8 : World} {o : Obj} (h : ZW E A c w3 rows v xs b wr) (hb : Below wr.heap.size wr w5) (hg : (w5.alloc o).grownBy w8 v.ownBlock) :
    w8.cell? ⟨w3.heap.size, 1, none⟩ = some v ∧ w8.frozen? ⟨w3.heap.size, 1, none⟩ = false := by
  have hz := lt_some h.z
  have hs := hb.size
  have hk : w8.heap[w3.heap.size]? = wr.heap[w3.heap.size]? := by
    rw [hg.block _ (by simp; omega) (fun e => by have := own_ge h.rows.own _ e.symm; omega), Below.heap_alloc _ _ _ (by omega), hb.block _ hz]
  exact ⟨by rw [World.cell?_of_block (a := ⟨w3.heap.size, 1, none⟩) hk, cell_of_row _ _ 1 _ _ _ h.z]; rfl, by rw [World.frozen?_of_block (a := ⟨w3.heap.size, 1, none⟩) hk, frozen_of_row _ _ 1 _ _ h.z]⟩
end Go.Proofs.Ytedgdmblpjfaiaa
