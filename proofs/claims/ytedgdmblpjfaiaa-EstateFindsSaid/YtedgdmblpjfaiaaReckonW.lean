/- What reckon keeps in memory, and how each step hands it on. -/
import Derived.Test.YtedgdmblpjfaiaaAppend
import Derived.Test.YtedgdmblpjfaiaaRefS
import Derived.Deep.AppendLies
namespace Go.Proofs.Ytedgdmblpjfaiaa
open Go.RowKit Go.Deep
set_option linter.unusedVariables false
set_option linter.unusedSimpArgs false

def ownersL (E : Est) (k : Nat) : List Int := (List.range k).map fun k => (E.own k : Int)
def claimsL (E : Est) (k : Nat) : List Int := (List.range k).map E.claim
abbrev cellsL (l : List Int) : List Value := l.map (Value.int .i64)
theorem ownersL_succ (E : Est) (k : Nat) : cellsL (ownersL E (k + 1)) = cellsL (ownersL E k) ++ [.int .i64 (E.own k : Nat)] := by simp [ownersL, List.range_succ]
theorem claimsL_succ (E : Est) (k : Nat) : cellsL (claimsL E (k + 1)) = cellsL (claimsL E k) ++ [.int .i64 (E.claim k)] := by simp [claimsL, List.range_succ]
theorem ownersL_length (E : Est) (k : Nat) : (ownersL E k).length = k := by simp [ownersL]
theorem claimsL_length (E : Est) (k : Nat) : (claimsL E k).length = k := by simp [claimsL]
theorem ownersL_gi {E : Est} {k i : Nat} (h : i < k) : gi (ownersL E k) i = (E.own i : Int) := by
  rw [gi_get (by rw [ownersL_length]; exact h)]; simp [ownersL]
theorem claimsL_gi {E : Est} {k i : Nat} (h : i < k) : gi (claimsL E k) i = E.claim i := by
  rw [gi_get (by rw [claimsL_length]; exact h)]; simp [claimsL]

/-- The reckoned estate's block. -/
abbrev gOf (N : Nat) (E : Est) (A : Option Addr) (c : Nat) (R : Option Addr) (d : Nat) (vO vC : Value) : Obj :=
  .cells #[.slice A E.sh.length c, .slice R E.bd.length d, .int .i64 E.S, vO, .slice (some ⟨N + 1, 0, none⟩) E.sh.length E.sh.length, vC] 57 (0, 0)

structure RkW (E : Est) (A : Option Addr) (c : Nat) (R : Option Addr) (d : Nat) (w : World) (k q j : Nat) (vO vC : Value) (wr : World) : Prop where
  below : Below w.heap.size w wr
  bx : wr.heap[w.heap.size]? = some (bxOf A c R d E)
  ws : wr.rowIs (w.heap.size + 1) 3 E.sh.length (fun i => .int .i64 (E.worth i q))
  g : wr.heap[w.heap.size + 1 + 1]? = some (gOf w.heap.size E A c R d vO vC)
  ow : wr.ownsRow (w.heap.size + 1 + 1 + 1) 3 1 vO k (cellsL (ownersL E k))
  cl : wr.ownsRow (w.heap.size + 1 + 1 + 1) 3 1 vC j (cellsL (claimsL E j))
  ap : ∀ g, vO.ownBlock = some g → vC.ownBlock = some g → False

section
variable {E : Est} {A : Option Addr} {c : Nat} {R : Option Addr} {d : Nat} {w : World} {k q j : Nat} {vO vC : Value} {wr : World}

theorem RkW.drewN (h : RkW E A c R d w k q j vO vC wr) (n : Nat) : RkW E A c R d w k q j vO vC (wr.drewN n) :=
  ⟨below_drewN h.below n, h.bx, h.ws, h.g, h.ow, h.cl, h.ap⟩
theorem RkW.drew (h : RkW E A c R d w k q j vO vC wr) : RkW E A c R d w k q j vO vC wr.drew :=
  ⟨h.below.drew, h.bx, h.ws, h.g, h.ow, h.cl, h.ap⟩

theorem RkW.facts (h : RkW E A c R d w k q j vO vC wr) :
    w.heap.size + 1 + 1 < wr.heap.size ∧ (∀ i, wr.cell? ⟨w.heap.size, i, none⟩ = (#[.slice A E.sh.length c, .slice R E.bd.length d] : Array Value)[i]?) ∧
    (∀ i, wr.cell? ⟨w.heap.size + 1 + 1, i, none⟩ = (#[.slice A E.sh.length c, .slice R E.bd.length d, .int .i64 E.S, vO, .slice (some ⟨w.heap.size + 1, 0, none⟩) E.sh.length E.sh.length, vC] : Array Value)[i]?) ∧
    (∀ i, wr.frozen? ⟨w.heap.size + 1 + 1, i, none⟩ = false) ∧ (∀ i, i < E.sh.length → wr.cell? ⟨w.heap.size + 1, i, none⟩ = some (.int .i64 (E.worth i q))) ∧ (∀ i, wr.frozen? ⟨w.heap.size + 1, i, none⟩ = false) :=
  ⟨lt_some h.g, fun i => cell_of_row _ _ i _ _ _ h.bx, fun i => cell_of_row _ _ i _ _ _ h.g, fun i => frozen_of_row _ _ i _ _ h.g, fun i hi => h.ws.cell hi, fun i => h.ws.frozen i⟩

theorem own_ge {base : Nat} {wr : World} {e : TypeId} {v : Value} {n : Nat} {xs : List Value} (h : wr.ownsRow base e 1 v n xs) : ∀ g, v.ownBlock = some g → base ≤ g ∧ g < wr.heap.size := by
  intro g e
  rcases h.2 with ⟨rfl, _⟩ | ⟨g', cap, cur, rfl, hg', hh, _⟩
  · simp [Value.ownBlock] at e
  · simp [Value.ownBlock] at e; subst e; exact ⟨hg', lt_some hh⟩

/-- What an append leaves alone. -/
theorem grown_keep {base : Nat} {wr w1 : World} {e : TypeId} {v : Value} {n : Nat} {xs : List Value} {o : Obj} (h : wr.ownsRow base e 1 v n xs) (hg : (wr.alloc o).grownBy w1 v.ownBlock) :
    ∀ g, g < base → g < wr.heap.size → w1.heap[g]? = wr.heap[g]? := by
  intro g h1 h2
  rw [hg.block g (by simp; omega) (fun e => by have := own_ge h g e.symm; omega), Below.heap_alloc _ _ _ h2]

theorem grown_drew {wr w1 : World} {o : Obj} {row : Option Nat} (hg : ((wr.alloc o).drew).grownBy w1 row) : (wr.alloc o).grownBy w1 row := ⟨hg.os, hg.tape, hg.output, hg.size, hg.block⟩
theorem grown_cells {base : Nat} {wr w1 : World} {e : TypeId} {v : Value} {n : Nat} {xs : List Value} {o : Obj} (h : wr.ownsRow base e 1 v n xs) (hg : ((wr.alloc o).drew).grownBy w1 v.ownBlock) :
    ∀ p : Addr, p.block < base → p.block < wr.heap.size → w1.cell? p = wr.cell? p ∧ w1.frozen? p = wr.frozen? p := fun p h1 h2 =>
  have hk := grown_keep h (grown_drew hg) p.block h1 h2
  ⟨World.cell?_of_block hk, World.frozen?_of_block hk⟩

theorem ownsRow_of_block {base : Nat} {wr w1 : World} {e : TypeId} {v : Value} {n : Nat} {xs : List Value} (h : wr.ownsRow base e 1 v n xs) (hk : ∀ g, v.ownBlock = some g → w1.heap[g]? = wr.heap[g]?) : w1.ownsRow base e 1 v n xs := by
  refine ⟨h.1, ?_⟩
  rcases h.2 with h2 | ⟨g, cap, cur, rfl, hg, hh, r⟩
  · exact Or.inl h2
  · exact Or.inr ⟨g, cap, cur, rfl, hg, by rw [hk g (by simp [Value.ownBlock])]; exact hh, r⟩

theorem set_block {wr : World} {g i g' : Nat} {u : Value} (h : g' ≠ g) : (wr.setCell ⟨g, i, none⟩ u).heap[g']? = wr.heap[g']? := heap_set_ne h

theorem RkW.own (h : RkW E A c R d w k q 0 vO (.slice none 0 0) wr) {o : Obj} {w1 : World} {v' : Value}
    (ho : w1.ownsRow (w.heap.size + 1 + 1 + 1) 3 1 v' (k + 1) (cellsL (ownersL E k) ++ [.int .i64 (E.own k : Nat)])) (hg : (wr.alloc o).grownBy w1 vO.ownBlock) :
    RkW E A c R d w (k + 1) q 0 v' (.slice none 0 0) (w1.setCell ⟨w.heap.size + 1 + 1, 3, none⟩ v') := by
  have hz := lt_some h.g
  have hk := grown_keep h.ow hg
  have ge := own_ge ho
  exact {
    below := ((h.below.alloc (by omega) o).grown hg (by simp; omega) (fun g e => by have := own_ge h.ow g e; omega)).setCell (by first | (simp; done) | (simp; omega)) _
    bx := by rw [set_block (by omega), hk _ (by omega) (by omega)]; exact h.bx
    ws := (h.ws.of_block (hk _ (by omega) (by omega))).setOther (by simp) _
    g := by rw [heap_set (by rw [hk _ (by omega) (by omega)]; exact h.g)]; rfl
    ow := by rw [ownersL_succ]; exact ownsRow_of_block ho (fun g e => set_block (by have := ge g e; omega))
    cl := World.ownsRow_nil _ _ _ _
    ap := by simp [Value.ownBlock] }

theorem worth_succ (E : Est) (i k : Nat) : E.worth i (k + 1) = if i = E.own k then E.worth i k + E.bid i k else E.worth i k := by
  simp only [Est.worth, Est.worthOf, sumTo]
  by_cases e : i = E.own k
  · subst e; simp
  · rw [if_neg e, if_neg (by omega)]; omega

theorem RkW.worth_ (h : RkW E A c R d w k q j vO vC wr) : RkW E A c R d w k (q + 1) j vO vC (wr.setCell ⟨w.heap.size + 1, E.own q, none⟩ (.int .i64 (E.worth (E.own q) q + E.bid (E.own q) q))) := by
  have hz := lt_some h.g
  exact {
    below := h.below.setCell (by first | (simp; done) | (simp; omega)) _
    bx := by rw [set_block (by omega)]; exact h.bx
    ws := (h.ws.set (E.own q) _).congr fun i hi => by
      rw [worth_succ]
      by_cases e : i = E.own q
      · subst e; simp
      · rw [if_neg e, if_neg e]
    g := by rw [set_block (by omega)]; exact h.g
    ow := ownsRow_of_block h.ow (fun g e => set_block (by have := own_ge h.ow g e; omega))
    cl := ownsRow_of_block h.cl (fun g e => set_block (by have := own_ge h.cl g e; omega))
    ap := h.ap }

theorem RkW.claim_ (h : RkW E A c R d w k q j vO vC wr) {o : Obj} {w1 : World} {v' : Value} {W : World} (hW : W.heap = wr.heap) (hos : W.os = wr.os) (htp : W.tape = wr.tape) (hout : W.output = wr.output)
    (ho : w1.ownsRow (w.heap.size + 1 + 1 + 1) 3 1 v' (j + 1) (cellsL (claimsL E j) ++ [.int .i64 (E.claim j)])) (hg : (W.alloc o).grownBy w1 vC.ownBlock)
    (hat : v'.ownBlock = vC.ownBlock ∨ v'.ownBlock = some (wr.heap.size + 1)) :
    RkW E A c R d w k q (j + 1) vO v' (w1.setCell ⟨w.heap.size + 1 + 1, 5, none⟩ v') := by
  have hB : Below wr.heap.size wr W := ⟨hos, htp, hout, by rw [hW]; exact Nat.le_refl _, fun k _ => by rw [hW]⟩
  have hcl : W.ownsRow (w.heap.size + 1 + 1 + 1) 3 1 vC j (cellsL (claimsL E j)) := ownsRow_ext h.cl hB
  have hz := lt_some h.g
  have hk' := grown_keep hcl hg
  have hk : ∀ g, g < w.heap.size + 1 + 1 + 1 → g < wr.heap.size → w1.heap[g]? = wr.heap[g]? := fun g a b => by rw [hk' g a (by rw [hW]; exact b), hW]
  have ge := own_ge ho
  have gO := own_ge h.ow
  have gC := own_ge h.cl
  exact {
    below := ((((bcall h.below (by omega) hB).alloc (by rw [hW]; omega) o).grown hg (by simp [hW]; omega) (fun g e => by have := gC g e; omega))).setCell (by first | (simp; done) | (simp; omega)) _
    bx := by rw [set_block (by omega), hk _ (by omega) (by omega)]; exact h.bx
    ws := (h.ws.of_block (hk _ (by omega) (by omega))).setOther (by simp) _
    g := by rw [heap_set (by rw [hk _ (by omega) (by omega)]; exact h.g)]; rfl
    ow := ownsRow_of_block h.ow (fun g e => by
      have := gO g e
      rw [set_block (by omega), hg.block g (by simp [hW]; omega) (fun e' => h.ap g e e'.symm), Below.heap_alloc _ _ _ (by rw [hW]; omega), hW])
    cl := by rw [claimsL_succ]; exact ownsRow_of_block ho (fun g e => set_block (by have := ge g e; omega))
    ap := fun g e e' => by
      rcases hat with hat | hat
      · exact h.ap g e (hat ▸ e')
      · rw [hat] at e'; have := gO g e; simp at e'; omega }
end

theorem worth_zero (E : Est) (i : Nat) : E.worth i 0 = 0 := rfl

theorem RkW.start (E : Est) (A : Option Addr) (c : Nat) (R : Option Addr) (d : Nat) (w : World) :
    RkW E A c R d w 0 0 0 (.slice none 0 0) (.slice none 0 0) (((w.alloc (bxOf A c R d E)).alloc (.cells (madeCells #[.int .i64 0] E.sh.length) 3)).alloc (gOf w.heap.size E A c R d (.slice none 0 0) (.slice none 0 0))) where
  below := ((one_alloc w _).alloc (by simp) _).alloc (by simp; omega) _
  bx := heap_old (heap_old (heap_new rfl))
  ws := by
    have h := (World.rowIs_made (w.alloc (bxOf A c R d E)) (.int .i64 0) E.sh.length 3).alloc (gOf w.heap.size E A c R d (.slice none 0 0) (.slice none 0 0))
    simpa [worth_zero] using h
  g := heap_new (by simp)
  ow := World.ownsRow_nil _ _ _ _
  cl := World.ownsRow_nil _ _ _ _
  ap := by simp [Value.ownBlock]

/-- What reckon leaves. -/
def RkPost (E : Est) (A : Option Addr) (c : Nat) (R : Option Addr) (d : Nat) (w : World) (e : Ending) (w' : World) : Prop :=
  ∃ vO vC, e = .returned (.pointer (some ⟨w.heap.size + 1 + 1, 0, none⟩)) ∧ RkW E A c R d w E.m E.m E.n vO vC w'
end Go.Proofs.Ytedgdmblpjfaiaa
