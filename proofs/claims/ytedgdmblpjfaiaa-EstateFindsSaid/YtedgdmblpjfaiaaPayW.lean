/- What Pay keeps in memory, and how each step hands it on. -/
import Derived.Test.YtedgdmblpjfaiaaPayPlain
namespace Go.Proofs.Ytedgdmblpjfaiaa
open Go.RowKit Go.Deep
set_option linter.unusedVariables false
set_option linter.unusedSimpArgs false

def upTo (k : Nat) (f : Nat → Int) (i : Nat) : Int := if i < k then f i else 0
theorem upTo_zero (n : Nat) (f : Nat → Int) : mapL n (fun _ => 0) = mapL n (upTo 0 f) := mapL_congr fun i _ => by simp [upTo]
theorem upTo_all (n : Nat) (f : Nat → Int) : mapL n (upTo n f) = mapL n f := mapL_congr fun i h => by simp [upTo, h]
theorem upTo_set (n k : Nat) (f : Nat → Int) : (cellsL (mapL n (upTo k f))).set k (.int .i64 (f k)) = cellsL (mapL n (upTo (k + 1) f)) := by
  rw [mapL_set]; congr 1
  refine mapL_congr fun i _ => ?_
  unfold upTo
  by_cases e : i = k
  · subst e; simp
  · rw [if_neg e]; by_cases h : i < k
    · rw [if_pos h, if_pos (by omega)]
    · rw [if_neg h, if_neg (by omega)]

/-- The slice that make of n integers laid at block g. -/
abbrev slV (g n : Nat) : Value := .slice (some ⟨g, 0, none⟩) n n

/-- Pay's memory: w0 is the world before it made any; the rows of what is whole (gw), what was left out (gr), the two together (gc), the order (go). -/
structure PayW (E : Est) (w0 : World) (gw gr gc go ko kr kw : Nat) (wr : World) : Prop where
  below : Below w0.heap.size w0 wr
  cb : wr.heap[gc]? = some (.cells #[slV gw E.sh.length, slV gr E.sh.length] 63 (0, 0))
  wh : wr.ownsRow w0.heap.size 3 1 (slV gw E.sh.length) E.sh.length (cellsL (mapL E.sh.length (upTo kw E.whole)))
  re : wr.ownsRow w0.heap.size 3 1 (slV gr E.sh.length) E.sh.length (cellsL (mapL E.sh.length (upTo kr E.rest)))
  od : wr.ownsRow go 3 1 (slV go E.sh.length) E.sh.length (cellsL (mapL E.sh.length (upTo ko fun i => (i : Int))))
  lw : gw < go
  lr : gr < go
  lc : gc < go
  ne : gw ≠ gr
  nc : gc ≠ gw
  nd : gc ≠ gr
  gew : w0.heap.size ≤ gw
  ger : w0.heap.size ≤ gr
  gec : w0.heap.size ≤ gc

theorem rowIs_own {w : World} {base g n : Nat} {f : Nat → Int} (h : w.rowIs g 3 n (fun i => .int .i64 (f i))) (hb : base ≤ g) (hn : n ≤ maxLen) : w.ownsRow base 3 1 (slV g n) n (cellsL (mapL n f)) := by
  obtain ⟨c, hg, hc, hi⟩ := h
  refine ⟨by simp [mapL], .inr ⟨g, n, c, rfl, hb, hg, Nat.le_refl _, hn, by omega, ?_⟩⟩
  refine List.ext_getElem (by simp [mapL]; omega) fun i h1 h2 => ?_
  have h2' : i < n := by simpa [mapL] using h2
  have := hi i h2'
  rw [Array.getElem?_eq_some_iff] at this
  obtain ⟨_, e⟩ := this
  simp [mapL, e]
theorem made_row {W : World} {g n : Nat} (h : g = W.heap.size) : (W.alloc (.cells (madeCells #[.int .i64 0] n) 3)).rowIs g 3 n (fun _ => .int .i64 0) := by subst h; exact World.rowIs_made W _ n 3

/-- The two rows of cents and their box, as made. -/
structure P6 (n : Nat) (w0 : World) (gw gr gc : Nat) (wx : World) : Prop where
  below : Below w0.heap.size w0 wx
  cb : wx.heap[gc]? = some (.cells #[slV gw n, slV gr n] 63 (0, 0))
  rw_ : wx.rowIs gw 3 n (fun _ => .int .i64 0)
  rr : wx.rowIs gr 3 n (fun _ => .int .i64 0)
  ne : gw ≠ gr
  nc : gc ≠ gw
  nd : gc ≠ gr
  gew : w0.heap.size ≤ gw
  ger : w0.heap.size ≤ gr
  gec : w0.heap.size ≤ gc
theorem P6.pay {E : Est} {w0 : World} {gw gr gc : Nat} {wx : World} (h : P6 E.sh.length w0 gw gr gc wx) (hn : E.sh.length ≤ maxLen) : PayW E w0 gw gr gc wx.heap.size 0 0 0 (wx.alloc (.cells (madeCells #[.int .i64 0] E.sh.length) 3)) where
  below := h.below.alloc h.below.size _
  cb := heap_old h.cb
  wh := by rw [← upTo_zero]; exact rowIs_own (h.rw_.alloc _) h.gew hn
  re := by rw [← upTo_zero]; exact rowIs_own (h.rr.alloc _) h.ger hn
  od := by rw [← upTo_zero]; exact made_own wx _ (Nat.le_refl _) hn
  lw := h.rw_.lt
  lr := h.rr.lt
  lc := lt_some h.cb
  ne := h.ne
  nc := h.nc
  nd := h.nd
  gew := h.gew
  ger := h.ger
  gec := h.gec
def P6at (n : Nat) (w0 : World) (v : Value) (wx : World) : Prop := ∃ gw gr gc, v = .pointer (some ⟨gc, 0, none⟩) ∧ P6 n w0 gw gr gc wx

theorem own_block {w : World} {base g n : Nat} {xs : List Value} (h : w.ownsRow base 3 1 (slV g n) n xs) : g < w.heap.size := (own_ge h g rfl).2
theorem ownsRow_set {w : World} {base g g' i n : Nat} {u : Value} {xs : List Value} (h : w.ownsRow base 3 1 (slV g n) n xs) (hne : g ≠ g') : (w.setCell ⟨g', i, none⟩ u).ownsRow base 3 1 (slV g n) n xs :=
  ownsRow_of_block h fun k e => by
    simp [Value.ownBlock] at e; subst e
    exact set_block hne

section
variable {E : Est} {w0 : World} {gw gr gc go ko kr kw : Nat} {wr : World}
theorem PayW.drew (h : PayW E w0 gw gr gc go ko kr kw wr) : PayW E w0 gw gr gc go ko kr kw wr.drew :=
  ⟨h.below.drew, h.cb, h.wh, h.re, h.od, h.lw, h.lr, h.lc, h.ne, h.nc, h.nd, h.gew, h.ger, h.gec⟩
theorem PayW.setO (h : PayW E w0 gw gr gc go ko kr kw wr) {v : Int} (hv : v = (ko : Int)) : PayW E w0 gw gr gc go (ko + 1) kr kw (wr.setCell ⟨go, ko, none⟩ (.int .i64 v)) := by
  subst hv
  have a := h.lw; have b := h.lr; have c := h.lc; have d := h.gew
  exact { below := h.below.setCell (by first | (simp; done) | (simp; omega)) _
          cb := by rw [set_block (by omega)]; exact h.cb
          wh := ownsRow_set h.wh (by omega)
          re := ownsRow_set h.re (by omega)
          od := by rw [← upTo_set]; exact (h.od.stored ko _).1
          lw := a, lr := b, lc := c, ne := h.ne, nc := h.nc, nd := h.nd, gew := h.gew, ger := h.ger, gec := h.gec }
theorem PayW.setR (h : PayW E w0 gw gr gc go ko kr kw wr) {v : Int} (hv : v = E.rest kr) : PayW E w0 gw gr gc go ko (kr + 1) kw (wr.setCell ⟨gr, kr, none⟩ (.int .i64 v)) := by
  subst hv
  have a := h.lw; have b := h.lr; have c := h.lc; have d := h.ger
  exact { below := h.below.setCell (by first | (simp; done) | (simp; omega)) _
          cb := by rw [set_block h.nd]; exact h.cb
          wh := ownsRow_set h.wh h.ne
          re := by rw [← upTo_set]; exact (h.re.stored kr _).1
          od := ownsRow_set h.od (by omega)
          lw := a, lr := b, lc := c, ne := h.ne, nc := h.nc, nd := h.nd, gew := h.gew, ger := h.ger, gec := h.gec }
theorem PayW.setW (h : PayW E w0 gw gr gc go ko kr kw wr) {v : Int} (hv : v = E.whole kw) : PayW E w0 gw gr gc go ko kr (kw + 1) (wr.setCell ⟨gw, kw, none⟩ (.int .i64 v)) := by
  subst hv
  have a := h.lw; have b := h.lr; have c := h.lc; have d := h.gew
  exact { below := h.below.setCell (by first | (simp; done) | (simp; omega)) _
          cb := by rw [set_block h.nc]; exact h.cb
          wh := by rw [← upTo_set]; exact (h.wh.stored kw _).1
          re := ownsRow_set h.re (Ne.symm h.ne)
          od := ownsRow_set h.od (by omega)
          lw := a, lr := b, lc := c, ne := h.ne, nc := h.nc, nd := h.nd, gew := h.gew, ger := h.ger, gec := h.gec }

theorem row_cell {base g n k j : Nat} {f : Nat → Int} {w : World} (h : w.ownsRow base 3 1 (slV g n) n (cellsL (mapL n (upTo k f)))) (hj : j < n) : w.cell? ⟨g, j, none⟩ = some (.int .i64 (upTo k f j)) := by
  rw [h.cellAt j (by omega), List.getElem?_map, List.getElem?_eq_getElem (by rw [mapL_length]; exact hj), ← gi_get, mapL_gi hj]; rfl

theorem PayW.facts (h : PayW E w0 gw gr gc go ko kr kw wr) {k : Nat} (hk : k < E.sh.length) :
    (∀ j, wr.cell? ⟨gc, j, none⟩ = (#[slV gw E.sh.length, slV gr E.sh.length] : Array Value)[j]?) ∧
    wr.cell? ⟨gw, k, none⟩ = some (.int .i64 (upTo kw E.whole k)) ∧ wr.cell? ⟨gr, k, none⟩ = some (.int .i64 (upTo kr E.rest k)) ∧ wr.cell? ⟨go, k, none⟩ = some (.int .i64 (upTo ko (fun i => (i : Int)) k)) ∧
    wr.frozen? ⟨gw, k, none⟩ = false ∧ wr.frozen? ⟨gr, k, none⟩ = false ∧ wr.frozen? ⟨go, k, none⟩ = false :=
  ⟨fun j => cell_of_row _ _ j _ _ _ h.cb, row_cell h.wh hk, row_cell h.re hk, row_cell h.od hk, h.wh.frozenAt k, h.re.frozenAt k, h.od.frozenAt k⟩
end
theorem range_cells (n : Nat) : cellsL (mapL n (upTo n fun i => (i : Int))) = cellsN (List.range n) := by
  rw [upTo_all, cellsL, mapL, cellsN, List.map_map]; rfl
theorem lt_order (E : Est) : isort (ltOf fun a b => cmpI (E.rest b) (E.rest a)) (List.range E.sh.length) = E.order := by
  have e : (ltOf fun a b => cmpI (E.rest b) (E.rest a)) = E.ltR := by
    funext a b
    simp only [ltOf, Est.ltR, cmpI, decide_eq_decide]
    split
    · simp; omega
    · split <;> simp <;> omega
  rw [e]; rfl
theorem payTo_zero (E : Est) (n : Nat) : mapL n (E.payTo 0) = mapL n E.whole := mapL_congr fun i _ => by simp [Est.payTo]
theorem payTo_succ (E : Est) {j o : Nat} (ho : E.order[j]? = some o) (n : Nat) : (cellsL (mapL n (E.payTo j))).set o (.int .i64 (E.payTo j o + 1)) = cellsL (mapL n (E.payTo (j + 1))) := by
  rw [mapL_set]; congr 1
  obtain ⟨hj, e⟩ := List.getElem?_eq_some_iff.1 ho
  have ht : E.order.take (j + 1) = E.order.take j ++ [o] := by rw [List.take_succ_eq_append_getElem hj, e]
  have hnot : o ∉ E.order.take j := by
    intro hm
    have hd := E.order_nodup
    rw [← List.take_append_drop (j + 1) E.order, ht] at hd
    have := (List.nodup_append.1 (List.nodup_append.1 hd).1).2.2
    exact this o hm o (by simp) rfl
  refine mapL_congr fun i _ => ?_
  unfold Est.payTo
  rw [ht]
  by_cases e' : i = o
  · subst e'; rw [if_pos rfl, if_neg hnot, if_pos (by simp)]; omega
  · rw [if_neg e']
    congr 1
    by_cases hm : i ∈ E.order.take j
    · rw [if_pos hm, if_pos (by simp [hm])]
    · rw [if_neg hm, if_neg (by simp [hm, e'])]
theorem Est.Ok.payTo_bd {E : Est} (h : E.Ok) (j i : Nat) (hi : i < E.n) : -400000000000000 ≤ E.payTo j i ∧ E.payTo j i ≤ 400000000000001 := by
  have := h.whole_bd i hi
  unfold Est.payTo; split <;> omega

/-- While cents are given out. -/
structure PayX (E : Est) (w0 : World) (gw gc go j : Nat) (B : Value) (wr : World) : Prop where
  below : Below w0.heap.size w0 wr
  cb : wr.heap[gc]? = some (.cells #[slV gw E.sh.length, B] 63 (0, 0))
  wh : wr.ownsRow w0.heap.size 3 1 (slV gw E.sh.length) E.sh.length (cellsL (mapL E.sh.length (E.payTo j)))
  od : wr.ownsRow go 3 1 (slV go E.sh.length) E.sh.length (cellsN E.order)
  lw : gw < go
  nc : gc ≠ gw
  gew : w0.heap.size ≤ gw
theorem PayX.next {E : Est} {w0 : World} {gw gc go j : Nat} {B : Value} {wr : World} (h : PayX E w0 gw gc go j B wr) {o : Nat} (ho : E.order[j]? = some o) {v : Int} (hv : v = E.payTo j o + 1) : PayX E w0 gw gc go (j + 1) B (wr.setCell ⟨gw, o, none⟩ (.int .i64 v)) := by
  subst hv
  have a := h.lw; have b := h.gew
  exact { below := h.below.setCell (by first | (simp; done) | (simp; omega)) _
          cb := by rw [set_block h.nc]; exact h.cb
          wh := by rw [← payTo_succ E ho]; exact (h.wh.stored o _).1
          od := ownsRow_set h.od (by omega)
          lw := a, nc := h.nc, gew := b }
theorem PayW.sorted {E : Est} {w0 : World} {gw gr gc go n : Nat} {wr w8 : World} (h : PayW E w0 gw gr gc go E.sh.length E.sh.length E.sh.length wr) (hb : Below go wr w8) (ho : w8.ownsRow go 3 1 (slV go E.sh.length) E.sh.length (cellsN E.order)) (hgo : w0.heap.size ≤ go) :
    PayX E w0 gw gc go 0 (slV gr E.sh.length) w8 where
  below := h.below.trans (hb.mono hgo)
  cb := by rw [hb.block _ h.lc]; exact h.cb
  wh := by rw [payTo_zero, ← upTo_all]; exact ownsRow_of_block h.wh (fun g e => by simp [Value.ownBlock] at e; subst e; exact hb.block _ h.lw)
  od := ho
  lw := h.lw
  nc := h.nc
  gew := h.gew
theorem PayW.cmp {E : Est} {w0 : World} {gw gr gc go : Nat} {wr : World} (h : PayW E w0 gw gr gc go E.sh.length E.sh.length E.sh.length wr) :
    CmpAt go wr (.agg #[slV gw E.sh.length, slV gr E.sh.length]) E.sh.length (fun a b => cmpI (E.rest b) (E.rest a)) := by
  intro a b W ha hb hW
  have hi : Ints go wr (some ⟨gr, 0, none⟩) (mapL E.sh.length E.rest) := fun h0 => ⟨_, rfl, h.lr, fun k hk => by
    rw [mapL_length] at hk
    rw [add_mk, Nat.zero_add, mapL_gi hk, row_cell h.re hk, upTo, if_pos hk]⟩
  have hgo : go ≤ W.heap.size := Nat.le_trans (Nat.le_of_lt (own_block h.od)) hW.size
  have c := later_any (some ⟨gw, 0, none⟩) E.sh.length E.sh.length (some ⟨gr, 0, none⟩) E.sh.length (mapL E.sh.length E.rest) a b (by rw [mapL_length]; exact ha) (by rw [mapL_length]; exact hb) W ((hi.below hW).more hgo)
  rw [mapL_length, mapL_gi ha, mapL_gi hb] at c
  exact c
end Go.Proofs.Ytedgdmblpjfaiaa
