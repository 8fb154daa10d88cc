/- A list of rows, each the call's own, made one behind the other. -/
import Derived.Test.YtcjfcfgkejoeeaaOwn
import Derived.Test.YtcjfcfgkejoeeaaRtW
namespace Go.Proofs.Ytcjfcfgkejoeeaa
open Go.RowKit Go.Deep
set_option linter.unusedVariables false
set_option linter.unusedSimpArgs false

theorem gr_append {a : List (List Int)} {l : List Int} {i : Nat} : gr (a ++ [l]) i = if i < a.length then gr a i else if i = a.length then l else [] := by
  simp only [gr, List.getD_eq_getElem?_getD, List.getElem?_append]
  by_cases h : i < a.length
  · rw [if_pos h, if_pos h]
  · rw [if_neg h, if_neg h]
    by_cases e : i = a.length
    · subst e; simp
    · rw [if_neg e]; cases hi : i - a.length with
      | zero => omega
      | succ q => simp
theorem gr_set {a : List (List Int)} {l : List Int} {i j : Nat} (h : i < a.length) : gr (a.set i l) j = if j = i then l else gr a j := by
  simp only [gr, List.getD_eq_getElem?_getD, List.getElem?_set]
  by_cases e : j = i
  · subst e; simp [h]
  · rw [if_neg (Ne.symm e), if_neg e]
theorem infoLI : (Try.prog.info? 25).map (fun i => (i.zero, i.size, i.bytes)) = some (some (.slice none 0 0), 1, 24) := by kernel_rfl
theorem one_slice (A : Option Addr) (n c : Nat) : ∀ u ∈ [Value.slice A n c], u.oneCell' = true := by intro u hu; simp at hu; subst hu; rfl
theorem own_zero {base : Nat} {w : World} {e : TypeId} {size n : Nat} {v : Value} {xs : List Value} (h : w.ownsRow base e size v (0 + n) ([] ++ xs)) : w.ownsRow base e size v n xs := by rwa [Nat.zero_add, List.nil_append] at h
theorem own_slice {base : Nat} {w : World} {e : TypeId} {size n : Nat} {v : Value} {xs : List Value} (h : w.ownsRow base e size v n xs) : ∃ A c, v = .slice A n c := by
  rcases h.2 with ⟨rfl, rfl⟩ | ⟨g, cap, cur, rfl, _⟩
  · exact ⟨_, _, rfl⟩
  · exact ⟨_, _, rfl⟩
theorem fresh_below' {wr w5 : World} {o : Obj} {row : Option Nat} (hg : (wr.alloc o).grownBy w5 row) (hr : row = some wr.heap.size) : Below wr.heap.size wr w5 :=
  (one_alloc wr o).grown hg (by simp) (fun g e => by rw [hr] at e; injection e with e; omega)
theorem fresh_below {wr w5 : World} {o : Obj} {row : Option Nat} (hg : ((wr.alloc o).drew).grownBy w5 row) (hr : row = some wr.heap.size) : Below wr.heap.size wr w5 :=
  ((one_alloc wr o).drew).grown hg (by simp) (fun g e => by rw [hr] at e; injection e with e; omega)

/-- Row i lies in a block from b i on, below b (i + 1); v holds the rows. -/
structure RowsV (B : Nat) (w : World) (v : Value) (rows : List (List Int)) (xs : List Value) (b : Nat → Nat) : Prop where
  own : w.ownsRow B 25 1 v rows.length xs
  mono : ∀ i, b i ≤ b (i + 1)
  lo : B ≤ b 0
  hi : b rows.length ≤ w.heap.size
  row : ∀ i, i < rows.length → ∃ x, xs[i]? = some x ∧ w.ownsRow (b i) 3 1 x (gr rows i).length (intsV (gr rows i)) ∧ ∀ g, x.ownBlock = some g → g < b (i + 1) ∧ v.ownBlock ≠ some g

theorem mono_le {b : Nat → Nat} (h : ∀ i, b i ≤ b (i + 1)) {i j : Nat} (hij : i ≤ j) : b i ≤ b j := by
  induction j with
  | zero => have : i = 0 := by omega
            subst this; exact Nat.le_refl _
  | succ j ih =>
    by_cases e : i = j + 1
    · subst e; exact Nat.le_refl _
    · exact Nat.le_trans (ih (by omega)) (h j)
theorem RowsV.start {B : Nat} {w : World} (h : B ≤ w.heap.size) : RowsV B w (.slice none 0 0) [] [] (fun _ => w.heap.size) :=
  ⟨World.ownsRow_nil _ _ _ _, fun _ => Nat.le_refl _, h, Nat.le_refl _, fun i hi => by simp at hi⟩
theorem RowsV.step {B : Nat} {wr wA w1 : World} {v v' x' : Value} {rows : List (List Int)} {l : List Int} {xs : List Value} {b : Nat → Nat} (h : RowsV B wr v rows xs b) (hA : Below wr.heap.size wr wA)
    (hx : wA.ownsRow wr.heap.size 3 1 x' l.length (intsV l)) (hg : wA.grownBy w1 v.ownBlock) (ho : w1.ownsRow B 25 1 v' (rows.length + 1) (xs ++ [x']))
    (hat : v'.ownBlock = v.ownBlock ∨ v'.ownBlock = some wA.heap.size) :
    RowsV B w1 v' (rows ++ [l]) (xs ++ [x']) (fun i => if i < rows.length then b i else if i = rows.length then wr.heap.size else wA.heap.size) := by
  have hz := hA.size
  have hz1 := hg.size
  have gv := own_ge h.own
  have gx := own_ge hx
  have hxl : xs.length = rows.length := by have := h.own.1; omega
  have hB : B ≤ wr.heap.size := Nat.le_trans (Nat.le_trans h.lo (mono_le h.mono (Nat.zero_le rows.length))) h.hi
  refine ⟨?_, fun i => ?_, ?_, ?_, fun i hi => ?_⟩
  · rw [List.length_append]; exact ho
  · by_cases h1 : i + 1 < rows.length
    · rw [if_pos h1, if_pos (by omega)]; exact h.mono i
    · rw [if_neg h1]
      by_cases h2 : i + 1 = rows.length
      · rw [if_pos h2, if_pos (by omega)]
        exact Nat.le_trans (h.mono i) (h2 ▸ h.hi)
      · rw [if_neg h2, if_neg (by omega)]
        split <;> omega
  · show B ≤ if 0 < rows.length then b 0 else _
    split
    · exact h.lo
    · split <;> omega
  · rw [List.length_append, List.length_singleton, if_neg (by omega), if_neg (by omega)]
    omega
  · rw [List.length_append, List.length_singleton] at hi
    by_cases h1 : i < rows.length
    · obtain ⟨x, e1, e2, e3⟩ := h.row i h1
      refine ⟨x, by rw [List.getElem?_append_left (by omega)]; exact e1, ?_, fun g e => ?_⟩
      · rw [gr_append, if_pos h1, if_pos h1]
        refine ownsRow_of_block e2 (fun g e => ?_)
        have a1 := e3 g e
        have a2 := own_ge e2 g e
        rw [hg.block g (by omega) (fun e' => a1.2 e'.symm), hA.block g a2.2]
      · have a1 := e3 g e
        have a2 := own_ge e2 g e
        constructor
        · by_cases h2 : i + 1 < rows.length
          · rw [if_pos h2]; exact a1.1
          · rw [if_neg h2, if_pos (by omega)]; exact a2.2
        · rcases hat with hat | hat
          · rw [hat]; exact a1.2
          · rw [hat]; intro e'; injection e' with e'; omega
    · obtain rfl : i = rows.length := by omega
      refine ⟨x', by rw [List.getElem?_append_right (by omega), hxl]; simp, ?_, fun g e => ?_⟩
      · rw [gr_append, if_neg (by omega), if_pos rfl, if_neg (by omega), if_pos rfl]
        refine ownsRow_of_block hx (fun g e => ?_)
        have a2 := gx g e
        rw [hg.block g (by omega) (fun e' => by have := gv g e'.symm; omega)]
      · have a2 := gx g e
        constructor
        · rw [if_neg (by omega), if_neg (by omega)]; exact a2.2
        · rcases hat with hat | hat
          · rw [hat]; intro e'; have := gv g e'; omega
          · rw [hat]; intro e'; injection e' with e'; omega
theorem RowsV.rows {B : Nat} {w : World} {v : Value} {rows : List (List Int)} {xs : List Value} {b : Nat → Nat} (h : RowsV B w v rows xs b) :
    ∃ R d, v = .slice R rows.length d ∧ rows.length ≤ d ∧ d ≤ maxLen ∧ IntRows w.heap.size w R rows := by
  rcases h.own.2 with ⟨hv, h0⟩ | ⟨g, cap, cur, hv, hg, hh, hc, hm, r⟩
  · have : rows = [] := List.eq_nil_of_length_eq_zero h0
    subst this
    exact ⟨none, 0, hv, Nat.le_refl _, by unfold maxLen; omega, fun h => by simp at h⟩
  · refine ⟨some ⟨g, 0, none⟩, cap, hv, hc, hm, fun h0 => ⟨_, rfl, lt_some hh, fun i hi => ?_⟩⟩
    obtain ⟨x, e1, e2, e3⟩ := h.row i hi
    obtain ⟨A, c, rfl, i1, i2, i3⟩ := Ints.of_row e2
    exact ⟨A, c, h.own.cells (g := g) (by rw [hv]; rfl) i _ e1, i1, i2, i3⟩
theorem RowsV.next {B : Nat} {w w1 : World} {v : Value} {rows : List (List Int)} {xs : List Value} {b : Nat → Nat} (h : RowsV B w v rows xs b) (hb : Below w.heap.size w w1) : RowsV B w1 v rows xs b :=
  ⟨ownsRow_of_block h.own (fun g e => hb.block g (own_ge h.own g e).2), h.mono, h.lo, Nat.le_trans h.hi hb.size, fun i hi => by
    obtain ⟨x, e1, e2, e3⟩ := h.row i hi
    exact ⟨x, e1, ownsRow_of_block e2 (fun g e => hb.block g (own_ge e2 g e).2), e3⟩⟩
/-- Another block is written. -/
theorem RowsV.other {B : Nat} {w : World} {v : Value} {rows : List (List Int)} {xs : List Value} {b : Nat → Nat} (h : RowsV B w v rows xs b) {g j : Nat} (u : Value) (hg : g < B) : RowsV B (w.setCell ⟨g, j, none⟩ u) v rows xs b :=
  ⟨ownsRow_of_block h.own (fun g' e => set_block (by have := own_ge h.own g' e; omega)), h.mono, h.lo, by simpa using h.hi, fun i hi => by
    obtain ⟨x, e1, e2, e3⟩ := h.row i hi
    exact ⟨x, e1, ownsRow_of_block e2 (fun g' e => set_block (by have := own_ge e2 g' e; have := mono_le h.mono (Nat.zero_le i); have := h.lo; omega)), e3⟩⟩
/-- A store into a row. -/
theorem RowsV.store {B : Nat} {w : World} {v : Value} {rows : List (List Int)} {xs : List Value} {b : Nat → Nat} (h : RowsV B w v rows xs b) {i k : Nat} (hi : i < rows.length) (hk : k < (gr rows i).length) (u : Int) :
    ∃ g cap, xs[i]? = some (.slice (some ⟨g, 0, none⟩) (gr rows i).length cap) ∧ w.cell? ⟨g, k, none⟩ = some (.int .i64 (gi (gr rows i) k)) ∧ w.frozen? ⟨g, k, none⟩ = false ∧ B ≤ g ∧ g < w.heap.size ∧ v.ownBlock ≠ some g ∧
      RowsV B (w.setCell ⟨g, k, none⟩ (.int .i64 u)) v (rows.set i ((gr rows i).set k u)) xs b := by
  obtain ⟨x, e1, e2, e3⟩ := h.row i hi
  obtain ⟨g, cap, hx, hgb, hgl⟩ := e2.form (by omega)
  subst hx
  have a3 := e3 g rfl
  have ab : b 0 ≤ b i := mono_le h.mono (Nat.zero_le i)
  have hlo := h.lo
  have hc := e2.cellAt k (by omega)
  rw [intsV_at hk] at hc
  have hst := e2.stored k (.int .i64 u)
  have hl : (rows.set i ((gr rows i).set k u)).length = rows.length := List.length_set ..
  refine ⟨g, cap, e1, hc, e2.frozenAt k, by omega, hgl, a3.2, ?_, h.mono, h.lo, by rw [hl]; simpa using h.hi, fun j hj => ?_⟩
  · rw [hl]; exact ownsRow_of_block h.own (fun g' e => set_block (fun e' => a3.2 (e' ▸ e)))
  · rw [hl] at hj
    obtain ⟨y, f1, f2, f3⟩ := h.row j hj
    refine ⟨y, f1, ?_, f3⟩
    rw [gr_set hi]
    by_cases e : j = i
    · subst e
      rw [if_pos rfl, List.length_set]
      obtain rfl : y = .slice (some ⟨g, 0, none⟩) (gr rows j).length cap := by rw [e1] at f1; exact (Option.some.inj f1).symm
      have h1 := hst.1
      rw [intsV_set] at h1
      exact h1
    · rw [if_neg e]
      refine ownsRow_of_block f2 (fun g' e' => set_block (fun e'' => ?_))
      subst e''
      have c1 := (f3 _ e').1
      have c2 := own_ge f2 _ e'
      have c3 := (own_ge e2 _ rfl).1
      rcases Nat.lt_or_gt_of_ne e with q | q
      · have : b (j + 1) ≤ b i := mono_le h.mono (by omega)
        have := a3.1; omega
      · have : b (i + 1) ≤ b j := mono_le h.mono (by omega)
        have := a3.1; omega
end Go.Proofs.Ytcjfcfgkejoeeaa
