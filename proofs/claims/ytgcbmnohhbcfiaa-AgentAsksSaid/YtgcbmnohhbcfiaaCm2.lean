/- Small lemmas of our own on worlds, used in all walks of this seat. -/
import Derived.Test.YtgcbmnohhbcfiaaRows
import Derived.WalkKit
import Derived.WalkSpells
import Derived.WalkLawsBesides
import Derived.Deep.Light
import Derived.Deep.QuietTactic
import Derived.BigQuiet
import Derived.Lib.Hide
import Derived.StillTailTactics
import Derived.Deep.DeepMust
import Derived.ProofKit
import Derived.OpenShut
import Derived.Test.YtgcbmnohhbcfiaaCm1
import Derived.Laws.OwnMore
import Derived.Deep.AppendLies
import Derived.OwnWalk
import Derived.Deep.Draws
import Derived.Deep.OwnRows
import Derived.Deep.Matrix
import Derived.Deep.LoopGhost
import Derived.IntWalk
import Derived.PlainAid
import Derived.Outline
import Derived.Deep.RegionHeld3
import Derived.Deep.DrawnRows
namespace Go.Proofs.Ytgcbmnohhbcfiaa
open Go.RowKit Go.ChangeShapes Go.WideShapes Go.ChangeAt
set_option linter.unusedVariables false
set_option linter.unusedSimpArgs false

theorem bcell {W w1 : World} (hb : Below W.heap.size W w1) : (∀ b o, b < W.heap.size → w1.cell? ⟨b, o, none⟩ = W.cell? ⟨b, o, none⟩) ∧ (∀ b o, b < W.heap.size → w1.frozen? ⟨b, o, none⟩ = W.frozen? ⟨b, o, none⟩) :=
  ⟨fun b o h => hb.cell (p := ⟨b, o, none⟩) h, fun b o h => hb.frozen (p := ⟨b, o, none⟩) h⟩
theorem bcall {B : Nat} {w W w1 : World} (h : Below B w W) (hB : B ≤ W.heap.size) (hb : Below W.heap.size W w1) : Below B w w1 := h.trans (hb.mono hB)
theorem vint {k : IntKind} {a b : Int} (h : a = b) : Value.int k a = .int k b := by rw [h]
theorem vbool {a b : Bool} (h : a = b) : Value.bool a = .bool b := by rw [h]
theorem ret_int {k : IntKind} {a b : Int} (h : a = b) : Ending.returned (.int k a) = .returned (.int k b) := by rw [h]
theorem ret_bool {a b : Bool} (h : a = b) : Ending.returned (.bool a) = .returned (.bool b) := by rw [h]
theorem ret_two {a b c d : Value} (h : a = c) (k : b = d) : Ending.returned (.tuple #[a, b]) = .returned (.tuple #[c, d]) := by rw [h, k]
theorem ret_three {a b c d e f : Value} (h : a = d) (k : b = e) (l : c = f) : Ending.returned (.tuple #[a, b, c]) = .returned (.tuple #[d, e, f]) := by rw [h, k, l]

/-- A store into an old cell, and new memory: in either order. -/
theorem below_store {B : Nat} {w w1 : World} (h : Below B w w1) {a : Addr} (u : Value) (ha : a.block < B) : Below B (w.setCell a u) (w1.setCell a u) := by
  refine ⟨h.os, h.tape, h.output, by simpa using h.size, fun k hk => ?_⟩
  simp only [World.setCell, Array.getElem?_modify]
  split
  · rename_i he; rw [h.block k hk]
  · exact h.block k hk

/-- The worlds that hold all that 'w0' holds, and more: the class for a region that draws its order and whose calls may make memory. -/
structure Ext (w0 : World) where
  w : World
  h : Below w0.heap.size w0 w
instance extNonempty (w0 : World) : Nonempty (Ext w0) := ⟨⟨w0, Below.refl _ _⟩⟩
theorem Ext.cell {w0 : World} (e : Ext w0) {p : Addr} (hb : p.block < w0.heap.size) : e.w.cell? p = w0.cell? p := e.h.cell hb
theorem Ext.frozen {w0 : World} (e : Ext w0) {p : Addr} (hb : p.block < w0.heap.size) : e.w.frozen? p = w0.frozen? p := e.h.frozen hb
attribute [go_sem] Ext.cell Ext.frozen

theorem wp_region_ext {P : Program} {id : Nat} {Q : Exit → Act → World → Prop} {a : Act} {w : World} {l : List Oper} (hm : P.follows .mixedOrders = true) (hB : Region.lexB .any l.toArray = true)
    (h : wpQuiet P l.toArray (fun w' => ∃ e : Ext w, w' = e.w) (fun a' => ∀ w', (∃ e : Ext w, w' = e.w) → Q .normal a' w') l a) : (Code.region id l.toArray true).wp P Q a w :=
  wp_region_quiet (C := fun w' => ∃ e : Ext w, w' = e.w) hm hB ⟨⟨_, (Below.refl _ _).drew⟩, rfl⟩ (by simpa using h)

theorem calls_ext {P : Program} {f : FuncId} {args : Array Value} {w0 : World} {e : Ext w0} {v : Value}
    (h : Calls P f args e.w fun r w' => r = .returned v ∧ Below e.w.heap.size e.w w') : Calls P f args e.w fun r w'' => r = .returned v ∧ ∃ e' : Ext w0, w'' = e'.w :=
  h.mono fun _ w' ⟨hr, hb⟩ => ⟨hr, ⟨⟨w', bcall e.h e.h.size hb⟩, rfl⟩⟩
theorem calls_ext_same {P : Program} {f : FuncId} {args : Array Value} {w0 : World} {e : Ext w0} {v : Value}
    (h : Calls P f args e.w fun r w' => r = .returned v ∧ e.w = w') : Calls P f args e.w fun r w'' => r = .returned v ∧ ∃ e' : Ext w0, w'' = e'.w :=
  h.mono fun _ w' ⟨hr, hb⟩ => ⟨hr, ⟨e, hb.symm⟩⟩

/-- What was read before a call that writes nothing old reads behind it as it did: all arguments. -/
theorem trodAll_below {H : Type} {enc : TypeId × Value → H} {P : Program} (hl : laidOutB P = true) {W W' : World} (hb : Below W.heap.size W W') :
    ∀ (ts : List TypeId) (vs : List Value) (ds : List (DataW H)) (ps : List MemPlace), (∀ t ∈ ts, P.readableRec t = true ∧ t < P.types.size) → (∀ x ∈ ps, x.block < W.heap.size) →
      DataW.TrodAll enc P W 0 (fun _ => true) true ts vs ds ps → DataW.TrodAll enc P W' 0 (fun b => decide (b < W.heap.size)) true ts vs ds ps
  | [], [], [], _, _, _, h => h
  | t :: ts, v :: vs, d :: ds, ps, ht, hlt, h => by
    obtain ⟨p, q, h1, h2, rfl⟩ := h
    exact ⟨p, q, hb.trod hl (ht t (by simp)).1 (ht t (by simp)).2 h1 (fun x hx => hlt x (by simp [hx])),
      trodAll_below hl hb ts vs ds q (fun t' h' => ht t' (by simp [h'])) (fun x hx => hlt x (by simp [hx])) h2, rfl⟩
  | [], _ :: _, _, _, _, _, h => h.elim
  | [], [], _ :: _, _, _, _, h => h.elim
  | _ :: _, [], _, _, _, _, h => h.elim
  | _ :: _, _ :: _, [], _, _, _, h => h.elim

/-- A law's post, out of a walk that returns true and writes nothing old. -/
theorem post_below {H : Type} {enc : TypeId × Value → H} {P : Program} {f : Func} {s : ChangeSpec} {W W' : World} {args : Array Value} {ds : List (DataW H)} {before : List MemPlace} {tb : TypeId}
    (hW : DataW.Whole enc P f.params.toList s.vars false W args.toList ds [] before) (hvars : s.vars = [])
    (hres : (s.fn H (ds ++ [])).results = [.lit (.bool true)]) (hargs : (s.fn H (ds ++ [])).args = ds) (hgs : (s.fn H (ds ++ [])).vars = [])
    (hty : f.resultTypes = #[tb]) (hbool : P.underlying tb = some .bool) (hl : laidOutB P = true)
    (hr : f.params.toList.all (fun t => P.readableRec t && decide (t < P.types.size)) = true) (hb : Below W.heap.size W W') :
    s.post enc P f false true false false W args (.bool true) W' := by
  have hW' := hW
  obtain ⟨p, q, hA, hV, rfl, _, _⟩ := hW
  rw [hvars] at hV
  obtain rfl : q = [] := hV
  have hlt : ∀ x ∈ p, x.block < W.heap.size := fun x hx => hW'.lt x (by simp [hx])
  refine ⟨ds, [], p ++ [], [], p, [], hW', ?_, ?_, ?_, hb.frame _, fun h => by cases h⟩
  · rw [hres, hty]
    exact ⟨[], [], ⟨1, by simp [Value.cells, DataW.trod, hbool]⟩, rfl, rfl⟩
  · rw [hargs]
    refine trodAll_below hl hb _ _ _ _ (fun t ht => ?_) hlt hA
    have := List.all_eq_true.1 hr t ht
    simpa using this
  · rw [hvars, hgs]; rfl

end Go.Proofs.Ytgcbmnohhbcfiaa

namespace Go.Proofs.Ytgcbmnohhbcfiaa
open Go.RowKit
set_option linter.unusedVariables false
set_option linter.unusedSimpArgs false

theorem block_add (a : Addr) (n : Nat) : (a.add n).block = a.block := by unfold Addr.add; split <;> rfl
theorem add_add_ (a : Addr) (i j : Nat) : (a.add i).add j = a.add (i + j) := by
  unfold Addr.add
  by_cases hi : i = 0 <;> by_cases hj : j = 0 <;> simp [hi, hj, Nat.add_assoc]
theorem add_mk (b o j : Nat) : (⟨b, o, none⟩ : Addr).add j = ⟨b, o + j, none⟩ := by
  unfold Addr.add; split
  · rename_i h; subst h; rfl
  · rfl

/-- The slice of address A reads as the integers xs; its cells lie below block B. -/
def Ints (B : Nat) (w : World) (A : Option Addr) (xs : List Int) : Prop :=
  0 < xs.length → ∃ ad, A = some ad ∧ ad.block < B ∧ ∀ k, k < xs.length → w.cell? (ad.add k) = some (.int .i64 (gi xs k))

section
variable {B B' : Nat} {w w' : World} {A : Option Addr} {xs : List Int}
theorem Ints.nil_ : Ints B w A [] := fun h => by simp at h
theorem Ints.at_ {k : Nat} (h : Ints B w A xs) (hk : k < xs.length) : ∃ ad, A = some ad ∧ ad.block < B ∧ w.cell? (ad.add k) = some (.int .i64 (gi xs k)) := by
  obtain ⟨ad, e, hb, hc⟩ := h (by omega)
  exact ⟨ad, e, hb, hc k hk⟩
theorem Ints.keep (h : Ints B w A xs) (hk : ∀ p : Addr, p.block < B → w'.cell? p = w.cell? p) : Ints B w' A xs := fun h0 => by
  obtain ⟨ad, e, hb, hc⟩ := h h0
  exact ⟨ad, e, hb, fun k hk' => (hk _ (by rw [block_add]; exact hb)).trans (hc k hk')⟩
theorem Ints.more (h : Ints B w A xs) (hB : B ≤ B') : Ints B' w A xs := fun h0 => by
  obtain ⟨ad, e, hb, hc⟩ := h h0
  exact ⟨ad, e, by omega, hc⟩
theorem Ints.below (h : Ints B w A xs) (hb : Below B w w') : Ints B w' A xs := h.keep fun _ hp => hb.cell hp
theorem Ints.drew (h : Ints B w A xs) : Ints B w.drew A xs := h
theorem Ints.drewN (h : Ints B w A xs) (k : Nat) : Ints B (w.drewN k) A xs := h
theorem Ints.next (h : Ints w.heap.size w A xs) (hb : Below w.heap.size w w') : Ints w'.heap.size w' A xs := (h.below hb).more hb.size
theorem Ints.of_own {base : Nat} {e : TypeId} {n c : Nat} (h : w.ownsRow base e 1 (.slice A n c) n (xs.map (Value.int .i64))) : Ints w.heap.size w A xs ∧ n = xs.length := by
  have hl : n = xs.length := by have := h.1; simpa using this.symm
  refine ⟨fun h0 => ?_, hl⟩
  obtain ⟨g, cap, hv, _, hlt⟩ := h.form (by omega)
  have hA : A = some ⟨g, 0, none⟩ := by injection hv
  subst hA
  refine ⟨_, rfl, hlt, fun k hk => h.cells (g := g) rfl k _ ?_⟩
  rw [List.getElem?_map, List.getElem?_eq_getElem hk]
  simp [gi_get hk]
end

/-- The slice of address A reads as the lists bs; all cells lie below block B. -/
def IntRows (B : Nat) (w : World) (A : Option Addr) (bs : List (List Int)) : Prop :=
  0 < bs.length → ∃ ad, A = some ad ∧ ad.block < B ∧ ∀ i, i < bs.length → ∃ (R : Option Addr) (c : Nat), w.cell? (ad.add i) = some (.slice R (gr bs i).length c) ∧ (gr bs i).length ≤ c ∧ c ≤ maxLen ∧ Ints B w R (gr bs i)

section
variable {B B' : Nat} {w w' : World} {A : Option Addr} {bs : List (List Int)}
theorem IntRows.at_ {i : Nat} (h : IntRows B w A bs) (hi : i < bs.length) : ∃ (ad : Addr) (R : Option Addr) (c : Nat), A = some ad ∧ ad.block < B ∧ w.cell? (ad.add i) = some (.slice R (gr bs i).length c) ∧ (gr bs i).length ≤ c ∧ c ≤ maxLen ∧ Ints B w R (gr bs i) := by
  obtain ⟨ad, e, hb, hc⟩ := h (by omega)
  obtain ⟨R, c, r⟩ := hc i hi
  exact ⟨ad, R, c, e, hb, r⟩
theorem IntRows.keep (h : IntRows B w A bs) (hk : ∀ p : Addr, p.block < B → w'.cell? p = w.cell? p) : IntRows B w' A bs := fun h0 => by
  obtain ⟨ad, e, hb, hc⟩ := h h0
  refine ⟨ad, e, hb, fun i hi => ?_⟩
  obtain ⟨R, c, r1, r2, r3, r4⟩ := hc i hi
  exact ⟨R, c, (hk _ (by rw [block_add]; exact hb)).trans r1, r2, r3, r4.keep hk⟩
theorem IntRows.more (h : IntRows B w A bs) (hB : B ≤ B') : IntRows B' w A bs := fun h0 => by
  obtain ⟨ad, e, hb, hc⟩ := h h0
  refine ⟨ad, e, by omega, fun i hi => ?_⟩
  obtain ⟨R, c, r1, r2, r3, r4⟩ := hc i hi
  exact ⟨R, c, r1, r2, r3, r4.more hB⟩
theorem IntRows.below (h : IntRows B w A bs) (hb : Below B w w') : IntRows B w' A bs := h.keep fun _ hp => hb.cell hp
theorem IntRows.next (h : IntRows w.heap.size w A bs) (hb : Below w.heap.size w w') : IntRows w'.heap.size w' A bs := (h.below hb).more hb.size
theorem IntRows.drew (h : IntRows B w A bs) : IntRows B w.drew A bs := h
theorem IntRows.drewN (h : IntRows B w A bs) (k : Nat) : IntRows B (w.drewN k) A bs := h
end

theorem lt_some {w : World} {g : Nat} {o : Obj} (h : w.heap[g]? = some o) : g < w.heap.size := by
  rw [Array.getElem?_eq_some_iff] at h; exact h.1
theorem heap_new {w : World} {g : Nat} {o : Obj} (h : g = w.heap.size) : (w.alloc o).heap[g]? = some o := by subst h; exact heap_alloc_new w o
theorem heap_old {w : World} {g : Nat} {o o' : Obj} (h : w.heap[g]? = some o) : (w.alloc o').heap[g]? = some o := by rw [Below.heap_alloc _ _ _ (lt_some h)]; exact h
theorem heap_ext {w w1 : World} {g : Nat} {o : Obj} (h : w.heap[g]? = some o) (hb : Below w.heap.size w w1) : w1.heap[g]? = some o := by rw [hb.block _ (lt_some h)]; exact h
theorem heap_below {B : Nat} {w w1 : World} {g : Nat} {o : Obj} (h : w.heap[g]? = some o) (hb : Below B w w1) (hg : g < B) : w1.heap[g]? = some o := by rw [hb.block _ hg]; exact h
theorem heap_set {w : World} {g j : Nat} {u : Value} {cs : Array Value} {e : TypeId} {fr : Nat × Nat} (h : w.heap[g]? = some (.cells cs e fr)) : (w.setCell ⟨g, j, none⟩ u).heap[g]? = some (.cells (cs.setIfInBounds j u) e fr) := by
  simp [World.setCell, Array.getElem?_modify, h]
theorem heap_set_ne {w : World} {g g' j : Nat} {u : Value} (h : g' ≠ g) : (w.setCell ⟨g, j, none⟩ u).heap[g']? = w.heap[g']? := by
  simp [World.setCell, Array.getElem?_modify, Ne.symm h]
theorem ownsRow_ext {w w1 : World} {base : Nat} {e : TypeId} {size : Nat} {v : Value} {n : Nat} {xs : List Value} (h : w.ownsRow base e size v n xs) (hb : Below w.heap.size w w1) : w1.ownsRow base e size v n xs := by
  obtain ⟨h1, h2⟩ := h
  refine ⟨h1, ?_⟩
  rcases h2 with h2 | ⟨g, cap, cur, hv, hg, hh, r⟩
  · exact Or.inl h2
  · exact Or.inr ⟨g, cap, cur, hv, hg, by rw [hb.block g (lt_some hh)]; exact hh, r⟩
theorem ownsRow_base {w : World} {base base' : Nat} {e : TypeId} {size : Nat} {v : Value} {n : Nat} {xs : List Value} (h : w.ownsRow base e size v n xs) (hb : base' ≤ base) : w.ownsRow base' e size v n xs := by
  obtain ⟨h1, h2⟩ := h
  refine ⟨h1, ?_⟩
  rcases h2 with h2 | ⟨g, cap, cur, hv, hg, r⟩
  · exact Or.inl h2
  · exact Or.inr ⟨g, cap, cur, hv, by omega, r⟩
theorem getD_map_int (l : List Int) (k : Nat) : (l.map (Value.int .i64)).getD k (.int .i64 0) = .int .i64 (gi l k) := by
  simp only [gi, List.getD_eq_getElem?_getD, List.getElem?_map]; cases l[k]? <;> rfl

end Go.Proofs.Ytgcbmnohhbcfiaa

namespace Go.Proofs.Ytgcbmnohhbcfiaa
open Go.RowKit
set_option linter.unusedVariables false
set_option linter.unusedSimpArgs false

theorem one_alloc (w : World) (o : Obj) : Below w.heap.size w (w.alloc o) := (Below.refl _ _).alloc (Nat.le_refl _) o
theorem below_drewN {B : Nat} {w w1 : World} (h : Below B w w1) (n : Nat) : Below B w (w1.drewN n) := ⟨h.os, h.tape, h.output, h.size, h.block⟩

set_option maxHeartbeats 1000000 in
theorem gcd_any (a b : Int) (w : World) (ha : 0 ≤ a) (hb : 0 ≤ b) (ha' : a ≤ 18446744073709551615) (hb' : b ≤ 18446744073709551615) :
    Calls Try.prog 98 #[.int .u64 a, .int .u64 b] w fun e w' => e = .returned (.int .u64 (gcdI a b)) ∧ Below w.heap.size w w' := by
  go_enter Try.func98, Try.ntmps98
  go_wp2_with fail
  go_loopw [0, 1] (fun x y wr => ∃ p q : Int, 0 ≤ p ∧ 0 ≤ q ∧ p ≤ 18446744073709551615 ∧ q ≤ 18446744073709551615 ∧ x = .int .u64 p ∧ y = .int .u64 q ∧ Hid (gcdI p q = gcdI a b) ∧ Below w.heap.size w wr) (fun _ y _ => (intOf y).toNat)
  case atStart => exact ⟨a, b, ha, hb, ha', hb', rfl, rfl, Lib.hid rfl, Below.refl _ _⟩
  case round =>
    obtain ⟨p, q, hp, hq, hp', hq', rfl, rfl, hg, hB⟩ := hrel
    by_cases h0 : 0 < q
    · have hm := Int.emod_nonneg p (show q ≠ 0 by omega)
      have hm2 := Int.emod_lt_of_pos p h0
      have HG := Lib.hid (show gcdI q (p % q) = gcdI a b by rw [gcdI_step hp hq]; exact hg.out)
      clear hg
      go_wp2_with fail
      go_quiet (fail)
      go_wp2_with fail
      go_roundw
      case rel => exact ⟨q, p % q, hq, hm, hq', by omega, rfl, rfl, HG, below_drewN hB _⟩
      case measure => simp [intOf]; omega
    · obtain rfl : q = 0 := by omega
      have HG := Lib.hid (show p = gcdI a b by rw [← hg.out, gcdI_zero hp])
      clear hg
      go_wp2_with fail
      go_ret
      exact ⟨ret_int HG.out, hB⟩

theorem size_any (n : Int) (w : World) (h : -9223372036854775808 ≤ n) (k : n ≤ 9223372036854775807) :
    Calls Try.prog 100 #[.int .i64 n] w fun e w' => e = .returned (.int .u64 (absI n)) ∧ Below w.heap.size w w' := by
  by_cases h0 : n < 0
  · have HA := Lib.hid (absI_neg h0)
    go_enter Try.func100, Try.ntmps100
    go_wp2_with fail
    go_ret
    exact ⟨ret_int (by rw [HA.out]; simp only [IntKind.wrap_u64]; omega), Below.refl _ _⟩
  · have HA := Lib.hid (absI_pos (by omega : 0 ≤ n))
    go_enter Try.func100, Try.ntmps100
    go_wp2_with fail
    go_ret
    exact ⟨ret_int (by rw [HA.out]; try (simp only [IntKind.wrap_u64]; omega)), Below.refl _ _⟩

abbrev rV (a : Rt) : Value := .agg #[.int .i64 a.n, .int .i64 a.d]
abbrev rB (a : Rt) : Obj := .cells #[.int .i64 a.n, .int .i64 a.d] 37

set_option maxRecDepth 100000 in
set_option maxHeartbeats 1000000 in
theorem rcheck_any (a : Rt) (h : a.wf) (w : World) :
    Calls Try.prog 89 #[rV a] w fun e w' => e = .returned (.int .i64 a.code) ∧ Below w.heap.size w w' := by
  have hbx : (w.alloc (rB a)).heap[w.heap.size]? = some (rB a) := heap_new rfl
  have cbx := fun j => cell_of_row _ _ j _ _ _ hbx
  have hB := one_alloc w (rB a)
  have z0 := lt_some hbx
  obtain ⟨n, d⟩ := a
  have h0 := h.n0; have h1 := h.n1; have h2 := h.d0; have h3 := h.d1
  simp only at h0 h1 h2 h3 hbx cbx hB z0
  unfold rV
  simp only
  by_cases q : d < 1
  · have HC := Lib.hid (Rt.bad1 (a := ⟨n, d⟩) q)
    have q1 : decide (d < 1) = true := by simpa using q
    clear q h hbx
    go_enter Try.func89, Try.ntmps89
    go_wp2_with fail
    generalize w.alloc _ = w2 at cbx z0 hB ⊢
    refine wp_region_ext (by kernel_rfl) (by kernel_rfl) ?_
    repeat (first | go_big_quiet_step (fail) | quiet_step (fail))
    refine wpQuiet_nil ?_
    rintro _ ⟨⟨w5, hb5⟩, rfl⟩
    go_wp2_with fail
    go_ret
    exact ⟨ret_int HC.out.symm, bcall hB hB.size hb5⟩
  have q1 : decide (d < 1) = false := by simpa using q
  have e1 : IntKind.u64.wrap d = d := IntWalk.u64_in _ (by omega)
  have a0 := absI_nonneg n
  have a1 := absI_lt h0 h1
  have HG := Lib.hid (fun (W : World) => gcd_any (absI n) d W a0 (by omega) (by omega) (by omega))
  have HS := Lib.hid (fun (W : World) => size_any n W h0 h1)
  rw [gcdI_abs] at HG
  have em : (if absI n < d then d else absI n) = maxI (absI n) d := rfl
  have dpos : 1 ≤ d := by omega
  clear hbx h
  by_cases qm : 1000000000000000000 < maxI (absI n) d
  · have HC := Lib.hid (Rt.bad2 (a := ⟨n, d⟩) (by simp only; omega) qm)
    have q2 : decide (1000000000000000000 < maxI (absI n) d) = true := by simpa using qm
    generalize maxI (absI n) d = mx at em q2
    clear q qm
    go_enter Try.func89, Try.ntmps89
    go_wp2_with fail
    generalize w.alloc _ = w2 at cbx z0 hB ⊢
    refine wp_region_ext (by kernel_rfl) (by kernel_rfl) ?_
    repeat (first | go_big_quiet_step ((first | (go_at_call 100; exact calls_ext (HS.out _)) | (go_at_call 98; exact calls_ext (HG.out _)))) | quiet_step ((first | (go_at_call 100; exact calls_ext (HS.out _)) | (go_at_call 98; exact calls_ext (HG.out _)))))
    refine wpQuiet_nil ?_
    rintro _ ⟨⟨w5, hb5⟩, rfl⟩
    go_wp2_with fail
    go_ret
    exact ⟨ret_int HC.out.symm, bcall hB hB.size hb5⟩
  have q2 : decide (1000000000000000000 < maxI (absI n) d) = false := by simpa using qm
  by_cases qg : 1 < gcdI n d
  · have HC := Lib.hid (Rt.bad3 (a := ⟨n, d⟩) qg)
    have q3 : decide (1 < gcdI n d) = true := by simpa using qg
    generalize maxI (absI n) d = mx at em q2
    clear q qm qg
    go_enter Try.func89, Try.ntmps89
    go_wp2_with fail
    generalize w.alloc _ = w2 at cbx z0 hB ⊢
    refine wp_region_ext (by kernel_rfl) (by kernel_rfl) ?_
    repeat (first | go_big_quiet_step ((first | (go_at_call 100; exact calls_ext (HS.out _)) | (go_at_call 98; exact calls_ext (HG.out _)))) | quiet_step ((first | (go_at_call 100; exact calls_ext (HS.out _)) | (go_at_call 98; exact calls_ext (HG.out _)))))
    refine wpQuiet_nil ?_
    rintro _ ⟨⟨w5, hb5⟩, rfl⟩
    go_wp2_with fail
    go_ret
    exact ⟨ret_int HC.out.symm, bcall hB hB.size hb5⟩
  · have HC := Lib.hid (Rt.good (a := ⟨n, d⟩) (by simp only; omega) (by simp only; omega) (by simp only; omega))
    have q3 : decide (1 < gcdI n d) = false := by simpa using qg
    generalize maxI (absI n) d = mx at em q2
    clear q qm qg
    go_enter Try.func89, Try.ntmps89
    go_wp2_with fail
    generalize w.alloc _ = w2 at cbx z0 hB ⊢
    refine wp_region_ext (by kernel_rfl) (by kernel_rfl) ?_
    repeat (first | go_big_quiet_step ((first | (go_at_call 100; exact calls_ext (HS.out _)) | (go_at_call 98; exact calls_ext (HG.out _)))) | quiet_step ((first | (go_at_call 100; exact calls_ext (HS.out _)) | (go_at_call 98; exact calls_ext (HG.out _)))))
    refine wpQuiet_nil ?_
    rintro _ ⟨⟨w5, hb5⟩, rfl⟩
    go_wp2_with fail
    go_ret
    exact ⟨ret_int HC.out.symm, bcall hB hB.size hb5⟩
/-- What 'signed' makes of a sign and two numbers. -/
def signR (m : Bool) (n d : Int) : Rt := if 1000000000000000000 < maxI n d then ⟨0, 0⟩ else if m then ⟨-n, d⟩ else ⟨n, d⟩
def signC (n d : Int) : Int := if 1000000000000000000 < maxI n d then 16 else 0
set_option maxHeartbeats 1000000 in
theorem signed_any (m : Bool) (n d : Int) (w : World) (hn : 0 ≤ n) (hn' : n ≤ 18446744073709551615) (hd : 0 ≤ d) (hd' : d ≤ 18446744073709551615) :
    Calls Try.prog 105 #[.bool m, .int .u64 n, .int .u64 d] w fun e w' => e = .returned (.tuple #[rV (signR m n d), .int .i64 (signC n d)]) ∧ Below w.heap.size w w' := by
  have em : (if n < d then d else n) = maxI n d := rfl
  by_cases q : 1000000000000000000 < maxI n d
  · have HR := Lib.hid (show signR m n d = ⟨0, 0⟩ by unfold signR; rw [if_pos q])
    have HC := Lib.hid (show signC n d = 16 by unfold signC; rw [if_pos q])
    have q1 : decide (1000000000000000000 < maxI n d) = true := by simpa using q
    rw [HR.out, HC.out]
    generalize maxI n d = mx at em q1
    clear q
    go_enter Try.func105, Try.ntmps105
    go_wp2_with fail
    exact bodyPost_ret (v := .tuple #[.agg #[.int .i64 0, .int .i64 0], .int .i64 16]) (by simp [results, Try.results105, go_sem]) rfl ⟨rfl, (Below.refl _ _).alloc (Nat.le_refl _) _⟩
  · have HC := Lib.hid (show signC n d = 0 by unfold signC; rw [if_neg q])
    have q1 : decide (1000000000000000000 < maxI n d) = false := by simpa using q
    have b1 : n ≤ 1000000000000000000 ∧ d ≤ 1000000000000000000 := by unfold maxI at q; split at q <;> omega
    obtain ⟨b1, b2⟩ := b1
    have e1 : IntKind.i64.wrap n = n := IntWalk.i64_in _ (by omega)
    have e2 : IntKind.i64.wrap d = d := IntWalk.i64_in _ (by omega)
    have e3 : IntKind.i64.wrap (-n) = -n := IntWalk.i64_in _ (by omega)
    rw [HC.out]
    cases m
    · have HR := Lib.hid (show signR false n d = ⟨n, d⟩ by unfold signR; rw [if_neg q]; rfl)
      rw [HR.out]
      generalize maxI n d = mx at em q1
      clear q
      go_enter Try.func105, Try.ntmps105
      go_wp2_with fail
      exact bodyPost_ret (v := .tuple #[.agg #[.int .i64 n, .int .i64 d], .int .i64 0]) (by simp [results, Try.results105, go_sem]) rfl ⟨rfl, (Below.refl _ _).alloc (Nat.le_refl _) _⟩
    · have HR := Lib.hid (show signR true n d = ⟨-n, d⟩ by unfold signR; rw [if_neg q]; rfl)
      rw [HR.out]
      generalize maxI n d = mx at em q1
      clear q
      go_enter Try.func105, Try.ntmps105
      go_wp2_with fail
      exact bodyPost_ret (v := .tuple #[.agg #[.int .i64 (-n), .int .i64 d], .int .i64 0]) (by simp [results, Try.results105, go_sem]) rfl ⟨rfl, (Below.refl _ _).alloc (Nat.le_refl _) _⟩
end Go.Proofs.Ytgcbmnohhbcfiaa

namespace Go.Proofs.Ytgcbmnohhbcfiaa
open Go.RowKit
set_option linter.unusedVariables false
set_option linter.unusedSimpArgs false

set_option maxHeartbeats 1000000 in
theorem fgcd_any (a b : Int) (w : World) (ha : 0 ≤ a) (hb : 0 ≤ b) (ha' : a ≤ 18446744073709551615) (hb' : b ≤ 18446744073709551615) :
    Calls Try.prog 87 #[.int .u64 a, .int .u64 b] w fun e w' => e = .returned (.int .u64 (gcdI a b)) ∧ Below w.heap.size w w' := by
  go_enter Try.func87, Try.ntmps87
  go_wp2_with fail
  go_loopw [0, 1] (fun x y wr => ∃ p q : Int, 0 ≤ p ∧ 0 ≤ q ∧ p ≤ 18446744073709551615 ∧ q ≤ 18446744073709551615 ∧ x = .int .u64 p ∧ y = .int .u64 q ∧ Hid (gcdI p q = gcdI a b) ∧ Below w.heap.size w wr) (fun _ y _ => (intOf y).toNat)
  case atStart => exact ⟨a, b, ha, hb, ha', hb', rfl, rfl, Lib.hid rfl, Below.refl _ _⟩
  case round =>
    obtain ⟨p, q, hp, hq, hp', hq', rfl, rfl, hg, hB⟩ := hrel
    by_cases h0 : 0 < q
    · have hm := Int.emod_nonneg p (show q ≠ 0 by omega)
      have hm2 := Int.emod_lt_of_pos p h0
      have HG := Lib.hid (show gcdI q (p % q) = gcdI a b by rw [gcdI_step hp hq]; exact hg.out)
      clear hg
      go_wp2_with fail
      go_quiet (fail)
      go_wp2_with fail
      go_roundw
      case rel => exact ⟨q, p % q, hq, hm, hq', by omega, rfl, rfl, HG, below_drewN hB _⟩
      case measure => simp [intOf]; omega
    · obtain rfl : q = 0 := by omega
      have HG := Lib.hid (show p = gcdI a b by rw [← hg.out, gcdI_zero hp])
      clear hg
      go_wp2_with fail
      go_ret
      exact ⟨ret_int HG.out, hB⟩

theorem fabs_any (n : Int) (w : World) (h : -9223372036854775808 ≤ n) (k : n ≤ 9223372036854775807) :
    Calls Try.prog 88 #[.int .i64 n] w fun e w' => e = .returned (.int .u64 (absI n)) ∧ Below w.heap.size w w' := by
  by_cases h0 : n < 0
  · have HA := Lib.hid (absI_neg h0)
    have w1 : IntKind.i64.wrap (n + 1) = n + 1 := IntWalk.i64_in _ (by omega)
    have w2 : IntKind.i64.wrap (-(n + 1)) = -(n + 1) := IntWalk.i64_in _ (by omega)
    have w3 : IntKind.u64.wrap (-(n + 1)) = -(n + 1) := IntWalk.u64_in _ (by omega)
    have w4 : IntKind.u64.wrap (-(n + 1) + 1) = -(n + 1) + 1 := IntWalk.u64_in _ (by omega)
    go_enter Try.func88, Try.ntmps88
    go_wp2_with fail
    go_ret
    exact ⟨ret_int (by rw [HA.out]; omega), Below.refl _ _⟩
  · have HA := Lib.hid (absI_pos (by omega : 0 ≤ n))
    go_enter Try.func88, Try.ntmps88
    go_wp2_with fail
    go_ret
    exact ⟨ret_int (by rw [HA.out]; try (simp only [IntKind.wrap_u64]; omega)), Below.refl _ _⟩

set_option maxRecDepth 100000 in
set_option maxHeartbeats 1000000 in
theorem fcheck_any (a : Rt) (h : a.wf) (w : World) :
    Calls Try.prog 30 #[rV a] w fun e w' => e = .returned (.int .i64 a.code) ∧ Below w.heap.size w w' := by
  have hbx : (w.alloc (rB a)).heap[w.heap.size]? = some (rB a) := heap_new rfl
  have cbx := fun j => cell_of_row _ _ j _ _ _ hbx
  have hB := one_alloc w (rB a)
  have z0 := lt_some hbx
  obtain ⟨n, d⟩ := a
  have h0 := h.n0; have h1 := h.n1; have h2 := h.d0; have h3 := h.d1
  simp only at h0 h1 h2 h3 hbx cbx hB z0
  unfold rV
  simp only
  by_cases q : d < 1
  · have HC := Lib.hid (Rt.bad1 (a := ⟨n, d⟩) q)
    have q1 : decide (d < 1) = true := by simpa using q
    clear q h hbx
    go_enter Try.func30, Try.ntmps30
    go_wp2_with fail
    generalize w.alloc _ = w2 at cbx z0 hB ⊢
    refine wp_region_ext (by kernel_rfl) (by kernel_rfl) ?_
    repeat (first | go_big_quiet_step (fail) | quiet_step (fail))
    refine wpQuiet_nil ?_
    rintro _ ⟨⟨w5, hb5⟩, rfl⟩
    go_wp2_with fail
    go_ret
    exact ⟨ret_int HC.out.symm, bcall hB hB.size hb5⟩
  have q1 : decide (d < 1) = false := by simpa using q
  have e1 : IntKind.u64.wrap d = d := IntWalk.u64_in _ (by omega)
  have a0 := absI_nonneg n
  have a1 := absI_lt h0 h1
  have HG := Lib.hid (fun (W : World) => fgcd_any (absI n) d W a0 (by omega) (by omega) (by omega))
  have HS := Lib.hid (fun (W : World) => fabs_any n W h0 h1)
  rw [gcdI_abs] at HG
  have dpos : 1 ≤ d := by omega
  clear hbx h q
  by_cases k1 : 1000000000000000000 < d
  · have HC := Lib.hid (Rt.bad2 (a := ⟨n, d⟩) (by simp only; omega) (by simp only; unfold maxI; split <;> omega))
    have t1 : decide (1000000000000000000 < d) = true := by simpa using k1
    clear k1
    go_enter Try.func30, Try.ntmps30
    go_wp2_with fail
    generalize w.alloc _ = w2 at cbx z0 hB ⊢
    refine wp_region_ext (by kernel_rfl) (by kernel_rfl) ?_
    repeat (first | go_big_quiet_step ((first | (go_at_call 88; exact calls_ext (HS.out _)) | (go_at_call 87; exact calls_ext (HG.out _)))) | quiet_step ((first | (go_at_call 88; exact calls_ext (HS.out _)) | (go_at_call 87; exact calls_ext (HG.out _)))))
    refine wpQuiet_nil ?_
    rintro _ ⟨⟨w5, hb5⟩, rfl⟩
    go_wp2_with fail
    go_ret
    exact ⟨ret_int HC.out.symm, bcall hB hB.size hb5⟩
  have t1 : decide (1000000000000000000 < d) = false := by simpa using k1
  by_cases k2 : n < -1000000000000000000
  · have HC := Lib.hid (Rt.bad2 (a := ⟨n, d⟩) (by simp only; omega) (by simp only; unfold maxI absI; split <;> omega))
    have t2 : decide (n < -1000000000000000000) = true := by simpa using k2
    clear k1 k2
    go_enter Try.func30, Try.ntmps30
    go_wp2_with fail
    generalize w.alloc _ = w2 at cbx z0 hB ⊢
    refine wp_region_ext (by kernel_rfl) (by kernel_rfl) ?_
    repeat (first | go_big_quiet_step ((first | (go_at_call 88; exact calls_ext (HS.out _)) | (go_at_call 87; exact calls_ext (HG.out _)))) | quiet_step ((first | (go_at_call 88; exact calls_ext (HS.out _)) | (go_at_call 87; exact calls_ext (HG.out _)))))
    refine wpQuiet_nil ?_
    rintro _ ⟨⟨w5, hb5⟩, rfl⟩
    go_wp2_with fail
    go_ret
    exact ⟨ret_int HC.out.symm, bcall hB hB.size hb5⟩
  have t2 : decide (n < -1000000000000000000) = false := by simpa using k2
  by_cases k3 : 1000000000000000000 < n
  · have HC := Lib.hid (Rt.bad2 (a := ⟨n, d⟩) (by simp only; omega) (by simp only; unfold maxI absI; split <;> omega))
    have t3 : decide (1000000000000000000 < n) = true := by simpa using k3
    clear k1 k2 k3
    go_enter Try.func30, Try.ntmps30
    go_wp2_with fail
    generalize w.alloc _ = w2 at cbx z0 hB ⊢
    refine wp_region_ext (by kernel_rfl) (by kernel_rfl) ?_
    repeat (first | go_big_quiet_step ((first | (go_at_call 88; exact calls_ext (HS.out _)) | (go_at_call 87; exact calls_ext (HG.out _)))) | quiet_step ((first | (go_at_call 88; exact calls_ext (HS.out _)) | (go_at_call 87; exact calls_ext (HG.out _)))))
    refine wpQuiet_nil ?_
    rintro _ ⟨⟨w5, hb5⟩, rfl⟩
    go_wp2_with fail
    go_ret
    exact ⟨ret_int HC.out.symm, bcall hB hB.size hb5⟩
  have t3 : decide (1000000000000000000 < n) = false := by simpa using k3
  have gp := gcdI_pos (a := n) (b := d) (by omega)
  by_cases k4 : gcdI n d = 1
  · have HC := Lib.hid (Rt.good (a := ⟨n, d⟩) (by simp only; omega) (by simp only; unfold maxI absI; split <;> omega) (by simp only; omega))
    have t4 : (gcdI n d != 1) = false := by simpa using k4
    clear k1 k2 k3 k4 gp
    go_enter Try.func30, Try.ntmps30
    go_wp2_with fail
    generalize w.alloc _ = w2 at cbx z0 hB ⊢
    refine wp_region_ext (by kernel_rfl) (by kernel_rfl) ?_
    repeat (first | go_big_quiet_step ((first | (go_at_call 88; exact calls_ext (HS.out _)) | (go_at_call 87; exact calls_ext (HG.out _)))) | quiet_step ((first | (go_at_call 88; exact calls_ext (HS.out _)) | (go_at_call 87; exact calls_ext (HG.out _)))))
    refine wpQuiet_nil ?_
    rintro _ ⟨⟨w5, hb5⟩, rfl⟩
    go_wp2_with fail
    go_ret
    exact ⟨ret_int HC.out.symm, bcall hB hB.size hb5⟩
  · have HC := Lib.hid (Rt.bad3 (a := ⟨n, d⟩) (by simp only; omega))
    have t4 : (gcdI n d != 1) = true := by simpa using k4
    clear k1 k2 k3 k4 gp
    go_enter Try.func30, Try.ntmps30
    go_wp2_with fail
    generalize w.alloc _ = w2 at cbx z0 hB ⊢
    refine wp_region_ext (by kernel_rfl) (by kernel_rfl) ?_
    repeat (first | go_big_quiet_step ((first | (go_at_call 88; exact calls_ext (HS.out _)) | (go_at_call 87; exact calls_ext (HG.out _)))) | quiet_step ((first | (go_at_call 88; exact calls_ext (HS.out _)) | (go_at_call 87; exact calls_ext (HG.out _)))))
    refine wpQuiet_nil ?_
    rintro _ ⟨⟨w5, hb5⟩, rfl⟩
    go_wp2_with fail
    go_ret
    exact ⟨ret_int HC.out.symm, bcall hB hB.size hb5⟩

set_option maxRecDepth 100000 in
set_option maxHeartbeats 2000000 in
theorem fboth_any (a b : Rt) (h : a.wf) (k : b.wf) (w : World) :
    Calls Try.prog 136 #[rV a, rV b] w fun e w' => e = .returned (.int .i64 (code2 a b)) ∧ Below w.heap.size w w' := by
  have HA := Lib.hid (fun (W : World) => fcheck_any a h W)
  have HB := Lib.hid (fun (W : World) => fcheck_any b k W)
  have hb1 : ((w.alloc (rB a)).alloc (rB b)).heap[w.heap.size]? = some (rB a) := heap_old (heap_new rfl)
  have hb2 : ((w.alloc (rB a)).alloc (rB b)).heap[w.heap.size + 1]? = some (rB b) := heap_new (by simp)
  have hBe : Below w.heap.size w ((w.alloc (rB a)).alloc (rB b)) := (one_alloc w (rB a)).alloc (by simp) _
  by_cases h0 : a.code = 0
  · have HC := Lib.hid (show code2 a b = b.code by unfold code2; rw [if_neg (by simpa using h0)])
    rw [h0] at HA
    clear h k h0
    generalize b.code = cb at HB HC
    go_enter Try.func136, Try.ntmps136
    go_wp2_with fail
    refine (HA.out _).mono ?_
    rintro e w1 ⟨rfl, hb⟩
    have hb3 := bcall hBe hBe.size hb
    have c2 := fun j => cell_of_row _ _ j _ _ _ (heap_ext hb2 hb)
    go_wp2_with fail
    refine (HB.out _).mono ?_
    rintro e w2 ⟨rfl, hb4⟩
    go_wp2_with fail
    go_ret
    exact ⟨ret_int HC.out.symm, bcall hb3 hb3.size hb4⟩
  · have HC := Lib.hid (show code2 a b = a.code by unfold code2; rw [if_pos h0])
    have q : (a.code != 0) = true := by simpa using h0
    clear h k h0
    generalize a.code = ca at HA HC q
    go_enter Try.func136, Try.ntmps136
    go_wp2_with fail
    refine (HA.out _).mono ?_
    rintro e w1 ⟨rfl, hb⟩
    have hb3 := bcall hBe hBe.size hb
    have c2 := fun j => cell_of_row _ _ j _ _ _ (heap_ext hb1 hb)
    go_wp2_with fail
    refine (HA.out _).mono ?_
    rintro e w2 ⟨rfl, hb4⟩
    go_wp2_with fail
    go_ret
    exact ⟨ret_int HC.out.symm, bcall hb3 hb3.size hb4⟩
end Go.Proofs.Ytgcbmnohhbcfiaa
