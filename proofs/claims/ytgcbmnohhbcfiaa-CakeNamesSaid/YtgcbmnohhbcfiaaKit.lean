/- Small lemmas of our own on worlds, used in all walks of this seat. -/
import Derived.Test.YtgcbmnohhbcfiaaRows
import Derived.WalkKit
import Derived.WalkSpells
import Derived.WalkLawsBesides
import Derived.Deep.Light
import Derived.Deep.QuietTactic
import Derived.BigQuiet
import Derived.Lib.Hide
import Derived.StillTailTactics
import Derived.Deep.DeepMust
import Derived.ProofKit
import Derived.OpenShut
namespace Go.Proofs.Ytgcbmnohhbcfiaa
open Go.RowKit Go.ChangeShapes Go.WideShapes Go.ChangeAt
set_option linter.unusedVariables false
set_option linter.unusedSimpArgs false

theorem bcell {W w1 : World} (hb : Below W.heap.size W w1) : (∀ b o, b < W.heap.size → w1.cell? ⟨b, o, none⟩ = W.cell? ⟨b, o, none⟩) ∧ (∀ b o, b < W.heap.size → w1.frozen? ⟨b, o, none⟩ = W.frozen? ⟨b, o, none⟩) :=
  ⟨fun b o h => hb.cell (p := ⟨b, o, none⟩) h, fun b o h => hb.frozen (p := ⟨b, o, none⟩) h⟩
theorem bcall {B : Nat} {w W w1 : World} (h : Below B w W) (hB : B ≤ W.heap.size) (hb : Below W.heap.size W w1) : Below B w w1 := h.trans (hb.mono hB)
theorem vint {k : IntKind} {a b : Int} (h : a = b) : Value.int k a = .int k b := by rw [h]
theorem vbool {a b : Bool} (h : a = b) : Value.bool a = .bool b := by rw [h]
theorem ret_int {k : IntKind} {a b : Int} (h : a = b) : Ending.returned (.int k a) = .returned (.int k b) := by rw [h]
theorem ret_bool {a b : Bool} (h : a = b) : Ending.returned (.bool a) = .returned (.bool b) := by rw [h]
theorem ret_two {a b c d : Value} (h : a = c) (k : b = d) : Ending.returned (.tuple #[a, b]) = .returned (.tuple #[c, d]) := by rw [h, k]
theorem ret_three {a b c d e f : Value} (h : a = d) (k : b = e) (l : c = f) : Ending.returned (.tuple #[a, b, c]) = .returned (.tuple #[d, e, f]) := by rw [h, k, l]

/-- A store into an old cell, and new memory: in either order. -/
theorem below_store {B : Nat} {w w1 : World} (h : Below B w w1) {a : Addr} (u : Value) (ha : a.block < B) : Below B (w.setCell a u) (w1.setCell a u) := by
  refine ⟨h.os, h.tape, h.output, by simpa using h.size, fun k hk => ?_⟩
  simp only [World.setCell, Array.getElem?_modify]
  split
  · rename_i he; rw [h.block k hk]
  · exact h.block k hk

/-- The worlds that hold all that 'w0' holds, and more: the class for a region that draws its order and whose calls may make memory. -/
structure Ext (w0 : World) where
  w : World
  h : Below w0.heap.size w0 w
instance extNonempty (w0 : World) : Nonempty (Ext w0) := ⟨⟨w0, Below.refl _ _⟩⟩
theorem Ext.cell {w0 : World} (e : Ext w0) {p : Addr} (hb : p.block < w0.heap.size) : e.w.cell? p = w0.cell? p := e.h.cell hb
theorem Ext.frozen {w0 : World} (e : Ext w0) {p : Addr} (hb : p.block < w0.heap.size) : e.w.frozen? p = w0.frozen? p := e.h.frozen hb
attribute [go_sem] Ext.cell Ext.frozen

theorem wp_region_ext {P : Program} {id : Nat} {Q : Exit → Act → World → Prop} {a : Act} {w : World} {l : List Oper} (hm : P.follows .mixedOrders = true) (hB : Region.lexB .any l.toArray = true)
    (h : wpQuiet P l.toArray (fun w' => ∃ e : Ext w, w' = e.w) (fun a' => ∀ w', (∃ e : Ext w, w' = e.w) → Q .normal a' w') l a) : (Code.region id l.toArray true).wp P Q a w :=
  wp_region_quiet (C := fun w' => ∃ e : Ext w, w' = e.w) hm hB ⟨⟨_, (Below.refl _ _).drew⟩, rfl⟩ (by simpa using h)

theorem calls_ext {P : Program} {f : FuncId} {args : Array Value} {w0 : World} {e : Ext w0} {v : Value}
    (h : Calls P f args e.w fun r w' => r = .returned v ∧ Below e.w.heap.size e.w w') : Calls P f args e.w fun r w'' => r = .returned v ∧ ∃ e' : Ext w0, w'' = e'.w :=
  h.mono fun _ w' ⟨hr, hb⟩ => ⟨hr, ⟨⟨w', bcall e.h e.h.size hb⟩, rfl⟩⟩
theorem calls_ext_same {P : Program} {f : FuncId} {args : Array Value} {w0 : World} {e : Ext w0} {v : Value}
    (h : Calls P f args e.w fun r w' => r = .returned v ∧ e.w = w') : Calls P f args e.w fun r w'' => r = .returned v ∧ ∃ e' : Ext w0, w'' = e'.w :=
  h.mono fun _ w' ⟨hr, hb⟩ => ⟨hr, ⟨e, hb.symm⟩⟩

/-- What was read before a call that writes nothing old reads behind it as it did: all arguments. -/
theorem trodAll_below {H : Type} {enc : TypeId × Value → H} {P : Program} (hl : laidOutB P = true) {W W' : World} (hb : Below W.heap.size W W') :
    ∀ (ts : List TypeId) (vs : List Value) (ds : List (DataW H)) (ps : List MemPlace), (∀ t ∈ ts, P.readableRec t = true ∧ t < P.types.size) → (∀ x ∈ ps, x.block < W.heap.size) →
      DataW.TrodAll enc P W 0 (fun _ => true) true ts vs ds ps → DataW.TrodAll enc P W' 0 (fun b => decide (b < W.heap.size)) true ts vs ds ps
  | [], [], [], _, _, _, h => h
  | t :: ts, v :: vs, d :: ds, ps, ht, hlt, h => by
    obtain ⟨p, q, h1, h2, rfl⟩ := h
    exact ⟨p, q, hb.trod hl (ht t (by simp)).1 (ht t (by simp)).2 h1 (fun x hx => hlt x (by simp [hx])),
      trodAll_below hl hb ts vs ds q (fun t' h' => ht t' (by simp [h'])) (fun x hx => hlt x (by simp [hx])) h2, rfl⟩
  | [], _ :: _, _, _, _, _, h => h.elim
  | [], [], _ :: _, _, _, _, h => h.elim
  | _ :: _, [], _, _, _, _, h => h.elim
  | _ :: _, _ :: _, [], _, _, _, h => h.elim

/-- A law's post, out of a walk that returns true and writes nothing old. -/
theorem post_below {H : Type} {enc : TypeId × Value → H} {P : Program} {f : Func} {s : ChangeSpec} {W W' : World} {args : Array Value} {ds : List (DataW H)} {before : List MemPlace} {tb : TypeId}
    (hW : DataW.Whole enc P f.params.toList s.vars false W args.toList ds [] before) (hvars : s.vars = [])
    (hres : (s.fn H (ds ++ [])).results = [.lit (.bool true)]) (hargs : (s.fn H (ds ++ [])).args = ds) (hgs : (s.fn H (ds ++ [])).vars = [])
    (hty : f.resultTypes = #[tb]) (hbool : P.underlying tb = some .bool) (hl : laidOutB P = true)
    (hr : f.params.toList.all (fun t => P.readableRec t && decide (t < P.types.size)) = true) (hb : Below W.heap.size W W') :
    s.post enc P f false true false false W args (.bool true) W' := by
  have hW' := hW
  obtain ⟨p, q, hA, hV, rfl, _, _⟩ := hW
  rw [hvars] at hV
  obtain rfl : q = [] := hV
  have hlt : ∀ x ∈ p, x.block < W.heap.size := fun x hx => hW'.lt x (by simp [hx])
  refine ⟨ds, [], p ++ [], [], p, [], hW', ?_, ?_, ?_, hb.frame _, fun h => by cases h⟩
  · rw [hres, hty]
    exact ⟨[], [], ⟨1, by simp [Value.cells, DataW.trod, hbool]⟩, rfl, rfl⟩
  · rw [hargs]
    refine trodAll_below hl hb _ _ _ _ (fun t ht => ?_) hlt hA
    have := List.all_eq_true.1 hr t ht
    simpa using this
  · rw [hvars, hgs]; rfl

end Go.Proofs.Ytgcbmnohhbcfiaa
