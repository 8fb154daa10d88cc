/- Lists of actors, and meetings: acs arguments. -/
import Derived.Test.YtgcbmnohhbcfiaaCm11
import Derived.Test.YtgcbmnohhbcfiaaAgP
namespace Go.Proofs.Ytgcbmnohhbcfiaa
open Go.RowKit Go.ChangeShapes Go.WideShapes Go.ChangeAt Go.Joins Go.Deep
set_option linter.unusedVariables false
set_option linter.unusedSimpArgs false

abbrev acL (a : Ac) (A : Option Addr) (c : Nat) (R : Option Addr) (d : Nat) (A' : Option Addr) (c' : Nat) (R' : Option Addr) (d' : Nat) : List Value :=
  [.int .i64 a.own.len, .slice A a.own.cuts.length c, .slice R a.own.dens.length d, .int .i64 a.told.len, .slice A' a.told.cuts.length c', .slice R' a.told.dens.length d', .int .i64 a.after, .int .i64 a.asked]
abbrev acB (a : Ac) (A : Option Addr) (c : Nat) (R : Option Addr) (d : Nat) (A' : Option Addr) (c' : Nat) (R' : Option Addr) (d' : Nat) : Obj :=
  .cells #[.int .i64 a.own.len, .slice A a.own.cuts.length c, .slice R a.own.dens.length d, .int .i64 a.told.len, .slice A' a.told.cuts.length c', .slice R' a.told.dens.length d', .int .i64 a.after, .int .i64 a.asked] 116
def acEl (w : World) (a : Ac) (vs : List Value) : Prop := ∃ A c R d A' c' R' d', vs = acL a A c R d A' c' R' d' ∧ CIn w.heap.size w A c R d a.own ∧ CIn w.heap.size w A' c' R' d' a.told ∧ a.wf
def kAc : Kd Ac := ⟨116, 8, acEl, by decide, fun h => by obtain ⟨A, c, R, d, A', c', R', d', rfl, _⟩ := h; rfl,
  fun h hb => by obtain ⟨A, c, R, d, A', c', R', d', e, h1, h2, h3⟩ := h; exact ⟨A, c, R, d, A', c', R', d', e, h1.next hb, h2.next hb, h3⟩⟩
abbrev AsIn := RIn kAc
/-- The cells of an actor of a slice. -/
structure AcAt (w : World) (ad : Addr) (i : Nat) (a : Ac) (A : Option Addr) (c : Nat) (R : Option Addr) (d : Nat) (A' : Option Addr) (c' : Nat) (R' : Option Addr) (d' : Nat) : Prop where
  c0 : w.cell? (ad.add (i * 8)) = some (.int .i64 a.own.len)
  c1 : w.cell? ⟨(ad.add (i * 8)).block, (ad.add (i * 8)).off + 1, none⟩ = some (.slice A a.own.cuts.length c)
  c2 : w.cell? ⟨(ad.add (i * 8)).block, (ad.add (i * 8)).off + 2, none⟩ = some (.slice R a.own.dens.length d)
  c3 : w.cell? ⟨(ad.add (i * 8)).block, (ad.add (i * 8)).off + 3, none⟩ = some (.int .i64 a.told.len)
  c4 : w.cell? ⟨(ad.add (i * 8)).block, (ad.add (i * 8)).off + 4, none⟩ = some (.slice A' a.told.cuts.length c')
  c5 : w.cell? ⟨(ad.add (i * 8)).block, (ad.add (i * 8)).off + 5, none⟩ = some (.slice R' a.told.dens.length d')
  c6 : w.cell? ⟨(ad.add (i * 8)).block, (ad.add (i * 8)).off + 6, none⟩ = some (.int .i64 a.after)
  c7 : w.cell? ⟨(ad.add (i * 8)).block, (ad.add (i * 8)).off + 7, none⟩ = some (.int .i64 a.asked)
theorem AcAt.next {w W : World} {ad : Addr} {i : Nat} {a : Ac} {A : Option Addr} {c : Nat} {R : Option Addr} {d : Nat} {A' : Option Addr} {c' : Nat} {R' : Option Addr} {d' : Nat} (h : AcAt w ad i a A c R d A' c' R' d') (hb : ad.block < w.heap.size) (hW : Below w.heap.size w W) : AcAt W ad i a A c R d A' c' R' d' := by
  have hb1 : (ad.add (i * 8)).block < w.heap.size := by rw [block_add]; exact hb
  exact ⟨(hW.cell hb1).trans h.c0, (hW.cell (p := ⟨(ad.add (i * 8)).block, (ad.add (i * 8)).off + 1, none⟩) hb1).trans h.c1, (hW.cell (p := ⟨(ad.add (i * 8)).block, (ad.add (i * 8)).off + 2, none⟩) hb1).trans h.c2,
    (hW.cell (p := ⟨(ad.add (i * 8)).block, (ad.add (i * 8)).off + 3, none⟩) hb1).trans h.c3, (hW.cell (p := ⟨(ad.add (i * 8)).block, (ad.add (i * 8)).off + 4, none⟩) hb1).trans h.c4, (hW.cell (p := ⟨(ad.add (i * 8)).block, (ad.add (i * 8)).off + 5, none⟩) hb1).trans h.c5,
    (hW.cell (p := ⟨(ad.add (i * 8)).block, (ad.add (i * 8)).off + 6, none⟩) hb1).trans h.c6, (hW.cell (p := ⟨(ad.add (i * 8)).block, (ad.add (i * 8)).off + 7, none⟩) hb1).trans h.c7⟩
theorem RIn.actor {B : Nat} {w : World} {S : Option Addr} {s i : Nat} {acs : List Ac} {a : Ac} (h : RIn kAc B w S s acs) (hi : acs[i]? = some a) :
    ∃ ad A c R d A' c' R' d', S = some ad ∧ ad.block < B ∧ CIn w.heap.size w A c R d a.own ∧ CIn w.heap.size w A' c' R' d' a.told ∧ a.wf ∧ AcAt w ad i a A c R d A' c' R' d' := by
  obtain ⟨ad, vs, e, hB, ⟨A, c, R, d, A', c', R', d', rfl, h1, h2, h3⟩, hv⟩ := h.at_ i a hi
  have hw := fun (j : Nat) (hj : 0 < j) (u : Value) (hu : (acL a A c R d A' c' R' d')[j]? = some u) => cell_form hj (hv j u hu)
  exact ⟨ad, A, c, R, d, A', c', R', d', e, hB, h1, h2, h3, ⟨hv 0 _ rfl, hw 1 (by decide) _ rfl, hw 2 (by decide) _ rfl, hw 3 (by decide) _ rfl, hw 4 (by decide) _ rfl, hw 5 (by decide) _ rfl, hw 6 (by decide) _ rfl, hw 7 (by decide) _ rfl⟩⟩
theorem cellsAc : Try.prog.cellsOf 116 = 8 := by kernel_rfl
theorem cellsMt : Try.prog.cellsOf 61 = 2 := by kernel_rfl
theorem trod_struct4 {H : Type} {enc : TypeId × Value → H} {P : Program} {w : World} {base : Nat} {spare : Nat → Bool} {held : Bool} {t : TypeId} {f0 f1 f2 f3 : Field} {fuel : Nat} {cs : List Value} {x : DataW H × List MemPlace} (ht : P.underlying t = some (.struct #[f0, f1, f2, f3])) (h : DataW.trod enc P w base spare held fuel t cs = some x) :
    ∃ y0 y1 y2 y3 n, cs.length = P.cellsOf t ∧ DataW.trod enc P w base spare held n f0.type ((cs.drop f0.offset).take (P.cellsOf f0.type)) = some y0 ∧ DataW.trod enc P w base spare held n f1.type ((cs.drop f1.offset).take (P.cellsOf f1.type)) = some y1 ∧
      DataW.trod enc P w base spare held n f2.type ((cs.drop f2.offset).take (P.cellsOf f2.type)) = some y2 ∧ DataW.trod enc P w base spare held n f3.type ((cs.drop f3.offset).take (P.cellsOf f3.type)) = some y3 := by
  obtain ⟨xs, n, _, rfl, hl, hlen, hf⟩ := DataW.trod_struct ht h
  match xs, hlen with
  | [y0, y1, y2, y3], _ => exact ⟨y0, y1, y2, y3, n, hl, by simpa using hf 0 f0 rfl, by simpa using hf 1 f1 rfl, by simpa using hf 2 f2 rfl, by simpa using hf 3 f3 rfl⟩
abbrev mV (A : Option Addr) (c : Nat) (acs : List Ac) (B : Option Addr) (d : Nat) (l : List Qy) : Value := .agg #[.slice A acs.length c, .slice B l.length d]
abbrev mB (A : Option Addr) (c : Nat) (acs : List Ac) (B : Option Addr) (d : Nat) (l : List Qy) : Obj := .cells #[.slice A acs.length c, .slice B l.length d] 61
section
variable {H : Type} {enc : TypeId × Value → H} {w : World} {held : Bool}
set_option maxRecDepth 100000 in
theorem open_actor_ {fuel : Nat} {cs : List Value} {x : DataW H × List MemPlace} (h : DataW.trod enc Try.prog w 0 (fun _ => true) held fuel 116 cs = some x) : ∃ a : Ac, kAc.El w a cs := by
  obtain ⟨y0, y1, y2, y3, n, hl, h0, h1, h2, h3⟩ := trod_struct4 Try.underlying116 h
  rw [cellsAc] at hl
  match cs, hl with
  | [c0, c1, c2, c3, c4, c5, c6, c7], _ =>
  rw [cellsC] at h0 h1
  rw [cells3] at h2 h3
  obtain ⟨K, A, c, R, d, e0, i0⟩ := open_cake_ h0
  obtain ⟨L, A', c', R', d', e1, i1⟩ := open_cake_ h1
  obtain ⟨n2, e2, _, w2⟩ := DataW.trod_int Try.underlying3 h2
  obtain ⟨n3, e3, _, w3⟩ := DataW.trod_int Try.underlying3 h3
  have e0 : [c0, c1, c2] = _ := e0
  have e1 : [c3, c4, c5] = _ := e1
  have e2 : [c6] = _ := e2
  have e3 : [c7] = _ := e3
  obtain rfl : c6 = _ := List.singleton_inj.1 e2
  obtain rfl : c7 = _ := List.singleton_inj.1 e3
  simp only [List.cons.injEq, and_true] at e0 e1
  obtain ⟨rfl, rfl, rfl⟩ := e0
  obtain ⟨rfl, rfl, rfl⟩ := e1
  have a2 := wf_i64 w2
  have a3 := wf_i64 w3
  exact ⟨⟨K, L, n2, n3⟩, A, c, R, d, A', c', R', d', rfl, i0, i1, ⟨a2.1, a2.2, a3.1, a3.2⟩⟩
set_option maxRecDepth 100000 in
theorem open_actors_ {fuel : Nat} {cs : List Value} {x : DataW H × List MemPlace} (h : DataW.trod enc Try.prog w 0 (fun _ => true) held fuel 58 cs = some x) : ∃ (A : Option Addr) (c : Nat) (l : List Ac), cs = [.slice A l.length c] ∧ AsIn w.heap.size w A c l :=
  open_rin (k := kAc) Try.underlying58 cellsAc open_actor_ h
set_option maxRecDepth 100000 in
theorem open_actors {v : Value} {d : DataW H} {p : List MemPlace} {r : Reach} {b0 : Nat} (hv : Value.okWide Try.prog w r b0 58 v) (h : DataW.Trod enc Try.prog w 0 (fun _ => true) held 58 v d p) :
    ∃ (A : Option Addr) (c : Nat) (l : List Ac), v = .slice A l.length c ∧ AsIn w.heap.size w A c l := by
  obtain ⟨a0, len, cap, rfl⟩ := okWide_slice Try.underlying58 hv
  obtain ⟨fuel, hf⟩ := h
  obtain ⟨A, c, l, e, r1⟩ := open_actors_ hf
  exact ⟨A, c, l, List.singleton_inj.1 e, r1⟩
set_option maxRecDepth 100000 in
theorem open_meeting {v : Value} {d : DataW H} {p : List MemPlace} {r : Reach} {b0 : Nat} (hv : Value.okWide Try.prog w r b0 61 v) (h : DataW.Trod enc Try.prog w 0 (fun _ => true) held 61 v d p) :
    ∃ A c acs B e l, v = mV A c acs B e l ∧ AsIn w.heap.size w A c acs ∧ LgIn w.heap.size w B e l := by
  obtain ⟨v0, v1, y0, y1, n, rfl, _, _, h0, h1⟩ := open_agg2 Try.underlying61 (by kernel_rfl) cellsMt hv h
  obtain ⟨A, c, acs, e0, r0⟩ := open_actors_ h0
  obtain ⟨B, e, l, e1, r1⟩ := open_queries_ h1
  obtain rfl : v0 = _ := List.singleton_inj.1 e0
  obtain rfl : v1 = _ := List.singleton_inj.1 e1
  exact ⟨A, c, acs, B, e, l, rfl, r0, r1⟩
end
end Go.Proofs.Ytgcbmnohhbcfiaa
