/- A cake as an argument, read. -/
import Derived.Test.YtgcbmnohhbcfiaaOpenQ
import Derived.Test.YtgcbmnohhbcfiaaCkP
namespace Go.Proofs.Ytgcbmnohhbcfiaa
open Go.RowKit Go.ChangeShapes Go.WideShapes Go.ChangeAt Go.Joins Go.Deep
set_option linter.unusedVariables false
set_option linter.unusedSimpArgs false

/-- A cake by value: its length, the cuts, the densities. -/
structure CIn (B : Nat) (w : World) (A : Option Addr) (c : Nat) (R : Option Addr) (d : Nat) (K : Ck) : Prop where
  cuts : Ints B w A K.cuts
  dens : Ints B w R K.dens
  lc : K.cuts.length ≤ c
  mc : c ≤ maxLen
  ld : K.dens.length ≤ d
  md : d ≤ maxLen
  w0 : -9223372036854775808 ≤ K.len
  w1 : K.len ≤ 9223372036854775807
theorem CIn.below {B : Nat} {w w' : World} {A : Option Addr} {c : Nat} {R : Option Addr} {d : Nat} {K : Ck} (h : CIn B w A c R d K) (hb : Below B w w') : CIn B w' A c R d K := ⟨h.cuts.below hb, h.dens.below hb, h.lc, h.mc, h.ld, h.md, h.w0, h.w1⟩
theorem CIn.next {w w' : World} {A : Option Addr} {c : Nat} {R : Option Addr} {d : Nat} {K : Ck} (h : CIn w.heap.size w A c R d K) (hb : Below w.heap.size w w') : CIn w'.heap.size w' A c R d K := ⟨h.cuts.next hb, h.dens.next hb, h.lc, h.mc, h.ld, h.md, h.w0, h.w1⟩
theorem CIn.drewN {B : Nat} {w : World} {A : Option Addr} {c : Nat} {R : Option Addr} {d : Nat} {K : Ck} (h : CIn B w A c R d K) (n : Nat) : CIn B (w.drewN n) A c R d K := ⟨h.cuts.drewN n, h.dens.drewN n, h.lc, h.mc, h.ld, h.md, h.w0, h.w1⟩
abbrev cV (A : Option Addr) (c : Nat) (R : Option Addr) (d : Nat) (K : Ck) : Value := .agg #[.int .i64 K.len, .slice A K.cuts.length c, .slice R K.dens.length d]
abbrev cB (A : Option Addr) (c : Nat) (R : Option Addr) (d : Nat) (K : Ck) : Obj := .cells #[.int .i64 K.len, .slice A K.cuts.length c, .slice R K.dens.length d] 24
theorem cellsLI : Try.prog.cellsOf 22 = 1 := by kernel_rfl
theorem cellsC : Try.prog.cellsOf 24 = 3 := by kernel_rfl
section
variable {H : Type} {enc : TypeId × Value → H} {w : World} {held : Bool}
set_option maxRecDepth 100000 in
theorem open_cake {v : Value} {d : DataW H} {p : List MemPlace} {r : Reach} {b0 : Nat} (hv : Value.okWide Try.prog w r b0 24 v) (h : DataW.Trod enc Try.prog w 0 (fun _ => true) held 24 v d p) :
    ∃ (K : Ck) (A : Option Addr) (c : Nat) (R : Option Addr) (d : Nat), v = cV A c R d K ∧ CIn w.heap.size w A c R d K := by
  obtain ⟨cs, rfl, hsz⟩ := okWide_struct Try.underlying24 hv
  obtain ⟨c0, c1, c2, rfl⟩ := array3 (hsz.trans cellsC)
  obtain ⟨fuel, hf⟩ := h
  obtain ⟨y0, y1, y2, n, hx, _, h0, h1, h2⟩ := trod_struct3 Try.underlying24 hf
  rw [cells3] at h0
  rw [cellsLI] at h1 h2
  obtain ⟨n1, e1, _, w1⟩ := DataW.trod_int Try.underlying3 h0
  obtain ⟨A, c, xs, e0, l0, m0, i0, _⟩ := open_ints_ h1
  obtain ⟨R, d, ys, e2, l2, m2, i2, _⟩ := open_ints_ h2
  have e1 : [c0] = _ := e1
  have e0 : [c1] = _ := e0
  have e2 : [c2] = _ := e2
  obtain rfl : c0 = _ := List.singleton_inj.1 e1
  obtain rfl : c1 = _ := List.singleton_inj.1 e0
  obtain rfl : c2 = _ := List.singleton_inj.1 e2
  have a := wf_i64 w1
  exact ⟨⟨n1, xs, ys⟩, A, c, R, d, rfl, i0, i2, l0, m0, l2, m2, a.1, a.2⟩
end
end Go.Proofs.Ytgcbmnohhbcfiaa
