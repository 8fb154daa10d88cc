/- The arguments of the laws of adjust, read: goods, and a division. -/
import Derived.Test.YtcjfcfgkejoeeaaOpenR
import Derived.Test.YtcjfcfgkejoeeaaOpenQ
import Derived.Test.YtcjfcfgkejoeeaaAdP
namespace Go.Proofs.Ytcjfcfgkejoeeaa
open Go.RowKit Go.ChangeShapes Go.WideShapes Go.ChangeAt Go.Joins Go.Deep
set_option linter.unusedVariables false
set_option linter.unusedSimpArgs false

/-- Goods as an argument: a slice of slices by value. -/
structure GIn (B : Nat) (w : World) (A : Option Addr) (c : Nat) (bs : List (List Int)) : Prop where
  rows : IntRows B w A bs
  len : bs.length ≤ c
  cap : c ≤ maxLen
theorem GIn.below {B : Nat} {w w' : World} {A : Option Addr} {c : Nat} {bs : List (List Int)} (h : GIn B w A c bs) (hb : Below B w w') : GIn B w' A c bs := ⟨h.rows.below hb, h.len, h.cap⟩
theorem GIn.next {w w' : World} {A : Option Addr} {c : Nat} {bs : List (List Int)} (h : GIn w.heap.size w A c bs) (hb : Below w.heap.size w w') : GIn w'.heap.size w' A c bs := ⟨h.rows.next hb, h.len, h.cap⟩
theorem GIn.drewN {B : Nat} {w : World} {A : Option Addr} {c : Nat} {bs : List (List Int)} (h : GIn B w A c bs) (n : Nat) : GIn B (w.drewN n) A c bs := ⟨h.rows.drewN n, h.len, h.cap⟩
abbrev gV (A : Option Addr) (c : Nat) (bs : List (List Int)) : Value := .agg #[.slice A bs.length c]
abbrev gB (A : Option Addr) (c : Nat) (bs : List (List Int)) : Obj := .cells #[.slice A bs.length c] 24
/-- A division as an argument. -/
structure PIn (B : Nat) (w : World) (O : Option Addr) (oc : Nat) (d : Pt) : Prop where
  ow : Ints B w O d.ow
  len : d.ow.length ≤ oc
  cap : oc ≤ maxLen
  sp0 : -9223372036854775808 ≤ d.sp
  sp1 : d.sp ≤ 9223372036854775807
  p : d.p.wf
theorem PIn.below {B : Nat} {w w' : World} {O : Option Addr} {oc : Nat} {d : Pt} (h : PIn B w O oc d) (hb : Below B w w') : PIn B w' O oc d := ⟨h.ow.below hb, h.len, h.cap, h.sp0, h.sp1, h.p⟩
theorem PIn.next {w w' : World} {O : Option Addr} {oc : Nat} {d : Pt} (h : PIn w.heap.size w O oc d) (hb : Below w.heap.size w w') : PIn w'.heap.size w' O oc d := ⟨h.ow.next hb, h.len, h.cap, h.sp0, h.sp1, h.p⟩
theorem PIn.drewN {B : Nat} {w : World} {O : Option Addr} {oc : Nat} {d : Pt} (h : PIn B w O oc d) (n : Nat) : PIn B (w.drewN n) O oc d := ⟨h.ow.drewN n, h.len, h.cap, h.sp0, h.sp1, h.p⟩
abbrev pV (O : Option Addr) (oc : Nat) (d : Pt) : Value := .agg #[.slice O d.ow.length oc, .int .i64 d.sp, .int .i64 d.p.n, .int .i64 d.p.d]
abbrev pB (O : Option Addr) (oc : Nat) (d : Pt) : Obj := .cells #[.slice O d.ow.length oc, .int .i64 d.sp, .int .i64 d.p.n, .int .i64 d.p.d] 29
theorem cellsG : Try.prog.cellsOf 24 = 1 := by kernel_rfl
theorem cellsP : Try.prog.cellsOf 29 = 4 := by kernel_rfl
theorem cellsLR : Try.prog.cellsOf 22 = 1 := by kernel_rfl
theorem array1 {α : Type} {cs : Array α} (h : cs.size = 1) : ∃ c0, cs = #[c0] := by
  obtain ⟨l⟩ := cs
  match l, h with
  | [c0], _ => exact ⟨c0, rfl⟩
section
variable {H : Type} {enc : TypeId × Value → H} {w : World} {held : Bool}

theorem open_goods {v : Value} {d : DataW H} {p : List MemPlace} {r : Reach} {b0 : Nat} (hv : Value.okWide Try.prog w r b0 24 v) (h : DataW.Trod enc Try.prog w 0 (fun _ => true) held 24 v d p) :
    ∃ (bs : List (List Int)) (A : Option Addr) (c : Nat), v = gV A c bs ∧ GIn w.heap.size w A c bs := by
  obtain ⟨cs, rfl, hsz⟩ := okWide_struct Try.underlying24 hv
  obtain ⟨c0, rfl⟩ := array1 (hsz.trans cellsG)
  obtain ⟨fuel, hf⟩ := h
  obtain ⟨y0, n, hx, _, h0⟩ := trod_struct1 Try.underlying24 hf
  rw [cellsLR] at h0
  obtain ⟨A, c, bs, e0, l0, m0, i0⟩ := open_rows_ h0
  have e0 : [c0] = _ := e0
  obtain rfl : c0 = _ := List.singleton_inj.1 e0
  exact ⟨bs, A, c, rfl, i0, l0, m0⟩
theorem open_points {v : Value} {d : DataW H} {p : List MemPlace} {r : Reach} {b0 : Nat} (hv : Value.okWide Try.prog w r b0 29 v) (h : DataW.Trod enc Try.prog w 0 (fun _ => true) held 29 v d p) :
    ∃ (P : Pt) (O : Option Addr) (oc : Nat), v = pV O oc P ∧ PIn w.heap.size w O oc P := by
  obtain ⟨cs, rfl, hsz⟩ := okWide_struct Try.underlying29 hv
  obtain ⟨c0, c1, c2, c3, rfl⟩ := array4 (hsz.trans cellsP)
  obtain ⟨fuel, hf⟩ := h
  obtain ⟨y0, y1, y2, n, hx, _, h0, h1, h2⟩ := trod_struct3 Try.underlying29 hf
  rw [cellsLI] at h0
  rw [cells3] at h1
  rw [cellsQ] at h2
  obtain ⟨O, oc, xs, e0, l0, m0, i0, _⟩ := open_ints_ h0
  obtain ⟨n1, e1, _, w1⟩ := DataW.trod_int Try.underlying3 h1
  obtain ⟨z0, z1, n2, hz, _, k0, k1⟩ := trod_struct2 Try.underlying27 h2
  rw [cellsL] at k0 k1
  obtain ⟨m2, e2, _, w2⟩ := DataW.trod_int Try.underlying2 k0
  obtain ⟨m3, e3, _, w3⟩ := DataW.trod_int Try.underlying2 k1
  have e0 : [c0] = _ := e0
  have e1 : [c1] = _ := e1
  have e2 : [c2] = _ := e2
  have e3 : [c3] = _ := e3
  obtain rfl : c0 = _ := List.singleton_inj.1 e0
  obtain rfl : c1 = _ := List.singleton_inj.1 e1
  obtain rfl : c2 = _ := List.singleton_inj.1 e2
  obtain rfl : c3 = _ := List.singleton_inj.1 e3
  have a1 := wf_i64 w1
  have a2 := wf_i64 w2
  have a3 := wf_i64 w3
  exact ⟨⟨xs, n1, ⟨m2, m3⟩⟩, O, oc, rfl, i0, l0, m0, a1.1, a1.2, ⟨a2.1, a2.2, a3.1, a3.2⟩⟩
end
end Go.Proofs.Ytcjfcfgkejoeeaa
