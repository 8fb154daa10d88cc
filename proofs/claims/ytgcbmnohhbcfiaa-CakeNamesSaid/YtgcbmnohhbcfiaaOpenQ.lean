/- The arguments of the laws, read: a ratio. -/
import Derived.Test.YtgcbmnohhbcfiaaOpen
import Derived.Test.YtgcbmnohhbcfiaaRtA
namespace Go.Proofs.Ytgcbmnohhbcfiaa
open Go.RowKit Go.ChangeShapes Go.WideShapes Go.ChangeAt Go.Joins Go.Deep
set_option linter.unusedVariables false
set_option linter.unusedSimpArgs false

theorem cellsQ : Try.prog.cellsOf 37 = 2 := by kernel_rfl
theorem cellsL : Try.prog.cellsOf 2 = 1 := by kernel_rfl
section
variable {H : Type} {enc : TypeId × Value → H} {w : World} {held : Bool}

set_option maxRecDepth 100000 in
theorem open_rt {v : Value} {d : DataW H} {p : List MemPlace} {r : Reach} {b0 : Nat} (hv : Value.okWide Try.prog w r b0 37 v) (h : DataW.Trod enc Try.prog w 0 (fun _ => true) held 37 v d p) :
    ∃ a : Rt, v = rV a ∧ a.wf := by
  obtain ⟨v0, v1, y0, y1, n, rfl, _, _, h0, h1⟩ := open_agg2 Try.underlying37 (by kernel_rfl) cellsQ hv h
  obtain ⟨n0, e0, _, w0⟩ := DataW.trod_int Try.underlying2 h0
  obtain ⟨n1, e1, _, w1⟩ := DataW.trod_int Try.underlying2 h1
  obtain rfl : v0 = _ := List.singleton_inj.1 e0
  obtain rfl : v1 = _ := List.singleton_inj.1 e1
  have a0 := wf_i64 w0
  have a1 := wf_i64 w1
  exact ⟨⟨n0, n1⟩, rfl, ⟨a0.1, a0.2, a1.1, a1.2⟩⟩
end
end Go.Proofs.Ytgcbmnohhbcfiaa
