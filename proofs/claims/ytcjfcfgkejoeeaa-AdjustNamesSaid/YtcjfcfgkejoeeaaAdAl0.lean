/- The chapter's examples of adjust hold. -/
import Derived.Test.YtcjfcfgkejoeeaaAdK
import Derived.Test.YtcjfcfgkejoeeaaAdF
import Derived.Test.YtcjfcfgkejoeeaaDvB
import Derived.Test.YtcjfcfgkejoeeaaRfB
namespace Go.Proofs.Ytcjfcfgkejoeeaa
open Go.RowKit Go.Deep
set_option linter.unusedVariables false
set_option linter.unusedSimpArgs false

theorem heap_set2 {w : World} {g : Nat} {a b u u2 : Value} {t : TypeId} (h : w.heap[g]? = some (.cells #[a, b] t)) : ((w.setCell ⟨g, 0, none⟩ u).setCell ⟨g, 1, none⟩ u2).heap[g]? = some (.cells #[u, u2] t) := by
  rw [heap_set (heap_set h)]; rfl
theorem heap_set_ne2 {w : World} {g g' j j2 : Nat} {u u2 : Value} {o : Obj} (hne : g' ≠ g) (h : w.heap[g']? = some o) : ((w.setCell ⟨g, j, none⟩ u).setCell ⟨g, j2, none⟩ u2).heap[g']? = some o := by
  rw [heap_set_ne hne, heap_set_ne hne]; exact h
theorem pt_ext {a b : Pt} (h1 : a.ow = b.ow) (h2 : a.sp = b.sp) (h3 : a.p = b.p) : a = b := by cases a; cases b; simp_all
theorem pin_lit {w : World} {g c : Nat} {cs : Array Value} {t : TypeId} {d : Pt} (h : w.heap[g]? = some (.cells cs t)) (hc : cs.toList = d.ow.map (Value.int .i64)) (hl : d.ow.length ≤ c) (hm : c ≤ 100) (hs : -1000 ≤ d.sp ∧ d.sp ≤ 1000) (hp : -1 ≤ d.p.n ∧ d.p.n ≤ 10000000 ∧ -1 ≤ d.p.d ∧ d.p.d ≤ 10000000) : PIn w.heap.size w (some ⟨g, 0, none⟩) c d :=
  ⟨Ints.of_lit h (lt_some h) hc, hl, by unfold maxLen; omega, by omega, by omega, ⟨by omega, by omega, by omega, by omega⟩⟩
def Dg : Pt := ⟨[0, 0, 1], 1, ⟨1, 3⟩⟩
def De : Pt := ⟨[1, 0], -1, ⟨0, 1⟩⟩
theorem dg_code : adCode givenL = 0 := by decide
theorem de_code : adCode equalL = 0 := by decide
theorem dg_div : divP givenL = Dg := pt_ext (by decide) (by decide) (by decide)
theorem dg_pt : Dg.code givenL = 0 := by decide
theorem dg_v0 : Dg.val givenL 0 = ⟨7, 1⟩ := by decide
theorem dg_v1 : Dg.val givenL 1 = ⟨7, 1⟩ := by decide
theorem dg_divide (A : Option Addr) (c : Nat) (w : World) (h : GIn w.heap.size w A c givenL) :
    Calls Try.prog 15 #[gV A c givenL] w fun e w' => ∃ (O : Option Addr) (oc : Nat), e = .returned (.tuple #[pV O oc Dg, .int .i64 0]) ∧ PIn w'.heap.size w' O oc Dg ∧ Below w.heap.size w w' := by
  refine (adivide_any givenL A c w h).mono ?_
  rintro e w' ⟨O, oc, D, rfl, hp, hd, _, hb⟩
  rw [dg_code] at hd ⊢
  obtain rfl := (hd rfl).trans dg_div
  exact ⟨O, oc, rfl, hp, hb⟩
theorem dg_values (A : Option Addr) (c : Nat) (O : Option Addr) (oc : Nat) (w : World) (h : GIn w.heap.size w A c givenL) (hp : PIn w.heap.size w O oc Dg) :
    Calls Try.prog 10 #[gV A c givenL, pV O oc Dg] w fun e w' => e = .returned (.tuple #[rV ⟨7, 1⟩, rV ⟨7, 1⟩, .int .i64 0]) ∧ Below w.heap.size w w' := by
  have := avalues_any givenL A c Dg O oc w h hp
  rw [dg_pt, dg_v0, dg_v1] at this
  exact this
theorem de_div : divP equalL = De := pt_ext (by decide) (by decide) (by decide)
theorem de_pt : De.code equalL = 0 := by decide
theorem de_v0 : De.val equalL 0 = ⟨5, 1⟩ := by decide
theorem de_v1 : De.val equalL 1 = ⟨5, 1⟩ := by decide
theorem de_divide (A : Option Addr) (c : Nat) (w : World) (h : GIn w.heap.size w A c equalL) :
    Calls Try.prog 15 #[gV A c equalL] w fun e w' => ∃ (O : Option Addr) (oc : Nat), e = .returned (.tuple #[pV O oc De, .int .i64 0]) ∧ PIn w'.heap.size w' O oc De ∧ Below w.heap.size w w' := by
  refine (adivide_any equalL A c w h).mono ?_
  rintro e w' ⟨O, oc, D, rfl, hp, hd, _, hb⟩
  rw [de_code] at hd ⊢
  obtain rfl := (hd rfl).trans de_div
  exact ⟨O, oc, rfl, hp, hb⟩
theorem de_values (A : Option Addr) (c : Nat) (O : Option Addr) (oc : Nat) (w : World) (h : GIn w.heap.size w A c equalL) (hp : PIn w.heap.size w O oc De) :
    Calls Try.prog 10 #[gV A c equalL, pV O oc De] w fun e w' => e = .returned (.tuple #[rV ⟨5, 1⟩, rV ⟨5, 1⟩, .int .i64 0]) ∧ Below w.heap.size w w' := by
  have := avalues_any equalL A c De O oc w h hp
  rw [de_pt, de_v0, de_v1] at this
  exact this
end Go.Proofs.Ytcjfcfgkejoeeaa
