/- EstateAccepts returns true for every estate and lists. -/
import Derived.Test.YtedgdmblpjfaiaaAccept
import Derived.Test.YtedgdmblpjfaiaaAcceptRef
namespace Go.Proofs.Ytedgdmblpjfaiaa
open Go.RowKit
set_option linter.unusedVariables false
set_option linter.unusedSimpArgs false

set_option maxRecDepth 100000 in
set_option maxHeartbeats 4000000 in
theorem accepts_walk (E : Est) (A : Option Addr) (c : Nat) (R : Option Addr) (d : Nat) (P : Option Addr) (pc : Nat) (os : List Int) (Q : Option Addr) (qc : Nat) (ps : List Int) (w : World) (h : EIn w.heap.size w A c R d E)
    (ho : Ints w.heap.size w P os) (hp : Ints w.heap.size w Q ps) (hol : os.length ≤ maxLen) (hpl : ps.length ≤ maxLen) :
    Calls Try.prog 3 #[eV A c R d E, .slice P os.length pc, .slice Q ps.length qc] w fun e w' => e = .returned (.bool true) ∧ Below w.heap.size w w' := by
  have hW0 : RefIn w E A c R d P Q os ps (w.alloc (bxOf A c R d E)) := ⟨one_alloc _ _, heap_new rfl, h.next (one_alloc _ _), ho.next (one_alloc _ _), hp.next (one_alloc _ _)⟩
  have HOL := Lib.hid hol
  have HPL := Lib.hid hpl
  unfold maxLen at hol hpl
  clear h ho hp
  go_enter Try.func3, Try.ntmps3
  go_wp2_with fail
  refine (great_any E A c R d _ hW0.e).mono ?_
  rintro e w2 ⟨rfl, hb2⟩
  have hW := hW0.next hb2
  have cbx := fun j => cell_of_row w2 _ j _ _ _ hW.bx
  clear hb2 hW0
  by_cases hg : great E = true
  · go_wp2_with fail
    go_ret
    exact ⟨rfl, hW.below⟩
  have hg' : great E = false := by simpa using hg
  clear hg
  by_cases u1 : (60 : Int) < (os.length : Int)
  · have v1 : decide ((60 : Int) < (os.length : Int)) = true := by simpa using u1
    go_wp2_with fail
    go_ret
    exact ⟨rfl, hW.below⟩
  have v1 : decide ((60 : Int) < (os.length : Int)) = false := by simpa using u1
  by_cases u2 : (60 : Int) < (ps.length : Int)
  · have v2 : decide ((60 : Int) < (ps.length : Int)) = true := by simpa using u2
    clear u1
    go_wp2_with fail
    go_ret
    exact ⟨rfl, hW.below⟩
  have v2 : decide ((60 : Int) < (ps.length : Int)) = false := by simpa using u2
  clear u1 u2
  go_wp2_with fail
  refine (accept_any E A c R d P pc os Q qc ps _ hW.e hW.os hW.ps HOL.out HPL.out).mono ?_
  rintro e w3 ⟨rfl, hb3⟩
  have hW3 := hW.next hb3
  have cbx3 := fun j => cell_of_row w3 _ j _ _ _ hW3.bx
  clear hb3 cbx hW
  go_wp2_with fail
  refine (accept_ref E A c R d P pc os Q qc ps _ hW3.e hW3.os hW3.ps HOL.out HPL.out).mono ?_
  rintro e w4 ⟨rfl, hb4⟩
  have hW4 := hW3.next hb4
  go_wp2_with fail
  go_ret
  exact ⟨rfl, hW4.below⟩
end Go.Proofs.Ytedgdmblpjfaiaa
