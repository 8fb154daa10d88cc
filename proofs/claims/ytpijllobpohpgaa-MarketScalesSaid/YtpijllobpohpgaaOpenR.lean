/- The arguments of the laws, read: lists of lists of integers. -/
import Derived.Test.YtpijllobpohpgaaOpen
namespace Go.Proofs.Ytpijllobpohpgaa
open Go.RowKit Go.ChangeShapes Go.WideShapes Go.ChangeAt Go.Joins Go.Deep
set_option linter.unusedVariables false
set_option linter.unusedSimpArgs false

theorem cellsLI : Try.prog.cellsOf 40 = 1 := by kernel_rfl
section
variable {H : Type} {enc : TypeId × Value → H} {w : World} {held : Bool}

theorem open_rows_ {fuel : Nat} {cs : List Value} {x : DataW H × List MemPlace} (h : DataW.trod enc Try.prog w 0 (fun _ => true) held fuel 22 cs = some x) :
    ∃ (A : Option Addr) (c : Nat) (bs : List (List Int)), cs = [.slice A bs.length c] ∧ bs.length ≤ c ∧ c ≤ maxLen ∧ IntRows w.heap.size w A bs := by
  rcases open_int_rows Try.underlying22 Try.underlying40 Try.underlying3 cellsLI cells3 h with ⟨rfl, _⟩ | ⟨a, len, cap, A, L, C, Z, rfl, _, hl, hm, _, hr⟩
  · exact ⟨none, 0, [], rfl, Nat.le_refl _, by unfold maxLen; omega, fun h0 => by simp at h0⟩
  · refine ⟨some a, cap, (List.range len).map fun r => (Z r).take (L r), by simp, by simpa using hl, hm, fun h0 => ⟨a, rfl, ?_, fun i hi => ?_⟩⟩
    · have h0' : 0 < len := by simpa using h0
      have := cell_lt (hr 0 (by omega)).1
      simpa [block_add] using this
    · have hi' : i < len := by simpa using hi
      obtain ⟨r1, r2, r3, r4, _, r6, r7⟩ := hr i (by omega)
      have hrow : gr ((List.range len).map fun r => (Z r).take (L r)) i = (Z i).take (L i) := by
        simp [gr, List.getD_eq_getElem?_getD, hi']
      have hlen : ((Z i).take (L i)).length = L i := by simp; omega
      rw [hrow, hlen]
      refine ⟨A i, C i, r1, r2, r3, fun h1 => ?_⟩
      rw [hlen] at h1
      match hA : A i, r6 with
      | none, r6 => have := r6 rfl; omega
      | some a', _ =>
        obtain ⟨_, hc⟩ := r7 a' hA
        refine ⟨a', rfl, ?_, fun k hk => ?_⟩
        · have := cell_lt (hc 0 (by omega)); simpa [block_add] using this
        · rw [hlen] at hk
          rw [take_getD _ _ _ hk]
          exact hc k (by omega)

end
end Go.Proofs.Ytpijllobpohpgaa
