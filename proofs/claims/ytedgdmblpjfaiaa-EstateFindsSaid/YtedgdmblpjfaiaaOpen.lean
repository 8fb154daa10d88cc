/- The arguments of the laws of estate, read: lists of integers, an estate. -/
import Derived.Test.YtedgdmblpjfaiaaWords
import Derived.Test.YtedgdmblpjfaiaaPlain
import Derived.Lib.SmallJoins
namespace Go.Proofs.Ytedgdmblpjfaiaa
open Go.RowKit Go.ChangeShapes Go.WideShapes Go.ChangeAt Go.Joins Go.Deep
set_option linter.unusedVariables false
set_option linter.unusedSimpArgs false

theorem cell_lt {w : World} {p : Addr} {v : Value} (h : w.cell? p = some v) : p.block < w.heap.size := by
  rcases Nat.lt_or_ge p.block w.heap.size with hlt | hge
  · exact hlt
  · unfold World.cell? at h; rw [Array.getElem?_eq_none hge] at h; simp at h

theorem take_getD (zs : List Int) (n k : Nat) (hk : k < n) : gi (zs.take n) k = zs.getD k 0 := by
  simp [gi, List.getD_eq_getElem?_getD, List.getElem?_take, hk]

/-- An estate as an argument: two slices by value. -/
structure EIn (B : Nat) (w : World) (A : Option Addr) (c : Nat) (R : Option Addr) (d : Nat) (E : Est) : Prop where
  sh : Ints B w A E.sh
  bd : IntRows B w R E.bd
  shl : E.sh.length ≤ c
  shm : c ≤ maxLen
  bdl : E.bd.length ≤ d
  bdm : d ≤ maxLen
theorem EIn.below {B : Nat} {w w' : World} {A R : Option Addr} {c d : Nat} {E : Est} (h : EIn B w A c R d E) (hb : Below B w w') : EIn B w' A c R d E :=
  ⟨h.sh.below hb, h.bd.below hb, h.shl, h.shm, h.bdl, h.bdm⟩
theorem EIn.more {B B' : Nat} {w : World} {A R : Option Addr} {c d : Nat} {E : Est} (h : EIn B w A c R d E) (hb : B ≤ B') : EIn B' w A c R d E :=
  ⟨h.sh.more hb, h.bd.more hb, h.shl, h.shm, h.bdl, h.bdm⟩
theorem EIn.next {w w' : World} {A R : Option Addr} {c d : Nat} {E : Est} (h : EIn w.heap.size w A c R d E) (hb : Below w.heap.size w w') : EIn w'.heap.size w' A c R d E :=
  (h.below hb).more hb.size
abbrev eV (A : Option Addr) (c : Nat) (R : Option Addr) (d : Nat) (E : Est) : Value := .agg #[.slice A E.sh.length c, .slice R E.bd.length d]

theorem cells3 : Try.prog.cellsOf 3 = 1 := by kernel_rfl
theorem cells22 : Try.prog.cellsOf 22 = 1 := by kernel_rfl
theorem cells25 : Try.prog.cellsOf 25 = 2 := by kernel_rfl

section
variable {H : Type} {enc : TypeId × Value → H} {w : World} {held : Bool}

theorem open_ints_ {fuel : Nat} {cs : List Value} {x : DataW H × List MemPlace} (h : DataW.trod enc Try.prog w 0 (fun _ => true) held fuel 22 cs = some x) :
    ∃ (A : Option Addr) (c : Nat) (xs : List Int), cs = [.slice A xs.length c] ∧ xs.length ≤ c ∧ c ≤ maxLen ∧ Ints w.heap.size w A xs ∧ ∀ z ∈ xs, (Lit.int .i64 z).wf = true := by
  rcases open_ints Try.underlying22 Try.underlying3 cells3 h with ⟨rfl, _⟩ | ⟨a, len, cap, zs, rfl, _, hl, hm, hz, _, hc, hwf⟩
  · exact ⟨none, 0, [], rfl, Nat.le_refl _, by unfold maxLen; omega, Ints.nil_, by simp⟩
  · simp only [if_true] at hz
    have hlen : (zs.take len).length = len := by simp; omega
    refine ⟨some a, cap, zs.take len, by rw [hlen], by omega, hm, fun h0 => ⟨a, rfl, cell_lt (hc 0 (by omega)) |> fun h => by simpa [block_add] using h, fun k hk => ?_⟩, fun z hz => hwf z (List.mem_of_mem_take hz)⟩
    rw [take_getD _ _ _ (by omega)]
    exact hc k (by omega)

theorem open_rows_ {fuel : Nat} {cs : List Value} {x : DataW H × List MemPlace} (h : DataW.trod enc Try.prog w 0 (fun _ => true) held fuel 23 cs = some x) :
    ∃ (A : Option Addr) (c : Nat) (bs : List (List Int)), cs = [.slice A bs.length c] ∧ bs.length ≤ c ∧ c ≤ maxLen ∧ IntRows w.heap.size w A bs := by
  rcases open_int_rows Try.underlying23 Try.underlying22 Try.underlying3 cells22 cells3 h with ⟨rfl, _⟩ | ⟨a, len, cap, A, L, C, Z, rfl, _, hl, hm, _, hr⟩
  · exact ⟨none, 0, [], rfl, Nat.le_refl _, by unfold maxLen; omega, fun h0 => by simp at h0⟩
  · refine ⟨some a, cap, (List.range len).map fun r => (Z r).take (L r), by simp, by simpa using hl, hm, fun h0 => ⟨a, rfl, ?_, fun i hi => ?_⟩⟩
    · have h0' : 0 < len := by simpa using h0
      have := cell_lt (hr 0 (by omega)).1
      simpa [block_add] using this
    · have hi' : i < len := by simpa using hi
      obtain ⟨r1, r2, r3, r4, _, r6, r7⟩ := hr i (by omega)
      have hrow : gr ((List.range len).map fun r => (Z r).take (L r)) i = (Z i).take (L i) := by
        simp [gr, List.getD_eq_getElem?_getD, hi']
      have hlen : ((Z i).take (L i)).length = L i := by simp; omega
      rw [hrow, hlen]
      refine ⟨A i, C i, r1, r2, r3, fun h1 => ?_⟩
      rw [hlen] at h1
      match hA : A i, r6 with
      | none, r6 => have := r6 rfl; omega
      | some a', _ =>
        obtain ⟨_, hc⟩ := r7 a' hA
        refine ⟨a', rfl, ?_, fun k hk => ?_⟩
        · have := cell_lt (hc 0 (by omega)); simpa [block_add] using this
        · rw [hlen] at hk
          rw [take_getD _ _ _ hk]
          exact hc k (by omega)

theorem open_list {v : Value} {d : DataW H} {p : List MemPlace} {r : Reach} {b0 : Nat} (hv : Value.okWide Try.prog w r b0 22 v) (h : DataW.Trod enc Try.prog w 0 (fun _ => true) held 22 v d p) :
    ∃ (A : Option Addr) (c : Nat) (xs : List Int), v = .slice A xs.length c ∧ xs.length ≤ c ∧ c ≤ maxLen ∧ Ints w.heap.size w A xs ∧ ∀ z ∈ xs, (Lit.int .i64 z).wf = true := by
  obtain ⟨a0, len, cap, rfl⟩ := okWide_slice Try.underlying22 hv
  obtain ⟨fuel, hf⟩ := h
  obtain ⟨A, c, xs, e, r1, r2, r3, r4⟩ := open_ints_ hf
  exact ⟨A, c, xs, List.singleton_inj.1 e, r1, r2, r3, r4⟩

theorem open_est {v : Value} {d : DataW H} {p : List MemPlace} {r : Reach} {b0 : Nat} (hv : Value.okWide Try.prog w r b0 25 v) (h : DataW.Trod enc Try.prog w 0 (fun _ => true) held 25 v d p) :
    ∃ (E : Est) (A : Option Addr) (c : Nat) (R : Option Addr) (d' : Nat), v = eV A c R d' E ∧ EIn w.heap.size w A c R d' E := by
  obtain ⟨v0, v1, y0, y1, n, rfl, _, _, h0, h1⟩ := open_agg2 Try.underlying25 (by kernel_rfl) cells25 hv h
  obtain ⟨A, c, xs, e0, l0, m0, i0, _⟩ := open_ints_ h0
  obtain ⟨R, d', bs, e1, l1, m1, i1⟩ := open_rows_ h1
  obtain rfl : v0 = _ := List.singleton_inj.1 e0
  obtain rfl : v1 = _ := List.singleton_inj.1 e1
  exact ⟨⟨xs, bs⟩, A, c, R, d', rfl, ⟨i0, i1, l0, m0, l1, m1⟩⟩
end

end Go.Proofs.Ytedgdmblpjfaiaa
