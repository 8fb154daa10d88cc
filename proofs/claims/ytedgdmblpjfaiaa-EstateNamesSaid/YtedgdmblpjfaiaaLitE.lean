/- Estates that are written out in the code. -/
import Derived.Test.YtedgdmblpjfaiaaAlive
import Derived.Test.YtedgdmblpjfaiaaAccept
namespace Go.Proofs.Ytedgdmblpjfaiaa
open Go.RowKit Go.Deep
set_option linter.unusedVariables false
set_option linter.unusedSimpArgs false

def ge (l : List Est) (k : Nat) : Est := l.getD k ⟨[], []⟩
def Bad : List Est := [⟨[], []⟩, ⟨[1], []⟩, ⟨[0], [[]]⟩, ⟨[1001], [[]]⟩, ⟨[500, 501], [[], []]⟩, ⟨[1, 1], [[1], []]⟩, ⟨[1], [[-1]]⟩, ⟨[1], [[1000001]]⟩]
theorem bad_code : ∀ k, k < 8 → (ge Bad k).code = 8 := by decide
def C1 : Est := ⟨List.replicate 11 0, []⟩
def C2 : Est := ⟨[1], [List.replicate 31 0]⟩
def C3 : Est := ⟨[], List.replicate 11 []⟩
def P2 : Est := ⟨[1, 999], [[], []]⟩
def X3 : Est := ⟨[1, 1, 1], [[100], [100], [100]]⟩
theorem c1_code : C1.code = 4 := by decide
theorem c2_code : C2.code = 4 := by decide
theorem c3_code : C3.code = 4 := by decide
theorem p2_code : P2.code = 0 := by decide
theorem p2_pay : payR P2 = [0, 0] := by decide
theorem x3_code : X3.code = 0 := by decide
theorem x3_owners : ownersR X3 = [0] := by decide
theorem x3_pay : payR X3 = [-66, 33, 33] := by decide
theorem x3_a1 : accV X3 [1] [33, -66, 33] = true := by decide
theorem x3_a2 : accV X3 [0] [-67, 33, 35] = false := by decide
theorem x3_a3 : accV X3 [0] [-68, 34, 34] = false := by decide
theorem x3_a4 : accV X3 [3] [0, 0, 0] = false := by decide
theorem x3_a5 : accV X3 [0] [-66, 33] = false := by decide
theorem ex_a6 : accV Ex [1] [40, -40] = false := by decide

section
variable {E : Est} {A : Option Addr} {c : Nat} {R : Option Addr} {d : Nat} {w : World} {n : Int}
theorem check_is (hc : E.code = n) (h : EIn w.heap.size w A c R d E) : Calls Try.prog 23 #[eV A c R d E] w fun e w' => e = .returned (.int .i64 n) ∧ Below w.heap.size w w' := by
  have := check_any E A c R d w h; rwa [hc] at this
theorem pay_is {l : List Int} (hl : payR E = l) (hc : E.code = n) (h : EIn w.heap.size w A c R d E) : Calls Try.prog 21 #[eV A c R d E] w (ListRes w l n) := by
  have := pay_any E A c R d w h; rwa [hl, hc] at this
theorem owners_is {l : List Int} (hl : ownersR E = l) (hc : E.code = n) (h : EIn w.heap.size w A c R d E) : Calls Try.prog 13 #[eV A c R d E] w (ListRes w l n) := by
  have := owners_any E A c R d w h; rwa [hl, hc] at this
theorem accept_is {os ps : List Int} {b : Bool} {P Q : Option Addr} {pc qc : Nat} (hv : accV E os ps = b) (hc : E.code = n) (h : EIn w.heap.size w A c R d E) (ho : Ints w.heap.size w P os) (hp : Ints w.heap.size w Q ps) (hol : os.length ≤ 10) (hpl : ps.length ≤ 10) :
    Calls Try.prog 11 #[eV A c R d E, .slice P os.length pc, .slice Q ps.length qc] w fun e w' => e = .returned (.tuple #[.bool b, .int .i64 n]) ∧ Below w.heap.size w w' := by
  have := accept_any E A c R d P pc os Q qc ps w h ho hp (by unfold maxLen; omega) (by unfold maxLen; omega)
  rwa [accRes, hv, hc] at this
end

theorem IntRows.of_block {B g : Nat} {w : World} {cs : Array Value} {t : TypeId} {fr : Nat × Nat} {bs : List (List Int)} (h : w.heap[g]? = some (.cells cs t fr)) (hB : g < B)
    (hc : ∀ i, i < bs.length → ∃ (R : Option Addr) (c : Nat), cs[i]? = some (.slice R (gr bs i).length c) ∧ (gr bs i).length ≤ c ∧ c ≤ maxLen ∧ Ints B w R (gr bs i)) : IntRows B w (some ⟨g, 0, none⟩) bs :=
  fun h0 => ⟨_, rfl, hB, fun i hi => by
    obtain ⟨R, c, h1, h2⟩ := hc i hi
    exact ⟨R, c, by rw [add_mk, Nat.zero_add, cell_of_row w g i cs t fr h]; exact h1, h2⟩⟩
theorem IntRows.nil_ {B : Nat} {w : World} {A : Option Addr} : IntRows B w A [] := fun h => by simp at h
theorem none_row {B : Nat} {w : World} {bs : List (List Int)} {i : Nat} {cs : Array Value} (h : cs[i]? = some (.slice none 0 0)) (hn : gr bs i = []) :
    ∃ (R : Option Addr) (c : Nat), cs[i]? = some (.slice R (gr bs i).length c) ∧ (gr bs i).length ≤ c ∧ c ≤ maxLen ∧ Ints B w R (gr bs i) :=
  ⟨none, 0, by rw [hn]; exact h, by rw [hn]; exact Nat.le_refl _, Nat.zero_le _, by rw [hn]; exact Ints.nil_⟩
theorem some_row {B : Nat} {w : World} {bs : List (List Int)} {i g n : Nat} {cs : Array Value} {l : List Int} (h : cs[i]? = some (.slice (some ⟨g, 0, none⟩) n n)) (hn : gr bs i = l) (hl : l.length = n) (hm : n ≤ 100) (hi : Ints B w (some ⟨g, 0, none⟩) l) :
    ∃ (R : Option Addr) (c : Nat), cs[i]? = some (.slice R (gr bs i).length c) ∧ (gr bs i).length ≤ c ∧ c ≤ maxLen ∧ Ints B w R (gr bs i) :=
  ⟨some ⟨g, 0, none⟩, n, by rw [hn, hl]; exact h, by rw [hn, hl]; exact Nat.le_refl _, by unfold maxLen; omega, by rw [hn]; exact hi⟩
theorem Ints.of_lit {B g : Nat} {w : World} {cs : Array Value} {t : TypeId} {fr : Nat × Nat} {xs : List Int} (h : w.heap[g]? = some (.cells cs t fr)) (hB : g < B) (hc : cs.toList = xs.map (Value.int .i64)) : Ints B w (some ⟨g, 0, none⟩) xs :=
  Ints.of_block h hB fun k hk => by
    rw [← Array.getElem?_toList, hc, List.getElem?_map, List.getElem?_eq_getElem hk, gi_get hk]; rfl
theorem ein_lit {E : Est} {A R : Option Addr} {n m : Nat} {w : World} {B : Nat} (h1 : Ints B w A E.sh) (h2 : IntRows B w R E.bd) (hn : E.sh.length ≤ n) (hm : E.bd.length ≤ m) (h3 : n ≤ 100) (h4 : m ≤ 100) : EIn B w A n R m E :=
  ⟨h1, h2, hn, by unfold maxLen; omega, hm, by unfold maxLen; omega⟩
theorem lit3 (w : World) (x y z : Int) : Ints (w.alloc (.cells #[.int .i64 x, .int .i64 y, .int .i64 z] 3)).heap.size (w.alloc (.cells #[.int .i64 x, .int .i64 y, .int .i64 z] 3)) (some ⟨w.heap.size, 0, none⟩) [x, y, z] :=
  Ints.of_lit (heap_new rfl) (by simp) rfl

/-- A list of estates in memory, two cells each. -/
def EstRows (B : Nat) (w : World) (g : Nat) (Es : List Est) : Prop :=
  g < B ∧ ∀ k, k < Es.length → ∃ (A : Option Addr) (c : Nat) (R : Option Addr) (d : Nat), w.cell? ⟨g, k * 2, none⟩ = some (.slice A (ge Es k).sh.length c) ∧ w.cell? ⟨g, k * 2 + 1, none⟩ = some (.slice R (ge Es k).bd.length d) ∧ EIn B w A c R d (ge Es k)
theorem EstRows.next {w w' : World} {g : Nat} {Es : List Est} (h : EstRows w.heap.size w g Es) (hb : Below w.heap.size w w') : EstRows w'.heap.size w' g Es := by
  obtain ⟨h0, h⟩ := h
  refine ⟨Nat.lt_of_lt_of_le h0 hb.size, fun k hk => ?_⟩
  obtain ⟨A, c, R, d, h1, h2, h3⟩ := h k hk
  exact ⟨A, c, R, d, (hb.cell (p := ⟨g, k * 2, none⟩) h0).trans h1, (hb.cell (p := ⟨g, k * 2 + 1, none⟩) h0).trans h2, h3.next hb⟩
end Go.Proofs.Ytedgdmblpjfaiaa
