/- AdjustNames: what is written out, and the plain answers. -/
import Derived.Test.YtcjfcfgkejoeeaaAdAl
namespace Go.Proofs.Ytcjfcfgkejoeeaa
open Go.RowKit Go.Deep
set_option linter.unusedVariables false
set_option linter.unusedSimpArgs false

theorem Fresh.rk2 {B0 : Nat} {w0 w1 cur W : World} {X : List Nat} {F : World → Prop} (h : Fresh B0 w1 F) (hb : Below w1.heap.size w1 cur) (k : RK w0 cur X W) (hX : ∀ g, g ∈ X → g < B0 ∨ w1.heap.size ≤ g) : F W :=
  h W (Nat.le_trans hb.size k.s) (fun g h1 h2 => (k.k g (Nat.lt_of_lt_of_le h2 hb.size) (fun hm => (hX g hm).elim (fun q => by omega) (fun q => by omega))).trans (hb.block g h2))
/-- Goods of one agent, of one good. -/
theorem gd_one {g g1 : Nat} {w : World} {x : Int} {t : TypeId} (h1 : w.heap[g1]? = some (.cells #[.int .i64 x] t)) (h3 : w.heap[g]? = some (.cells #[.slice (some ⟨g1, 0, none⟩) 1 1] 25)) : GIn w.heap.size w (some ⟨g, 0, none⟩) 1 [[x]] := by
  have z1 := lt_some h1
  refine ⟨fun _ => ⟨_, rfl, lt_some h3, fun i hi => ?_⟩, by simp, by unfold maxLen; omega⟩
  match i, (show i < 1 by simpa using hi) with
  | 0, _ => exact ⟨_, 1, by rw [add_mk, cell_of_row _ _ _ _ _ _ h3]; rfl, Nat.le_refl _, by unfold maxLen; omega, Ints.of_lit h1 z1 rfl⟩
theorem gd_two {g g1 g2 n : Nat} {w : World} {cs0 cs1 : Array Value} {t : TypeId} {bs : List (List Int)}
    (h1 : w.heap[g1]? = some (.cells cs0 t)) (h2 : w.heap[g2]? = some (.cells cs1 t)) (h3 : w.heap[g]? = some (.cells #[.slice (some ⟨g1, 0, none⟩) n n, .slice (some ⟨g2, 0, none⟩) n n] 25))
    (l0 : (gr bs 0).length = n) (l1 : (gr bs 1).length = n) (c0 : cs0.toList = (gr bs 0).map (Value.int .i64)) (c1 : cs1.toList = (gr bs 1).map (Value.int .i64)) (two : bs.length = 2) (hn : n ≤ 100) : GIn w.heap.size w (some ⟨g, 0, none⟩) 2 bs :=
  (gd_lit (B0 := 0) (Nat.zero_le _) (Nat.zero_le _) (Nat.zero_le _) (lt_some h3) h1 h2 h3 l0 l1 c0 c1 two hn).here
/-- Goods of agents without goods. -/
theorem gd_nil {g n : Nat} {w : World} {t : TypeId} {cs : Array Value} {bs : List (List Int)} (h3 : w.heap[g]? = some (.cells cs t)) (hn : bs.length = n) (hm : n ≤ 100) (hb : ∀ i, i < bs.length → gr bs i = []) (hc : ∀ i, i < n → cs[i]? = some (.slice none 0 0)) : GIn w.heap.size w (some ⟨g, 0, none⟩) n bs := by
  refine ⟨fun _ => ⟨_, rfl, lt_some h3, fun i hi => ?_⟩, by omega, by unfold maxLen; omega⟩
  refine ⟨none, 0, by rw [add_mk, cell_of_row _ _ _ _ _ _ h3, hb i hi, Nat.zero_add, hc i (by omega)]; rfl, by rw [hb i hi]; exact Nat.le_refl _, by unfold maxLen; omega, by rw [hb i hi]; exact Ints.nil_⟩
theorem ck0_any (A : Option Addr) (c : Nat) (w : World) (h : GIn w.heap.size w A c [[1]]) : Calls Try.prog 17 #[gV A c [[1]]] w fun e w' => e = .returned (.int .i64 2) ∧ Below w.heap.size w w' := by
  have := acheck_any [[1]] A c w h
  rwa [show adCode [[1]] = 2 by decide] at this
theorem ck1_any (A : Option Addr) (c : Nat) (w : World) (h : GIn w.heap.size w A c [[0, 0], [0, 0]]) : Calls Try.prog 17 #[gV A c [[0, 0], [0, 0]]] w fun e w' => e = .returned (.int .i64 18) ∧ Below w.heap.size w w' := by
  have := acheck_any [[0, 0], [0, 0]] A c w h
  rwa [show adCode [[0, 0], [0, 0]] = 18 by decide] at this
theorem ck2_any (A : Option Addr) (c : Nat) (w : World) (h : GIn w.heap.size w A c [[1, 0], [1, 1]]) : Calls Try.prog 17 #[gV A c [[1, 0], [1, 1]]] w fun e w' => e = .returned (.int .i64 8) ∧ Below w.heap.size w w' := by
  have := acheck_any [[1, 0], [1, 1]] A c w h
  rwa [show adCode [[1, 0], [1, 1]] = 8 by decide] at this
theorem ck3_any (A : Option Addr) (c : Nat) (w : World) (h : GIn w.heap.size w A c [[], []]) : Calls Try.prog 17 #[gV A c [[], []]] w fun e w' => e = .returned (.int .i64 18) ∧ Below w.heap.size w w' := by
  have := acheck_any [[], []] A c w h
  rwa [show adCode [[], []] = 18 by decide] at this
theorem ck4_any (A : Option Addr) (c : Nat) (w : World) (h : GIn w.heap.size w A c [[], [], [], [], [], [], []]) : Calls Try.prog 17 #[gV A c [[], [], [], [], [], [], []]] w fun e w' => e = .returned (.int .i64 4) ∧ Below w.heap.size w w' := by
  have := acheck_any [[], [], [], [], [], [], []] A c w h
  rwa [show adCode [[], [], [], [], [], [], []] = 4 by decide] at this
theorem ck5_any (A : Option Addr) (c : Nat) (w : World) (h : GIn w.heap.size w A c [[0], [1]]) : Calls Try.prog 17 #[gV A c [[0], [1]]] w fun e w' => e = .returned (.int .i64 18) ∧ Below w.heap.size w w' := by
  have := acheck_any [[0], [1]] A c w h
  rwa [show adCode [[0], [1]] = 18 by decide] at this
theorem bad0_any (A : Option Addr) (c : Nat) (O : Option Addr) (oc : Nat) (w : World) (h : GIn w.heap.size w A c givenL) (hp : PIn w.heap.size w O oc ⟨[], 0, ⟨0, 0⟩⟩) : Calls Try.prog 12 #[gV A c givenL, pV O oc ⟨[], 0, ⟨0, 0⟩⟩] w fun e w' => e = .returned (.int .i64 8) ∧ Below w.heap.size w w' := by
  have := avalid_any givenL A c ⟨[], 0, ⟨0, 0⟩⟩ O oc w h hp
  rwa [show (⟨[], 0, ⟨0, 0⟩⟩ : Pt).code givenL = 8 by decide] at this
theorem bad1_any (A : Option Addr) (c : Nat) (O : Option Addr) (oc : Nat) (w : World) (h : GIn w.heap.size w A c givenL) (hp : PIn w.heap.size w O oc ⟨[0, 0], (-1), ⟨0, 1⟩⟩) : Calls Try.prog 12 #[gV A c givenL, pV O oc ⟨[0, 0], (-1), ⟨0, 1⟩⟩] w fun e w' => e = .returned (.int .i64 8) ∧ Below w.heap.size w w' := by
  have := avalid_any givenL A c ⟨[0, 0], (-1), ⟨0, 1⟩⟩ O oc w h hp
  rwa [show (⟨[0, 0], (-1), ⟨0, 1⟩⟩ : Pt).code givenL = 8 by decide] at this
theorem bad2_any (A : Option Addr) (c : Nat) (O : Option Addr) (oc : Nat) (w : World) (h : GIn w.heap.size w A c givenL) (hp : PIn w.heap.size w O oc ⟨[0, 0, -1], (-1), ⟨0, 1⟩⟩) : Calls Try.prog 12 #[gV A c givenL, pV O oc ⟨[0, 0, -1], (-1), ⟨0, 1⟩⟩] w fun e w' => e = .returned (.int .i64 8) ∧ Below w.heap.size w w' := by
  have := avalid_any givenL A c ⟨[0, 0, -1], (-1), ⟨0, 1⟩⟩ O oc w h hp
  rwa [show (⟨[0, 0, -1], (-1), ⟨0, 1⟩⟩ : Pt).code givenL = 8 by decide] at this
theorem bad3_any (A : Option Addr) (c : Nat) (O : Option Addr) (oc : Nat) (w : World) (h : GIn w.heap.size w A c givenL) (hp : PIn w.heap.size w O oc ⟨[0, 0, 2], (-1), ⟨0, 1⟩⟩) : Calls Try.prog 12 #[gV A c givenL, pV O oc ⟨[0, 0, 2], (-1), ⟨0, 1⟩⟩] w fun e w' => e = .returned (.int .i64 8) ∧ Below w.heap.size w w' := by
  have := avalid_any givenL A c ⟨[0, 0, 2], (-1), ⟨0, 1⟩⟩ O oc w h hp
  rwa [show (⟨[0, 0, 2], (-1), ⟨0, 1⟩⟩ : Pt).code givenL = 8 by decide] at this
theorem bad4_any (A : Option Addr) (c : Nat) (O : Option Addr) (oc : Nat) (w : World) (h : GIn w.heap.size w A c givenL) (hp : PIn w.heap.size w O oc ⟨[0, 0, 1], (-1), ⟨1, 2⟩⟩) : Calls Try.prog 12 #[gV A c givenL, pV O oc ⟨[0, 0, 1], (-1), ⟨1, 2⟩⟩] w fun e w' => e = .returned (.int .i64 8) ∧ Below w.heap.size w w' := by
  have := avalid_any givenL A c ⟨[0, 0, 1], (-1), ⟨1, 2⟩⟩ O oc w h hp
  rwa [show (⟨[0, 0, 1], (-1), ⟨1, 2⟩⟩ : Pt).code givenL = 8 by decide] at this
theorem bad5_any (A : Option Addr) (c : Nat) (O : Option Addr) (oc : Nat) (w : World) (h : GIn w.heap.size w A c givenL) (hp : PIn w.heap.size w O oc ⟨[0, 0, 1], 2, ⟨1, 2⟩⟩) : Calls Try.prog 12 #[gV A c givenL, pV O oc ⟨[0, 0, 1], 2, ⟨1, 2⟩⟩] w fun e w' => e = .returned (.int .i64 8) ∧ Below w.heap.size w w' := by
  have := avalid_any givenL A c ⟨[0, 0, 1], 2, ⟨1, 2⟩⟩ O oc w h hp
  rwa [show (⟨[0, 0, 1], 2, ⟨1, 2⟩⟩ : Pt).code givenL = 8 by decide] at this
theorem bad6_any (A : Option Addr) (c : Nat) (O : Option Addr) (oc : Nat) (w : World) (h : GIn w.heap.size w A c givenL) (hp : PIn w.heap.size w O oc ⟨[0, 0, 1], 3, ⟨1, 2⟩⟩) : Calls Try.prog 12 #[gV A c givenL, pV O oc ⟨[0, 0, 1], 3, ⟨1, 2⟩⟩] w fun e w' => e = .returned (.int .i64 8) ∧ Below w.heap.size w w' := by
  have := avalid_any givenL A c ⟨[0, 0, 1], 3, ⟨1, 2⟩⟩ O oc w h hp
  rwa [show (⟨[0, 0, 1], 3, ⟨1, 2⟩⟩ : Pt).code givenL = 8 by decide] at this
theorem bad7_any (A : Option Addr) (c : Nat) (O : Option Addr) (oc : Nat) (w : World) (h : GIn w.heap.size w A c givenL) (hp : PIn w.heap.size w O oc ⟨[0, 0, 1], 0, ⟨0, 1⟩⟩) : Calls Try.prog 12 #[gV A c givenL, pV O oc ⟨[0, 0, 1], 0, ⟨0, 1⟩⟩] w fun e w' => e = .returned (.int .i64 8) ∧ Below w.heap.size w w' := by
  have := avalid_any givenL A c ⟨[0, 0, 1], 0, ⟨0, 1⟩⟩ O oc w h hp
  rwa [show (⟨[0, 0, 1], 0, ⟨0, 1⟩⟩ : Pt).code givenL = 8 by decide] at this
theorem bad8_any (A : Option Addr) (c : Nat) (O : Option Addr) (oc : Nat) (w : World) (h : GIn w.heap.size w A c givenL) (hp : PIn w.heap.size w O oc ⟨[0, 0, 1], 0, ⟨1, 1⟩⟩) : Calls Try.prog 12 #[gV A c givenL, pV O oc ⟨[0, 0, 1], 0, ⟨1, 1⟩⟩] w fun e w' => e = .returned (.int .i64 8) ∧ Below w.heap.size w w' := by
  have := avalid_any givenL A c ⟨[0, 0, 1], 0, ⟨1, 1⟩⟩ O oc w h hp
  rwa [show (⟨[0, 0, 1], 0, ⟨1, 1⟩⟩ : Pt).code givenL = 8 by decide] at this
theorem bad9_any (A : Option Addr) (c : Nat) (O : Option Addr) (oc : Nat) (w : World) (h : GIn w.heap.size w A c givenL) (hp : PIn w.heap.size w O oc ⟨[0, 0, 1], 0, ⟨2, 4⟩⟩) : Calls Try.prog 12 #[gV A c givenL, pV O oc ⟨[0, 0, 1], 0, ⟨2, 4⟩⟩] w fun e w' => e = .returned (.int .i64 8) ∧ Below w.heap.size w w' := by
  have := avalid_any givenL A c ⟨[0, 0, 1], 0, ⟨2, 4⟩⟩ O oc w h hp
  rwa [show (⟨[0, 0, 1], 0, ⟨2, 4⟩⟩ : Pt).code givenL = 8 by decide] at this
theorem bad10_any (A : Option Addr) (c : Nat) (O : Option Addr) (oc : Nat) (w : World) (h : GIn w.heap.size w A c givenL) (hp : PIn w.heap.size w O oc ⟨[0, 0, 1], 0, ⟨1, 1000001⟩⟩) : Calls Try.prog 12 #[gV A c givenL, pV O oc ⟨[0, 0, 1], 0, ⟨1, 1000001⟩⟩] w fun e w' => e = .returned (.int .i64 8) ∧ Below w.heap.size w w' := by
  have := avalid_any givenL A c ⟨[0, 0, 1], 0, ⟨1, 1000001⟩⟩ O oc w h hp
  rwa [show (⟨[0, 0, 1], 0, ⟨1, 1000001⟩⟩ : Pt).code givenL = 8 by decide] at this
theorem top_any (A : Option Addr) (c : Nat) (O : Option Addr) (oc : Nat) (w : World) (h : GIn w.heap.size w A c givenL) (hp : PIn w.heap.size w O oc ⟨[0, 0, 1], 0, ⟨1, 1000000⟩⟩) : Calls Try.prog 12 #[gV A c givenL, pV O oc ⟨[0, 0, 1], 0, ⟨1, 1000000⟩⟩] w fun e w' => e = .returned (.int .i64 0) ∧ Below w.heap.size w w' := by
  have := avalid_any givenL A c ⟨[0, 0, 1], 0, ⟨1, 1000000⟩⟩ O oc w h hp
  rwa [show (⟨[0, 0, 1], 0, ⟨1, 1000000⟩⟩ : Pt).code givenL = 0 by decide] at this
theorem half_values (A : Option Addr) (c : Nat) (O : Option Addr) (oc : Nat) (w : World) (h : GIn w.heap.size w A c givenL) (hp : PIn w.heap.size w O oc ⟨[0, 0, 1], 0, ⟨1, 2⟩⟩) :
    Calls Try.prog 10 #[gV A c givenL, pV O oc ⟨[0, 0, 1], 0, ⟨1, 2⟩⟩] w fun e w' => e = .returned (.tuple #[rV ⟨6, 1⟩, rV ⟨6, 1⟩, .int .i64 0]) ∧ Below w.heap.size w w' := by
  have := avalues_any givenL A c ⟨[0, 0, 1], 0, ⟨1, 2⟩⟩ O oc w h hp
  rw [show (⟨[0, 0, 1], 0, ⟨1, 2⟩⟩ : Pt).code givenL = 0 by decide, show (⟨[0, 0, 1], 0, ⟨1, 2⟩⟩ : Pt).val givenL 0 = ⟨6, 1⟩ by decide, show (⟨[0, 0, 1], 0, ⟨1, 2⟩⟩ : Pt).val givenL 1 = ⟨6, 1⟩ by decide] at this
  exact this
def dvL0 : Pt := ⟨[0, 0, 1], 1, ⟨4, 9⟩⟩
theorem dv0_div : divP [[4, 4, 2], [2, 5, 3]] = dvL0 := pt_ext (by decide) (by decide) (by decide)
theorem dv0_any (A : Option Addr) (c : Nat) (w : World) (h : GIn w.heap.size w A c [[4, 4, 2], [2, 5, 3]]) :
    Calls Try.prog 15 #[gV A c [[4, 4, 2], [2, 5, 3]]] w fun e w' => ∃ (O : Option Addr) (oc : Nat), e = .returned (.tuple #[pV O oc dvL0, .int .i64 0]) ∧ PIn w'.heap.size w' O oc dvL0 ∧ Below w.heap.size w w' := by
  refine (adivide_any [[4, 4, 2], [2, 5, 3]] A c w h).mono ?_
  rintro e w' ⟨O, oc, D, rfl, hp, hd, _, hb⟩
  have hc : adCode [[4, 4, 2], [2, 5, 3]] = 0 := by decide
  rw [hc] at hd ⊢
  obtain rfl := (hd rfl).trans dv0_div
  exact ⟨O, oc, rfl, hp, hb⟩
def dvL1 : Pt := ⟨[0, 1], (-1), ⟨0, 1⟩⟩
theorem dv1_div : divP [[1, 0], [0, 1]] = dvL1 := pt_ext (by decide) (by decide) (by decide)
theorem dv1_any (A : Option Addr) (c : Nat) (w : World) (h : GIn w.heap.size w A c [[1, 0], [0, 1]]) :
    Calls Try.prog 15 #[gV A c [[1, 0], [0, 1]]] w fun e w' => ∃ (O : Option Addr) (oc : Nat), e = .returned (.tuple #[pV O oc dvL1, .int .i64 0]) ∧ PIn w'.heap.size w' O oc dvL1 ∧ Below w.heap.size w w' := by
  refine (adivide_any [[1, 0], [0, 1]] A c w h).mono ?_
  rintro e w' ⟨O, oc, D, rfl, hp, hd, _, hb⟩
  have hc : adCode [[1, 0], [0, 1]] = 0 := by decide
  rw [hc] at hd ⊢
  obtain rfl := (hd rfl).trans dv1_div
  exact ⟨O, oc, rfl, hp, hb⟩
def dvL2 : Pt := ⟨[0], 0, ⟨1, 2⟩⟩
theorem dv2_div : divP [[1000], [1000]] = dvL2 := pt_ext (by decide) (by decide) (by decide)
theorem dv2_any (A : Option Addr) (c : Nat) (w : World) (h : GIn w.heap.size w A c [[1000], [1000]]) :
    Calls Try.prog 15 #[gV A c [[1000], [1000]]] w fun e w' => ∃ (O : Option Addr) (oc : Nat), e = .returned (.tuple #[pV O oc dvL2, .int .i64 0]) ∧ PIn w'.heap.size w' O oc dvL2 ∧ Below w.heap.size w w' := by
  refine (adivide_any [[1000], [1000]] A c w h).mono ?_
  rintro e w' ⟨O, oc, D, rfl, hp, hd, _, hb⟩
  have hc : adCode [[1000], [1000]] = 0 := by decide
  rw [hc] at hd ⊢
  obtain rfl := (hd rfl).trans dv2_div
  exact ⟨O, oc, rfl, hp, hb⟩
end Go.Proofs.Ytcjfcfgkejoeeaa
