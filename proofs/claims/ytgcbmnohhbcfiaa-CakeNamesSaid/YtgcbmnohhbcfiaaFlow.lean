/- Regions that draw their order, taken in stages: what yields the same in every world is taken, then one operation that makes memory, then what yields the same from there on, and so on. -/
import Derived.Test.YtgcbmnohhbcfiaaGrow
import Derived.Test.YtgcbmnohhbcfiaaAppend
import Derived.Test.YtgcbmnohhbcfiaaRtW
namespace Go.Proofs.Ytgcbmnohhbcfiaa
open Go.RowKit
set_option linter.unusedVariables false
set_option linter.unusedSimpArgs false

/-- The worlds that have grown out of w0, and hold all that w1 holds but for the blocks X. -/
structure RK (w0 w1 : World) (X : List Nat) (W : World) : Prop where
  b : Below w0.heap.size w0 W
  s : w1.heap.size ≤ W.heap.size
  k : ∀ g, g < w1.heap.size → g ∉ X → W.heap[g]? = w1.heap[g]?
theorem RK.grows (w0 w1 : World) (X : List Nat) : Grows (RK w0 w1 X) := fun W W' h hb =>
  ⟨bcall h.b h.b.size hb, Nat.le_trans h.s hb.size, fun g hg hx => (hb.block g (Nat.lt_of_lt_of_le hg h.s)).trans (h.k g hg hx)⟩
theorem RK.start (w0 : World) : RK w0 w0 [] w0 := ⟨Below.refl _ _, Nat.le_refl _, fun _ _ _ => rfl⟩
/-- The base moves on. -/
theorem RK.move {w0 w1 w2 : World} {X X' : List Nat} (h : RK w0 w1 X w2) (hx : ∀ g, g ∈ X' → g ∈ X ∨ w1.heap.size ≤ g) : ∀ W, RK w0 w2 X' W → RK w0 w1 X W := fun W k =>
  ⟨k.b, Nat.le_trans h.s k.s, fun g hg hn => (k.k g (Nat.lt_of_lt_of_le hg h.s) (fun hm => (hx g hm).elim hn (fun q => by omega))).trans (h.k g hg hn)⟩
theorem RK.here {w0 w1 w2 : World} {X X' : List Nat} (h : RK w0 w1 X w2) : RK w0 w2 X' w2 := ⟨h.b, Nat.le_refl _, fun _ _ _ => rfl⟩
theorem RK.below {w0 w1 W : World} (h0 : Below w0.heap.size w0 w1) (h : RK w0 w1 [] W) : Below w1.heap.size w1 W :=
  ⟨h.b.os.trans h0.os.symm, h.b.tape.trans h0.tape.symm, h.b.output.trans h0.output.symm, h.s, fun g hg => h.k g hg (by simp)⟩
theorem RK.at {w0 w1 W : World} {X : List Nat} {g : Nat} {o : Obj} (h : RK w0 w1 X W) (hh : w1.heap[g]? = some o) (hx : g ∉ X) : W.heap[g]? = some o := (h.k g (lt_some hh) hx).trans hh
theorem RK.alloc {w0 w1 W : World} {X : List Nat} (h : RK w0 w1 X W) (o : Obj) : RK w0 w1 X (W.alloc o) := RK.grows _ _ _ _ _ h (one_alloc _ _)
theorem RK.set {w0 w1 W : World} {X : List Nat} (h : RK w0 w1 X W) {g j : Nat} {u : Value} (h0 : w0.heap.size ≤ g) (hx : g ∈ X ∨ w1.heap.size ≤ g) : RK w0 w1 X (W.setCell ⟨g, j, none⟩ u) :=
  ⟨h.b.setCell h0 _, by simpa using h.s, fun k hk hn => by rw [heap_set_ne (fun e => by subst e; exact hx.elim hn (fun q => by omega))]; exact h.k k hk hn⟩
theorem RK.grow {w0 w1 W W' : World} {X : List Nat} (h : RK w0 w1 X W) (hb : Below W.heap.size W W') : RK w0 w1 X W' := RK.grows _ _ _ _ _ h hb

section
variable {P : Program} {ops : Array Oper} {md : Region.Mode} {Q : Exit → Act → World → Prop} {R R' : World → Prop}
theorem wpAnyE_sub (hs : ∀ W, R' W → R W) (hg : Grows R') : ∀ (fuel : Nat) (listed : Array Bool) (a : Act) (w : World), R' w → wpAnyE P md ops Q R' fuel listed a w → wpAnyE P md ops Q R fuel listed a w
  | 0, _, _, _, hw, h => ⟨h.1, fun W hW _ => h.2 W hW (hg _ _ hw hW)⟩
  | fuel + 1, _, _, _, hw, h => fun W hW _ =>
    have k := h W hW (hg _ _ hw hW)
    ⟨k.1, fun i hi => wpOp_mono (fun _ _ c => ⟨hs _ c.1, wpAnyE_sub hs hg fuel _ _ _ c.1 c.2⟩) (k.2 i hi)⟩
/-- What yields the same from here on is taken. -/
theorem wpAnyE_go {listed : Array Bool} {a : Act} {w0 w1 : World} {X : List Nat} (hs : ∀ W, RK w0 w1 X W → R W) (h1 : RK w0 w1 X w1) (is : List Nat) (m : Nat)
    (hB : (Region.noSelect ops && takeB ops is listed && dstsB a.tmps.size (pickOps ops is) [] && decide ((pickOps ops is).length = is.length)) = true)
    (hA : ∃ A, (∀ G, Grows G → Nonempty (GE (RK w0 w1 X) G) → wpQuiet P ops (fun w' => ∃ e : GE (RK w0 w1 X) G, w' = e.w) (fun a' => a' = A) (pickOps ops is) a) ∧
      wpAnyE P .any ops (NoPanic Q) (RK w0 w1 X) m (listedAfter is listed) A w1) : wpAnyE P .any ops (NoPanic Q) R (is.length + m) listed a w1 := by
  simp only [Bool.and_eq_true, decide_eq_true_eq] at hB
  obtain ⟨⟨⟨b1, b2⟩, b3⟩, b4⟩ := hB
  obtain ⟨A, hq, h⟩ := hA
  exact wpAnyE_sub hs (RK.grows _ _ _) _ _ _ _ h1 (wpAnyE_run (Q := NoPanic Q) (A := A) (RK.grows _ _ _) ⟨_, h1⟩ b1 (fun c a w d v h => h) is listed a w1 m [] _ (Nat.le_refl _) b2 b3 b4 hq h)
end
/-- The beginning. -/
theorem wp_region_flow {P : Program} {l : List Oper} {id : Nat} {Q : Exit → Act → World → Prop} {a : Act} {w : World} (n : Nat) (hm : P.follows .mixedOrders = true) (hn : l.length = n)
    (h : ∀ w0, Below w.heap.size w w0 → wpAnyE P .any l.toArray (NoPanic Q) (RK w0 w0 []) n (Array.replicate n false) a w0) : (Code.region id l.toArray true).wp P Q a w := by
  subst hn
  exact wp_region_noPanic (wp_region_E (R := RK w.drew w.drew []) hm (RK.start _) (by simpa using h w.drew (Below.refl _ _).drew))
end Go.Proofs.Ytgcbmnohhbcfiaa
