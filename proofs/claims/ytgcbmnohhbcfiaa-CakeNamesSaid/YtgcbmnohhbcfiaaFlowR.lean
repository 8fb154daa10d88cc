/- Regions that draw their order, over boxes and rows of the call's own. -/
import Derived.Test.YtgcbmnohhbcfiaaMx
namespace Go.Proofs.Ytgcbmnohhbcfiaa
open Go.RowKit Go.Deep
set_option linter.unusedVariables false
set_option linter.unusedSimpArgs false

theorem Bx.grows (w : World) (L : List (Nat × Obj)) : Grows (Bx w L) := fun _ _ h hb => h.next hb
section
variable {P : Program} {ops : Array Oper} {md : Region.Mode} {Q : Exit → Act → World → Prop} {R : World → Prop}
/-- What yields the same from here on is taken. -/
theorem wpAnyE_goR {listed : Array Bool} {a : Act} {w1 : World} (hRg : Grows R) (h1 : R w1) (is : List Nat) (m : Nat)
    (hB : (Region.noSelect ops && takeB ops is listed && dstsB a.tmps.size (pickOps ops is) [] && decide ((pickOps ops is).length = is.length)) = true)
    (hA : ∃ A, (∀ G, Grows G → Nonempty (GE R G) → wpQuiet P ops (fun w' => ∃ e : GE R G, w' = e.w) (fun a' => a' = A) (pickOps ops is) a) ∧
      wpAnyE P .any ops (NoPanic Q) R m (listedAfter is listed) A w1) : wpAnyE P .any ops (NoPanic Q) R (is.length + m) listed a w1 := by
  simp only [Bool.and_eq_true, decide_eq_true_eq] at hB
  obtain ⟨⟨⟨b1, b2⟩, b3⟩, b4⟩ := hB
  obtain ⟨A, hq, h⟩ := hA
  exact wpAnyE_run (Q := NoPanic Q) (A := A) hRg ⟨_, h1⟩ b1 (fun c a w d v h => h) is listed a w1 m [] _ (Nat.le_refl _) b2 b3 b4 hq h
end
/-- The beginning. -/
theorem wp_region_R {P : Program} {l : List Oper} {id : Nat} {Q : Exit → Act → World → Prop} {a : Act} {w : World} (R : World → Prop) (n : Nat) (hm : P.follows .mixedOrders = true) (hn : l.length = n) (hR : R w.drew)
    (h : ∀ w0, Below w.heap.size w w0 → wpAnyE P .any l.toArray (NoPanic Q) R n (Array.replicate n false) a w0) : (Code.region id l.toArray true).wp P Q a w := by
  subst hn
  exact wp_region_noPanic (wp_region_E (R := R) hm hR (by simpa using h w.drew (Below.refl _ _).drew))
section
variable {w W W1 : World} {L : List (Nat × Obj)} {R : List Rw}
theorem Mx.keep (h : Mx w L R W) {M : List (Nat × Obj)} (hs : List.Sublist M L) : Bx w M W := h.bx.sub hs
theorem Mx.put3 (h : Mx w L R W) (i : Nat) {g : Nat} {x y z : Value} {t : TypeId} (hi : L[i]? = some (g, .cells #[x, y, z] t)) (a b c : Value) :
    Mx w (L.set i (g, .cells #[a, b, c] t)) R (((W.setCell ⟨g, 0, none⟩ a).setCell ⟨g, 1, none⟩ b).setCell ⟨g, 2, none⟩ c) := by
  have hlt : i < L.length := by
    rcases Nat.lt_or_ge i L.length with q | q
    · exact q
    · rw [List.getElem?_eq_none q] at hi; cases hi
  have h1 := h.set i hi 0 a
  have h2 := h1.set i (List.getElem?_set_self hlt) 1 b
  rw [List.set_set] at h2
  have h3 := h2.set i (List.getElem?_set_self hlt) 2 c
  rw [List.set_set] at h3
  exact h3
theorem reads_one {g : Nat} {u : Value} {t : TypeId} (h : W.heap[g]? = some (.cells #[u] t)) : Reads W W.heap.size 1 (some ⟨g, 0, none⟩) 1 [u] := by
  refine ⟨rfl, fun _ => ⟨_, rfl, lt_some h, fun k u' hk => ?_⟩⟩
  match k, hk with
  | 0, hk =>
    have : u = u' := by simpa using hk
    subst this
    rw [add_mk, cell_of_row _ _ _ _ _ _ h]; rfl
theorem CIn.reads0 {B : Nat} {w : World} {A : Option Addr} {xs : List Int} (h : Ints B w A xs) : Reads w B 1 A xs.length (intsV xs) := h.reads
end
end Go.Proofs.Ytgcbmnohhbcfiaa
