/- What a meeting of the call's own hangs on was made by the call: spoil writes nothing else. -/
import Derived.Test.YtgcbmnohhbcfiaaAgSp
namespace Go.Proofs.Ytgcbmnohhbcfiaa
open Go.RowKit Go.Deep
set_option linter.unusedVariables false
set_option linter.unusedSimpArgs false

/-- A world with some of its blocks struck out. -/
def blank (W : World) (p : Nat → Bool) : World := { W with heap := W.heap.mapIdx (fun i o => if p i = true then .cells #[] 0 else o) }
theorem blank_size (W : World) (p : Nat → Bool) : (blank W p).heap.size = W.heap.size := by simp [blank]
theorem blank_same {W : World} {p : Nat → Bool} {g : Nat} (h : p g = false) : (blank W p).heap[g]? = W.heap[g]? := by
  show (W.heap.mapIdx _)[g]? = _
  rw [Array.getElem?_mapIdx]
  cases W.heap[g]? with
  | none => rfl
  | some o => simp [h]
theorem blank_none {W : World} {p : Nat → Bool} {a : Addr} (h : p a.block = true) : (blank W p).cell? a = none := by
  unfold World.cell?
  have e : (blank W p).heap[a.block]? = W.heap[a.block]?.map (fun o => if p a.block = true then .cells #[] 0 else o) := by
    show (W.heap.mapIdx _)[a.block]? = _
    rw [Array.getElem?_mapIdx]
  rw [e]
  cases W.heap[a.block]? with
  | none => rfl
  | some o =>
    simp only [h, Option.map_some, if_pos]
    split <;> simp
theorem MtOwn.spo {w W : World} {P S : Option Addr} {cp cs : Nat} {m : Mt} {L : List (Nat × Obj)} (h : MtOwn w (.slice P m.acs.length cp) (.slice S m.log.length cs) m L W) : Spo w.heap.size W.heap.size m.acs m.log P S W := by
  obtain ⟨⟨xs, hm⟩, hw⟩ := h
  refine ⟨fun i a hi => ?_, fun k hk => ?_⟩
  · have hil := set_lt hi
    have ho := hm.row 0 rfl
    obtain ⟨g, hg⟩ := own_someA (A := P) (c := cp) (n := m.acs.length) ho (by omega)
    subst hg
    obtain ⟨r1, r2, r3⟩ := hm.rowAt 0 rfl
    obtain ⟨vs, ⟨A, c, R, d, A', c', R', d', rfl, hC, hC', hwf, hU⟩, hv⟩ := hm.here i a hi
    have hx : AcXs xs i a A c R d A' c' R' d' := hv
    obtain ⟨hat, _⟩ := hm.acAt 0 rfl hil hx
    have gN : w.heap.size ≤ g := (own_ge' ho g rfl).1
    have hcap := Nat.le_trans hC.ld hC.md
    unfold maxLen at hcap
    refine ⟨⟨g, 0, none⟩, R, d, rfl, gN, r3, ⟨hat.c2, r3, ⟨⟨_, hat.c7⟩, ?_, by rw [block_add]; exact r3⟩, by omega, fun k hk => ?_⟩⟩
    · rw [addr_row (by decide)]; exact r2 _
    · obtain ⟨rd, e, hB, hc⟩ := hC.dens.at_ hk
      have key : ¬ (rd.block < w.heap.size ∨ rd.block ∈ rowsB L [⟨.slice (some ⟨g, 0, none⟩) m.acs.length cp, 116, 8, m.acs.length, xs⟩, ⟨.slice S m.log.length cs, 84, 8, m.log.length, lgV m.log⟩]) := fun hx2 => by
        have F := hm.sep (blank W (fun g' => decide (g' < w.heap.size ∨ g' ∈ rowsB L [⟨.slice (some ⟨g, 0, none⟩) m.acs.length cp, 116, 8, m.acs.length, xs⟩, ⟨.slice S m.log.length cs, 84, 8, m.log.length, lgV m.log⟩]))) (by rw [blank_size]; exact Nat.le_refl _) (fun g' h1 h2 h3 => blank_same (decide_eq_false (fun z => z.elim (fun z => by omega) h3)))
        obtain ⟨vs2, ⟨A2, c2, R2, d2, A3, c3, R3, d3, rfl, k1, k2, k3, k4⟩, hv2⟩ := F i a hi
        have hx3 : AcXs xs i a A2 c2 R2 d2 A3 c3 R3 d3 := hv2
        obtain ⟨rfl, rfl, rfl, rfl, rfl, rfl, rfl, rfl⟩ := hx.inj hx3
        obtain ⟨rd2, e2, hB2, hc2⟩ := k1.dens.at_ hk
        rw [e] at e2
        obtain rfl := Option.some.inj e2
        rw [blank_none (decide_eq_true (by rw [block_add]; exact hx2))] at hc2
        cases hc2
      refine ⟨rd, e, by omega, hB, fun q => key (Or.inr ?_), ⟨⟨_, hc⟩, hU rd e k hk, by rw [block_add]; exact hB⟩⟩
      rw [q]
      exact rowsB_row (i := 0) rfl rfl
  · have ho := hm.row 1 rfl
    obtain ⟨g, hg⟩ := own_someA (A := S) (c := cs) (n := m.log.length) ho (by omega)
    subst hg
    obtain ⟨r1, r2, r3⟩ := hm.rowAt 1 rfl
    have hl : (lgV m.log).length = m.log.length * 8 := ho.1
    have hk8 : k * 8 < m.log.length * 8 := by omega
    have hu : (lgV m.log)[k * 8]? = some (lgV m.log)[k * 8] := List.getElem?_eq_getElem (by omega)
    refine ⟨⟨g, 0, none⟩, rfl, (own_ge' ho g rfl).1, r3, ?_⟩
    rw [add_mk, Nat.zero_add]
    exact ⟨⟨_, r1 (k * 8) _ hk8 hu⟩, r2 _, r3⟩
end Go.Proofs.Ytgcbmnohhbcfiaa
