/- The library's Clone of a list of integers, walked. -/
import Derived.Test.YtgcbmnohhbcfiabCm10
import Derived.Test.YtgcbmnohhbcfiabShelf
import Derived.Test.YtgcbmnohhbcfiabCm13
import Derived.Test.YtgcbmnohhbcfiabCm11
import Derived.Test.YtgcbmnohhbcfiabCm9
namespace Go.Proofs.Ytgcbmnohhbcfiab
open Go.RowKit Go.Deep
set_option linter.unusedVariables false
set_option linter.unusedSimpArgs false

end Go.Proofs.Ytgcbmnohhbcfiab

namespace Go.Proofs.Ytgcbmnohhbcfiab
open Go.RowKit Go.Deep
set_option linter.unusedVariables false
set_option linter.unusedSimpArgs false

def setL (cs : Array Value) : Nat → List Value → Array Value
  | _, [] => cs
  | o, v :: r => setL (cs.setIfInBounds o v) (o + 1) r
theorem setL_size : ∀ (vs : List Value) (cs : Array Value) (o : Nat), (setL cs o vs).size = cs.size
  | [], _, _ => rfl
  | v :: r, cs, o => by rw [setL, setL_size r]; simp
theorem setL_at : ∀ (vs : List Value) (cs : Array Value) (o j : Nat), o + vs.length ≤ cs.size → (setL cs o vs)[j]? = if o ≤ j ∧ j < o + vs.length then vs[j - o]? else cs[j]?
  | [], cs, o, j, _ => by rw [setL, if_neg (by simp <;> omega)]
  | v :: r, cs, o, j, h => by
    have hl : (v :: r).length = r.length + 1 := rfl
    rw [setL, setL_at r _ _ _ (by simp; omega), hl]
    by_cases e : o = j
    · subst e
      rw [if_neg (by omega), if_pos (by omega), Array.getElem?_setIfInBounds_self_of_lt (by omega)]; simp
    · rw [Array.getElem?_setIfInBounds_ne e]
      by_cases q : o + 1 ≤ j ∧ j < o + 1 + r.length
      · rw [if_pos q, if_pos (by omega), show j - o = (j - (o + 1)) + 1 by omega]; rfl
      · rw [if_neg q, if_neg (by omega)]
theorem heap_setCells {g : Nat} {t : TypeId} {fr : Nat × Nat} : ∀ (vs : List Value) (o : Nat) (w : World) (cs : Array Value), w.heap[g]? = some (.cells cs t fr) → (w.setCells g o vs).heap[g]? = some (.cells (setL cs o vs) t fr)
  | [], _, _, _, h => h
  | v :: r, o, w, cs, h => by rw [World.setCells, setL]; exact heap_setCells r _ _ _ (heap_set h)
theorem heap_setCells_ne {g g' : Nat} (hne : g' ≠ g) : ∀ (vs : List Value) (o : Nat) (w : World), (w.setCells g o vs).heap[g']? = w.heap[g']?
  | [], _, _ => rfl
  | v :: r, o, w => by rw [World.setCells, heap_setCells_ne hne r]; exact heap_set_ne hne
theorem size_setCells_ (g : Nat) : ∀ (vs : List Value) (o : Nat) (w : World), (w.setCells g o vs).heap.size = w.heap.size
  | [], _, _ => rfl
  | v :: r, o, w => by rw [World.setCells, size_setCells_ g r]; simp
theorem kept_setCells (g : Nat) : ∀ (vs : List Value) (o : Nat) (w : World), (w.setCells g o vs).os = w.os ∧ (w.setCells g o vs).tape = w.tape ∧ (w.setCells g o vs).output = w.output
  | [], _, _ => ⟨rfl, rfl, rfl⟩
  | v :: r, o, w => by rw [World.setCells]; exact kept_setCells g r _ _
theorem compact_len (l : List Int) : (Lib.compact l).length ≤ l.length := by
  have := nLen_le ⟨0, [], l⟩ l.length
  have e := compact_dens ⟨0, [], l⟩
  simp only at e
  rw [e]; exact this
end Go.Proofs.Ytgcbmnohhbcfiab

namespace Go.Proofs.Ytgcbmnohhbcfiab
open Go.RowKit Go.Deep
set_option linter.unusedVariables false
set_option linter.unusedSimpArgs false

theorem Mz.addI {α : Type} {k : Kd α} {B : Nat} {l : List α} {xs : List Value} {v : Value} {w W W0 : World} {L : List (Nat × Obj)} {R : List Rw} (h : Mz k B l xs v w L R W0) (hb : Below W0.heap.size W0 W) {u : Value} {m : List Int} (ho : W.ownsRow W0.heap.size 3 1 u m.length (intsV m)) : Mz k B l xs v w L (iR u m :: R) W := h.addR hb (iR u m) ho
/-- A cake of two rows that are apart from a third. -/
theorem Mx.sepCk {w W : World} {L : List (Nat × Obj)} {R : List Rw} {K : Ck} {A S : Option Addr} {c d : Nat} {r : Rw} (h : Mx w L R W) (i i1 i2 : Nat) (hi : R[i]? = some r) (h1 : R[i1]? = some (iR (.slice A K.cuts.length c) K.cuts)) (h2 : R[i2]? = some (iR (.slice S K.dens.length d) K.dens))
    (n1 : i1 ≠ i) (n2 : i2 ≠ i) (w0 : -9223372036854775808 ≤ K.len) (w1 : K.len ≤ 9223372036854775807) : Sep w.heap.size W r.v.ownBlock.toList (fun V => kCk.El V K [.int .i64 K.len, .slice A K.cuts.length c, .slice S K.dens.length d]) := by
  intro V hs hk
  have o1 := h.row i1 h1
  have o2 := h.row i2 h2
  have a1 := fun g e => h.apart2 i1 i h1 hi n1 (g := g) e
  have a2 := fun g e => h.apart2 i2 i h2 hi n2 (g := g) e
  obtain ⟨_, _, e1, l1, m1⟩ := own_nil_len o1
  obtain ⟨_, _, e2, l2, m2⟩ := own_nil_len o2
  obtain ⟨rfl, _, rfl⟩ := Value.slice.inj e1
  obtain ⟨rfl, _, rfl⟩ := Value.slice.inj e2
  have p1 : V.ownsRow w.heap.size 3 1 (.slice A K.cuts.length c) K.cuts.length (intsV K.cuts) := ownsRow_block o1 (fun g e => hk g (own_ge' o1 g e).1 (own_ge' o1 g e).2 (a1 g e))
  have p2 : V.ownsRow w.heap.size 3 1 (.slice S K.dens.length d) K.dens.length (intsV K.dens) := ownsRow_block o2 (fun g e => hk g (own_ge' o2 g e).1 (own_ge' o2 g e).2 (a2 g e))
  exact ⟨A, c, S, d, rfl, (Ints.of_own p1).1, (Ints.of_own p2).1, l1, m1, l2, m2, w0, w1⟩
end Go.Proofs.Ytgcbmnohhbcfiab

namespace Go.Proofs.Ytgcbmnohhbcfiab
open Go.RowKit Go.Deep
set_option linter.unusedVariables false
set_option linter.unusedSimpArgs false

end Go.Proofs.Ytgcbmnohhbcfiab

namespace Go.Proofs.Ytgcbmnohhbcfiab
set_option linter.unusedVariables false
set_option linter.unusedSimpArgs false

def kdQ (q : Qy) : Int := if q.kind = 2 then 2 else 1
/-- The log behind k of the queries. -/
def ranTo (ks : List Ck) (qs : List Qy) : Nat → List Qy
  | 0 => []
  | k + 1 => match qs[k]? with
    | none => ranTo ks qs k
    | some q => if askC ks (ranTo ks qs k).length q.agent (kdQ q) q.a q.b = 0 then ranTo ks qs k ++ [⟨q.agent, kdQ q, q.a, q.b, ansR (ckAt ks q.agent) (kdQ q) q.a q.b⟩] else ranTo ks qs k
theorem ranTo_step {ks : List Ck} {qs : List Qy} {k : Nat} {q : Qy} (h : qs[k]? = some q) :
    ranTo ks qs (k + 1) = if askC ks (ranTo ks qs k).length q.agent (kdQ q) q.a q.b = 0 then ranTo ks qs k ++ [⟨q.agent, kdQ q, q.a, q.b, ansR (ckAt ks q.agent) (kdQ q) q.a q.b⟩] else ranTo ks qs k := by
  rw [ranTo]; rw [h]
theorem ranTo_len (ks : List Ck) (qs : List Qy) : ∀ k, (ranTo ks qs k).length ≤ k
  | 0 => Nat.le_refl _
  | k + 1 => by
    have := ranTo_len ks qs k
    rw [ranTo]
    split
    · omega
    · split
      · rw [List.length_append]; simp; omega
      · omega
theorem deskC_le {ks : List Ck} {n m : Nat} (h : n ≤ 2000) (hm : m ≤ 2000) : deskC ks n = deskC ks m := by
  unfold deskC
  by_cases q : 6 < ks.length
  · rw [if_pos (Or.inl q), if_pos (Or.inl q)]
  · rw [if_neg (show ¬ (6 < ks.length ∨ 2000 < n) by omega), if_neg (show ¬ (6 < ks.length ∨ 2000 < m) by omega)]
theorem kdQ_or (q : Qy) : kdQ q = 1 ∨ kdQ q = 2 := by unfold kdQ; split <;> simp
theorem askC_zero {ks : List Ck} {n : Nat} {g kind : Int} {a b : Rt} (h : askC ks n g kind a b = 0) : deskC ks n = 0 ∧ hasB ks.length g = true ∧ ansC (ckAt ks g) kind a b = 0 ∧ n < 2000 := by
  unfold askC at h
  by_cases h1 : deskC ks n ≠ 0
  · rw [if_pos h1] at h; exact absurd h h1
  rw [if_neg h1] at h
  by_cases h2 : hasB ks.length g = false
  · rw [if_pos h2] at h; omega
  rw [if_neg h2] at h
  by_cases h3 : ansC (ckAt ks g) kind a b ≠ 0
  · rw [if_pos h3] at h; exact absurd h h3
  rw [if_neg h3] at h
  by_cases h4 : 2000 ≤ n
  · rw [if_pos h4] at h; omega
  exact ⟨by omega, by simpa using h2, by omega, by omega⟩
theorem askC_of {ks : List Ck} {n : Nat} {g kind : Int} {a b : Rt} (h1 : deskC ks n = 0) (h2 : hasB ks.length g = true) (h3 : ansC (ckAt ks g) kind a b = 0) (h4 : n < 2000) : askC ks n g kind a b = 0 := by
  unfold askC
  rw [if_neg (by omega), if_neg (by simp [h2]), if_neg (by omega), if_neg (by omega)]
theorem ran_right {ks : List Ck} {qs : List Qy} : ∀ k, ∀ (i : Nat) (p : Qy), (ranTo ks qs k)[i]? = some p → rightB ks p = true
  | 0, i, p, h => by simp [ranTo] at h
  | k + 1, i, p, h => by
    rw [ranTo] at h
    split at h
    · exact ran_right k i p h
    · next q hq =>
      split at h
      · next hz =>
        obtain ⟨_, h2, h3, _⟩ := askC_zero hz
        rcases Nat.lt_or_ge i (ranTo ks qs k).length with hl | hl
        · rw [List.getElem?_append_left hl] at h; exact ran_right k i p h
        · rw [List.getElem?_append_right hl] at h
          have hi : i - (ranTo ks qs k).length = 0 := by
            rcases Nat.eq_zero_or_pos (i - (ranTo ks qs k).length) with z | z
            · exact z
            · rw [List.getElem?_eq_none (by simp; omega)] at h; cases h
          rw [hi] at h
          have e := Option.some.inj (h.symm.trans (by rfl : [_][0]? = some _))
          subst e
          unfold rightB
          rcases kdQ_or q with e | e <;> simp [h2, h3, e] at * <;> simp [h3, h2]
      · exact ran_right k i p h
theorem right_has {ks : List Ck} {p : Qy} (h : rightB ks p = true) : 0 ≤ p.agent ∧ p.agent < (ks.length : Int) := by
  simp only [rightB, hasB, Bool.and_eq_true, decide_eq_true_eq] at h
  exact h.1.1.1
theorem right_again {ks : List Ck} {p : Qy} (h : rightB ks p = true) (hd : deskC ks 0 = 0) {n : Nat} (hn : n < 2000) : askC ks n p.agent (kdQ p) p.a p.b = 0 ∧ (⟨p.agent, kdQ p, p.a, p.b, ansR (ckAt ks p.agent) (kdQ p) p.a p.b⟩ : Qy) = p := by
  simp only [rightB, Bool.and_eq_true, Bool.or_eq_true, decide_eq_true_eq] at h
  obtain ⟨⟨⟨h1, h2⟩, h3⟩, h4⟩ := h
  have hk : kdQ p = p.kind := by unfold kdQ; rcases h2 with e | e <;> rw [e] <;> rfl
  rw [hk]
  exact ⟨askC_of (by rw [deskC_le (m := 0) (by omega) (by omega)]; exact hd) h1 h3 hn, Qy.ext_ rfl rfl rfl rfl h4⟩
theorem ran_again {ks : List Ck} {l : List Qy} (hd : deskC ks 0 = 0) (h : ∀ (i : Nat) (p : Qy), l[i]? = some p → rightB ks p = true) (hl : l.length ≤ 1000) : ∀ k, k ≤ l.length → ranTo ks l k = l.take k
  | 0, _ => by simp [ranTo]
  | k + 1, hk => by
    have hq : l[k]? = some l[k] := List.getElem?_eq_getElem (by omega)
    have hr := right_again (h k _ hq) hd (n := (ranTo ks l k).length) (by have := ranTo_len ks l k; omega)
    rw [ranTo_step hq, if_pos hr.1, hr.2, ran_again hd h hl k (by omega)]
    rw [List.take_add_one, hq]; rfl
/-- What the law AskReplays asks of the log. -/
theorem ran_law {ks : List Ck} {qs : List Qy} (hd : deskC ks 0 = 0) (hq : qs.length ≤ 30) {l : List Qy} (hl : l = ranTo ks qs qs.length) :
    l.length ≤ 30 ∧ deskC ks l.length = 0 ∧ repN ks l = l.length ∧ cntSum l l.length ks.length = l.length ∧ ranTo ks l l.length = l := by
  subst hl
  have h1 := ranTo_len ks qs qs.length
  have h2 := ran_right (ks := ks) (qs := qs) qs.length
  refine ⟨by omega, by rw [deskC_le (m := 0) (by omega) (by omega)]; exact hd, repN_all h2, cntSum_all (fun i q hi => right_has (h2 i q hi)) _ (Nat.le_refl _), ?_⟩
  rw [ran_again hd h2 (by omega) _ (Nat.le_refl _), List.take_length]
end Go.Proofs.Ytgcbmnohhbcfiab
