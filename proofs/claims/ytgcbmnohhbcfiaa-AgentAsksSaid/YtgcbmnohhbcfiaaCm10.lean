/- Desks and their queries: no program in sight. -/
import Derived.Test.YtgcbmnohhbcfiaaCm8
import Derived.Test.YtgcbmnohhbcfiaaCm9
import Derived.Test.YtgcbmnohhbcfiaaCm2
import Derived.Test.YtgcbmnohhbcfiaaCm3
import Derived.Maps.AppendAt
import Derived.RegionTactic
import Derived.Deep.AppendLies
import Derived.Deep.OwnRows
import Derived.Test.YtgcbmnohhbcfiaaCm4
namespace Go.Proofs.Ytgcbmnohhbcfiaa
set_option linter.unusedVariables false
set_option linter.unusedSimpArgs false

/-- A question and its answer. -/
structure Qy where
  agent : Int
  kind : Int
  a : Rt
  b : Rt
  ans : Rt
theorem Qy.ext_ {p q : Qy} (h1 : p.agent = q.agent) (h2 : p.kind = q.kind) (h3 : p.a = q.a) (h4 : p.b = q.b) (h5 : p.ans = q.ans) : p = q := by cases p; cases q; simp_all
instance : DecidableEq Qy := fun p q => if h : p.agent = q.agent ∧ p.kind = q.kind ∧ p.a = q.a ∧ p.b = q.b ∧ p.ans = q.ans then isTrue (Qy.ext_ h.1 h.2.1 h.2.2.1 h.2.2.2.1 h.2.2.2.2) else isFalse (fun e => h (by subst e; exact ⟨rfl, rfl, rfl, rfl, rfl⟩))
structure Qy.wf (q : Qy) : Prop where
  g0 : -9223372036854775808 ≤ q.agent
  g1 : q.agent ≤ 9223372036854775807
  k0 : 0 ≤ q.kind
  k1 : q.kind ≤ 255
  a : q.a.wf
  b : q.b.wf
  ans : q.ans.wf
/-- The first cake's error. -/
def codeTo : List Ck → Int
  | [] => 0
  | K :: l => if K.code = 0 then codeTo l else K.code
theorem codeTo_zero : ∀ {ks : List Ck}, codeTo ks = 0 ↔ ∀ (i : Nat) (K : Ck), ks[i]? = some K → K.code = 0
  | [] => by simp [codeTo]
  | K :: l => by
    unfold codeTo
    constructor
    · intro h i L hi
      by_cases q : K.code = 0
      · rw [if_pos q] at h
        match i with
        | 0 => obtain rfl : K = L := by simpa using hi
               exact q
        | i + 1 => exact codeTo_zero.1 h i L (by simpa using hi)
      · rw [if_neg q] at h; exact absurd h q
    · intro h
      rw [if_pos (h 0 K (by simp))]
      exact codeTo_zero.2 (fun i L hi => h (i + 1) L (by simpa using hi))
theorem codeTo_hit : ∀ {ks : List Ck} {i : Nat} {K : Ck}, (∀ (j : Nat) (L : Ck), j < i → ks[j]? = some L → L.code = 0) → ks[i]? = some K → K.code ≠ 0 → codeTo ks = K.code
  | [], i, K, _, hi, _ => by simp at hi
  | L :: l, 0, K, _, hi, hc => by
    obtain rfl : L = K := by simpa using hi
    unfold codeTo; rw [if_neg hc]
  | L :: l, i + 1, K, h, hi, hc => by
    unfold codeTo
    rw [if_pos (h 0 L (by omega) (by simp))]
    exact codeTo_hit (i := i) (fun j M hj hM => h (j + 1) M (by omega) (by simpa using hM)) (by simpa using hi) hc
def len0 (ks : List Ck) : Int := match ks with | [] => 0 | K :: _ => K.len
theorem len0_at {ks : List Ck} {K : Ck} (h : ks[0]? = some K) : len0 ks = K.len := by
  match ks with
  | [] => simp at h
  | L :: l => obtain rfl : L = K := by simpa using h
              rfl
def Even (ks : List Ck) : Prop := ∀ K ∈ ks, K.len = len0 ks
instance (ks : List Ck) : Decidable (Even ks) := by unfold Even; infer_instance
theorem even_at {ks : List Ck} : Even ks ↔ ∀ (i : Nat) (K : Ck), ks[i]? = some K → K.len = len0 ks :=
  ⟨fun h i K hi => h K (List.mem_of_getElem? hi), fun h K hm => by obtain ⟨i, hi⟩ := List.getElem?_of_mem hm; exact h i K hi⟩
/-- A desk's error; n: how many queries. -/
def deskC (ks : List Ck) (n : Nat) : Int := if 6 < ks.length ∨ 2000 < n then 4 else if ks.length = 0 then 8 else if codeTo ks ≠ 0 then codeTo ks else if Even ks then 0 else 8
structure DeskOk (ks : List Ck) (n : Nat) : Prop where
  m : ks.length ≤ 6
  q : n ≤ 2000
  pos : 0 < ks.length
  ok : ∀ (i : Nat) (K : Ck), ks[i]? = some K → K.code = 0
  even : ∀ (i : Nat) (K : Ck), ks[i]? = some K → K.len = len0 ks
theorem deskC_zero {ks : List Ck} {n : Nat} : deskC ks n = 0 ↔ DeskOk ks n := by
  unfold deskC
  constructor
  · intro h
    by_cases h1 : 6 < ks.length ∨ 2000 < n
    · rw [if_pos h1] at h; omega
    rw [if_neg h1] at h
    by_cases h2 : ks.length = 0
    · rw [if_pos h2] at h; omega
    rw [if_neg h2] at h
    by_cases h3 : codeTo ks = 0
    · rw [if_neg (by omega)] at h
      by_cases h4 : Even ks
      · exact ⟨by omega, by omega, by omega, codeTo_zero.1 h3, even_at.1 h4⟩
      · rw [if_neg h4] at h; omega
    · rw [if_pos h3] at h; omega
  · rintro ⟨h1, h2, h3, h4, h5⟩
    rw [if_neg (by omega), if_neg (by omega), if_neg (by have := codeTo_zero.2 h4; omega), if_pos (even_at.2 h5)]
theorem deskC_many {ks : List Ck} {n : Nat} (h : 6 < ks.length ∨ 2000 < n) : deskC ks n = 4 := by unfold deskC; rw [if_pos h]
theorem deskC_none {ks : List Ck} {n : Nat} (h : ¬ (6 < ks.length ∨ 2000 < n)) (k : ks.length = 0) : deskC ks n = 8 := by unfold deskC; rw [if_neg h, if_pos k]
theorem deskC_hit {ks : List Ck} {n i : Nat} {K : Ck} (h : ¬ (6 < ks.length ∨ 2000 < n)) (h1 : ∀ (j : Nat) (L : Ck), j < i → ks[j]? = some L → L.code = 0) (h2 : ks[i]? = some K) (h3 : K.code ≠ 0) : deskC ks n = K.code := by
  have e := codeTo_hit h1 h2 h3
  unfold deskC
  rw [if_neg h, if_neg (fun q => by rw [List.eq_nil_of_length_eq_zero q] at h2; simp at h2), if_pos (by rw [e]; exact h3), e]
theorem deskC_odd {ks : List Ck} {n i : Nat} {K : Ck} (h : ¬ (6 < ks.length ∨ 2000 < n)) (h1 : ∀ (i : Nat) (L : Ck), ks[i]? = some L → L.code = 0) (h2 : ks[i]? = some K) (h3 : K.len ≠ len0 ks) : deskC ks n = 8 := by
  unfold deskC
  rw [if_neg h, if_neg (fun q => by rw [List.eq_nil_of_length_eq_zero q] at h2; simp at h2), if_neg (by have := codeTo_zero.2 h1; omega), if_neg (fun e => h3 (even_at.1 e i K h2))]
theorem deskC_good {ks : List Ck} {n : Nat} (h : ¬ (6 < ks.length ∨ 2000 < n)) (h0 : ¬ ks.length = 0) (h1 : ∀ (i : Nat) (L : Ck), ks[i]? = some L → L.code = 0) (h2 : ∀ (i : Nat) (L : Ck), ks[i]? = some L → L.len = len0 ks) : deskC ks n = 0 := deskC_zero.2 ⟨by omega, by omega, by omega, h1, h2⟩

/-- An answer of a cake: its error, and it. -/
def ansC (K : Ck) (kind : Int) (a b : Rt) : Int := if kind = 2 then K.markC a b else K.valC a b
def ansR (K : Ck) (kind : Int) (a b : Rt) : Rt := if kind = 2 then K.mark a b else K.val a b
def ckAt (ks : List Ck) (i : Int) : Ck := ks.getD i.toNat ⟨0, [], []⟩
theorem ckAt_of {ks : List Ck} {i : Nat} {K : Ck} (h : ks[i]? = some K) : ckAt ks (i : Int) = K := by
  unfold ckAt; rw [List.getD_eq_getElem?_getD, Int.toNat_natCast, h]; rfl
/-- There is an agent of this number. -/
def hasB (m : Nat) (g : Int) : Bool := decide (0 ≤ g) && decide (g < (m : Int))
def askC (ks : List Ck) (n : Nat) (g kind : Int) (a b : Rt) : Int :=
  if deskC ks n ≠ 0 then deskC ks n else if hasB ks.length g = false then 2 else if ansC (ckAt ks g) kind a b ≠ 0 then ansC (ckAt ks g) kind a b else if 2000 ≤ n then 4 else 0
def askR (ks : List Ck) (n : Nat) (g kind : Int) (a b : Rt) : Rt := if askC ks n g kind a b = 0 then ansR (ckAt ks g) kind a b else ⟨0, 0⟩
def askK (ks : List Ck) (n : Nat) (g kind : Int) (a b : Rt) : List Ck := if askC ks n g kind a b = 0 then ks else []
def askL (ks : List Ck) (l : List Qy) (g kind : Int) (a b : Rt) : List Qy := if askC ks l.length g kind a b = 0 then l ++ [⟨g, kind, a, b, ansR (ckAt ks g) kind a b⟩] else []
/-- A query is right. -/
def rightB (ks : List Ck) (q : Qy) : Bool := hasB ks.length q.agent && (decide (q.kind = 1) || decide (q.kind = 2)) && decide (ansC (ckAt ks q.agent) q.kind q.a q.b = 0) && decide (ansR (ckAt ks q.agent) q.kind q.a q.b = q.ans)
def repN (ks : List Ck) : List Qy → Nat
  | [] => 0
  | q :: l => if rightB ks q = true then repN ks l + 1 else 0
theorem repN_le (ks : List Ck) : ∀ l : List Qy, repN ks l ≤ l.length
  | [] => Nat.le_refl _
  | q :: l => by
    unfold repN
    split
    · have := repN_le ks l; simp; omega
    · simp
theorem repN_hit {ks : List Ck} : ∀ {l : List Qy} {i : Nat} {q : Qy}, (∀ (j : Nat) (p : Qy), j < i → l[j]? = some p → rightB ks p = true) → l[i]? = some q → rightB ks q = false → repN ks l = i
  | [], i, q, _, hi, _ => by simp at hi
  | p :: l, 0, q, _, hi, hr => by
    obtain rfl : p = q := by simpa using hi
    unfold repN; rw [hr]; rfl
  | p :: l, i + 1, q, h, hi, hr => by
    unfold repN
    rw [if_pos (h 0 p (by omega) (by simp)), repN_hit (i := i) (fun j r hj hr => h (j + 1) r (by omega) (by simpa using hr)) (by simpa using hi) hr]
theorem repN_all {ks : List Ck} : ∀ {l : List Qy}, (∀ (i : Nat) (p : Qy), l[i]? = some p → rightB ks p = true) → repN ks l = l.length
  | [], _ => rfl
  | p :: l, h => by
    unfold repN
    rw [if_pos (h 0 p (by simp)), repN_all (fun i q hi => h (i + 1) q (by simpa using hi))]; rfl
def repR (ks : List Ck) (l : List Qy) : Int := if deskC ks l.length = 0 then (repN ks l : Int) else 0
/-- How many queries of an agent. -/
def cntTo (l : List Qy) (g : Int) : Nat → Nat
  | 0 => 0
  | k + 1 => cntTo l g k + match l[k]? with | some q => if q.agent = g then 1 else 0 | none => 0
def cnt (l : List Qy) (g : Int) : Nat := if g = -1 then l.length else cntTo l g l.length
theorem cntTo_le (l : List Qy) (g : Int) : ∀ k, cntTo l g k ≤ k
  | 0 => Nat.le_refl _
  | k + 1 => by
    have := cntTo_le l g k
    unfold cntTo
    split
    · split <;> omega
    · omega
theorem cntTo_step {l : List Qy} {g : Int} {k : Nat} {q : Qy} (h : l[k]? = some q) : cntTo l g (k + 1) = cntTo l g k + if q.agent = g then 1 else 0 := by
  rw [cntTo]; rw [h]
/-- Every query is of one of the agents from 0 to m - 1. -/
def cntSum (l : List Qy) (k : Nat) : Nat → Nat
  | 0 => 0
  | m + 1 => cntSum l k m + cntTo l (m : Int) k
theorem cntSum_zero (l : List Qy) : ∀ m, cntSum l 0 m = 0
  | 0 => rfl
  | m + 1 => by rw [cntSum, cntSum_zero l m]; rfl
theorem cntSum_step {l : List Qy} {k : Nat} {q : Qy} (h : l[k]? = some q) : ∀ m, cntSum l (k + 1) m = cntSum l k m + if 0 ≤ q.agent ∧ q.agent < (m : Int) then 1 else 0
  | 0 => by rw [cntSum, cntSum, if_neg (by omega)]
  | m + 1 => by
    rw [cntSum, cntSum, cntSum_step h m, cntTo_step h]
    by_cases e : q.agent = (m : Int)
    · rw [if_neg (by omega), if_pos e, if_pos (by omega)]; omega
    · rw [if_neg e]
      by_cases e2 : 0 ≤ q.agent ∧ q.agent < (m : Int)
      · rw [if_pos e2, if_pos (by omega)]; omega
      · rw [if_neg e2, if_neg (by omega)]; omega
theorem cntSum_all {l : List Qy} {m : Nat} (h : ∀ (i : Nat) (q : Qy), l[i]? = some q → 0 ≤ q.agent ∧ q.agent < (m : Int)) : ∀ k, k ≤ l.length → cntSum l k m = k
  | 0, _ => cntSum_zero l m
  | k + 1, hk => by
    have hq : l[k]? = some l[k] := List.getElem?_eq_getElem (by omega)
    rw [cntSum_step hq, cntSum_all h k (by omega), if_pos (h k _ hq)]
section
variable {K : Ck} {a b : Rt}
theorem Rt.Ok.wf_ (h : a.Ok) : a.wf := ⟨by have := h.n0; omega, by have := h.n1; omega, by have := h.d0; omega, by have := h.d1; omega⟩
theorem val_wf (a b : Rt) : (K.val a b).wf := by
  by_cases z : K.valC a b = 0
  · have z' := z
    unfold Ck.valC at z'
    by_cases c : K.code = 0
    · rw [if_neg (by omega)] at z'
      have h := Ck.ok_code c
      have l1 := h.l1; have l2 := h.l2
      by_cases p : pointB K.len a = true ∧ pointB K.len b = true ∧ ltB b a = false
      · obtain ⟨ha, a0, al⟩ := (point_q (by omega) (by omega)).1 p.1
        obtain ⟨hb, b0, bl⟩ := (point_q (by omega) (by omega)).1 p.2.1
        exact (((h.val_ok ha hb a0 ((ltB_qf hb ha).1 p.2.2) bl).v z).1).wf_
      · rw [if_neg p] at z'; omega
    · rw [if_pos c] at z'; omega
  · unfold Ck.val; rw [if_neg z]; exact ⟨by decide, by decide, by decide, by decide⟩
theorem mark_wf (a b : Rt) : (K.mark a b).wf := by
  by_cases z : K.markC a b = 0
  · have z' := z
    unfold Ck.markC at z'
    by_cases c : K.code = 0
    · rw [if_neg (by omega)] at z'
      have h := Ck.ok_code c
      have l1 := h.l1; have l2 := h.l2
      by_cases p : pointB K.len a = true ∧ b.code = 0 ∧ 0 ≤ b.n
      · obtain ⟨ha, a0, al⟩ := (point_q (by omega) (by omega)).1 p.1
        have hb := Rt.ok_code p.2.1
        exact (((h.mark_ok ha hb a0 al ((num_q hb).1.1 p.2.2)).m z).1).wf_
      · rw [if_neg p] at z'; omega
    · rw [if_pos c] at z'; omega
  · unfold Ck.mark; rw [if_neg z]; exact ⟨by decide, by decide, by decide, by decide⟩
theorem ansR_wf (kind : Int) (a b : Rt) : (ansR K kind a b).wf := by
  unfold ansR
  split
  · exact mark_wf a b
  · exact val_wf a b
theorem ans_code (kind : Int) (a b : Rt) : 0 ≤ ansC K kind a b ∧ ansC K kind a b ≤ 16 := by
  have code : K.code = 0 ∨ K.code = 4 ∨ K.code = 8 := by unfold Ck.code; split; exact Or.inr (Or.inl rfl); split; exact Or.inl rfl; exact Or.inr (Or.inr rfl)
  unfold ansC
  split
  · by_cases c : K.code = 0
    · have h := Ck.ok_code c
      have l1 := h.l1; have l2 := h.l2
      by_cases p : pointB K.len a = true ∧ b.code = 0 ∧ 0 ≤ b.n
      · obtain ⟨ha, a0, al⟩ := (point_q (by omega) (by omega)).1 p.1
        have hb := Rt.ok_code p.2.1
        have := (h.mark_ok ha hb a0 al ((num_q hb).1.1 p.2.2)).c
        omega
      · unfold Ck.markC; rw [if_neg (by omega), if_neg p]; omega
    · unfold Ck.markC; rw [if_pos c]; omega
  · by_cases c : K.code = 0
    · have h := Ck.ok_code c
      have l1 := h.l1; have l2 := h.l2
      by_cases p : pointB K.len a = true ∧ pointB K.len b = true ∧ ltB b a = false
      · obtain ⟨ha, a0, al⟩ := (point_q (by omega) (by omega)).1 p.1
        obtain ⟨hb, b0, bl⟩ := (point_q (by omega) (by omega)).1 p.2.1
        have := (h.val_ok ha hb a0 ((ltB_qf hb ha).1 p.2.2) bl).c
        omega
      · unfold Ck.valC; rw [if_neg (by omega), if_neg p]; omega
    · unfold Ck.valC; rw [if_pos c]; omega
end
end Go.Proofs.Ytgcbmnohhbcfiaa

namespace Go.Proofs.Ytgcbmnohhbcfiaa
open Go.RowKit
set_option linter.unusedVariables false
set_option linter.unusedSimpArgs false

structure Bx (w : World) (L : List (Nat × Obj)) (W : World) : Prop where
  below : Below w.heap.size w W
  own : ∀ p, p ∈ L → w.heap.size ≤ p.1
  nd : (L.map (·.1)).Nodup
  at_ : ∀ p, p ∈ L → W.heap[p.1]? = some p.2
section
variable {w W W1 : World} {L : List (Nat × Obj)}
theorem Bx.start (w : World) : Bx w [] w := ⟨Below.refl _ _, fun _ h => by simp at h, by simp, fun _ h => by simp at h⟩
theorem Bx.from {W0 : World} (h : Below w.heap.size w W0) : Bx w [] W0 := ⟨h, fun _ h => by simp at h, by simp, fun _ h => by simp at h⟩
theorem Bx.get (h : Bx w L W) (i : Nat) {p : Nat × Obj} (hi : L[i]? = some p) : W.heap[p.1]? = some p.2 := h.at_ p (List.mem_of_getElem? hi)
theorem Bx.le (h : Bx w L W) (i : Nat) {p : Nat × Obj} (hi : L[i]? = some p) : w.heap.size ≤ p.1 := h.own p (List.mem_of_getElem? hi)
theorem Bx.lt (h : Bx w L W) (i : Nat) {p : Nat × Obj} (hi : L[i]? = some p) : p.1 < W.heap.size := lt_some (h.get i hi)
theorem Bx.next (h : Bx w L W) (hb : Below W.heap.size W W1) : Bx w L W1 := ⟨bcall h.below h.below.size hb, h.own, h.nd, fun p hp => heap_ext (h.at_ p hp) hb⟩
theorem Bx.drew (h : Bx w L W) : Bx w L W.drew := ⟨h.below.drew, h.own, h.nd, h.at_⟩
theorem Bx.drewN (h : Bx w L W) (n : Nat) : Bx w L (W.drewN n) := ⟨below_drewN h.below n, h.own, h.nd, h.at_⟩
theorem Bx.new (h : Bx w L W) {g : Nat} (hg : g = W.heap.size) (o : Obj) : Bx w ((g, o) :: L) (W.alloc o) := by
  subst hg
  refine ⟨h.below.alloc h.below.size o, fun p hp => ?_, ?_, fun p hp => ?_⟩
  · rcases List.mem_cons.1 hp with rfl | hp
    · exact h.below.size
    · exact h.own p hp
  · rw [List.map_cons, List.nodup_cons]
    refine ⟨fun hm => ?_, h.nd⟩
    obtain ⟨p, hp, e⟩ := List.mem_map.1 hm
    have := lt_some (h.at_ p hp)
    omega
  · rcases List.mem_cons.1 hp with rfl | hp
    · exact heap_new rfl
    · exact heap_old (h.at_ p hp)
theorem Bx.drop {p : Nat × Obj} (h : Bx w (p :: L) W) : Bx w L W := ⟨h.below, fun q hq => h.own q (List.mem_cons_of_mem _ hq), (List.nodup_cons.1 h.nd).2, fun q hq => h.at_ q (List.mem_cons_of_mem _ hq)⟩
theorem Bx.sub {M : List (Nat × Obj)} (h : Bx w L W) (hs : List.Sublist M L) : Bx w M W := ⟨h.below, fun q hq => h.own q (hs.mem hq), (hs.map _).nodup h.nd, fun q hq => h.at_ q (hs.mem hq)⟩
theorem setNodup {α : Type} {f : α → Nat} {a b : α} (hf : f a = f b) : ∀ (L : List α) (i : Nat), L[i]? = some a → (L.set i b).map f = L.map f
  | [], _, h => by simp at h
  | x :: L, 0, h => by
    have : x = a := by simpa using h
    subst this; simp [hf]
  | x :: L, i + 1, h => by simpa using setNodup hf L i (by simpa using h)
theorem heap_set_ {g j : Nat} {cs : Array Value} {t : TypeId} {u : Value} (h : W.heap[g]? = some (.cells cs t)) : (W.setCell ⟨g, j, none⟩ u).heap[g]? = some (.cells (cs.setIfInBounds j u) t) := heap_set h
theorem Bx.ne (h : Bx w L W) (i j : Nat) {p q : Nat × Obj} (hi : L[i]? = some p) (hj : L[j]? = some q) (hij : i ≠ j) : ¬ p.1 = q.1 := fun e => by
  have a : (L.map (·.1))[i]? = some p.1 := by rw [List.getElem?_map, hi]; rfl
  have b : (L.map (·.1))[j]? = some p.1 := by rw [List.getElem?_map, hj]; simp [e]
  have hlt : i < (L.map (·.1)).length := by
    rcases Nat.lt_or_ge i (L.map (·.1)).length with q | q
    · exact q
    · rw [List.getElem?_eq_none q] at a; cases a
  exact hij ((List.getElem?_inj hlt h.nd).1 (a.trans b.symm))
theorem Bx.perm {M : List (Nat × Obj)} (h : Bx w L W) (hp : L.Perm M) : Bx w M W := ⟨h.below, fun q hq => h.own q (hp.mem_iff.2 hq), (hp.map _).nodup_iff.1 h.nd, fun q hq => h.at_ q (hp.mem_iff.2 hq)⟩
theorem Bx.swap {P Q M : List (Nat × Obj)} (h : Bx w (P ++ (Q ++ M)) W) : Bx w (Q ++ (P ++ M)) W := h.perm (by rw [← List.append_assoc, ← List.append_assoc]; exact List.perm_append_comm.append_right M)
/-- A store into a box's cell. -/
theorem Bx.set (h : Bx w L W) (i : Nat) {g : Nat} {cs : Array Value} {t : TypeId} (hi : L[i]? = some (g, .cells cs t)) (j : Nat) (u : Value) : Bx w (L.set i (g, .cells (cs.setIfInBounds j u) t)) (W.setCell ⟨g, j, none⟩ u) := by
  have hm := List.mem_of_getElem? hi
  have hne : ∀ k p, L[k]? = some p → k ≠ i → p.1 ≠ g := fun k p hk hki e => by
    have a : (L.map (·.1))[k]? = some g := by rw [List.getElem?_map, hk]; simp [e]
    have b : (L.map (·.1))[i]? = some g := by rw [List.getElem?_map, hi]; rfl
    have hlt : k < (L.map (·.1)).length := by
      rcases Nat.lt_or_ge k (L.map (·.1)).length with q | q
      · exact q
      · rw [List.getElem?_eq_none q] at a; cases a
    exact hki ((List.getElem?_inj hlt h.nd).1 (a.trans b.symm))
  refine ⟨h.below.setCell (h.own _ hm) _, fun p hp => ?_, ?_, fun p hp => ?_⟩
  · rcases List.mem_or_eq_of_mem_set hp with hp | rfl
    · exact h.own p hp
    · exact (h.own _ hm : w.heap.size ≤ g)
  · rw [setNodup (f := fun x : Nat × Obj => x.1) (a := (g, Obj.cells cs t)) (b := (g, Obj.cells (cs.setIfInBounds j u) t)) rfl L i hi]; exact h.nd
  · obtain ⟨k, hk⟩ := List.mem_iff_getElem?.1 hp
    by_cases e : k = i
    · subst e
      have hlt : k < L.length := by
        rcases Nat.lt_or_ge k L.length with q | q
        · exact q
        · rw [List.getElem?_eq_none q] at hi; cases hi
      rw [List.getElem?_set_self hlt] at hk
      obtain rfl : (g, Obj.cells (cs.setIfInBounds j u) t) = p := by simpa using hk
      exact heap_set_ (h.at_ _ hm)
    · rw [List.getElem?_set_ne (Ne.symm e)] at hk
      have := hne k p hk e
      rw [heap_set_ne this]
      exact h.at_ p (List.mem_of_getElem? hk)
/-- One more, made behind the world in which the others stood. -/
theorem Bx.add {W0 : World} (h : Bx w L W0) (hb : Below W0.heap.size W0 W) {g : Nat} {o : Obj} (hg : W0.heap.size ≤ g) (ho : W.heap[g]? = some o) : Bx w ((g, o) :: L) W := by
  have k := h.next hb
  refine ⟨k.below, fun p hp => ?_, ?_, fun p hp => ?_⟩
  · rcases List.mem_cons.1 hp with rfl | hp
    · exact Nat.le_trans h.below.size hg
    · exact k.own p hp
  · rw [List.map_cons, List.nodup_cons]
    refine ⟨fun hm => ?_, h.nd⟩
    obtain ⟨p, hp, e⟩ := List.mem_map.1 hm
    have := lt_some (h.at_ p hp)
    have : p.1 = g := e
    omega
  · rcases List.mem_cons.1 hp with rfl | hp
    · exact ho
    · exact k.at_ p hp
/-- A ratio is stored into its box. -/
theorem Bx.put (h : Bx w L W) (i : Nat) {g : Nat} {r0 : Rt} (hi : L[i]? = some (g, rB r0)) (r : Rt) : Bx w (L.set i (g, rB r)) ((W.setCell ⟨g, 0, none⟩ (.int .i64 r.n)).setCell ⟨g, 1, none⟩ (.int .i64 r.d)) := by
  have a := h.set i hi 0 (.int .i64 r.n)
  have hlt : i < L.length := by
    rcases Nat.lt_or_ge i L.length with q | q
    · exact q
    · rw [List.getElem?_eq_none q] at hi; cases hi
  have b := a.set i (List.getElem?_set_self hlt) 1 (.int .i64 r.d)
  rw [List.set_set] at b
  exact b
/-- A number in a box of its own. -/
abbrev eB (x : Int) : Obj := .cells #[.int .i64 x] 27
theorem Bx.putE (h : Bx w L W) (i : Nat) {g : Nat} {x0 : Int} (hi : L[i]? = some (g, eB x0)) (x : Int) : Bx w (L.set i (g, eB x)) (W.setCell ⟨g, 0, none⟩ (.int .i64 x)) := h.set i hi 0 (.int .i64 x)
end
end Go.Proofs.Ytgcbmnohhbcfiaa

namespace Go.Proofs.Ytgcbmnohhbcfiaa
open Go.RowKit
set_option linter.unusedVariables false
set_option linter.unusedSimpArgs false

theorem block_of_add (a : Addr) (n : Nat) : (a.add n).block = a.block := block_add a n
theorem add_of_add (a : Addr) (i j : Nat) : (a.add i).add j = a.add (i + j) := by
  unfold Addr.add
  by_cases hi : i = 0 <;> by_cases hj : j = 0 <;> simp [hi, hj, Nat.add_assoc]

def Reads (w : World) (B size : Nat) (A : Option Addr) (n : Nat) (xs : List Value) : Prop :=
  xs.length = n * size ∧ (0 < n → ∃ ad, A = some ad ∧ ad.block < B ∧ ∀ j u, xs[j]? = some u → w.cell? (ad.add j) = some u)

section
variable {w w' : World} {B B' size n : Nat} {A : Option Addr} {xs : List Value}
theorem Reads.none_ : Reads w B size A 0 [] := ⟨by simp, fun h => absurd h (by omega)⟩
theorem Reads.at_ {k : Nat} (h : Reads w B 1 A n xs) (hk : k < n) : ∃ ad u, A = some ad ∧ ad.block < B ∧ xs[k]? = some u ∧ w.cell? (ad.add k) = some u := by
  obtain ⟨ad, e, hb, hc⟩ := h.2 (by omega)
  have hl : k < xs.length := by have := h.1; omega
  exact ⟨ad, xs[k], e, hb, List.getElem?_eq_getElem hl, hc k _ (List.getElem?_eq_getElem hl)⟩
theorem Reads.keep (h : Reads w B size A n xs) (hk : ∀ p : Addr, p.block < B → w'.cell? p = w.cell? p) : Reads w' B size A n xs :=
  ⟨h.1, fun hn => by
    obtain ⟨ad, e, hb, hc⟩ := h.2 hn
    exact ⟨ad, e, hb, fun j u hu => (hk _ (by rw [block_of_add]; exact hb)).trans (hc j u hu)⟩⟩
theorem Reads.more (h : Reads w B size A n xs) (hB : B ≤ B') : Reads w B' size A n xs :=
  ⟨h.1, fun hn => by
    obtain ⟨ad, e, hb, hc⟩ := h.2 hn
    exact ⟨ad, e, by omega, hc⟩⟩
theorem Reads.below (h : Reads w B size A n xs) (hb : Below B w w') : Reads w' B size A n xs := h.keep fun _ hp => hb.cell hp
theorem Reads.drew (h : Reads w B size A n xs) : Reads w.drew B size A n xs := h
theorem Reads.drewN (h : Reads w B size A n xs) (k : Nat) : Reads (w.drewN k) B size A n xs := h
theorem Reads.alloc (h : Reads w B size A n xs) (hB : B ≤ w.heap.size) (o : Obj) : Reads (w.alloc o) B size A n xs := h.keep fun p hp => World.cell?_alloc_lt w o p (by omega)
theorem Reads.setCell (h : Reads w B size A n xs) {p : Addr} (hB : B ≤ p.block) (u : Value) : Reads (w.setCell p u) B size A n xs :=
  h.keep fun q hq => World.cell?_setCell_other w p q u (fun e => by subst e; omega)
theorem Reads.grown (h : Reads w B size A n xs) {row : Option Nat} (hg : w.grownBy w' row) (hB : B ≤ w.heap.size) (hr : ∀ g, row = some g → B ≤ g) : Reads w' B size A n xs :=
  h.keep fun p hp => World.cell?_of_block (hg.block p.block (by omega) (fun e => by have := hr _ e.symm; omega))
theorem Reads.cut (h : Reads w B size A n xs) {k cap : Nat} (hk : k ≤ n) (hc : n ≤ cap) :
    Reads w B size (if cap = k then A else A.map (·.add (k * size))) (n - k) (xs.drop (k * size)) := by
  refine ⟨by rw [List.length_drop, h.1, Nat.sub_mul], fun hn => ?_⟩
  obtain ⟨ad, rfl, hb, hcell⟩ := h.2 (by omega)
  rw [if_neg (by omega)]
  refine ⟨ad.add (k * size), rfl, by rw [block_of_add]; exact hb, fun j u hu => ?_⟩
  rw [add_of_add]
  exact hcell _ u (by rw [← hu, List.getElem?_drop])
theorem Reads.of_own {base : Nat} {e : TypeId} {c : Nat} (h : w.ownsRow base e size (.slice A n c) n xs) : Reads w w.heap.size size A n xs := by
  refine ⟨h.1, fun hn => ?_⟩
  obtain ⟨g, cap, hv, _, hlt⟩ := h.form hn
  have hA : A = some ⟨g, 0, none⟩ := by injection hv
  subst hA
  exact ⟨_, rfl, hlt, h.cells (g := g) rfl⟩
end

section
variable {P : Program} (w : World)

theorem run_append_of_nil (base : Nat) (t ty e : TypeId) (i : TypeInfo) (size : Nat) (ht : P.underlying t = some (.slice e)) (hi : P.info? e = some i)
    (v : Value) (n : Nat) (xs : List Value) (hown : w.ownsRow base e size v n xs) (c : Nat) : (Builtin.append_ #[t, t] ty #[v, .slice none 0 c]).run P w = .ok v w := by
  rcases hown.2 with ⟨rfl, rfl⟩ | ⟨g, cap, cur, rfl, _, _, hnc, _⟩
  · simp [Builtin.append_, run_underlying ht, sizeOf, typeInfo, hi, Builtin.lenOf, Builtin.firstCells]
  · simp [Builtin.append_, run_underlying ht, sizeOf, typeInfo, hi, Builtin.lenOf, Builtin.firstCells, hnc, storeCells]

theorem run_append_any (base : Nat) (t ty e : TypeId) (i : TypeInfo) (z : Value) (size bytes : Nat) (ht : P.underlying t = some (.slice e)) (hi : P.info? e = some i) (hz : i.zero = some z)
    (hsize : i.size = size) (hby : i.bytes = bytes) (hzs : z.cells.size = size) (hsz : 0 < size)
    (v : Value) (n : Nat) (xs : List Value) (hown : w.ownsRow base e size v n xs)
    (B : Nat) (A : Option Addr) (m c : Nat) (news : List Value) (hr : Reads w B size A m news) (h1 : ∀ u ∈ news, u.oneCell' = true)
    (h63 : n + m ≤ maxLen) (hbytes : (n + m) * bytes ≤ 140737488355328) (hbase : base ≤ w.heap.size) :
    ∃ v' w', (Builtin.append_ #[t, t] ty #[v, .slice A m c]).run P w = .ok v' w' ∧ w'.ownsRow base e size v' (n + m) (xs ++ news) ∧ w.grownBy w' v.ownBlock ∧
      (v'.ownBlock = v.ownBlock ∨ v'.ownBlock = some w.heap.size) := by
  rcases A with _ | ad
  · have hm : m = 0 := by
      rcases Nat.eq_zero_or_pos m with h0 | h0
      · exact h0
      · obtain ⟨ad, h, _⟩ := hr.2 h0
        cases h
    subst hm
    have hn : news = [] := List.eq_nil_of_length_eq_zero (by simpa using hr.1)
    subst hn
    exact ⟨v, w, run_append_of_nil w base t ty e i size ht hi v n xs hown c, by simpa using hown, World.grownBy.refl w _, .inl rfl⟩
  · have hcells : ∀ j u, news[j]? = some u → w.cell? (ad.add j) = some u := by
      intro j u hu
      rcases Nat.eq_zero_or_pos m with h0 | h0
      · subst h0
        have hn : news = [] := List.eq_nil_of_length_eq_zero (by simpa using hr.1)
        subst hn
        simp at hu
      · obtain ⟨ad', h, _, hc⟩ := hr.2 h0
        injection h with h
        subst h
        exact hc j u hu
    obtain ⟨v', w', hrun, h2, h3, _, h5⟩ := run_append_own_at (P := P) w base t ty e i z size bytes ht hi hz hsize hby hzs hsz v n xs hown ad m c news hr.1 hcells h1 h63 hbytes hbase
    exact ⟨v', w', hrun, h2, h3, h5⟩

theorem wp_append_any {o : Oper} {a : Act} {K : Act → World → Prop} {Q : Exit → Act → World → Prop} (s x : Operand) (t : TypeId)
    (ho : o.op = .call { callee := .builtin .append, args := #[s, x], argTypes := #[t, t] })
    (base : Nat) (e : TypeId) (i : TypeInfo) (z : Value) (size bytes : Nat) (ht : P.underlying t = some (.slice e)) (hi : P.info? e = some i) (hz : i.zero = some z)
    (hsize : i.size = size) (hby : i.bytes = bytes) (hzs : z.cells.size = size) (hsz : 0 < size)
    (v : Value) (n : Nat) (xs : List Value) (hs : a.eval s = v) (hown : w.ownsRow base e size v n xs)
    (B : Nat) (A : Option Addr) (m c : Nat) (news : List Value) (hx : a.eval x = .slice A m c) (hr : Reads w B size A m news) (h1 : ∀ u ∈ news, u.oneCell' = true)
    (h63 : n + m ≤ maxLen) (hbytes : (n + m) * bytes ≤ 140737488355328) (hbase : base ≤ w.heap.size)
    (h : ∀ v' w', w'.ownsRow base e size v' (n + m) (xs ++ news) → w.grownBy w' v.ownBlock → (v'.ownBlock = v.ownBlock ∨ v'.ownBlock = some w.heap.size) → K (a.put o.dst v') w') : o.wp P a w K Q := by
  obtain ⟨v', w', hrun, h2, h3, h4⟩ := run_append_any (P := P) w base t o.type e i z size bytes ht hi hz hsize hby hzs hsz v n xs hown B A m c news hr h1 h63 hbytes hbase
  unfold Oper.wp execOp
  simp only [ho, resolve, invoke, builtin, Sem.run_bind, Sem.run_pure, Result.andThen_ok, List.map_toArray, List.map_cons, List.map_nil, hs, hx, hrun]
  exact h v' w' h2 h3 h4

theorem wpList_append_any {ops : Array Oper} {rest : List Oper} {o : Oper} {a : Act} {Q : Exit → Act → World → Prop} (hgd : o.guard = none) (s x : Operand) (t : TypeId)
    (ho : o.op = .call { callee := .builtin .append, args := #[s, x], argTypes := #[t, t] })
    (base : Nat) (e : TypeId) (i : TypeInfo) (z : Value) (size bytes : Nat) (ht : P.underlying t = some (.slice e)) (hi : P.info? e = some i) (hz : i.zero = some z)
    (hsize : i.size = size) (hby : i.bytes = bytes) (hzs : z.cells.size = size) (hsz : 0 < size)
    (v : Value) (n : Nat) (xs : List Value) (hs : a.eval s = v) (hown : w.ownsRow base e size v n xs)
    (B : Nat) (A : Option Addr) (m c : Nat) (news : List Value) (hx : a.eval x = .slice A m c) (hr : Reads w B size A m news) (h1 : ∀ u ∈ news, u.oneCell' = true)
    (h63 : n + m ≤ maxLen) (hbytes : (n + m) * bytes ≤ 140737488355328) (hbase : base ≤ w.heap.size)
    (h : ∀ v' w', w'.ownsRow base e size v' (n + m) (xs ++ news) → w.grownBy w' v.ownBlock → (v'.ownBlock = v.ownBlock ∨ v'.ownBlock = some w.heap.size) → wpList P ops Q rest (a.put o.dst v') w') : wpList P ops Q (o :: rest) a w :=
  wpList_plain hgd fun _ hK => wp_append_any w s x t ho base e i z size bytes ht hi hz hsize hby hzs hsz v n xs hs hown B A m c news hx hr h1 h63 hbytes hbase fun v' w' h2 h3 h4 => hK _ _ (h v' w' h2 h3 h4)

theorem step_append_any {ops : Array Oper} {o : Oper} {a : Act} {K : Act → World → Prop} {Q : Exit → Act → World → Prop} {E : Prop} (hgd : o.guard = none) (s x : Operand) (t : TypeId)
    (ho : o.op = .call { callee := .builtin .append, args := #[s, x], argTypes := #[t, t] })
    (base : Nat) (e : TypeId) (i : TypeInfo) (z : Value) (size bytes : Nat) (ht : P.underlying t = some (.slice e)) (hi : P.info? e = some i) (hz : i.zero = some z)
    (hsize : i.size = size) (hby : i.bytes = bytes) (hzs : z.cells.size = size) (hsz : 0 < size)
    (v : Value) (n : Nat) (xs : List Value) (hs : a.eval s = v) (hown : w.ownsRow base e size v n xs)
    (B : Nat) (A : Option Addr) (m c : Nat) (news : List Value) (hx : a.eval x = .slice A m c) (hr : Reads w B size A m news) (h1 : ∀ u ∈ news, u.oneCell' = true)
    (h63 : n + m ≤ maxLen) (hbytes : (n + m) * bytes ≤ 140737488355328) (hbase : base ≤ w.heap.size)
    (h : ∀ v' w', w'.ownsRow base e size v' (n + m) (xs ++ news) → w.grownBy w' v.ownBlock → (v'.ownBlock = v.ownBlock ∨ v'.ownBlock = some w.heap.size) → K (a.put o.dst v') w') :
    if Region.wanted o (yielded ops a.tmps) = true then Oper.wp P o a w K Q else E := by
  have hw : Region.wanted o (yielded ops a.tmps) = true := by simp [Region.wanted, hgd]
  rw [if_pos hw]
  exact wp_append_any w s x t ho base e i z size bytes ht hi hz hsize hby hzs hsz v n xs hs hown B A m c news hx hr h1 h63 hbytes hbase h
end

theorem Ints.reads {B : Nat} {w : World} {A : Option Addr} {xs : List Int} (h : Ints B w A xs) : Reads w B 1 A xs.length (xs.map (Value.int .i64)) := by
  refine ⟨by simp, fun h0 => ?_⟩
  obtain ⟨ad, e, hb, hc⟩ := h h0
  refine ⟨ad, e, hb, fun j u hu => ?_⟩
  rw [List.getElem?_map] at hu
  rcases Nat.lt_or_ge j xs.length with hj | hj
  · rw [List.getElem?_eq_getElem hj] at hu
    simp only [Option.map_some, Option.some.injEq] at hu
    rw [← hu, hc j hj, gi_get hj]
  · rw [List.getElem?_eq_none hj] at hu; simp at hu
theorem one_cells (xs : List Int) : ∀ u ∈ xs.map (Value.int .i64), u.oneCell' = true := by
  intro u hu
  obtain ⟨x, _, rfl⟩ := List.mem_map.1 hu
  rfl
theorem info3 : (Try.prog.info? 3).map (fun i => (i.zero, i.size, i.bytes)) = some (some (.int .i64 0), 1, 8) := by kernel_rfl
theorem Ints.of_row {base : Nat} {w : World} {v : Value} {xs : List Int} (h : w.ownsRow base 3 1 v xs.length (xs.map (Value.int .i64))) : ∃ A c, v = .slice A xs.length c ∧ xs.length ≤ c ∧ c ≤ maxLen ∧ Ints w.heap.size w A xs := by
  rcases h.2 with ⟨rfl, h0⟩ | ⟨g, cap, cur, rfl, hg, hh, hc, hm, r⟩
  · have : xs = [] := List.eq_nil_of_length_eq_zero h0
    subst this
    exact ⟨none, 0, rfl, Nat.le_refl _, by unfold maxLen; omega, Ints.nil_⟩
  · exact ⟨_, cap, rfl, hc, hm, (Ints.of_own h).1⟩

theorem one_alloc' (w : World) (o : Obj) : Below w.heap.size w (w.alloc o) := (Below.refl _ _).alloc (Nat.le_refl _) o

end Go.Proofs.Ytgcbmnohhbcfiaa

namespace Go.Proofs.Ytgcbmnohhbcfiaa
open Go.RowKit Go.Deep
set_option linter.unusedVariables false
set_option linter.unusedSimpArgs false

abbrev intsV (l : List Int) : List Value := l.map (Value.int .i64)
theorem intsV_append (l : List Int) (x : Int) : intsV l ++ [.int .i64 x] = intsV (l ++ [x]) := by simp
theorem intsV_set (l : List Int) (k : Nat) (x : Int) : (intsV l).set k (.int .i64 x) = intsV (l.set k x) := by rw [intsV, intsV, List.map_set]
theorem intsV_at {l : List Int} {k : Nat} (h : k < l.length) : (intsV l)[k]? = some (.int .i64 (gi l k)) := by
  rw [gi_get h]; simp [intsV, h]
theorem own_ge {base : Nat} {wr : World} {e : TypeId} {v : Value} {n : Nat} {xs : List Value} (h : wr.ownsRow base e 1 v n xs) : ∀ g, v.ownBlock = some g → base ≤ g ∧ g < wr.heap.size := by
  intro g e
  rcases h.2 with ⟨rfl, _⟩ | ⟨g', cap, cur, rfl, hg', hh, _⟩
  · simp [Value.ownBlock] at e
  · simp [Value.ownBlock] at e; subst e; exact ⟨hg', lt_some hh⟩

/-- What an append leaves alone. -/
theorem grown_keep {base : Nat} {wr w1 : World} {e : TypeId} {v : Value} {n : Nat} {xs : List Value} {o : Obj} (h : wr.ownsRow base e 1 v n xs) (hg : (wr.alloc o).grownBy w1 v.ownBlock) :
    ∀ g, g < base → g < wr.heap.size → w1.heap[g]? = wr.heap[g]? := by
  intro g h1 h2
  rw [hg.block g (by simp; omega) (fun e => by have := own_ge h g e.symm; omega), Below.heap_alloc _ _ _ h2]

theorem grown_drew {wr w1 : World} {o : Obj} {row : Option Nat} (hg : ((wr.alloc o).drew).grownBy w1 row) : (wr.alloc o).grownBy w1 row := ⟨hg.os, hg.tape, hg.output, hg.size, hg.block⟩
theorem grown_cells {base : Nat} {wr w1 : World} {e : TypeId} {v : Value} {n : Nat} {xs : List Value} {o : Obj} (h : wr.ownsRow base e 1 v n xs) (hg : ((wr.alloc o).drew).grownBy w1 v.ownBlock) :
    ∀ p : Addr, p.block < base → p.block < wr.heap.size → w1.cell? p = wr.cell? p ∧ w1.frozen? p = wr.frozen? p := fun p h1 h2 =>
  have hk := grown_keep h (grown_drew hg) p.block h1 h2
  ⟨World.cell?_of_block hk, World.frozen?_of_block hk⟩

theorem ownsRow_of_block {base : Nat} {wr w1 : World} {e : TypeId} {v : Value} {n : Nat} {xs : List Value} (h : wr.ownsRow base e 1 v n xs) (hk : ∀ g, v.ownBlock = some g → w1.heap[g]? = wr.heap[g]?) : w1.ownsRow base e 1 v n xs := by
  refine ⟨h.1, ?_⟩
  rcases h.2 with h2 | ⟨g, cap, cur, rfl, hg, hh, r⟩
  · exact Or.inl h2
  · exact Or.inr ⟨g, cap, cur, rfl, hg, by rw [hk g (by simp [Value.ownBlock])]; exact hh, r⟩

theorem set_block {wr : World} {g i g' : Nat} {u : Value} (h : g' ≠ g) : (wr.setCell ⟨g, i, none⟩ u).heap[g']? = wr.heap[g']? := heap_set_ne h

theorem one_new (w : World) (x : Value) (e : TypeId) : ∀ j u, [x][j]? = some u → (w.alloc (.cells #[x] e)).cell? ((⟨w.heap.size, 0, none⟩ : Addr).add j) = some u := by
  intro j u hj
  match j, hj with
  | 0, hj => simp at hj; subst hj; simp [Addr.add]
theorem one_one (n : Int) : ∀ u ∈ [Value.int .i64 n], u.oneCell' = true := by intro u hu; simp at hu; subst hu; rfl

end Go.Proofs.Ytgcbmnohhbcfiaa

namespace Go.Proofs.Ytgcbmnohhbcfiaa
open Go.RowKit
set_option linter.unusedVariables false
set_option linter.unusedSimpArgs false

/-- The worlds that have grown out of w0, and hold all that w1 holds but for the blocks X. -/
structure RK (w0 w1 : World) (X : List Nat) (W : World) : Prop where
  b : Below w0.heap.size w0 W
  s : w1.heap.size ≤ W.heap.size
  k : ∀ g, g < w1.heap.size → g ∉ X → W.heap[g]? = w1.heap[g]?
theorem RK.grows (w0 w1 : World) (X : List Nat) : Grows (RK w0 w1 X) := fun W W' h hb =>
  ⟨bcall h.b h.b.size hb, Nat.le_trans h.s hb.size, fun g hg hx => (hb.block g (Nat.lt_of_lt_of_le hg h.s)).trans (h.k g hg hx)⟩
theorem RK.start (w0 : World) : RK w0 w0 [] w0 := ⟨Below.refl _ _, Nat.le_refl _, fun _ _ _ => rfl⟩
/-- The base moves on. -/
theorem RK.move {w0 w1 w2 : World} {X X' : List Nat} (h : RK w0 w1 X w2) (hx : ∀ g, g ∈ X' → g ∈ X ∨ w1.heap.size ≤ g) : ∀ W, RK w0 w2 X' W → RK w0 w1 X W := fun W k =>
  ⟨k.b, Nat.le_trans h.s k.s, fun g hg hn => (k.k g (Nat.lt_of_lt_of_le hg h.s) (fun hm => (hx g hm).elim hn (fun q => by omega))).trans (h.k g hg hn)⟩
theorem RK.here {w0 w1 w2 : World} {X X' : List Nat} (h : RK w0 w1 X w2) : RK w0 w2 X' w2 := ⟨h.b, Nat.le_refl _, fun _ _ _ => rfl⟩
theorem RK.below {w0 w1 W : World} (h0 : Below w0.heap.size w0 w1) (h : RK w0 w1 [] W) : Below w1.heap.size w1 W :=
  ⟨h.b.os.trans h0.os.symm, h.b.tape.trans h0.tape.symm, h.b.output.trans h0.output.symm, h.s, fun g hg => h.k g hg (by simp)⟩
theorem RK.at {w0 w1 W : World} {X : List Nat} {g : Nat} {o : Obj} (h : RK w0 w1 X W) (hh : w1.heap[g]? = some o) (hx : g ∉ X) : W.heap[g]? = some o := (h.k g (lt_some hh) hx).trans hh
theorem RK.alloc {w0 w1 W : World} {X : List Nat} (h : RK w0 w1 X W) (o : Obj) : RK w0 w1 X (W.alloc o) := RK.grows _ _ _ _ _ h (one_alloc _ _)
theorem RK.set {w0 w1 W : World} {X : List Nat} (h : RK w0 w1 X W) {g j : Nat} {u : Value} (h0 : w0.heap.size ≤ g) (hx : g ∈ X ∨ w1.heap.size ≤ g) : RK w0 w1 X (W.setCell ⟨g, j, none⟩ u) :=
  ⟨h.b.setCell h0 _, by simpa using h.s, fun k hk hn => by rw [heap_set_ne (fun e => by subst e; exact hx.elim hn (fun q => by omega))]; exact h.k k hk hn⟩
theorem RK.grow {w0 w1 W W' : World} {X : List Nat} (h : RK w0 w1 X W) (hb : Below W.heap.size W W') : RK w0 w1 X W' := RK.grows _ _ _ _ _ h hb

section
variable {P : Program} {ops : Array Oper} {md : Region.Mode} {Q : Exit → Act → World → Prop} {R R' : World → Prop}
theorem wpAnyE_sub (hs : ∀ W, R' W → R W) (hg : Grows R') : ∀ (fuel : Nat) (listed : Array Bool) (a : Act) (w : World), R' w → wpAnyE P md ops Q R' fuel listed a w → wpAnyE P md ops Q R fuel listed a w
  | 0, _, _, _, hw, h => ⟨h.1, fun W hW _ => h.2 W hW (hg _ _ hw hW)⟩
  | fuel + 1, _, _, _, hw, h => fun W hW _ =>
    have k := h W hW (hg _ _ hw hW)
    ⟨k.1, fun i hi => wpOp_mono (fun _ _ c => ⟨hs _ c.1, wpAnyE_sub hs hg fuel _ _ _ c.1 c.2⟩) (k.2 i hi)⟩
/-- What yields the same from here on is taken. -/
theorem wpAnyE_go {listed : Array Bool} {a : Act} {w0 w1 : World} {X : List Nat} (hs : ∀ W, RK w0 w1 X W → R W) (h1 : RK w0 w1 X w1) (is : List Nat) (m : Nat)
    (hB : (Region.noSelect ops && takeB ops is listed && dstsB a.tmps.size (pickOps ops is) [] && decide ((pickOps ops is).length = is.length)) = true)
    (hA : ∃ A, (∀ G, Grows G → Nonempty (GE (RK w0 w1 X) G) → wpQuiet P ops (fun w' => ∃ e : GE (RK w0 w1 X) G, w' = e.w) (fun a' => a' = A) (pickOps ops is) a) ∧
      wpAnyE P .any ops (NoPanic Q) (RK w0 w1 X) m (listedAfter is listed) A w1) : wpAnyE P .any ops (NoPanic Q) R (is.length + m) listed a w1 := by
  simp only [Bool.and_eq_true, decide_eq_true_eq] at hB
  obtain ⟨⟨⟨b1, b2⟩, b3⟩, b4⟩ := hB
  obtain ⟨A, hq, h⟩ := hA
  exact wpAnyE_sub hs (RK.grows _ _ _) _ _ _ _ h1 (wpAnyE_run (Q := NoPanic Q) (A := A) (RK.grows _ _ _) ⟨_, h1⟩ b1 (fun c a w d v h => h) is listed a w1 m [] _ (Nat.le_refl _) b2 b3 b4 hq h)
end
/-- The beginning. -/
theorem wp_region_flow {P : Program} {l : List Oper} {id : Nat} {Q : Exit → Act → World → Prop} {a : Act} {w : World} (n : Nat) (hm : P.follows .mixedOrders = true) (hn : l.length = n)
    (h : ∀ w0, Below w.heap.size w w0 → wpAnyE P .any l.toArray (NoPanic Q) (RK w0 w0 []) n (Array.replicate n false) a w0) : (Code.region id l.toArray true).wp P Q a w := by
  subst hn
  exact wp_region_noPanic (wp_region_E (R := RK w.drew w.drew []) hm (RK.start _) (by simpa using h w.drew (Below.refl _ _).drew))
end Go.Proofs.Ytgcbmnohhbcfiaa

namespace Go.Proofs.Ytgcbmnohhbcfiaa
open Go.RowKit
set_option linter.unusedVariables false
set_option linter.unusedSimpArgs false
theorem RK.at0 {wb w0 : World} {X : List Nat} (hb : Below wb.heap.size wb w0) : RK wb w0 X w0 := ⟨hb, Nat.le_refl _, fun _ _ _ => rfl⟩
/-- The beginning, with a base further back: the blocks X may be written. -/
theorem wp_region_flow_at {P : Program} {l : List Oper} {id : Nat} {Q : Exit → Act → World → Prop} {a : Act} {w : World} (wb : World) (X : List Nat) (n : Nat) (hm : P.follows .mixedOrders = true) (hn : l.length = n) (hb : Below wb.heap.size wb w)
    (h : ∀ w0, Below w.heap.size w w0 → Below wb.heap.size wb w0 → wpAnyE P .any l.toArray (NoPanic Q) (RK wb w0 X) n (Array.replicate n false) a w0) : (Code.region id l.toArray true).wp P Q a w := by
  subst hn
  exact wp_region_noPanic (wp_region_E (R := RK wb w.drew X) hm (RK.at0 hb.drew) (by simpa using h w.drew (Below.refl _ _).drew hb.drew))
end Go.Proofs.Ytgcbmnohhbcfiaa

namespace Go.Proofs.Ytgcbmnohhbcfiaa
open Go.RowKit Go.Deep
set_option linter.unusedVariables false
set_option linter.unusedSimpArgs false

/-- A row: the slice, its elements' type and size, how many, its cells. -/
structure Rw where
  v : Value
  e : TypeId
  size : Nat
  n : Nat
  xs : List Value
structure Mx (w : World) (L : List (Nat × Obj)) (R : List Rw) (W : World) : Prop where
  bx : Bx w L W
  own : ∀ r, r ∈ R → W.ownsRow w.heap.size r.e r.size r.v r.n r.xs
  apart : ∀ r, r ∈ R → ∀ g, r.v.ownBlock = some g → g ∉ L.map (·.1)
  nd : (R.filterMap (·.v.ownBlock)).Nodup
theorem own_ge' {base : Nat} {wr : World} {e : TypeId} {v : Value} {n size : Nat} {xs : List Value} (h : wr.ownsRow base e size v n xs) : ∀ g, v.ownBlock = some g → base ≤ g ∧ g < wr.heap.size := by
  intro g e
  rcases h.2 with ⟨rfl, _⟩ | ⟨g', cap, cur, rfl, hg', hh, _⟩
  · simp [Value.ownBlock] at e
  · simp [Value.ownBlock] at e; subst e; exact ⟨hg', lt_some hh⟩
theorem ownsRow_block {base : Nat} {wr w1 : World} {e : TypeId} {v : Value} {n size : Nat} {xs : List Value} (h : wr.ownsRow base e size v n xs) (hk : ∀ g, v.ownBlock = some g → w1.heap[g]? = wr.heap[g]?) : w1.ownsRow base e size v n xs := by
  refine ⟨h.1, ?_⟩
  rcases h.2 with h2 | ⟨g, cap, cur, rfl, hg, hh, r⟩
  · exact Or.inl h2
  · exact Or.inr ⟨g, cap, cur, rfl, hg, by rw [hk g (by simp [Value.ownBlock])]; exact hh, r⟩
section
variable {w W W1 : World} {L : List (Nat × Obj)} {R : List Rw}
theorem Mx.of_bx (h : Bx w L W) : Mx w L [] W := ⟨h, fun _ h => by simp at h, fun _ h => by simp at h, by simp⟩
theorem Mx.below (h : Mx w L R W) : Below w.heap.size w W := h.bx.below
theorem Mx.row (h : Mx w L R W) (i : Nat) {r : Rw} (hi : R[i]? = some r) : W.ownsRow w.heap.size r.e r.size r.v r.n r.xs := h.own r (List.mem_of_getElem? hi)
theorem Mx.get (h : Mx w L R W) (i : Nat) {p : Nat × Obj} (hi : L[i]? = some p) : W.heap[p.1]? = some p.2 := h.bx.get i hi
theorem Mx.lt (h : Mx w L R W) (i : Nat) {p : Nat × Obj} (hi : L[i]? = some p) : p.1 < W.heap.size := h.bx.lt i hi
theorem Mx.le (h : Mx w L R W) (i : Nat) {p : Nat × Obj} (hi : L[i]? = some p) : w.heap.size ≤ p.1 := h.bx.le i hi
theorem Mx.ne (h : Mx w L R W) (i j : Nat) {p q : Nat × Obj} (hi : L[i]? = some p) (hj : L[j]? = some q) (hij : i ≠ j) : ¬ p.1 = q.1 := h.bx.ne i j hi hj hij
theorem Mx.next (h : Mx w L R W) (hb : Below W.heap.size W W1) : Mx w L R W1 :=
  ⟨h.bx.next hb, fun r hr => ownsRow_block (h.own r hr) (fun g hg => hb.block g (own_ge' (h.own r hr) g hg).2), h.apart, h.nd⟩
theorem Mx.drew (h : Mx w L R W) : Mx w L R W.drew := ⟨h.bx.drew, fun r hr => h.own r hr, h.apart, h.nd⟩
theorem Mx.drewN (h : Mx w L R W) (n : Nat) : Mx w L R (W.drewN n) := ⟨h.bx.drewN n, fun r hr => h.own r hr, h.apart, h.nd⟩
theorem Mx.new (h : Mx w L R W) {g : Nat} (hg : g = W.heap.size) (o : Obj) : Mx w ((g, o) :: L) R (W.alloc o) := by
  refine ⟨h.bx.new hg o, fun r hr => (ownsRow_block (h.own r hr) (fun g hg => Below.heap_alloc _ _ _ (own_ge' (h.own r hr) g hg).2)), fun r hr g' hg' hm => ?_, h.nd⟩
  have := (own_ge' (h.own r hr) g' hg').2
  rw [List.map_cons, List.mem_cons] at hm
  rcases hm with hm | hm
  · simp only at hm; omega
  · exact h.apart r hr g' hg' hm
theorem Mx.add {W0 : World} (h : Mx w L R W0) (hb : Below W0.heap.size W0 W) {g : Nat} {o : Obj} (hg : W0.heap.size ≤ g) (ho : W.heap[g]? = some o) : Mx w ((g, o) :: L) R W := by
  have k := h.next hb
  refine ⟨h.bx.add hb hg ho, k.own, fun r hr g' hg' hm => ?_, h.nd⟩
  have := (own_ge' (h.own r hr) g' hg').2
  rw [List.map_cons, List.mem_cons] at hm
  rcases hm with hm | hm
  · simp only at hm; omega
  · exact h.apart r hr g' hg' hm
theorem Mx.drop {p : Nat × Obj} (h : Mx w (p :: L) R W) : Mx w L R W := ⟨h.bx.drop, h.own, fun r hr g hg hm => h.apart r hr g hg (by rw [List.map_cons]; exact List.mem_cons_of_mem _ hm), h.nd⟩
theorem Mx.dropR {r : Rw} (h : Mx w L (r :: R) W) : Mx w L R W := by
  refine ⟨h.bx, fun q hq => h.own q (List.mem_cons_of_mem _ hq), fun q hq => h.apart q (List.mem_cons_of_mem _ hq), ?_⟩
  have := h.nd
  rw [List.filterMap_cons] at this
  split at this
  · exact this
  · exact (List.nodup_cons.1 this).2
theorem Mx.set (h : Mx w L R W) (i : Nat) {g : Nat} {cs : Array Value} {t : TypeId} (hi : L[i]? = some (g, .cells cs t)) (j : Nat) (u : Value) : Mx w (L.set i (g, .cells (cs.setIfInBounds j u) t)) R (W.setCell ⟨g, j, none⟩ u) := by
  have hm : g ∈ L.map (·.1) := List.mem_map.2 ⟨_, List.mem_of_getElem? hi, rfl⟩
  refine ⟨h.bx.set i hi j u, fun r hr => ownsRow_block (h.own r hr) (fun g' hg' => heap_set_ne (fun e => by subst e; exact h.apart r hr g' hg' hm)), fun r hr g' hg' => ?_, h.nd⟩
  rw [setNodup (f := fun x : Nat × Obj => x.1) (a := (g, Obj.cells cs t)) (b := (g, Obj.cells (cs.setIfInBounds j u) t)) rfl L i hi]
  exact h.apart r hr g' hg'
theorem Mx.put (h : Mx w L R W) (i : Nat) {g : Nat} {r0 : Rt} (hi : L[i]? = some (g, rB r0)) (r : Rt) : Mx w (L.set i (g, rB r)) R ((W.setCell ⟨g, 0, none⟩ (.int .i64 r.n)).setCell ⟨g, 1, none⟩ (.int .i64 r.d)) := by
  have a := h.set i hi 0 (.int .i64 r.n)
  have hlt : i < L.length := by
    rcases Nat.lt_or_ge i L.length with q | q
    · exact q
    · rw [List.getElem?_eq_none q] at hi; cases hi
  have b := a.set i (List.getElem?_set_self hlt) 1 (.int .i64 r.d)
  rw [List.set_set] at b
  exact b
/-- A row that is not there yet. -/
theorem Mx.nil (h : Mx w L R W) (e : TypeId) (size : Nat) : Mx w L (⟨.slice none 0 0, e, size, 0, []⟩ :: R) W := by
  refine ⟨h.bx, fun r hr => ?_, fun r hr g hg => ?_, ?_⟩
  · rcases List.mem_cons.1 hr with rfl | hr
    · exact ⟨by simp, Or.inl ⟨rfl, rfl⟩⟩
    · exact h.own r hr
  · rcases List.mem_cons.1 hr with rfl | hr
    · simp [Value.ownBlock] at hg
    · exact h.apart r hr g hg
  · rw [List.filterMap_cons]; simpa [Value.ownBlock] using h.nd
/-- A row that was made since. -/
theorem Mx.addR {W0 : World} (h : Mx w L R W0) (hb : Below W0.heap.size W0 W) (r : Rw) (ho : W.ownsRow W0.heap.size r.e r.size r.v r.n r.xs) : Mx w L (r :: R) W := by
  have k := h.next hb
  have ge := own_ge' ho
  refine ⟨k.bx, fun q hq => ?_, fun q hq g hg => ?_, ?_⟩
  · rcases List.mem_cons.1 hq with rfl | hq
    · refine ⟨ho.1, ?_⟩
      rcases ho.2 with h2 | ⟨g, cap, cur, e, hg, r⟩
      · exact Or.inl h2
      · exact Or.inr ⟨g, cap, cur, e, Nat.le_trans h.bx.below.size hg, r⟩
    · exact k.own q hq
  · rcases List.mem_cons.1 hq with rfl | hq
    · intro hm
      obtain ⟨p, hp, e⟩ := List.mem_map.1 hm
      have := lt_some (h.bx.at_ p hp)
      have := (ge g hg).1
      have e : p.1 = g := e
      omega
    · exact k.apart q hq g hg
  · rw [List.filterMap_cons]
    cases hv : r.v.ownBlock with
    | none => exact h.nd
    | some g =>
      simp only
      rw [List.nodup_cons]
      refine ⟨fun hm => ?_, h.nd⟩
      obtain ⟨q, hq, e⟩ := List.mem_filterMap.1 hm
      have := (own_ge' (h.own q hq) g e).2
      have := (ge g hv).1
      omega
theorem filterMap_nodup_ne {α : Type} {f : α → Option Nat} : ∀ {l : List α} {i j : Nat} {a b : α} {g : Nat}, (l.filterMap f).Nodup → l[i]? = some a → l[j]? = some b → i ≠ j → f a = some g → f b = some g → False
  | [], i, j, a, b, g, _, hi, _, _, _, _ => by simp at hi
  | x :: l, i, j, a, b, g, hn, hi, hj, hij, ha, hb => by
    rw [List.filterMap_cons] at hn
    match i, j with
    | 0, 0 => exact hij rfl
    | 0, j + 1 =>
      have : x = a := by simpa using hi
      subst this
      rw [ha] at hn
      exact (List.nodup_cons.1 hn).1 (List.mem_filterMap.2 ⟨b, List.mem_of_getElem? (by simpa using hj), hb⟩)
    | i + 1, 0 =>
      have : x = b := by simpa using hj
      subst this
      rw [hb] at hn
      exact (List.nodup_cons.1 hn).1 (List.mem_filterMap.2 ⟨a, List.mem_of_getElem? (by simpa using hi), ha⟩)
    | i + 1, j + 1 =>
      have hn' : (l.filterMap f).Nodup := by
        split at hn
        · exact hn
        · exact (List.nodup_cons.1 hn).2
      exact filterMap_nodup_ne hn' (by simpa using hi) (by simpa using hj) (by omega) ha hb
/-- A row has grown: in place, or into a new block. -/
theorem Mx.grow (h : Mx w L R W) (i : Nat) {r : Rw} (hi : R[i]? = some r) {v' : Value} {n' : Nat} {xs' : List Value} (hg : W.grownBy W1 r.v.ownBlock) (ho : W1.ownsRow w.heap.size r.e r.size v' n' xs')
    (hat : v'.ownBlock = r.v.ownBlock ∨ v'.ownBlock = some W.heap.size) : Mx w L (R.set i ⟨v', r.e, r.size, n', xs'⟩) W1 := by
  have hr := h.own r (List.mem_of_getElem? hi)
  have hilt : i < R.length := by
    rcases Nat.lt_or_ge i R.length with q | q
    · exact q
    · rw [List.getElem?_eq_none q] at hi; cases hi
  have keep : ∀ k q, R[k]? = some q → k ≠ i → W1.ownsRow w.heap.size q.e q.size q.v q.n q.xs := fun k q hk hki => by
    have hq := h.own q (List.mem_of_getElem? hk)
    refine ownsRow_block hq (fun g hgq => hg.block g (own_ge' hq g hgq).2 (fun e => ?_))
    exact filterMap_nodup_ne h.nd hk hi hki hgq e.symm
  refine ⟨⟨h.bx.below.grown hg h.bx.below.size (fun g e => (own_ge' hr g e).1), h.bx.own, h.bx.nd, fun p hp => ?_⟩, fun q hq => ?_, fun q hq g hgq => ?_, ?_⟩
  · have hlt := lt_some (h.bx.at_ p hp)
    rw [hg.block p.1 hlt (fun e => h.apart r (List.mem_of_getElem? hi) p.1 e.symm (List.mem_map.2 ⟨p, hp, rfl⟩))]
    exact h.bx.at_ p hp
  · obtain ⟨k, hk⟩ := List.mem_iff_getElem?.1 hq
    by_cases e : k = i
    · subst e
      rw [List.getElem?_set_self hilt] at hk
      obtain rfl : (⟨v', r.e, r.size, n', xs'⟩ : Rw) = q := by simpa using hk
      exact ho
    · rw [List.getElem?_set_ne (Ne.symm e)] at hk
      exact keep k q hk e
  · obtain ⟨k, hk⟩ := List.mem_iff_getElem?.1 hq
    by_cases e : k = i
    · subst e
      rw [List.getElem?_set_self hilt] at hk
      obtain rfl : (⟨v', r.e, r.size, n', xs'⟩ : Rw) = q := by simpa using hk
      rcases hat with hat | hat
      · exact h.apart r (List.mem_of_getElem? hi) g (by rw [← hat]; exact hgq)
      · intro hm
        obtain ⟨p, hp, ep⟩ := List.mem_map.1 hm
        have := lt_some (h.bx.at_ p hp)
        have hgq : v'.ownBlock = some g := hgq
        rw [hat] at hgq
        injection hgq with hgq
        have ep : p.1 = g := ep
        omega
    · rw [List.getElem?_set_ne (Ne.symm e)] at hk
      exact h.apart q (List.mem_of_getElem? hk) g hgq
  · have key : ∀ (l : List Rw) (i : Nat), l[i]? = some r → (l.filterMap (·.v.ownBlock)).Nodup → (∀ q, q ∈ l → ∀ g, q.v.ownBlock = some g → g < W.heap.size) → ((l.set i ⟨v', r.e, r.size, n', xs'⟩).filterMap (·.v.ownBlock)).Nodup := by
      intro l
      induction l with
      | nil => intro i hi; simp at hi
      | cons x l ih =>
        intro i hi hn hlt
        rw [List.filterMap_cons] at hn
        have hn' : (l.filterMap (·.v.ownBlock)).Nodup := by
          split at hn
          · exact hn
          · exact (List.nodup_cons.1 hn).2
        match i with
        | 0 =>
          have : x = r := by simpa using hi
          subst this
          rw [List.set_cons_zero, List.filterMap_cons]
          rcases hat with hat | hat
          · simp only [hat]; exact hn
          · simp only [hat]
            rw [List.nodup_cons]
            refine ⟨fun hm => ?_, hn'⟩
            obtain ⟨q, hq, e⟩ := List.mem_filterMap.1 hm
            have := hlt q (List.mem_cons_of_mem _ hq) _ e
            omega
        | i + 1 =>
          rw [List.set_cons_succ, List.filterMap_cons]
          have hk := ih i (by simpa using hi) hn' (fun q hq => hlt q (List.mem_cons_of_mem _ hq))
          cases hx : x.v.ownBlock with
          | none => exact hk
          | some gx =>
            simp only
            rw [hx] at hn
            rw [List.nodup_cons]
            refine ⟨fun hm => ?_, hk⟩
            obtain ⟨q, hq, e⟩ := List.mem_filterMap.1 hm
            obtain ⟨k, hkq⟩ := List.mem_iff_getElem?.1 hq
            have hil : i < l.length := by
              rcases Nat.lt_or_ge i l.length with q | q
              · exact q
              · have : l[i]? = some r := by simpa using hi
                rw [List.getElem?_eq_none q] at this; cases this
            by_cases ek : k = i
            · subst ek
              rw [List.getElem?_set_self hil] at hkq
              obtain rfl : (⟨v', r.e, r.size, n', xs'⟩ : Rw) = q := by simpa using hkq
              have e : v'.ownBlock = some gx := e
              rcases hat with hat | hat
              · rw [hat] at e
                exact (List.nodup_cons.1 hn).1 (List.mem_filterMap.2 ⟨r, List.mem_of_getElem? (by simpa using hi), e⟩)
              · rw [hat] at e
                injection e with e
                have := hlt x (by simp) gx hx
                omega
            · rw [List.getElem?_set_ne (Ne.symm ek)] at hkq
              exact (List.nodup_cons.1 hn).1 (List.mem_filterMap.2 ⟨q, List.mem_of_getElem? hkq, e⟩)
    exact key R i hi h.nd (fun q hq g hgq => (own_ge' (h.own q hq) g hgq).2)
end
end Go.Proofs.Ytgcbmnohhbcfiaa

namespace Go.Proofs.Ytgcbmnohhbcfiaa
open Go.RowKit Go.Deep
set_option linter.unusedVariables false
set_option linter.unusedSimpArgs false

theorem Bx.grows (w : World) (L : List (Nat × Obj)) : Grows (Bx w L) := fun _ _ h hb => h.next hb
section
variable {P : Program} {ops : Array Oper} {md : Region.Mode} {Q : Exit → Act → World → Prop} {R : World → Prop}
/-- What yields the same from here on is taken. -/
theorem wpAnyE_goR {listed : Array Bool} {a : Act} {w1 : World} (hRg : Grows R) (h1 : R w1) (is : List Nat) (m : Nat)
    (hB : (Region.noSelect ops && takeB ops is listed && dstsB a.tmps.size (pickOps ops is) [] && decide ((pickOps ops is).length = is.length)) = true)
    (hA : ∃ A, (∀ G, Grows G → Nonempty (GE R G) → wpQuiet P ops (fun w' => ∃ e : GE R G, w' = e.w) (fun a' => a' = A) (pickOps ops is) a) ∧
      wpAnyE P .any ops (NoPanic Q) R m (listedAfter is listed) A w1) : wpAnyE P .any ops (NoPanic Q) R (is.length + m) listed a w1 := by
  simp only [Bool.and_eq_true, decide_eq_true_eq] at hB
  obtain ⟨⟨⟨b1, b2⟩, b3⟩, b4⟩ := hB
  obtain ⟨A, hq, h⟩ := hA
  exact wpAnyE_run (Q := NoPanic Q) (A := A) hRg ⟨_, h1⟩ b1 (fun c a w d v h => h) is listed a w1 m [] _ (Nat.le_refl _) b2 b3 b4 hq h
end
/-- The beginning. -/
theorem wp_region_R {P : Program} {l : List Oper} {id : Nat} {Q : Exit → Act → World → Prop} {a : Act} {w : World} (R : World → Prop) (n : Nat) (hm : P.follows .mixedOrders = true) (hn : l.length = n) (hR : R w.drew)
    (h : ∀ w0, Below w.heap.size w w0 → wpAnyE P .any l.toArray (NoPanic Q) R n (Array.replicate n false) a w0) : (Code.region id l.toArray true).wp P Q a w := by
  subst hn
  exact wp_region_noPanic (wp_region_E (R := R) hm hR (by simpa using h w.drew (Below.refl _ _).drew))
section
variable {w W W1 : World} {L : List (Nat × Obj)} {R : List Rw}
theorem Mx.keep (h : Mx w L R W) {M : List (Nat × Obj)} (hs : List.Sublist M L) : Bx w M W := h.bx.sub hs
theorem Mx.put3 (h : Mx w L R W) (i : Nat) {g : Nat} {x y z : Value} {t : TypeId} (hi : L[i]? = some (g, .cells #[x, y, z] t)) (a b c : Value) :
    Mx w (L.set i (g, .cells #[a, b, c] t)) R (((W.setCell ⟨g, 0, none⟩ a).setCell ⟨g, 1, none⟩ b).setCell ⟨g, 2, none⟩ c) := by
  have hlt : i < L.length := by
    rcases Nat.lt_or_ge i L.length with q | q
    · exact q
    · rw [List.getElem?_eq_none q] at hi; cases hi
  have h1 := h.set i hi 0 a
  have h2 := h1.set i (List.getElem?_set_self hlt) 1 b
  rw [List.set_set] at h2
  have h3 := h2.set i (List.getElem?_set_self hlt) 2 c
  rw [List.set_set] at h3
  exact h3
theorem reads_one {g : Nat} {u : Value} {t : TypeId} (h : W.heap[g]? = some (.cells #[u] t)) : Reads W W.heap.size 1 (some ⟨g, 0, none⟩) 1 [u] := by
  refine ⟨rfl, fun _ => ⟨_, rfl, lt_some h, fun k u' hk => ?_⟩⟩
  match k, hk with
  | 0, hk =>
    have : u = u' := by simpa using hk
    subst this
    rw [add_mk, cell_of_row _ _ _ _ _ _ h]; rfl
theorem CIn.reads0 {B : Nat} {w : World} {A : Option Addr} {xs : List Int} (h : Ints B w A xs) : Reads w B 1 A xs.length (intsV xs) := h.reads
end
end Go.Proofs.Ytgcbmnohhbcfiaa
