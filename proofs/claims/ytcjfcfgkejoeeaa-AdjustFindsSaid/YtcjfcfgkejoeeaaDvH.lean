/- The good that is passed next, looked for again and again: plain. -/
import Derived.Test.YtcjfcfgkejoeeaaDvC
namespace Go.Proofs.Ytcjfcfgkejoeeaa
set_option linter.unusedVariables false
set_option linter.unusedSimpArgs false

/-- May be passed. -/
def candB (bs : List (List Int)) (ow : List Int) (k : Nat) : Bool := decide (gi ow k = (richN bs : Int)) && decide (oth bs k ≠ 0)
/-- The one that is found among the first k. -/
def nextTo (bs : List (List Int)) (ow : List Int) : Nat → Option Nat
  | 0 => none
  | k + 1 => match nextTo bs ow k with
    | none => if candB bs ow k = true then some k else none
    | some b => if candB bs ow k = true ∧ own bs k * oth bs b < own bs b * oth bs k then some k else some b
def optI : Option Nat → Int
  | none => -1
  | some b => b
section
variable {bs : List (List Int)}
theorem ltD_iff {a b : Nat} : ltD bs a b = true ↔ own bs a * oth bs b < own bs b * oth bs a := by
  simp only [ltD, decide_eq_true_eq]
  unfold cfD cmpI
  split
  · simp; assumption
  · split
    · simp; omega
    · simp; omega
theorem ltD_no {a b : Nat} : ltD bs a b = false ↔ own bs b * oth bs a ≤ own bs a * oth bs b := by
  rw [← Bool.not_eq_true, ltD_iff]; omega
theorem prec_anti {a b : Nat} (h : Prec (ltD bs) a b) (k : Prec (ltD bs) b a) : False := by
  rcases h with h | ⟨h, q⟩ <;> rcases k with k | ⟨k, r⟩
  · rw [ltD_iff] at h k; omega
  · rw [k] at h; cases h
  · rw [h] at k; cases k
  · omega
theorem next_spec (h : AdOk bs (num bs)) (ow : List Int) : ∀ k, k ≤ num bs →
    (match nextTo bs ow k with
    | none => ∀ j, j < k → candB bs ow j = false
    | some b => b < k ∧ candB bs ow b = true ∧ ∀ j, j < k → candB bs ow j = true → j = b ∨ Prec (ltD bs) b j)
  | 0, _ => by simp [nextTo]
  | k + 1, hk => by
    have ih := next_spec h ow k (by omega)
    have pos : ∀ j, j < num bs → candB bs ow j = true → 0 < oth bs j := fun j hj hc => by
      simp only [candB, Bool.and_eq_true, decide_eq_true_eq] at hc
      have := (h.oth_bd hj).1; omega
    rw [nextTo]
    cases hn : nextTo bs ow k with
    | none =>
      rw [hn] at ih
      simp only at ih ⊢
      by_cases c : candB bs ow k = true
      · rw [if_pos c]
        refine ⟨by omega, c, fun j hj hc => ?_⟩
        by_cases e : j = k
        · exact Or.inl e
        · rw [ih j (by omega)] at hc; cases hc
      · rw [if_neg c]
        intro j hj
        by_cases e : j = k
        · subst e; simpa using c
        · exact ih j (by omega)
    | some b =>
      rw [hn] at ih
      simp only at ih ⊢
      obtain ⟨h1, h2, h3⟩ := ih
      by_cases c : candB bs ow k = true ∧ own bs k * oth bs b < own bs b * oth bs k
      · rw [if_pos c]
        refine ⟨by omega, c.1, fun j hj hc => ?_⟩
        by_cases e : j = k
        · exact Or.inl e
        right; left
        have pb := pos b (by omega) h2
        have pj := pos j (by omega) hc
        have pk := pos k (by omega) c.1
        have q := ltD_iff.2 c.2
        rcases h3 j (by omega) hc with r | r
        · rw [r]; exact q
        have r' : ltD bs j b = false := by
          rcases r with r | r
          · rw [ltD_no]; rw [ltD_iff] at r; omega
          · exact r.1
        rcases hz : ltD bs k j with _ | _
        · have := h.weak.trans (a := b) (b := j) (c := k) ⟨by omega, pb⟩ ⟨by omega, pj⟩ ⟨by omega, pk⟩ r' hz
          rw [q] at this; cases this
        · rfl
      · rw [if_neg c]
        refine ⟨by omega, h2, fun j hj hc => ?_⟩
        by_cases e : j = k
        · subst e
          right
          have q : ltD bs j b = false := by
            rw [ltD_no]
            have : ¬ own bs j * oth bs b < own bs b * oth bs j := fun x => c ⟨hc, x⟩
            omega
          exact Or.inr ⟨q, by omega⟩
        · exact h3 j (by omega) hc
/-- It is the first one in order. -/
theorem next_head (h : AdOk bs (num bs)) {l : List Nat} {ow : List Int} {hr ho : Int} (p : PassIn bs l ow hr ho) (s : List.Pairwise (Prec (ltD bs)) l) : nextTo bs ow (num bs) = l.head? := by
  have sp := next_spec h ow (num bs) (Nat.le_refl _)
  have hin : ∀ k, k < num bs → candB bs ow k = true → k ∈ l := fun k hk hc => by
    simp only [candB, Bool.and_eq_true, decide_eq_true_eq] at hc
    rcases p.rest k hk hc.1 with q | q
    · exact q
    · exact absurd q hc.2
  cases l with
  | nil =>
    cases hn : nextTo bs ow (num bs) with
    | none => rfl
    | some b =>
      rw [hn] at sp
      have := hin b sp.1 sp.2.1
      simp at this
  | cons g l =>
    obtain ⟨m1, m2, m3, m4⟩ := p.mem g (List.mem_cons_self ..)
    have hg : candB bs ow g = true := by
      simp only [candB, Bool.and_eq_true, decide_eq_true_eq]
      exact ⟨m2, by omega⟩
    cases hn : nextTo bs ow (num bs) with
    | none =>
      rw [hn] at sp
      have := sp g m1
      rw [hg] at this; cases this
    | some b =>
      rw [hn] at sp
      obtain ⟨q1, q2, q3⟩ := sp
      show some b = some g
      congr 1
      rcases List.mem_cons.1 (hin b q1 q2) with e | e
      · exact e
      · rcases q3 g m1 hg with r | r
        · exact r.symm
        · exact absurd r (fun r => prec_anti r ((List.pairwise_cons.1 s).1 b e))
theorem PassIn.pass (h : AdOk bs (num bs)) {g : Nat} {l : List Nat} {ow : List Int} {hr ho : Int} (p : PassIn bs (g :: l) ow hr ho) (q2 : ¬ hr - ho < own bs g + oth bs g) :
    PassIn bs l (ow.set g (1 - (richN bs : Int))) (hr - own bs g) (ho + oth bs g) := by
    obtain ⟨m1, m2, m3, m4⟩ := p.mem g (List.mem_cons_self ..)
    have r := rich_cases bs
    have hw : ∀ k, k ≠ g → gi (ow.set g (1 - (richN bs : Int))) k = gi ow k := fun k hk => gi_set_ne hk
    have hg0 : gi (ow.set g (1 - (richN bs : Int))) g = 1 - (richN bs : Int) := gi_set_eq (by rw [p.len]; exact m1)
    have nd := List.nodup_cons.1 p.nd
    have sr := List.pairwise_cons.1 p.srt
    have ng : ∀ k, k ∈ l → k ≠ g := fun k hk e => nd.1 (e ▸ hk)
    refine ⟨by simp [p.len], fun k hk => ?_, ?_, ?_, by omega, fun k hk => ?_, fun k hk hg => ?_, sr.2, nd.2, fun k hk hg j hj => ?_, fun k hk hg => ?_⟩
    · by_cases e : k = g
      · rw [e, hg0]; omega
      · rw [hw k e]; exact p.z1 k hk
    · unfold sumR
      rw [sumTo_upd (g := fun i => if gi ow i = (richN bs : Int) then own bs i else 0) m1 (fun k hk hne => by simp only [hw k hne])]
      simp only [hg0, m2, if_true]
      rw [if_neg (by omega)]
      have := p.r; unfold sumR at this; omega
    · unfold sumO
      rw [sumTo_upd (g := fun i => if gi ow i = 1 - (richN bs : Int) then oth bs i else 0) m1 (fun k hk hne => by simp only [hw k hne])]
      simp only [hg0, m2, if_true]
      rw [if_neg (by omega)]
      have := p.o; unfold sumO at this; omega
    · obtain ⟨a1, a2, a3, a4⟩ := p.mem k (List.mem_cons_of_mem _ hk)
      exact ⟨a1, by rw [hw k (ng k hk)]; exact a2, a3, a4⟩
    · by_cases e : k = g
      · rw [e, hg0] at hg; omega
      · rw [hw k e] at hg
        rcases p.rest k hk hg with c | c
        · rcases List.mem_cons.1 c with c | c
          · exact absurd c e
          · exact Or.inl c
        · exact Or.inr c
    · by_cases e : k = g
      · rw [e]; exact sr.1 j hj
      · rw [hw k e] at hg
        exact p.gone k hk hg j (List.mem_cons_of_mem _ hj)
    · by_cases e : k = g
      · rw [e]; exact Or.inr m3
      · rw [hw k e] at hg
        exact p.small k hk hg
/-- Of a ratio, what is left of 1. -/
theorem sub_make {n d : Int} (h0 : 0 < n) (h1 : n < d) (h2 : d ≤ 2000) : subR ⟨1, 1⟩ (makeR n d) = makeR (d - n) d := by
  obtain ⟨ok, q⟩ := makeR_ok (n := n) (d := d) (by omega) (by omega) (by omega) (by omega)
  have o1 := of_ok (n := 1) (by omega) (by omega)
  rw [(sub_ok (code2_ok o1 ok)).1, q]
  have e : Rt.q ⟨1, 1⟩ - Rat.divInt n d = Rat.divInt (d - n) d := by
    unfold Rt.q
    rw [Rat.sub_eq_add_neg, Rat.neg_divInt, divInt_one (a := 1) (d := d) (by omega), divInt_add (by omega)]
    congr 1; omega
  rw [e]; unfold makeR; rw [if_neg (by omega)]
/-- The one who passes in the reference. -/
theorem part_make {more x : Int} (h0 : 0 < more) (h1 : more < x) (h2 : x ≤ 2000) : (if richN bs = 0 then subR ⟨1, 1⟩ (makeR more x) else makeR more x) = makeR (partOf bs more x) x := by
  unfold partOf
  rcases rich_cases bs with e | e
  · rw [if_pos e, if_neg (by omega), sub_make h0 h1 h2]
  · rw [if_neg (by omega), if_pos e]
end
end Go.Proofs.Ytcjfcfgkejoeeaa
