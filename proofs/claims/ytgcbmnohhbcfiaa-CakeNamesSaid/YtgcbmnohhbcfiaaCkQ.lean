/- Normal cakes: no program in sight. -/
import Derived.Test.YtgcbmnohhbcfiaaCkV
import Derived.Lib.SlicesCompact
namespace Go.Proofs.Ytgcbmnohhbcfiaa
set_option linter.unusedVariables false
set_option linter.unusedSimpArgs false

theorem gi_app_lt {l m : List Int} {i : Nat} (h : i < l.length) : gi (l ++ m) i = gi l i := by simp [gi, List.getD_eq_getElem?_getD, List.getElem?_append_left h]
theorem gi_app_at (l : List Int) (x : Int) : gi (l ++ [x]) l.length = x := by simp [gi, List.getD_eq_getElem?_getD]
theorem gi_app_at' {l : List Int} {x : Int} {n : Nat} (h : n = l.length) : gi (l ++ [x]) n = x := by subst h; exact gi_app_at l x
def keepI (ds : List Int) (i : Nat) : Bool := decide (i = 0 ∨ gi ds i ≠ gi ds (i - 1))
/-- The cuts, and the densities, at which the first k intervals differ. -/
def nCuts (K : Ck) : Nat → List Int
  | 0 => []
  | k + 1 => if keepI K.dens k = true then nCuts K k ++ [gi K.cuts k] else nCuts K k
def nDens (K : Ck) : Nat → List Int
  | 0 => []
  | k + 1 => if keepI K.dens k = true then nDens K k ++ [gi K.dens k] else nDens K k
def Ck.norm (K : Ck) : Ck := ⟨K.len, nCuts K K.dens.length ++ [K.len], nDens K K.dens.length⟩
def Ck.zero : Ck := ⟨0, [], []⟩
def Ck.norm? (K : Ck) : Ck := if K.code = 0 then K.norm else Ck.zero
theorem nCuts_yes {K : Ck} {k : Nat} (h : keepI K.dens k = true) : nCuts K (k + 1) = nCuts K k ++ [gi K.cuts k] := by rw [nCuts, if_pos h]
theorem nCuts_no {K : Ck} {k : Nat} (h : keepI K.dens k = false) : nCuts K (k + 1) = nCuts K k := by rw [nCuts, if_neg (by rw [h]; decide)]
theorem nDens_yes {K : Ck} {k : Nat} (h : keepI K.dens k = true) : nDens K (k + 1) = nDens K k ++ [gi K.dens k] := by rw [nDens, if_pos h]
theorem nDens_no {K : Ck} {k : Nat} (h : keepI K.dens k = false) : nDens K (k + 1) = nDens K k := by rw [nDens, if_neg (by rw [h]; decide)]
theorem compact_dens (K : Ck) : Lib.compact K.dens = nDens K K.dens.length := by
  have key : ∀ k, k ≤ K.dens.length → Lib.compactUpTo K.dens.toArray k = nDens K k := by
    intro k
    induction k with
    | zero => intro _; rfl
    | succ k ih =>
      intro hk
      rw [Lib.compactUpTo_succ, ih (by omega)]
      have e1 : K.dens.toArray[k]! = gi K.dens k := by simp [gi, List.getD_eq_getElem?_getD, Array.getElem!_eq_getD, Array.getD]; split <;> simp_all
      have e2 : K.dens.toArray[k - 1]! = gi K.dens (k - 1) := by simp [gi, List.getD_eq_getElem?_getD, Array.getElem!_eq_getD, Array.getD]; split <;> simp_all
      have e3 : Lib.keeps K.dens.toArray k = keepI K.dens k := by unfold Lib.keeps keepI; rw [e1, e2]
      rw [e3]
      cases h : keepI K.dens k with
      | true => rw [nDens_yes h, if_pos rfl, e1]
      | false => rw [nDens_no h, if_neg (by decide)]; simp
  exact key _ (Nat.le_refl _)
theorem nLen (K : Ck) : ∀ k, (nCuts K k).length = (nDens K k).length
  | 0 => rfl
  | k + 1 => by
    cases h : keepI K.dens k with
    | true => rw [nCuts_yes h, nDens_yes h]; simp [nLen K k]
    | false => rw [nCuts_no h, nDens_no h]; exact nLen K k
theorem nLen_le (K : Ck) : ∀ k, (nDens K k).length ≤ k
  | 0 => Nat.le_refl _
  | k + 1 => by
    have := nLen_le K k
    cases h : keepI K.dens k with
    | true => rw [nDens_yes h]; simp; omega
    | false => rw [nDens_no h]; omega
theorem nLen_pos (K : Ck) : ∀ k, 0 < k → 0 < (nDens K k).length
  | 0, h => by omega
  | k + 1, _ => by
    cases h : keepI K.dens k with
    | true => rw [nDens_yes h]; simp
    | false =>
      rw [nDens_no h]
      rcases Nat.eq_zero_or_pos k with e | e
      · subst e; simp [keepI] at h
      · exact nLen_pos K k e
/-- The densities without the last one: what the reference has at hand. -/
def rDens (K : Ck) : Nat → List Int
  | 0 => []
  | k + 1 => if keepI K.dens k = true ∧ 0 < k then rDens K k ++ [gi K.dens (k - 1)] else rDens K k
theorem rDens_last (K : Ck) : ∀ k, 0 < k → nDens K k = rDens K k ++ [gi K.dens (k - 1)]
  | 0, h => by omega
  | k + 1, _ => by
    rcases Nat.eq_zero_or_pos k with e | e
    · subst e; rfl
    · have ih := rDens_last K k e
      cases h : keepI K.dens k with
      | true => rw [nDens_yes h, ih, rDens, if_pos ⟨h, e⟩]; simp
      | false =>
        rw [nDens_no h, ih, rDens, if_neg (by rw [h]; simp)]
        have : gi K.dens k = gi K.dens (k - 1) := by
          simp only [keepI, decide_eq_false_iff_not, not_or, ne_eq, Decidable.not_not] at h
          exact h.2
        simp [this]
/-- The value, of cuts and densities. -/
def Vl (cs ds : List Int) (x : Rat) : Rat := sumQ (fun i => (gi ds i : Rat) * (min x (gi cs (i + 1) : Rat) - min x (gi cs i : Rat))) ds.length
theorem Vl_snoc {cs ds : List Int} (h : cs.length = ds.length + 1) (y d : Int) (x : Rat) : Vl (cs ++ [y]) (ds ++ [d]) x = Vl cs ds x + (d : Rat) * (min x (y : Rat) - min x (gi cs ds.length : Rat)) := by
  unfold Vl
  rw [List.length_append, List.length_singleton, sumQ]
  rw [gi_app_at, gi_app_at' (by omega), gi_app_lt (by omega)]
  congr 1
  refine sumQ_congr fun i hi => ?_
  rw [gi_app_lt hi, gi_app_lt (by omega), gi_app_lt (by omega)]
theorem V_eq_Vl (K : Ck) : K.V = Vl K.cuts K.dens := rfl
theorem Ck.Ok.norm_part {K : Ck} (h : K.Ok) (x : Rat) : ∀ k, k ≤ K.dens.length → Vl (nCuts K k ++ [gi K.cuts k]) (nDens K k) x = sumQ (fun i => (gi K.dens i : Rat) * (min x (gi K.cuts (i + 1) : Rat) - min x (gi K.cuts i : Rat))) k
  | 0, _ => rfl
  | k + 1, hk => by
    have ih := h.norm_part x k (by omega)
    rw [sumQ, ← ih]
    have L := nLen K k
    cases e : keepI K.dens k with
    | true =>
      rw [nCuts_yes e, nDens_yes e, Vl_snoc (by simp; omega), gi_app_at' (by omega)]
    | false =>
      have k0 : 0 < k := by
        rcases Nat.eq_zero_or_pos k with z | z
        · subst z; simp [keepI] at e
        · exact z
      have ed : gi K.dens k = gi K.dens (k - 1) := by
        simp only [keepI, decide_eq_false_iff_not, not_or, ne_eq, Decidable.not_not] at e
        exact e.2
      rw [nCuts_no e, nDens_no e]
      have R := rDens_last K k k0
      obtain ⟨cs, c, hc⟩ : ∃ cs c, nCuts K k = cs ++ [c] := by
        have : nCuts K k ≠ [] := fun z => by have := nLen_pos K k k0; rw [z] at L; simp at L; omega
        exact ⟨_, _, (List.dropLast_concat_getLast this).symm⟩
      rw [R, hc] at L ⊢
      have L' : cs.length = (rDens K k).length := by simp at L; omega
      rw [Vl_snoc (by simp; omega), Vl_snoc (by simp; omega), gi_app_at' (by omega), ed]
      grind
theorem Ck.Ok.norm_V {K : Ck} (h : K.Ok) (x : Rat) : K.norm.V x = K.V x := by
  rw [V_eq_Vl]
  show Vl (nCuts K K.dens.length ++ [K.len]) (nDens K K.dens.length) x = _
  rw [← h.cn, h.norm_part x _ (Nat.le_refl _)]; rfl
/-- The kept cuts rise, and are below what comes. -/
theorem Ck.Ok.norm_rise {K : Ck} (h : K.Ok) : ∀ k, k ≤ K.dens.length → (∀ i, i + 1 < (nCuts K k).length → gi (nCuts K k) i < gi (nCuts K k) (i + 1)) ∧ (∀ i, i < (nCuts K k).length → gi (nCuts K k) i < gi K.cuts k) ∧ (0 < k → gi (nCuts K k) 0 = 0)
  | 0, _ => ⟨fun i hi => by simp [nCuts] at hi, fun i hi => by simp [nCuts] at hi, fun x => by omega⟩
  | k + 1, hk => by
    obtain ⟨i1, i2, i3⟩ := h.norm_rise k (by omega)
    have r := h.rise k (by omega)
    cases e : keepI K.dens k with
    | true =>
      rw [nCuts_yes e]
      refine ⟨fun i hi => ?_, fun i hi => ?_, fun _ => ?_⟩
      · simp at hi
        rw [gi_app_lt (by omega)]
        by_cases c : i + 1 = (nCuts K k).length
        · rw [gi_app_at' c]; exact i2 i (by omega)
        · rw [gi_app_lt (by omega)]; exact i1 i (by omega)
      · simp at hi
        by_cases c : i = (nCuts K k).length
        · rw [gi_app_at' c]; exact r
        · rw [gi_app_lt (by omega)]; have := i2 i (by omega); omega
      · rcases Nat.eq_zero_or_pos k with z | z
        · subst z; simp [nCuts, gi]; exact h.c0
        · have := nLen_pos K k z
          rw [gi_app_lt (by rw [nLen]; exact this)]; exact i3 z
    | false =>
      rw [nCuts_no e]
      refine ⟨i1, fun i hi => by have := i2 i hi; omega, fun _ => ?_⟩
      rcases Nat.eq_zero_or_pos k with z | z
      · subst z; simp [keepI] at e
      · exact i3 z
theorem nDens_fit {K : Ck} (h : K.Ok) : ∀ k, k ≤ K.dens.length → ∀ x, x ∈ nDens K k → 0 ≤ x ∧ x ≤ 12
  | 0, _, x, hx => by simp [nDens] at hx
  | k + 1, hk, x, hx => by
    cases e : keepI K.dens k with
    | true =>
      rw [nDens_yes e, List.mem_append, List.mem_singleton] at hx
      rcases hx with hx | rfl
      · exact nDens_fit h k (by omega) x hx
      · exact h.fit k (by omega)
    | false => rw [nDens_no e] at hx; exact nDens_fit h k (by omega) x hx
theorem nDens_some {K : Ck} : ∀ k i, i < k → gi K.dens i ∈ nDens K k
  | 0, i, hi => by omega
  | k + 1, i, hi => by
    cases e : keepI K.dens k with
    | true =>
      rw [nDens_yes e, List.mem_append, List.mem_singleton]
      by_cases c : i = k
      · subst c; exact Or.inr rfl
      · exact Or.inl (nDens_some k i (by omega))
    | false =>
      rw [nDens_no e]
      by_cases c : i = k
      · subst c
        simp only [keepI, decide_eq_false_iff_not, not_or, ne_eq, Decidable.not_not] at e
        rw [e.2]; exact nDens_some i (i - 1) (by omega)
      · exact nDens_some k i (by omega)
/-- Neighbours differ. -/
theorem nDens_apart {K : Ck} : ∀ k i, i + 1 < (nDens K k).length → gi (nDens K k) i ≠ gi (nDens K k) (i + 1)
  | 0, i, hi => by simp [nDens] at hi
  | k + 1, i, hi => by
    cases e : keepI K.dens k with
    | true =>
      rw [nDens_yes e] at hi ⊢
      simp at hi
      rw [gi_app_lt (by omega)]
      by_cases c : i + 1 = (nDens K k).length
      · rw [gi_app_at' c]
        have k0 : 0 < k := by
          rcases Nat.eq_zero_or_pos k with z | z
          · subst z; simp [nDens] at c
          · exact z
        have R := rDens_last K k k0
        have L := congrArg List.length R
        simp at L
        rw [R, gi_app_at' (by omega)]
        simp only [keepI, decide_eq_true_eq] at e
        rcases e with e | e
        · omega
        · exact fun z => e z.symm
      · rw [gi_app_lt (by omega)]; exact nDens_apart k i (by omega)
    | false => rw [nDens_no e] at hi ⊢; exact nDens_apart k i hi
theorem Ck.Ok.norm_ok {K : Ck} (h : K.Ok) : K.norm.Ok := by
  have n1 := h.n1
  have L := nLen K K.dens.length
  have le := nLen_le K K.dens.length
  have lp := nLen_pos K K.dens.length (by omega)
  obtain ⟨r1, r2, r3⟩ := h.norm_rise _ (Nat.le_refl _)
  rw [h.cn] at r2
  refine ⟨h.l1, h.l2, lp, ?_, ?_, ?_, ?_, fun i hi => ?_, fun i hi => ?_, ?_⟩
  · show (nDens K K.dens.length).length ≤ 39; have := h.n2; omega
  · show (nCuts K K.dens.length ++ [K.len]).length = (nDens K K.dens.length).length + 1; simp; omega
  · show gi (nCuts K K.dens.length ++ [K.len]) 0 = 0
    rw [gi_app_lt (by omega)]; exact r3 (by omega)
  · show gi (nCuts K K.dens.length ++ [K.len]) (nDens K K.dens.length).length = K.len
    exact gi_app_at' (by omega)
  · have hi : i < (nDens K K.dens.length).length := hi
    show gi (nCuts K K.dens.length ++ [K.len]) i < gi (nCuts K K.dens.length ++ [K.len]) (i + 1)
    rw [gi_app_lt (by omega)]
    by_cases c : i + 1 = (nCuts K K.dens.length).length
    · rw [gi_app_at' c]; exact r2 i (by omega)
    · rw [gi_app_lt (by omega)]; exact r1 i (by omega)
  · exact nDens_fit h _ (Nat.le_refl _) _ (gi_mem hi)
  · obtain ⟨i, hi, hp⟩ := h.some
    obtain ⟨j, hj, e⟩ := mem_gi (nDens_some (K := K) K.dens.length i hi)
    exact ⟨j, hj, by show 0 < gi (nDens K K.dens.length) j; omega⟩
theorem take_gi_snoc {l : List Int} {k : Nat} (h : k < l.length) : l.take k ++ [gi l k] = l.take (k + 1) := by rw [List.take_succ_eq_append_getElem h, gi_get h]
/-- A cake whose neighbours differ is its own normal form. -/
theorem norm_self {K : Ck} (h : K.Ok) (ha : ∀ i, i + 1 < K.dens.length → gi K.dens i ≠ gi K.dens (i + 1)) : K.norm = K := by
  have nc := h.nc
  have key : ∀ k, k ≤ K.dens.length → nCuts K k = K.cuts.take k ∧ nDens K k = K.dens.take k := by
    intro k
    induction k with
    | zero => intro _; exact ⟨by simp [nCuts], by simp [nDens]⟩
    | succ k ih =>
      intro hk
      obtain ⟨e1, e2⟩ := ih (by omega)
      have e : keepI K.dens k = true := by
        simp only [keepI, decide_eq_true_eq]
        rcases Nat.eq_zero_or_pos k with z | z
        · exact Or.inl z
        · refine Or.inr (fun q => ha (k - 1) (by omega) ?_)
          rw [Nat.sub_add_cancel (by omega)]; exact q.symm
      exact ⟨by rw [nCuts_yes e, e1, take_gi_snoc (by omega)], by rw [nDens_yes e, e2, take_gi_snoc (by omega)]⟩
  obtain ⟨e1, e2⟩ := key _ (Nat.le_refl _)
  refine Ck.ext_ rfl ?_ ?_
  · show nCuts K K.dens.length ++ [K.len] = K.cuts
    rw [e1, ← h.cn, take_gi_snoc (by omega), ← nc, List.take_length]
  · show nDens K K.dens.length = K.dens
    rw [e2, List.take_length]
theorem Ck.Ok.norm_norm {K : Ck} (h : K.Ok) : K.norm.norm = K.norm := norm_self h.norm_ok (fun i hi => nDens_apart _ i hi)
theorem Ck.Ok.norm_ne {K : Ck} (h : K.Ok) {i : Nat} (h0 : 0 < i) (hi : i < K.norm.dens.length) : gi K.norm.dens i ≠ gi K.norm.dens (i - 1) := by
  have := nDens_apart (K := K) K.dens.length (i - 1) (by rw [Nat.sub_add_cancel h0]; exact hi)
  rw [Nat.sub_add_cancel h0] at this
  exact fun e => this e.symm
end Go.Proofs.Ytgcbmnohhbcfiaa
