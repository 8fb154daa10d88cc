/- Parts of cakes: no program in sight. -/
import Derived.Test.YtgcbmnohhbcfiaaCkQ
namespace Go.Proofs.Ytgcbmnohhbcfiaa
set_option linter.unusedVariables false
set_option linter.unusedSimpArgs false

section
variable {K : Ck} {f t : Int}
def pIn (K : Ck) (f t : Int) (k : Nat) : Bool := decide (gi K.cuts k < t) && decide (f < gi K.cuts (k + 1))
def pCuts (K : Ck) (f t : Int) : Nat → List Int
  | 0 => [0]
  | k + 1 => if pIn K f t k = true then pCuts K f t k ++ [min t (gi K.cuts (k + 1)) - f] else pCuts K f t k
def pDens (K : Ck) (f t : Int) : Nat → List Int
  | 0 => []
  | k + 1 => if pIn K f t k = true then pDens K f t k ++ [gi K.dens k] else pDens K f t k
def Ck.part (K : Ck) (f t : Int) : Ck := ⟨t - f, pCuts K f t K.dens.length, pDens K f t K.dens.length⟩
def Ck.pArg (K : Ck) (f t : Int) : Prop := f < 0 ∨ K.len < t ∨ t ≤ f
instance (K : Ck) (f t : Int) : Decidable (K.pArg f t) := by unfold Ck.pArg; infer_instance
def Ck.partC (K : Ck) (f t : Int) : Int := if K.code ≠ 0 then K.code else if K.pArg f t then 2 else if (K.part f t).code ≠ 0 then 6 else 0
def Ck.part? (K : Ck) (f t : Int) : Ck := if K.partC f t = 0 then K.part f t else Ck.zero
theorem pCuts_yes {k : Nat} (h : pIn K f t k = true) : pCuts K f t (k + 1) = pCuts K f t k ++ [min t (gi K.cuts (k + 1)) - f] := by rw [pCuts, if_pos h]
theorem pCuts_no {k : Nat} (h : pIn K f t k = false) : pCuts K f t (k + 1) = pCuts K f t k := by rw [pCuts, if_neg (by rw [h]; decide)]
theorem pDens_yes {k : Nat} (h : pIn K f t k = true) : pDens K f t (k + 1) = pDens K f t k ++ [gi K.dens k] := by rw [pDens, if_pos h]
theorem pDens_no {k : Nat} (h : pIn K f t k = false) : pDens K f t (k + 1) = pDens K f t k := by rw [pDens, if_neg (by rw [h]; decide)]
theorem pLen : ∀ k, (pCuts K f t k).length = (pDens K f t k).length + 1
  | 0 => rfl
  | k + 1 => by
    cases h : pIn K f t k with
    | true => rw [pCuts_yes h, pDens_yes h]; simp [pLen k]
    | false => rw [pCuts_no h, pDens_no h]; exact pLen k
theorem pLen_le : ∀ k, (pDens K f t k).length ≤ k
  | 0 => Nat.le_refl _
  | k + 1 => by
    have := pLen_le k
    cases h : pIn K f t k with
    | true => rw [pDens_yes h]; simp; omega
    | false => rw [pDens_no h]; omega
/-- The total of cuts and densities. -/
def Tl (cs ds : List Int) : Int := sumTo (fun i => gi ds i * (gi cs (i + 1) - gi cs i)) ds.length
theorem Tl_snoc {cs ds : List Int} (h : cs.length = ds.length + 1) (y d : Int) : Tl (cs ++ [y]) (ds ++ [d]) = Tl cs ds + d * (y - gi cs ds.length) := by
  unfold Tl
  rw [List.length_append, List.length_singleton, sumTo]
  rw [gi_app_at, gi_app_at' (by omega), gi_app_lt (by omega)]
  congr 1
  refine sumTo_congr fun i hi => ?_
  rw [gi_app_lt hi, gi_app_lt (by omega), gi_app_lt (by omega)]
theorem pLast (h : K.Ok) (hf : f < t) (hf0 : 0 ≤ f) : ∀ k, k ≤ K.dens.length → gi (pCuts K f t k) (pDens K f t k).length = max 0 (min t (gi K.cuts k) - f)
  | 0, _ => by rw [h.c0]; show (0 : Int) = _; omega
  | k + 1, hk => by
    have ih := pLast h hf hf0 k (by omega)
    have r := h.rise k (by omega)
    cases e : pIn K f t k with
    | true =>
      rw [pCuts_yes e, pDens_yes e, gi_app_at' (by rw [pLen]; simp)]
      simp only [pIn, Bool.and_eq_true, decide_eq_true_eq] at e
      omega
    | false =>
      rw [pCuts_no e, pDens_no e, ih]
      simp only [pIn, Bool.and_eq_false_iff, decide_eq_false_iff_not] at e
      omega
theorem part_total (h : K.Ok) (hf : f < t) (hf0 : 0 ≤ f) : ∀ k, k ≤ K.dens.length → ((Tl (pCuts K f t k) (pDens K f t k) : Int) : Rat) = sumQ (fun i => (gi K.dens i : Rat) * (min (t : Rat) (gi K.cuts (i + 1) : Rat) - min (t : Rat) (gi K.cuts i : Rat))) k - sumQ (fun i => (gi K.dens i : Rat) * (min (f : Rat) (gi K.cuts (i + 1) : Rat) - min (f : Rat) (gi K.cuts i : Rat))) k
  | 0, _ => by show ((0 : Int) : Rat) = 0 - 0; rw [show ((0 : Int) : Rat) = 0 from rfl]; grind
  | k + 1, hk => by
    have ih := part_total h hf hf0 k (by omega)
    have l := pLast h hf hf0 k (by omega)
    have r := h.riseQ (i := k) (by omega)
    have hfq : (f : Rat) < (t : Rat) := Rat.intCast_lt_intCast.2 hf
    rw [sumQ, sumQ]
    cases e : pIn K f t k with
    | true =>
      simp only [pIn, Bool.and_eq_true, decide_eq_true_eq] at e
      have e' : pIn K f t k = true := by simp [pIn, e.1, e.2]
      rw [pCuts_yes e', pDens_yes e', Tl_snoc (pLen k), l, Rat.intCast_add, Rat.intCast_mul, ih]
      have e1 : (gi K.cuts k : Rat) < (t : Rat) := Rat.intCast_lt_intCast.2 e.1
      have e2 : (f : Rat) < (gi K.cuts (k + 1) : Rat) := Rat.intCast_lt_intCast.2 e.2
      have key : ((min t (gi K.cuts (k + 1)) - f - max 0 (min t (gi K.cuts k) - f) : Int) : Rat) = (min (t : Rat) (gi K.cuts (k + 1) : Rat) - min (t : Rat) (gi K.cuts k : Rat)) - (min (f : Rat) (gi K.cuts (k + 1) : Rat) - min (f : Rat) (gi K.cuts k : Rat)) := by
        have a1 : min t (gi K.cuts k) = gi K.cuts k := by omega
        have a2 : min (t : Rat) (gi K.cuts k : Rat) = (gi K.cuts k : Rat) := by grind
        have a3 : min (f : Rat) (gi K.cuts (k + 1) : Rat) = (f : Rat) := by grind
        rw [a1, a2, a3]
        rcases Int.lt_or_le t (gi K.cuts (k + 1)) with c | c
        · have b1 : min t (gi K.cuts (k + 1)) = t := by omega
          have b2 : min (t : Rat) (gi K.cuts (k + 1) : Rat) = (t : Rat) := by have := Rat.intCast_lt_intCast.2 c; grind
          rw [b1, b2]
          rcases Int.lt_or_le f (gi K.cuts k) with c2 | c2
          · rw [show max 0 (gi K.cuts k - f) = gi K.cuts k - f by omega, show min (f : Rat) (gi K.cuts k : Rat) = (f : Rat) by have := Rat.intCast_lt_intCast.2 c2; grind]
            simp only [Rat.intCast_sub]; grind
          · rw [show max 0 (gi K.cuts k - f) = 0 by omega, show min (f : Rat) (gi K.cuts k : Rat) = (gi K.cuts k : Rat) by have := Rat.intCast_le_intCast.2 c2; grind]
            simp only [Rat.intCast_sub]; rw [show ((0 : Int) : Rat) = 0 from rfl]; grind
        · have b1 : min t (gi K.cuts (k + 1)) = gi K.cuts (k + 1) := by omega
          have b2 : min (t : Rat) (gi K.cuts (k + 1) : Rat) = (gi K.cuts (k + 1) : Rat) := by have := Rat.intCast_le_intCast.2 c; grind
          rw [b1, b2]
          rcases Int.lt_or_le f (gi K.cuts k) with c2 | c2
          · rw [show max 0 (gi K.cuts k - f) = gi K.cuts k - f by omega, show min (f : Rat) (gi K.cuts k : Rat) = (f : Rat) by have := Rat.intCast_lt_intCast.2 c2; grind]
            simp only [Rat.intCast_sub]; grind
          · rw [show max 0 (gi K.cuts k - f) = 0 by omega, show min (f : Rat) (gi K.cuts k : Rat) = (gi K.cuts k : Rat) by have := Rat.intCast_le_intCast.2 c2; grind]
            simp only [Rat.intCast_sub]; rw [show ((0 : Int) : Rat) = 0 from rfl]; grind
      rw [key]; grind
    | false =>
      rw [pCuts_no e, pDens_no e, ih]
      simp only [pIn, Bool.and_eq_false_iff, decide_eq_false_iff_not, Int.not_lt] at e
      have key : (min (t : Rat) (gi K.cuts (k + 1) : Rat) - min (t : Rat) (gi K.cuts k : Rat)) = (min (f : Rat) (gi K.cuts (k + 1) : Rat) - min (f : Rat) (gi K.cuts k : Rat)) := by
        rcases e with e | e
        · have := Rat.intCast_le_intCast.2 e; grind
        · have := Rat.intCast_le_intCast.2 e; grind
      rw [key]; grind
/-- The total of a part is the value there. -/
theorem Ck.Ok.part_V (h : K.Ok) (hf : f < t) (hf0 : 0 ≤ f) : ((K.part f t).total : Rat) = K.V (t : Rat) - K.V (f : Rat) := part_total h hf hf0 _ (Nat.le_refl _)

/-- The program's way: where the part begins and where it ends. -/
structure PAt (K : Ck) (f t : Int) (i j : Nat) : Prop where
  ij : i ≤ j
  jn : j < K.dens.length
  f0 : gi K.cuts i ≤ f
  f1 : f < gi K.cuts (i + 1)
  t0 : gi K.cuts j < t
  t1 : t ≤ gi K.cuts (j + 1)
def qCuts (K : Ck) (f : Int) (i : Nat) : Nat → List Int
  | 0 => []
  | m + 1 => qCuts K f i m ++ [max (gi K.cuts (i + m)) f - f]
theorem qLen (i : Nat) : ∀ m, (qCuts K f i m).length = m
  | 0 => rfl
  | m + 1 => by rw [qCuts]; simp [qLen i m]
theorem PAt.inB {i j : Nat} (h : K.Ok) (p : PAt K f t i j) {k : Nat} (hk : k < K.dens.length) : pIn K f t k = (decide (i ≤ k) && decide (k ≤ j)) := by
  have := p.ij; have := p.jn; have := p.f0; have := p.f1; have := p.t0; have := p.t1
  rw [Bool.eq_iff_iff]
  simp only [pIn, Bool.and_eq_true, decide_eq_true_eq]
  constructor
  · rintro ⟨a, b⟩
    constructor
    · rcases Nat.lt_or_ge k i with c | c
      · have := h.mono (i := k + 1) (j := i) (by omega) (by omega); omega
      · exact c
    · rcases Nat.lt_or_ge j k with c | c
      · have := h.mono (i := j + 1) (j := k) (by omega) (by omega); omega
      · exact c
  · rintro ⟨a, b⟩
    constructor
    · have := h.mono (i := k) (j := j) b (by omega); omega
    · have := h.mono (i := i + 1) (j := k + 1) (by omega) (by omega); omega
theorem PAt.dens {i j : Nat} (h : K.Ok) (p : PAt K f t i j) : ∀ k, k ≤ K.dens.length → pDens K f t k = (K.dens.take (min k (j + 1))).drop i
  | 0, _ => by simp [pDens]
  | k + 1, hk => by
    have ih := p.dens h k (by omega)
    have e := p.inB h (k := k) (by omega)
    have := p.ij; have := p.jn
    by_cases c : i ≤ k ∧ k ≤ j
    · rw [pDens_yes (by rw [e]; simp [c.1, c.2]), ih, show min (k + 1) (j + 1) = k + 1 by omega, show min k (j + 1) = k by omega, ← take_gi_snoc (show k < K.dens.length by omega), List.drop_append_of_le_length (by simp; omega)]
    · rw [pDens_no (by rw [e]; by_cases a : i ≤ k <;> simp [a] <;> omega), ih]
      rcases Nat.lt_or_ge k i with a | a
      · rw [List.drop_eq_nil_of_le (by simp; omega), List.drop_eq_nil_of_le (by simp; omega)]
      · rw [show min (k + 1) (j + 1) = min k (j + 1) by omega]
theorem PAt.cuts_lo {i j : Nat} (h : K.Ok) (p : PAt K f t i j) : ∀ k, k ≤ i → pCuts K f t k = [0]
  | 0, _ => rfl
  | k + 1, hk => by
    have := p.ij; have := p.jn
    rw [pCuts_no (by rw [p.inB h (by omega)]; simp; omega)]
    exact p.cuts_lo h k (by omega)
theorem PAt.cuts_mid {i j : Nat} (h : K.Ok) (p : PAt K f t i j) : ∀ m, 0 < m → i + m ≤ j + 1 → pCuts K f t (i + m) = qCuts K f i m ++ [min t (gi K.cuts (i + m)) - f]
  | 0, h0, _ => by omega
  | m + 1, _, hm => by
    have := p.ij; have := p.jn; have p0 := p.f0; have p1 := p.f1; have p2 := p.t0
    rw [show i + (m + 1) = i + m + 1 by omega, pCuts_yes (by rw [p.inB h (by omega)]; simp; omega)]
    congr 1
    rcases Nat.eq_zero_or_pos m with e | e
    · subst e
      rw [Nat.add_zero, p.cuts_lo h _ (Nat.le_refl _), qCuts, qCuts, Nat.add_zero]
      simp; omega
    · rw [p.cuts_mid h m e (by omega), qCuts]
      have a := h.mono (i := i + m) (j := j) (by omega) (by omega)
      have b := h.mono (i := i + 1) (j := i + m) (by omega) (by omega)
      rw [show min t (gi K.cuts (i + m)) - f = max (gi K.cuts (i + m)) f - f by omega]
theorem PAt.cuts_hi {i j : Nat} (h : K.Ok) (p : PAt K f t i j) : ∀ k, j + 1 ≤ k → k ≤ K.dens.length → pCuts K f t k = qCuts K f i (j + 1 - i) ++ [t - f]
  | 0, h0, _ => by omega
  | k + 1, h0, hk => by
    have := p.ij; have := p.jn; have := p.t1
    by_cases e : j + 1 = k + 1
    · have := p.cuts_mid h (k + 1 - i) (by omega) (by omega)
      rw [show i + (k + 1 - i) = k + 1 by omega] at this
      rw [this, show j + 1 - i = k + 1 - i by omega]
      have : j = k := by omega
      subst this
      congr 2; omega
    · rw [pCuts_no (by rw [p.inB h (by omega)]; simp; omega)]
      exact p.cuts_hi h k (by omega) (by omega)
theorem PAt.part {i j : Nat} (h : K.Ok) (p : PAt K f t i j) : K.part f t = ⟨t - f, qCuts K f i (j + 1 - i) ++ [t - f], (K.dens.take (j + 1)).drop i⟩ := by
  have := p.jn
  refine Ck.ext_ rfl (p.cuts_hi h _ (by omega) (Nat.le_refl _)) ?_
  show pDens K f t K.dens.length = _
  rw [p.dens h _ (Nat.le_refl _), show min K.dens.length (j + 1) = j + 1 by omega]
theorem pCuts_bd (h : K.Ok) (hf0 : 0 ≤ f) (hft : f < t) (hl : t ≤ K.len) : ∀ k, k ≤ K.dens.length → ∀ x, x ∈ pCuts K f t k → 0 ≤ x ∧ x ≤ 1000
  | 0, _, x, hx => by simp [pCuts] at hx; omega
  | k + 1, hk, x, hx => by
    have := h.cut_bd (i := k + 1) (by omega)
    have := h.l2
    cases e : pIn K f t k with
    | true =>
      rw [pCuts_yes e, List.mem_append, List.mem_singleton] at hx
      rcases hx with hx | rfl
      · exact pCuts_bd h hf0 hft hl k (by omega) x hx
      · simp only [pIn, Bool.and_eq_true, decide_eq_true_eq] at e; omega
    | false => rw [pCuts_no e] at hx; exact pCuts_bd h hf0 hft hl k (by omega) x hx
end
end Go.Proofs.Ytgcbmnohhbcfiaa
