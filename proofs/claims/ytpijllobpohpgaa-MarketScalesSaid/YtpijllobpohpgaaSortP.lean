/- Insertion sort on lists, as the library does it: plain. -/
namespace Go.Proofs.Ytpijllobpohpgaa
set_option linter.unusedVariables false
set_option linter.unusedSimpArgs false

/-- x put into a sorted list that lies from its greatest end: it passes all that it is less than. -/
def insR (lt : Nat → Nat → Bool) (x : Nat) : List Nat → List Nat
  | [] => [x]
  | y :: r => if lt x y = true then y :: insR lt x r else x :: y :: r
/-- A list sorted, from its greatest end. -/
def sR (lt : Nat → Nat → Bool) (l : List Nat) : List Nat := l.foldl (fun acc x => insR lt x acc) []
def isort (lt : Nat → Nat → Bool) (l : List Nat) : List Nat := (sR lt l).reverse

section
variable {lt : Nat → Nat → Bool}
theorem sR_snoc (l : List Nat) (x : Nat) : sR lt (l ++ [x]) = insR lt x (sR lt l) := by simp [sR, List.foldl_append]
theorem insR_length (x : Nat) : ∀ l, (insR lt x l).length = l.length + 1
  | [] => rfl
  | y :: r => by rw [insR]; split <;> simp [insR_length x r]
theorem insR_perm (x : Nat) : ∀ l, (insR lt x l).Perm (x :: l)
  | [] => List.Perm.refl _
  | y :: r => by
    rw [insR]; split
    · exact ((insR_perm x r).cons y).trans (List.Perm.swap x y r)
    · exact List.Perm.refl _
theorem foldl_perm : ∀ (l acc : List Nat), (l.foldl (fun acc x => insR lt x acc) acc).Perm (l ++ acc)
  | [], acc => List.Perm.refl _
  | x :: l, acc => by
    rw [List.foldl_cons]
    refine (foldl_perm l _).trans ?_
    refine ((insR_perm x acc).append_left l).trans ?_
    rw [List.cons_append]
    exact List.perm_middle
theorem sR_perm (l : List Nat) : (sR lt l).Perm l := by simpa [sR] using foldl_perm (lt := lt) l []
theorem sR_length (l : List Nat) : (sR lt l).length = l.length := (sR_perm l).length_eq
theorem isort_perm (l : List Nat) : (isort lt l).Perm l := (List.reverse_perm _).trans (sR_perm l)
theorem isort_length (l : List Nat) : (isort lt l).length = l.length := (isort_perm l).length_eq
/-- Where the passing ends. -/
theorem insR_stop {x : Nat} : ∀ (a q : List Nat), (∀ y ∈ a, lt x y = true) → (∀ y r, q = y :: r → lt x y = false) → insR lt x (a ++ q) = a ++ x :: q
  | [], [], _, _ => rfl
  | [], y :: r, _, h => by rw [List.nil_append, insR, if_neg (by rw [h y r rfl]; simp)]; rfl
  | b :: a, q, ha, h => by
    rw [List.cons_append, insR, if_pos (ha b (by simp)), insR_stop a q (fun y hy => ha y (by simp [hy])) h]; rfl

/-- What lies in memory while x moves down. -/
def mid (q : List Nat) (x : Nat) (a rest : List Nat) : List Nat := q.reverse ++ x :: (a.reverse ++ rest)
theorem mid_length (q a rest : List Nat) (x : Nat) : (mid q x a rest).length = q.length + 1 + a.length + rest.length := by simp [mid]; omega
theorem mid_at (q a rest : List Nat) (x : Nat) : (mid q x a rest)[q.length]? = some x := by
  rw [mid, List.getElem?_append_right (by simp)]; simp
theorem mid_before (q a rest : List Nat) (x y : Nat) : (mid (y :: q) x a rest)[q.length]? = some y := by
  rw [mid, List.reverse_cons, List.append_assoc, List.getElem?_append_right (by simp)]; simp
theorem mid_swap (q a rest : List Nat) (x y : Nat) : ((mid (y :: q) x a rest).set (q.length + 1) y).set q.length x = mid q x (a ++ [y]) rest := by
  have e : mid (y :: q) x a rest = q.reverse ++ y :: x :: (a.reverse ++ rest) := by simp [mid]
  rw [e, List.set_append_right _ _ (by simp), List.set_append_right _ _ (by simp)]
  simp [mid]
theorem mid_swap' (q a rest : List Nat) (x y : Nat) : ((mid (y :: q) x a rest).set q.length x).set (q.length + 1) y = mid q x (a ++ [y]) rest := by
  have e : mid (y :: q) x a rest = q.reverse ++ y :: x :: (a.reverse ++ rest) := by simp [mid]
  rw [e, List.set_append_right _ _ (by simp), List.set_append_right _ _ (by simp)]
  simp [mid]
theorem take_snoc_ {l : List Nat} {k : Nat} (h : k < l.length) : l.take (k + 1) = l.take k ++ [l[k]] := by
  rw [List.take_succ_eq_append_getElem h]
theorem drop_cons_ {l : List Nat} {k : Nat} (h : k < l.length) : l.drop k = l[k] :: l.drop (k + 1) := List.drop_eq_getElem_cons h

/-- What lies in memory at the head of a round. -/
def head (lt : Nat → Nat → Bool) (l : List Nat) (i : Nat) : List Nat := (sR lt (l.take i)).reverse ++ l.drop i
theorem head_mid {l : List Nat} {i : Nat} (h : i < l.length) : head lt l i = mid (sR lt (l.take i)) l[i] [] (l.drop (i + 1)) := by
  rw [head, mid, drop_cons_ h]; rfl
theorem mid_head {l : List Nat} {i : Nat} {a q : List Nat} (h : i < l.length) (hs : sR lt (l.take i) = a ++ q) (ha : ∀ y ∈ a, lt l[i] y = true) (hq : ∀ y r, q = y :: r → lt l[i] y = false) :
    mid q l[i] a (l.drop (i + 1)) = head lt l (i + 1) := by
  rw [head, take_snoc_ h, sR_snoc, hs, insR_stop a q ha hq, mid]; simp
theorem head_one {l : List Nat} (h : 0 < l.length) : head lt l 1 = l := by
  rw [head, take_snoc_ h]
  simp only [List.take_zero, List.nil_append, sR, List.foldl_cons, List.foldl_nil, insR, List.reverse_cons, List.reverse_nil]
  have e := drop_cons_ h
  rw [List.drop_zero] at e
  exact e.symm
theorem head_all (l : List Nat) : head lt l l.length = isort lt l := by simp [head, isort]
end

/-! ### What is sorted -/
section
variable {lt : Nat → Nat → Bool} {S : Nat → Prop}
/-- Among those of S, lt is a strict order, of which 'not less' is transitive (a weak order). -/
structure WeakOn (S : Nat → Prop) (lt : Nat → Nat → Bool) : Prop where
  asymm : ∀ a b, S a → S b → lt a b = true → lt b a = false
  trans : ∀ a b c, S a → S b → S c → lt b a = false → lt c b = false → lt c a = false

/-- Stable order: nobody stands behind a greater one; of those alike, the one that stood first. -/
def Prec (lt : Nat → Nat → Bool) (a b : Nat) : Prop := lt a b = true ∨ (lt b a = false ∧ a < b)

theorem insR_sorted (hw : WeakOn S lt) {x : Nat} (hx : S x) : ∀ l, (∀ y ∈ l, y < x ∧ S y) → List.Pairwise (fun a b => Prec lt b a) l → List.Pairwise (fun a b => Prec lt b a) (insR lt x l)
  | [], _, _ => by simp [insR]
  | y :: r, hl, h => by
    rw [List.pairwise_cons] at h
    rw [insR]
    by_cases e : lt x y = true
    · rw [if_pos e, List.pairwise_cons]
      refine ⟨fun z hz => ?_, insR_sorted hw hx r (fun z hz => hl z (by simp [hz])) h.2⟩
      have hz' := (insR_perm x r).mem_iff.1 hz
      simp only [List.mem_cons] at hz'
      rcases hz' with rfl | hz'
      · exact Or.inl e
      · exact h.1 z hz'
    · rw [if_neg e, List.pairwise_cons]
      have e' : lt x y = false := by simpa using e
      have hy := (hl y (by simp)).2
      refine ⟨fun z hz => ?_, List.pairwise_cons.2 h⟩
      simp only [List.mem_cons] at hz
      rcases hz with rfl | hz
      · exact Or.inr ⟨e', (hl z (by simp)).1⟩
      · have hzx := hl z (by simp [hz])
        refine Or.inr ⟨?_, hzx.1⟩
        rcases h.1 z hz with h1 | ⟨h1, _⟩
        · exact hw.trans z y x hzx.2 hy hx (hw.asymm z y hzx.2 hy h1) e'
        · exact hw.trans z y x hzx.2 hy hx h1 e'

theorem sR_sorted (hw : WeakOn S lt) (l : List Nat) (hS : ∀ x ∈ l, S x) (hs : List.Pairwise (· < ·) l) : List.Pairwise (fun a b => Prec lt b a) (sR lt l) := by
  suffices h : ∀ (k : Nat), k ≤ l.length → List.Pairwise (fun a b => Prec lt b a) (sR lt (l.take k)) by
    have := h l.length (Nat.le_refl _)
    rwa [List.take_length] at this
  intro k
  induction k with
  | zero => intro _; simp [sR]
  | succ k ih =>
    intro hk
    rw [take_snoc_ (show k < l.length by omega), sR_snoc]
    refine insR_sorted hw (hS _ (List.getElem_mem _)) _ (fun y hy => ?_) (ih (by omega))
    have hy' := (sR_perm (lt := lt) (l.take k)).mem_iff.1 hy
    refine ⟨?_, hS _ (List.mem_of_mem_take hy')⟩
    obtain ⟨i, hi, e⟩ := List.getElem_of_mem hy'
    have hi' : i < k := by simp at hi; omega
    rw [List.getElem_take] at e
    rw [← e]
    exact List.pairwise_iff_getElem.1 hs i k (by omega) (by omega) hi'
theorem isort_sorted (hw : WeakOn S lt) (l : List Nat) (hS : ∀ x ∈ l, S x) (hs : List.Pairwise (· < ·) l) : List.Pairwise (Prec lt) (isort lt l) := by
  rw [isort, List.pairwise_reverse]; exact sR_sorted hw l hS hs
end
end Go.Proofs.Ytpijllobpohpgaa
