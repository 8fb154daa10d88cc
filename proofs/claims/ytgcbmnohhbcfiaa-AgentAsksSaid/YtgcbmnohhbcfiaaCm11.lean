/- Regions that draw their order: what may come up, reckoned by masks (quick for the kernel), and two blocks made in either order. -/
import Derived.Test.YtgcbmnohhbcfiaaCm10
import Derived.Test.YtgcbmnohhbcfiaaCm5
import Derived.Deep.Slices
import Derived.Test.YtgcbmnohhbcfiaaCm9
import Derived.Test.YtgcbmnohhbcfiaaCm8
namespace Go.Proofs.Ytgcbmnohhbcfiaa
open Go.RowKit Go.Deep
set_option linter.unusedVariables false
set_option linter.unusedSimpArgs false

def afterM (o : Oper) : Nat := o.after.toList.foldl (fun m e => if Region.binds .any e then m ||| (1 <<< e.on) else m) 0
def slotM (l : List Nat) : Nat := l.foldl (fun m d => m ||| (1 <<< d)) 0
def writesM (o : Oper) : Nat := match o.dst with
  | some d => 1 <<< d
  | none => 0
def tabOf (ops : Array Oper) : List (Nat × Nat × Nat) := ops.toList.map fun o => (afterM o, slotM (o.looksAt ops), writesM o)
def arrOf (n L : Nat) : Array Bool := ((List.range n).map fun i => L.testBit i).toArray
theorem arrOf_size (n L : Nat) : (arrOf n L).size = n := by simp [arrOf]
theorem arrOf_getD (n L i : Nat) (d : Bool) : (arrOf n L).getD i d = if i < n then L.testBit i else d := by
  unfold arrOf
  by_cases h : i < n
  · rw [if_pos h]; simp [Array.getD, h]
  · rw [if_neg h]; simp [Array.getD, h]
theorem arrOf_zero (n : Nat) : arrOf n 0 = Array.replicate n false := by
  refine Array.ext (by simp [arrOf]) fun i h1 h2 => ?_
  simp [arrOf]
theorem bit_set (L i j : Nat) : (L ||| (1 <<< i)).testBit j = (decide (j = i) || L.testBit j) := by
  rw [Nat.testBit_or, Nat.testBit_shiftLeft]
  by_cases h : j = i
  · subst h; simp
  · rw [decide_eq_false h]
    by_cases k : i ≤ j
    · have : j - i ≠ 0 := by omega
      cases e : j - i with
      | zero => omega
      | succ q => simp [k, Nat.testBit_succ]
    · simp [k]
theorem arrOf_set (n L i : Nat) : (arrOf n L).setIfInBounds i true = arrOf n (L ||| (1 <<< i)) := by
  refine Array.ext (by simp [arrOf]) fun j h1 h2 => ?_
  have hj : j < n := by simpa [arrOf] using h2
  rw [Array.getElem_setIfInBounds (by simpa [arrOf] using hj)]
  have e : (arrOf n (L ||| (1 <<< i)))[j] = (L ||| (1 <<< i)).testBit j := by simp [arrOf]
  rw [e, bit_set]
  by_cases h : i = j
  · subst h; simp
  · rw [if_neg h, decide_eq_false (Ne.symm h)]; simp [arrOf]
/-- Bits of a mask that is built up. -/
theorem foldM_bit {α : Type} (c : α → Bool) (f : α → Nat) (j : Nat) : ∀ (l : List α) (m : Nat), (l.foldl (fun m e => if c e then m ||| (1 <<< f e) else m) m).testBit j = (m.testBit j || l.any fun e => c e && decide (j = f e))
  | [], m => by simp
  | e :: l, m => by
    rw [List.foldl_cons, foldM_bit c f j l, List.any_cons]
    by_cases h : c e = true
    · rw [if_pos h, bit_set, h]; simp [Bool.or_assoc, Bool.or_comm, Bool.or_left_comm]
    · rw [if_neg h]; simp [h]
theorem sub_mask {m L : Nat} (h : (m &&& L == m) = true) (j : Nat) (hj : m.testBit j = true) : L.testBit j = true := by
  have e : m &&& L = m := by simpa using h
  rw [← e, Nat.testBit_and] at hj
  simp only [Bool.and_eq_true] at hj
  exact hj.2
theorem mask_sub {m L : Nat} (h : ∀ j, m.testBit j = true → L.testBit j = true) : (m &&& L == m) = true := by
  have e : m &&& L = m := Nat.eq_of_testBit_eq fun j => by
    rw [Nat.testBit_and]
    cases k : m.testBit j with
    | false => rfl
    | true => rw [h j k]; rfl
  simpa using e
theorem and_zero {x y : Nat} (h : (x &&& y == 0) = true) {j : Nat} (hx : x.testBit j = true) : y.testBit j = false := by
  have e : x &&& y = 0 := by simpa using h
  have := congrArg (fun z => Nat.testBit z j) e
  simp only [Nat.testBit_and, hx, Bool.true_and, Nat.zero_testBit] at this
  exact this
theorem afterM_bit (o : Oper) (j : Nat) : (afterM o).testBit j = o.after.toList.any fun e => Region.binds .any e && decide (j = e.on) := by
  unfold afterM; rw [foldM_bit (fun e => Region.binds .any e) (fun e => e.on)]; simp
theorem slotM_bit (l : List Nat) (j : Nat) : (slotM l).testBit j = l.contains j := by
  have h := foldM_bit (fun _ => true) (fun d : Nat => d) j l 0
  simp only [if_true, Nat.zero_testBit, Bool.false_or, Bool.true_and] at h
  unfold slotM
  rw [h, List.contains_eq_any_beq]
  congr 1
theorem writesM_bit {o : Oper} {d : Nat} (h : o.dst = some d) : (writesM o).testBit d = true := by
  unfold writesM; rw [h]
  have h := bit_set 0 d d
  rw [Nat.zero_or] at h
  rw [h]; simp
def readyGo (L : Nat) : List (Nat × Nat × Nat) → Nat → List Nat
  | [], _ => []
  | (m, _) :: t, i => if !L.testBit i && (m &&& L == m) then i :: readyGo L t (i + 1) else readyGo L t (i + 1)
section
variable {P : Program} {ops : Array Oper} {Q : Exit → Act → World → Prop} {R : World → Prop}
theorem mask_ok {L n : Nat} (hL : L < 2 ^ n) (o : Oper) : (afterM o &&& L == afterM o) = o.after.all fun e => !Region.binds .any e || (arrOf n L).getD e.on false := by
  have key : ∀ j, (if j < n then L.testBit j else false) = L.testBit j := fun j => by
    by_cases h : j < n
    · rw [if_pos h]
    · rw [if_neg h]; exact (Nat.testBit_lt_two_pow (Nat.lt_of_lt_of_le hL (Nat.pow_le_pow_right (by omega) (by omega)))).symm
  have e1 : (o.after.all fun e => !Region.binds .any e || (arrOf n L).getD e.on false) = o.after.toList.all fun e => !Region.binds .any e || L.testBit e.on := by
    rw [← Array.all_toList]
    congr 1
    funext e
    rw [arrOf_getD, key]
  rw [e1, Bool.eq_iff_iff, List.all_eq_true]
  constructor
  · intro h e he
    by_cases hb : Region.binds .any e = true
    · rw [hb]
      have := sub_mask h e.on (by rw [afterM_bit, List.any_eq_true]; exact ⟨e, he, by simp [hb]⟩)
      simp [this]
    · simp at hb; simp [hb]
  · intro h
    refine mask_sub fun j hj => ?_
    rw [afterM_bit, List.any_eq_true] at hj
    obtain ⟨e, he, k⟩ := hj
    simp only [Bool.and_eq_true, decide_eq_true_eq] at k
    have := h e he
    rw [k.1] at this
    rw [k.2]; simpa using this
theorem readyGo_mem {L i : Nat} : ∀ (t : List (Nat × Nat × Nat)) (k : Nat), i ∈ readyGo L t k ↔ ∃ x, k ≤ i ∧ t[i - k]? = some x ∧ (!L.testBit i && (x.1 &&& L == x.1)) = true
  | [], k => by simp [readyGo]
  | (m, q) :: t, k => by
    unfold readyGo
    have ih := readyGo_mem (L := L) (i := i) t (k + 1)
    have step : (∃ x, k + 1 ≤ i ∧ t[i - (k + 1)]? = some x ∧ (!L.testBit i && (x.1 &&& L == x.1)) = true) ↔ (∃ x, k ≤ i ∧ i ≠ k ∧ ((m, q) :: t)[i - k]? = some x ∧ (!L.testBit i && (x.1 &&& L == x.1)) = true) := by
      constructor
      · rintro ⟨x, h1, h2, h3⟩
        refine ⟨x, by omega, by omega, ?_, h3⟩
        rw [show i - k = (i - (k + 1)) + 1 by omega]; simpa using h2
      · rintro ⟨x, h1, hne, h2, h3⟩
        refine ⟨x, by omega, ?_, h3⟩
        rw [show i - k = (i - (k + 1)) + 1 by omega] at h2; simpa using h2
    split
    · rename_i c
      rw [List.mem_cons, ih, step]
      constructor
      · rintro (rfl | ⟨x, h1, _, h2, h3⟩)
        · exact ⟨(m, q), Nat.le_refl _, by simp, c⟩
        · exact ⟨x, h1, h2, h3⟩
      · rintro ⟨x, h1, h2, h3⟩
        by_cases e : i = k
        · exact Or.inl e
        · exact Or.inr ⟨x, h1, e, h2, h3⟩
    · rename_i c
      rw [ih, step]
      constructor
      · rintro ⟨x, h1, _, h2, h3⟩; exact ⟨x, h1, h2, h3⟩
      · rintro ⟨x, h1, h2, h3⟩
        refine ⟨x, h1, fun e => ?_, h2, h3⟩
        subst e
        simp only [Nat.sub_self, List.getElem?_cons_zero, Option.some.injEq] at h2
        subst h2
        exact c h3
theorem readyGo_sorted {L : Nat} : ∀ (t : List (Nat × Nat × Nat)) (k : Nat), (readyGo L t k).Pairwise (· < ·)
  | [], k => by simp [readyGo]
  | (m, q) :: t, k => by
    unfold readyGo
    have ih := readyGo_sorted (L := L) t (k + 1)
    split
    · refine List.pairwise_cons.2 ⟨fun j hj => ?_, ih⟩
      obtain ⟨x, h1, _⟩ := (readyGo_mem t (k + 1)).1 hj
      omega
    · exact ih
theorem tab_at {i : Nat} {o : Oper} (h : ops[i]? = some o) : (tabOf ops)[i]? = some (afterM o, slotM (o.looksAt ops), writesM o) := by
  unfold tabOf
  rw [List.getElem?_map, Array.getElem?_toList, h]; rfl
theorem ready_mem {L : Nat} (hL : L < 2 ^ ops.size) {i : Nat} : i ∈ Region.ready .any ops (arrOf ops.size L) ↔ i ∈ readyGo L (tabOf ops) 0 := by
  rw [readyGo_mem]
  unfold Region.ready
  rw [List.mem_filter, List.mem_range]
  constructor
  · rintro ⟨h1, h2⟩
    have ho : ops[i]? = some ops[i] := Array.getElem?_eq_getElem h1
    rw [ho, arrOf_getD, if_pos h1] at h2
    simp only [Option.map_some, Option.getD_some] at h2
    refine ⟨_, Nat.zero_le _, by rw [Nat.sub_zero]; exact tab_at ho, ?_⟩
    rw [mask_ok hL]; exact h2
  · rintro ⟨x, _, h2, h3⟩
    rw [Nat.sub_zero] at h2
    have h1 : i < ops.size := by
      rcases Nat.lt_or_ge i ops.size with q | q
      · exact q
      · exfalso
        have : (tabOf ops)[i]? = none := List.getElem?_eq_none (by unfold tabOf; simpa using q)
        rw [this] at h2; cases h2
    have ho : ops[i]? = some ops[i] := Array.getElem?_eq_getElem h1
    rw [tab_at ho] at h2
    obtain rfl := Option.some.inj h2
    refine ⟨h1, ?_⟩
    rw [ho, arrOf_getD, if_pos h1]
    simp only [Option.map_some, Option.getD_some]
    rw [← mask_ok hL]; exact h3
theorem ready_T {L : Nat} (hL : L < 2 ^ ops.size) : Region.ready .any ops (arrOf ops.size L) = readyGo L (tabOf ops) 0 := by
  have s1 : (Region.ready .any ops (arrOf ops.size L)).Pairwise (· < ·) := by
    unfold Region.ready; exact List.Pairwise.filter _ List.pairwise_lt_range
  have s2 := readyGo_sorted (L := L) (tabOf ops) 0
  have key : ∀ (a b : List Nat), a.Pairwise (· < ·) → b.Pairwise (· < ·) → (∀ x, x ∈ a ↔ x ∈ b) → a = b := by
    intro a
    induction a with
    | nil =>
      intro b _ _ h
      cases b with
      | nil => rfl
      | cons y b => exact absurd ((h y).2 (by simp)) (by simp)
    | cons x a ih =>
      intro b ha hb h
      cases b with
      | nil => exact absurd ((h x).1 (by simp)) (by simp)
      | cons y b =>
        obtain ⟨xa, ha'⟩ := List.pairwise_cons.1 ha
        obtain ⟨yb, hb'⟩ := List.pairwise_cons.1 hb
        have e : x = y := by
          have p := (h x).1 (by simp)
          have q := (h y).2 (by simp)
          rw [List.mem_cons] at p q
          rcases p with p | p
          · exact p
          · rcases q with q | q
            · exact q.symm
            · have := xa _ q; have := yb _ p; omega
        subst e
        congr 1
        refine ih b ha' hb' fun z => ?_
        have hz := h z
        rw [List.mem_cons, List.mem_cons] at hz
        constructor
        · intro k
          have : z ≠ x := by have := xa _ k; omega
          exact (hz.1 (Or.inr k)).resolve_left this
        · intro k
          have : z ≠ x := by have := yb _ k; omega
          exact (hz.2 (Or.inr k)).resolve_left this
  exact key _ _ s1 s2 fun i => ready_mem hL
def freeT (r w i L : Nat) : List (Nat × Nat × Nat) → Nat → Bool
  | [], _ => true
  | (m', r', w') :: t, j => (j == i || L.testBit j || m'.testBit i || ((w &&& r' == 0) && (w &&& w' == 0) && (w' &&& r == 0))) && freeT r w i L t (j + 1)
theorem freeT_at {r w i L : Nat} : ∀ (t : List (Nat × Nat × Nat)) (k : Nat), freeT r w i L t k = true → ∀ (j : Nat) x, t[j]? = some x → (k + j == i || L.testBit (k + j) || x.1.testBit i || ((w &&& x.2.1 == 0) && (w &&& x.2.2 == 0) && (x.2.2 &&& r == 0))) = true
  | [], k, _, j, x, hx => by simp at hx
  | (m', r', w') :: t, k, h, j, x, hx => by
    unfold freeT at h
    simp only [Bool.and_eq_true] at h
    match j, hx with
    | 0, hx =>
      obtain rfl : (m', r', w') = x := by simpa using hx
      simpa using h.1
    | j + 1, hx =>
      have := freeT_at t (k + 1) h.2 j x (by simpa using hx)
      rw [show k + (j + 1) = k + 1 + j by omega]; exact this
def takeT (T : List (Nat × Nat × Nat)) : List Nat → Nat → Bool
  | [], _ => true
  | i :: l, L => (match T[i]? with
    | some (m, r, w) => !L.testBit i && (m &&& L == m) && freeT r w i L T 0
    | none => false) && takeT T l (L ||| (1 <<< i))
def maskAfter : List Nat → Nat → Nat
  | [], L => L
  | i :: l, L => maskAfter l (L ||| (1 <<< i))
theorem after_T (n : Nat) : ∀ (is : List Nat) (L : Nat), listedAfter is (arrOf n L) = arrOf n (maskAfter is L)
  | [], L => rfl
  | i :: is, L => by unfold listedAfter maskAfter; rw [arrOf_set, after_T n is]
theorem bit_lt {L n i : Nat} (hL : L < 2 ^ n) (hi : i < n) : (L ||| (1 <<< i)) < 2 ^ n :=
  Nat.or_lt_two_pow hL (by rw [Nat.one_shiftLeft]; exact Nat.pow_lt_pow_right (by omega) hi)
theorem take_T : ∀ (is : List Nat) (L : Nat), L < 2 ^ ops.size → takeT (tabOf ops) is L = true → takeB ops is (arrOf ops.size L) = true
  | [], L, _, _ => rfl
  | i :: is, L, hL, h => by
    unfold takeT at h
    unfold takeB
    simp only [Bool.and_eq_true] at h ⊢
    obtain ⟨h1, h2⟩ := h
    have hi : i < ops.size := by
      rcases Nat.lt_or_ge i ops.size with q | q
      · exact q
      · exfalso
        have : (tabOf ops)[i]? = none := List.getElem?_eq_none (by unfold tabOf; simpa using q)
        rw [this] at h1; simp at h1
    have ho : ops[i]? = some ops[i] := Array.getElem?_eq_getElem hi
    rw [tab_at ho] at h1
    simp only [Bool.and_eq_true] at h1
    obtain ⟨⟨n1, n2⟩, n3⟩ := h1
    refine ⟨⟨?_, ?_⟩, by rw [arrOf_set]; exact take_T is _ (bit_lt hL hi) h2⟩
    · unfold Region.free
      rw [ho]
      simp only [List.all_eq_true, List.mem_range]
      intro j hj
      have hoj : ops[j]? = some ops[j] := Array.getElem?_eq_getElem hj
      have f := freeT_at _ 0 n3 j _ (tab_at hoj)
      rw [hoj, arrOf_getD, if_pos hj]
      simp only [Nat.zero_add, Bool.or_eq_true, Bool.and_eq_true] at f ⊢
      rcases f with ((f | f) | f) | f
      · exact Or.inl (Or.inl f)
      · exact Or.inl (Or.inr f)
      · refine Or.inr (Or.inl ?_)
        rw [afterM_bit, List.any_eq_true] at f
        obtain ⟨e, he, k⟩ := f
        rw [Array.any_eq_true']
        simp only [Bool.and_eq_true, decide_eq_true_eq] at k
        exact ⟨e, by simpa using he, by simp [k.1, k.2]⟩
      · refine Or.inr (Or.inr ?_)
        obtain ⟨⟨f1, f2⟩, f3⟩ := f
        unfold Oper.apart
        rw [Bool.and_eq_true]
        constructor
        · cases hd : ops[i].dst with
          | none => rfl
          | some d =>
            have b := writesM_bit hd
            have c1 := and_zero f1 b
            have c2 := and_zero f2 b
            rw [slotM_bit] at c1
            simp only [c1, Bool.not_false, Bool.true_and]
            rw [bne_iff_ne]
            intro q
            rw [writesM_bit q] at c2; cases c2
        · cases hd : ops[j].dst with
          | none => rfl
          | some d =>
            have c1 := and_zero f3 (writesM_bit hd)
            rw [slotM_bit] at c1
            simp only [c1, Bool.not_false]
    · rw [ready_T hL, List.contains_iff_mem, readyGo_mem]
      exact ⟨_, Nat.zero_le _, by rw [Nat.sub_zero]; exact tab_at ho, by rw [Bool.and_eq_true]; exact ⟨n1, n2⟩⟩
/-- What yields the same from here on is taken. -/
theorem wpAnyT_go {n L : Nat} {a : Act} {w1 : World} (hRg : Grows R) (h1 : R w1) (is : List Nat) (m : Nat)
    (hB : (decide (ops.size = n) && decide (L < 2 ^ n) && Region.noSelect ops && takeT (tabOf ops) is L && dstsB a.tmps.size (pickOps ops is) [] && decide ((pickOps ops is).length = is.length)) = true)
    (hA : ∃ A, (∀ G, Grows G → Nonempty (GE R G) → wpQuiet P ops (fun w' => ∃ e : GE R G, w' = e.w) (fun a' => a' = A) (pickOps ops is) a) ∧
      wpAnyE P .any ops (NoPanic Q) R m (arrOf n (maskAfter is L)) A w1) : wpAnyE P .any ops (NoPanic Q) R (is.length + m) (arrOf n L) a w1 := by
  simp only [Bool.and_eq_true, decide_eq_true_eq] at hB
  obtain ⟨⟨⟨⟨⟨rfl, b0⟩, b1⟩, b2⟩, b3⟩, b4⟩ := hB
  refine wpAnyE_goR hRg h1 is m ?_ ?_
  · rw [b1, take_T is L b0 b2, b3, decide_eq_true b4]; rfl
  · obtain ⟨A, hq, h⟩ := hA
    exact ⟨A, hq, by rw [after_T]; exact h⟩
/-- All that may come up comes up. -/
theorem wpAnyT_all {rs : List Nat} {fuel n L : Nat} {a : Act} {w : World} (hB : (decide (ops.size = n) && decide (L < 2 ^ n) && decide (readyGo L (tabOf ops) 0 = rs)) = true) (hne : rs ≠ [])
    (h : ∀ W, Below w.heap.size w W → R W → ∀ i ∈ rs, wpOp P ops (NoPanic Q) i (fun a' w' => R w' ∧ wpAnyE P .any ops (NoPanic Q) R fuel (arrOf n (L ||| (1 <<< i))) a' w') a W) : wpAnyE P .any ops (NoPanic Q) R (fuel + 1) (arrOf n L) a w := by
  simp only [Bool.and_eq_true, decide_eq_true_eq] at hB
  obtain ⟨⟨rfl, b0⟩, b1⟩ := hB
  refine wpAnyE_all (by rw [ready_T b0]; exact b1) hne fun W hW hR i hi => ?_
  have := h W hW hR i hi
  rw [arrOf_set]; exact this
theorem wpAnyT_done {n L : Nat} {a : Act} {w : World} (hB : (decide (ops.size = n) && decide (L < 2 ^ n) && decide (readyGo L (tabOf ops) 0 = [])) = true) (h : ∀ W, Below w.heap.size w W → R W → NoPanic Q .normal a W) (fuel : Nat) : wpAnyE P .any ops (NoPanic Q) R fuel (arrOf n L) a w := by
  simp only [Bool.and_eq_true, decide_eq_true_eq] at hB
  obtain ⟨⟨rfl, b0⟩, b1⟩ := hB
  exact wpAnyE_done (by rw [ready_T b0]; exact b1) h fuel
end
/-- The beginning. -/
theorem wp_region_T {P : Program} {l : List Oper} {id : Nat} {Q : Exit → Act → World → Prop} {a : Act} {w : World} (R : World → Prop) (n : Nat) (hm : P.follows .mixedOrders = true) (hn : l.length = n) (hR : R w.drew)
    (h : ∀ w0, Below w.heap.size w w0 → wpAnyE P .any l.toArray (NoPanic Q) R n (arrOf n 0) a w0) : (Code.region id l.toArray true).wp P Q a w :=
  wp_region_R R n hm hn hR (fun w0 hw => by have := h w0 hw; rwa [arrOf_zero] at this)
section
variable {P : Program} {ops : Array Oper} {Q : Exit → Act → World → Prop} {R : World → Prop}
theorem Mx.swap2 {w W : World} {L : List (Nat × Obj)} {Rr : List Rw} {p q : Nat × Obj} (h : Mx w (p :: q :: L) Rr W) : Mx w (q :: p :: L) Rr W :=
  ⟨h.bx.perm (List.Perm.swap _ _ _), h.own, fun r hr g hg hm => h.apart r hr g hg (((List.Perm.swap p q L).symm.map _).mem_iff.2 hm), h.nd⟩
/-- Two blocks are made, in either order. -/
theorem wpAnyT_two {base : World} {L : List (Nat × Obj)} {Rr : List Rw} {n M fuel : Nat} {a : Act} {W0 : World} {i j : Nat} {oi oj : Obj}
    (h0 : Mx base L Rr W0) (hRm : ∀ W, Mx base L Rr W → R W)
    (hB : (decide (ops.size = n) && decide (M < 2 ^ n) && decide (i < n) && decide (j < n) && decide (readyGo M (tabOf ops) 0 = [i, j]) && decide (readyGo (M ||| (1 <<< i)) (tabOf ops) 0 = [j]) && decide (readyGo (M ||| (1 <<< j)) (tabOf ops) 0 = [i])) = true)
    (hA : ∃ ai aj : Nat → Act, ∃ aij : Nat → Nat → Act,
      (∀ (g : Nat) (W : World) (K : Act → World → Prop), W.heap.size = g → K (ai g) (W.alloc oi) → wpOp P ops (NoPanic Q) i K a W) ∧
      (∀ (gi g : Nat) (W : World) (K : Act → World → Prop), W.heap.size = g → K (aij gi g) (W.alloc oj) → wpOp P ops (NoPanic Q) j K (ai gi) W) ∧
      (∀ (g : Nat) (W : World) (K : Act → World → Prop), W.heap.size = g → K (aj g) (W.alloc oj) → wpOp P ops (NoPanic Q) j K a W) ∧
      (∀ (gj g : Nat) (W : World) (K : Act → World → Prop), W.heap.size = g → K (aij g gj) (W.alloc oi) → wpOp P ops (NoPanic Q) i K (aj gj) W) ∧
      ∀ gi gj W, Mx base ((gj, oj) :: (gi, oi) :: L) Rr W → wpAnyE P .any ops (NoPanic Q) R fuel (arrOf n ((M ||| (1 <<< i)) ||| (1 <<< j))) (aij gi gj) W) :
    wpAnyE P .any ops (NoPanic Q) R (fuel + 1 + 1) (arrOf n M) a W0 := by
  simp only [Bool.and_eq_true, decide_eq_true_eq] at hB
  obtain ⟨⟨⟨⟨⟨⟨rfl, b0⟩, bi⟩, bj⟩, r0⟩, r1⟩, r2⟩ := hB
  obtain ⟨ai, aj, aij, si, sij, sj, sji, h⟩ := hA
  have ei : (M ||| (1 <<< j)) ||| (1 <<< i) = (M ||| (1 <<< i)) ||| (1 <<< j) := by rw [Nat.or_assoc, Nat.or_assoc, Nat.or_comm (1 <<< j)]
  refine wpAnyE_all (rs := [i, j]) (by rw [ready_T b0]; exact r0) (by simp) fun W1 hW1 hR1 k hk => ?_
  have m1 := h0.next hW1
  rw [arrOf_set]
  rcases List.mem_cons.1 hk with rfl | hk
  · refine si _ W1 _ rfl ⟨hRm _ (m1.new rfl oi).drop, ?_⟩
    refine wpAnyE_all (rs := [j]) (by rw [ready_T (bit_lt b0 bi)]; exact r1) (by simp) fun W2 hW2 hR2 k2 hk2 => ?_
    obtain rfl := List.mem_singleton.1 hk2
    have m2 := (m1.new rfl oi).next hW2
    rw [arrOf_set]
    exact sij _ _ W2 _ rfl ⟨hRm _ ((m2.new rfl oj).drop).drop, h _ _ _ (m2.new rfl oj)⟩
  · obtain rfl := List.mem_singleton.1 hk
    refine sj _ W1 _ rfl ⟨hRm _ (m1.new rfl oj).drop, ?_⟩
    refine wpAnyE_all (rs := [i]) (by rw [ready_T (bit_lt b0 bj)]; exact r2) (by simp) fun W2 hW2 hR2 k2 hk2 => ?_
    obtain rfl := List.mem_singleton.1 hk2
    have m2 := (m1.new rfl oj).next hW2
    rw [arrOf_set, ei]
    exact sji _ _ W2 _ rfl ⟨hRm _ ((m2.new rfl oi).drop).drop, h _ _ _ (m2.new rfl oi).swap2⟩
end
end Go.Proofs.Ytgcbmnohhbcfiaa

namespace Go.Proofs.Ytgcbmnohhbcfiaa
open Go.RowKit Go.Deep
set_option linter.unusedVariables false
set_option linter.unusedSimpArgs false

/-- What hangs on no block of X, on none below B, and on nothing that comes. -/
def Sep (B : Nat) (w : World) (X : List Nat) (F : World → Prop) : Prop := ∀ W : World, w.heap.size ≤ W.heap.size → (∀ g, B ≤ g → g < w.heap.size → g ∉ X → W.heap[g]? = w.heap[g]?) → F W
theorem Sep.here {B : Nat} {w : World} {X : List Nat} {F : World → Prop} (h : Sep B w X F) : F w := h w (Nat.le_refl _) (fun _ _ _ _ => rfl)
theorem Sep.step {B : Nat} {w W : World} {X Y : List Nat} {F : World → Prop} (h : Sep B w X F) (hs : w.heap.size ≤ W.heap.size) (hk : ∀ g, B ≤ g → g < w.heap.size → g ∉ X → W.heap[g]? = w.heap[g]?) (hY : ∀ g, g ∈ Y → g ∈ X ∨ w.heap.size ≤ g) : Sep B W Y F :=
  fun V hV hV' => h V (Nat.le_trans hs hV) (fun g hB hg hX => (hV' g hB (by omega) (fun hm => (hY g hm).elim hX (fun q => by omega))).trans (hk g hB hg hX))
theorem Sep.next {B : Nat} {w W : World} {X : List Nat} {F : World → Prop} (h : Sep B w X F) (hb : Below w.heap.size w W) : Sep B W X F := h.step hb.size (fun g _ hg _ => hb.block g hg) (fun g hg => Or.inl hg)
theorem Sep.less {B : Nat} {w : World} {X Y : List Nat} {F : World → Prop} (h : Sep B w X F) (hY : ∀ g, g ∈ Y → g ∈ X) : Sep B w Y F := h.step (Nat.le_refl _) (fun _ _ _ _ => rfl) (fun g hg => Or.inl (hY g hg))
theorem Sep.imp {B : Nat} {w : World} {X : List Nat} {F G : World → Prop} (h : Sep B w X F) (hi : ∀ W, F W → G W) : Sep B w X G := fun V a b => hi V (h V a b)
theorem Sep.mono {B B' : Nat} {w : World} {X : List Nat} {F : World → Prop} (h : Sep B w X F) (hB : B' ≤ B) : Sep B' w X F := fun V a b => h V a (fun g hg => b g (Nat.le_trans hB hg))
/-- What reads below B alone. -/
theorem Sep.of_below {B : Nat} {w : World} {X : List Nat} {F : World → Prop} (h : ∀ W, w.heap.size ≤ W.heap.size → (∀ g, g < B → W.heap[g]? = w.heap[g]?) → F W) (hB : B ≤ w.heap.size) (hX : ∀ g, g ∈ X → B ≤ g) : Sep 0 w X F :=
  fun W a b => h W a (fun g hg => b g (Nat.zero_le _) (by omega) (fun hm => by have := hX g hm; omega))

/-- A kind of elements. -/
structure Kd (α : Type) where
  t : TypeId
  s : Nat
  El : World → α → List Value → Prop
  pos : 0 < s
  wide : ∀ {w : World} {a : α} {vs : List Value}, El w a vs → vs.length = s
  next : ∀ {w W : World} {a : α} {vs : List Value}, El w a vs → Below w.heap.size w W → El W a vs
section
variable {α : Type} {k : Kd α}
/-- A slice that reads as a list. -/
structure RIn (k : Kd α) (B : Nat) (w : World) (A : Option Addr) (c : Nat) (l : List α) : Prop where
  at_ : ∀ i a, l[i]? = some a → ∃ ad vs, A = some ad ∧ ad.block < B ∧ k.El w a vs ∧ ∀ j u, vs[j]? = some u → w.cell? (ad.add (i * k.s + j)) = some u
  len : l.length ≤ c
  cap : c ≤ maxLen
theorem RIn.next {w W : World} {A : Option Addr} {c : Nat} {l : List α} (h : RIn k w.heap.size w A c l) (hb : Below w.heap.size w W) : RIn k W.heap.size W A c l :=
  ⟨fun i a hi => by
    obtain ⟨ad, vs, e, hB, hE, hc⟩ := h.at_ i a hi
    exact ⟨ad, vs, e, Nat.lt_of_lt_of_le hB hb.size, k.next hE hb, fun j u hu => (hb.cell (by rw [block_add]; exact hB)).trans (hc j u hu)⟩, h.len, h.cap⟩
theorem RIn.nil (k : Kd α) (w : World) : RIn k w.heap.size w none 0 [] := ⟨fun i a hi => by simp at hi, Nat.le_refl _, by unfold maxLen; omega⟩
theorem RIn.some_ {w : World} {A : Option Addr} {c : Nat} {l : List α} (h : RIn k w.heap.size w A c l) (hl : 0 < l.length) : ∃ ad, A = some ad ∧ ad.block < w.heap.size := by
  obtain ⟨ad, vs, e, hB, _⟩ := h.at_ 0 l[0] (List.getElem?_eq_getElem hl)
  exact ⟨ad, e, hB⟩
/-- A first part of a slice. -/
theorem RIn.take {w : World} {A : Option Addr} {c : Nat} {l : List α} (h : RIn k w.heap.size w A c l) (n : Nat) : RIn k w.heap.size w A c (l.take n) :=
  ⟨fun i a hi => h.at_ i a (by rw [List.getElem?_take] at hi; split at hi; exact hi; cases hi), by rw [List.length_take]; have := h.len; omega, h.cap⟩
theorem Fresh_sep {B0 : Nat} {w : World} {F : World → Prop} {X : List Nat} (h : ∀ W : World, w.heap.size ≤ W.heap.size → (∀ g, B0 ≤ g → g < w.heap.size → W.heap[g]? = w.heap[g]?) → F W) (hX : ∀ g, g ∈ X → g < B0 ∨ w.heap.size ≤ g) : Sep B0 w X F :=
  fun W a b => h W a (fun g h1 h2 => b g h1 h2 (fun hm => (hX g hm).elim (fun q => by omega) (fun q => by omega)))
theorem flat_find {xs vs : List Value} {i s j : Nat} {u : Value} (h : vs[j]? = some u) (hs : ∀ j u, vs[j]? = some u → xs[i * s + j]? = some u) : xs[i * s + j]? = some u := hs j u h
/-- The elements of a row of the call's own: where they lie, and what they need. -/
def Els (k : Kd α) (B : Nat) (w : World) (X : List Nat) (l : List α) (xs : List Value) : Prop :=
  ∀ i a, l[i]? = some a → ∃ vs, (∀ j u, vs[j]? = some u → xs[i * k.s + j]? = some u) ∧ Sep B w X (fun W => k.El W a vs)
theorem Els.nil (k : Kd α) (B : Nat) (w : World) (X : List Nat) : Els k B w X [] [] := fun i a h => by simp at h
theorem Els.step {B : Nat} {w W : World} {X Y : List Nat} {l : List α} {xs : List Value} (h : Els k B w X l xs) (hs : w.heap.size ≤ W.heap.size) (hk : ∀ g, B ≤ g → g < w.heap.size → g ∉ X → W.heap[g]? = w.heap[g]?) (hY : ∀ g, g ∈ Y → g ∈ X ∨ w.heap.size ≤ g) : Els k B W Y l xs :=
  fun i a hi => by obtain ⟨vs, h1, h2⟩ := h i a hi; exact ⟨vs, h1, h2.step hs hk hY⟩
theorem Els.next {B : Nat} {w W : World} {X : List Nat} {l : List α} {xs : List Value} (h : Els k B w X l xs) (hb : Below w.heap.size w W) : Els k B W X l xs := h.step hb.size (fun g _ hg _ => hb.block g hg) (fun g hg => Or.inl hg)
theorem Els.less {B : Nat} {w : World} {X Y : List Nat} {l : List α} {xs : List Value} (h : Els k B w X l xs) (hY : ∀ g, g ∈ Y → g ∈ X) : Els k B w Y l xs := h.step (Nat.le_refl _) (fun _ _ _ _ => rfl) (fun g hg => Or.inl (hY g hg))
theorem Els.add {B : Nat} {w : World} {X : List Nat} {l : List α} {xs vs : List Value} {a : α} (h : Els k B w X l xs) (hx : xs.length = l.length * k.s) (hv : Sep B w X (fun W => k.El W a vs)) : Els k B w X (l ++ [a]) (xs ++ vs) := by
  intro i b hi
  have hw := k.wide hv.here
  by_cases h1 : i < l.length
  · rw [List.getElem?_append_left h1] at hi
    obtain ⟨us, h2, h3⟩ := h i b hi
    refine ⟨us, fun j u hu => ?_, h3⟩
    have := h2 j u hu
    have hlt : i * k.s + j < xs.length := by
      rcases Nat.lt_or_ge (i * k.s + j) xs.length with q | q
      · exact q
      · rw [List.getElem?_eq_none q] at this; cases this
    rw [List.getElem?_append_left hlt]; exact this
  · rw [List.getElem?_append_right (by omega)] at hi
    have h0 : i - l.length = 0 := by
      rcases Nat.eq_zero_or_pos (i - l.length) with q | q
      · exact q
      · rw [List.getElem?_eq_none (by simp; omega)] at hi; cases hi
    rw [h0] at hi
    obtain rfl : a = b := by simpa using hi
    obtain rfl : i = l.length := by omega
    refine ⟨vs, fun j u hu => ?_, hv⟩
    rw [← hx, List.getElem?_append_right (by omega), Nat.add_sub_cancel_left]; exact hu
/-- More elements at once: those of another list. -/
theorem Els.addAll {B : Nat} {w : World} {X : List Nat} {l m : List α} {xs ys : List Value} (h : Els k B w X l xs) (hx : xs.length = l.length * k.s) (hy : Els k B w X m ys) : Els k B w X (l ++ m) (xs ++ ys) := by
  intro i b hi
  by_cases h1 : i < l.length
  · rw [List.getElem?_append_left h1] at hi
    obtain ⟨us, h2, h3⟩ := h i b hi
    refine ⟨us, fun j u hu => ?_, h3⟩
    have := h2 j u hu
    have hlt : i * k.s + j < xs.length := by
      rcases Nat.lt_or_ge (i * k.s + j) xs.length with q | q
      · exact q
      · rw [List.getElem?_eq_none q] at this; cases this
    rw [List.getElem?_append_left hlt]; exact this
  · rw [List.getElem?_append_right (by omega)] at hi
    obtain ⟨us, h2, h3⟩ := hy _ b hi
    refine ⟨us, fun j u hu => ?_, h3⟩
    have e : i * k.s + j = xs.length + ((i - l.length) * k.s + j) := by
      rw [hx, Nat.sub_mul]
      have : l.length * k.s ≤ i * k.s := Nat.mul_le_mul_right _ (by omega)
      omega
    rw [e, List.getElem?_append_right (by omega), Nat.add_sub_cancel_left]; exact h2 j u hu
/-- One more element, by append. -/
theorem Els.push {B : Nat} {w1 W1 : World} {v v' : Value} {l : List α} {xs vs : List Value} {a : α} {o : Obj} (h : Els k B w1 v.ownBlock.toList l xs) (hx : xs.length = l.length * k.s) (hs : Sep B w1 v.ownBlock.toList (fun W => k.El W a vs))
    (hg : (w1.alloc o).grownBy W1 v.ownBlock) (hat : v'.ownBlock = v.ownBlock ∨ v'.ownBlock = some (w1.alloc o).heap.size) : Els k B W1 v'.ownBlock.toList (l ++ [a]) (xs ++ vs) := by
  have hz : (w1.alloc o).heap.size = w1.heap.size + 1 := by simp
  refine (h.add hx hs).step (by have := hg.size; omega) (fun g _ hlt hm => ?_) (fun g hm => ?_)
  · rw [hg.block g (by omega) (fun e => hm (by rw [← e]; simp)), Below.heap_alloc _ _ _ hlt]
  · rcases hat with e | e
    · rw [e] at hm; exact Or.inl hm
    · rw [e] at hm
      have : g = (w1.alloc o).heap.size := by simpa using hm
      exact Or.inr (by omega)
/-- Elements that were read elsewhere, as a list behind the row's. -/
theorem Els.pushAll {B : Nat} {w1 W1 : World} {v v' : Value} {l m : List α} {xs ys : List Value} (h : Els k B w1 v.ownBlock.toList l xs) (hx : xs.length = l.length * k.s) (hy : Els k B w1 v.ownBlock.toList m ys)
    (hg : w1.grownBy W1 v.ownBlock) (hat : v'.ownBlock = v.ownBlock ∨ v'.ownBlock = some w1.heap.size) : Els k B W1 v'.ownBlock.toList (l ++ m) (xs ++ ys) := by
  refine (h.addAll hx hy).step hg.size (fun g _ hlt hm => hg.block g hlt (fun e => hm (by rw [← e]; simp))) (fun g hm => ?_)
  rcases hat with e | e
  · rw [e] at hm; exact Or.inl hm
  · rw [e] at hm
    have : g = w1.heap.size := by simpa using hm
    exact Or.inr (by omega)
theorem reads_lit {w : World} {g s n : Nat} {cs : Array Value} {t : TypeId} {fr : Nat × Nat} (h : w.heap[g]? = some (.cells cs t fr)) (hs : cs.size = n * s) : Reads w w.heap.size s (some ⟨g, 0, none⟩) n cs.toList := by
  refine ⟨by simpa using hs, fun _ => ⟨_, rfl, lt_some h, fun j u hu => ?_⟩⟩
  rw [add_mk, Nat.zero_add, cell_of_row _ _ _ _ _ _ h]
  simpa using hu
/-- A row of the call's own as it was, where nothing old has turned. -/
theorem own_next {B : Nat} {w W : World} {e : TypeId} {v : Value} {n size : Nat} {xs : List Value} (h : w.ownsRow B e size v n xs) (hb : Below w.heap.size w W) : W.ownsRow B e size v n xs := ownsRow_block h (fun g hg => hb.block g (own_ge' h g hg).2)
/-- A row of the call's own is at no block of the arguments. -/
theorem own_below {B : Nat} {wr w1 W1 : World} {e : TypeId} {v : Value} {n size : Nat} {xs : List Value} {o : Obj} (hw : Below B wr w1) (h : w1.ownsRow B e size v n xs) (hg : (w1.alloc o).grownBy W1 v.ownBlock) (hB : B ≤ w1.heap.size) : Below B wr W1 :=
  (hw.alloc hB o).grown hg (by simp; omega) (fun g e => (own_ge' h g e.symm.symm).1)
/-- A row of the call's own, read. -/
theorem Els.in_ {B B' : Nat} {w : World} {v : Value} {l : List α} {xs : List Value} {X : List Nat} (h : Els k B w X l xs) (ho : w.ownsRow B' k.t k.s v l.length xs) : ∃ A c, v = .slice A l.length c ∧ RIn k w.heap.size w A c l := by
  rcases ho.2 with ⟨rfl, h0⟩ | ⟨g, cap, cur, rfl, hg, hh, h1, h2, h3, h4⟩
  · have : l = [] := List.eq_nil_of_length_eq_zero h0
    subst this
    exact ⟨none, 0, rfl, RIn.nil _ _⟩
  · refine ⟨_, cap, rfl, fun i a hi => ?_, h1, h2⟩
    obtain ⟨vs, h5, h6⟩ := h i a hi
    refine ⟨_, vs, rfl, lt_some hh, h6.here, fun j u hu => ?_⟩
    have e := h5 j u hu
    have hlt : i * k.s + j < l.length * k.s := by
      rw [← ho.1]
      rcases Nat.lt_or_ge (i * k.s + j) xs.length with q | q
      · exact q
      · rw [List.getElem?_eq_none q] at e; cases e
    rw [add_mk, Nat.zero_add, cell_of_row _ _ _ _ _ _ hh]
    rw [← h4, List.getElem?_take, if_pos hlt] at e
    simpa using e
/-- A slice as the values of its cells. -/
theorem RIn.reads {B : Nat} {w : World} {A : Option Addr} {c : Nat} {l : List α} (h : RIn k B w A c l) : ∃ xs, Reads w B k.s A l.length xs ∧ ∀ i a, l[i]? = some a → ∃ vs, k.El w a vs ∧ ∀ j u, vs[j]? = some u → xs[i * k.s + j]? = some u := by
  rcases Nat.eq_zero_or_pos l.length with h0 | h0
  · have : l = [] := List.eq_nil_of_length_eq_zero h0
    subst this
    exact ⟨[], ⟨by simp, fun h => absurd h (by simp)⟩, fun i a hi => by simp at hi⟩
  · obtain ⟨ad, _, e, hB, _⟩ := h.at_ 0 l[0] (List.getElem?_eq_getElem h0)
    subst e
    have hs := k.pos
    have key : ∀ q, q < l.length * k.s → ∃ u, w.cell? (ad.add q) = some u := by
      intro q hq
      have hi : q / k.s < l.length := by rw [Nat.div_lt_iff_lt_mul hs]; exact hq
      obtain ⟨ad', vs, e, _, hE, hc⟩ := h.at_ (q / k.s) _ (List.getElem?_eq_getElem hi)
      obtain rfl := Option.some.inj e
      have hj : q % k.s < vs.length := by rw [k.wide hE]; exact Nat.mod_lt _ hs
      have := hc (q % k.s) _ (List.getElem?_eq_getElem hj)
      rw [Nat.mul_comm, Nat.div_add_mod] at this
      exact ⟨_, this⟩
    refine ⟨(List.range (l.length * k.s)).map (fun q => (w.cell? (ad.add q)).getD (.bool false)), ⟨by simp, fun _ => ⟨ad, rfl, hB, fun j u hu => ?_⟩⟩, fun i a hi => ?_⟩
    · rw [List.getElem?_map] at hu
      by_cases q : j < l.length * k.s
      · rw [List.getElem?_range q] at hu
        obtain ⟨u', e⟩ := key j q
        simp only [Option.map_some, e, Option.getD_some] at hu
        rw [e]; exact hu
      · rw [List.getElem?_eq_none (by simpa using q)] at hu; cases hu
    · obtain ⟨ad', vs, e, _, hE, hc⟩ := h.at_ i a hi
      obtain rfl := Option.some.inj e
      refine ⟨vs, hE, fun j u hu => ?_⟩
      have hil : i < l.length := by
        rcases Nat.lt_or_ge i l.length with q | q
        · exact q
        · rw [List.getElem?_eq_none q] at hi; cases hi
      have hj : j < k.s := by
        rw [← k.wide hE]
        rcases Nat.lt_or_ge j vs.length with q | q
        · exact q
        · rw [List.getElem?_eq_none q] at hu; cases hu
      have hq : i * k.s + j < l.length * k.s := by
        have : (i + 1) * k.s ≤ l.length * k.s := Nat.mul_le_mul_right _ (by omega)
        rw [Nat.succ_mul] at this; omega
      rw [List.getElem?_map, List.getElem?_range hq]
      simp [hc j u hu]
/-- Boxes and rows, and beside them the elements of one of the rows. -/
structure Mz (k : Kd α) (B : Nat) (l : List α) (xs : List Value) (v : Value) (w : World) (L : List (Nat × Obj)) (R : List Rw) (W : World) : Prop where
  mx : Mx w L R W
  els : Els k B W v.ownBlock.toList l xs
section
variable {B : Nat} {w W W1 : World} {L : List (Nat × Obj)} {R : List Rw} {l : List α} {xs : List Value} {v v' : Value}
theorem Mz.below (h : Mz k B l xs v w L R W) : Below w.heap.size w W := h.mx.below
theorem Mz.row (h : Mz k B l xs v w L R W) (i : Nat) {r : Rw} (hi : R[i]? = some r) : W.ownsRow w.heap.size r.e r.size r.v r.n r.xs := h.mx.row i hi
theorem Mz.get (h : Mz k B l xs v w L R W) (i : Nat) {p : Nat × Obj} (hi : L[i]? = some p) : W.heap[p.1]? = some p.2 := h.mx.get i hi
theorem Mz.lt (h : Mz k B l xs v w L R W) (i : Nat) {p : Nat × Obj} (hi : L[i]? = some p) : p.1 < W.heap.size := h.mx.lt i hi
theorem Mz.keep (h : Mz k B l xs v w L R W) {L' : List (Nat × Obj)} (hs : L'.Sublist L) : Bx w L' W := h.mx.keep hs
theorem Mz.next (h : Mz k B l xs v w L R W) (hb : Below W.heap.size W W1) : Mz k B l xs v w L R W1 := ⟨h.mx.next hb, h.els.next hb⟩
theorem Mz.new (h : Mz k B l xs v w L R W) {g : Nat} (hg : g = W.heap.size) (o : Obj) : Mz k B l xs v w ((g, o) :: L) R (W.alloc o) := ⟨h.mx.new hg o, h.els.next (one_alloc W o)⟩
theorem Mz.addR {W0 : World} (h : Mz k B l xs v w L R W0) (hb : Below W0.heap.size W0 W) (r : Rw) (ho : W.ownsRow W0.heap.size r.e r.size r.v r.n r.xs) : Mz k B l xs v w L (r :: R) W := ⟨h.mx.addR hb r ho, h.els.next hb⟩
theorem Mz.grow (h : Mz k B l xs v w L R W) (i : Nat) {e : TypeId} {size n n' : Nat} {ys xs' : List Value} (hi : R[i]? = some ⟨v, e, size, n, ys⟩) (hg : W.grownBy W1 v.ownBlock) (ho : W1.ownsRow w.heap.size e size v' n' xs')
    (hat : v'.ownBlock = v.ownBlock ∨ v'.ownBlock = some W.heap.size) : Mz k B l xs v' w L (R.set i ⟨v', e, size, n', xs'⟩) W1 := by
  refine ⟨h.mx.grow i hi hg ho hat, h.els.step hg.size (fun g _ hlt hm => hg.block g hlt (fun e => hm (by rw [← e]; simp))) (fun g hm => ?_)⟩
  rcases hat with e | e
  · rw [e] at hm; exact Or.inl hm
  · rw [e] at hm
    have : g = W.heap.size := by simpa using hm
    exact Or.inr (by omega)
theorem Mx.of_own {e : TypeId} {size n : Nat} (hb : Below w.heap.size w W) (ho : W.ownsRow w.heap.size e size v n xs) : Mx w [] [⟨v, e, size, n, xs⟩] W :=
  ⟨(Bx.start w).next hb, fun r hr => by obtain rfl := List.mem_singleton.1 hr; exact ho, fun r hr g hg hm => by simp at hm, by
    rw [List.filterMap_cons]; split <;> simp⟩
/-- Two rows are apart. -/
theorem Mx.apart2 (h : Mx w L R W) (i j : Nat) {r s : Rw} (hi : R[i]? = some r) (hj : R[j]? = some s) (hij : i ≠ j) {g : Nat} (hg : r.v.ownBlock = some g) : g ∉ s.v.ownBlock.toList := fun hm =>
  filterMap_nodup_ne h.nd hi hj hij hg (by simpa using hm)
end
end
end Go.Proofs.Ytgcbmnohhbcfiaa

namespace Go.Proofs.Ytgcbmnohhbcfiaa
open Go.RowKit Go.ChangeShapes Go.WideShapes Go.ChangeAt Go.Joins Go.Deep
set_option linter.unusedVariables false
set_option linter.unusedSimpArgs false

def ckEl (w : World) (K : Ck) (vs : List Value) : Prop := ∃ A c R d, vs = [.int .i64 K.len, .slice A K.cuts.length c, .slice R K.dens.length d] ∧ CIn w.heap.size w A c R d K
def kCk : Kd Ck := ⟨24, 3, ckEl, by decide, fun h => by obtain ⟨A, c, R, d, rfl, _⟩ := h; rfl, fun h hb => by obtain ⟨A, c, R, d, e, h⟩ := h; exact ⟨A, c, R, d, e, h.next hb⟩⟩
abbrev qyV (q : Qy) : List Value := [.int .i64 q.agent, .int .u8 q.kind, .int .i64 q.a.n, .int .i64 q.a.d, .int .i64 q.b.n, .int .i64 q.b.d, .int .i64 q.ans.n, .int .i64 q.ans.d]
abbrev qV (q : Qy) : Value := .agg #[.int .i64 q.agent, .int .u8 q.kind, .int .i64 q.a.n, .int .i64 q.a.d, .int .i64 q.b.n, .int .i64 q.b.d, .int .i64 q.ans.n, .int .i64 q.ans.d]
abbrev qB (q : Qy) : Obj := .cells #[.int .i64 q.agent, .int .u8 q.kind, .int .i64 q.a.n, .int .i64 q.a.d, .int .i64 q.b.n, .int .i64 q.b.d, .int .i64 q.ans.n, .int .i64 q.ans.d] 84
def kQy : Kd Qy := ⟨84, 8, fun _ q vs => vs = qyV q ∧ q.wf, by decide, fun h => by rw [h.1]; rfl, fun h _ => h⟩
abbrev CsIn := RIn kCk
abbrev LgIn := RIn kQy
theorem cell_form {w : World} {ad : Addr} {n j : Nat} {v : Value} (hj : 0 < j) (h : w.cell? (ad.add (n + j)) = some v) : w.cell? ⟨(ad.add n).block, (ad.add n).off + j, none⟩ = some v := by
  have e : (⟨(ad.add n).block, (ad.add n).off + j, none⟩ : Addr) = ad.add (n + j) := by
    unfold Addr.add
    rw [if_neg (show ¬ n + j = 0 by omega)]
    by_cases q : n = 0
    · rw [if_pos q, q, Nat.zero_add]
    · rw [if_neg q]
      show (⟨ad.block, ad.off + n + j, none⟩ : Addr) = ⟨ad.block, ad.off + (n + j), none⟩
      rw [Nat.add_assoc]
  rw [e]; exact h
theorem RIn.cake {B : Nat} {w : World} {A : Option Addr} {c i : Nat} {ks : List Ck} {K : Ck} (h : RIn kCk B w A c ks) (hi : ks[i]? = some K) :
    ∃ ad P p R r, A = some ad ∧ ad.block < B ∧ CIn w.heap.size w P p R r K ∧ w.cell? (ad.add (i * 3)) = some (.int .i64 K.len) ∧ w.cell? ⟨(ad.add (i * 3)).block, (ad.add (i * 3)).off + 1, none⟩ = some (.slice P K.cuts.length p) ∧ w.cell? ⟨(ad.add (i * 3)).block, (ad.add (i * 3)).off + 2, none⟩ = some (.slice R K.dens.length r) := by
  obtain ⟨ad, vs, e, hB, ⟨P, p, R, r, rfl, hc⟩, hv⟩ := h.at_ i K hi
  have hw := fun (j : Nat) (hj : 0 < j) (u : Value) (hu : ([.int .i64 K.len, .slice P K.cuts.length p, .slice R K.dens.length r] : List Value)[j]? = some u) => cell_form hj (hv j u hu)
  exact ⟨ad, P, p, R, r, e, hB, hc, hv 0 _ rfl, hw 1 (by decide) _ rfl, hw 2 (by decide) _ rfl⟩
theorem RIn.query {B : Nat} {w : World} {A : Option Addr} {c i : Nat} {l : List Qy} {q : Qy} (h : RIn kQy B w A c l) (hi : l[i]? = some q) :
    ∃ ad, A = some ad ∧ ad.block < B ∧ q.wf ∧ w.cell? (ad.add (i * 8)) = some (.int .i64 q.agent) ∧ w.cell? ⟨(ad.add (i * 8)).block, (ad.add (i * 8)).off + 1, none⟩ = some (.int .u8 q.kind) ∧
      w.cell? ⟨(ad.add (i * 8)).block, (ad.add (i * 8)).off + 2, none⟩ = some (.int .i64 q.a.n) ∧ w.cell? ⟨(ad.add (i * 8)).block, (ad.add (i * 8)).off + 3, none⟩ = some (.int .i64 q.a.d) ∧
      w.cell? ⟨(ad.add (i * 8)).block, (ad.add (i * 8)).off + 4, none⟩ = some (.int .i64 q.b.n) ∧ w.cell? ⟨(ad.add (i * 8)).block, (ad.add (i * 8)).off + 5, none⟩ = some (.int .i64 q.b.d) ∧
      w.cell? ⟨(ad.add (i * 8)).block, (ad.add (i * 8)).off + 6, none⟩ = some (.int .i64 q.ans.n) ∧ w.cell? ⟨(ad.add (i * 8)).block, (ad.add (i * 8)).off + 7, none⟩ = some (.int .i64 q.ans.d) := by
  obtain ⟨ad, vs, e, hB, ⟨rfl, hq⟩, hv⟩ := h.at_ i q hi
  have hw := fun (j : Nat) (hj : 0 < j) (u : Value) (hu : (qyV q)[j]? = some u) => cell_form hj (hv j u hu)
  exact ⟨ad, e, hB, hq, hv 0 _ rfl, hw 1 (by decide) _ rfl, hw 2 (by decide) _ rfl, hw 3 (by decide) _ rfl, hw 4 (by decide) _ rfl, hw 5 (by decide) _ rfl, hw 6 (by decide) _ rfl, hw 7 (by decide) _ rfl⟩
theorem cellsQy : Try.prog.cellsOf 84 = 8 := by kernel_rfl
theorem cellsDk : Try.prog.cellsOf 76 = 2 := by kernel_rfl
theorem cellsU : Try.prog.cellsOf 5 = 1 := by kernel_rfl
theorem cellsSC : Try.prog.cellsOf 73 = 1 := by kernel_rfl
theorem cellsSQ : Try.prog.cellsOf 59 = 1 := by kernel_rfl
theorem wf_u8 {x : Int} (h : (Lit.int .u8 x).wf = true) : 0 ≤ x ∧ x ≤ 255 := by
  simp only [Lit.wf, Bool.and_eq_true, decide_eq_true_eq] at h
  exact ⟨h.1, h.2⟩
theorem trod_struct5 {H : Type} {enc : TypeId × Value → H} {P : Program} {w : World} {base : Nat} {spare : Nat → Bool} {held : Bool} {t : TypeId} {f0 f1 f2 f3 f4 : Field} {fuel : Nat} {cs : List Value} {x : DataW H × List MemPlace} (ht : P.underlying t = some (.struct #[f0, f1, f2, f3, f4])) (h : DataW.trod enc P w base spare held fuel t cs = some x) :
    ∃ y0 y1 y2 y3 y4 n, cs.length = P.cellsOf t ∧ DataW.trod enc P w base spare held n f0.type ((cs.drop f0.offset).take (P.cellsOf f0.type)) = some y0 ∧ DataW.trod enc P w base spare held n f1.type ((cs.drop f1.offset).take (P.cellsOf f1.type)) = some y1 ∧
      DataW.trod enc P w base spare held n f2.type ((cs.drop f2.offset).take (P.cellsOf f2.type)) = some y2 ∧ DataW.trod enc P w base spare held n f3.type ((cs.drop f3.offset).take (P.cellsOf f3.type)) = some y3 ∧ DataW.trod enc P w base spare held n f4.type ((cs.drop f4.offset).take (P.cellsOf f4.type)) = some y4 := by
  obtain ⟨xs, n, _, rfl, hl, hlen, hf⟩ := DataW.trod_struct ht h
  match xs, hlen with
  | [y0, y1, y2, y3, y4], _ => exact ⟨y0, y1, y2, y3, y4, n, hl, by simpa using hf 0 f0 rfl, by simpa using hf 1 f1 rfl, by simpa using hf 2 f2 rfl, by simpa using hf 3 f3 rfl, by simpa using hf 4 f4 rfl⟩
section
variable {H : Type} {enc : TypeId × Value → H} {w : World} {held : Bool}
set_option maxRecDepth 100000 in
theorem open_cells2 {fuel : Nat} {cs : List Value} {x : DataW H × List MemPlace} (h : DataW.trod enc Try.prog w 0 (fun _ => true) held fuel 37 cs = some x) : ∃ a : Rt, cs = [.int .i64 a.n, .int .i64 a.d] ∧ a.wf := by
  obtain ⟨y0, y1, n, _, hl, h0, h1⟩ := trod_struct2 Try.underlying37 h
  rw [cellsQ] at hl
  match cs, hl with
  | [c0, c1], _ =>
  rw [cellsL] at h0 h1
  obtain ⟨n0, e0, _, w0⟩ := DataW.trod_int Try.underlying2 h0
  obtain ⟨n1, e1, _, w1⟩ := DataW.trod_int Try.underlying2 h1
  have e0 : [c0] = _ := e0
  have e1 : [c1] = _ := e1
  obtain rfl : c0 = _ := List.singleton_inj.1 e0
  obtain rfl : c1 = _ := List.singleton_inj.1 e1
  have a0 := wf_i64 w0
  have a1 := wf_i64 w1
  exact ⟨⟨n0, n1⟩, rfl, ⟨a0.1, a0.2, a1.1, a1.2⟩⟩
set_option maxRecDepth 100000 in
theorem open_cake_ {fuel : Nat} {cs : List Value} {x : DataW H × List MemPlace} (h : DataW.trod enc Try.prog w 0 (fun _ => true) held fuel 24 cs = some x) : ∃ K : Ck, kCk.El w K cs := by
  obtain ⟨y0, y1, y2, n, hx, hl, h0, h1, h2⟩ := trod_struct3 Try.underlying24 h
  rw [cellsC] at hl
  match cs, hl with
  | [c0, c1, c2], _ =>
  rw [cells3] at h0
  rw [cellsLI] at h1 h2
  obtain ⟨n1, e1, _, w1⟩ := DataW.trod_int Try.underlying3 h0
  obtain ⟨A, c, xs, e0, l0, m0, i0, _⟩ := open_ints_ h1
  obtain ⟨R, d, ys, e2, l2, m2, i2, _⟩ := open_ints_ h2
  have e1 : [c0] = _ := e1
  have e0 : [c1] = _ := e0
  have e2 : [c2] = _ := e2
  obtain rfl : c0 = _ := List.singleton_inj.1 e1
  obtain rfl : c1 = _ := List.singleton_inj.1 e0
  obtain rfl : c2 = _ := List.singleton_inj.1 e2
  have a := wf_i64 w1
  exact ⟨⟨n1, xs, ys⟩, A, c, R, d, rfl, i0, i2, l0, m0, l2, m2, a.1, a.2⟩
set_option maxRecDepth 100000 in
theorem open_query_ {fuel : Nat} {cs : List Value} {x : DataW H × List MemPlace} (h : DataW.trod enc Try.prog w 0 (fun _ => true) held fuel 84 cs = some x) : ∃ q : Qy, kQy.El w q cs := by
  obtain ⟨y0, y1, y2, y3, y4, n, hl, h0, h1, h2, h3, h4⟩ := trod_struct5 Try.underlying84 h
  rw [cellsQy] at hl
  match cs, hl with
  | [c0, c1, c2, c3, c4, c5, c6, c7], _ =>
  rw [cells3] at h0
  rw [cellsU] at h1
  rw [cellsQ] at h2 h3 h4
  obtain ⟨n0, e0, _, w0⟩ := DataW.trod_int Try.underlying3 h0
  obtain ⟨n1, e1, _, w1⟩ := DataW.trod_int Try.underlying5 h1
  obtain ⟨a, e2, wa⟩ := open_cells2 h2
  obtain ⟨b, e3, wb⟩ := open_cells2 h3
  obtain ⟨r, e4, wr⟩ := open_cells2 h4
  have e0 : [c0] = _ := e0
  have e1 : [c1] = _ := e1
  have e2 : [c2, c3] = _ := e2
  have e3 : [c4, c5] = _ := e3
  have e4 : [c6, c7] = _ := e4
  obtain rfl : c0 = _ := List.singleton_inj.1 e0
  obtain rfl : c1 = _ := List.singleton_inj.1 e1
  simp only [List.cons.injEq, and_true] at e2 e3 e4
  obtain ⟨rfl, rfl⟩ := e2
  obtain ⟨rfl, rfl⟩ := e3
  obtain ⟨rfl, rfl⟩ := e4
  have a0 := wf_i64 w0
  have a1 := wf_u8 w1
  exact ⟨⟨n0, n1, a, b, r⟩, rfl, ⟨a0.1, a0.2, a1.1, a1.2, wa, wb, wr⟩⟩
theorem list_of {α : Type} {n : Nat} {p : Nat → α → Prop} (h : ∀ i, i < n → ∃ x, p i x) : ∃ l : List α, l.length = n ∧ ∀ i a, l[i]? = some a → p i a := by
  refine ⟨List.ofFn (fun i : Fin n => Classical.choose (h i.1 i.2)), by simp, fun i a hi => ?_⟩
  rw [List.getElem?_ofFn] at hi
  split at hi
  · next hlt => obtain rfl := Option.some.inj hi; exact Classical.choose_spec (h i hlt)
  · cases hi
theorem open_rin {α : Type} {k : Kd α} {st : TypeId} (ht : Try.prog.underlying st = some (.slice k.t)) (hs : Try.prog.cellsOf k.t = k.s)
    (hel : ∀ {fuel : Nat} {cs : List Value} {x : DataW H × List MemPlace}, DataW.trod enc Try.prog w 0 (fun _ => true) held fuel k.t cs = some x → ∃ a, k.El w a cs)
    {fuel : Nat} {cs : List Value} {x : DataW H × List MemPlace} (h : DataW.trod enc Try.prog w 0 (fun _ => true) held fuel st cs = some x) :
    ∃ (A : Option Addr) (c : Nat) (l : List α), cs = [.slice A l.length c] ∧ RIn k w.heap.size w A c l := by
  rcases open_slice ht h with ⟨rfl, _⟩ | ⟨ad, len, cap, m, n, D, Pl, rfl, hb, hl, hm, hmm, rfl, hx⟩
  · exact ⟨none, 0, [], rfl, RIn.nil _ _⟩
  · have hle : len ≤ m := by rw [hmm]; split <;> omega
    rw [hs] at hx
    obtain ⟨l, hll, hp⟩ := list_of (n := len) (p := fun i a => ∃ vs, k.El w a vs ∧ ∀ j u, vs[j]? = some u → w.cell? (ad.add (i * k.s + j)) = some u) (fun i hi => by
      obtain ⟨cs', h1, h2⟩ := hx i (by omega)
      obtain ⟨a, ha⟩ := hel h2
      obtain ⟨_, hlen, hc⟩ := World.cells?_some h1
      refine ⟨a, cs', ha, fun j u hu => ?_⟩
      have hj : j < k.s := by
        rcases Nat.lt_or_ge j k.s with q | q
        · exact q
        · rw [List.getElem?_eq_none (by omega)] at hu; cases hu
      have := hc j hj
      rw [add_of_add] at this
      rw [this]; exact hu)
    refine ⟨some ad, cap, l, by rw [hll], fun i a hi => ?_, by omega, hm⟩
    obtain ⟨vs, hE, hv⟩ := hp i a hi
    refine ⟨ad, vs, rfl, ?_, hE, hv⟩
    have h0 : 0 < vs.length := by rw [k.wide hE]; exact k.pos
    have := cell_lt (hv 0 _ (List.getElem?_eq_getElem h0))
    rwa [block_add] at this
set_option maxRecDepth 100000 in
theorem open_cakes_ {fuel : Nat} {cs : List Value} {x : DataW H × List MemPlace} (h : DataW.trod enc Try.prog w 0 (fun _ => true) held fuel 73 cs = some x) : ∃ (A : Option Addr) (c : Nat) (l : List Ck), cs = [.slice A l.length c] ∧ CsIn w.heap.size w A c l :=
  open_rin (k := kCk) Try.underlying73 cellsC open_cake_ h
set_option maxRecDepth 100000 in
theorem open_queries_ {fuel : Nat} {cs : List Value} {x : DataW H × List MemPlace} (h : DataW.trod enc Try.prog w 0 (fun _ => true) held fuel 59 cs = some x) : ∃ (A : Option Addr) (c : Nat) (l : List Qy), cs = [.slice A l.length c] ∧ LgIn w.heap.size w A c l :=
  open_rin (k := kQy) Try.underlying59 cellsQy open_query_ h
set_option maxRecDepth 100000 in
theorem open_cakes {v : Value} {d : DataW H} {p : List MemPlace} {r : Reach} {b0 : Nat} (hv : Value.okWide Try.prog w r b0 73 v) (h : DataW.Trod enc Try.prog w 0 (fun _ => true) held 73 v d p) :
    ∃ (A : Option Addr) (c : Nat) (l : List Ck), v = .slice A l.length c ∧ CsIn w.heap.size w A c l := by
  obtain ⟨a0, len, cap, rfl⟩ := okWide_slice Try.underlying73 hv
  obtain ⟨fuel, hf⟩ := h
  obtain ⟨A, c, l, e, r1⟩ := open_cakes_ hf
  exact ⟨A, c, l, List.singleton_inj.1 e, r1⟩
set_option maxRecDepth 100000 in
theorem open_queries {v : Value} {d : DataW H} {p : List MemPlace} {r : Reach} {b0 : Nat} (hv : Value.okWide Try.prog w r b0 59 v) (h : DataW.Trod enc Try.prog w 0 (fun _ => true) held 59 v d p) :
    ∃ (A : Option Addr) (c : Nat) (l : List Qy), v = .slice A l.length c ∧ LgIn w.heap.size w A c l := by
  obtain ⟨a0, len, cap, rfl⟩ := okWide_slice Try.underlying59 hv
  obtain ⟨fuel, hf⟩ := h
  obtain ⟨A, c, l, e, r1⟩ := open_queries_ hf
  exact ⟨A, c, l, List.singleton_inj.1 e, r1⟩
abbrev dV (A : Option Addr) (c : Nat) (ks : List Ck) (B : Option Addr) (d : Nat) (l : List Qy) : Value := .agg #[.slice A ks.length c, .slice B l.length d]
abbrev dB (A : Option Addr) (c : Nat) (ks : List Ck) (B : Option Addr) (d : Nat) (l : List Qy) : Obj := .cells #[.slice A ks.length c, .slice B l.length d] 76
set_option maxRecDepth 100000 in
theorem open_desk {v : Value} {d : DataW H} {p : List MemPlace} {r : Reach} {b0 : Nat} (hv : Value.okWide Try.prog w r b0 76 v) (h : DataW.Trod enc Try.prog w 0 (fun _ => true) held 76 v d p) :
    ∃ A c ks B e l, v = dV A c ks B e l ∧ CsIn w.heap.size w A c ks ∧ LgIn w.heap.size w B e l := by
  obtain ⟨v0, v1, y0, y1, n, rfl, _, _, h0, h1⟩ := open_agg2 Try.underlying76 (by kernel_rfl) cellsDk hv h
  obtain ⟨A, c, ks, e0, r0⟩ := open_cakes_ h0
  obtain ⟨B, e, l, e1, r1⟩ := open_queries_ h1
  obtain rfl : v0 = _ := List.singleton_inj.1 e0
  obtain rfl : v1 = _ := List.singleton_inj.1 e1
  exact ⟨A, c, ks, B, e, l, rfl, r0, r1⟩
end
end Go.Proofs.Ytgcbmnohhbcfiaa

namespace Go.Proofs.Ytgcbmnohhbcfiaa
open Go.RowKit Go.Deep
set_option linter.unusedVariables false
set_option linter.unusedSimpArgs false

theorem idx_facts {k n : Nat} (hlt : k < n) (hm : n ≤ 9223372036854775807) : (k : Int) < (n : Int) ∧ (0 : Int) ≤ (k : Int) ∧ IntKind.i64.wrap ((k : Int) + 1) = (k : Int) + 1 ∧ wrap64 ((k : Int) + 1) = (k : Int) + 1 :=
  ⟨by omega, by omega, IntWalk.i64_in _ (by omega), IntWalk.wrap64_in _ (by omega)⟩
def greatK (ks : List Ck) : Bool := ks.any (·.big) || decide (10 < ks.length)
theorem any_big {ks : List Ck} {i : Nat} {K : Ck} (h : ks[i]? = some K) (hb : K.big = true) : greatK ks = true := by
  unfold greatK
  rw [List.any_eq_true.2 ⟨K, List.mem_of_getElem? h, hb⟩]; rfl
theorem any_small {ks : List Ck} (h : ∀ (j : Nat) (L : Ck), ks[j]? = some L → L.big = false) : greatK ks = decide (10 < ks.length) := by
  unfold greatK
  rw [List.any_eq_false.2 (fun K hK => by obtain ⟨i, hi⟩ := List.getElem?_of_mem hK; rw [h i K hi]; decide)]; rfl
set_option maxRecDepth 100000 in
set_option maxHeartbeats 4000000 in
theorem fgreatc_any (ks : List Ck) (A : Option Addr) (c : Nat) (w : World) (h : CsIn w.heap.size w A c ks) :
    Calls Try.prog 55 #[.slice A ks.length c] w fun e w' => e = .returned (.bool (greatK ks)) ∧ Below w.heap.size w w' := by
  have hm := Nat.le_trans h.len h.cap
  unfold maxLen at hm
  have HH := Lib.hid (fun (W : World) (hW : Below w.heap.size w W) => h.next hW)
  clear h
  go_enter Try.func55, Try.ntmps55
  go_wp2_with fail
  go_loopw [3] (fun s3 wr => ∃ k : Nat, k ≤ ks.length ∧ s3 = .int .i64 k ∧ Hid (∀ (j : Nat) (L : Ck), j < k → ks[j]? = some L → L.big = false) ∧ Below w.heap.size w wr) (fun s3 _ => ks.length - (intOf s3).toNat)
  case atStart => exact ⟨0, Nat.zero_le _, rfl, fun j L hj => by omega, Below.refl _ _⟩
  case round =>
    obtain ⟨k, hk, rfl, hno, hB⟩ := hrel
    by_cases hlt : k < ks.length
    rotate_left
    · obtain rfl : k = ks.length := by omega
      have HE := Lib.hid (show greatK ks = decide ((10 : Int) < (ks.length : Int)) by rw [any_small (fun j L hj => hno j L (by rcases Nat.lt_or_ge j ks.length with q | q; exact q; rw [List.getElem?_eq_none q] at hj; cases hj) hj)]; exact decide_eq_decide.2 (by omega))
      have HBw := Lib.hid hB
      clear hno hB HH hk hlt
      go_wp2_with fail
      go_ret
      exact ⟨ret_bool HE.out.symm, HBw.out⟩
    obtain ⟨K, hK⟩ : ∃ K, ks[k]? = some K := ⟨_, List.getElem?_eq_getElem hlt⟩
    obtain ⟨ad, P, p, R, r, rfl, hb, hC, c0, c1, c2⟩ := (HH.out _ hB).cake hK
    obtain ⟨z1, z2, z3, z4⟩ := idx_facts hlt hm
    have HC := Lib.hid (cgreat_any K P p R r (Nat.le_trans hC.lc hC.mc) (Nat.le_trans hC.ld hC.md) wr)
    have HBw := Lib.hid hB
    have HLE := Lib.hid (And.intro (Nat.succ_le_of_lt hlt) (Nat.sub_lt_sub_left hlt (Nat.lt_succ_self k)))
    have HN := Lib.hid (show K.big = false → Hid (∀ (j : Nat) (L : Ck), j < k + 1 → ks[j]? = some L → L.big = false) from fun q j L hj hL => by
      rcases Nat.lt_or_ge j k with e | e
      · exact hno j L e hL
      · obtain rfl : j = k := by omega
        rw [hK] at hL; obtain rfl := Option.some.inj hL; exact q)
    have HY := Lib.hid (fun (q : K.big = true) => any_big hK q)
    clear hno hB HH hk hlt hK hC
    obtain ⟨b, hb'⟩ : ∃ b, b = K.big := ⟨_, rfl⟩
    rw [← hb'] at HC HN HY
    clear hb'
    go_wp2_with fail
    refine HC.out.mono ?_
    rintro e w1 ⟨rfl, hb1⟩
    have HB1 := Lib.hid (bcall HBw.out HBw.out.size hb1)
    clear hb1 HBw HC c0 c1 c2 hb
    cases b with
    | true =>
      have HY2 := Lib.hid (HY.out rfl)
      clear HY HN
      go_wp2_with fail
      go_ret
      exact ⟨ret_bool HY2.out.symm, HB1.out⟩
    | false =>
      have HN2 := Lib.hid (HN.out rfl)
      clear HN HY
      go_wp2_with fail
      exact ⟨⟨k + 1, HLE.out.1, by go_num, HN2.out, HB1.out⟩, by simpa [intOf] using HLE.out.2⟩
/-- A desk that is great. -/
def greatD (ks : List Ck) (n : Nat) : Bool := greatK ks || (decide (40 < n) && decide (n < 1999)) || decide (2010 < n)
set_option maxRecDepth 100000 in
set_option maxHeartbeats 4000000 in
theorem fgreat_any (ks : List Ck) (A : Option Addr) (c : Nat) (l : List Qy) (B : Option Addr) (d : Nat) (w : World) (h : CsIn w.heap.size w A c ks) (hl : l.length ≤ maxLen) :
    Calls Try.prog 59 #[dV A c ks B d l] w fun e w' => e = .returned (.bool (greatD ks l.length)) ∧ Below w.heap.size w w' := by
  unfold maxLen at hl
  have hB0 : Bx w [(w.heap.size, dB A c ks B d l)] (w.alloc (dB A c ks B d l)) := (Bx.start w).new rfl _
  have HG := Lib.hid (fun (W : World) (hW : Below w.heap.size w W) => fgreatc_any ks A c W (h.next hW))
  have e1 : decide ((40 : Int) < (l.length : Int)) = decide (40 < l.length) := decide_eq_decide.2 (by omega)
  have e2 : decide ((l.length : Int) < 1999) = decide (l.length < 1999) := decide_eq_decide.2 (by omega)
  have e3 : decide ((2010 : Int) < (l.length : Int)) = decide (2010 < l.length) := decide_eq_decide.2 (by omega)
  have HE := Lib.hid (show greatD ks l.length = (greatK ks || (decide ((40 : Int) < (l.length : Int)) && decide ((l.length : Int) < 1999)) || decide ((2010 : Int) < (l.length : Int))) by rw [e1, e2, e3]; rfl)
  rw [HE.out]
  clear HE h e1 e2 e3 hl
  obtain ⟨b1, h1⟩ : ∃ b, b = greatK ks := ⟨_, rfl⟩
  obtain ⟨b2, h2⟩ : ∃ b, b = decide ((40 : Int) < (l.length : Int)) := ⟨_, rfl⟩
  obtain ⟨b3, h3⟩ : ∃ b, b = decide ((l.length : Int) < 1999) := ⟨_, rfl⟩
  obtain ⟨b4, h4⟩ : ∃ b, b = decide ((2010 : Int) < (l.length : Int)) := ⟨_, rfl⟩
  rw [← h1, ← h2, ← h3, ← h4]
  rw [← h1] at HG
  clear h1
  replace h2 := h2.symm
  replace h3 := h3.symm
  replace h4 := h4.symm
  have c_d := fun j => cell_of_row _ _ j _ _ _ (hB0.get 0 rfl)
  have z_d := hB0.lt 0 rfl
  go_enter Try.func59, Try.ntmps59
  go_wp2_with fail
  refine (HG.out _ hB0.below).mono ?_
  rintro e w1 ⟨rfl, hb⟩
  have hB1 := hB0.next hb
  clear hb hB0 c_d z_d HG
  have c_d := fun j => cell_of_row _ _ j _ _ _ (hB1.get 0 rfl)
  have z_d := hB1.lt 0 rfl
  have HBw := Lib.hid hB1.below
  clear hB1
  cases b1 <;> cases b2 <;> cases b3 <;> cases b4 <;> (go_wp2_with fail; go_ret; exact ⟨rfl, HBw.out⟩)
set_option maxRecDepth 100000 in
set_option maxHeartbeats 4000000 in
theorem fagent_any (ks : List Ck) (A : Option Addr) (c : Nat) (l : List Qy) (B : Option Addr) (d : Nat) (g : Int) (w : World) :
    Calls Try.prog 60 #[dV A c ks B d l, .int .i64 g] w fun e w' => e = .returned (.bool (hasB ks.length g)) ∧ Below w.heap.size w w' := by
  have HBel := Lib.hid (one_alloc w (dB A c ks B d l))
  have h0 : (w.alloc (dB A c ks B d l)).heap[w.heap.size]? = some (dB A c ks B d l) := heap_new rfl
  have c_d := fun j => cell_of_row _ _ j _ _ _ h0
  have z_d := lt_some h0
  clear h0
  have HE := Lib.hid (show hasB ks.length g = (decide (0 ≤ g) && decide (g < (ks.length : Int))) from rfl)
  rw [HE.out]
  clear HE
  obtain ⟨b1, h1⟩ : ∃ b, b = decide (0 ≤ g) := ⟨_, rfl⟩
  obtain ⟨b2, h2⟩ : ∃ b, b = decide (g < (ks.length : Int)) := ⟨_, rfl⟩
  rw [← h1, ← h2]
  replace h1 := h1.symm
  replace h2 := h2.symm
  go_enter Try.func60, Try.ntmps60
  cases b1 <;> cases b2 <;> (go_wp2_with fail; go_ret; exact ⟨rfl, HBel.out⟩)
set_option maxRecDepth 100000 in
set_option maxHeartbeats 4000000 in
theorem has_any (ks : List Ck) (A : Option Addr) (c : Nat) (l : List Qy) (B : Option Addr) (d : Nat) (g : Int) (w : World) :
    Calls Try.prog 113 #[dV A c ks B d l, .int .i64 g] w fun e w' => e = .returned (.bool (hasB ks.length g)) ∧ Below w.heap.size w w' := by
  have HBel := Lib.hid (one_alloc w (.cells #[.slice A ks.length c, .slice B l.length d] 149))
  have h0 : (w.alloc (.cells #[.slice A ks.length c, .slice B l.length d] 149)).heap[w.heap.size]? = some (.cells #[.slice A ks.length c, .slice B l.length d] 149) := heap_new rfl
  have c_d := fun j => cell_of_row _ _ j _ _ _ h0
  have z_d := lt_some h0
  clear h0
  have HE := Lib.hid (show hasB ks.length g = (decide (0 ≤ g) && decide (g < (ks.length : Int))) from rfl)
  rw [HE.out]
  clear HE
  obtain ⟨b1, h1⟩ : ∃ b, b = decide (0 ≤ g) := ⟨_, rfl⟩
  obtain ⟨b2, h2⟩ : ∃ b, b = decide (g < (ks.length : Int)) := ⟨_, rfl⟩
  rw [← h1, ← h2]
  replace h1 := h1.symm
  replace h2 := h2.symm
  go_enter Try.func113, Try.ntmps113
  cases b1 <;> cases b2 <;> (go_wp2_with fail; go_ret; exact ⟨rfl, HBel.out⟩)
def sameQ (a b : List Qy) : Bool := decide (a = b)
theorem at_ne {α : Type} {a b : List α} {k : Nat} {x y : α} (h1 : a[k]? = some x) (h2 : b[k]? = some y) (hne : x ≠ y) : a ≠ b := fun e => hne (by rw [e, h2] at h1; exact (Option.some.inj h1).symm)
theorem list_same {α : Type} {a b : List α} (hl : a.length = b.length) (h : ∀ (j : Nat) (x y : α), a[j]? = some x → b[j]? = some y → x = y) : a = b := by
  apply List.ext_getElem? 
  intro j
  rcases Nat.lt_or_ge j a.length with q | q
  · rw [List.getElem?_eq_getElem q, List.getElem?_eq_getElem (by omega)]
    exact congrArg some (h j _ _ (List.getElem?_eq_getElem q) (List.getElem?_eq_getElem (by omega)))
  · rw [List.getElem?_eq_none q, List.getElem?_eq_none (by omega)]
theorem qy_eq_bool (p q : Qy) : decide (p = q) = (p.agent == q.agent && (p.kind == q.kind && (p.a.n == q.a.n && (p.a.d == q.a.d && (p.b.n == q.b.n && (p.b.d == q.b.d && (p.ans.n == q.ans.n && p.ans.d == q.ans.d))))))) := by
  by_cases e : p = q
  · subst e; simp
  · rw [decide_eq_false e]
    symm
    refine Bool.eq_false_iff.2 (fun h => e ?_)
    simp only [Bool.and_eq_true, beq_iff_eq] at h
    obtain ⟨h1, h2, h3, h4, h5, h6, h7, h8⟩ := h
    exact Qy.ext_ h1 h2 (Rt.ext_ h3 h4) (Rt.ext_ h5 h6) (Rt.ext_ h7 h8)
end Go.Proofs.Ytgcbmnohhbcfiaa
