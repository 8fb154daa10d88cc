/- Regions that draw their order: what may come up, reckoned by masks (quick for the kernel), and two blocks made in either order. -/
import Derived.Test.YtgcbmnohhbcfiaaFlowR
namespace Go.Proofs.Ytgcbmnohhbcfiaa
open Go.RowKit Go.Deep
set_option linter.unusedVariables false
set_option linter.unusedSimpArgs false

def afterM (o : Oper) : Nat := o.after.toList.foldl (fun m e => if Region.binds .any e then m ||| (1 <<< e.on) else m) 0
def slotM (l : List Nat) : Nat := l.foldl (fun m d => m ||| (1 <<< d)) 0
def writesM (o : Oper) : Nat := match o.dst with
  | some d => 1 <<< d
  | none => 0
def tabOf (ops : Array Oper) : List (Nat × Nat × Nat) := ops.toList.map fun o => (afterM o, slotM (o.looksAt ops), writesM o)
def arrOf (n L : Nat) : Array Bool := ((List.range n).map fun i => L.testBit i).toArray
theorem arrOf_size (n L : Nat) : (arrOf n L).size = n := by simp [arrOf]
theorem arrOf_getD (n L i : Nat) (d : Bool) : (arrOf n L).getD i d = if i < n then L.testBit i else d := by
  unfold arrOf
  by_cases h : i < n
  · rw [if_pos h]; simp [Array.getD, h]
  · rw [if_neg h]; simp [Array.getD, h]
theorem arrOf_zero (n : Nat) : arrOf n 0 = Array.replicate n false := by
  refine Array.ext (by simp [arrOf]) fun i h1 h2 => ?_
  simp [arrOf]
theorem bit_set (L i j : Nat) : (L ||| (1 <<< i)).testBit j = (decide (j = i) || L.testBit j) := by
  rw [Nat.testBit_or, Nat.testBit_shiftLeft]
  by_cases h : j = i
  · subst h; simp
  · rw [decide_eq_false h]
    by_cases k : i ≤ j
    · have : j - i ≠ 0 := by omega
      cases e : j - i with
      | zero => omega
      | succ q => simp [k, Nat.testBit_succ]
    · simp [k]
theorem arrOf_set (n L i : Nat) : (arrOf n L).setIfInBounds i true = arrOf n (L ||| (1 <<< i)) := by
  refine Array.ext (by simp [arrOf]) fun j h1 h2 => ?_
  have hj : j < n := by simpa [arrOf] using h2
  rw [Array.getElem_setIfInBounds (by simpa [arrOf] using hj)]
  have e : (arrOf n (L ||| (1 <<< i)))[j] = (L ||| (1 <<< i)).testBit j := by simp [arrOf]
  rw [e, bit_set]
  by_cases h : i = j
  · subst h; simp
  · rw [if_neg h, decide_eq_false (Ne.symm h)]; simp [arrOf]
/-- Bits of a mask that is built up. -/
theorem foldM_bit {α : Type} (c : α → Bool) (f : α → Nat) (j : Nat) : ∀ (l : List α) (m : Nat), (l.foldl (fun m e => if c e then m ||| (1 <<< f e) else m) m).testBit j = (m.testBit j || l.any fun e => c e && decide (j = f e))
  | [], m => by simp
  | e :: l, m => by
    rw [List.foldl_cons, foldM_bit c f j l, List.any_cons]
    by_cases h : c e = true
    · rw [if_pos h, bit_set, h]; simp [Bool.or_assoc, Bool.or_comm, Bool.or_left_comm]
    · rw [if_neg h]; simp [h]
theorem sub_mask {m L : Nat} (h : (m &&& L == m) = true) (j : Nat) (hj : m.testBit j = true) : L.testBit j = true := by
  have e : m &&& L = m := by simpa using h
  rw [← e, Nat.testBit_and] at hj
  simp only [Bool.and_eq_true] at hj
  exact hj.2
theorem mask_sub {m L : Nat} (h : ∀ j, m.testBit j = true → L.testBit j = true) : (m &&& L == m) = true := by
  have e : m &&& L = m := Nat.eq_of_testBit_eq fun j => by
    rw [Nat.testBit_and]
    cases k : m.testBit j with
    | false => rfl
    | true => rw [h j k]; rfl
  simpa using e
theorem and_zero {x y : Nat} (h : (x &&& y == 0) = true) {j : Nat} (hx : x.testBit j = true) : y.testBit j = false := by
  have e : x &&& y = 0 := by simpa using h
  have := congrArg (fun z => Nat.testBit z j) e
  simp only [Nat.testBit_and, hx, Bool.true_and, Nat.zero_testBit] at this
  exact this
theorem afterM_bit (o : Oper) (j : Nat) : (afterM o).testBit j = o.after.toList.any fun e => Region.binds .any e && decide (j = e.on) := by
  unfold afterM; rw [foldM_bit (fun e => Region.binds .any e) (fun e => e.on)]; simp
theorem slotM_bit (l : List Nat) (j : Nat) : (slotM l).testBit j = l.contains j := by
  have h := foldM_bit (fun _ => true) (fun d : Nat => d) j l 0
  simp only [if_true, Nat.zero_testBit, Bool.false_or, Bool.true_and] at h
  unfold slotM
  rw [h, List.contains_eq_any_beq]
  congr 1
theorem writesM_bit {o : Oper} {d : Nat} (h : o.dst = some d) : (writesM o).testBit d = true := by
  unfold writesM; rw [h]
  have h := bit_set 0 d d
  rw [Nat.zero_or] at h
  rw [h]; simp
def readyGo (L : Nat) : List (Nat × Nat × Nat) → Nat → List Nat
  | [], _ => []
  | (m, _) :: t, i => if !L.testBit i && (m &&& L == m) then i :: readyGo L t (i + 1) else readyGo L t (i + 1)
section
variable {P : Program} {ops : Array Oper} {Q : Exit → Act → World → Prop} {R : World → Prop}
theorem mask_ok {L n : Nat} (hL : L < 2 ^ n) (o : Oper) : (afterM o &&& L == afterM o) = o.after.all fun e => !Region.binds .any e || (arrOf n L).getD e.on false := by
  have key : ∀ j, (if j < n then L.testBit j else false) = L.testBit j := fun j => by
    by_cases h : j < n
    · rw [if_pos h]
    · rw [if_neg h]; exact (Nat.testBit_lt_two_pow (Nat.lt_of_lt_of_le hL (Nat.pow_le_pow_right (by omega) (by omega)))).symm
  have e1 : (o.after.all fun e => !Region.binds .any e || (arrOf n L).getD e.on false) = o.after.toList.all fun e => !Region.binds .any e || L.testBit e.on := by
    rw [← Array.all_toList]
    congr 1
    funext e
    rw [arrOf_getD, key]
  rw [e1, Bool.eq_iff_iff, List.all_eq_true]
  constructor
  · intro h e he
    by_cases hb : Region.binds .any e = true
    · rw [hb]
      have := sub_mask h e.on (by rw [afterM_bit, List.any_eq_true]; exact ⟨e, he, by simp [hb]⟩)
      simp [this]
    · simp at hb; simp [hb]
  · intro h
    refine mask_sub fun j hj => ?_
    rw [afterM_bit, List.any_eq_true] at hj
    obtain ⟨e, he, k⟩ := hj
    simp only [Bool.and_eq_true, decide_eq_true_eq] at k
    have := h e he
    rw [k.1] at this
    rw [k.2]; simpa using this
theorem readyGo_mem {L i : Nat} : ∀ (t : List (Nat × Nat × Nat)) (k : Nat), i ∈ readyGo L t k ↔ ∃ x, k ≤ i ∧ t[i - k]? = some x ∧ (!L.testBit i && (x.1 &&& L == x.1)) = true
  | [], k => by simp [readyGo]
  | (m, q) :: t, k => by
    unfold readyGo
    have ih := readyGo_mem (L := L) (i := i) t (k + 1)
    have step : (∃ x, k + 1 ≤ i ∧ t[i - (k + 1)]? = some x ∧ (!L.testBit i && (x.1 &&& L == x.1)) = true) ↔ (∃ x, k ≤ i ∧ i ≠ k ∧ ((m, q) :: t)[i - k]? = some x ∧ (!L.testBit i && (x.1 &&& L == x.1)) = true) := by
      constructor
      · rintro ⟨x, h1, h2, h3⟩
        refine ⟨x, by omega, by omega, ?_, h3⟩
        rw [show i - k = (i - (k + 1)) + 1 by omega]; simpa using h2
      · rintro ⟨x, h1, hne, h2, h3⟩
        refine ⟨x, by omega, ?_, h3⟩
        rw [show i - k = (i - (k + 1)) + 1 by omega] at h2; simpa using h2
    split
    · rename_i c
      rw [List.mem_cons, ih, step]
      constructor
      · rintro (rfl | ⟨x, h1, _, h2, h3⟩)
        · exact ⟨(m, q), Nat.le_refl _, by simp, c⟩
        · exact ⟨x, h1, h2, h3⟩
      · rintro ⟨x, h1, h2, h3⟩
        by_cases e : i = k
        · exact Or.inl e
        · exact Or.inr ⟨x, h1, e, h2, h3⟩
    · rename_i c
      rw [ih, step]
      constructor
      · rintro ⟨x, h1, _, h2, h3⟩; exact ⟨x, h1, h2, h3⟩
      · rintro ⟨x, h1, h2, h3⟩
        refine ⟨x, h1, fun e => ?_, h2, h3⟩
        subst e
        simp only [Nat.sub_self, List.getElem?_cons_zero, Option.some.injEq] at h2
        subst h2
        exact c h3
theorem readyGo_sorted {L : Nat} : ∀ (t : List (Nat × Nat × Nat)) (k : Nat), (readyGo L t k).Pairwise (· < ·)
  | [], k => by simp [readyGo]
  | (m, q) :: t, k => by
    unfold readyGo
    have ih := readyGo_sorted (L := L) t (k + 1)
    split
    · refine List.pairwise_cons.2 ⟨fun j hj => ?_, ih⟩
      obtain ⟨x, h1, _⟩ := (readyGo_mem t (k + 1)).1 hj
      omega
    · exact ih
theorem tab_at {i : Nat} {o : Oper} (h : ops[i]? = some o) : (tabOf ops)[i]? = some (afterM o, slotM (o.looksAt ops), writesM o) := by
  unfold tabOf
  rw [List.getElem?_map, Array.getElem?_toList, h]; rfl
theorem ready_mem {L : Nat} (hL : L < 2 ^ ops.size) {i : Nat} : i ∈ Region.ready .any ops (arrOf ops.size L) ↔ i ∈ readyGo L (tabOf ops) 0 := by
  rw [readyGo_mem]
  unfold Region.ready
  rw [List.mem_filter, List.mem_range]
  constructor
  · rintro ⟨h1, h2⟩
    have ho : ops[i]? = some ops[i] := Array.getElem?_eq_getElem h1
    rw [ho, arrOf_getD, if_pos h1] at h2
    simp only [Option.map_some, Option.getD_some] at h2
    refine ⟨_, Nat.zero_le _, by rw [Nat.sub_zero]; exact tab_at ho, ?_⟩
    rw [mask_ok hL]; exact h2
  · rintro ⟨x, _, h2, h3⟩
    rw [Nat.sub_zero] at h2
    have h1 : i < ops.size := by
      rcases Nat.lt_or_ge i ops.size with q | q
      · exact q
      · exfalso
        have : (tabOf ops)[i]? = none := List.getElem?_eq_none (by unfold tabOf; simpa using q)
        rw [this] at h2; cases h2
    have ho : ops[i]? = some ops[i] := Array.getElem?_eq_getElem h1
    rw [tab_at ho] at h2
    obtain rfl := Option.some.inj h2
    refine ⟨h1, ?_⟩
    rw [ho, arrOf_getD, if_pos h1]
    simp only [Option.map_some, Option.getD_some]
    rw [← mask_ok hL]; exact h3
theorem ready_T {L : Nat} (hL : L < 2 ^ ops.size) : Region.ready .any ops (arrOf ops.size L) = readyGo L (tabOf ops) 0 := by
  have s1 : (Region.ready .any ops (arrOf ops.size L)).Pairwise (· < ·) := by
    unfold Region.ready; exact List.Pairwise.filter _ List.pairwise_lt_range
  have s2 := readyGo_sorted (L := L) (tabOf ops) 0
  have key : ∀ (a b : List Nat), a.Pairwise (· < ·) → b.Pairwise (· < ·) → (∀ x, x ∈ a ↔ x ∈ b) → a = b := by
    intro a
    induction a with
    | nil =>
      intro b _ _ h
      cases b with
      | nil => rfl
      | cons y b => exact absurd ((h y).2 (by simp)) (by simp)
    | cons x a ih =>
      intro b ha hb h
      cases b with
      | nil => exact absurd ((h x).1 (by simp)) (by simp)
      | cons y b =>
        obtain ⟨xa, ha'⟩ := List.pairwise_cons.1 ha
        obtain ⟨yb, hb'⟩ := List.pairwise_cons.1 hb
        have e : x = y := by
          have p := (h x).1 (by simp)
          have q := (h y).2 (by simp)
          rw [List.mem_cons] at p q
          rcases p with p | p
          · exact p
          · rcases q with q | q
            · exact q.symm
            · have := xa _ q; have := yb _ p; omega
        subst e
        congr 1
        refine ih b ha' hb' fun z => ?_
        have hz := h z
        rw [List.mem_cons, List.mem_cons] at hz
        constructor
        · intro k
          have : z ≠ x := by have := xa _ k; omega
          exact (hz.1 (Or.inr k)).resolve_left this
        · intro k
          have : z ≠ x := by have := yb _ k; omega
          exact (hz.2 (Or.inr k)).resolve_left this
  exact key _ _ s1 s2 fun i => ready_mem hL
def freeT (r w i L : Nat) : List (Nat × Nat × Nat) → Nat → Bool
  | [], _ => true
  | (m', r', w') :: t, j => (j == i || L.testBit j || m'.testBit i || ((w &&& r' == 0) && (w &&& w' == 0) && (w' &&& r == 0))) && freeT r w i L t (j + 1)
theorem freeT_at {r w i L : Nat} : ∀ (t : List (Nat × Nat × Nat)) (k : Nat), freeT r w i L t k = true → ∀ (j : Nat) x, t[j]? = some x → (k + j == i || L.testBit (k + j) || x.1.testBit i || ((w &&& x.2.1 == 0) && (w &&& x.2.2 == 0) && (x.2.2 &&& r == 0))) = true
  | [], k, _, j, x, hx => by simp at hx
  | (m', r', w') :: t, k, h, j, x, hx => by
    unfold freeT at h
    simp only [Bool.and_eq_true] at h
    match j, hx with
    | 0, hx =>
      obtain rfl : (m', r', w') = x := by simpa using hx
      simpa using h.1
    | j + 1, hx =>
      have := freeT_at t (k + 1) h.2 j x (by simpa using hx)
      rw [show k + (j + 1) = k + 1 + j by omega]; exact this
def takeT (T : List (Nat × Nat × Nat)) : List Nat → Nat → Bool
  | [], _ => true
  | i :: l, L => (match T[i]? with
    | some (m, r, w) => !L.testBit i && (m &&& L == m) && freeT r w i L T 0
    | none => false) && takeT T l (L ||| (1 <<< i))
def maskAfter : List Nat → Nat → Nat
  | [], L => L
  | i :: l, L => maskAfter l (L ||| (1 <<< i))
theorem after_T (n : Nat) : ∀ (is : List Nat) (L : Nat), listedAfter is (arrOf n L) = arrOf n (maskAfter is L)
  | [], L => rfl
  | i :: is, L => by unfold listedAfter maskAfter; rw [arrOf_set, after_T n is]
theorem bit_lt {L n i : Nat} (hL : L < 2 ^ n) (hi : i < n) : (L ||| (1 <<< i)) < 2 ^ n :=
  Nat.or_lt_two_pow hL (by rw [Nat.one_shiftLeft]; exact Nat.pow_lt_pow_right (by omega) hi)
theorem take_T : ∀ (is : List Nat) (L : Nat), L < 2 ^ ops.size → takeT (tabOf ops) is L = true → takeB ops is (arrOf ops.size L) = true
  | [], L, _, _ => rfl
  | i :: is, L, hL, h => by
    unfold takeT at h
    unfold takeB
    simp only [Bool.and_eq_true] at h ⊢
    obtain ⟨h1, h2⟩ := h
    have hi : i < ops.size := by
      rcases Nat.lt_or_ge i ops.size with q | q
      · exact q
      · exfalso
        have : (tabOf ops)[i]? = none := List.getElem?_eq_none (by unfold tabOf; simpa using q)
        rw [this] at h1; simp at h1
    have ho : ops[i]? = some ops[i] := Array.getElem?_eq_getElem hi
    rw [tab_at ho] at h1
    simp only [Bool.and_eq_true] at h1
    obtain ⟨⟨n1, n2⟩, n3⟩ := h1
    refine ⟨⟨?_, ?_⟩, by rw [arrOf_set]; exact take_T is _ (bit_lt hL hi) h2⟩
    · unfold Region.free
      rw [ho]
      simp only [List.all_eq_true, List.mem_range]
      intro j hj
      have hoj : ops[j]? = some ops[j] := Array.getElem?_eq_getElem hj
      have f := freeT_at _ 0 n3 j _ (tab_at hoj)
      rw [hoj, arrOf_getD, if_pos hj]
      simp only [Nat.zero_add, Bool.or_eq_true, Bool.and_eq_true] at f ⊢
      rcases f with ((f | f) | f) | f
      · exact Or.inl (Or.inl f)
      · exact Or.inl (Or.inr f)
      · refine Or.inr (Or.inl ?_)
        rw [afterM_bit, List.any_eq_true] at f
        obtain ⟨e, he, k⟩ := f
        rw [Array.any_eq_true']
        simp only [Bool.and_eq_true, decide_eq_true_eq] at k
        exact ⟨e, by simpa using he, by simp [k.1, k.2]⟩
      · refine Or.inr (Or.inr ?_)
        obtain ⟨⟨f1, f2⟩, f3⟩ := f
        unfold Oper.apart
        rw [Bool.and_eq_true]
        constructor
        · cases hd : ops[i].dst with
          | none => rfl
          | some d =>
            have b := writesM_bit hd
            have c1 := and_zero f1 b
            have c2 := and_zero f2 b
            rw [slotM_bit] at c1
            simp only [c1, Bool.not_false, Bool.true_and]
            rw [bne_iff_ne]
            intro q
            rw [writesM_bit q] at c2; cases c2
        · cases hd : ops[j].dst with
          | none => rfl
          | some d =>
            have c1 := and_zero f3 (writesM_bit hd)
            rw [slotM_bit] at c1
            simp only [c1, Bool.not_false]
    · rw [ready_T hL, List.contains_iff_mem, readyGo_mem]
      exact ⟨_, Nat.zero_le _, by rw [Nat.sub_zero]; exact tab_at ho, by rw [Bool.and_eq_true]; exact ⟨n1, n2⟩⟩
/-- What yields the same from here on is taken. -/
theorem wpAnyT_go {n L : Nat} {a : Act} {w1 : World} (hRg : Grows R) (h1 : R w1) (is : List Nat) (m : Nat)
    (hB : (decide (ops.size = n) && decide (L < 2 ^ n) && Region.noSelect ops && takeT (tabOf ops) is L && dstsB a.tmps.size (pickOps ops is) [] && decide ((pickOps ops is).length = is.length)) = true)
    (hA : ∃ A, (∀ G, Grows G → Nonempty (GE R G) → wpQuiet P ops (fun w' => ∃ e : GE R G, w' = e.w) (fun a' => a' = A) (pickOps ops is) a) ∧
      wpAnyE P .any ops (NoPanic Q) R m (arrOf n (maskAfter is L)) A w1) : wpAnyE P .any ops (NoPanic Q) R (is.length + m) (arrOf n L) a w1 := by
  simp only [Bool.and_eq_true, decide_eq_true_eq] at hB
  obtain ⟨⟨⟨⟨⟨rfl, b0⟩, b1⟩, b2⟩, b3⟩, b4⟩ := hB
  refine wpAnyE_goR hRg h1 is m ?_ ?_
  · rw [b1, take_T is L b0 b2, b3, decide_eq_true b4]; rfl
  · obtain ⟨A, hq, h⟩ := hA
    exact ⟨A, hq, by rw [after_T]; exact h⟩
/-- All that may come up comes up. -/
theorem wpAnyT_all {rs : List Nat} {fuel n L : Nat} {a : Act} {w : World} (hB : (decide (ops.size = n) && decide (L < 2 ^ n) && decide (readyGo L (tabOf ops) 0 = rs)) = true) (hne : rs ≠ [])
    (h : ∀ W, Below w.heap.size w W → R W → ∀ i ∈ rs, wpOp P ops (NoPanic Q) i (fun a' w' => R w' ∧ wpAnyE P .any ops (NoPanic Q) R fuel (arrOf n (L ||| (1 <<< i))) a' w') a W) : wpAnyE P .any ops (NoPanic Q) R (fuel + 1) (arrOf n L) a w := by
  simp only [Bool.and_eq_true, decide_eq_true_eq] at hB
  obtain ⟨⟨rfl, b0⟩, b1⟩ := hB
  refine wpAnyE_all (by rw [ready_T b0]; exact b1) hne fun W hW hR i hi => ?_
  have := h W hW hR i hi
  rw [arrOf_set]; exact this
theorem wpAnyT_done {n L : Nat} {a : Act} {w : World} (hB : (decide (ops.size = n) && decide (L < 2 ^ n) && decide (readyGo L (tabOf ops) 0 = [])) = true) (h : ∀ W, Below w.heap.size w W → R W → NoPanic Q .normal a W) (fuel : Nat) : wpAnyE P .any ops (NoPanic Q) R fuel (arrOf n L) a w := by
  simp only [Bool.and_eq_true, decide_eq_true_eq] at hB
  obtain ⟨⟨rfl, b0⟩, b1⟩ := hB
  exact wpAnyE_done (by rw [ready_T b0]; exact b1) h fuel
end
/-- The beginning. -/
theorem wp_region_T {P : Program} {l : List Oper} {id : Nat} {Q : Exit → Act → World → Prop} {a : Act} {w : World} (R : World → Prop) (n : Nat) (hm : P.follows .mixedOrders = true) (hn : l.length = n) (hR : R w.drew)
    (h : ∀ w0, Below w.heap.size w w0 → wpAnyE P .any l.toArray (NoPanic Q) R n (arrOf n 0) a w0) : (Code.region id l.toArray true).wp P Q a w :=
  wp_region_R R n hm hn hR (fun w0 hw => by have := h w0 hw; rwa [arrOf_zero] at this)
section
variable {P : Program} {ops : Array Oper} {Q : Exit → Act → World → Prop} {R : World → Prop}
theorem Mx.swap2 {w W : World} {L : List (Nat × Obj)} {Rr : List Rw} {p q : Nat × Obj} (h : Mx w (p :: q :: L) Rr W) : Mx w (q :: p :: L) Rr W :=
  ⟨h.bx.perm (List.Perm.swap _ _ _), h.own, fun r hr g hg hm => h.apart r hr g hg (((List.Perm.swap p q L).symm.map _).mem_iff.2 hm), h.nd⟩
/-- Two blocks are made, in either order. -/
theorem wpAnyT_two {base : World} {L : List (Nat × Obj)} {Rr : List Rw} {n M fuel : Nat} {a : Act} {W0 : World} {i j : Nat} {oi oj : Obj}
    (h0 : Mx base L Rr W0) (hRm : ∀ W, Mx base L Rr W → R W)
    (hB : (decide (ops.size = n) && decide (M < 2 ^ n) && decide (i < n) && decide (j < n) && decide (readyGo M (tabOf ops) 0 = [i, j]) && decide (readyGo (M ||| (1 <<< i)) (tabOf ops) 0 = [j]) && decide (readyGo (M ||| (1 <<< j)) (tabOf ops) 0 = [i])) = true)
    (hA : ∃ ai aj : Nat → Act, ∃ aij : Nat → Nat → Act,
      (∀ (g : Nat) (W : World) (K : Act → World → Prop), W.heap.size = g → K (ai g) (W.alloc oi) → wpOp P ops (NoPanic Q) i K a W) ∧
      (∀ (gi g : Nat) (W : World) (K : Act → World → Prop), W.heap.size = g → K (aij gi g) (W.alloc oj) → wpOp P ops (NoPanic Q) j K (ai gi) W) ∧
      (∀ (g : Nat) (W : World) (K : Act → World → Prop), W.heap.size = g → K (aj g) (W.alloc oj) → wpOp P ops (NoPanic Q) j K a W) ∧
      (∀ (gj g : Nat) (W : World) (K : Act → World → Prop), W.heap.size = g → K (aij g gj) (W.alloc oi) → wpOp P ops (NoPanic Q) i K (aj gj) W) ∧
      ∀ gi gj W, Mx base ((gj, oj) :: (gi, oi) :: L) Rr W → wpAnyE P .any ops (NoPanic Q) R fuel (arrOf n ((M ||| (1 <<< i)) ||| (1 <<< j))) (aij gi gj) W) :
    wpAnyE P .any ops (NoPanic Q) R (fuel + 1 + 1) (arrOf n M) a W0 := by
  simp only [Bool.and_eq_true, decide_eq_true_eq] at hB
  obtain ⟨⟨⟨⟨⟨⟨rfl, b0⟩, bi⟩, bj⟩, r0⟩, r1⟩, r2⟩ := hB
  obtain ⟨ai, aj, aij, si, sij, sj, sji, h⟩ := hA
  have ei : (M ||| (1 <<< j)) ||| (1 <<< i) = (M ||| (1 <<< i)) ||| (1 <<< j) := by rw [Nat.or_assoc, Nat.or_assoc, Nat.or_comm (1 <<< j)]
  refine wpAnyE_all (rs := [i, j]) (by rw [ready_T b0]; exact r0) (by simp) fun W1 hW1 hR1 k hk => ?_
  have m1 := h0.next hW1
  rw [arrOf_set]
  rcases List.mem_cons.1 hk with rfl | hk
  · refine si _ W1 _ rfl ⟨hRm _ (m1.new rfl oi).drop, ?_⟩
    refine wpAnyE_all (rs := [j]) (by rw [ready_T (bit_lt b0 bi)]; exact r1) (by simp) fun W2 hW2 hR2 k2 hk2 => ?_
    obtain rfl := List.mem_singleton.1 hk2
    have m2 := (m1.new rfl oi).next hW2
    rw [arrOf_set]
    exact sij _ _ W2 _ rfl ⟨hRm _ ((m2.new rfl oj).drop).drop, h _ _ _ (m2.new rfl oj)⟩
  · obtain rfl := List.mem_singleton.1 hk
    refine sj _ W1 _ rfl ⟨hRm _ (m1.new rfl oj).drop, ?_⟩
    refine wpAnyE_all (rs := [i]) (by rw [ready_T (bit_lt b0 bj)]; exact r2) (by simp) fun W2 hW2 hR2 k2 hk2 => ?_
    obtain rfl := List.mem_singleton.1 hk2
    have m2 := (m1.new rfl oj).next hW2
    rw [arrOf_set, ei]
    exact sji _ _ W2 _ rfl ⟨hRm _ ((m2.new rfl oi).drop).drop, h _ _ _ (m2.new rfl oi).swap2⟩
end
end Go.Proofs.Ytgcbmnohhbcfiaa
