/- Regions that draw their order, whose calls make memory, and which make and write memory themselves: what yields the same in every world of a kind is taken first, the world growing in between as it likes. -/
import Derived.Test.YtgcbmnohhbcfiaaKit
import Derived.Deep.RegionHeld3
namespace Go.Proofs.Ytgcbmnohhbcfiaa
open Go.RowKit
set_option linter.unusedVariables false
set_option linter.unusedSimpArgs false

section
variable {P : Program} {ops : Array Oper} {md : Region.Mode} {Q : Exit → Act → World → Prop} {R : World → Prop}

/-- Whatever order is picked from here on, the world growing between the operations; R holds behind each. -/
def wpAnyE (P : Program) (md : Region.Mode) (ops : Array Oper) (Q : Exit → Act → World → Prop) (R : World → Prop) : Nat → Array Bool → Act → World → Prop
  | 0, listed, a, w => Region.ready md ops listed = [] ∧ ∀ W, Below w.heap.size w W → R W → Q .normal a W
  | fuel + 1, listed, a, w => ∀ W, Below w.heap.size w W → R W →
    (Region.ready md ops listed = [] → Q .normal a W) ∧
    ∀ i ∈ Region.ready md ops listed, wpOp P ops Q i (fun a' w' => R w' ∧ wpAnyE P md ops Q R fuel (listed.setIfInBounds i true) a' w') a W

theorem grow_trans {w w1 w2 : World} (h : Below w.heap.size w w1) (k : Below w1.heap.size w1 w2) : Below w.heap.size w w2 := bcall h h.size k

theorem wpAny_of_E : ∀ (fuel : Nat) (listed : Array Bool) (a : Act) (w : World), R w → wpAnyE P md ops Q R fuel listed a w → wpAny P md ops Q fuel listed a w
  | 0, _, _, w, hR, h => ⟨h.1, h.2 w (Below.refl _ _) hR⟩
  | fuel + 1, _, _, w, hR, h => by
    have h1 := h w (Below.refl _ _) hR
    exact ⟨h1.1, fun i hi => wpOp_mono (fun a' w' k => wpAny_of_E fuel _ a' w' k.1 k.2) (h1.2 i hi)⟩

theorem wpAnyE_grow {fuel : Nat} {listed : Array Bool} {a : Act} {w w1 : World} (hb : Below w.heap.size w w1) (h : wpAnyE P md ops Q R fuel listed a w) : wpAnyE P md ops Q R fuel listed a w1 := by
  cases fuel with
  | zero => exact ⟨h.1, fun W hW => h.2 W (grow_trans hb hW)⟩
  | succ fuel => exact fun W hW => h W (grow_trans hb hW)

/-- In every world that meets R the operation yields v, and lets the world grow at most. -/
def YieldsE (P : Program) (ops : Array Oper) (R : World → Prop) (o : Oper) (v : Value) (a : Act) : Prop :=
  (Region.wanted o (yielded ops a.tmps) = true ∧ ∀ W, R W → o.quietAt P a (fun W' => Below W.heap.size W W' ∧ R W') W v) ∨
  (Region.wanted o (yielded ops a.tmps) = false ∧ v = undef)

theorem YieldsE.of_same {o : Oper} {v : Value} {a a' : Act} (hy : YieldsE P ops R o v a) (he : execOp a'.eval o = execOp a.eval o)
    (hw : Region.wanted o (yielded ops a'.tmps) = Region.wanted o (yielded ops a.tmps)) : YieldsE P ops R o v a' := by
  unfold YieldsE Oper.quietAt at *
  rw [he, hw]; exact hy

theorem YieldsE.wpOp {i : Nat} {o : Oper} {v : Value} {a : Act} (hi : ops[i]? = some o) (hy : YieldsE P ops R o v a) {K : Act → World → Prop} {w : World} (hR : R w)
    (h : ∀ w', Below w.heap.size w w' → R w' → K (a.put o.dst v) w') : wpOp P ops Q i K a w := by
  unfold Go.wpOp
  simp only [hi]
  rcases hy with ⟨hw, hv⟩ | ⟨hw, rfl⟩
  · simp only [hw, if_true]
    exact .inl (Oper.wp_of_quiet (C := fun W' => Below w.heap.size w W' ∧ R W') (K := fun a' => a' = a.put o.dst v) ⟨Below.refl _ _, hR⟩ (fun a' w' hc ha => by subst ha; exact h w' hc.1 hc.2)
      ⟨v, fun W hW => by
        have hq := hv W hW.2
        unfold Oper.quietAt at *
        generalize (execOp a.eval o).run P W = r at *
        cases r with
        | ok n w' =>
          cases n <;> simp only [Oper.quietUpon] at hq ⊢
          · exact hq
          · exact hq
          · exact ⟨hq.1, hq.2.mono fun e w'' hh => ⟨hh.1, grow_trans hW.1 hh.2.1, hh.2.2⟩⟩
        | halt x w' => simp only [Oper.quietUpon] at hq, rfl⟩)
  · simp only [hw, Bool.false_eq_true, if_false]
    exact h w (Below.refl _ _) hR

/-- An operation apart from oi: whether oi's value is there already makes no difference to it; what it keeps of the state stays. -/
theorem wpOp_comm {j : Nat} {oi oj : Oper} {v : Value} (hj : ops[j]? = some oj) (hap : oi.apart ops oj = true) (hsj : ∀ cs b, oj.op ≠ .select cs b)
    (hQ : ∀ c a w, Q (.panic c) (a.put oi.dst v) w → Q (.panic c) a w) {Y : Act → Prop} (hY : ∀ a u, Y a → Y (a.put oj.dst u)) (hYd : ∀ (a : Act) d, Y a → Y { a with defers := d :: a.defers })
    {K : Act → World → Prop} {a : Act} {w : World} (hy : Y a) (h : wpOp P ops Q j K (a.put oi.dst v) w) : wpOp P ops Q j (fun a' w' => Y a' ∧ K (a'.put oi.dst v) w') a w := by
  obtain ⟨h1, h2, h3⟩ := Oper.apart_spec hap
  have hx := execOp_put oj hsj a oi.dst v h1
  have hwt := wanted_put oj a oi.dst v h1
  have sw : ∀ u, (a.put oi.dst v).put oj.dst u = (a.put oj.dst u).put oi.dst v := fun u => Act.put_comm a v u h2
  unfold Go.wpOp at h ⊢
  simp only [hj, hwt] at h ⊢
  by_cases hw : Region.wanted oj (yielded ops a.tmps) = true
  · rw [if_pos hw] at h ⊢
    rcases h with h | ⟨k1, k2⟩
    · left
      unfold Oper.wp at h ⊢
      rw [hx] at h
      generalize (execOp a.eval oj).run P w = r at h ⊢
      rcases r with ⟨n, w'⟩ | ⟨x, w'⟩
      · cases n with
        | value u => simp only [Oper.upon] at h ⊢; rw [sw] at h; exact ⟨hY _ _ hy, h⟩
        | skip => simp only [Oper.upon] at h ⊢; rw [sw] at h; exact ⟨hY _ _ hy, h⟩
        | defer d =>
          simp only [Oper.upon] at h ⊢
          refine ⟨hY _ _ (hYd _ _ hy), ?_⟩
          rw [← Act.put_comm _ v undef h2, ← Act.put_defers]; exact h
        | enter f args =>
          simp only [Oper.upon] at h ⊢
          refine Calls.mono h fun e w'' he => ?_
          cases e with
          | returned u => simp only at he ⊢; rw [sw] at he; exact ⟨hY _ _ hy, he⟩
          | panicked c => exact hQ _ _ _ he
          | outgrown => exact he
        | row row args =>
          simp only [Oper.upon] at h ⊢
          exact Rows.mono h fun u w'' he => ⟨hY _ _ hy, by rw [← sw]; exact he⟩
        | _ => simp only [Oper.upon] at h ⊢
      · cases x with
        | panic u => simp only [Oper.upon] at h ⊢; exact hQ _ _ _ h
        | _ => simp only [Oper.upon] at h ⊢ <;> exact h
    · right
      refine ⟨?_, k2⟩
      unfold Oper.asks at k1 ⊢; rw [hx] at k1; exact k1
  · rw [if_neg hw] at h ⊢
    rw [sw] at h
    exact ⟨hY _ _ hy, h⟩

/-- What yields in every world of the kind may be taken first. -/
theorem wpAnyE_first {i : Nat} {oi : Oper} {v : Value} (hi : ops[i]? = some oi) (hsel : ∀ (j : Nat) (o : Oper) cs b, ops[j]? = some o → o.op ≠ .select cs b)
    (hQ : ∀ c a w, Q (.panic c) (a.put oi.dst v) w → Q (.panic c) a w) : ∀ (fuel : Nat) (listed : Array Bool) (a : Act) (w : World),
      (∀ j oj, ops[j]? = some oj → j ≠ i → listed.getD j true = false → (∀ e ∈ oj.after, Region.binds md e = true → e.on ≠ i) → oi.apart ops oj = true) →
      i ∈ Region.ready md ops listed → YieldsE P ops R oi v a →
      wpAnyE P md ops Q R fuel (listed.setIfInBounds i true) (a.put oi.dst v) w → wpAnyE P md ops Q R (fuel + 1) listed a w := by
  intro fuel
  induction fuel with
  | zero =>
    intro listed a w _ hr hy H W hW hRW
    refine ⟨fun h => absurd (h ▸ hr) (by simp), fun j hj => ?_⟩
    by_cases e : j = i
    · subst e; exact hy.wpOp hi hRW fun w' hb hr' => ⟨hr', wpAnyE_grow (grow_trans hW hb) H⟩
    · have := ready_mono hj e
      rw [H.1] at this; cases this
  | succ fuel ih =>
    intro listed a w hfree hr hy H W hW hRW
    refine ⟨fun h => absurd (h ▸ hr) (by simp), fun j hj => ?_⟩
    by_cases e : j = i
    · subst e; exact hy.wpOp hi hRW fun w' hb hr' => ⟨hr', wpAnyE_grow (grow_trans hW hb) H⟩
    · have hH := (H W hW hRW).2 j (ready_mono hj e)
      obtain ⟨u1, oj, hoj, u2⟩ := mem_ready.1 hj
      obtain ⟨p1, _⟩ := mem_ready.1 hr
      have notYet : ∀ x ∈ oj.after, Region.binds md x = true → x.on ≠ i := fun x hx hb heq => by
        have q := u2 x hx hb
        rw [heq] at q
        rcases Nat.lt_or_ge i listed.size with k | k
        · simp [k] at p1 q; rw [p1] at q; cases q
        · simp [Array.getElem?_eq_none k] at q
      have hap := hfree j oj hoj e u1 notYet
      have hsp := Oper.apart_spec hap
      have hc := wpOp_comm (Y := YieldsE P ops R oi v) hoj hap (fun cs b => hsel j oj cs b hoj) hQ
        (fun a u k => k.of_same (execOp_put oi (fun cs b => hsel i oi cs b hi) a oj.dst u hsp.2.2) (wanted_put oi a oj.dst u hsp.2.2))
        (fun a d k => k.of_same rfl rfl) hy hH
      refine wpOp_mono (fun a' w' k => ⟨k.2.1, ih (listed.setIfInBounds j true) a' w' ?_ (ready_mono hr (Ne.symm e)) k.1 ?_⟩) hc
      · intro n on hn hni hun hno
        refine hfree n on hn hni ?_ hno
        by_cases hjn : j = n
        · subst hjn; exact u1
        · rw [getD_set_ne true hjn] at hun; exact hun
      · rw [Array.setIfInBounds_comm _ _ e]; exact k.2.2

/-- The same, the side conditions as Bools. -/
theorem wpAnyE_take {i : Nat} {oi : Oper} {v : Value} {fuel : Nat} {listed : Array Bool} {a : Act} {w : World} (hi : ops[i]? = some oi)
    (hs : Region.noSelect ops = true) (hf : Region.free md ops listed i = true) (hr : (Region.ready md ops listed).contains i = true)
    (hQ : ∀ c a w, Q (.panic c) (a.put oi.dst v) w → Q (.panic c) a w) (hy : YieldsE P ops R oi v a)
    (h : wpAnyE P md ops Q R fuel (listed.setIfInBounds i true) (a.put oi.dst v) w) : wpAnyE P md ops Q R (fuel + 1) listed a w :=
  wpAnyE_first hi (Region.noSelect_spec hs) hQ fuel listed a w (Region.free_spec hi hf) (by simpa using hr) hy h
/-- The beginning. -/
theorem wp_region_E {id : Nat} {a : Act} {w : World} (hm : P.follows .mixedOrders = true) (hR : R w.drew)
    (h : wpAnyE P .any ops Q R ops.size (Array.replicate ops.size false) a w.drew) : (Code.region id ops true).wp P Q a w :=
  wp_region_any hm (wpAny_of_E _ _ _ _ hR h)
/-- All that may come up comes up. -/
theorem wpAnyE_all {rs : List Nat} {fuel : Nat} {listed : Array Bool} {a : Act} {w : World} (hr : Region.ready md ops listed = rs) (hne : rs ≠ [])
    (h : ∀ W, Below w.heap.size w W → R W → ∀ i ∈ rs, wpOp P ops Q i (fun a' w' => R w' ∧ wpAnyE P md ops Q R fuel (listed.setIfInBounds i true) a' w') a W) : wpAnyE P md ops Q R (fuel + 1) listed a w :=
  fun W hW hRW => ⟨fun h0 => absurd (hr ▸ h0) hne, hr ▸ h W hW hRW⟩
/-- All have come up. -/
theorem wpAnyE_done {listed : Array Bool} {a : Act} {w : World} (hr : Region.ready md ops listed = []) (h : ∀ W, Below w.heap.size w W → R W → Q .normal a W) : ∀ fuel, wpAnyE P md ops Q R fuel listed a w
  | 0 => ⟨hr, h⟩
  | _ + 1 => fun W hW hRW => ⟨fun _ => h W hW hRW, by rw [hr]; simp⟩
end








/-- The worlds of which R and G hold. -/
structure GE (R G : World → Prop) where
  w : World
  h : R w
  g : G w
/-- What holds of a world holds of what has grown out of it. -/
def Grows (G : World → Prop) : Prop := ∀ W W', G W → Below W.heap.size W W' → G W'
theorem calls_ge {P : Program} {f : FuncId} {args : Array Value} {R G : World → Prop} (hR : Grows R) (hG : Grows G) {e : GE R G} {v : Value}
    (h : Calls P f args e.w fun r w' => r = .returned v ∧ Below e.w.heap.size e.w w') : Calls P f args e.w fun r w'' => r = .returned v ∧ ∃ e' : GE R G, w'' = e'.w :=
  h.mono fun _ w' ⟨hr, hb⟩ => ⟨hr, ⟨⟨w', hR _ _ e.h hb, hG _ _ e.g hb⟩, rfl⟩⟩
abbrev GC (R G : World → Prop) : World → Prop := fun w' => ∃ e : GE R G, w' = e.w

/-- The temporaries that operations write, each one once, none of them without. -/
def dstsB (n : Nat) : List Oper → List Nat → Bool
  | [], _ => true
  | o :: l, seen => match o.dst with
    | some d => decide (d < n) && !seen.contains d && dstsB n l (d :: seen)
    | none => false
/-- Operations that may be taken one behind the other. -/
def takeB (ops : Array Oper) : List Nat → Array Bool → Bool
  | [], _ => true
  | i :: l, listed => Region.free .any ops listed i && (Region.ready .any ops listed).contains i && takeB ops l (listed.setIfInBounds i true)
def listedAfter : List Nat → Array Bool → Array Bool
  | [], listed => listed
  | i :: l, listed => listedAfter l (listed.setIfInBounds i true)
def pickOps (ops : Array Oper) : List Nat → List Oper
  | [] => []
  | i :: l => match ops[i]? with
    | some o => o :: pickOps ops l
    | none => []

section
variable {P : Program} {ops : Array Oper}
theorem put_some (a : Act) (d : Nat) (v : Value) : (a.put (some d) v).tmps = a.tmps.setIfInBounds d v := rfl
/-- What no operation behind writes stands at the end as it stood. -/
theorem wpQuiet_keep {C : World → Prop} {A : Act} : ∀ (l : List Oper) (a : Act) (seen : List Nat) (n : Nat) (d : Nat), dstsB n l seen = true → d ∈ seen →
    wpQuiet P ops C (fun a' => a' = A) l a → A.tmps[d]? = a.tmps[d]?
  | [], a, seen, n, d, _, _, h => by
    have h' : a = A := h
    rw [h']
  | o :: l, a, seen, n, d, hB, hd, h => by
    unfold dstsB at hB
    cases hdst : o.dst with
    | none => rw [hdst] at hB; simp at hB
    | some e =>
      rw [hdst] at hB
      simp only [Bool.and_eq_true, decide_eq_true_eq, Bool.not_eq_true'] at hB
      obtain ⟨⟨h1, h2⟩, h3⟩ := hB
      have hne : e ≠ d := fun k => by subst k; simp at h2; exact h2 hd
      have key : ∀ v, wpQuiet P ops C (fun a' => a' = A) l (a.put o.dst v) → A.tmps[d]? = a.tmps[d]? := fun v hk => by
        have := wpQuiet_keep l (a.put o.dst v) (e :: seen) n d h3 (by simp [hd]) hk
        rw [this, hdst, put_some, Array.getElem?_setIfInBounds_ne hne]
      unfold wpQuiet at h
      split at h
      · obtain ⟨v, _, hn⟩ := h
        exact key v hn
      · exact key undef h
/-- The value that an operation leaves is one, whatever holds of the world. -/
theorem wpQuiet_head {C : World → Prop} {A : Act} {o : Oper} {l : List Oper} {a : Act} {seen : List Nat} {n : Nat} (hn : n ≤ a.tmps.size) (hB : dstsB n (o :: l) seen = true)
    (h : wpQuiet P ops C (fun a' => a' = A) (o :: l) a) : ∃ d, o.dst = some d ∧
      ((Region.wanted o (yielded ops a.tmps) = true ∧ ∀ w, C w → o.quietAt P a C w (A.tmps[d]?.getD undef)) ∨ (Region.wanted o (yielded ops a.tmps) = false ∧ A.tmps[d]?.getD undef = undef)) ∧
      wpQuiet P ops C (fun a' => a' = A) l (a.put o.dst (A.tmps[d]?.getD undef)) := by
  unfold dstsB at hB
  cases hdst : o.dst with
  | none => rw [hdst] at hB; simp at hB
  | some d =>
    rw [hdst] at hB
    simp only [Bool.and_eq_true, decide_eq_true_eq, Bool.not_eq_true'] at hB
    obtain ⟨⟨h1, h2⟩, h3⟩ := hB
    have h1 : d < n := by simpa using h1
    have hda : d < a.tmps.size := Nat.lt_of_lt_of_le h1 hn
    have key : ∀ v, wpQuiet P ops C (fun a' => a' = A) l (a.put o.dst v) → A.tmps[d]?.getD undef = v := fun v hk => by
      have := wpQuiet_keep l (a.put o.dst v) (d :: seen) n d h3 (by simp) hk
      rw [this, hdst, put_some, Array.getElem?_setIfInBounds_self_of_lt hda]; rfl
    unfold wpQuiet at h
    refine ⟨d, rfl, ?_⟩
    split at h
    · rename_i hw
      obtain ⟨v, hv, hk⟩ := h
      have e := key v hk
      rw [e]
      exact ⟨Or.inl ⟨hw, hv⟩, by rw [← hdst]; exact hk⟩
    · rename_i hw
      have e := key undef h
      rw [e]
      exact ⟨Or.inr ⟨by simpa using hw, rfl⟩, by rw [← hdst]; exact h⟩

theorem wpAnyE_run {Q : Exit → Act → World → Prop} {R : World → Prop} (hRg : Grows R) (hRw : ∃ W, R W) {A : Act} (hs : Region.noSelect ops = true) (hQ : ∀ c a w d v, Q (.panic c) (a.put d v) w → Q (.panic c) a w) :
    ∀ (is : List Nat) (listed : Array Bool) (a : Act) (w : World) (fuel : Nat) (seen : List Nat) (n : Nat), n ≤ a.tmps.size → takeB ops is listed = true → dstsB n (pickOps ops is) seen = true →
      (pickOps ops is).length = is.length →
      (∀ G, Grows G → Nonempty (GE R G) → wpQuiet P ops (GC R G) (fun a' => a' = A) (pickOps ops is) a) →
      wpAnyE P .any ops Q R fuel (listedAfter is listed) A w → wpAnyE P .any ops Q R (is.length + fuel) listed a w
  | [], listed, a, w, fuel, seen, n, hn, hT, hD, hL, hq, h => by
    have : a = A := hq (fun _ => True) (fun _ _ _ _ => trivial) (hRw.elim fun W h => ⟨⟨W, h, trivial⟩⟩)
    subst this; simpa [listedAfter] using h
  | i :: is, listed, a, w, fuel, seen, n, hn, hT, hD, hL, hq, h => by
    unfold takeB at hT
    simp only [Bool.and_eq_true] at hT
    obtain ⟨⟨t1, t2⟩, t3⟩ := hT
    cases ho : ops[i]? with
    | none => simp [pickOps, ho] at hL
    | some o =>
      have hp : pickOps ops (i :: is) = o :: pickOps ops is := by simp [pickOps, ho]
      rw [hp] at hD hL hq
      obtain ⟨d, hd, hy0, hr0⟩ := wpQuiet_head hn hD (hq (fun _ => True) (fun _ _ _ _ => trivial) (hRw.elim fun W h => ⟨⟨W, h, trivial⟩⟩))
      have hy : YieldsE P ops R o (A.tmps[d]?.getD undef) a := by
        rcases hy0 with ⟨k1, k2⟩ | ⟨k1, k2⟩
        · refine Or.inl ⟨k1, fun W hW => ?_⟩
          obtain ⟨d', hd', hy1, _⟩ := wpQuiet_head hn hD (hq (fun W' => Below W.heap.size W W') (fun W1 W2 h1 h2 => bcall h1 h1.size h2) ⟨⟨W, hW, Below.refl _ _⟩⟩)
          rw [hd] at hd'; injection hd' with hd'; subst hd'
          rcases hy1 with ⟨_, k3⟩ | ⟨k3, _⟩
          · have hq1 := k3 W ⟨⟨W, hW, Below.refl _ _⟩, rfl⟩
            unfold Oper.quietAt at *
            generalize (execOp a.eval o).run P W = r at *
            cases r with
            | ok x w' =>
              cases x <;> simp only [Oper.quietUpon] at hq1 ⊢
              · exact hq1
              · exact hq1
              · exact ⟨hq1.1, hq1.2.mono fun e w'' ⟨he, ⟨g, hg⟩⟩ => ⟨he, by rw [hg]; exact g.g, by rw [hg]; exact g.h⟩⟩
            | halt x w' => simp only [Oper.quietUpon] at hq1
          · rw [k1] at k3; cases k3
        · exact Or.inr ⟨k1, k2⟩
      have hlen : (i :: is).length + fuel = (is.length + fuel) + 1 := by simp; omega
      rw [hlen]
      have hD' := hD
      unfold dstsB at hD'
      rw [hd] at hD'
      simp only [Bool.and_eq_true] at hD'
      refine wpAnyE_take ho hs t1 t2 (fun c a w => hQ c a w _ _) hy ?_
      refine wpAnyE_run hRg hRw hs hQ is (listed.setIfInBounds i true) _ w fuel (d :: seen) n (by rw [hd, put_some]; simpa using hn) t3 hD'.2 (by simpa using hL) (fun G hG hN => ?_) (by simpa [listedAfter] using h)
      obtain ⟨d', hd', _, hr1⟩ := wpQuiet_head hn hD (hq G hG hN)
      rw [hd] at hd'; injection hd' with hd'; subst hd'
      exact hr1
/-- **A region whose reads and calls are taken first, in the text's order, the world growing as it likes; what is left comes up in whatever order.** -/
theorem wp_region_grown {l : List Oper} {id : Nat} {Q : Exit → Act → World → Prop} {a : Act} {w : World} (R : World → Prop) (hRg : Grows R) (hR : R w.drew) (is : List Nat) (n m : Nat) (hm : P.follows .mixedOrders = true)
    (hB : (Region.noSelect l.toArray && takeB l.toArray is (Array.replicate n false) && dstsB a.tmps.size (pickOps l.toArray is) [] && decide ((pickOps l.toArray is).length = is.length) && decide (l.length = n) && decide (n = is.length + m)) = true)
    (hA : ∃ A, (∀ G, Grows G → Nonempty (GE R G) → wpQuiet P l.toArray (fun w' => ∃ e : GE R G, w' = e.w) (fun a' => a' = A) (pickOps l.toArray is) a) ∧
      wpAnyE P .any l.toArray (NoPanic Q) R m (listedAfter is (Array.replicate n false)) A w.drew) : (Code.region id l.toArray true).wp P Q a w := by
  simp only [Bool.and_eq_true, decide_eq_true_eq] at hB
  obtain ⟨⟨⟨⟨⟨b1, b2⟩, b3⟩, b4⟩, b5⟩, b6⟩ := hB
  obtain ⟨A, hq, h⟩ := hA
  refine wp_region_noPanic (wp_region_E (R := R) hm hR ?_)
  have := wpAnyE_run (Q := NoPanic Q) (A := A) hRg ⟨_, hR⟩ b1 (fun c a w d v h => h) is (Array.replicate n false) a w.drew m [] _ (Nat.le_refl _) b2 b3 b4 hq h
  rw [← b6, ← b5] at this
  simpa using this
end
end Go.Proofs.Ytgcbmnohhbcfiaa
