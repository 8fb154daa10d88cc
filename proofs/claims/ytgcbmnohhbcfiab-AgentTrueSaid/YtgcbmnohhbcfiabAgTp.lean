/- What a run of actors has answered is right. No program in sight. -/
import Derived.Test.YtgcbmnohhbcfiabAgQ
import Derived.Test.YtgcbmnohhbcfiabAgH
namespace Go.Proofs.Ytgcbmnohhbcfiab
set_option linter.unusedVariables false
set_option linter.unusedSimpArgs false

/-- An answer of an actor that had been asked k times. -/
structure Good (a : Ac) (i k : Nat) (e : Qy) : Prop where
  g : e.agent = (i : Int)
  kd : e.kind = 1 ∨ e.kind = 2
  c : ansC ({ a with asked := (k : Int) } : Ac).now e.kind e.a e.b = 0
  r : ansR ({ a with asked := (k : Int) } : Ac).now e.kind e.a e.b = e.ans
structure Tr (acs : List Ac) (m : Mt) : Prop where
  n : m.acs.length = acs.length
  at_ : ∀ (i : Nat) (a : Ac), acs[i]? = some a → m.acs[i]? = some { a with asked := ((ofL m.log (i : Int)).length : Int) }
  good : ∀ (i : Nat) (a : Ac), acs[i]? = some a → ∀ (k : Nat) (e : Qy), (ofL m.log (i : Int))[k]? = some e → Good a i k e
  has : ∀ e, e ∈ m.log → ∃ i : Nat, e.agent = (i : Int) ∧ i < acs.length
section
variable {acs : List Ac} {m : Mt} {x : Qy}
theorem Tr.start (h : ∀ (i : Nat) (a : Ac), acs[i]? = some a → a.asked = 0) : Tr acs ⟨acs, []⟩ := by
  refine ⟨rfl, fun i a hi => ?_, fun i a hi k e he => by simp [ofL] at he, fun e he => by simp at he⟩
  show acs[i]? = _
  rw [hi]
  have e := h i a hi
  obtain ⟨o, t, f, k⟩ := a
  have e : k = 0 := e
  subst e
  rfl
theorem Tr.step (h : Tr acs m) (he : m.err x = 0) : Tr acs (m.step x) := by
  obtain ⟨i, a, hs⟩ := Mt.err_zero.1 he
  obtain ⟨a0, h0⟩ : ∃ a0, acs[i]? = some a0 := ⟨_, List.getElem?_eq_getElem (by rw [← h.n]; exact set_lt hs.at_)⟩
  have e1 := h.at_ i a0 h0
  rw [hs.at_] at e1
  obtain rfl := Option.some.inj e1
  have hone : ofL [({ x with ans := ansR ({ a0 with asked := ((ofL m.log (i : Int)).length : Int) } : Ac).now x.kind x.a x.b } : Qy)] (i : Int) = [{ x with ans := ansR ({ a0 with asked := ((ofL m.log (i : Int)).length : Int) } : Ac).now x.kind x.a x.b }] := ofL_one_yes hs.g
  have hno : ∀ j : Nat, j ≠ i → ofL [({ x with ans := ansR ({ a0 with asked := ((ofL m.log (i : Int)).length : Int) } : Ac).now x.kind x.a x.b } : Qy)] (j : Int) = [] := fun j hj => ofL_one_no (by show x.agent ≠ _; rw [hs.g]; omega)
  rw [hs.step_eq]
  refine ⟨by rw [List.length_set]; exact h.n, fun j b hj => ?_, fun j b hj k e hk => ?_, fun e hm => ?_⟩
  · show (m.acs.set i _)[j]? = _
    by_cases q : j = i
    · subst q
      rw [h0] at hj
      obtain rfl := Option.some.inj hj
      rw [List.getElem?_set_self (set_lt hs.at_), ofL_append, hone, List.length_append]
      rfl
    · rw [List.getElem?_set_ne (by omega), ofL_append, hno j q, List.append_nil]
      exact h.at_ j b hj
  · have hk : (ofL (m.log ++ [_]) (j : Int))[k]? = some e := hk
    rw [ofL_append] at hk
    by_cases q : j = i
    · subst q
      rw [h0] at hj
      obtain rfl := Option.some.inj hj
      rw [hone] at hk
      rcases Nat.lt_or_ge k (ofL m.log (j : Int)).length with c | c
      · rw [List.getElem?_append_left c] at hk
        exact h.good j a0 h0 k e hk
      · rw [List.getElem?_append_right c] at hk
        have hz : k - (ofL m.log (j : Int)).length = 0 := by
          rcases Nat.eq_zero_or_pos (k - (ofL m.log (j : Int)).length) with z | z
          · exact z
          · rw [List.getElem?_eq_none (by simp; omega)] at hk; cases hk
        rw [hz] at hk
        obtain rfl := Option.some.inj hk
        obtain rfl : k = (ofL m.log (j : Int)).length := by omega
        exact ⟨hs.g, hs.k, hs.c, rfl⟩
    · rw [hno j q, List.append_nil] at hk
      exact h.good j b hj k e hk
  · rcases List.mem_append.1 hm with u | u
    · exact h.has e u
    · obtain rfl := List.mem_singleton.1 u
      exact ⟨i, hs.g, by rw [← h.n]; exact set_lt hs.at_⟩
theorem Tr.run (h : Tr acs m) : ∀ l : List Qy, Tr acs (m.run l) := by
  intro l
  induction l generalizing m with
  | nil => exact h
  | cons q l ih =>
    rw [Mt.run]
    split
    · next he => exact ih (h.step he)
    · exact h
theorem repN_all_ {ks : List Ck} : ∀ {l : List Qy}, (∀ q, q ∈ l → rightB ks q = true) → repN ks l = l.length
  | [], _ => rfl
  | q :: l, h => by
    rw [repN, if_pos (h q (List.mem_cons_self ..)), repN_all_ (fun p hp => h p (List.mem_cons_of_mem _ hp)), List.length_cons]
theorem Good.right {a : Ac} {i k : Nat} {e : Qy} (h : Good a i k e) (ha : acs[i]? = some a) (t : Bool) (ht : ({ a with asked := (k : Int) } : Ac).now = pick t a) : rightB (cksOf t acs) e = true := by
  unfold rightB
  rw [cksOf_len, h.g, hasB_nat (set_lt ha), ckAt_of (cksOf_at (t := t) ha), ← ht, h.c, h.r]
  rcases h.kd with k | k <;> simp [k]
theorem now_own {a : Ac} {k : Nat} (h : a.after = -1 ∨ (k : Int) < a.after) : ({ a with asked := (k : Int) } : Ac).now = pick false a := by
  unfold Ac.now
  rw [if_neg (by show ¬ (a.after ≠ -1 ∧ a.after ≤ (k : Int)); omega)]
  rfl
theorem now_told {a : Ac} {k : Nat} (h : a.after ≠ -1 ∧ a.after ≤ (k : Int)) : ({ a with asked := (k : Int) } : Ac).now = pick true a := by
  unfold Ac.now
  rw [if_pos (by show a.after ≠ -1 ∧ a.after ≤ (k : Int); exact h)]
  rfl
/-- What the law needs of a run. -/
structure TrueL (acs : List Ac) (F : Mt) : Prop where
  ok : MtOk F
  len : F.acs.length = acs.length
  hon : ∀ (i : Nat) (a : Ac), acs[i]? = some a → (a.after = -1 ∨ ((ofL F.log (i : Int)).length : Int) ≤ a.after) → F.hon i = true
  right : ∀ (i : Nat) (a : Ac) (k : Nat) (e : Qy), acs[i]? = some a → (ofL F.log (i : Int))[k]? = some e → (a.after < 0 → rightB (cksOf false acs) e = true) ∧ (0 ≤ a.after → (k : Int) < a.after → rightB (cksOf false acs) e = true) ∧ (0 ≤ a.after → a.after ≤ (k : Int) → rightB (cksOf true acs) e = true)
  desk : deskC (cksOf false acs) F.log.length = 0
  rep : (∀ (i : Nat) (a : Ac), acs[i]? = some a → a.after = -1) → repR (cksOf false acs) F.log = (F.log.length : Int)
  olen : ∀ g : Int, (ofL F.log g).length ≤ 2000
theorem truel {acs : List Ac} {l : List Qy} (h0 : meetC acs [] = 0) (hl : l.length ≤ 30) : TrueL acs ((Mt.mk acs []).rM l) := by
  have hm : MeetOk acs [] := meetC_zero.1 h0
  have hc : (Mt.mk acs []).code = 0 := h0
  have e1 := (Mt.r_run (m := ⟨acs, []⟩) (l := l) hc (by omega)).2.1
  have hz : ∀ (i : Nat) (a : Ac), acs[i]? = some a → a.asked = 0 := fun i a hi => by have := (hm.fit i a hi).asked; simpa [ofL] using this
  have T := (Tr.start hz).run l
  have O : MtOk ((Mt.mk acs []).run l) := MtOk.run (m := ⟨acs, []⟩) hm l
  rw [e1]
  generalize (Mt.mk acs []).run l = F at *
  have hlo : ∀ (i : Nat) (a : Ac), acs[i]? = some a → -1 ≤ a.after := fun i a hi => (hm.fit i a hi).lo
  have hck : cksOf false F.acs = cksOf false acs := by
    apply List.ext_getElem?
    intro i
    unfold cksOf
    rw [List.getElem?_map, List.getElem?_map]
    cases ha : acs[i]? with
    | none =>
      have : F.acs[i]? = none := List.getElem?_eq_none (by rw [T.n]; exact List.getElem?_eq_none_iff.1 ha)
      rw [this]
    | some a => rw [T.at_ i a ha]; rfl
  have hd : deskC (cksOf false acs) F.log.length = 0 := by rw [← hck]; exact meet_desk O F.log.length O.q
  refine ⟨O, T.n, fun i a hi q => ?_, fun i a k e hi hk => ?_, hd, fun q => ?_, fun g => Nat.le_trans (ofL_le _ _) O.q⟩
  · unfold Mt.hon
    rw [hck]
    refine decide_eq_true (repN_all_ (fun e he => ?_))
    obtain ⟨k, hk⟩ := List.getElem?_of_mem he
    have hkl := set_lt hk
    exact (T.good i a hi k e hk).right hi false (now_own (q.imp id (fun z => by omega)))
  · have G := T.good i a hi k e hk
    have lo := hlo i a hi
    exact ⟨fun q => G.right hi false (now_own (Or.inl (by omega))), fun _ q => G.right hi false (now_own (Or.inr q)), fun z q => G.right hi true (now_told ⟨by omega, q⟩)⟩
  · unfold repR
    rw [if_pos hd, repN_all_ (fun e he => ?_)]
    obtain ⟨i, hg, hi⟩ := T.has e he
    have ha : acs[i]? = some acs[i] := List.getElem?_eq_getElem hi
    have hm : e ∈ ofL F.log (i : Int) := by unfold ofL; exact List.mem_filter.2 ⟨he, by simpa using hg⟩
    obtain ⟨k, hk⟩ := List.getElem?_of_mem hm
    exact (T.good i _ ha k e hk).right ha false (now_own (Or.inl (q i _ ha)))
end
end Go.Proofs.Ytgcbmnohhbcfiab
