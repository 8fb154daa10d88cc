/- Meetings of actors: no program in sight. -/
import Derived.Test.YtgcbmnohhbcfiaaCm10
namespace Go.Proofs.Ytgcbmnohhbcfiaa
set_option linter.unusedVariables false
set_option linter.unusedSimpArgs false

/-- An actor. -/
structure Ac where
  own : Ck
  told : Ck
  after : Int
  asked : Int
structure Ac.wf (a : Ac) : Prop where
  a0 : -9223372036854775808 ≤ a.after
  a1 : a.after ≤ 9223372036854775807
  k0 : -9223372036854775808 ≤ a.asked
  k1 : a.asked ≤ 9223372036854775807
def Ac.code (a : Ac) : Int := if a.own.code = 0 then a.told.code else a.own.code
theorem Ac.code_own {a : Ac} (h : a.own.code ≠ 0) : a.code = a.own.code := if_neg h
theorem Ac.code_told {a : Ac} (h : a.own.code = 0) : a.code = a.told.code := if_pos h
theorem Ac.code_zero {a : Ac} : a.code = 0 ↔ a.own.code = 0 ∧ a.told.code = 0 := by
  unfold Ac.code
  by_cases h : a.own.code = 0
  · rw [if_pos h]; exact ⟨fun q => ⟨h, q⟩, fun q => q.2⟩
  · rw [if_neg h]; exact ⟨fun q => absurd q h, fun q => q.1⟩
/-- The first actor's error. -/
def codeA : List Ac → Int
  | [] => 0
  | a :: l => if a.code = 0 then codeA l else a.code
theorem codeA_zero : ∀ {acs : List Ac}, codeA acs = 0 ↔ ∀ (i : Nat) (a : Ac), acs[i]? = some a → a.code = 0
  | [] => by simp [codeA]
  | b :: l => by
    unfold codeA
    constructor
    · intro h i c hi
      by_cases q : b.code = 0
      · rw [if_pos q] at h
        match i with
        | 0 => obtain rfl : b = c := by simpa using hi
               exact q
        | i + 1 => exact codeA_zero.1 h i c (by simpa using hi)
      · rw [if_neg q] at h; exact absurd h q
    · intro h
      rw [if_pos (h 0 b (by simp))]
      exact codeA_zero.2 (fun i c hi => h (i + 1) c (by simpa using hi))
theorem codeA_hit : ∀ {acs : List Ac} {i : Nat} {a : Ac}, (∀ (j : Nat) (b : Ac), j < i → acs[j]? = some b → b.code = 0) → acs[i]? = some a → a.code ≠ 0 → codeA acs = a.code
  | [], i, a, _, hi, _ => by simp at hi
  | b :: l, 0, a, _, hi, hc => by
    obtain rfl : b = a := by simpa using hi
    unfold codeA; rw [if_neg hc]
  | b :: l, i + 1, a, h, hi, hc => by
    unfold codeA
    rw [if_pos (h 0 b (by omega) (by simp))]
    exact codeA_hit (i := i) (fun j c hj hc => h (j + 1) c (by omega) (by simpa using hc)) (by simpa using hi) hc
/-- The queries of an agent. -/
def ofL (l : List Qy) (g : Int) : List Qy := l.filter (fun q => decide (q.agent = g))
theorem ofL_le (l : List Qy) (g : Int) : (ofL l g).length ≤ l.length := List.length_filter_le _ _
theorem ofL_append (l m : List Qy) (g : Int) : ofL (l ++ m) g = ofL l g ++ ofL m g := List.filter_append _ _
theorem ofL_one_yes {q : Qy} {g : Int} (h : q.agent = g) : ofL [q] g = [q] := by simp [ofL, h]
theorem ofL_one_no {q : Qy} {g : Int} (h : q.agent ≠ g) : ofL [q] g = [] := by simp [ofL, h]
theorem ofL_take_yes {l : List Qy} {k : Nat} {q : Qy} {g : Int} (hq : l[k]? = some q) (h : q.agent = g) : ofL (l.take (k + 1)) g = ofL (l.take k) g ++ [q] := by
  rw [List.take_add_one, hq, ofL_append]
  exact congrArg _ (ofL_one_yes h)
theorem ofL_take_no {l : List Qy} {k : Nat} {q : Qy} {g : Int} (hq : l[k]? = some q) (h : q.agent ≠ g) : ofL (l.take (k + 1)) g = ofL (l.take k) g := by
  rw [List.take_add_one, hq, ofL_append]
  have e : ofL (some q).toList g = [] := ofL_one_no h
  rw [e, List.append_nil]
theorem ofL_mem {l : List Qy} {g : Int} {q : Qy} (h : q ∈ ofL l g) : q ∈ l := (List.mem_filter.1 h).1
theorem ofL_agent {l : List Qy} {g : Int} {q : Qy} (h : q ∈ ofL l g) : q.agent = g := by simpa using (List.mem_filter.1 h).2
/-- An actor fits into a meeting. -/
def fitB (n : Int) (l : List Qy) (i : Nat) (a : Ac) : Bool := decide (a.own.len = n) && decide (a.told.len = n) && decide (-1 ≤ a.after) && decide (a.after ≤ 2000) && decide (a.asked = ((ofL l (i : Int)).length : Int))
structure Fits (n : Int) (l : List Qy) (i : Nat) (a : Ac) : Prop where
  own : a.own.len = n
  told : a.told.len = n
  lo : -1 ≤ a.after
  hi : a.after ≤ 2000
  asked : a.asked = ((ofL l (i : Int)).length : Int)
theorem fitB_iff {n : Int} {l : List Qy} {i : Nat} {a : Ac} : fitB n l i a = true ↔ Fits n l i a := by
  unfold fitB
  simp only [Bool.and_eq_true, decide_eq_true_eq]
  exact ⟨fun ⟨⟨⟨⟨h1, h2⟩, h3⟩, h4⟩, h5⟩ => ⟨h1, h2, h3, h4, h5⟩, fun ⟨h1, h2, h3, h4, h5⟩ => ⟨⟨⟨⟨h1, h2⟩, h3⟩, h4⟩, h5⟩⟩
theorem fits_not {n : Int} {l : List Qy} {i : Nat} {a : Ac} (h : ¬ Fits n l i a) : fitB n l i a = false := by
  cases e : fitB n l i a with
  | false => rfl
  | true => exact absurd (fitB_iff.1 e) h
def fitTo (n : Int) (l : List Qy) : Nat → List Ac → Bool
  | _, [] => true
  | k, a :: acs => fitB n l k a && fitTo n l (k + 1) acs
theorem fitTo_all {n : Int} {l : List Qy} : ∀ {acs : List Ac} {k : Nat}, fitTo n l k acs = true ↔ ∀ (i : Nat) (a : Ac), acs[i]? = some a → Fits n l (k + i) a
  | [], k => by simp [fitTo]
  | b :: acs, k => by
    unfold fitTo
    rw [Bool.and_eq_true, fitB_iff, fitTo_all]
    constructor
    · intro h i a hi
      match i with
      | 0 => obtain rfl : b = a := by simpa using hi
             exact h.1
      | i + 1 =>
        have := h.2 i a (by simpa using hi)
        rwa [show k + 1 + i = k + (i + 1) by omega] at this
    · intro h
      refine ⟨h 0 b (by simp), fun i a hi => ?_⟩
      have := h (i + 1) a (by simpa using hi)
      rwa [show k + (i + 1) = k + 1 + i by omega] at this
def ln0 (acs : List Ac) : Int := match acs with | [] => 0 | a :: _ => a.own.len
theorem ln0_at {acs : List Ac} {a : Ac} (h : acs[0]? = some a) : ln0 acs = a.own.len := by
  match acs with
  | [] => simp at h
  | b :: l => obtain rfl : b = a := by simpa using h
              rfl
/-- A meeting's error. -/
def meetC (acs : List Ac) (l : List Qy) : Int := if 6 < acs.length ∨ 2000 < l.length then 4 else if acs.length = 0 then 8 else if codeA acs ≠ 0 then codeA acs else if fitTo (ln0 acs) l 0 acs = true then 0 else 8
structure MeetOk (acs : List Ac) (l : List Qy) : Prop where
  m : acs.length ≤ 6
  q : l.length ≤ 2000
  pos : 0 < acs.length
  ok : ∀ (i : Nat) (a : Ac), acs[i]? = some a → a.code = 0
  fit : ∀ (i : Nat) (a : Ac), acs[i]? = some a → Fits (ln0 acs) l i a
section
variable {acs : List Ac} {l : List Qy}
theorem fit_all : fitTo (ln0 acs) l 0 acs = true ↔ ∀ (i : Nat) (a : Ac), acs[i]? = some a → Fits (ln0 acs) l i a := by
  rw [fitTo_all]
  constructor
  · intro h i a hi
    have := h i a hi
    rwa [Nat.zero_add] at this
  · intro h i a hi
    rw [Nat.zero_add]; exact h i a hi
theorem meetC_zero : meetC acs l = 0 ↔ MeetOk acs l := by
  unfold meetC
  constructor
  · intro h
    by_cases h1 : 6 < acs.length ∨ 2000 < l.length
    · rw [if_pos h1] at h; omega
    rw [if_neg h1] at h
    by_cases h2 : acs.length = 0
    · rw [if_pos h2] at h; omega
    rw [if_neg h2] at h
    by_cases h3 : codeA acs = 0
    · rw [if_neg (by omega)] at h
      by_cases h4 : fitTo (ln0 acs) l 0 acs = true
      · exact ⟨by omega, by omega, by omega, codeA_zero.1 h3, fit_all.1 h4⟩
      · rw [if_neg h4] at h; omega
    · rw [if_pos h3] at h; omega
  · rintro ⟨h1, h2, h3, h4, h5⟩
    rw [if_neg (by omega), if_neg (by omega), if_neg (by have := codeA_zero.2 h4; omega), if_pos (fit_all.2 h5)]
theorem meetC_many (h : 6 < acs.length ∨ 2000 < l.length) : meetC acs l = 4 := by unfold meetC; rw [if_pos h]
theorem meetC_none (h : ¬ (6 < acs.length ∨ 2000 < l.length)) (k : acs.length = 0) : meetC acs l = 8 := by unfold meetC; rw [if_neg h, if_pos k]
theorem meetC_hit {i : Nat} {a : Ac} (h : ¬ (6 < acs.length ∨ 2000 < l.length)) (h1 : ∀ (j : Nat) (b : Ac), j < i → acs[j]? = some b → b.code = 0) (h2 : acs[i]? = some a) (h3 : a.code ≠ 0) : meetC acs l = a.code := by
  have e := codeA_hit h1 h2 h3
  unfold meetC
  rw [if_neg h, if_neg (fun q => by rw [List.eq_nil_of_length_eq_zero q] at h2; simp at h2), if_pos (by rw [e]; exact h3), e]
theorem meetC_odd {i : Nat} {a : Ac} (h : ¬ (6 < acs.length ∨ 2000 < l.length)) (h1 : ∀ (i : Nat) (b : Ac), acs[i]? = some b → b.code = 0) (h2 : acs[i]? = some a) (h3 : ¬ Fits (ln0 acs) l i a) : meetC acs l = 8 := by
  unfold meetC
  rw [if_neg h, if_neg (fun q => by rw [List.eq_nil_of_length_eq_zero q] at h2; simp at h2), if_neg (by have := codeA_zero.2 h1; omega), if_neg (fun e => h3 (fit_all.1 e i a h2))]
theorem meetC_good (h : ¬ (6 < acs.length ∨ 2000 < l.length)) (h0 : ¬ acs.length = 0) (h1 : ∀ (i : Nat) (b : Ac), acs[i]? = some b → b.code = 0) (h2 : ∀ (i : Nat) (b : Ac), acs[i]? = some b → Fits (ln0 acs) l i b) : meetC acs l = 0 := meetC_zero.2 ⟨by omega, by omega, by omega, h1, h2⟩
end
/-- The cake that an actor answers by now. -/
def Ac.now (a : Ac) : Ck := if a.after ≠ -1 ∧ a.after ≤ a.asked then a.told else a.own
def acAt (acs : List Ac) (g : Int) : Ac := acs.getD g.toNat ⟨⟨0, [], []⟩, ⟨0, [], []⟩, 0, 0⟩
theorem acAt_of {acs : List Ac} {i : Nat} {a : Ac} (h : acs[i]? = some a) : acAt acs (i : Int) = a := by
  unfold acAt; rw [List.getD_eq_getElem?_getD, Int.toNat_natCast, h]; rfl
def Ac.more (a : Ac) : Ac := { a with asked := a.asked + 1 }
/-- A meeting. -/
structure Mt where
  acs : List Ac
  log : List Qy
def Mt.none_ : Mt := ⟨[], []⟩
def Mt.code (m : Mt) : Int := meetC m.acs m.log
def Mt.ans (m : Mt) (q : Qy) : Rt := ansR (acAt m.acs q.agent).now q.kind q.a q.b
/-- A question's error. -/
def Mt.err (m : Mt) (q : Qy) : Int :=
  if hasB m.acs.length q.agent = false then 2 else if q.kind ≠ 1 ∧ q.kind ≠ 2 then 2 else if ansC (acAt m.acs q.agent).now q.kind q.a q.b ≠ 0 then ansC (acAt m.acs q.agent).now q.kind q.a q.b else if 2000 ≤ m.log.length then 4 else 0
def Mt.res (m : Mt) (q : Qy) : Rt := if m.err q = 0 then m.ans q else ⟨0, 0⟩
def Mt.step (m : Mt) (q : Qy) : Mt := ⟨m.acs.set q.agent.toNat (acAt m.acs q.agent).more, m.log ++ [{ q with ans := m.ans q }]⟩
def Mt.next (m : Mt) (q : Qy) : Mt := if m.err q = 0 then m.step q else m
def Mt.run (m : Mt) : List Qy → Mt
  | [] => m
  | q :: l => if m.err q = 0 then (m.step q).run l else m
def Mt.runN (m : Mt) : List Qy → Nat
  | [] => 0
  | q :: l => if m.err q = 0 then (m.step q).runN l + 1 else 0
def Mt.runE (m : Mt) : List Qy → Int
  | [] => 0
  | q :: l => if m.err q = 0 then (m.step q).runE l else m.err q
section
variable {m : Mt} {q : Qy} {l : List Qy}
theorem Mt.run_ok (h : m.err q = 0) : m.run (q :: l) = (m.step q).run l ∧ m.runN (q :: l) = (m.step q).runN l + 1 ∧ m.runE (q :: l) = (m.step q).runE l := ⟨by rw [Mt.run, if_pos h], by rw [Mt.runN, if_pos h], by rw [Mt.runE, if_pos h]⟩
theorem Mt.run_no (h : m.err q ≠ 0) : m.run (q :: l) = m ∧ m.runN (q :: l) = 0 ∧ m.runE (q :: l) = m.err q := ⟨by rw [Mt.run, if_neg h], by rw [Mt.runN, if_neg h], by rw [Mt.runE, if_neg h]⟩
theorem Mt.runN_le : ∀ (l : List Qy) (m : Mt), m.runN l ≤ l.length
  | [], m => Nat.le_refl _
  | q :: l, m => by
    rw [Mt.runN]
    split
    · have := Mt.runN_le l (m.step q); simp; omega
    · simp
/-- How far a run has come. -/
structure Runs (m0 : Mt) (l : List Qy) (m : Mt) (k : Nat) : Prop where
  s : m0.run l = m.run (l.drop k)
  n : m0.runN l = k + m.runN (l.drop k)
  e : m0.runE l = m.runE (l.drop k)
theorem Runs.start (m : Mt) (l : List Qy) : Runs m l m 0 := ⟨rfl, by rw [Nat.zero_add]; rfl, rfl⟩
theorem drop_at {α : Type} {l : List α} {k : Nat} {a : α} (h : l[k]? = some a) : l.drop k = a :: l.drop (k + 1) := by
  have hk : k < l.length := by
    rcases Nat.lt_or_ge k l.length with q | q
    · exact q
    · rw [List.getElem?_eq_none q] at h; cases h
  rw [List.drop_eq_getElem_cons hk]
  rw [List.getElem?_eq_getElem hk] at h
  rw [Option.some.inj h]
theorem Runs.step {m0 m : Mt} {k : Nat} (h : Runs m0 l m k) (hq : l[k]? = some q) (he : m.err q = 0) : Runs m0 l (m.step q) (k + 1) := by
  obtain ⟨h1, h2, h3⟩ := h
  rw [drop_at hq] at h1 h2 h3
  obtain ⟨e1, e2, e3⟩ := Mt.run_ok (l := l.drop (k + 1)) he
  exact ⟨by rw [h1, e1], by rw [h2, e2]; omega, by rw [h3, e3]⟩
theorem Runs.stop {m0 m : Mt} {k : Nat} (h : Runs m0 l m k) (hq : l[k]? = some q) (he : m.err q ≠ 0) : m0.run l = m ∧ m0.runN l = k ∧ m0.runE l = m.err q := by
  obtain ⟨h1, h2, h3⟩ := h
  rw [drop_at hq] at h1 h2 h3
  obtain ⟨e1, e2, e3⟩ := Mt.run_no (l := l.drop (k + 1)) he
  exact ⟨by rw [h1, e1], by rw [h2, e2]; omega, by rw [h3, e3]⟩
theorem Runs.done {m0 m : Mt} (h : Runs m0 l m l.length) : m0.run l = m ∧ m0.runN l = l.length ∧ m0.runE l = 0 := by
  obtain ⟨h1, h2, h3⟩ := h
  rw [List.drop_length] at h1 h2 h3
  exact ⟨h1, h2, h3⟩
/-- A run's error, what is left, and how far it came. -/
def Mt.rC (m : Mt) (l : List Qy) : Int := if m.code ≠ 0 then m.code else if 2000 < l.length then 4 else m.runE l
def Mt.rM (m : Mt) (l : List Qy) : Mt := if m.code ≠ 0 then Mt.none_ else if 2000 < l.length then Mt.none_ else m.run l
def Mt.rN (m : Mt) (l : List Qy) : Nat := if m.code ≠ 0 then 0 else if 2000 < l.length then 0 else m.runN l
theorem Mt.r_bad (h : m.code ≠ 0) : m.rC l = m.code ∧ m.rM l = Mt.none_ ∧ m.rN l = 0 := ⟨if_pos h, if_pos h, if_pos h⟩
theorem Mt.r_many (h : m.code = 0) (k : 2000 < l.length) : m.rC l = 4 ∧ m.rM l = Mt.none_ ∧ m.rN l = 0 := by
  have h : ¬ m.code ≠ 0 := by omega
  exact ⟨by rw [Mt.rC, if_neg h, if_pos k], by rw [Mt.rM, if_neg h, if_pos k], by rw [Mt.rN, if_neg h, if_pos k]⟩
theorem Mt.r_run (h : m.code = 0) (k : l.length ≤ 2000) : m.rC l = m.runE l ∧ m.rM l = m.run l ∧ m.rN l = m.runN l := by
  have h : ¬ m.code ≠ 0 := by omega
  have k : ¬ 2000 < l.length := by omega
  exact ⟨by rw [Mt.rC, if_neg h, if_neg k], by rw [Mt.rM, if_neg h, if_neg k], by rw [Mt.rN, if_neg h, if_neg k]⟩
/-- An asking's. -/
def Mt.aC (m : Mt) (q : Qy) : Int := if m.code ≠ 0 then m.code else m.err q
def Mt.aM (m : Mt) (q : Qy) : Mt := if m.aC q = 0 then m.step q else Mt.none_
def Mt.aR (m : Mt) (q : Qy) : Rt := if m.aC q = 0 then m.ans q else ⟨0, 0⟩
def MtOk (m : Mt) : Prop := MeetOk m.acs m.log
theorem hasB_get {n : Nat} {g : Int} (h : hasB n g = true) : ∃ i : Nat, g = (i : Int) ∧ i < n := by
  unfold hasB at h
  simp only [Bool.and_eq_true, decide_eq_true_eq] at h
  exact ⟨g.toNat, by omega, by omega⟩
theorem hasB_nat {n i : Nat} (h : i < n) : hasB n (i : Int) = true := by
  unfold hasB
  rw [decide_eq_true (by omega), decide_eq_true (by omega)]; rfl
/-- A question that is answered. -/
structure Asks (m : Mt) (q : Qy) (i : Nat) (a : Ac) : Prop where
  g : q.agent = (i : Int)
  at_ : m.acs[i]? = some a
  k : q.kind = 1 ∨ q.kind = 2
  c : ansC a.now q.kind q.a q.b = 0
  n : m.log.length < 2000
theorem Mt.err_zero : m.err q = 0 ↔ ∃ i a, Asks m q i a := by
  unfold Mt.err
  constructor
  · intro h
    by_cases h1 : hasB m.acs.length q.agent = false
    · rw [if_pos h1] at h; omega
    rw [if_neg h1] at h
    by_cases h2 : q.kind ≠ 1 ∧ q.kind ≠ 2
    · rw [if_pos h2] at h; omega
    rw [if_neg h2] at h
    obtain ⟨i, hi, hl⟩ := hasB_get (by simpa using h1)
    have ha : m.acs[i]? = some m.acs[i] := List.getElem?_eq_getElem hl
    have e : acAt m.acs q.agent = m.acs[i] := by rw [hi]; exact acAt_of ha
    rw [e] at h
    by_cases h3 : ansC m.acs[i].now q.kind q.a q.b = 0
    · rw [if_neg (by omega)] at h
      by_cases h4 : 2000 ≤ m.log.length
      · rw [if_pos h4] at h; omega
      · exact ⟨i, _, hi, ha, by omega, h3, by omega⟩
    · rw [if_pos h3] at h; exact absurd h h3
  · rintro ⟨i, a, hg, ha, hk, hc, hn⟩
    have hl : i < m.acs.length := by
      rcases Nat.lt_or_ge i m.acs.length with q | q
      · exact q
      · rw [List.getElem?_eq_none q] at ha; cases ha
    have e : acAt m.acs q.agent = a := by rw [hg]; exact acAt_of ha
    rw [if_neg (by rw [hg, hasB_nat hl]; decide), if_neg (by omega), e, if_neg (by omega), if_neg (by omega)]
theorem Mt.err_has (h : hasB m.acs.length q.agent = false) : m.err q = 2 := by unfold Mt.err; rw [if_pos h]
theorem Mt.err_kind (h1 : q.kind ≠ 1) (h2 : q.kind ≠ 2) : m.err q = 2 := by
  unfold Mt.err
  by_cases h : hasB m.acs.length q.agent = false
  · rw [if_pos h]
  · rw [if_neg h, if_pos ⟨h1, h2⟩]
theorem Mt.err_ans {a : Ac} (h : hasB m.acs.length q.agent = true) (hk : q.kind = 1 ∨ q.kind = 2) (ha : acAt m.acs q.agent = a) (hc : ansC a.now q.kind q.a q.b ≠ 0) : m.err q = ansC a.now q.kind q.a q.b := by
  unfold Mt.err
  rw [if_neg (by rw [h]; decide), if_neg (by omega), ha, if_pos hc]
theorem Mt.err_many {a : Ac} (h : hasB m.acs.length q.agent = true) (hk : q.kind = 1 ∨ q.kind = 2) (ha : acAt m.acs q.agent = a) (hc : ansC a.now q.kind q.a q.b = 0) (hn : 2000 ≤ m.log.length) : m.err q = 4 := by
  unfold Mt.err
  rw [if_neg (by rw [h]; decide), if_neg (by omega), ha, if_neg (by omega), if_pos hn]
theorem Mt.err_ok {a : Ac} (h : hasB m.acs.length q.agent = true) (hk : q.kind = 1 ∨ q.kind = 2) (ha : acAt m.acs q.agent = a) (hc : ansC a.now q.kind q.a q.b = 0) (hn : ¬ 2000 ≤ m.log.length) : m.err q = 0 := by
  unfold Mt.err
  rw [if_neg (by rw [h]; decide), if_neg (by omega), ha, if_neg (by omega), if_neg hn]
theorem Asks.step_eq {i : Nat} {a : Ac} (h : Asks m q i a) : m.step q = ⟨m.acs.set i a.more, m.log ++ [{ q with ans := ansR a.now q.kind q.a q.b }]⟩ := by
  have e : acAt m.acs q.agent = a := by rw [h.g]; exact acAt_of h.at_
  unfold Mt.step Mt.ans
  rw [e, h.g, Int.toNat_natCast]
theorem set_at {α : Type} {l : List α} {i j : Nat} {a b c : α} (hi : l[i]? = some a) (h : (l.set i b)[j]? = some c) : (j = i ∧ c = b) ∨ (j ≠ i ∧ l[j]? = some c) := by
  by_cases e : j = i
  · subst e
    have hl : j < l.length := by
      rcases Nat.lt_or_ge j l.length with q | q
      · exact q
      · rw [List.getElem?_eq_none q] at hi; cases hi
    rw [List.getElem?_set_self hl] at h
    exact Or.inl ⟨rfl, (Option.some.inj h).symm⟩
  · rw [List.getElem?_set_ne (by omega)] at h
    exact Or.inr ⟨e, h⟩
theorem ln0_set {acs : List Ac} {i : Nat} {a : Ac} (h : acs[i]? = some a) : ln0 (acs.set i a.more) = ln0 acs := by
  match acs, i with
  | [], i => rfl
  | b :: l, 0 => obtain rfl : b = a := by simpa using h
                 rfl
  | b :: l, i + 1 => rfl
/-- A meeting that is valid stays so. -/
theorem MtOk.step (h : MtOk m) (he : m.err q = 0) : MtOk (m.step q) := by
  obtain ⟨i, a, hs⟩ := Mt.err_zero.1 he
  rw [hs.step_eq]
  have hn := hs.n
  refine ⟨by rw [List.length_set]; exact h.m, by rw [List.length_append]; simp; omega, by rw [List.length_set]; exact h.pos, fun j b hj => ?_, fun j b hj => ?_⟩
  · rcases set_at hs.at_ hj with ⟨rfl, rfl⟩ | ⟨_, hj⟩
    · show a.code = 0
      exact h.ok _ _ hs.at_
    · exact h.ok _ _ hj
  · show Fits (ln0 (m.acs.set i a.more)) _ j b
    rw [ln0_set hs.at_]
    rcases set_at hs.at_ hj with ⟨rfl, rfl⟩ | ⟨hne, hj⟩
    · have f := h.fit _ _ hs.at_
      refine ⟨f.own, f.told, f.lo, f.hi, ?_⟩
      show a.asked + 1 = _
      rw [ofL_append, ofL_one_yes (show ({ q with ans := ansR a.now q.kind q.a q.b } : Qy).agent = (j : Int) from hs.g), f.asked, List.length_append]
      simp
    · have f := h.fit _ _ hj
      refine ⟨f.own, f.told, f.lo, f.hi, ?_⟩
      rw [ofL_append, ofL_one_no (show ({ q with ans := ansR a.now q.kind q.a q.b } : Qy).agent ≠ (j : Int) by show q.agent ≠ _; rw [hs.g]; omega), List.append_nil]
      exact f.asked
theorem MtOk.run (h : MtOk m) : ∀ l : List Qy, MtOk (m.run l) := by
  intro l
  induction l generalizing m with
  | nil => exact h
  | cons q l ih =>
    rw [Mt.run]
    split
    · next he => exact ih (h.step he)
    · exact h
end
end Go.Proofs.Ytgcbmnohhbcfiaa
