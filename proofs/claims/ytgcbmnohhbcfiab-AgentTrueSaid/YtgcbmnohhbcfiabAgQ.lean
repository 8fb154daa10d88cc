/- Runs of meetings: in parts, by one actor alone, by actors that are the same where they are asked. No program in sight. -/
import Derived.Test.YtgcbmnohhbcfiabAgP
namespace Go.Proofs.Ytgcbmnohhbcfiab
set_option linter.unusedVariables false
set_option linter.unusedSimpArgs false

theorem Mt.run_append : ∀ (p : List Qy) (m : Mt) (q : List Qy), (m.runE p = 0 → m.run (p ++ q) = (m.run p).run q ∧ m.runN (p ++ q) = p.length + (m.run p).runN q ∧ m.runE (p ++ q) = (m.run p).runE q) ∧
    (m.runE p ≠ 0 → m.run (p ++ q) = m.run p ∧ m.runN (p ++ q) = m.runN p ∧ m.runE (p ++ q) = m.runE p)
  | [], m, q => ⟨fun _ => ⟨rfl, by simp [Mt.run], rfl⟩, fun h => absurd rfl h⟩
  | x :: p, m, q => by
    by_cases e : m.err x = 0
    · obtain ⟨e1, e2, e3⟩ := Mt.run_ok (l := p) e
      obtain ⟨f1, f2, f3⟩ := Mt.run_ok (l := p ++ q) e
      have ih := Mt.run_append p (m.step x) q
      rw [List.cons_append, e1, e2, e3, f1, f2, f3]
      refine ⟨fun h => ?_, fun h => ?_⟩
      · obtain ⟨g1, g2, g3⟩ := ih.1 h
        exact ⟨g1, by rw [g2]; simp; omega, g3⟩
      · obtain ⟨g1, g2, g3⟩ := ih.2 h
        exact ⟨g1, by rw [g2], g3⟩
    · obtain ⟨e1, e2, e3⟩ := Mt.run_no (l := p) e
      obtain ⟨f1, f2, f3⟩ := Mt.run_no (l := p ++ q) e
      rw [List.cons_append, e1, e2, e3, f1, f2, f3]
      exact ⟨fun h => absurd h e, fun _ => ⟨rfl, rfl, rfl⟩⟩
theorem Mt.runE_zero : ∀ (l : List Qy) (m : Mt), m.runE l = 0 ↔ m.runN l = l.length
  | [], m => by simp [Mt.runE, Mt.runN]
  | x :: l, m => by
    by_cases e : m.err x = 0
    · obtain ⟨e1, e2, e3⟩ := Mt.run_ok (l := l) e
      rw [e2, e3, Mt.runE_zero l]; simp
    · obtain ⟨e1, e2, e3⟩ := Mt.run_no (l := l) e
      rw [e2, e3]; simp [e]
theorem Mt.run_len : ∀ (l : List Qy) (m : Mt), (m.run l).log.length = m.log.length + m.runN l ∧ (m.run l).acs.length = m.acs.length
  | [], m => ⟨rfl, rfl⟩
  | x :: l, m => by
    by_cases e : m.err x = 0
    · obtain ⟨e1, e2, e3⟩ := Mt.run_ok (l := l) e
      obtain ⟨g1, g2⟩ := Mt.run_len l (m.step x)
      rw [e1, e2, g1, g2]
      simp [Mt.step]; omega
    · obtain ⟨e1, e2, e3⟩ := Mt.run_no (l := l) e
      rw [e1, e2]; exact ⟨rfl, rfl⟩
/-- The log's first part is acs it was; the rest are the questions. -/
theorem Mt.run_log : ∀ (l : List Qy) (m : Mt), (∀ j, j < m.log.length → (m.run l).log[j]? = m.log[j]?) ∧ ∀ i q, i < m.runN l → l[i]? = some q → ∃ r, (m.run l).log[m.log.length + i]? = some { q with ans := r }
  | [], m => ⟨fun _ _ => rfl, fun i q h => by simp [Mt.runN] at h⟩
  | x :: l, m => by
    by_cases e : m.err x = 0
    · obtain ⟨e1, e2, e3⟩ := Mt.run_ok (l := l) e
      obtain ⟨g1, g2⟩ := Mt.run_log l (m.step x)
      have hl : (m.step x).log.length = m.log.length + 1 := by simp [Mt.step]
      rw [e1, e2]
      refine ⟨fun j hj => ?_, fun i q hi hq => ?_⟩
      · rw [g1 j (by omega)]
        show (m.log ++ _)[j]? = _
        rw [List.getElem?_append_left hj]
      · match i with
        | 0 =>
          obtain rfl : x = q := by simpa using hq
          refine ⟨m.ans x, ?_⟩
          rw [Nat.add_zero, g1 _ (by omega)]
          show (m.log ++ _)[m.log.length]? = _
          rw [List.getElem?_append_right (Nat.le_refl _), Nat.sub_self]; rfl
        | i + 1 =>
          obtain ⟨r, h⟩ := g2 i q (by omega) (by simpa using hq)
          rw [hl] at h
          exact ⟨r, by rw [← h, show m.log.length + (i + 1) = m.log.length + 1 + i by omega]⟩
    · obtain ⟨e1, e2, e3⟩ := Mt.run_no (l := l) e
      rw [e1, e2]
      exact ⟨fun _ _ => rfl, fun i q h => by omega⟩
/-- An actor changes nothing but how often it was asked. -/
theorem Mt.step_at {m : Mt} {x : Qy} {i : Nat} {a : Ac} (he : m.err x = 0) (h : m.acs[i]? = some a) : (m.step x).acs[i]? = some (if x.agent = (i : Int) then a.more else a) := by
  obtain ⟨j, b, hs⟩ := Mt.err_zero.1 he
  rw [hs.step_eq, hs.g]
  show (m.acs.set j b.more)[i]? = _
  by_cases e : j = i
  · subst e
    have hb := hs.at_
    rw [h] at hb
    obtain rfl := Option.some.inj hb
    have hl : j < m.acs.length := by
      rcases Nat.lt_or_ge j m.acs.length with q | q
      · exact q
      · rw [List.getElem?_eq_none q] at h; cases h
    rw [List.getElem?_set_self hl, if_pos rfl]
  · rw [List.getElem?_set_ne e, if_neg (by omega), h]
theorem Mt.run_at : ∀ (l : List Qy) (m : Mt) (i : Nat) (a : Ac), m.acs[i]? = some a → ∃ k : Nat, (m.run l).acs[i]? = some { a with asked := a.asked + (k : Int) }
  | [], m, i, a, h => ⟨0, by simpa [Mt.run] using h⟩
  | x :: l, m, i, a, h => by
    by_cases e : m.err x = 0
    · obtain ⟨e1, _, _⟩ := Mt.run_ok (l := l) e
      have hs := Mt.step_at e h
      rw [e1]
      by_cases g : x.agent = (i : Int)
      · rw [if_pos g] at hs
        obtain ⟨k, hk⟩ := Mt.run_at l (m.step x) i _ hs
        refine ⟨k + 1, ?_⟩
        rw [hk]
        simp [Ac.more]; omega
      · rw [if_neg g] at hs
        exact Mt.run_at l (m.step x) i _ hs
    · obtain ⟨e1, _, _⟩ := Mt.run_no (l := l) e
      rw [e1]
      exact ⟨0, by simpa using h⟩
/-- What an asking needs of a meeting: the actor that is asked, and that the log isn't full. -/
theorem Mt.err_same {m n : Mt} {x : Qy} {i : Nat} {a b : Ac} (hg : x.agent = (i : Int)) (hm : m.acs[i]? = some a) (hn : n.acs[i]? = some b) (h : a.now = b.now) (h1 : m.log.length < 2000) (h2 : n.log.length < 2000) : m.err x = n.err x ∧ m.ans x = n.ans x := by
  have l1 : i < m.acs.length := by
    rcases Nat.lt_or_ge i m.acs.length with q | q
    · exact q
    · rw [List.getElem?_eq_none q] at hm; cases hm
  have l2 : i < n.acs.length := by
    rcases Nat.lt_or_ge i n.acs.length with q | q
    · exact q
    · rw [List.getElem?_eq_none q] at hn; cases hn
  unfold Mt.err Mt.ans
  rw [hg, hasB_nat l1, hasB_nat l2, acAt_of hm, acAt_of hn, h, if_neg (show ¬ 2000 ≤ m.log.length by omega), if_neg (show ¬ 2000 ≤ n.log.length by omega)]
  exact ⟨rfl, rfl⟩
/-- One actor gives the same answers, alone or with others. -/
theorem alone_law : ∀ (qs : List Qy) (m n : Mt) (w : Nat) (a : Ac), m.acs[w]? = some a → n.acs[w]? = some a → m.runE qs = 0 → n.log.length + qs.length ≤ 2000 → m.log.length + qs.length ≤ 2000 → ofL m.log (w : Int) = n.log →
    n.runE (ofL qs (w : Int)) = 0 ∧ ofL (m.run qs).log (w : Int) = (n.run (ofL qs (w : Int))).log
  | [], m, n, w, a, _, _, _, _, _, h => ⟨rfl, h⟩
  | x :: qs, m, n, w, a, hm, hn, hE, h1, h2, hL => by
    by_cases e : m.err x = 0
    · obtain ⟨e1, _, e3⟩ := Mt.run_ok (l := qs) e
      rw [e3] at hE
      rw [e1]
      have hs := Mt.step_at e hm
      have hl : (m.step x).log.length = m.log.length + 1 := by simp [Mt.step]
      simp only [List.length_cons] at h1 h2
      by_cases g : x.agent = (w : Int)
      · rw [if_pos g] at hs
        have hc : ofL (x :: qs) (w : Int) = x :: ofL qs (w : Int) := by simp [ofL, g]
        obtain ⟨k1, k2⟩ := Mt.err_same g hm hn rfl (by omega) (by omega)
        have e' : n.err x = 0 := by rw [← k1]; exact e
        have hs' := Mt.step_at e' hn
        rw [if_pos g] at hs'
        have hl' : (n.step x).log.length = n.log.length + 1 := by simp [Mt.step]
        obtain ⟨f1, _, f3⟩ := Mt.run_ok (l := ofL qs (w : Int)) e'
        rw [hc, f1, f3]
        refine alone_law qs (m.step x) (n.step x) w a.more hs hs' hE (by omega) (by omega) ?_
        show ofL (m.log ++ _) _ = n.log ++ _
        rw [ofL_append, hL, k2, ofL_one_yes (show ({ x with ans := n.ans x } : Qy).agent = _ from g)]
      · rw [if_neg g] at hs
        have hc : ofL (x :: qs) (w : Int) = ofL qs (w : Int) := by simp [ofL, g]
        rw [hc]
        refine alone_law qs (m.step x) n w a hs hn hE (by omega) (by omega) ?_
        show ofL (m.log ++ _) _ = _
        rw [ofL_append, ofL_one_no (show ({ x with ans := m.ans x } : Qy).agent ≠ _ from g), List.append_nil, hL]
    · obtain ⟨_, _, e3⟩ := Mt.run_no (l := qs) e
      rw [e3] at hE; exact absurd hE e
/-- With the others between: acs far acs the other run comes. -/
theorem between_law : ∀ (qs : List Qy) (m n : Mt) (w : Nat) (a : Ac), m.acs[w]? = some a → n.acs[w]? = some a → m.runE qs = 0 → n.log.length + qs.length ≤ 2000 → m.log.length + qs.length ≤ 2000 → ofL m.log (w : Int) = ofL n.log (w : Int) →
    ofL ((m.run qs).log.take (m.log.length + n.runN qs)) (w : Int) = ofL (n.run qs).log (w : Int)
  | [], m, n, w, a, _, _, _, _, _, h => by
    show ofL (m.log.take (m.log.length + 0)) _ = _
    rw [Nat.add_zero, List.take_length]; exact h
  | x :: qs, m, n, w, a, hm, hn, hE, h1, h2, hL => by
    by_cases e : m.err x = 0
    rotate_left
    · obtain ⟨_, _, e3⟩ := Mt.run_no (l := qs) e
      rw [e3] at hE; exact absurd hE e
    obtain ⟨e1, e2, e3⟩ := Mt.run_ok (l := qs) e
    rw [e3] at hE
    simp only [List.length_cons] at h1 h2
    have hl : (m.step x).log.length = m.log.length + 1 := by simp [Mt.step]
    have hs := Mt.step_at e hm
    by_cases e' : n.err x = 0
    · obtain ⟨f1, f2, f3⟩ := Mt.run_ok (l := qs) e'
      have hs' := Mt.step_at e' hn
      have hl' : (n.step x).log.length = n.log.length + 1 := by simp [Mt.step]
      rw [e1, f1, f2, show m.log.length + ((n.step x).runN qs + 1) = (m.step x).log.length + (n.step x).runN qs by omega]
      refine between_law qs (m.step x) (n.step x) w _ hs hs' hE (by omega) (by omega) ?_
      show ofL (m.log ++ _) _ = ofL (n.log ++ _) _
      rw [ofL_append, ofL_append, hL]
      by_cases g : x.agent = (w : Int)
      · rw [(Mt.err_same g hm hn rfl (by omega) (by omega)).2]
      · rw [ofL_one_no (show ({ x with ans := m.ans x } : Qy).agent ≠ _ from g), ofL_one_no (show ({ x with ans := n.ans x } : Qy).agent ≠ _ from g)]
    · obtain ⟨f1, f2, f3⟩ := Mt.run_no (l := qs) e'
      rw [e1, f1, f2, Nat.add_zero]
      have g : ofL ((m.step x).run qs |>.log.take m.log.length) (w : Int) = ofL m.log (w : Int) := by
        congr 1
        apply List.ext_getElem?
        intro j
        rw [List.getElem?_take]
        by_cases hj : j < m.log.length
        · rw [if_pos hj, (Mt.run_log qs (m.step x)).1 j (by omega)]
          show (m.log ++ _)[j]? = _
          rw [List.getElem?_append_left hj]
        · rw [if_neg hj, List.getElem?_eq_none (by omega)]
      rw [g, hL]
/-- Meetings whose actors answer alike while they are asked. -/
structure Alike (a b : Ac) (fin : Int) : Prop where
  own : a.own = b.own ∨ a.after = 0
  after : b.after = a.after ∨ (a.after = 0 ∧ b.after = -1 ∧ b.own = a.told)
  asked : b.asked = a.asked
  told : a.told = b.told ∨ a.after = -1 ∨ a.after = 0 ∧ b.after = -1 ∨ fin < a.after
  pos : 0 ≤ a.asked
theorem Alike.now {a b : Ac} {fin : Int} (h : Alike a b fin) (hf : a.asked ≤ fin) : a.now = b.now := by
  obtain ⟨h1, h2, h3, h4, h5⟩ := h
  unfold Ac.now
  rcases h2 with e | ⟨e1, e2, e3⟩
  · rw [e, h3]
    by_cases c : a.after ≠ -1 ∧ a.after ≤ a.asked
    · rw [if_pos c, if_pos c]
      rcases h4 with q | q | q | q
      · exact q
      · exact absurd q c.1
      · omega
      · omega
    · rw [if_neg c, if_neg c]
      rcases h1 with q | q
      · exact q
      · rw [q] at c; omega
  · rw [e1, e2, if_pos (by omega), if_neg (by omega), e3]
theorem Alike.more {a b : Ac} {fin : Int} (h : Alike a b fin) : Alike a.more b.more fin := ⟨h.own, h.after, by show b.asked + 1 = a.asked + 1; rw [h.asked], h.told, by show 0 ≤ a.asked + 1; have := h.pos; omega⟩
theorem alike_law : ∀ (qs : List Qy) (m n : Mt), m.log = n.log → m.acs.length = n.acs.length → m.log.length + qs.length ≤ 2000 → (∀ (i : Nat) (a b : Ac), m.acs[i]? = some a → n.acs[i]? = some b → Alike a b (acAt (m.run qs).acs (i : Int)).asked) →
    (n.run qs).log = (m.run qs).log ∧ n.runN qs = m.runN qs ∧ n.runE qs = m.runE qs
  | [], m, n, h, _, _, _ => ⟨h.symm, rfl, rfl⟩
  | x :: qs, m, n, hL, hA, h2, hR => by
    simp only [List.length_cons] at h2
    have key : m.err x = n.err x ∧ m.ans x = n.ans x ∨ (m.err x ≠ 0 ∧ m.err x = n.err x) := by
      by_cases hh : hasB m.acs.length x.agent = true
      · obtain ⟨i, hi, hl⟩ := hasB_get hh
        have ha : m.acs[i]? = some m.acs[i] := List.getElem?_eq_getElem hl
        have hb : n.acs[i]? = some n.acs[i] := List.getElem?_eq_getElem (by omega)
        have hk := hR i _ _ ha hb
        obtain ⟨k, hr⟩ := Mt.run_at (x :: qs) m i _ ha
        rw [acAt_of hr] at hk
        have hnow := hk.now (by show m.acs[i].asked ≤ m.acs[i].asked + (k : Int); omega)
        exact Or.inl (Mt.err_same hi ha hb hnow (by omega) (by rw [← hL]; omega))
      · have e1 := Mt.err_has (m := m) (q := x) (by simpa using hh)
        have e2 := Mt.err_has (m := n) (q := x) (by rw [← hA]; simpa using hh)
        right; rw [e1, e2]; exact ⟨by decide, rfl⟩
    by_cases e : m.err x = 0
    · rcases key with ⟨k1, k2⟩ | ⟨k1, _⟩
      rotate_left
      · exact absurd e k1
      have e' : n.err x = 0 := by rw [← k1]; exact e
      obtain ⟨e1, e2, e3⟩ := Mt.run_ok (l := qs) e
      obtain ⟨f1, f2, f3⟩ := Mt.run_ok (l := qs) e'
      rw [e1, e2, e3, f1, f2, f3]
      rw [e1] at hR
      have hl : (m.step x).log.length = m.log.length + 1 := by simp [Mt.step]
      have := alike_law qs (m.step x) (n.step x) (by show m.log ++ _ = n.log ++ _; rw [hL, k2]) (by simp [Mt.step, hA]) (by omega) (fun i a b ha hb => by
        have li : i < m.acs.length := by
          rcases Nat.lt_or_ge i m.acs.length with q | q
          · exact q
          · rw [List.getElem?_eq_none (by simpa [Mt.step] using q)] at ha; cases ha
        have ha0 : m.acs[i]? = some m.acs[i] := List.getElem?_eq_getElem li
        have hb0 : n.acs[i]? = some n.acs[i] := List.getElem?_eq_getElem (by omega)
        have hk := hR i _ _ ha0 hb0
        rw [Mt.step_at e ha0] at ha
        rw [Mt.step_at e' hb0] at hb
        obtain rfl := Option.some.inj ha
        obtain rfl := Option.some.inj hb
        split
        · exact hk.more
        · exact hk)
      exact ⟨this.1, by rw [this.2.1], this.2.2⟩
    · have e' : n.err x ≠ 0 := by rcases key with ⟨k1, _⟩ | ⟨_, k1⟩ <;> rw [← k1] <;> exact e
      obtain ⟨e1, e2, e3⟩ := Mt.run_no (l := qs) e
      obtain ⟨f1, f2, f3⟩ := Mt.run_no (l := qs) e'
      rw [e1, e2, e3, f1, f2, f3]
      exact ⟨hL.symm, rfl, by rcases key with ⟨k1, _⟩ | ⟨_, k1⟩ <;> exact k1.symm⟩
end Go.Proofs.Ytgcbmnohhbcfiab
