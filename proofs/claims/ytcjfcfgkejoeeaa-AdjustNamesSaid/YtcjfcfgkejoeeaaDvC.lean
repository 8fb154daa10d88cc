/- The division that is reckoned is valid, both have as much, and each good is where it is worth most: plain. -/
import Derived.Test.YtcjfcfgkejoeeaaDvP
namespace Go.Proofs.Ytcjfcfgkejoeeaa
set_option linter.unusedVariables false
set_option linter.unusedSimpArgs false

theorem sumTo_upd {f g : Nat → Int} {k : Nat} : ∀ {n : Nat}, k < n → (∀ i, i < n → i ≠ k → f i = g i) → sumTo f n = sumTo g n + (f k - g k)
  | 0, h, _ => absurd h (Nat.not_lt_zero _)
  | n + 1, h, hc => by
    rw [sumTo_succ, sumTo_succ]
    by_cases e : k = n
    · subst e
      rw [sumTo_congr (fun i hi => hc i (by omega) (by omega))]; omega
    · rw [sumTo_upd (n := n) (by omega) (fun i hi hne => hc i (by omega) hne), hc n (by omega) (by omega)]; omega
theorem gi_set_ne {l : List Int} {g k : Nat} {x : Int} (h : k ≠ g) : gi (l.set g x) k = gi l k := by
  unfold gi; simp [List.getD_eq_getElem?_getD, List.getElem?_set, Ne.symm h]
theorem gi_set_eq {l : List Int} {g : Nat} {x : Int} (h : g < l.length) : gi (l.set g x) g = x := by
  unfold gi; simp [List.getD_eq_getElem?_getD, List.getElem?_set, h]

/-- What owners give the richer one, and the other one. -/
def sumR (bs : List (List Int)) (ow : List Int) : Int := sumTo (fun k => if gi ow k = (richN bs : Int) then own bs k else 0) (num bs)
def sumO (bs : List (List Int)) (ow : List Int) : Int := sumTo (fun k => if gi ow k = 1 - (richN bs : Int) then oth bs k else 0) (num bs)
structure PassIn (bs : List (List Int)) (l : List Nat) (ow : List Int) (hr ho : Int) : Prop where
  len : ow.length = num bs
  z1 : ∀ k, k < num bs → gi ow k = 0 ∨ gi ow k = 1
  r : hr = sumR bs ow
  o : ho = sumO bs ow
  le : ho ≤ hr
  mem : ∀ k, k ∈ l → k < num bs ∧ gi ow k = richN bs ∧ 0 < oth bs k ∧ oth bs k ≤ own bs k
  rest : ∀ k, k < num bs → gi ow k = richN bs → k ∈ l ∨ oth bs k = 0
  srt : List.Pairwise (fun a b => own bs a * oth bs b ≤ own bs b * oth bs a) l
  nd : l.Nodup
  gone : ∀ k, k < num bs → gi ow k = 1 - (richN bs : Int) → ∀ g, g ∈ l → own bs k * oth bs g ≤ own bs g * oth bs k
  small : ∀ k, k < num bs → gi ow k = 1 - (richN bs : Int) → own bs k = 0 ∨ 0 < oth bs k
structure DivOk (bs : List (List Int)) (d : Pt) : Prop where
  len : d.ow.length = num bs
  z1 : ∀ k, k < num bs → gi d.ow k = 0 ∨ gi d.ow k = 1
  cert : ∃ s t : Int, 0 < s ∧ 0 < t ∧ ∀ k : Nat, k < num bs → ((k : Int) = d.sp → s * own bs k = t * oth bs k) ∧ ((k : Int) ≠ d.sp → gi d.ow k = richN bs → t * oth bs k ≤ s * own bs k) ∧ ((k : Int) ≠ d.sp → gi d.ow k = 1 - (richN bs : Int) → s * own bs k ≤ t * oth bs k)
  eq : d.sum bs (richN bs) (num bs) = d.sum bs (1 - richN bs) (num bs)
  sp : (d.sp = -1 ∧ d.p = ⟨0, 1⟩) ∨ ((0 ≤ d.sp ∧ d.sp < num bs) ∧ gi d.ow d.sp.toNat = 0 ∧ d.p.Ok ∧ 0 < d.p.n ∧ d.p.n < d.p.d ∧ d.p.d ≤ 2000)
section
variable {bs : List (List Int)}
theorem rich_cast (bs : List (List Int)) : ((1 - richN bs : Nat) : Int) = 1 - (richN bs : Int) := by have := rich_cases bs; omega
theorem ini_rich {k : Nat} (h : ini bs k = richN bs) : oth bs k ≤ own bs k := by
  unfold ini at h; unfold oth own
  rcases rich_cases bs with e | e <;> rw [e] at h ⊢
  · by_cases c : gi (gr bs 0) k < gi (gr bs 1) k
    · rw [if_pos c] at h; simp at h
    · show gi (gr bs 1) k ≤ gi (gr bs 0) k; omega
  · by_cases c : gi (gr bs 0) k < gi (gr bs 1) k
    · show gi (gr bs 0) k ≤ gi (gr bs 1) k; omega
    · rw [if_neg c] at h; simp at h
theorem ini_poor {k : Nat} (h : ini bs k = 1 - (richN bs : Int)) : own bs k ≤ oth bs k := by
  unfold ini at h; unfold oth own
  rcases rich_cases bs with e | e <;> rw [e] at h ⊢
  · by_cases c : gi (gr bs 0) k < gi (gr bs 1) k
    · show gi (gr bs 0) k ≤ gi (gr bs 1) k; omega
    · rw [if_neg c] at h; simp at h
  · by_cases c : gi (gr bs 0) k < gi (gr bs 1) k
    · rw [if_pos c] at h; simp at h
    · show gi (gr bs 1) k ≤ gi (gr bs 0) k; omega
theorem prec_le {a b : Nat} (h : Prec (ltD bs) a b) : own bs a * oth bs b ≤ own bs b * oth bs a := by
  rcases h with h | ⟨h, _⟩
  · simp only [ltD, decide_eq_true_eq] at h
    unfold cfD cmpI at h
    split at h
    · omega
    · split at h <;> omega
  · simp only [ltD, decide_eq_false_iff_not] at h
    unfold cfD cmpI at h
    split at h
    · omega
    · omega
/-- At the start. -/
theorem ad_start (h : AdOk bs (num bs)) : PassIn bs (ord bs) (iniL bs (num bs)) (hasR bs) (hasO bs) := by
  have hi : ∀ k, k < num bs → gi (iniL bs (num bs)) k = ini bs k := fun k hk => iniL_gi hk
  have hr := rich_cases bs
  have e1 : hasR bs = sumR bs (iniL bs (num bs)) := by
    unfold hasR hasTo sumR own
    refine sumTo_congr (fun k hk => ?_)
    rw [hi k hk]; simp
  have e2 : hasO bs = sumO bs (iniL bs (num bs)) := by
    unfold hasO hasTo sumO oth
    refine sumTo_congr (fun k hk => ?_)
    rw [hi k hk]
    have : (1 - (richN bs : Int)).toNat = 1 - richN bs := by omega
    rw [this]
  refine ⟨iniL_length _ _, fun k hk => by rw [hi k hk]; exact ini_cases _ _, e1, e2, ?_, ?_, ?_, ?_, ord_nodup bs, ?_, ?_⟩
  · unfold hasO hasR
    by_cases c : hasTo bs 0 (num bs) < hasTo bs 1 (num bs)
    · have e : richN bs = 1 := by unfold richN; rw [if_pos c]
      rw [e]; show hasTo bs 0 (num bs) ≤ hasTo bs 1 (num bs); omega
    · have e : richN bs = 0 := by unfold richN; rw [if_neg c]
      rw [e]; show hasTo bs 1 (num bs) ≤ hasTo bs 0 (num bs); omega
  · intro k hk
    obtain ⟨h1, h2⟩ := ord_mem.1 hk
    obtain ⟨h3, h4⟩ := inOrd_iff.1 h2
    exact ⟨h1, by rw [hi k h1]; exact h3, h4, ini_rich h3⟩
  · intro k hk hg
    rw [hi k hk] at hg
    by_cases c : 0 < oth bs k
    · exact Or.inl (ord_mem.2 ⟨hk, inOrd_iff.2 ⟨hg, c⟩⟩)
    · exact Or.inr (by have := (h.oth_bd hk).1; omega)
  · exact h.sorted.imp (fun h => prec_le h)
  · intro k hk hg g hgm
    rw [hi k hk] at hg
    obtain ⟨h1, h2⟩ := ord_mem.1 hgm
    obtain ⟨h3, h4⟩ := inOrd_iff.1 h2
    have a := ini_poor hg
    have b := ini_rich h3
    rw [Int.mul_comm (own bs g)]
    exact Int.mul_le_mul a b (by omega) (by have := (h.oth_bd hk).1; omega)
  · intro k hk hg
    rw [hi k hk] at hg
    have a := ini_poor hg
    have b := (h.own_bd hk).1
    omega
theorem term_whole_r {d : Pt} {k : Nat} (i : Nat) (h : (k : Int) ≠ d.sp) : d.term bs i k = d.p.d * (if gi d.ow k = i then gi (gr bs i) k else 0) := by
  unfold Pt.term; rw [if_neg h]; split
  · rw [Int.mul_comm]
  · simp
theorem sum_whole {d : Pt} (h : d.sp = -1) (hd : d.p.d = 1) : d.sum bs (richN bs) (num bs) = sumR bs d.ow ∧ d.sum bs (1 - richN bs) (num bs) = sumO bs d.ow := by
  constructor
  · unfold Pt.sum sumR
    refine sumTo_congr (fun k hk => ?_)
    rw [term_whole_r _ (by omega), hd, Int.one_mul]; rfl
  · unfold Pt.sum sumO
    refine sumTo_congr (fun k hk => ?_)
    rw [term_whole_r _ (by omega), hd, Int.one_mul, rich_cast]; rfl
theorem tot_own (h : AdOk bs (num bs)) : sumTo (own bs) (num bs) = sumTo (oth bs) (num bs) := by
  have e := h.t1
  unfold tot at e
  rw [h.l0, h.l1] at e
  rcases rich_cases bs with r | r
  · have e1 : own bs = gi (gr bs 0) := by funext k; unfold own; rw [r]
    have e2 : oth bs = gi (gr bs 1) := by funext k; unfold oth; rw [r]
    rw [e1, e2]; exact e
  · have e1 : own bs = gi (gr bs 1) := by funext k; unfold own; rw [r]
    have e2 : oth bs = gi (gr bs 0) := by funext k; unfold oth; rw [r]
    rw [e1, e2]; exact e.symm
/-- A division at an end. -/
theorem PassIn.stop (h : AdOk bs (num bs)) {l : List Nat} {ow : List Int} {hr ho : Int} (p : PassIn bs l ow hr ho) (he : hr = ho) {s t : Int} (hs : 0 < s) (ht : 0 < t)
    (h1 : ∀ k, k < num bs → gi ow k = richN bs → t * oth bs k ≤ s * own bs k) (h2 : ∀ k, k < num bs → gi ow k = 1 - (richN bs : Int) → s * own bs k ≤ t * oth bs k) : DivOk bs ⟨ow, -1, ⟨0, 1⟩⟩ := by
  have sw := sum_whole (bs := bs) (d := ⟨ow, -1, ⟨0, 1⟩⟩) rfl rfl
  refine ⟨p.len, p.z1, ⟨s, t, hs, ht, fun k hk => ⟨fun e => by have e : (k : Int) = -1 := e; omega, fun _ => h1 k hk, fun _ => h2 k hk⟩⟩, ?_, Or.inl ⟨rfl, rfl⟩⟩
  rw [sw.1, sw.2]
  exact p.r.symm.trans (he.trans p.o)
theorem PassIn.cert (h : AdOk bs (num bs)) {g : Nat} {l : List Nat} {ow : List Int} {hr ho : Int} (p : PassIn bs (g :: l) ow hr ho) :
    0 < oth bs g ∧ 0 < own bs g ∧ (∀ k, k < num bs → gi ow k = richN bs → own bs g * oth bs k ≤ oth bs g * own bs k) ∧ (∀ k, k < num bs → gi ow k = 1 - (richN bs : Int) → oth bs g * own bs k ≤ own bs g * oth bs k) := by
  obtain ⟨m1, m2, m3, m4⟩ := p.mem g (List.mem_cons_self ..)
  refine ⟨m3, by omega, fun k hk ho => ?_, fun k hk ho => ?_⟩
  · rcases p.rest k hk ho with c | c
    · rcases List.mem_cons.1 c with rfl | c
      · rw [Int.mul_comm]; exact Int.le_refl _
      · have := (List.pairwise_cons.1 p.srt).1 k c
        rw [Int.mul_comm (oth bs g)]; exact this
    · rw [c, Int.mul_zero]
      exact Int.mul_nonneg (by omega) (h.own_bd hk).1
  · have := p.gone k hk ho g (List.mem_cons_self ..)
    rw [Int.mul_comm (oth bs g)]; exact this
theorem mkR_cross {n d : Int} (h0 : 0 < n) (h1 : n < d) (h2 : d ≤ 2000) : (makeR n d).Ok ∧ (makeR n d).n * d = n * (makeR n d).d ∧ 0 < (makeR n d).n ∧ (makeR n d).n < (makeR n d).d ∧ (makeR n d).d ≤ 2000 := by
  obtain ⟨ok, q⟩ := makeR_ok (n := n) (d := d) (by omega) (by omega) (by omega) (by omega)
  generalize makeR n d = P at *
  have d0 := ok.d0
  have e : P.n * d = n * P.d := by
    unfold Rt.q at q
    exact (Rat.divInt_eq_divInt_iff (by omega) (by omega)).1 q
  have n0 : 0 < P.n := by
    rcases Int.lt_or_le 0 P.n with c | c
    · exact c
    · exfalso
      have a := Int.mul_le_mul_of_nonneg_right c (show 0 ≤ d by omega)
      have b := Int.mul_pos h0 (show 0 < P.d by omega)
      rw [Int.zero_mul] at a; omega
  refine ⟨ok, e, n0, ?_, ?_⟩
  · rcases Int.lt_or_le P.n P.d with c | c
    · exact c
    · exfalso
      have a := Int.mul_le_mul_of_nonneg_right c (show 0 ≤ d by omega)
      have b := Int.mul_lt_mul_of_pos_right h1 (show 0 < P.d by omega)
      rw [Int.mul_comm d] at b; omega
  · have dv : P.d ∣ P.n * d := by rw [e]; exact Int.dvd_mul_left _ _
    have dv2 : P.d ∣ d := by
      have g1 : Int.gcd P.d P.n = 1 := by rw [Int.gcd_comm]; exact ok.cop
      have n1 : P.d.natAbs ∣ P.n.natAbs * d.natAbs := by rw [← Int.natAbs_mul]; exact Int.natAbs_dvd_natAbs.2 dv
      exact Int.natAbs_dvd_natAbs.1 (Nat.Coprime.dvd_of_dvd_mul_left (show Nat.Coprime P.d.natAbs P.n.natAbs from g1) n1)
    have := Int.le_of_dvd (by omega) dv2
    omega
/-- The sums of a division with a split good. -/
theorem sum_split {d : Pt} {g : Nat} {ow : List Int} (hg : g < num bs) (hs : d.sp = g) (hr : gi ow g = richN bs) (hw : ∀ k, k ≠ g → gi d.ow k = gi ow k) :
    d.sum bs (richN bs) (num bs) = d.p.d * sumR bs ow + (own bs g * (if richN bs = 0 then d.p.n else d.p.d - d.p.n) - d.p.d * own bs g)
    ∧ d.sum bs (1 - richN bs) (num bs) = d.p.d * sumO bs ow + oth bs g * (if richN bs = 0 then d.p.d - d.p.n else d.p.n) := by
  have r := rich_cases bs
  constructor
  · unfold Pt.sum sumR
    rw [← sumTo_mul, sumTo_upd (g := fun i => d.p.d * (if gi ow i = (richN bs : Int) then own bs i else 0)) hg (fun k hk hne => ?_)]
    · simp only [hr, if_true]
      unfold Pt.term; rw [if_pos hs.symm]; rfl
    · rw [term_whole_r _ (by omega), hw k hne]; rfl
  · unfold Pt.sum sumO
    rw [← sumTo_mul, sumTo_upd (g := fun i => d.p.d * (if gi ow i = 1 - (richN bs : Int) then oth bs i else 0)) hg (fun k hk hne => ?_)]
    · have c : ¬ ((richN bs : Int) = 1 - (richN bs : Int)) := by omega
      simp only [hr, if_neg c, Int.mul_zero, Int.sub_zero]
      unfold Pt.term; rw [if_pos hs.symm]
      rcases r with e | e <;> simp [e, oth]
    · rw [term_whole_r _ (by omega), hw k hne, rich_cast]; rfl
theorem passR_ok (h : AdOk bs (num bs)) : ∀ (l : List Nat) (ow : List Int) (hr ho : Int), PassIn bs l ow hr ho → DivOk bs (passR bs l ow hr ho)
  | [], ow, hr, ho, p => by
    rw [passR_nil]
    have r := rich_cases bs
    refine p.stop h ?_ (s := 1) (t := 1000) (by omega) (by omega) (fun k hk hg => ?_) (fun k hk hg => ?_)
    · have e1 : sumO bs ow = sumTo (oth bs) (num bs) := by
        unfold sumO
        refine sumTo_congr (fun k hk => ?_)
        by_cases c : gi ow k = 1 - (richN bs : Int)
        · rw [if_pos c]
        · rw [if_neg c]
          have := p.z1 k hk
          rcases p.rest k hk (by omega) with q | q
          · simp at q
          · exact q.symm
      have e2 : sumR bs ow ≤ sumTo (own bs) (num bs) := by
        unfold sumR
        refine sumTo_mono (fun k hk => ?_)
        have := (h.own_bd hk).1
        split <;> omega
      have := tot_own h
      have a := p.r; have b := p.o; have c := p.le
      omega
    · rcases p.rest k hk hg with q | q
      · simp at q
      · rw [q]; have := (h.own_bd hk).1; omega
    · have a := h.own_bd hk; have b := h.oth_bd hk
      rcases p.small k hk hg with q | q <;> omega
  | g :: l, ow, hr, ho, p => by
    obtain ⟨m1, m2, m3, m4⟩ := p.mem g (List.mem_cons_self ..)
    have r := rich_cases bs
    obtain ⟨c1, c2, c3, c4⟩ := p.cert h
    by_cases q1 : hr - ho ≤ 0
    · rw [passR_stop q1]
      exact p.stop h (by have := p.le; omega) c1 c2 c3 c4
    by_cases q2 : hr - ho < own bs g + oth bs g
    · rw [passR_split q1 q2]
      have o1 := h.own_bd m1; have o2 := h.oth_bd m1
      obtain ⟨P1, P2, P3, P4, P5⟩ := mkR_cross (n := partOf bs (hr - ho) (own bs g + oth bs g)) (d := own bs g + oth bs g) (by unfold partOf; split <;> omega) (by unfold partOf; split <;> omega) (by omega)
      generalize hP : makeR (partOf bs (hr - ho) (own bs g + oth bs g)) (own bs g + oth bs g) = P at *
      have hw : ∀ k, k ≠ g → gi (ow.set g 0) k = gi ow k := fun k hk => gi_set_ne hk
      have hg0 : gi (ow.set g 0) g = 0 := gi_set_eq (by rw [p.len]; exact m1)
      refine ⟨by simp [p.len], fun k hk => ?_, ⟨oth bs g, own bs g, c1, c2, fun k hk => ⟨fun e => ?_, fun e hg => ?_, fun e hg => ?_⟩⟩, ?_, Or.inr ⟨⟨by simp only; omega, by simp only; omega⟩, by simpa using hg0, P1, P3, P4, P5⟩⟩
      · by_cases e : k = g
        · left; rw [e]; exact hg0
        · simp only; rw [hw k e]; exact p.z1 k hk
      · have e : (k : Int) = (g : Int) := e
        obtain rfl : k = g := by omega
        rw [Int.mul_comm]
      · have e : (k : Int) ≠ (g : Int) := e
        have hg : gi (ow.set g 0) k = richN bs := hg
        rw [hw k (by omega)] at hg
        exact c3 k hk hg
      · have e : (k : Int) ≠ (g : Int) := e
        have hg : gi (ow.set g 0) k = 1 - (richN bs : Int) := hg
        rw [hw k (by omega)] at hg
        exact c4 k hk hg
      · obtain ⟨s1, s2⟩ := sum_split (bs := bs) (d := ⟨ow.set g 0, g, P⟩) (ow := ow) m1 rfl m2 hw
        rw [s1, s2, ← p.r, ← p.o]
        simp only
        -- more times the denominator is what goes over
        have key : (own bs g + oth bs g) * (P.d - (if richN bs = 0 then P.n else P.d - P.n)) = P.d * (hr - ho) := by
          unfold partOf at P2
          rcases r with e | e
          · rw [e] at P2 ⊢
            simp only [Nat.zero_ne_one, if_false, if_true] at P2 ⊢
            rw [Int.mul_sub, Int.mul_comm (own bs g + oth bs g) P.n, P2, Int.sub_mul, Int.mul_comm _ P.d, Int.mul_comm (hr - ho)]; omega
          · rw [e] at P2 ⊢
            simp only [Nat.one_ne_zero, if_false, if_true] at P2 ⊢
            rw [show P.d - (P.d - P.n) = P.n by omega, Int.mul_comm, P2, Int.mul_comm]
        have sw : (if richN bs = 0 then P.d - P.n else P.n) = P.d - (if richN bs = 0 then P.n else P.d - P.n) := by split <;> omega
        rw [sw]
        generalize (if richN bs = 0 then P.n else P.d - P.n) = sh at *
        generalize own bs g = a at *
        generalize oth bs g = b at *
        simp only [Int.add_mul, Int.mul_sub, Int.mul_comm a P.d, Int.mul_comm b P.d] at key ⊢
        omega
    · rw [passR_pass q1 q2]
      refine passR_ok h l _ _ _ ?_
      have hw : ∀ k, k ≠ g → gi (ow.set g (1 - (richN bs : Int))) k = gi ow k := fun k hk => gi_set_ne hk
      have hg0 : gi (ow.set g (1 - (richN bs : Int))) g = 1 - (richN bs : Int) := gi_set_eq (by rw [p.len]; exact m1)
      have nd := List.nodup_cons.1 p.nd
      have sr := List.pairwise_cons.1 p.srt
      have ng : ∀ k, k ∈ l → k ≠ g := fun k hk e => nd.1 (e ▸ hk)
      refine ⟨by simp [p.len], fun k hk => ?_, ?_, ?_, by omega, fun k hk => ?_, fun k hk hg => ?_, sr.2, nd.2, fun k hk hg j hj => ?_, fun k hk hg => ?_⟩
      · by_cases e : k = g
        · rw [e, hg0]; omega
        · rw [hw k e]; exact p.z1 k hk
      · unfold sumR
        rw [sumTo_upd (g := fun i => if gi ow i = (richN bs : Int) then own bs i else 0) m1 (fun k hk hne => by simp only [hw k hne])]
        simp only [hg0, m2, if_true]
        rw [if_neg (by omega)]
        have := p.r; unfold sumR at this; omega
      · unfold sumO
        rw [sumTo_upd (g := fun i => if gi ow i = 1 - (richN bs : Int) then oth bs i else 0) m1 (fun k hk hne => by simp only [hw k hne])]
        simp only [hg0, m2, if_true]
        rw [if_neg (by omega)]
        have := p.o; unfold sumO at this; omega
      · obtain ⟨a1, a2, a3, a4⟩ := p.mem k (List.mem_cons_of_mem _ hk)
        exact ⟨a1, by rw [hw k (ng k hk)]; exact a2, a3, a4⟩
      · by_cases e : k = g
        · rw [e, hg0] at hg; omega
        · rw [hw k e] at hg
          rcases p.rest k hk hg with c | c
          · rcases List.mem_cons.1 c with c | c
            · exact absurd c e
            · exact Or.inl c
          · exact Or.inr c
      · by_cases e : k = g
        · rw [e]; exact sr.1 j hj
        · rw [hw k e] at hg
          exact p.gone k hk hg j (List.mem_cons_of_mem _ hj)
      · by_cases e : k = g
        · rw [e]; exact Or.inr m3
        · rw [hw k e] at hg
          exact p.small k hk hg
theorem divP_ok (h : AdOk bs (num bs)) : DivOk bs (divP bs) := passR_ok h _ _ _ _ (ad_start h)
end
end Go.Proofs.Ytcjfcfgkejoeeaa
