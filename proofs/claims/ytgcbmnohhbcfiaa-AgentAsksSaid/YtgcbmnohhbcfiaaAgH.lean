/- Who was honest. -/
import Derived.Test.YtgcbmnohhbcfiaaAgR
import Derived.Test.YtgcbmnohhbcfiaaAsRq
namespace Go.Proofs.Ytgcbmnohhbcfiaa
open Go.RowKit Go.Deep
set_option linter.unusedVariables false
set_option linter.unusedSimpArgs false

/-- Booleans as a list in memory. -/
def kBl : Kd Bool := ⟨4, 1, fun _ b vs => vs = [.bool b], by decide, fun h => by rw [h]; rfl, fun h _ => h⟩
abbrev blV (l : List Bool) : List Value := l.map Value.bool
theorem lay_bl (V : World) (l : List Bool) : Lay kBl V l (blV l) := fun i b h => ⟨[.bool b], rfl, fun j u hu => by
  match j with
  | 0 =>
    obtain rfl : Value.bool b = u := by simpa using hu
    show (blV l)[i * 1 + 0]? = _
    rw [Nat.mul_one, Nat.add_zero, List.getElem?_map, h]; rfl
  | j + 1 => simp at hu⟩
theorem RIn.bool {B : Nat} {w : World} {A : Option Addr} {c i : Nat} {l : List Bool} {b : Bool} (h : RIn kBl B w A c l) (hi : l[i]? = some b) : ∃ ad, A = some ad ∧ ad.block < B ∧ w.cell? (ad.add i) = some (.bool b) := by
  obtain ⟨ad, vs, e, hB, rfl, hv⟩ := h.at_ i b hi
  refine ⟨ad, e, hB, ?_⟩
  have := hv 0 _ rfl
  rwa [show i * kBl.s + 0 = i by show i * 1 + 0 = i; omega] at this
theorem infoBl : (Try.prog.info? 4).map (fun i => (i.zero, i.size, i.bytes)) = some (some (.bool false), 1, 1) := by kernel_rfl
/-- An actor's log is right for the cakes Own. -/
def Mt.hon (m : Mt) (i : Nat) : Bool := decide (repN (cksOf false m.acs) (ofL m.log (i : Int)) = (ofL m.log (i : Int)).length)
def Mt.honTo (m : Mt) (k : Nat) : List Bool := (List.range m.acs.length).map (fun i => decide (i < k) && m.hon i)
def Mt.honL (m : Mt) : List Bool := (List.range m.acs.length).map m.hon
def Mt.honest (m : Mt) : List Bool := if m.code = 0 then m.honL else []
theorem honTo_len (m : Mt) (k : Nat) : (m.honTo k).length = m.acs.length := by simp [Mt.honTo]
theorem honTo_zero (m : Mt) : blV (m.honTo 0) = List.replicate m.acs.length (.bool false) := by
  apply List.ext_getElem?
  intro j
  simp only [Mt.honTo, blV, List.getElem?_map, List.getElem?_replicate]
  rcases Nat.lt_or_ge j m.acs.length with q | q
  · rw [List.getElem?_range q, if_pos q]; simp
  · rw [List.getElem?_eq_none (by simpa using q), if_neg (by omega)]; rfl
theorem honTo_step (m : Mt) {k : Nat} (hk : k < m.acs.length) : (blV (m.honTo k)).set k (.bool (m.hon k)) = blV (m.honTo (k + 1)) := by
  apply List.ext_getElem?
  intro j
  have hl : k < (blV (m.honTo k)).length := by simpa [blV, honTo_len] using hk
  by_cases e : j = k
  · subst e
    rw [List.getElem?_set_self hl]
    simp only [Mt.honTo, blV, List.getElem?_map, List.getElem?_range hk]
    simp
  · rw [List.getElem?_set_ne (by omega)]
    simp only [Mt.honTo, blV, List.getElem?_map]
    rcases Nat.lt_or_ge j m.acs.length with q | q
    · rw [List.getElem?_range q]
      simp only [Option.map_some]
      rw [show decide (j < k) = decide (j < k + 1) from decide_eq_decide.2 (by omega)]
    · rw [List.getElem?_eq_none (by simpa using q)]; rfl
theorem honTo_all (m : Mt) : m.honTo m.acs.length = m.honL := by
  unfold Mt.honTo Mt.honL
  apply List.map_congr_left
  intro i hi
  rw [decide_eq_true (List.mem_range.1 hi)]; rfl
theorem meet_desk {m : Mt} (h : MtOk m) (n : Nat) (hn : n ≤ 2000) : deskC (cksOf false m.acs) n = 0 := deskC_zero.2 ⟨by rw [cksOf_len]; exact h.m, hn, by rw [cksOf_len]; exact h.pos, fun i K hi => by
    unfold cksOf at hi
    rw [List.getElem?_map] at hi
    cases ha : m.acs[i]? with
    | none => rw [ha] at hi; cases hi
    | some a => rw [ha] at hi; obtain rfl := Option.some.inj hi; exact (Ac.code_zero.1 (h.ok i a ha)).1, fun i K hi => by
    unfold cksOf at hi ⊢
    rw [List.getElem?_map] at hi
    cases ha : m.acs[i]? with
    | none => rw [ha] at hi; cases hi
    | some a =>
      rw [ha] at hi
      obtain rfl := Option.some.inj hi
      have := (h.fit i a ha).own
      show a.own.len = len0 (m.acs.map (pick false))
      rw [this]
      have hp := h.pos
      match hm : m.acs, hp with
      | b :: l, _ => rfl⟩
/-- What Honest leaves. -/
def HonestRes (m : Mt) (w : World) (e : Ending) (w' : World) : Prop := ∃ A c, e = .returned (.tuple #[.slice A m.honest.length c, .int .i64 m.code]) ∧ RIn kBl w'.heap.size w' A c m.honest ∧ Below w.heap.size w w'
set_option maxRecDepth 100000 in
set_option maxHeartbeats 32000000 in
theorem honest_any (m : Mt) (S : Option Addr) (s : Nat) (B : Option Addr) (dl : Nat) (w : World) (h : AsIn w.heap.size w S s m.acs) (hl : LgIn w.heap.size w B dl m.log) :
    Calls Try.prog 67 #[mV S s m.acs B dl m.log] w (HonestRes m w) := by
  obtain ⟨i0, hi0, hz0, hz1, hz2⟩ := info_parts infoCk
  have HC := Lib.hid (fun (W : World) (hW : Below w.heap.size w W) => mcheck_any m.acs S s m.log B dl W (h.next hW) (hl.next hW))
  have HH := Lib.hid (fun (W : World) (hW : Below w.heap.size w W) => h.next hW)
  have HLG := Lib.hid (fun (W : World) (hW : Below w.heap.size w W) => hl.next hW)
  have hM0 : Mx w [(w.heap.size, mB S s m.acs B dl m.log)] [] (w.alloc (mB S s m.acs B dl m.log)) := (Mx.of_bx (Bx.start w)).new rfl _
  clear h hl
  obtain ⟨code, hco⟩ : ∃ x, x = meetC m.acs m.log := ⟨_, rfl⟩
  rw [← hco] at HC
  have HCO := Lib.hid (show m.code = code from hco.symm)
  have HOK := Lib.hid (fun (e : code = 0) => show MtOk m from meetC_zero.1 (by rw [← hco]; exact e))
  clear hco
  go_enter Try.func67, Try.ntmps67
  go_upto_region 1 with fail
  generalize hw0 : w.alloc (mB S s m.acs B dl m.log) = w0 at *
  clear hw0
  have c_m := fun j => cell_of_row _ _ j _ _ _ (hM0.get 0 rfl)
  have z_m := hM0.lt 0 rfl
  go_wp2_with fail
  refine (HC.out _ hM0.below).mono ?_
  rintro e w1 ⟨rfl, hb⟩
  have hM1 := hM0.next hb
  clear hb hM0 c_m z_m HC
  by_cases hc : code = 0
  rotate_left
  · have b1 : (code != 0) = true := by simpa using hc
    have HE := Lib.hid (show m.honest = [] from if_neg (by rw [HCO.out]; exact hc))
    have HBw := Lib.hid hM1.below
    clear hM1 HOK HH HLG hc
    go_wp2_with fail
    refine bodyPost_ret (v := .tuple #[.slice none 0 0, .int .i64 code]) (by simp [results, Try.results67, go_sem]) rfl ?_
    exact ⟨none, 0, by rw [HE.out, HCO.out]; rfl, by rw [HE.out]; exact RIn.nil _ _, HBw.out⟩
  subst hc
  have HOK2 := Lib.hid (HOK.out rfl)
  clear HOK
  have hm6 := HOK2.out.m
  have hm0 := HOK2.out.pos
  have HL := Lib.hid (cksOf_len (t := false) (acs := m.acs))
  have c_m := fun j => cell_of_row _ _ j _ _ _ (hM1.get 0 rfl)
  have z_m := hM1.lt 0 rfl
  go_wp2_with fail
  have HM1 := Lib.hid (hM1.nil 24 3)
  clear c_m z_m hM1
  go_loopw [5, 21] (fun s5 s21 wr => ∃ (k : Nat) (v : Value) (xs : List Value), k ≤ m.acs.length ∧ v = s5 ∧ s21 = .int .i64 k ∧ Mx w [(w.heap.size, mB S s m.acs B dl m.log)] [⟨v, 24, 3, ((cksOf false m.acs).take k).length, xs⟩] wr ∧ Lay kCk w ((cksOf false m.acs).take k) xs) (fun _ s21 _ => m.acs.length - (intOf s21).toNat)
  case atStart => exact ⟨0, _, [], Nat.zero_le _, rfl, rfl, HM1.out, Lay.nil _ _⟩
  case round =>
    clear HM1
    obtain ⟨k, v, xs, hk, rfl, rfl, hMr, hE⟩ := hrel
    by_cases hlt : k < m.acs.length
    rotate_left
    · obtain rfl : k = m.acs.length := by omega
      rw [← HL.out, List.take_length] at hMr hE
      obtain ⟨P, cp, rfl, hcs⟩ := hE.in_ hMr.below (hMr.row 0 rfl)
      obtain ⟨wb, hwb⟩ : ∃ x : World, x = wr := ⟨_, rfl⟩
      subst hwb
      have HCS := Lib.hid (fun (W : World) (hW : Below wb.heap.size wb W) => hcs.next hW)
      have hB2 := hMr.dropR
      clear hcs hE hk hlt hMr HH
      have hmk : ∀ W, Sem.run Try.prog (Instr.makeSlice 105 (.int .i64 (m.acs.length : Int)) (.int .i64 (m.acs.length : Int))) W = .ok (.slice (some ⟨W.heap.size, 0, none⟩) m.acs.length m.acs.length) (W.alloc (.cells (madeCells #[.bool false] m.acs.length) 4)) := run_make_row' (P := Try.prog) 105 4 (.bool false) 1 Try.underlying105 infoBl rfl .i64 .i64 m.acs.length (by omega) (by omega)
      have c_m := fun j => cell_of_row _ _ j _ _ _ (hB2.get 0 rfl)
      have z_m := hB2.lt 0 rfl
      go_upto_region 11 with fail
      have hM3 := hB2.addR (one_alloc wb (.cells (madeCells #[.bool false] m.acs.length) 4)) ⟨.slice (some ⟨wb.heap.size, 0, none⟩) m.acs.length m.acs.length, 4, 1, m.acs.length, (madeCells #[.bool false] m.acs.length).toList⟩ (World.ownsRow_lit wb (madeCells #[.bool false] m.acs.length) m.acs.length (Nat.le_refl _) (by unfold maxLen; omega) (by simp [madeCells]))
      have hW3 := one_alloc wb (.cells (madeCells #[.bool false] m.acs.length) 4)
      rw [toList_madeCells_one, ← honTo_zero] at hM3
      have HW3 := Lib.hid hW3
      clear hB2 hmk c_m z_m hW3
      obtain ⟨gS, hgS⟩ : ∃ x, x = wb.heap.size := ⟨_, rfl⟩
      have HGS := Lib.hid (show wb.heap.size ≤ gS by omega)
      obtain ⟨w3, hw3⟩ : ∃ x, x = wb.alloc (.cells (madeCells #[.bool false] m.acs.length) 4) := ⟨_, rfl⟩
      rw [← hgS, ← hw3] at hM3
      rw [← hw3] at HW3
      rw [← hgS, ← hw3]
      clear hgS hw3
      have c_m := fun j => cell_of_row _ _ j _ _ _ (hM3.get 0 rfl)
      have z_m := hM3.lt 0 rfl
      go_wp2_with fail
      have HM3 := Lib.hid hM3
      clear c_m z_m hM3
      go_loopw [38] (fun s38 wr => ∃ k : Nat, k ≤ m.acs.length ∧ s38 = .int .i64 k ∧ Mx w [(w.heap.size, mB S s m.acs B dl m.log)] [⟨.slice (some ⟨gS, 0, none⟩) m.acs.length m.acs.length, 4, 1, m.acs.length, blV (m.honTo k)⟩] wr ∧ Below wb.heap.size wb wr) (fun s38 _ => m.acs.length - (intOf s38).toNat)
      case atStart => exact ⟨0, Nat.zero_le _, rfl, HM3.out, HW3.out⟩
      case round =>
        clear HM3 HW3
        obtain ⟨k, hk, rfl, hMr, hW⟩ := hrel
        by_cases hlt : k < m.acs.length
        rotate_left
        · obtain rfl : k = m.acs.length := by omega
          rw [honTo_all] at hMr
          have HR := Lib.hid (show ∃ A c, (.slice (some ⟨gS, 0, none⟩) m.acs.length m.acs.length : Value) = .slice A m.honL.length c ∧ RIn kBl wr.heap.size wr A c m.honL from by
            have hr := hMr.row 0 rfl
            have hh : m.honL.length = m.acs.length := by simp [Mt.honL]
            obtain ⟨A, c, e, k⟩ := (lay_bl wr m.honL).in_ (Below.refl _ _) (v := .slice (some ⟨gS, 0, none⟩) m.acs.length m.acs.length) (by rw [hh]; exact hr)
            exact ⟨A, c, e, k⟩)
          have HBw := Lib.hid hMr.below
          have HE := Lib.hid (show m.honest = m.honL from if_pos HCO.out)
          clear hMr hk hlt hW HCS
          go_wp2_with fail
          refine bodyPost_ret (v := .tuple #[.slice (some ⟨gS, 0, none⟩) m.acs.length m.acs.length, .int .i64 0]) (by simp [results, Try.results67, go_sem]) rfl ?_
          obtain ⟨A, c, e, hr⟩ := HR.out
          exact ⟨A, c, by rw [HE.out, HCO.out, e], by rw [HE.out]; exact hr, HBw.out⟩
        obtain ⟨z1, z2, z3, z4⟩ := idx_facts hlt (by omega)
        have HLE := Lib.hid (And.intro (Nat.succ_le_of_lt hlt) (Nat.sub_lt_sub_left hlt (Nat.lt_succ_self k)))
        have HST := Lib.hid (honTo_step m hlt)
        have HKK := Lib.hid hlt
        have HLQ := Lib.hid (show m.log.length ≤ 3000 by have := HOK2.out.q; omega)
        obtain ⟨lq, hlq⟩ : ∃ x, x = ofL m.log (k : Int) := ⟨_, rfl⟩
        have HOF := Lib.hid (fun (W : World) (hW : Below w.heap.size w W) => agof_any m.log B dl (k : Int) W (HLG.out W hW) HLQ.out)
        rw [← hlq] at HOF
        have HB0 := Lib.hid (show m.hon k = decide (repN (cksOf false m.acs) lq = lq.length) by rw [hlq]; rfl)
        have HRP := Lib.hid (show repR (cksOf false m.acs) lq = (repN (cksOf false m.acs) lq : Int) ∧ deskC (cksOf false m.acs) lq.length = 0 by
          have e : deskC (cksOf false m.acs) lq.length = 0 := meet_desk HOK2.out _ (by rw [hlq]; have := ofL_le m.log (k : Int); have := HOK2.out.q; omega)
          exact ⟨if_pos e, e⟩)
        have HW0 := Lib.hid hW
        have c_m := fun j => cell_of_row _ _ j _ _ _ (hMr.get 0 rfl)
        have z_m := hMr.lt 0 rfl
        clear hk hlt hlq hW
        go_wp2_with fail
        refine (HOF.out _ hMr.below).mono ?_
        rintro e w4 ⟨A9, c9, rfl, _, hlg9, hb⟩
        have hM4 := hMr.next hb
        have HW4 := Lib.hid (bcall HW0.out HW0.out.size hb)
        clear hb hMr HW0 HOF c_m z_m
        obtain ⟨nr, hnr⟩ : ∃ x, x = repN (cksOf false m.acs) lq := ⟨_, rfl⟩
        have HRE := Lib.hid (show Calls Try.prog 52 #[.slice P (cksOf false m.acs).length cp, .slice A9 lq.length c9] w4 fun e w' => e = .returned (.tuple #[.int .i64 (nr : Int), .int .i64 0]) ∧ Below w4.heap.size w4 w' by
          have := askreplay_any (cksOf false m.acs) P cp lq A9 c9 w4 (HCS.out _ HW4.out) hlg9
          rwa [HRP.out.1, HRP.out.2, ← hnr] at this)
        rw [← hnr] at HB0
        clear hlg9 hnr
        go_wp2_with fail
        refine HRE.out.mono ?_
        rintro e w5 ⟨rfl, hb⟩
        have hM5 := hM4.next hb
        have HW5 := Lib.hid (bcall HW4.out HW4.out.size hb)
        clear hb hM4 HW4 HRE
        have HNN := Lib.hid (show m.hon k = ((nr : Int) == (lq.length : Int)) by rw [HB0.out]; cases e : ((nr : Int) == (lq.length : Int)) <;> simp at e ⊢ <;> omega)
        obtain ⟨bb, hbb⟩ : ∃ x, x = ((nr : Int) == (lq.length : Int)) := ⟨_, rfl⟩
        have b2 := hbb.symm
        rw [← hbb] at HNN
        obtain ⟨r1, r2, r3⟩ := (show (∀ j u, j < m.acs.length * 1 → (blV (m.honTo k))[j]? = some u → w5.cell? ⟨gS, j, none⟩ = some u) ∧ (∀ j, w5.frozen? ⟨gS, j, none⟩ = false) ∧ gS < w5.heap.size from ⟨fun j u hj hu => ((hM5.row 0 rfl).cellAt j hj).trans hu, fun j => (hM5.row 0 rfl).frozenAt j, (own_ge' (hM5.row 0 rfl) gS rfl).2⟩)
        have hx := honTo_len m k
        obtain ⟨u0, hu0⟩ : ∃ u, (blV (m.honTo k))[k]? = some u := ⟨_, List.getElem?_eq_getElem (by rw [show (blV (m.honTo k)).length = m.acs.length by simp [blV, hx]]; exact HKK.out)⟩
        have r0 := r1 k u0 (by have := HKK.out; omega) hu0
        clear r1 hu0 hx hbb
        go_upto_region 17 with fail
        have hM6 := hM5.setRowA 0 rfl k (.bool bb)
        have HW6 := Lib.hid (HW5.out.setCell (p := ⟨gS, k, none⟩) HGS.out (.bool bb))
        rw [← HNN.out, HST.out] at hM6
        rw [← HNN.out] at HW6 ⊢
        clear hM5 r0 r2 r3 b2 HW5
        generalize w5.setCell _ _ = w6 at *
        have HM6 := Lib.hid hM6
        clear hM6
        go_wp2_with fail
        exact ⟨⟨k + 1, HLE.out.1, by go_num, HM6.out, HW6.out⟩, by simpa [intOf] using HLE.out.2⟩
    obtain ⟨a, ha⟩ : ∃ a, m.acs[k]? = some a := ⟨_, List.getElem?_eq_getElem hlt⟩
    have hK := cksOf_at (t := false) ha
    obtain ⟨ad, A, c, R, d, A', c', R', d', rfl, hb0, hC, hC', hwf, hat0⟩ := (HH.out _ (Below.refl _ _)).actor ha
    obtain ⟨c0, c1, c2, c3, c4, c5, c6, c7⟩ := hat0.next hb0 hMr.below
    have hb := Nat.lt_of_lt_of_le hb0 hMr.below.size
    obtain ⟨z1, z2, z3, z4⟩ := idx_facts hlt (by omega)
    have HEl := Lib.hid (show kCk.El w (pick false a) [.int .i64 a.own.len, .slice A a.own.cuts.length c, .slice R a.own.dens.length d] from ⟨A, c, R, d, rfl, hC⟩)
    have HLE := Lib.hid (And.intro (Nat.succ_le_of_lt hlt) (Nat.sub_lt_sub_left hlt (Nat.lt_succ_self k)))
    have HLK := Lib.hid (show ((cksOf false m.acs).take k).length ≤ 6 by rw [List.length_take, HL.out]; omega)
    have HT := Lib.hid (take_next hK)
    have HE := Lib.hid hE
    have HX := Lib.hid (hMr.row 0 rfl).1
    clear hat0 hb0 hC hC' hwf hE hk hlt hK ha HH HLG HOK2 hm0
    go_upto_region 8 with fail
    have hM2 := hMr.new rfl (acB a A c R d A' c' R' d')
    clear hMr c0 c1 c2 c3 c4 c5 c6 c7 hb
    generalize wr.heap.size = gA at *
    generalize wr.alloc _ = wa at *
    have c_a := fun j => cell_of_row _ _ j _ _ _ (hM2.get 0 rfl)
    have z_a := hM2.lt 0 rfl
    have hn := hM2.new rfl (.cells #[.int .i64 a.own.len, .slice A a.own.cuts.length c, .slice R a.own.dens.length d] 24)
    go_upto_region 9 with (at_builtin; refine wpList_append_any _ rfl (.tmp 25) (.tmp 28) 73 rfl w.heap.size 24 i0 (.agg #[.int .i64 0, .slice none 0 0, .slice none 0 0]) 3 56 Try.underlying73 hi0 hz0 hz1 hz2 rfl (by omega) v ((cksOf false m.acs).take k).length xs rfl (hn.row 0 rfl) _ (some ⟨wa.heap.size, 0, none⟩) 1 1 [.int .i64 a.own.len, .slice A a.own.cuts.length c, .slice R a.own.dens.length d] rfl (reads_lit (n := 1) (s := 3) (hn.get 0 rfl) rfl) (one3 _ _ _ _ _ _ _) (by have := HLK.out; unfold maxLen; omega) (by have := HLK.out; omega) hn.below.size ?_; intro v' W1 hown hgr hat)
    have hG := hn.grow 0 rfl hgr hown hat
    have HN := Lib.hid (show Mx w [(w.heap.size, mB (some ad) s m.acs B dl m.log)] [⟨v', 24, 3, ((cksOf false m.acs).take (k + 1)).length, xs ++ [.int .i64 a.own.len, .slice A a.own.cuts.length c, .slice R a.own.dens.length d]⟩] W1 by rw [HT.out, List.length_append]; exact hG.drop.drop)
    have HN2 := Lib.hid (show Lay kCk w ((cksOf false m.acs).take (k + 1)) (xs ++ [.int .i64 a.own.len, .slice A a.own.cuts.length c, .slice R a.own.dens.length d]) by rw [HT.out]; exact HE.out.add HX.out HEl.out)
    clear hown hgr hat hn hG hM2 c_a z_a
    go_wp2_with fail
    exact ⟨⟨k + 1, v', _, HLE.out.1, rfl, by go_num, HN.out, HN2.out⟩, by simpa [intOf] using HLE.out.2⟩
end Go.Proofs.Ytgcbmnohhbcfiaa
