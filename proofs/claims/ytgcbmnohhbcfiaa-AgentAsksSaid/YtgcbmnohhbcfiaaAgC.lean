/- Meetings are checked. -/
import Derived.Test.YtgcbmnohhbcfiaaAgA
import Derived.Test.YtgcbmnohhbcfiaaCn1
namespace Go.Proofs.Ytgcbmnohhbcfiaa
open Go.RowKit Go.Deep
set_option linter.unusedVariables false
set_option linter.unusedSimpArgs false

theorem at_lt {α : Type} {l : List α} {j : Nat} {a : α} (h : l[j]? = some a) : j < l.length := by
  rcases Nat.lt_or_ge j l.length with q | q
  · exact q
  · rw [List.getElem?_eq_none q] at h; cases h
theorem all_below {α : Type} {l : List α} {p : Nat → α → Prop} (h : ∀ (j : Nat) (x : α), j < l.length → l[j]? = some x → p j x) : ∀ (j : Nat) (x : α), l[j]? = some x → p j x := fun j x hj => h j x (at_lt hj) hj
theorem all_step {α : Type} {l : List α} {p : Nat → α → Prop} {k : Nat} {a : α} (h : ∀ (j : Nat) (x : α), j < k → l[j]? = some x → p j x) (ha : l[k]? = some a) (hp : p k a) : ∀ (j : Nat) (x : α), j < k + 1 → l[j]? = some x → p j x := fun j x hj hx => by
  rcases Nat.lt_or_ge j k with u | u
  · exact h j x u hx
  · obtain rfl : j = k := by omega
    rw [ha] at hx; obtain rfl := Option.some.inj hx
    exact hp
theorem not_fits1 {n : Int} {l : List Qy} {i : Nat} {a : Ac} (h : (a.own.len != n) = true) : ¬ Fits n l i a := fun f => by have := f.own; simp at h; exact h this
theorem not_fits2 {n : Int} {l : List Qy} {i : Nat} {a : Ac} (h : (a.told.len != n) = true) : ¬ Fits n l i a := fun f => by have := f.told; simp at h; exact h this
theorem not_fits3 {n : Int} {l : List Qy} {i : Nat} {a : Ac} (h : decide (a.after < -1) = true) : ¬ Fits n l i a := fun f => by have := f.lo; simp at h; omega
theorem not_fits4 {n : Int} {l : List Qy} {i : Nat} {a : Ac} (h : decide (2000 < a.after) = true) : ¬ Fits n l i a := fun f => by have := f.hi; simp at h; omega
theorem not_fits5 {n : Int} {l : List Qy} {i : Nat} {a : Ac} (h : (a.asked != ((ofL l (i : Int)).length : Int)) = true) : ¬ Fits n l i a := fun f => by have := f.asked; simp at h; exact h this
theorem fits_of {n : Int} {l : List Qy} {i : Nat} {a : Ac} (h1 : (a.own.len != n) = false) (h2 : (a.told.len != n) = false) (h3 : decide (a.after < -1) = false) (h4 : decide (2000 < a.after) = false) (h5 : (a.asked != ((ofL l (i : Int)).length : Int)) = false) : Fits n l i a := by
  simp at h1 h2 h3 h4 h5
  exact ⟨h1, h2, by omega, by omega, h5⟩
set_option maxRecDepth 100000 in
set_option maxHeartbeats 32000000 in
theorem fmcheck_any (acs : List Ac) (S : Option Addr) (s : Nat) (l : List Qy) (B : Option Addr) (dl : Nat) (w : World) (h : AsIn w.heap.size w S s acs) (hl : LgIn w.heap.size w B dl l) :
    Calls Try.prog 70 #[mV S s acs B dl l] w fun e w' => e = .returned (.int .i64 (meetC acs l)) ∧ Below w.heap.size w w' := by
  have hm := Nat.le_trans h.len h.cap
  have hn := Nat.le_trans hl.len hl.cap
  unfold maxLen at hm hn
  have hB0 : Bx w [(w.heap.size, mB S s acs B dl l)] (w.alloc (mB S s acs B dl l)) := (Bx.start w).new rfl _
  have HH := Lib.hid (fun (W : World) (hW : Below w.heap.size w W) => h.next hW)
  have HLG := Lib.hid (fun (W : World) (hW : Below w.heap.size w W) => hl.next hW)
  clear h hl
  have c_m := fun j => cell_of_row _ _ j _ _ _ (hB0.get 0 rfl)
  have z_m := hB0.lt 0 rfl
  have HBw := Lib.hid hB0.below
  by_cases q1 : 6 < acs.length
  · have b1 : decide ((6 : Int) < (acs.length : Int)) = true := decide_eq_true (by omega)
    have HR := Lib.hid (meetC_many (acs := acs) (l := l) (Or.inl q1))
    rw [HR.out]
    clear HR q1 HH HLG hB0 hm hn
    go_enter Try.func70, Try.ntmps70
    go_wp2_with fail
    go_ret
    exact ⟨rfl, HBw.out⟩
  have b1 : decide ((6 : Int) < (acs.length : Int)) = false := decide_eq_false (by omega)
  by_cases q2 : 2000 < l.length
  · have b2 : decide ((2000 : Int) < (l.length : Int)) = true := decide_eq_true (by omega)
    have HR := Lib.hid (meetC_many (acs := acs) (l := l) (Or.inr q2))
    rw [HR.out]
    clear HR q1 q2 HH HLG hB0 hm hn
    go_enter Try.func70, Try.ntmps70
    go_wp2_with fail
    go_ret
    exact ⟨rfl, HBw.out⟩
  have b2 : decide ((2000 : Int) < (l.length : Int)) = false := decide_eq_false (by omega)
  have HQ := Lib.hid (show ¬ (6 < acs.length ∨ 2000 < l.length) by omega)
  by_cases q3 : acs.length = 0
  · have b3 : ((acs.length : Int) == 0) = true := by simpa using q3
    have HR := Lib.hid (meetC_none HQ.out q3)
    rw [HR.out]
    clear HR q1 q2 q3 HH HLG hB0 hm hn HQ
    go_enter Try.func70, Try.ntmps70
    go_wp2_with fail
    go_ret
    exact ⟨rfl, HBw.out⟩
  have b3 : ((acs.length : Int) == 0) = false := by simpa using q3
  have HP := Lib.hid q3
  clear q1 q2 q3 hn
  go_enter Try.func70, Try.ntmps70
  go_wp2_with fail
  clear b1 b2 b3 c_m z_m
  go_loopw [3] (fun s3 wr => ∃ k : Nat, k ≤ acs.length ∧ s3 = .int .i64 k ∧ Hid (∀ (j : Nat) (x : Ac), j < k → acs[j]? = some x → x.code = 0) ∧ Bx w [(w.heap.size, mB S s acs B dl l)] wr) (fun s3 _ => acs.length - (intOf s3).toNat)
  case atStart => exact ⟨0, Nat.zero_le _, rfl, fun j x hj => by omega, hB0⟩
  case round =>
    obtain ⟨k, hk, rfl, hno, hBr⟩ := hrel
    clear hB0 HBw
    have c_m := fun j => cell_of_row _ _ j _ _ _ (hBr.get 0 rfl)
    have z_m := hBr.lt 0 rfl
    by_cases hlt : k < acs.length
    rotate_left
    · obtain rfl : k = acs.length := by omega
      have HZ := Lib.hid (all_below (p := fun _ (x : Ac) => x.code = 0) hno)
      clear hno hk hlt
      go_wp2_with fail
      have HB0 := Lib.hid hBr
      clear c_m z_m hBr
      go_loopw [6] (fun s4 wr => ∃ k : Nat, k ≤ acs.length ∧ s4 = .int .i64 k ∧ Hid (∀ (j : Nat) (x : Ac), j < k → acs[j]? = some x → Fits (ln0 acs) l j x) ∧ Bx w [(w.heap.size, mB S s acs B dl l)] wr) (fun s4 _ => acs.length - (intOf s4).toNat)
      case atStart => exact ⟨0, Nat.zero_le _, rfl, fun j x hj => by omega, HB0.out⟩
      case round =>
        clear HB0
        obtain ⟨k, hk, rfl, hno, hBr⟩ := hrel
        have c_m := fun j => cell_of_row _ _ j _ _ _ (hBr.get 0 rfl)
        have z_m := hBr.lt 0 rfl
        have HBw := Lib.hid hBr.below
        by_cases hlt : k < acs.length
        rotate_left
        · obtain rfl : k = acs.length := by omega
          have HR := Lib.hid (meetC_good HQ.out HP.out HZ.out (all_below (p := fun j (x : Ac) => Fits (ln0 acs) l j x) hno))
          clear hno hk hlt hBr HZ HQ HP HH HLG
          go_wp2_with fail
          go_ret
          exact ⟨ret_int HR.out.symm, HBw.out⟩
        obtain ⟨a, ha⟩ : ∃ a, acs[k]? = some a := ⟨_, List.getElem?_eq_getElem hlt⟩
        obtain ⟨a0, ha0⟩ : ∃ a, acs[0]? = some a := ⟨_, List.getElem?_eq_getElem (by omega)⟩
        have hn0 : ln0 acs = a0.own.len := ln0_at ha0
        obtain ⟨ad, A, c, R, d, A', c', R', d', rfl, hb, hC, hC', hwf, hat⟩ := (HH.out _ hBr.below).actor ha
        have HO0 := Lib.hid (fun (W : World) (hW : Below w.heap.size w W) => show W.cell? ad = some (.int .i64 a0.own.len) ∧ ad.block < W.heap.size by
          obtain ⟨ad9, _, _, _, _, _, _, _, _, e9, hb9, _, _, _, h9⟩ := (HH.out W hW).actor ha0
          obtain rfl := Option.some.inj e9
          have o9 := h9.c0
          rw [Nat.zero_mul, show ad.add 0 = ad by simp [Addr.add]] at o9
          exact ⟨o9, hb9⟩)
        have z0 : (0 : Int) < (acs.length : Int) := by omega
        obtain ⟨c0, c1, c2, c3, c4, c5, c6, c7⟩ := hat
        obtain ⟨z1, z2, z3, z4⟩ := idx_facts hlt hm
        have HLE := Lib.hid (And.intro (Nat.succ_le_of_lt hlt) (Nat.sub_lt_sub_left hlt (Nat.lt_succ_self k)))
        have HNO := Lib.hid (fun (q : ¬ Fits a0.own.len l k a) => meetC_odd HQ.out HZ.out ha (by rw [hn0]; exact q))
        have HN := Lib.hid (fun (q : Fits a0.own.len l k a) => show Hid (∀ (j : Nat) (x : Ac), j < k + 1 → acs[j]? = some x → Fits (ln0 acs) l j x) from all_step (p := fun j (x : Ac) => Fits (ln0 acs) l j x) hno ha (by rw [hn0]; exact q))
        have HL2 := Lib.hid (show l.length ≤ 3000 by have := HQ.out; omega)
        clear hno hk hlt ha hC hC' hwf HZ HQ HP HH hn0 ha0
        go_upto_region 18 with fail
        have hBa := hBr.new rfl (acB a A c R d A' c' R' d')
        clear hBr HBw c_m z_m c0 c1 c2 c3 c4 c5 c6 c7
        clear hb
        generalize wr.heap.size = gA at *
        generalize wr.alloc _ = wa at *
        by_cases d1 : (a.own.len != a0.own.len) = true
        · have HX := Lib.hid (HNO.out (not_fits1 d1))
          clear HN HNO
          have c_m := fun j => cell_of_row _ _ j _ _ _ (hBa.get 1 rfl)
          have z_m := hBa.lt 1 rfl
          have c_a := fun j => cell_of_row _ _ j _ _ _ (hBa.get 0 rfl)
          have z_a := hBa.lt 0 rfl
          have HBa := Lib.hid hBa
          obtain ⟨o1, o2⟩ := HO0.out _ hBa.below
          clear hBa
          go_wp2_with fail
          refine wp_region_ext (by kernel_rfl) (by kernel_rfl) ?_
          repeat (first | go_big_quiet_step (fail) | quiet_step (fail))
          refine wpQuiet_nil ?_
          rintro _ ⟨⟨w2, hb2⟩, rfl⟩
          have HBr2 := Lib.hid (HBa.out.next hb2).below
          clear hb2 HBa c_m z_m c_a z_a o1 o2 HO0
          go_wp2_with fail
          go_ret
          exact ⟨ret_int HX.out.symm, HBr2.out⟩
        replace d1 : (a.own.len != a0.own.len) = false := by simpa using d1
        by_cases d2 : (a.told.len != a0.own.len) = true
        · have HX := Lib.hid (HNO.out (not_fits2 d2))
          clear HN HNO
          have c_m := fun j => cell_of_row _ _ j _ _ _ (hBa.get 1 rfl)
          have z_m := hBa.lt 1 rfl
          have c_a := fun j => cell_of_row _ _ j _ _ _ (hBa.get 0 rfl)
          have z_a := hBa.lt 0 rfl
          have HBa := Lib.hid hBa
          obtain ⟨o1, o2⟩ := HO0.out _ hBa.below
          clear hBa
          go_wp2_with fail
          refine wp_region_ext (by kernel_rfl) (by kernel_rfl) ?_
          repeat (first | go_big_quiet_step (fail) | quiet_step (fail))
          refine wpQuiet_nil ?_
          rintro _ ⟨⟨w2, hb2⟩, rfl⟩
          have HBr2 := Lib.hid (HBa.out.next hb2).below
          clear hb2 HBa c_m z_m c_a z_a o1 o2 HO0
          go_wp2_with fail
          go_ret
          exact ⟨ret_int HX.out.symm, HBr2.out⟩
        replace d2 : (a.told.len != a0.own.len) = false := by simpa using d2
        by_cases d3 : (decide (a.after < -1)) = true
        · have HX := Lib.hid (HNO.out (not_fits3 d3))
          clear HN HNO
          have c_m := fun j => cell_of_row _ _ j _ _ _ (hBa.get 1 rfl)
          have z_m := hBa.lt 1 rfl
          have c_a := fun j => cell_of_row _ _ j _ _ _ (hBa.get 0 rfl)
          have z_a := hBa.lt 0 rfl
          have HBa := Lib.hid hBa
          obtain ⟨o1, o2⟩ := HO0.out _ hBa.below
          clear hBa
          go_wp2_with fail
          refine wp_region_ext (by kernel_rfl) (by kernel_rfl) ?_
          repeat (first | go_big_quiet_step (fail) | quiet_step (fail))
          refine wpQuiet_nil ?_
          rintro _ ⟨⟨w2, hb2⟩, rfl⟩
          have HBr2 := Lib.hid (HBa.out.next hb2).below
          clear hb2 HBa c_m z_m c_a z_a o1 o2 HO0
          go_wp2_with fail
          go_ret
          exact ⟨ret_int HX.out.symm, HBr2.out⟩
        replace d3 : (decide (a.after < -1)) = false := by simpa using d3
        by_cases d4 : (decide (2000 < a.after)) = true
        · have HX := Lib.hid (HNO.out (not_fits4 d4))
          clear HN HNO
          have c_m := fun j => cell_of_row _ _ j _ _ _ (hBa.get 1 rfl)
          have z_m := hBa.lt 1 rfl
          have c_a := fun j => cell_of_row _ _ j _ _ _ (hBa.get 0 rfl)
          have z_a := hBa.lt 0 rfl
          have HBa := Lib.hid hBa
          obtain ⟨o1, o2⟩ := HO0.out _ hBa.below
          clear hBa
          go_wp2_with fail
          refine wp_region_ext (by kernel_rfl) (by kernel_rfl) ?_
          repeat (first | go_big_quiet_step (fail) | quiet_step (fail))
          refine wpQuiet_nil ?_
          rintro _ ⟨⟨w2, hb2⟩, rfl⟩
          have HBr2 := Lib.hid (HBa.out.next hb2).below
          clear hb2 HBa c_m z_m c_a z_a o1 o2 HO0
          go_wp2_with fail
          go_ret
          exact ⟨ret_int HX.out.symm, HBr2.out⟩
        replace d4 : (decide (2000 < a.after)) = false := by simpa using d4
        have hM := Mx.of_bx hBa
        clear hBa
        go_wp2_with fail
        refine wp_region_T (Bx w [(gA, acB a A c R d A' c' R' d'), (w.heap.size, mB (some ad) s acs B dl l)]) 42 (by kernel_rfl) (by rfl) ((hM.keep (List.Sublist.cons_cons _ (List.Sublist.cons_cons _ (List.nil_sublist _)))).drew) (fun wq1 hbq => ?_)
        have hB1 := hM.next hbq
        clear hM hbq
        refine wpAnyT_go (Bx.grows _ _) (hB1.keep (List.Sublist.cons_cons _ (List.Sublist.cons_cons _ (List.nil_sublist _)))) [0, 1, 2, 3, 4, 5, 6, 7, 8, 9, 10, 11, 12, 13, 14, 15, 16, 17, 18, 19, 20, 21, 22, 23, 24, 25, 26, 27, 28, 29, 30, 31, 32, 33, 34, 35, 36, 37] 4 (by kernel_rfl) ?_
        apply Exists.intro
        refine ⟨fun G hG hN => ?_, ?_⟩
        · have c_a := fun (e : GE (Bx w [(gA, acB a A c R d A' c' R' d'), (w.heap.size, mB (some ad) s acs B dl l)]) G) j => cell_of_row e.w _ j _ _ _ ((GE.h e).get 0 rfl)
          have z_a := fun (e : GE (Bx w [(gA, acB a A c R d A' c' R' d'), (w.heap.size, mB (some ad) s acs B dl l)]) G) => (GE.h e).lt 0 rfl
          have c_m := fun (e : GE (Bx w [(gA, acB a A c R d A' c' R' d'), (w.heap.size, mB (some ad) s acs B dl l)]) G) j => cell_of_row e.w _ j _ _ _ ((GE.h e).get 1 rfl)
          have z_m := fun (e : GE (Bx w [(gA, acB a A c R d A' c' R' d'), (w.heap.size, mB (some ad) s acs B dl l)]) G) => (GE.h e).lt 1 rfl
          have o_1 := fun (e : GE (Bx w [(gA, acB a A c R d A' c' R' d'), (w.heap.size, mB (some ad) s acs B dl l)]) G) => (HO0.out _ (GE.h e).below).1
          have o_2 := fun (e : GE (Bx w [(gA, acB a A c R d A' c' R' d'), (w.heap.size, mB (some ad) s acs B dl l)]) G) => (HO0.out _ (GE.h e).below).2
          simp only [pickOps, List.getElem?_toArray, List.getElem?_cons_zero, List.getElem?_cons_succ]
          repeat (first | go_big_quiet_step (fail) | quiet_step (fail))
          exact wpQuiet_nil rfl
        refine wpAnyT_all (rs := [38]) (by kernel_rfl) (by simp) (fun wa2 hwa2 hRwa2 i hi => ?_)
        have hB2 := hB1.next hwa2
        clear hB1 hwa2 hRwa2
        obtain rfl := List.mem_singleton.1 hi
        refine wpOp_step rfl (fun Kc hKc => ?_)
        go_simp
        refine Calls.mono (fagof_any l B dl (k : Int) _ (HLG.out _ hB2.below) HL2.out) ?_
        rintro e wv3 ⟨A9, c9, rfl, hown, hlg9, hb⟩
        have hB3 := hB2.next hb
        clear hown hlg9 hb
        refine hKc _ _ ⟨(hB3.keep (List.Sublist.cons_cons _ (List.Sublist.cons_cons _ (List.nil_sublist _)))), ?_⟩
        clear hKc Kc hB2
        refine wpAnyT_go (Bx.grows _ _) (hB3.keep (List.Sublist.cons_cons _ (List.Sublist.cons_cons _ (List.nil_sublist _)))) [39, 40, 41] 0 (by kernel_rfl) ?_
        apply Exists.intro
        refine ⟨fun G hG hN => ?_, ?_⟩
        · have c_a := fun (e : GE (Bx w [(gA, acB a A c R d A' c' R' d'), (w.heap.size, mB (some ad) s acs B dl l)]) G) j => cell_of_row e.w _ j _ _ _ ((GE.h e).get 0 rfl)
          have z_a := fun (e : GE (Bx w [(gA, acB a A c R d A' c' R' d'), (w.heap.size, mB (some ad) s acs B dl l)]) G) => (GE.h e).lt 0 rfl
          have c_m := fun (e : GE (Bx w [(gA, acB a A c R d A' c' R' d'), (w.heap.size, mB (some ad) s acs B dl l)]) G) j => cell_of_row e.w _ j _ _ _ ((GE.h e).get 1 rfl)
          have z_m := fun (e : GE (Bx w [(gA, acB a A c R d A' c' R' d'), (w.heap.size, mB (some ad) s acs B dl l)]) G) => (GE.h e).lt 1 rfl
          have o_1 := fun (e : GE (Bx w [(gA, acB a A c R d A' c' R' d'), (w.heap.size, mB (some ad) s acs B dl l)]) G) => (HO0.out _ (GE.h e).below).1
          have o_2 := fun (e : GE (Bx w [(gA, acB a A c R d A' c' R' d'), (w.heap.size, mB (some ad) s acs B dl l)]) G) => (HO0.out _ (GE.h e).below).2
          simp only [pickOps, List.getElem?_toArray, List.getElem?_cons_zero, List.getElem?_cons_succ]
          repeat (first | go_big_quiet_step (fail) | quiet_step (fail))
          exact wpQuiet_nil rfl
        refine wpAnyT_done (by kernel_rfl) (fun wd4 hwd4 hRwd4 => ?_) _
        refine NoPanic.normal ?_
        have hB4 := hB3.next hwd4
        clear hB3 hwd4 hRwd4
        by_cases d5 : (a.asked != ((ofL l (k : Int)).length : Int)) = true
        · have HX := Lib.hid (HNO.out (not_fits5 d5))
          clear HN HNO
          have HBe := Lib.hid hB4.below
          clear hB4
          go_wp2_with fail
          go_ret
          exact ⟨ret_int HX.out.symm, HBe.out⟩
        replace d5 : (a.asked != ((ofL l (k : Int)).length : Int)) = false := by simpa using d5
        have HX := Lib.hid (HN.out (fits_of d1 d2 d3 d4 d5))
        clear HN HNO
        have HBe := Lib.hid (hB4.keep (List.Sublist.cons _ (List.Sublist.cons_cons _ (List.nil_sublist _))))
        clear hB4
        go_wp2_with fail
        exact ⟨⟨k + 1, HLE.out.1, by go_num, HX.out, HBe.out⟩, by simpa [intOf] using HLE.out.2⟩
    obtain ⟨a, ha⟩ : ∃ a, acs[k]? = some a := ⟨_, List.getElem?_eq_getElem hlt⟩
    obtain ⟨ad, A, c, R, d, A', c', R', d', rfl, hb, hC, hC', hwf, hat⟩ := (HH.out _ hBr.below).actor ha
    obtain ⟨z1, z2, z3, z4⟩ := idx_facts hlt hm
    have HLE := Lib.hid (And.intro (Nat.succ_le_of_lt hlt) (Nat.sub_lt_sub_left hlt (Nat.lt_succ_self k)))
    have HNO := Lib.hid (fun (q : a.code ≠ 0) => meetC_hit HQ.out hno ha q)
    have HN := Lib.hid (fun (q : a.code = 0) => show Hid (∀ (j : Nat) (x : Ac), j < k + 1 → acs[j]? = some x → x.code = 0) from all_step (p := fun _ (x : Ac) => x.code = 0) hno ha q)
    have HC := Lib.hid (fun (W : World) (hW : Below wr.heap.size wr W) => fckcheck_any a.own A c R d W (hC.next hW))
    have HC' := Lib.hid (fun (W : World) (hW : Below wr.heap.size wr W) => fckcheck_any a.told A' c' R' d' W (hC'.next hW))
    have HF := Lib.hid (fun (W : World) (hW : Below wr.heap.size wr W) => show AcAt W ad k a A c R d A' c' R' d' ∧ ad.block < W.heap.size from ⟨hat.next hb hW, Nat.lt_of_lt_of_le hb hW.size⟩)
    obtain ⟨c0, c1, c2, c3, c4, c5, c6, c7⟩ := hat
    have HBr := Lib.hid hBr
    clear hno hk hlt ha hC hC' hwf hBr HQ HP HH HLG
    obtain ⟨co, hco⟩ : ∃ x, x = a.own.code := ⟨_, rfl⟩
    obtain ⟨ct, hct⟩ : ∃ x, x = a.told.code := ⟨_, rfl⟩
    rw [← hco] at HC
    rw [← hct] at HC'
    have HCO := Lib.hid hco
    have HCT := Lib.hid hct
    clear hco hct
    go_wp2_with fail
    refine (HC.out _ (Below.refl _ _)).mono ?_
    rintro e w1 ⟨rfl, hb1⟩
    have hB1 := HBr.out.next hb1
    have HW1 := Lib.hid hb1
    clear HBr HC c0 c1 c2 c3 c4 c5 c6 c7 hb c_m z_m hb1
    by_cases e0 : co = 0
    rotate_left
    · have d1 : (co != 0) = true := by simpa using e0
      have HX := Lib.hid (show meetC acs l = co by rw [HNO.out (by rw [Ac.code_own (by rw [← HCO.out]; exact e0), ← HCO.out]; exact e0), Ac.code_own (by rw [← HCO.out]; exact e0), ← HCO.out])
      have HBe := Lib.hid hB1.below
      clear hB1 HF HC' e0
      go_wp2_with fail
      go_ret
      exact ⟨ret_int HX.out.symm, HBe.out⟩
    subst e0
    obtain ⟨⟨c0, c1, c2, c3, c4, c5, c6, c7⟩, hb⟩ := HF.out _ HW1.out
    have c_m := fun j => cell_of_row _ _ j _ _ _ (hB1.get 0 rfl)
    have z_m := hB1.lt 0 rfl
    have HBr := Lib.hid hB1
    clear hB1 HF
    go_wp2_with fail
    refine (HC'.out _ HW1.out).mono ?_
    rintro e w2 ⟨rfl, hb2⟩
    have HB2 := Lib.hid (HBr.out.next hb2)
    clear HBr HC' c0 c1 c2 c3 c4 c5 c6 c7 hb c_m z_m hb2 HW1
    have HAC := Lib.hid (show a.code = ct by rw [Ac.code_told HCO.out.symm, ← HCT.out])
    by_cases e0 : ct = 0
    rotate_left
    · have d1 : (ct != 0) = true := by simpa using e0
      have HX := Lib.hid (show meetC acs l = ct by rw [HNO.out (by rw [HAC.out]; exact e0), HAC.out])
      clear e0
      go_wp2_with fail
      go_ret
      exact ⟨ret_int HX.out.symm, HB2.out.below⟩
    subst e0
    have HX := Lib.hid (HN.out HAC.out)
    clear HN HNO
    go_wp2_with fail
    exact ⟨⟨k + 1, HLE.out.1, by go_num, HX.out, HB2.out⟩, by simpa [intOf] using HLE.out.2⟩
set_option maxRecDepth 100000 in
set_option maxHeartbeats 32000000 in
theorem mcheck_any (acs : List Ac) (S : Option Addr) (s : Nat) (l : List Qy) (B : Option Addr) (dl : Nat) (w : World) (h : AsIn w.heap.size w S s acs) (hl : LgIn w.heap.size w B dl l) :
    Calls Try.prog 69 #[mV S s acs B dl l] w fun e w' => e = .returned (.int .i64 (meetC acs l)) ∧ Below w.heap.size w w' := by
  have hm := Nat.le_trans h.len h.cap
  have hn := Nat.le_trans hl.len hl.cap
  unfold maxLen at hm hn
  have hB0 : Bx w [(w.heap.size, mB S s acs B dl l)] (w.alloc (mB S s acs B dl l)) := (Bx.start w).new rfl _
  have HH := Lib.hid (fun (W : World) (hW : Below w.heap.size w W) => h.next hW)
  have HLG := Lib.hid (fun (W : World) (hW : Below w.heap.size w W) => hl.next hW)
  clear h hl
  have c_m := fun j => cell_of_row _ _ j _ _ _ (hB0.get 0 rfl)
  have z_m := hB0.lt 0 rfl
  have HBw := Lib.hid hB0.below
  by_cases q1 : 6 < acs.length
  · have b1 : decide ((6 : Int) < (acs.length : Int)) = true := decide_eq_true (by omega)
    have HR := Lib.hid (meetC_many (acs := acs) (l := l) (Or.inl q1))
    rw [HR.out]
    clear HR q1 HH HLG hB0 hm hn
    go_enter Try.func69, Try.ntmps69
    go_wp2_with fail
    go_ret
    exact ⟨rfl, HBw.out⟩
  have b1 : decide ((6 : Int) < (acs.length : Int)) = false := decide_eq_false (by omega)
  by_cases q2 : 2000 < l.length
  · have b2 : decide ((2000 : Int) < (l.length : Int)) = true := decide_eq_true (by omega)
    have HR := Lib.hid (meetC_many (acs := acs) (l := l) (Or.inr q2))
    rw [HR.out]
    clear HR q1 q2 HH HLG hB0 hm hn
    go_enter Try.func69, Try.ntmps69
    go_wp2_with fail
    go_ret
    exact ⟨rfl, HBw.out⟩
  have b2 : decide ((2000 : Int) < (l.length : Int)) = false := decide_eq_false (by omega)
  have HQ := Lib.hid (show ¬ (6 < acs.length ∨ 2000 < l.length) by omega)
  by_cases q3 : acs.length = 0
  · have b3 : ((acs.length : Int) == 0) = true := by simpa using q3
    have HR := Lib.hid (meetC_none HQ.out q3)
    rw [HR.out]
    clear HR q1 q2 q3 HH HLG hB0 hm hn HQ
    go_enter Try.func69, Try.ntmps69
    go_wp2_with fail
    go_ret
    exact ⟨rfl, HBw.out⟩
  have b3 : ((acs.length : Int) == 0) = false := by simpa using q3
  have HP := Lib.hid q3
  clear q1 q2 q3 hn
  go_enter Try.func69, Try.ntmps69
  go_wp2_with fail
  clear b1 b2 b3 c_m z_m
  go_loopw [28] (fun s3 wr => ∃ k : Nat, k ≤ acs.length ∧ s3 = .int .i64 k ∧ Hid (∀ (j : Nat) (x : Ac), j < k → acs[j]? = some x → x.code = 0) ∧ Bx w [(w.heap.size, mB S s acs B dl l)] wr) (fun s3 _ => acs.length - (intOf s3).toNat)
  case atStart => exact ⟨0, Nat.zero_le _, rfl, fun j x hj => by omega, hB0⟩
  case round =>
    obtain ⟨k, hk, rfl, hno, hBr⟩ := hrel
    clear hB0 HBw
    have c_m := fun j => cell_of_row _ _ j _ _ _ (hBr.get 0 rfl)
    have z_m := hBr.lt 0 rfl
    by_cases hlt : k < acs.length
    rotate_left
    · obtain rfl : k = acs.length := by omega
      have HZ := Lib.hid (all_below (p := fun _ (x : Ac) => x.code = 0) hno)
      obtain ⟨a0, ha0⟩ : ∃ a, acs[0]? = some a := ⟨_, List.getElem?_eq_getElem (by have := HP.out; omega)⟩
      obtain ⟨ad, A, c, R, d, A', c', R', d', rfl, hb, hC, hC', hwf, hat⟩ := (HH.out _ hBr.below).actor ha0
      have c0 := hat.c0
      rw [Nat.zero_mul, show ad.add 0 = ad by simp [Addr.add]] at c0
      have z0 : (0 : Int) < (acs.length : Int) := by have := HP.out; omega
      have HA0 := Lib.hid ha0
      clear hno hk hlt hC hC' hwf hat ha0
      go_wp2_with fail
      have HB0 := Lib.hid hBr
      clear c_m z_m c0 hb hBr
      go_loopw [56] (fun s4 wr => ∃ k : Nat, k ≤ acs.length ∧ s4 = .int .i64 k ∧ Hid (∀ (j : Nat) (x : Ac), j < k → acs[j]? = some x → Fits (ln0 acs) l j x) ∧ Bx w [(w.heap.size, mB (some ad) s acs B dl l)] wr) (fun s4 _ => acs.length - (intOf s4).toNat)
      case atStart => exact ⟨0, Nat.zero_le _, rfl, fun j x hj => by omega, HB0.out⟩
      case round =>
        clear HB0
        obtain ⟨k, hk, rfl, hno, hBr⟩ := hrel
        have c_m := fun j => cell_of_row _ _ j _ _ _ (hBr.get 0 rfl)
        have z_m := hBr.lt 0 rfl
        have HBw := Lib.hid hBr.below
        by_cases hlt : k < acs.length
        rotate_left
        · obtain rfl : k = acs.length := by omega
          have HR := Lib.hid (meetC_good HQ.out HP.out HZ.out (all_below (p := fun j (x : Ac) => Fits (ln0 acs) l j x) hno))
          clear hno hk hlt hBr HZ HQ HP HH HLG
          go_wp2_with fail
          go_ret
          exact ⟨ret_int HR.out.symm, HBw.out⟩
        obtain ⟨a, ha⟩ : ∃ a, acs[k]? = some a := ⟨_, List.getElem?_eq_getElem hlt⟩
        have hn0 : ln0 acs = a0.own.len := ln0_at HA0.out
        obtain ⟨ad_, A, c, R, d, A', c', R', d', e_, hb, hC, hC', hwf, hat⟩ := (HH.out _ hBr.below).actor ha
        obtain rfl := Option.some.inj e_
        obtain ⟨c0, c1, c2, c3, c4, c5, c6, c7⟩ := hat
        obtain ⟨z1, z2, z3, z4⟩ := idx_facts hlt hm
        have HLE := Lib.hid (And.intro (Nat.succ_le_of_lt hlt) (Nat.sub_lt_sub_left hlt (Nat.lt_succ_self k)))
        have HNO := Lib.hid (fun (q : ¬ Fits a0.own.len l k a) => meetC_odd HQ.out HZ.out ha (by rw [hn0]; exact q))
        have HN := Lib.hid (fun (q : Fits a0.own.len l k a) => show Hid (∀ (j : Nat) (x : Ac), j < k + 1 → acs[j]? = some x → Fits (ln0 acs) l j x) from all_step (p := fun j (x : Ac) => Fits (ln0 acs) l j x) hno ha (by rw [hn0]; exact q))
        have HL2 := Lib.hid (show l.length ≤ 3000 by have := HQ.out; omega)
        clear hno hk hlt ha hC hC' hwf HZ HQ HP HH hn0 
        go_upto_region 20 with fail
        have hBa := hBr.new rfl (acB a A c R d A' c' R' d')
        clear hBr HBw c_m z_m c0 c1 c2 c3 c4 c5 c6 c7
        clear hb
        generalize wr.heap.size = gA at *
        generalize wr.alloc _ = wa at *
        by_cases d1 : (a.own.len != a0.own.len) = true
        · have HX := Lib.hid (HNO.out (not_fits1 d1))
          clear HN HNO
          have c_m := fun j => cell_of_row _ _ j _ _ _ (hBa.get 1 rfl)
          have z_m := hBa.lt 1 rfl
          have c_a := fun j => cell_of_row _ _ j _ _ _ (hBa.get 0 rfl)
          have z_a := hBa.lt 0 rfl
          have HBa := Lib.hid hBa
          clear hBa
          go_wp2_with fail
          refine wp_region_ext (by kernel_rfl) (by kernel_rfl) ?_
          repeat (first | go_big_quiet_step (fail) | quiet_step (fail))
          refine wpQuiet_nil ?_
          rintro _ ⟨⟨w2, hb2⟩, rfl⟩
          have HBr2 := Lib.hid (HBa.out.next hb2).below
          clear hb2 HBa c_m z_m c_a z_a
          go_wp2_with fail
          go_ret
          exact ⟨ret_int HX.out.symm, HBr2.out⟩
        replace d1 : (a.own.len != a0.own.len) = false := by simpa using d1
        by_cases d2 : (a.told.len != a0.own.len) = true
        · have HX := Lib.hid (HNO.out (not_fits2 d2))
          clear HN HNO
          have c_m := fun j => cell_of_row _ _ j _ _ _ (hBa.get 1 rfl)
          have z_m := hBa.lt 1 rfl
          have c_a := fun j => cell_of_row _ _ j _ _ _ (hBa.get 0 rfl)
          have z_a := hBa.lt 0 rfl
          have HBa := Lib.hid hBa
          clear hBa
          go_wp2_with fail
          refine wp_region_ext (by kernel_rfl) (by kernel_rfl) ?_
          repeat (first | go_big_quiet_step (fail) | quiet_step (fail))
          refine wpQuiet_nil ?_
          rintro _ ⟨⟨w2, hb2⟩, rfl⟩
          have HBr2 := Lib.hid (HBa.out.next hb2).below
          clear hb2 HBa c_m z_m c_a z_a
          go_wp2_with fail
          go_ret
          exact ⟨ret_int HX.out.symm, HBr2.out⟩
        replace d2 : (a.told.len != a0.own.len) = false := by simpa using d2
        by_cases d3 : (decide (a.after < -1)) = true
        · have HX := Lib.hid (HNO.out (not_fits3 d3))
          clear HN HNO
          have c_m := fun j => cell_of_row _ _ j _ _ _ (hBa.get 1 rfl)
          have z_m := hBa.lt 1 rfl
          have c_a := fun j => cell_of_row _ _ j _ _ _ (hBa.get 0 rfl)
          have z_a := hBa.lt 0 rfl
          have HBa := Lib.hid hBa
          clear hBa
          go_wp2_with fail
          refine wp_region_ext (by kernel_rfl) (by kernel_rfl) ?_
          repeat (first | go_big_quiet_step (fail) | quiet_step (fail))
          refine wpQuiet_nil ?_
          rintro _ ⟨⟨w2, hb2⟩, rfl⟩
          have HBr2 := Lib.hid (HBa.out.next hb2).below
          clear hb2 HBa c_m z_m c_a z_a
          go_wp2_with fail
          go_ret
          exact ⟨ret_int HX.out.symm, HBr2.out⟩
        replace d3 : (decide (a.after < -1)) = false := by simpa using d3
        by_cases d4 : (decide (2000 < a.after)) = true
        · have HX := Lib.hid (HNO.out (not_fits4 d4))
          clear HN HNO
          have c_m := fun j => cell_of_row _ _ j _ _ _ (hBa.get 1 rfl)
          have z_m := hBa.lt 1 rfl
          have c_a := fun j => cell_of_row _ _ j _ _ _ (hBa.get 0 rfl)
          have z_a := hBa.lt 0 rfl
          have HBa := Lib.hid hBa
          clear hBa
          go_wp2_with fail
          refine wp_region_ext (by kernel_rfl) (by kernel_rfl) ?_
          repeat (first | go_big_quiet_step (fail) | quiet_step (fail))
          refine wpQuiet_nil ?_
          rintro _ ⟨⟨w2, hb2⟩, rfl⟩
          have HBr2 := Lib.hid (HBa.out.next hb2).below
          clear hb2 HBa c_m z_m c_a z_a
          go_wp2_with fail
          go_ret
          exact ⟨ret_int HX.out.symm, HBr2.out⟩
        replace d4 : (decide (2000 < a.after)) = false := by simpa using d4
        have hM := Mx.of_bx hBa
        clear hBa
        go_wp2_with fail
        refine wp_region_T (Bx w [(gA, acB a A c R d A' c' R' d'), (w.heap.size, mB (some ad) s acs B dl l)]) 32 (by kernel_rfl) (by rfl) ((hM.keep (List.Sublist.cons_cons _ (List.Sublist.cons_cons _ (List.nil_sublist _)))).drew) (fun wq5 hbq => ?_)
        have hB1 := hM.next hbq
        clear hM hbq
        refine wpAnyT_go (Bx.grows _ _) (hB1.keep (List.Sublist.cons_cons _ (List.Sublist.cons_cons _ (List.nil_sublist _)))) [0, 1, 2, 3, 4, 5, 6, 7, 8, 9, 10, 11, 12, 13, 14, 15, 16, 17, 18, 19, 20, 21, 22, 23, 24, 25, 26, 27] 4 (by kernel_rfl) ?_
        apply Exists.intro
        refine ⟨fun G hG hN => ?_, ?_⟩
        · have c_a := fun (e : GE (Bx w [(gA, acB a A c R d A' c' R' d'), (w.heap.size, mB (some ad) s acs B dl l)]) G) j => cell_of_row e.w _ j _ _ _ ((GE.h e).get 0 rfl)
          have z_a := fun (e : GE (Bx w [(gA, acB a A c R d A' c' R' d'), (w.heap.size, mB (some ad) s acs B dl l)]) G) => (GE.h e).lt 0 rfl
          have c_m := fun (e : GE (Bx w [(gA, acB a A c R d A' c' R' d'), (w.heap.size, mB (some ad) s acs B dl l)]) G) j => cell_of_row e.w _ j _ _ _ ((GE.h e).get 1 rfl)
          have z_m := fun (e : GE (Bx w [(gA, acB a A c R d A' c' R' d'), (w.heap.size, mB (some ad) s acs B dl l)]) G) => (GE.h e).lt 1 rfl
          simp only [pickOps, List.getElem?_toArray, List.getElem?_cons_zero, List.getElem?_cons_succ]
          repeat (first | go_big_quiet_step (fail) | quiet_step (fail))
          exact wpQuiet_nil rfl
        refine wpAnyT_all (rs := [28]) (by kernel_rfl) (by simp) (fun wa6 hwa6 hRwa6 i hi => ?_)
        have hB2 := hB1.next hwa6
        clear hB1 hwa6 hRwa6
        obtain rfl := List.mem_singleton.1 hi
        refine wpOp_step rfl (fun Kc hKc => ?_)
        go_simp
        refine Calls.mono (agof_any l B dl (k : Int) _ (HLG.out _ hB2.below) HL2.out) ?_
        rintro e wv7 ⟨A9, c9, rfl, hown, hlg9, hb⟩
        have hB3 := hB2.next hb
        clear hown hlg9 hb
        refine hKc _ _ ⟨(hB3.keep (List.Sublist.cons_cons _ (List.Sublist.cons_cons _ (List.nil_sublist _)))), ?_⟩
        clear hKc Kc hB2
        refine wpAnyT_go (Bx.grows _ _) (hB3.keep (List.Sublist.cons_cons _ (List.Sublist.cons_cons _ (List.nil_sublist _)))) [29, 30, 31] 0 (by kernel_rfl) ?_
        apply Exists.intro
        refine ⟨fun G hG hN => ?_, ?_⟩
        · have c_a := fun (e : GE (Bx w [(gA, acB a A c R d A' c' R' d'), (w.heap.size, mB (some ad) s acs B dl l)]) G) j => cell_of_row e.w _ j _ _ _ ((GE.h e).get 0 rfl)
          have z_a := fun (e : GE (Bx w [(gA, acB a A c R d A' c' R' d'), (w.heap.size, mB (some ad) s acs B dl l)]) G) => (GE.h e).lt 0 rfl
          have c_m := fun (e : GE (Bx w [(gA, acB a A c R d A' c' R' d'), (w.heap.size, mB (some ad) s acs B dl l)]) G) j => cell_of_row e.w _ j _ _ _ ((GE.h e).get 1 rfl)
          have z_m := fun (e : GE (Bx w [(gA, acB a A c R d A' c' R' d'), (w.heap.size, mB (some ad) s acs B dl l)]) G) => (GE.h e).lt 1 rfl
          simp only [pickOps, List.getElem?_toArray, List.getElem?_cons_zero, List.getElem?_cons_succ]
          repeat (first | go_big_quiet_step (fail) | quiet_step (fail))
          exact wpQuiet_nil rfl
        refine wpAnyT_done (by kernel_rfl) (fun wd8 hwd8 hRwd8 => ?_) _
        refine NoPanic.normal ?_
        have hB4 := hB3.next hwd8
        clear hB3 hwd8 hRwd8
        by_cases d5 : (a.asked != ((ofL l (k : Int)).length : Int)) = true
        · have HX := Lib.hid (HNO.out (not_fits5 d5))
          clear HN HNO
          have HBe := Lib.hid hB4.below
          clear hB4
          go_wp2_with fail
          go_ret
          exact ⟨ret_int HX.out.symm, HBe.out⟩
        replace d5 : (a.asked != ((ofL l (k : Int)).length : Int)) = false := by simpa using d5
        have HX := Lib.hid (HN.out (fits_of d1 d2 d3 d4 d5))
        clear HN HNO
        have HBe := Lib.hid (hB4.keep (List.Sublist.cons _ (List.Sublist.cons_cons _ (List.nil_sublist _))))
        clear hB4
        go_wp2_with fail
        exact ⟨⟨k + 1, HLE.out.1, by go_num, HX.out, HBe.out⟩, by simpa [intOf] using HLE.out.2⟩
    obtain ⟨a, ha⟩ : ∃ a, acs[k]? = some a := ⟨_, List.getElem?_eq_getElem hlt⟩
    obtain ⟨ad, A, c, R, d, A', c', R', d', rfl, hb, hC, hC', hwf, hat⟩ := (HH.out _ hBr.below).actor ha
    obtain ⟨z1, z2, z3, z4⟩ := idx_facts hlt hm
    have HLE := Lib.hid (And.intro (Nat.succ_le_of_lt hlt) (Nat.sub_lt_sub_left hlt (Nat.lt_succ_self k)))
    have HNO := Lib.hid (fun (q : a.code ≠ 0) => meetC_hit HQ.out hno ha q)
    have HN := Lib.hid (fun (q : a.code = 0) => show Hid (∀ (j : Nat) (x : Ac), j < k + 1 → acs[j]? = some x → x.code = 0) from all_step (p := fun _ (x : Ac) => x.code = 0) hno ha q)
    have HC := Lib.hid (fun (W : World) (hW : Below w.heap.size w W) => ((HH.out W hW).actor ha))
    have HCO := Lib.hid (fun (W : World) (hW : Below wr.heap.size wr W) => ccheck_any a.own A c R d W (hC.next hW))
    have HCT := Lib.hid (fun (W : World) (hW : Below wr.heap.size wr W) => ccheck_any a.told A' c' R' d' W (hC'.next hW))
    obtain ⟨c0, c1, c2, c3, c4, c5, c6, c7⟩ := hat
    have HBr := Lib.hid hBr
    clear hno hk hlt ha hC hC' hwf HQ HP HH HLG c_m z_m
    obtain ⟨co, hco⟩ : ∃ x, x = a.own.code := ⟨_, rfl⟩
    obtain ⟨ct, hct⟩ : ∃ x, x = a.told.code := ⟨_, rfl⟩
    rw [← hco] at HCO
    rw [← hct] at HCT
    have HOO := Lib.hid hco
    have HTT := Lib.hid hct
    clear hco hct
    go_upto_region 8 with fail
    have hBa := hBr.new rfl (acB a A c R d A' c' R' d')
    have hWa := one_alloc wr (acB a A c R d A' c' R' d')
    clear hBr c0 c1 c2 c3 c4 c5 c6 c7 hb HC
    have HGR := Lib.hid (show wr.heap.size ≤ (wr.alloc (acB a A c R d A' c' R' d')).heap.size from hWa.size)
    obtain ⟨wa, hwa⟩ : ∃ x, x = wr.alloc (acB a A c R d A' c' R' d') := ⟨_, rfl⟩
    rw [← hwa] at hBa hWa HGR ⊢
    obtain ⟨gA, hgA⟩ : ∃ x, x = wr.heap.size := ⟨_, rfl⟩
    have HWA := Lib.hid hWa
    clear hWa hwa
    rw [← hgA] at hBa ⊢
    clear hgA
    have c_a := fun j => cell_of_row _ _ j _ _ _ (hBa.get 0 rfl)
    have z_a := hBa.lt 0 rfl
    go_wp2_with fail
    have HBa := Lib.hid hBa
    clear c_a z_a hBa
    go_loopw [37] (fun s37 wr => Below wa.heap.size wa wr ∧ (s37 = .int .i64 0 ∨ (s37 = .int .i64 1 ∧ Hid (co = 0)) ∨ (s37 = .int .i64 2 ∧ Hid (co = 0) ∧ Hid (ct = 0)))) (fun s37 _ => 2 - (intOf s37).toNat)
    case atStart => exact ⟨Below.refl _ _, Or.inl rfl⟩
    case round =>
      obtain ⟨hW, hrel⟩ := hrel
      have HW := Lib.hid hW
      have HB9 := Lib.hid (HBa.out.next hW).drop
      clear hW
      rcases hrel with rfl | ⟨rfl, hc0⟩ | ⟨rfl, hc0, hc1⟩
      · have ix := fun (V : World) => show Sem.run Try.prog (Instr.index 157 (.agg #[.int .i64 a.own.len, .slice A a.own.cuts.length c, .slice R a.own.dens.length d, .int .i64 a.told.len, .slice A' a.told.cuts.length c', .slice R' a.told.dens.length d']) (.int .i64 0)) V = .ok (cV A c R d a.own) V by kernel_rfl


        go_upto_region 11 with fail
        have hBc := HB9.out.new rfl (cB A c R d a.own)
        have HWc := Lib.hid (bcall HWA.out HWA.out.size (bcall HW.out HW.out.size (one_alloc wr (cB A c R d a.own))))
        have HW0 := Lib.hid HW.out
        clear HB9 HW
        have c_c := fun j => cell_of_row _ _ j _ _ _ (hBc.get 0 rfl)
        have z_c := hBc.lt 0 rfl
        go_wp2_with fail
        refine (HCO.out _ HWc.out).mono ?_
        rintro e w2 ⟨rfl, hb2⟩
        have HB2 := Lib.hid (hBc.next hb2)
        clear hBc c_c z_c ix
        by_cases e0 : co = 0
        rotate_left
        · have d1 : (co != 0) = true := by simpa using e0
          have HX := Lib.hid (show meetC acs l = co by rw [HNO.out (by rw [Ac.code_own (by rw [← HOO.out]; exact e0), ← HOO.out]; exact e0), Ac.code_own (by rw [← HOO.out]; exact e0), ← HOO.out])
          clear e0 hb2
          go_wp2_with fail
          go_ret
          exact ⟨ret_int HX.out.symm, HB2.out.below⟩
        have d1 : (co != 0) = false := by simpa using e0
        have HE0 := Lib.hid e0
        clear e0
        have HWn := Lib.hid (show Below wa.heap.size wa w2 from bcall HW0.out HW0.out.size (bcall (one_alloc wr (cB A c R d a.own)) (one_alloc wr (cB A c R d a.own)).size hb2))
        clear hb2
        go_wp2_with fail
        exact ⟨⟨HWn.out, Or.inr (Or.inl ⟨rfl, HE0.out⟩)⟩, by simp [intOf]⟩
      · have ix := fun (V : World) => show Sem.run Try.prog (Instr.index 157 (.agg #[.int .i64 a.own.len, .slice A a.own.cuts.length c, .slice R a.own.dens.length d, .int .i64 a.told.len, .slice A' a.told.cuts.length c', .slice R' a.told.dens.length d']) (.int .i64 1)) V = .ok (cV A' c' R' d' a.told) V by kernel_rfl
        have HC0 := hc0
        clear hc0
        go_upto_region 11 with fail
        have hBc := HB9.out.new rfl (cB A' c' R' d' a.told)
        have HWc := Lib.hid (bcall HWA.out HWA.out.size (bcall HW.out HW.out.size (one_alloc wr (cB A' c' R' d' a.told))))
        have HW0 := Lib.hid HW.out
        clear HB9 HW
        have c_c := fun j => cell_of_row _ _ j _ _ _ (hBc.get 0 rfl)
        have z_c := hBc.lt 0 rfl
        go_wp2_with fail
        refine (HCT.out _ HWc.out).mono ?_
        rintro e w2 ⟨rfl, hb2⟩
        have HB2 := Lib.hid (hBc.next hb2)
        clear hBc c_c z_c ix
        by_cases e0 : ct = 0
        rotate_left
        · have d1 : (ct != 0) = true := by simpa using e0
          have HX := Lib.hid (show meetC acs l = ct by rw [HNO.out (by rw [Ac.code_told (by rw [← HOO.out]; exact HC0.out), ← HTT.out]; exact e0), Ac.code_told (by rw [← HOO.out]; exact HC0.out), ← HTT.out])
          clear e0 hb2
          go_wp2_with fail
          go_ret
          exact ⟨ret_int HX.out.symm, HB2.out.below⟩
        have d1 : (ct != 0) = false := by simpa using e0
        have HE0 := Lib.hid e0
        clear e0
        have HWn := Lib.hid (show Below wa.heap.size wa w2 from bcall HW0.out HW0.out.size (bcall (one_alloc wr (cB A' c' R' d' a.told)) (one_alloc wr (cB A' c' R' d' a.told)).size hb2))
        clear hb2
        go_wp2_with fail
        exact ⟨⟨HWn.out, Or.inr (Or.inr ⟨rfl, HC0, HE0.out⟩)⟩, by simp [intOf]⟩
      · have HX := Lib.hid (HN.out (by rw [Ac.code_told (by rw [← HOO.out]; exact hc0.out), ← HTT.out]; exact hc1.out))
        clear HN HNO hc0 hc1 HW
        go_wp2_with fail
        exact ⟨⟨k + 1, HLE.out.1, by go_num, HX.out, HB9.out⟩, by simpa [intOf] using HLE.out.2⟩
end Go.Proofs.Ytgcbmnohhbcfiaa
