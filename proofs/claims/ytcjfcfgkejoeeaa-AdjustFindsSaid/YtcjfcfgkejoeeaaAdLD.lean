/- AdjustFinds returns true for every goods. -/
import Derived.Test.YtcjfcfgkejoeeaaDvR
import Derived.Test.YtcjfcfgkejoeeaaDvB
import Derived.Test.YtcjfcfgkejoeeaaTwin
namespace Go.Proofs.Ytcjfcfgkejoeeaa
open Go.RowKit Go.Deep
set_option linter.unusedVariables false
set_option linter.unusedSimpArgs false

theorem goods_of_rows {B : Nat} {w : World} {v : Value} {rows : List (List Int)} {xs : List Value} {b : Nat → Nat} (h : RowsV B w v rows xs b) : ∃ R d, v = .slice R rows.length d ∧ GIn w.heap.size w R d rows := by
  obtain ⟨R, d, e, h1, h2, h3⟩ := h.rows
  exact ⟨R, d, e, h3, h1, h2⟩

theorem great_small {bs : List (List Int)} (h : ¬ Great bs []) : bs.length ≤ 20 ∧ ∀ i, i < bs.length → (gr bs i).length ≤ 50 := by
  have a : bs.length ≤ 20 := by
    rcases Nat.lt_or_ge 20 bs.length with q | q
    · exact absurd (Or.inr (Or.inl q)) h
    · exact q
  refine ⟨a, fun i hi => ?_⟩
  rcases Nat.lt_or_ge 50 (gr bs i).length with q | q
  · exact absurd (Or.inl ⟨i, hi, by omega, q⟩) h
  · exact q

set_option maxRecDepth 100000 in
set_option maxHeartbeats 8000000 in
theorem finds_walk (bs : List (List Int)) (A : Option Addr) (c : Nat) (w : World) (h : GIn w.heap.size w A c bs) :
    Calls Try.prog 4 #[gV A c bs] w fun e w' => e = .returned (.bool true) ∧ Below w.heap.size w w' := by
  have HBel0 := Lib.hid (one_alloc w (gB A c bs))
  have hg0 : (w.alloc (gB A c bs)).heap[w.heap.size]? = some (gB A c bs) := heap_new rfl
  have HB := Lib.hid h
  have HGR := Lib.hid (fun (W : World) (hW : Below w.heap.size w W) => great_any bs A c none 0 [] W (h.next hW) (by unfold maxLen; simp))
  clear h
  by_cases hgr : Great bs []
  · have q : decide (Great bs []) = true := decide_eq_true hgr
    clear hgr
    have cg := fun j => cell_of_row _ _ j _ _ _ hg0
    go_enter Try.func4, Try.ntmps4
    go_wp2_with fail
    refine (HGR.out _ HBel0.out).mono ?_
    rintro e w1 ⟨rfl, hb1⟩
    clear cg
    go_wp2_with fail
    go_ret
    exact ⟨rfl, bcall HBel0.out HBel0.out.size hb1⟩
  have q : decide (Great bs []) = false := decide_eq_false hgr
  have hs := great_small hgr
  have HS1 := Lib.hid hs.1
  have HS2 := Lib.hid hs.2
  clear hgr hs
  have cg := fun j => cell_of_row _ _ j _ _ _ hg0
  go_enter Try.func4, Try.ntmps4
  go_wp2_with fail
  refine (HGR.out _ HBel0.out).mono ?_
  rintro e w1 ⟨rfl, hb1⟩
  have HB1 := Lib.hid (bcall HBel0.out HBel0.out.size hb1)
  have hg1 := heap_ext hg0 hb1
  clear cg hg0 hb1 HGR
  have cg := fun j => cell_of_row _ _ j _ _ _ hg1
  have zg := lt_some hg1
  have HTW := Lib.hid (twin_any bs A c w1 (HB.out.next HB1.out).rows (by have := HS1.out; omega) (fun i hi => by have := HS2.out i hi; omega))
  go_wp2_with fail
  refine HTW.out.mono ?_
  rintro e w2 ⟨v, xs, bf, rfl, hV, hb2⟩
  obtain ⟨R, d, rfl, hG2⟩ := goods_of_rows hV
  have HG3 := Lib.hid (hG2.next (one_alloc w2 (gB R d bs)))
  have HB3 := Lib.hid ((bcall HB1.out HB1.out.size hb2).alloc (bcall HB1.out HB1.out.size hb2).size (gB R d bs))
  have hg3 := heap_old (o' := gB R d bs) (heap_ext hg1 hb2)
  have ho3 : (w2.alloc (gB R d bs)).heap[w2.heap.size]? = some (gB R d bs) := heap_new rfl
  clear cg zg hg1 hb2 hV hG2 HTW
  go_upto_region 4 with fail
  generalize w2.heap.size = g3 at *
  generalize hw3 : w2.alloc _ = w3 at *
  clear hw3
  have co := fun j => cell_of_row _ _ j _ _ _ ho3
  have zo := lt_some ho3
  have HD1 := Lib.hid (adivide_any bs R d w3 HG3.out)
  go_wp2_with fail
  refine HD1.out.mono ?_
  rintro e w4 ⟨O, oc, D, rfl, hP4, hD, hD', hb4⟩
  have HDA := Lib.hid hD
  have HDB := Lib.hid hD'
  have HP5 := Lib.hid (hP4.next (one_alloc w4 (pB O oc D)))
  have HS5 := Lib.hid (hb4.alloc hb4.size (pB O oc D))
  have HB5 := Lib.hid ((bcall HB3.out HB3.out.size hb4).alloc (bcall HB3.out HB3.out.size hb4).size (pB O oc D))
  have hg5 := heap_old (o' := pB O oc D) (heap_ext hg3 hb4)
  have ho5 := heap_old (o' := pB O oc D) (heap_ext ho3 hb4)
  have hd5 : (w4.alloc (pB O oc D)).heap[w4.heap.size]? = some (pB O oc D) := heap_new rfl
  clear co zo hg3 ho3 hb4 hP4 hD hD' HD1
  go_upto_region 5 with fail
  generalize w4.heap.size = g4 at *
  generalize hw5 : w4.alloc _ = w5 at *
  clear hw5
  have cg := fun j => cell_of_row _ _ j _ _ _ hg5
  have zg := lt_some hg5
  have HD2 := Lib.hid (fdivide_any bs A c w5 (HB.out.next HB5.out))
  go_wp2_with fail
  refine HD2.out.mono ?_
  rintro e w6 ⟨P, pc, E, rfl, hP6, hE, hE', hb6⟩
  have hDE : E = D := by
    by_cases z : adCode bs = 0
    · rw [hE z, HDA.out z]
    · rw [hE' z, HDB.out z]
  subst hDE
  have HP7 := Lib.hid ((HP5.out.next hb6).next (one_alloc w6 (pB P pc E)))
  have HQ7 := Lib.hid (hP6.next (one_alloc w6 (pB P pc E)))
  have HG7 := Lib.hid (((HG3.out.next HS5.out).next hb6).next (one_alloc w6 (pB P pc E)))
  have HB7 := Lib.hid ((bcall HB5.out HB5.out.size hb6).alloc (bcall HB5.out HB5.out.size hb6).size (pB P pc E))
  have hg7 := heap_old (o' := pB P pc E) (heap_ext hg5 hb6)
  have ho7 := heap_old (o' := pB P pc E) (heap_ext ho5 hb6)
  have hd7 := heap_old (o' := pB P pc E) (heap_ext hd5 hb6)
  have he7 : (w6.alloc (pB P pc E)).heap[w6.heap.size]? = some (pB P pc E) := heap_new rfl
  clear cg zg hg5 ho5 hd5 hb6 hP6 hE hE' HD2 HP5 HB5 HS5 HG3 HB3 HDA HDB
  go_upto_region 6 with fail
  generalize w6.heap.size = g6 at *
  generalize hw7 : w6.alloc _ = w7 at *
  clear hw7
  have cg := fun j => cell_of_row _ _ j _ _ _ hg7
  have co := fun j => cell_of_row _ _ j _ _ _ ho7
  have cd := fun j => cell_of_row _ _ j _ _ _ hd7
  have ce := fun j => cell_of_row _ _ j _ _ _ he7
  have zg := lt_some hg7
  have zo := lt_some ho7
  have zd := lt_some hd7
  have ze := lt_some he7
  have K1 := Lib.hid (fun (W : World) (hW : Below w7.heap.size w7 W) => acheck_any bs R d W (HG7.out.next hW))
  have K2 := Lib.hid (fun (W : World) (hW : Below w7.heap.size w7 W) => facheck_any bs A c W (HB.out.next (bcall HB7.out HB7.out.size hW)))
  have K3 := Lib.hid (fun (W : World) (hW : Below w7.heap.size w7 W) => ptsame_any E O P oc pc W (HP7.out.next hW) (HQ7.out.next hW))
  have K4 := Lib.hid (fun (W : World) (hW : Below w7.heap.size w7 W) => samelists_any bs R A d c W (HG7.out.next hW).rows (HB.out.next (bcall HB7.out HB7.out.size hW)).rows (by have := HS1.out; omega) (fun i hi => by have := HS2.out i hi; omega))
  generalize adCode bs = code at *
  have q0 : (code == code) = true := by simp
  refine wp_region_ext (by kernel_rfl) (by kernel_rfl) ?_
  repeat (first | go_big_quiet_step ((first | (go_at_call 17; exact calls_ext (K1.out _ (Ext.h _))) | (go_at_call 18; exact calls_ext (K2.out _ (Ext.h _))) | (go_at_call 19; exact calls_ext (K3.out _ (Ext.h _))) | (go_at_call 20; exact calls_ext (K4.out _ (Ext.h _))))) | quiet_step ((first | (go_at_call 17; exact calls_ext (K1.out _ (Ext.h _))) | (go_at_call 18; exact calls_ext (K2.out _ (Ext.h _))) | (go_at_call 19; exact calls_ext (K3.out _ (Ext.h _))) | (go_at_call 20; exact calls_ext (K4.out _ (Ext.h _))))))
  refine wpQuiet_nil ?_
  rintro _ ⟨⟨w8, hb8⟩, rfl⟩
  have HB8 := Lib.hid (bcall HB7.out HB7.out.size hb8)
  clear cg co cd ce zg zo zd ze K1 K2 K3 K4 hb8
  go_wp2_with fail
  go_ret
  exact ⟨rfl, HB8.out⟩
end Go.Proofs.Ytcjfcfgkejoeeaa
