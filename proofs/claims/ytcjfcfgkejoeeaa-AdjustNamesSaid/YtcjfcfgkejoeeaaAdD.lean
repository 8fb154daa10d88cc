/- Check of adjust and of its reference, Valid of the reference of goods: walked. -/
import Derived.Test.YtcjfcfgkejoeeaaAdC
import Derived.Deep.RegionWith
namespace Go.Proofs.Ytcjfcfgkejoeeaa
open Go.RowKit
set_option linter.unusedVariables false
set_option linter.unusedSimpArgs false

theorem GIn.at1 {B : Nat} {w : World} {A : Option Addr} {c : Nat} {bs : List (List Int)} (h : GIn B w A c bs) (h0 : 1 < bs.length) : ∃ (ad : Addr) (R : Option Addr) (d : Nat), A = some ad ∧ ad.block < B ∧ w.cell? ⟨ad.block, ad.off + 1, none⟩ = some (.slice R (gr bs 1).length d) ∧ (gr bs 1).length ≤ d ∧ d ≤ maxLen ∧ Ints B w R (gr bs 1) := h.rows.at_ h0

set_option maxRecDepth 100000 in
set_option maxHeartbeats 4000000 in
theorem acheck_any (bs : List (List Int)) (A : Option Addr) (c : Nat) (w : World) (h : GIn w.heap.size w A c bs) :
    Calls Try.prog 17 #[gV A c bs] w fun e w' => e = .returned (.int .i64 (adCode bs)) ∧ Below w.heap.size w w' := by
  have hg0 : (w.alloc (gB A c bs)).heap[w.heap.size]? = some (gB A c bs) := heap_new rfl
  have HC := Lib.hid (fun (W : World) (hW : GIn W.heap.size W A c bs) => gcheck_any bs A c W hW)
  have HB := Lib.hid (h.next (one_alloc w (gB A c bs)))
  have hlc := h.len
  have hcc := h.cap
  unfold maxLen at hcc
  clear h
  by_cases hc : gdCode bs = 0
  rotate_left
  · have q1 : (gdCode bs != 0) = true := by simpa using hc
    have HV := Lib.hid (ad_gd (bs := bs) hc)
    rw [HV.out]
    clear hc HV
    generalize gdCode bs = code at *
    go_enter Try.func17, Try.ntmps17
    go_wp2_with fail
    refine (HC.out _ HB.out).mono ?_
    rintro e w1 ⟨rfl, hb1⟩
    go_wp2_with fail
    go_ret
    exact ⟨rfl, bcall (one_alloc _ _) (by simp) hb1⟩
  have q1 : (gdCode bs != 0) = false := by simpa using hc
  have ho := Lib.hid (gd_ok hc)
  have HA2 := Lib.hid (fun k => ad_arg (bs := bs) hc k)
  have HA18 := Lib.hid (fun k l => ad_zero (bs := bs) hc k l)
  have HA8 := Lib.hid (fun k l m => ad_bad (bs := bs) hc k l m)
  have HA0 := Lib.hid (fun k l m => ad_good (bs := bs) hc k l m)
  clear hc
  by_cases h2 : (bs.length : Int) = 2
  rotate_left
  · have q2 : ((bs.length : Int) != 2) = true := by simpa using h2
    have HE := Lib.hid (HA2.out (by omega))
    clear h2
    go_enter Try.func17, Try.ntmps17
    go_wp2_with fail
    refine (HC.out _ HB.out).mono ?_
    rintro e w1 ⟨rfl, hb1⟩
    have hg1 := heap_ext hg0 hb1
    have cg := fun j => cell_of_row _ _ j _ _ _ hg1
    have HBel := Lib.hid (bcall (one_alloc w (gB A c bs)) (by simp) hb1)
    clear hb1
    go_wp2_with fail
    go_ret
    exact ⟨ret_int HE.out.symm, HBel.out⟩
  have q2 : ((bs.length : Int) != 2) = false := by simpa using h2
  have h2' : bs.length = 2 := by omega
  have H2 := Lib.hid h2'
  have i0 : (0 : Int) < (bs.length : Int) := by omega
  have i1 : (1 : Int) < (bs.length : Int) := by omega
  clear h2'
  have R0 := Lib.hid (ho.out.2.2.2 0 (by have := H2.out; omega))
  have R1 := Lib.hid (ho.out.2.2.2 1 (by have := H2.out; omega))
  have l0 := ho.out.2.2.1
  have l1 : (gr bs 1).length ≤ 10 := by rw [R1.out.1]; exact l0
  clear h2
  obtain ⟨bd, r0, c0, rfl, hb0, hc0, _, _, hi0⟩ := HB.out.at0 (by have := H2.out; omega)
  obtain ⟨bd', r1, c1, hbd, hb1, hc1, _, _, hi1⟩ := HB.out.at1 (by have := H2.out; omega)
  obtain rfl : bd = bd' := by simpa using hbd
  clear hbd hb1
  have HI0 := Lib.hid hi0
  have HI1 := Lib.hid hi1
  have HC0 := Lib.hid hc0
  have HC1 := Lib.hid hc1
  clear hi0 hi1 hc0 hc1
  have HT0 := Lib.hid (fun (W : World) (hW : Ints W.heap.size W r0 (gr bs 0)) => total_any r0 c0 (gr bs 0) W hW R0.out.2 l0)
  have HT1 := Lib.hid (fun (W : World) (hW : Ints W.heap.size W r1 (gr bs 1)) => total_any r1 c1 (gr bs 1) W hW R1.out.2 l1)
  by_cases h3 : tot (gr bs 0) = 0
  · have q3 : (tot (gr bs 0) == 0) = true := by simpa using h3
    have HE := Lib.hid (HA18.out H2.out h3)
    clear h3
    go_enter Try.func17, Try.ntmps17
    go_wp2_with fail
    refine (HC.out _ HB.out).mono ?_
    rintro e w1 ⟨rfl, hb1⟩
    have hg1 := heap_ext hg0 hb1
    have cg := fun j => cell_of_row _ _ j _ _ _ hg1
    have HBel := Lib.hid (bcall (one_alloc w (gB (some bd) c bs)) (by simp) hb1)
    have cb0 := (hb1.cell hb0).trans HC0.out
    have HJ0 := Lib.hid (HI0.out.next hb1)
    clear hb1
    go_wp2_with fail
    refine (HT0.out _ HJ0.out).mono ?_
    rintro e w2 ⟨rfl, rfl⟩
    go_wp2_with fail
    go_ret
    exact ⟨ret_int HE.out.symm, HBel.out⟩
  have q3 : (tot (gr bs 0) == 0) = false := by simpa using h3
  have H3 := Lib.hid h3
  clear h3
  by_cases h4 : tot (gr bs 0) = tot (gr bs 1)
  all_goals
    first
      | (have q4 : (tot (gr bs 0) != tot (gr bs 1)) = false := by simpa using h4
         have HE := Lib.hid (HA0.out H2.out H3.out h4))
      | (have q4 : (tot (gr bs 0) != tot (gr bs 1)) = true := by simpa using h4
         have HE := Lib.hid (HA8.out H2.out H3.out h4))
    clear h4
    go_enter Try.func17, Try.ntmps17
    go_wp2_with fail
    refine (HC.out _ HB.out).mono ?_
    rintro e w1 ⟨rfl, hb1⟩
    have hg1 := heap_ext hg0 hb1
    have cg := fun j => cell_of_row _ _ j _ _ _ hg1
    have zg := lt_some hg1
    have HBel := Lib.hid (bcall (one_alloc w (gB (some bd) c bs)) (by simp) hb1)
    have cb0 := (hb1.cell hb0).trans HC0.out
    have cb1 := (hb1.cell (p := ⟨bd.block, bd.off + 1, none⟩) hb0).trans HC1.out
    have hz : bd.block < w1.heap.size := Nat.lt_of_lt_of_le hb0 hb1.size
    have HJ0 := Lib.hid (HI0.out.next hb1)
    have HJ1 := Lib.hid (HI1.out.next hb1)
    clear hb1
    go_wp2_with fail
    refine (HT0.out _ HJ0.out).mono ?_
    rintro e w2 ⟨rfl, rfl⟩
    go_upto_region 8 with fail
    refine wp_region_ext (by kernel_rfl) (by kernel_rfl) ?_
    repeat (first | go_big_quiet_step ((first | (go_at_call_of 45 (Value.slice r0 (gr bs 0).length c0); exact calls_ext_same (HT0.out _ (HJ0.out.next (Ext.h _)))) | (go_at_call_of 45 (Value.slice r1 (gr bs 1).length c1); exact calls_ext_same (HT1.out _ (HJ1.out.next (Ext.h _)))))) | quiet_step ((first | (go_at_call_of 45 (Value.slice r0 (gr bs 0).length c0); exact calls_ext_same (HT0.out _ (HJ0.out.next (Ext.h _)))) | (go_at_call_of 45 (Value.slice r1 (gr bs 1).length c1); exact calls_ext_same (HT1.out _ (HJ1.out.next (Ext.h _)))))))
    refine wpQuiet_nil ?_
    rintro _ ⟨⟨w5, hb5⟩, rfl⟩
    go_wp2_with fail
    go_ret
    exact ⟨ret_int HE.out.symm, bcall HBel.out HBel.out.size hb5⟩

set_option maxRecDepth 100000 in
set_option maxHeartbeats 4000000 in
theorem facheck_any (bs : List (List Int)) (A : Option Addr) (c : Nat) (w : World) (h : GIn w.heap.size w A c bs) :
    Calls Try.prog 18 #[gV A c bs] w fun e w' => e = .returned (.int .i64 (adCode bs)) ∧ Below w.heap.size w w' := by
  have hg0 : (w.alloc (gB A c bs)).heap[w.heap.size]? = some (gB A c bs) := heap_new rfl
  have HC := Lib.hid (fun (W : World) (hW : GIn W.heap.size W A c bs) => fgcheck_any bs A c W hW)
  have HB := Lib.hid (h.next (one_alloc w (gB A c bs)))
  have hlc := h.len
  have hcc := h.cap
  unfold maxLen at hcc
  clear h
  by_cases hc : gdCode bs = 0
  rotate_left
  · have q1 : (gdCode bs != 0) = true := by simpa using hc
    have HV := Lib.hid (ad_gd (bs := bs) hc)
    rw [HV.out]
    clear hc HV
    generalize gdCode bs = code at *
    go_enter Try.func18, Try.ntmps18
    go_wp2_with fail
    refine (HC.out _ HB.out).mono ?_
    rintro e w1 ⟨rfl, hb1⟩
    have hg1 := heap_ext hg0 hb1
    have cg := fun j => cell_of_row _ _ j _ _ _ hg1
    go_wp2_with fail
    refine (HC.out _ (HB.out.next hb1)).mono ?_
    rintro e w2 ⟨rfl, hb2⟩
    go_wp2_with fail
    go_ret
    exact ⟨rfl, bcall (bcall (one_alloc _ _) (by simp) hb1) (bcall (one_alloc _ _) (by simp) hb1).size hb2⟩
  have q1 : (gdCode bs != 0) = false := by simpa using hc
  have ho := Lib.hid (gd_ok hc)
  have HA2 := Lib.hid (fun k => ad_arg (bs := bs) hc k)
  have HA18 := Lib.hid (fun k l => ad_zero (bs := bs) hc k l)
  have HA8 := Lib.hid (fun k l m => ad_bad (bs := bs) hc k l m)
  have HA0 := Lib.hid (fun k l m => ad_good (bs := bs) hc k l m)
  clear hc
  by_cases h2 : (bs.length : Int) = 2
  rotate_left
  · have q2 : ((bs.length : Int) != 2) = true := by simpa using h2
    have HE := Lib.hid (HA2.out (by omega))
    clear h2
    go_enter Try.func18, Try.ntmps18
    go_wp2_with fail
    refine (HC.out _ HB.out).mono ?_
    rintro e w1 ⟨rfl, hb1⟩
    have hg1 := heap_ext hg0 hb1
    have cg := fun j => cell_of_row _ _ j _ _ _ hg1
    have HBel := Lib.hid (bcall (one_alloc w (gB A c bs)) (by simp) hb1)
    clear hb1
    go_wp2_with fail
    go_ret
    exact ⟨ret_int HE.out.symm, HBel.out⟩
  have q2 : ((bs.length : Int) != 2) = false := by simpa using h2
  have h2' : bs.length = 2 := by omega
  have H2 := Lib.hid h2'
  clear h2 h2'
  have HT0 := Lib.hid (fun (W : World) (hW : GIn W.heap.size W A c bs) => all_any bs A c 0 W hW (by have := H2.out; omega) (ho.out.2.2.2 0 (by have := H2.out; omega)) ho.out.2.2.1)
  have HT1 := Lib.hid (fun (W : World) (hW : GIn W.heap.size W A c bs) => all_any bs A c 1 W hW (by have := H2.out; omega) (ho.out.2.2.2 1 (by have := H2.out; omega)) (by rw [(ho.out.2.2.2 1 (by have := H2.out; omega)).1]; exact ho.out.2.2.1))
  by_cases h3 : tot (gr bs 0) = 0
  · have q3 : (tot (gr bs 0) == 0) = true := by simpa using h3
    have HE := Lib.hid (HA18.out H2.out h3)
    clear h3
    go_enter Try.func18, Try.ntmps18
    go_wp2_with fail
    refine (HC.out _ HB.out).mono ?_
    rintro e w1 ⟨rfl, hb1⟩
    have hg1 := heap_ext hg0 hb1
    have cg := fun j => cell_of_row _ _ j _ _ _ hg1
    have HBel := Lib.hid (bcall (one_alloc w (gB A c bs)) (by simp) hb1)
    have HB1 := Lib.hid (HB.out.next hb1)
    clear hb1
    go_wp2_with fail
    refine (HT0.out _ HB1.out).mono ?_
    rintro e w2 ⟨rfl, hb2⟩
    go_wp2_with fail
    go_ret
    exact ⟨ret_int HE.out.symm, bcall HBel.out HBel.out.size hb2⟩
  have q3 : (tot (gr bs 0) == 0) = false := by simpa using h3
  have H3 := Lib.hid h3
  clear h3
  by_cases h4 : tot (gr bs 0) = tot (gr bs 1)
  all_goals
    first
      | (have q4 : (tot (gr bs 0) != tot (gr bs 1)) = false := by simpa using h4
         have HE := Lib.hid (HA0.out H2.out H3.out h4))
      | (have q4 : (tot (gr bs 0) != tot (gr bs 1)) = true := by simpa using h4
         have HE := Lib.hid (HA8.out H2.out H3.out h4))
    clear h4
    go_enter Try.func18, Try.ntmps18
    go_wp2_with fail
    refine (HC.out _ HB.out).mono ?_
    rintro e w1 ⟨rfl, hb1⟩
    have hg1 := heap_ext hg0 hb1
    have cg := fun j => cell_of_row _ _ j _ _ _ hg1
    have HBel := Lib.hid (bcall (one_alloc w (gB A c bs)) (by simp) hb1)
    have HB1 := Lib.hid (HB.out.next hb1)
    clear hb1
    go_wp2_with fail
    refine (HT0.out _ HB1.out).mono ?_
    rintro e w2 ⟨rfl, hb2⟩
    have hg2 := heap_ext hg1 hb2
    have HB2 := Lib.hid (HB1.out.next hb2)
    have HBel2 := Lib.hid (bcall HBel.out HBel.out.size hb2)
    clear hb2 cg
    have cg := fun j => cell_of_row _ _ j _ _ _ hg2
    have zg := lt_some hg2
    go_upto_region 7 with fail
    refine wp_region_ext (by kernel_rfl) (by kernel_rfl) ?_
    repeat (first | go_big_quiet_step ((first | (go_at_call_of 27 (Value.int .i64 0); exact calls_ext (HT0.out _ (HB2.out.next (Ext.h _)))) | (go_at_call_of 27 (Value.int .i64 1); exact calls_ext (HT1.out _ (HB2.out.next (Ext.h _)))))) | quiet_step ((first | (go_at_call_of 27 (Value.int .i64 0); exact calls_ext (HT0.out _ (HB2.out.next (Ext.h _)))) | (go_at_call_of 27 (Value.int .i64 1); exact calls_ext (HT1.out _ (HB2.out.next (Ext.h _)))))))
    refine wpQuiet_nil ?_
    rintro _ ⟨⟨w5, hb5⟩, rfl⟩
    go_wp2_with fail
    go_ret
    exact ⟨ret_int HE.out.symm, bcall HBel2.out HBel2.out.size hb5⟩
end Go.Proofs.Ytcjfcfgkejoeeaa
