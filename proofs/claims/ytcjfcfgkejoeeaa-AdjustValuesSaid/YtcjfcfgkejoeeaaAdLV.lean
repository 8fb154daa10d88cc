/- AdjustValues returns true for every goods and division. -/
import Derived.Test.YtcjfcfgkejoeeaaAdF
import Derived.Test.YtcjfcfgkejoeeaaAdG
namespace Go.Proofs.Ytcjfcfgkejoeeaa
open Go.RowKit Go.Deep
set_option linter.unusedVariables false
set_option linter.unusedSimpArgs false

set_option maxRecDepth 100000 in
set_option maxHeartbeats 8000000 in
theorem values_walk (bs : List (List Int)) (A : Option Addr) (c : Nat) (d : Pt) (O : Option Addr) (oc : Nat) (w : World) (h : GIn w.heap.size w A c bs) (hp : PIn w.heap.size w O oc d) :
    Calls Try.prog 3 #[gV A c bs, pV O oc d] w fun e w' => e = .returned (.bool true) ∧ Below w.heap.size w w' := by
  have HBel0 := Lib.hid (show Below w.heap.size w ((w.alloc (gB A c bs)).alloc (pB O oc d)) from (one_alloc w _).alloc (by simp) _)
  have hg0 : ((w.alloc (gB A c bs)).alloc (pB O oc d)).heap[w.heap.size]? = some (gB A c bs) := heap_old (heap_new rfl)
  have hp0 : ((w.alloc (gB A c bs)).alloc (pB O oc d)).heap[w.heap.size + 1]? = some (pB O oc d) := heap_new (by simp)
  have HB := Lib.hid h
  have HP := Lib.hid hp
  have HGR := Lib.hid (fun (W : World) (hW : Below w.heap.size w W) => great_any bs A c O oc d.ow W (h.next hW) (Nat.le_trans hp.len hp.cap))
  have HAS := Lib.hid (fun (W : World) (hW : Below w.heap.size w W) => avalues_any bs A c d O oc W (h.next hW) (hp.next hW))
  have HFS := Lib.hid (fun (W : World) (hW : Below w.heap.size w W) => fvalues_any bs A c d O oc W (h.next hW) (hp.next hW))
  have HAV := Lib.hid (fun (W : World) (hW : Below w.heap.size w W) => avalid_any bs A c d O oc W (h.next hW) (hp.next hW))
  have HFV := Lib.hid (fun (W : World) (hW : Below w.heap.size w W) => fvalid_any bs A c d O oc W (h.next hW) (hp.next hW))
  clear h hp
  by_cases hgr : Great bs d.ow
  · have q : decide (Great bs d.ow) = true := decide_eq_true hgr
    clear hgr
    go_enter Try.func3, Try.ntmps3
    go_wp2_with fail
    refine (HGR.out _ HBel0.out).mono ?_
    rintro e w1 ⟨rfl, hb1⟩
    go_wp2_with fail
    go_ret
    exact ⟨rfl, bcall HBel0.out HBel0.out.size hb1⟩
  have q : decide (Great bs d.ow) = false := decide_eq_false hgr
  clear hgr
  have hx : ∃ X Y : Rt, (if d.code bs = 0 then rV (d.val bs 0) else rV ⟨0, 0⟩) = rV X ∧ (if d.code bs = 0 then rV (d.val bs 1) else rV ⟨0, 0⟩) = rV Y := by
    split
    · exact ⟨_, _, rfl, rfl⟩
    · exact ⟨_, _, rfl, rfl⟩
  obtain ⟨X, Y, hX, hY⟩ := hx
  rw [hX, hY] at HAS HFS
  clear hX hY
  generalize d.code bs = code at *
  go_enter Try.func3, Try.ntmps3
  go_wp2_with fail
  refine (HGR.out _ HBel0.out).mono ?_
  rintro e w1 ⟨rfl, hb1⟩
  have HB1 := Lib.hid (bcall HBel0.out HBel0.out.size hb1)
  have hg1 := heap_ext hg0 hb1
  have hp1 := heap_ext hp0 hb1
  clear hg0 hp0 hb1
  have cg := fun j => cell_of_row _ _ j _ _ _ hg1
  have cp := fun j => cell_of_row _ _ j _ _ _ hp1
  go_wp2_with fail
  refine (HAS.out _ HB1.out).mono ?_
  rintro e w2 ⟨rfl, hb2⟩
  have hg2 := heap_ext hg1 hb2
  have hp2 := heap_ext hp1 hb2
  have HB2 := Lib.hid ((((bcall HB1.out HB1.out.size hb2).alloc (bcall HB1.out HB1.out.size hb2).size (rB X)).alloc (((bcall HB1.out HB1.out.size hb2).alloc (bcall HB1.out HB1.out.size hb2).size (rB X))).size (rB Y)))
  have h5 : ((w2.alloc (rB X)).alloc (rB Y)).heap[w2.heap.size]? = some (rB X) := heap_old (heap_new rfl)
  have h6 : ((w2.alloc (rB X)).alloc (rB Y)).heap[w2.heap.size + 1]? = some (rB Y) := heap_new (by simp)
  have hg3 : ((w2.alloc (rB X)).alloc (rB Y)).heap[w.heap.size]? = some (gB A c bs) := heap_old (heap_old hg2)
  have hp3 : ((w2.alloc (rB X)).alloc (rB Y)).heap[w.heap.size + 1]? = some (pB O oc d) := heap_old (heap_old hp2)
  clear cg cp hb2 hg1 hp1 hg2 hp2 HB1
  go_upto_region 4 with fail
  generalize w2.heap.size = g5 at *
  generalize (w2.alloc _).alloc _ = w3 at *
  have cg := fun j => cell_of_row _ _ j _ _ _ hg3
  have cp := fun j => cell_of_row _ _ j _ _ _ hp3
  go_wp2_with fail
  refine (HFS.out _ HB2.out).mono ?_
  rintro e w4 ⟨rfl, hb4⟩
  have HB4 := Lib.hid ((((bcall HB2.out HB2.out.size hb4).alloc (bcall HB2.out HB2.out.size hb4).size (rB X)).alloc (((bcall HB2.out HB2.out.size hb4).alloc (bcall HB2.out HB2.out.size hb4).size (rB X))).size (rB Y)))
  have h5' : ((w4.alloc (rB X)).alloc (rB Y)).heap[g5]? = some (rB X) := heap_old (heap_old (heap_ext h5 hb4))
  have h6' : ((w4.alloc (rB X)).alloc (rB Y)).heap[g5 + 1]? = some (rB Y) := heap_old (heap_old (heap_ext h6 hb4))
  have h8 : ((w4.alloc (rB X)).alloc (rB Y)).heap[w4.heap.size]? = some (rB X) := heap_old (heap_new rfl)
  have h9 : ((w4.alloc (rB X)).alloc (rB Y)).heap[w4.heap.size + 1]? = some (rB Y) := heap_new (by simp)
  have hg5 : ((w4.alloc (rB X)).alloc (rB Y)).heap[w.heap.size]? = some (gB A c bs) := heap_old (heap_old (heap_ext hg3 hb4))
  have hp5 : ((w4.alloc (rB X)).alloc (rB Y)).heap[w.heap.size + 1]? = some (pB O oc d) := heap_old (heap_old (heap_ext hp3 hb4))
  clear cg cp hb4 hg3 hp3 h5 h6 HB2
  go_upto_region 5 with fail
  generalize w4.heap.size = g8 at *
  generalize (w4.alloc _).alloc _ = w5 at *
  have cg := fun j => cell_of_row _ _ j _ _ _ hg5
  have cp := fun j => cell_of_row _ _ j _ _ _ hp5
  have c5 := fun j => cell_of_row _ _ j _ _ _ h5'
  have c6 := fun j => cell_of_row _ _ j _ _ _ h6'
  have c8 := fun j => cell_of_row _ _ j _ _ _ h8
  have c9 := fun j => cell_of_row _ _ j _ _ _ h9
  have zg := lt_some hg5
  have zp := lt_some hp5
  have z5 := lt_some h5'
  have z6 := lt_some h6'
  have z8 := lt_some h8
  have z9 := lt_some h9
  have HA := Lib.hid (fun (W : World) (hW : Below w5.heap.size w5 W) => HAV.out W (bcall HB4.out HB4.out.size hW))
  have HF := Lib.hid (fun (W : World) (hW : Below w5.heap.size w5 W) => HFV.out W (bcall HB4.out HB4.out.size hW))
  refine wp_region_ext (by kernel_rfl) (by kernel_rfl) ?_
  repeat (first | go_big_quiet_step ((first | (go_at_call 12; exact calls_ext (HA.out _ (Ext.h _))) | (go_at_call 13; exact calls_ext (HF.out _ (Ext.h _))))) | quiet_step ((first | (go_at_call 12; exact calls_ext (HA.out _ (Ext.h _))) | (go_at_call 13; exact calls_ext (HF.out _ (Ext.h _))))))
  refine wpQuiet_nil ?_
  rintro _ ⟨⟨w6, hb6⟩, rfl⟩
  go_wp2_with fail
  go_ret
  exact ⟨rfl, bcall HB4.out HB4.out.size hb6⟩
end Go.Proofs.Ytcjfcfgkejoeeaa
