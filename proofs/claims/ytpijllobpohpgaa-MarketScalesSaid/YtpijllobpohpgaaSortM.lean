/- The library's stable sort on short lists of numbers, walked: for a comparison that is handed in as a closure over two variables. -/
import Derived.Test.YtpijllobpohpgaaWords
import Derived.Test.YtpijllobpohpgaaRtSpec2
import Derived.Test.YtpijllobpohpgaaRtA
import Derived.Test.YtpijllobpohpgaaSortP
import Derived.Test.YtpijllobpohpgaaOwn
import Derived.BigRegion
import Derived.Outline
import Derived.IntWalk
namespace Go.Proofs.Ytpijllobpohpgaa
open Go.RowKit Go.Deep
set_option linter.unusedVariables false
set_option linter.unusedSimpArgs false

theorem quiet_left {P : Program} {f : FuncId} {args : Array Value} {w : World} {n : Nat} {v : Value}
    (h : Calls P f args (w.drewN n) fun e w' => e = .returned v ∧ w.drewN n = w') : Calls P f args (w.drewN n) fun e w'' => e = .returned v ∧ ∃ m, w'' = w.drewN m :=
  h.mono fun _ _ ⟨he, hm⟩ => ⟨he, n, hm.symm⟩


abbrev cellsN (l : List Nat) : List Value := l.map fun (k : Nat) => Value.int .i64 (k : Int)
theorem cellsN_at {l : List Nat} {k x : Nat} (h : l[k]? = some x) : (cellsN l)[k]? = some (.int .i64 (x : Int)) := by simp [cellsN, h]
theorem cellsN_set (l : List Nat) (k x : Nat) : (cellsN l).set k (.int .i64 (x : Int)) = cellsN (l.set k x) := by rw [cellsN, cellsN, List.map_set]

/-- The comparison as it is handed in, in every world that has what w0 has below B. -/
def CmpAt (B : Nat) (w0 : World) (cv cq : Value) (n : Nat) (cf : Nat → Nat → Int) : Prop :=
  ∀ (a b : Nat) (W : World), a < n → b < n → Below B w0 W → Calls Try.prog 62 #[.int .i64 a, .int .i64 b, cv, cq] W fun e w' => e = .returned (.int .i64 (cf a b)) ∧ Below W.heap.size W w'

abbrev ltOf (cf : Nat → Nat → Int) : Nat → Nat → Bool := fun a b => decide (cf a b < 0)

set_option maxRecDepth 100000 in
set_option maxHeartbeats 8000000 in
theorem insertion_any (B n : Nat) (w0 : World) (cv cq : Value) (cf : Nat → Nat → Int) (HC : Hid (CmpAt B w0 cv cq n cf)) (g cap : Nat) (l : List Nat) (hl : 0 < l.length) (hl2 : l.length ≤ 1000) (hln : ∀ x ∈ l, x < n) (w : World) (hB : Below B w0 w) (hBw : B ≤ w.heap.size)
    (hr : w.ownsRow B 3 1 (.slice (some ⟨g, 0, none⟩) l.length cap) l.length (cellsN l)) :
    Calls Try.prog 99 #[.slice (some ⟨g, 0, none⟩) l.length cap, .int .i64 0, .int .i64 l.length, .func (.func 62) #[] #[cv, cq]] w fun e w' => e = .returned (.tuple #[]) ∧ Below B w0 w' ∧ w'.ownsRow B 3 1 (.slice (some ⟨g, 0, none⟩) l.length cap) l.length (cellsN (isort (ltOf cf) l)) := by
  have HL := Lib.hid (show ∀ i, i < l.length → l.getD i 0 < n from fun i hi => by rw [List.getD_eq_getElem?_getD, List.getElem?_eq_getElem hi]; exact hln _ (List.getElem_mem hi))
  have HM := Lib.hid hln
  clear hln
  go_enter Try.func99, Try.ntmps99
  go_wp2_with fail
  go_loopw [8, 9] (fun i _ wr => ∃ k : Nat, 1 ≤ k ∧ k ≤ l.length ∧ i = .int .i64 k ∧ Below B w0 wr ∧ Hid (wr.ownsRow B 3 1 (.slice (some ⟨g, 0, none⟩) l.length cap) l.length (cellsN (head (ltOf cf) l k)))) (fun i _ _ => l.length - (intOf i).toNat)
  case atStart => exact ⟨1, by omega, by omega, rfl, hB, by rw [head_one hl]; exact Lib.hid hr⟩
  case round =>
    obtain ⟨k, hk1, hk, rfl, hBr, hR⟩ := hrel
    by_cases hlt : k < l.length
    · obtain ⟨x, hx⟩ : ∃ x, x = l[k] := ⟨_, rfl⟩
      have hxn : x < n := by rw [hx]; exact HM.out _ (List.getElem_mem hlt)
      have hR0 := hR.out
      rw [head_mid hlt, ← hx] at hR0
      have HX := Lib.hid hx
      have hsl : (sR (ltOf cf) (l.take k)).length = k := by rw [sR_length]; simp; omega
      have HSL := Lib.hid hsl
      have HR0 := Lib.hid hR0
      clear hR hR0 hx hsl
      go_wp2_with fail
      go_loopw [9] (fun j wi => ∃ q a : List Nat, j = .int .i64 q.length ∧ Hid (sR (ltOf cf) (l.take k) = a ++ q) ∧ Hid (∀ y ∈ a, ltOf cf x y = true) ∧ q.length ≤ k ∧ Below B w0 wi ∧ Hid (wi.ownsRow B 3 1 (.slice (some ⟨g, 0, none⟩) l.length cap) l.length (cellsN (mid q x a (l.drop (k + 1)))))) (fun j _ => (intOf j).toNat)
      case atStart => exact ⟨sR (ltOf cf) (l.take k), [], by rw [HSL.out], Lib.hid rfl, Lib.hid (by simp), by rw [HSL.out]; exact Nat.le_refl _, hBr, HR0⟩
      case round =>
        clear HR0 hBr
        obtain ⟨q, a, rfl, hq, ha, hqk, hBi, hR⟩ := hrel
        cases q with
        | nil =>
          have HF := Lib.hid (mid_head hlt (q := []) (a := a) hq.out (by rw [← HX.out]; exact ha.out) (by simp))
          rw [← HX.out] at HF
          rw [show (([] : List Nat).length : Int) = 0 from rfl]
          go_wp2_with fail
          go_quiet (fail)
          go_wp2_with fail
          go_roundw
          case rel => exact ⟨k + 1, by omega, by omega, by go_num, below_drewN hBi _, by rw [← HF.out]; exact hR⟩
          case measure => simp [intOf]; omega
        | cons y q =>
          have hR0 := hR.out
          have c1 := hR0.cellAt (q.length + 1) (by simp at hqk; omega)
          have c2 := hR0.cellAt q.length (by simp at hqk; omega)
          rw [cellsN_at (by simpa using mid_at (y :: q) a (l.drop (k + 1)) x)] at c1
          rw [cellsN_at (mid_before q a (l.drop (k + 1)) x y)] at c2
          have f1 := hR0.frozenAt (q.length + 1)
          have f2 := hR0.frozenAt q.length
          have hgi := own_ge hR0 g rfl
          have hg2 : g < wr.heap.size := hgi.2
          have hyn : y < n := HM.out y (List.mem_of_mem_take ((sR_perm (lt := ltOf cf) (l.take k)).mem_iff.1 (by rw [hq.out]; simp)))
          have hqk' : q.length + 1 ≤ k := by simpa using hqk
          obtain ⟨J, hJ⟩ : ∃ J, J = q.length := ⟨_, rfl⟩
          rw [← hJ] at c1 c2 f1 f2 hqk'
          rw [show ((y :: q).length : Int) = (J : Int) + 1 by rw [hJ]; simp]
          have HJ := Lib.hid hJ
          have i1 : (J : Int) + 1 < (l.length : Int) := by omega
          have i2 : (J : Int) < (l.length : Int) := by omega
          have s1 : IntKind.i64.wrap ((J : Int) + 1 - 1) = (J : Int) := by rw [show (J : Int) + 1 - 1 = (J : Int) by omega]; exact IntWalk.i64_in _ (by omega)
          have s2 : ((J : Int) + 1).toNat = J + 1 := by omega
          have p0 : decide ((0 : Int) < (J : Int) + 1) = true := by simp only [decide_eq_true_eq]; omega
          have HCF := Lib.hid (fun (W : World) (hb : Below wr.heap.size wr W) => HC.out x y W hxn hyn (bcall hBi (by have := hBi.size; omega) hb))
          clear hJ hR0 hqk
          by_cases e : cf x y < 0
          · have e1 : decide (cf x y < 0) = true := by simpa using e
            have HYE := Lib.hid e1
            clear e
            go_wp2_with fail
            refine wp_region_ext (by kernel_rfl) (by kernel_rfl) ?_
            repeat (first | go_big_quiet_step ((go_at_call 62; exact calls_ext (HCF.out _ (Ext.h _)))) | quiet_step ((go_at_call 62; exact calls_ext (HCF.out _ (Ext.h _)))))
            refine wpQuiet_nil ?_
            rintro w5 ⟨⟨_, hb5⟩, rfl⟩
            have hR5 := ownsRow_ext hR.out hb5
            have hB5 := bcall hBi (by have := hBi.size; omega) hb5
            have d1 : w5.cell? ⟨g, J + 1, none⟩ = some (.int .i64 (x : Int)) := (hb5.cell (p := ⟨g, J + 1, none⟩) hg2).trans c1
            have d2 : w5.cell? ⟨g, J, none⟩ = some (.int .i64 (y : Int)) := (hb5.cell (p := ⟨g, J, none⟩) hg2).trans c2
            have g1 : w5.frozen? ⟨g, J + 1, none⟩ = false := (hb5.frozen (p := ⟨g, J + 1, none⟩) hg2).trans f1
            have g2 : w5.frozen? ⟨g, J, none⟩ = false := (hb5.frozen (p := ⟨g, J, none⟩) hg2).trans f2
            have HSW : Hid (((w5.setCell ⟨g, J + 1, none⟩ (.int .i64 (y : Int))).setCell ⟨g, J, none⟩ (.int .i64 (x : Int))).ownsRow B 3 1 (.slice (some ⟨g, 0, none⟩) l.length cap) l.length (cellsN (mid q x (a ++ [y]) (l.drop (k + 1))))) := by
              have h1 := (hR5.stored (J + 1) (.int .i64 (y : Int))).1
              have h2 := (h1.stored J (.int .i64 (x : Int))).1
              rw [cellsN_set, cellsN_set, HJ.out, mid_swap] at h2
              rw [HJ.out]
              exact Lib.hid h2
            have HSB : Hid (Below B w0 ((w5.setCell ⟨g, J + 1, none⟩ (.int .i64 (y : Int))).setCell ⟨g, J, none⟩ (.int .i64 (x : Int)))) := Lib.hid ((hB5.setCell hgi.1 _).setCell hgi.1 _)
            clear c1 c2 f1 f2 hR5 hB5 hb5 hR hBi hg2 hgi HCF
            go_upto_region 6 with fail
            go_region
            have HQ : Hid (sR (ltOf cf) (l.take k) = (a ++ [y]) ++ q) := Lib.hid (by rw [hq.out]; simp)
            have HA : Hid (∀ z ∈ a ++ [y], ltOf cf x z = true) := Lib.hid (by
              intro z hz
              rw [List.mem_append] at hz
              rcases hz with hz | hz
              · exact ha.out z hz
              · simp only [List.mem_singleton] at hz; subst hz; exact HYE.out)
            go_wp2_with fail
            go_roundw
            case rel => exact ⟨q, a ++ [y], by rw [HJ.out], HQ, HA, by have := HJ.out; omega, by first | exact HSB.out.drew | exact HSB.out, HSW⟩
            case measure => first | (simp [intOf]; done) | (simp [intOf]; omega)
          · have e1 : decide (cf x y < 0) = false := by simpa using e
            have HF := Lib.hid (mid_head hlt hq.out (by rw [← HX.out]; exact ha.out) (by rw [← HX.out]; intro y' r h'; injection h' with h1 h2; subst h1; exact e1))
            rw [← HX.out] at HF
            clear e
            go_wp2_with fail
            refine wp_region_ext (by kernel_rfl) (by kernel_rfl) ?_
            repeat (first | go_big_quiet_step ((go_at_call 62; exact calls_ext (HCF.out _ (Ext.h _)))) | quiet_step ((go_at_call 62; exact calls_ext (HCF.out _ (Ext.h _)))))
            refine wpQuiet_nil ?_
            rintro _ ⟨⟨w5, hb5⟩, rfl⟩
            go_wp2_with fail
            go_roundw
            case rel => exact ⟨k + 1, by omega, by omega, by go_num, bcall hBi (by have := hBi.size; omega) hb5, by rw [← HF.out]; exact Lib.hid (ownsRow_ext hR.out hb5)⟩
            case measure => simp [intOf]; omega
    · obtain rfl : k = l.length := by omega
      go_wp2_with fail
      go_end0
      exact ⟨rfl, hBr, by have := hR.out; rw [head_all] at this; exact this⟩
set_option maxRecDepth 100000 in
set_option maxHeartbeats 2000000 in
theorem stable_any (B n : Nat) (w0 : World) (cv cq : Value) (cf : Nat → Nat → Int) (HC : Hid (CmpAt B w0 cv cq n cf)) (g cap : Nat) (l : List Nat) (hl : 0 < l.length) (hl2 : l.length < 20) (hln : ∀ x ∈ l, x < n) (w : World) (hB : Below B w0 w) (hBw : B ≤ w.heap.size)
    (hr : w.ownsRow B 3 1 (.slice (some ⟨g, 0, none⟩) l.length cap) l.length (cellsN l)) :
    Calls Try.prog 61 #[.slice (some ⟨g, 0, none⟩) l.length cap, .func (.func 62) #[] #[cv, cq]] w fun e w' => e = .returned (.tuple #[]) ∧ Below B w0 w' ∧ w'.ownsRow B 3 1 (.slice (some ⟨g, 0, none⟩) l.length cap) l.length (cellsN (isort (ltOf cf) l)) := by
  have HI := Lib.hid (insertion_any B n w0 cv cq cf HC g cap l hl (by omega) hln w hB hBw hr)
  have h1 : decide ((20 : Int) ≤ (l.length : Int)) = false := by simp; omega
  have h2 : decide ((20 : Int) < (l.length : Int)) = false := by simp; omega
  have HS : Hid (Calls Try.prog 85 #[.slice (some ⟨g, 0, none⟩) l.length cap, .int .i64 l.length, .func (.func 62) #[] #[cv, cq]] w fun e w' => e = .returned (.tuple #[]) ∧ Below B w0 w' ∧ w'.ownsRow B 3 1 (.slice (some ⟨g, 0, none⟩) l.length cap) l.length (cellsN (isort (ltOf cf) l))) := by
    refine Lib.hid ?_
    clear hr hln HC hB hBw
    go_enter Try.func85, Try.ntmps85
    go_wp2_with fail
    go_loop [7, 8] (fun a b => a = .int .i64 0 ∧ b = .int .i64 20) (fun _ _ => 0)
    case atStart => exact ⟨rfl, rfl⟩
    case round =>
      obtain ⟨rfl, rfl⟩ := hrel
      go_wp2_with (go_at_call 99; refine HI.out.mono ?_; rintro e w1 ⟨rfl, hb1, hr1⟩)
      have HB1 := Lib.hid hb1
      have HR1 := Lib.hid hr1
      clear hb1 hr1
      go_loop [6] (fun s => s = .int .i64 20) (fun _ => 0)
      case atStart => rfl
      case round =>
        obtain rfl := hrel
        go_wp2_with fail
        go_end0
        exact ⟨rfl, HB1.out, HR1.out⟩
  clear hr hln HC hB hBw
  go_enter Try.func61, Try.ntmps61
  go_wp2_with (go_at_call 85; refine HS.out.mono ?_; rintro e w' ⟨rfl, hb1, hr1⟩)
  go_end0
  exact ⟨rfl, hb1, hr1⟩

theorem insertion_nil (fv : Value) (w : World) : Calls Try.prog 99 #[.slice none 0 0, .int .i64 0, .int .i64 0, fv] w fun e w' => e = .returned (.tuple #[]) ∧ w = w' := by
  go_enter Try.func99, Try.ntmps99
  go_wp2_with fail
  go_loop [8] (fun i => i = .int .i64 1) (fun _ => 0)
  case atStart => rfl
  case round =>
    obtain rfl := hrel
    go_wp2_with fail
    go_end0
    exact ⟨rfl, rfl⟩
set_option maxHeartbeats 1000000 in
theorem stable_nil (fv : Value) (w : World) : Calls Try.prog 61 #[.slice none 0 0, fv] w fun e w' => e = .returned (.tuple #[]) ∧ w = w' := by
  have HI := Lib.hid (insertion_nil fv w)
  have HS : Hid (Calls Try.prog 85 #[.slice none 0 0, .int .i64 0, fv] w fun e w' => e = .returned (.tuple #[]) ∧ w = w') := by
    refine Lib.hid ?_
    go_enter Try.func85, Try.ntmps85
    go_wp2_with fail
    go_loop [7, 8] (fun a b => a = .int .i64 0 ∧ b = .int .i64 20) (fun _ _ => 0)
    case atStart => exact ⟨rfl, rfl⟩
    case round =>
      obtain ⟨rfl, rfl⟩ := hrel
      go_wp2_with (go_at_call 99; refine HI.out.mono ?_; rintro e w1 ⟨rfl, rfl⟩)
      go_loop [6] (fun s => s = .int .i64 20) (fun _ => 0)
      case atStart => rfl
      case round =>
        obtain rfl := hrel
        go_wp2_with fail
        go_end0
        exact ⟨rfl, rfl⟩
  go_enter Try.func61, Try.ntmps61
  go_wp2_with (go_at_call 85; refine HS.out.mono ?_; rintro e w' ⟨rfl, rfl⟩)
  go_end0
  exact ⟨rfl, rfl⟩
end Go.Proofs.Ytpijllobpohpgaa
