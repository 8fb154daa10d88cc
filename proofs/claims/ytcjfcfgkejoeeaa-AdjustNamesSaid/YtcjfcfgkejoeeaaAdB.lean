/- Check and Valid of goods, and Check of adjust, walked. -/
import Derived.Test.YtcjfcfgkejoeeaaAdA
import Derived.Test.YtcjfcfgkejoeeaaRtA
namespace Go.Proofs.Ytcjfcfgkejoeeaa
open Go.RowKit
set_option linter.unusedVariables false
set_option linter.unusedSimpArgs false

theorem far_wide {bs : List (List Int)} : (bs.any fun r => decide (10 < r.length)) = true ↔ ∃ i, i < bs.length ∧ 10 < (gr bs i).length := by
  rw [List.any_eq_true]
  constructor
  · rintro ⟨r, hr, h⟩
    obtain ⟨i, hi, rfl⟩ := mem_gr hr
    exact ⟨i, hi, by simpa using h⟩
  · rintro ⟨i, hi, h⟩
    exact ⟨_, gr_mem hi, by simpa using h⟩
theorem odd_some {xs : List Int} (h : xs.any oddB = true) : ¬ ∀ k, k < xs.length → 0 ≤ gi xs k ∧ gi xs k ≤ 1000 := by
  intro hk
  rw [List.any_eq_true] at h
  obtain ⟨x, hx, ho⟩ := h
  obtain ⟨i, hi, rfl⟩ := mem_gi hx
  have := hk i hi
  simp only [oddB, Bool.or_eq_true, decide_eq_true_eq] at ho
  omega
theorem odd_none {xs : List Int} (h : xs.any oddB = false) : ∀ k, k < xs.length → 0 ≤ gi xs k ∧ gi xs k ≤ 1000 := by
  intro k hk
  have := (List.any_eq_false.1 h) _ (gi_mem hk)
  simp only [oddB, Bool.or_eq_true, decide_eq_true_eq] at this
  omega
theorem all_step {P : Nat → Prop} {k : Nat} (h : ∀ j, j < k → P j) (hk : P k) : ∀ j, j < k + 1 → P j := by
  intro j hj
  by_cases e : j = k
  · subst e; exact hk
  · exact h j (by omega)

set_option maxRecDepth 100000 in
set_option maxHeartbeats 4000000 in
theorem gcheck_any (bs : List (List Int)) (A : Option Addr) (c : Nat) (w : World) (h : GIn w.heap.size w A c bs) :
    Calls Try.prog 44 #[gV A c bs] w fun e w' => e = .returned (.int .i64 (gdCode bs)) ∧ Below w.heap.size w w' := by
  have hm := h.len
  have hc := h.cap
  unfold maxLen at hc
  have HB := Lib.hid h
  have HW := Lib.hid (far_wide (bs := bs))
  clear h
  by_cases h6 : (6 : Int) < (bs.length : Int)
  · have HC := Lib.hid (gd_many1 (bs := bs) (by omega))
    go_enter Try.func44, Try.ntmps44
    go_wp2
    go_ret
    exact ⟨ret_int HC.out.symm, one_alloc _ _⟩
  have g6 : decide ((6 : Int) < (bs.length : Int)) = false := by simpa using h6
  have h6' : bs.length ≤ 6 := by omega
  clear h6
  by_cases hw : (bs.any fun r => decide (10 < r.length)) = true
  · obtain ⟨i, hi, hi10⟩ := HW.out.1 hw
    have HC := Lib.hid (gd_many2 hi hi10)
    clear hi hi10
    go_enter Try.func44, Try.ntmps44
    go_wp2_with ((go_at_call 64; refine (containsr_any (fun n => decide (10 < n)) A c bs _ (HB.out.rows.next (one_alloc _ _)) (by unfold maxLen; omega) (Lib.hid fun R n c W => wide_any R n c W)).mono ?_; rintro e w' ⟨rfl, rfl⟩))
    go_ret
    exact ⟨ret_int HC.out.symm, one_alloc _ _⟩
  have hw' : (bs.any fun r => decide (10 < r.length)) = false := by simpa using hw
  have HNM := Lib.hid (show ¬ GdMany bs from not_many h6' (fun i hi => by
    rcases Nat.lt_or_ge 10 (gr bs i).length with k | k
    · exact absurd (HW.out.2 ⟨i, hi, k⟩) hw
    · exact k))
  clear hw
  by_cases h0 : (bs.length : Int) = 0
  · have HC := Lib.hid (gd_none HNM.out (by omega))
    have g0 : ((bs.length : Int) == 0) = true := by simpa using h0
    clear h0
    go_enter Try.func44, Try.ntmps44
    go_wp2_with ((go_at_call 64; refine (containsr_any (fun n => decide (10 < n)) A c bs _ (HB.out.rows.next (one_alloc _ _)) (by unfold maxLen; omega) (Lib.hid fun R n c W => wide_any R n c W)).mono ?_; rintro e w' ⟨rfl, rfl⟩))
    go_ret
    exact ⟨ret_int HC.out.symm, one_alloc _ _⟩
  have g0 : ((bs.length : Int) == 0) = false := by simpa using h0
  have h0' : 0 < bs.length := by omega
  clear h0
  have HG := Lib.hid (fun hg => gd_good HNM.out h0' hg)
  have HX := Lib.hid (fun i hi hb => gd_bad HNM.out (i := i) hi hb)
  have hb1 : (w.alloc (gB A c bs)).heap[w.heap.size]? = some (gB A c bs) := heap_new rfl
  have HIn := Lib.hid (HB.out.next (one_alloc w (gB A c bs)))
  go_enter Try.func44, Try.ntmps44
  go_wp2_with ((go_at_call 64; refine (containsr_any (fun n => decide (10 < n)) A c bs _ (HB.out.rows.next (one_alloc _ _)) (by unfold maxLen; omega) (Lib.hid fun R n c W => wide_any R n c W)).mono ?_; rintro e w' ⟨rfl, rfl⟩))
  go_loop [22] (fun i => ∃ k : Nat, k ≤ bs.length ∧ i = .int .i64 k ∧ Hid (∀ j, j < k → RowOk bs j)) (fun i => bs.length - (intOf i).toNat)
  case atStart => exact ⟨0, Nat.zero_le _, rfl, Lib.hid fun j hj => by omega⟩
  case round =>
    obtain ⟨k, hk, rfl, hok⟩ := hrel
    by_cases hlt : k < bs.length
    · obtain ⟨bd, Rk, ck, rfl, hb', hc', hcl, hcm, hrk⟩ := HIn.out.rows.at_ hlt
      obtain ⟨bd', R0, c0, hbd, hb0, hc0, _, _, _⟩ := HIn.out.rows.at_ h0'
      obtain rfl : bd = bd' := by simpa using hbd
      have hc0' := (congrArg (World.cell? _) (show bd.add 0 = bd from rfl)).symm.trans hc0
      clear hbd hc0
      have i0 : (0 : Int) < (bs.length : Int) := by omega
      by_cases hl : ((gr bs k).length : Int) = ((gr bs 0).length : Int)
      rotate_left
      · have HC := Lib.hid (HX.out k hlt (row_len (by omega)))
        have g1 : (((gr bs k).length : Int) != ((gr bs 0).length : Int)) = true := by simpa using hl
        clear hl hok
        go_wp2_with fail
        go_ret
        exact ⟨ret_int HC.out.symm, one_alloc _ _⟩
      have g1 : (((gr bs k).length : Int) != ((gr bs 0).length : Int)) = false := by simpa using hl
      have HL := Lib.hid hl
      clear hl
      have HK := Lib.hid (fun (W : World) (hW : Ints W.heap.size W Rk (gr bs k)) => contains_odd oddB Rk ck (gr bs k) W hW (by omega) (Lib.hid fun x => odd_any x W))
      have HRK := Lib.hid hrk
      clear hrk
      by_cases ho : (gr bs k).any oddB = true
      · have HC := Lib.hid (HX.out k hlt (fun r => odd_some ho r.2))
        clear hok
        go_wp2_with ((go_at_call 67; refine (HK.out _ HRK.out).mono ?_; rintro e w' ⟨rfl, rfl⟩))
        go_ret
        exact ⟨ret_int HC.out.symm, one_alloc _ _⟩
      · have ho' : (gr bs k).any oddB = false := by simpa using ho
        have HS := Lib.hid (all_step hok.out (row_ok (bs := bs) (by have := HL.out; omega) (odd_none ho')))
        clear ho hok
        go_wp2_with ((go_at_call 67; refine (HK.out _ HRK.out).mono ?_; rintro e w' ⟨rfl, rfl⟩))
        go_round
        case rel => exact ⟨k + 1, by omega, by go_num, HS⟩
        case measure => simp [intOf]; omega
    · obtain rfl : k = bs.length := by omega
      have HC := Lib.hid (HG.out hok.out)
      clear hok
      go_wp2
      go_ret
      exact ⟨ret_int HC.out.symm, one_alloc _ _⟩

theorem far_some {xs : List Int} {n : Nat} (h : xs.any (farB (-1) n) = true) : ¬ ∀ k, k < xs.length → -1 ≤ gi xs k ∧ gi xs k < n := by
  intro hk
  rw [List.any_eq_true] at h
  obtain ⟨x, hx, ho⟩ := h
  obtain ⟨i, hi, rfl⟩ := mem_gi hx
  have := hk i hi
  simp only [farB, Bool.or_eq_true, decide_eq_true_eq] at ho
  omega
theorem far_none {xs : List Int} {n : Nat} (h : xs.any (farB (-1) n) = false) : ∀ k, k < xs.length → -1 ≤ gi xs k ∧ gi xs k < n := by
  intro k hk
  have := (List.any_eq_false.1 h) _ (gi_mem hk)
  simp only [farB, Bool.or_eq_true, decide_eq_true_eq] at this
  omega
set_option maxRecDepth 100000 in
set_option maxHeartbeats 4000000 in
theorem gvalid_any (bs : List (List Int)) (A : Option Addr) (c : Nat) (O : Option Addr) (oc : Nat) (xs : List Int) (w : World) (h : GIn w.heap.size w A c bs) (hx : Ints w.heap.size w O xs) (hm : xs.length ≤ maxLen) :
    Calls Try.prog 31 #[gV A c bs, .slice O xs.length oc] w fun e w' => e = .returned (.int .i64 (alCode bs xs)) ∧ Below w.heap.size w w' := by
  have hg0 : (w.alloc (gB A c bs)).heap[w.heap.size]? = some (gB A c bs) := heap_new rfl
  have HC := Lib.hid (fun (W : World) (hW : GIn W.heap.size W A c bs) => gcheck_any bs A c W hW)
  have HB := Lib.hid (h.next (one_alloc w (gB A c bs)))
  have HX := Lib.hid (hx.next (one_alloc w (gB A c bs)))
  have hm' := hm
  unfold maxLen at hm'
  have hlc := h.len
  have hcc := h.cap
  unfold maxLen at hcc
  clear h hx
  by_cases hc : gdCode bs = 0
  rotate_left
  · have q1 : (gdCode bs != 0) = true := by simpa using hc
    have HV := Lib.hid (al_gd (bs := bs) (a := xs) hc)
    rw [HV.out]
    clear hc HV
    generalize gdCode bs = code at *
    go_enter Try.func31, Try.ntmps31
    go_wp2_with fail
    refine (HC.out _ HB.out).mono ?_
    rintro e w1 ⟨rfl, hb1⟩
    go_wp2_with fail
    go_ret
    exact ⟨rfl, bcall (one_alloc _ _) (by simp) hb1⟩
  have q1 : (gdCode bs != 0) = false := by simpa using hc
  have ho := gd_ok hc
  have h0 : 0 < bs.length := ho.1
  have h6 : bs.length ≤ 6 := ho.2.1
  have HA := Lib.hid (fun hk => al_bad (bs := bs) (a := xs) hc hk)
  have HG := Lib.hid (fun hk => al_good (bs := bs) (a := xs) hc hk)
  clear ho hc
  go_enter Try.func31, Try.ntmps31
  go_wp2_with fail
  refine (HC.out _ HB.out).mono ?_
  rintro e w1 ⟨rfl, hb1⟩
  have HB1 := Lib.hid (HB.out.next hb1)
  have HX1 := Lib.hid (HX.out.next hb1)
  have hg1 := heap_ext hg0 hb1
  have HBel := Lib.hid (bcall (one_alloc w (gB A c bs)) (by simp) hb1)
  clear hb1 HB HX hg0
  have cg := fun j => cell_of_row _ _ j _ _ _ hg1
  have zg := lt_some hg1
  obtain ⟨bd, R0, c0, rfl, hb0, hc0, _, _, _⟩ := HB1.out.rows.at_ h0
  have hc0' := (congrArg (World.cell? _) (show bd.add 0 = bd from rfl)).symm.trans hc0
  clear hc0
  have i0 : (0 : Int) < (bs.length : Int) := by omega
  by_cases hl : (xs.length : Int) = ((gr bs 0).length : Int)
  rotate_left
  · have g1 : ((xs.length : Int) != ((gr bs 0).length : Int)) = true := by simpa using hl
    have HE := Lib.hid (HA.out (fun k => by have := k.1; omega))
    clear hl
    go_wp2_with fail
    go_ret
    exact ⟨ret_int HE.out.symm, HBel.out⟩
  have g1 : ((xs.length : Int) != ((gr bs 0).length : Int)) = false := by simpa using hl
  have HL := Lib.hid hl
  clear hl
  have HWI := Lib.hid (fun (W : World) (hW : Ints W.heap.size W O xs) => within_any (-1) bs.length O oc xs W hW hm)
  by_cases hf : xs.any (farB (-1) bs.length) = true
  · have HE := Lib.hid (HA.out (fun k => far_some hf k.2))
    go_wp2_with fail
    refine (HWI.out _ HX1.out).mono ?_
    rintro e w2 ⟨rfl, hb2⟩
    go_wp2_with fail
    go_ret
    exact ⟨ret_int HE.out.symm, bcall HBel.out HBel.out.size hb2⟩
  · have hf' : xs.any (farB (-1) bs.length) = false := by simpa using hf
    have HE := Lib.hid (HG.out ⟨by have := HL.out; omega, far_none hf'⟩)
    clear hf
    go_wp2_with fail
    refine (HWI.out _ HX1.out).mono ?_
    rintro e w2 ⟨rfl, hb2⟩
    go_wp2_with fail
    go_ret
    exact ⟨ret_int HE.out.symm, bcall HBel.out HBel.out.size hb2⟩
end Go.Proofs.Ytcjfcfgkejoeeaa
