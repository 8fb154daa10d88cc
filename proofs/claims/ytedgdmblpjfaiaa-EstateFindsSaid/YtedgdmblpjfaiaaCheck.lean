/- Check of estate and of its reference: each returns the code of an estate. -/
import Derived.Test.YtedgdmblpjfaiaaLib
import Derived.BigGuardPart
import Derived.IntWalk
namespace Go.Proofs.Ytedgdmblpjfaiaa
open Go.RowKit
set_option linter.unusedVariables false
set_option linter.unusedSimpArgs false

theorem code_many1 {E : Est} (h : 10 < E.sh.length) : E.code = 4 := by unfold Est.code; rw [if_pos (Or.inl h)]
theorem code_many2 {E : Est} (h : 10 < E.bd.length) : E.code = 4 := by unfold Est.code; rw [if_pos (Or.inr (Or.inl h))]
theorem code_many3 {E : Est} (h : E.wide = true) : E.code = 4 := by unfold Est.code; rw [if_pos (Or.inr (Or.inr h))]
theorem code_bad {E : Est} (h1 : E.sh.length ≤ 10) (h2 : E.bd.length ≤ 10) (h3 : E.wide = false) (h : E.sh.length = 0 ∨ E.bd.length ≠ E.sh.length) : E.code = 8 := by
  unfold Est.code; rw [if_neg (by simp [h3]; omega), if_pos h]
theorem code_at {E : Est} (h1 : E.sh.length ≤ 10) (h2 : E.bd.length ≤ 10) (h3 : E.wide = false) (h : ¬ (E.sh.length = 0 ∨ E.bd.length ≠ E.sh.length)) {i : Nat} (hi : i < E.sh.length) (hn : E.okAt i = false) : E.code = 8 := by
  unfold Est.code; rw [if_neg (by simp [h3]; omega), if_neg h, if_neg]
  intro hg
  have := Est.good_iff.1 hg i hi
  rw [hn] at this; cases this
theorem code_good {E : Est} (h1 : E.sh.length ≤ 10) (h2 : E.bd.length ≤ 10) (h3 : E.wide = false) (h : ¬ (E.sh.length = 0 ∨ E.bd.length ≠ E.sh.length)) (hg : ∀ i, i < E.sh.length → E.okAt i = true) : E.code = 0 := by
  unfold Est.code; rw [if_neg (by simp [h3]; omega), if_neg h, if_pos (Est.good_iff.2 hg)]
theorem okAt_s1 {E : Est} {i : Nat} (h : E.share i < 1) : E.okAt i = false := by
  unfold Est.okAt; rw [decide_eq_false (by omega : ¬ 1 ≤ E.share i)]; rfl
theorem okAt_s2 {E : Est} {i : Nat} (h : E.left i < E.share i) : E.okAt i = false := by
  unfold Est.okAt; rw [decide_eq_false (by omega : ¬ E.share i ≤ E.left i)]; simp
theorem okAt_len {E : Est} {i : Nat} (h : (E.row i).length ≠ (E.row 0).length) : E.okAt i = false := by
  unfold Est.okAt; rw [decide_eq_false h]; simp
theorem okAt_out {E : Est} {i : Nat} (h : (E.row i).any outB = true) : E.okAt i = false := by
  unfold Est.okAt
  have : (E.row i).all Est.inb = false := by
    rw [List.any_eq_true] at h
    obtain ⟨x, hx, ho⟩ := h
    rw [List.all_eq_false]
    exact ⟨x, hx, by rw [outB_inb] at ho; simpa using ho⟩
  rw [this]; simp
theorem okAt_yes {E : Est} {i : Nat} (h1 : 1 ≤ E.share i) (h2 : E.share i ≤ E.left i) (h3 : (E.row i).length = (E.row 0).length) (h4 : (E.row i).any outB = false) : E.okAt i = true := by
  unfold Est.okAt
  have : (E.row i).all Est.inb = true := by
    rw [List.all_eq_true]
    intro x hx
    have := (List.any_eq_false.1 h4) x hx
    rw [outB_inb] at this; simpa using this
  rw [this]; simp [h1, h2, h3]
theorem left_succ (E : Est) (i : Nat) : E.left (i + 1) = E.left i - E.share i := by unfold Est.left; rw [sumTo]; omega
theorem wide_eq (E : Est) : (E.bd.any fun r => decide (30 < r.length)) = E.wide := rfl

theorem all_step {P : Nat → Prop} {k : Nat} (h : ∀ j, j < k → P j) (hk : P k) : ∀ j, j < k + 1 → P j := by
  intro j hj
  by_cases e : j = k
  · subst e; exact hk
  · exact h j (by omega)
theorem one_alloc (w : World) (o : Obj) : Below w.heap.size w (w.alloc o) := (Below.refl _ _).alloc (Nat.le_refl _) o

set_option maxRecDepth 100000 in
set_option maxHeartbeats 4000000 in
theorem check_any (E : Est) (A : Option Addr) (c : Nat) (R : Option Addr) (d : Nat) (w : World) (h : EIn w.heap.size w A c R d E) :
    Calls Try.prog 23 #[eV A c R d E] w fun e w' => e = .returned (.int .i64 E.code) ∧ Below w.heap.size w w' := by
  obtain ⟨hs, hb, hsl, hsm, hbl, hbm⟩ := h
  unfold maxLen at hsm hbm
  unfold eV
  have HB := Lib.hid hb
  have HS := Lib.hid hs
  clear hb hs
  by_cases hab : E.sh.length < E.bd.length
  · by_cases h10 : (10 : Int) < (E.bd.length : Int)
    · have HC := Lib.hid (code_many2 (E := E) (by omega))
      go_enter Try.func23, Try.ntmps23
      go_wp2
      go_ret
      exact ⟨ret_int HC.out.symm, one_alloc _ _⟩
    · have h10' : (E.bd.length : Int) ≤ 10 := by omega
      have g10 : decide ((10 : Int) < (E.bd.length : Int)) = false := by simpa using h10
      clear h10
      by_cases hw : E.wide = true
      · have HC := Lib.hid (code_many3 hw)
        go_enter Try.func23, Try.ntmps23
        go_wp2_with (go_at_call 41; refine (containsr_any (fun n => decide (30 < n)) R d E.bd _ (HB.out.next (one_alloc _ _)) (by unfold maxLen; omega) (Lib.hid fun R n c W => wide_any R n c W)).mono ?_; rintro e w' ⟨rfl, rfl⟩; rw [wide_eq])
        go_ret
        exact ⟨ret_int HC.out.symm, one_alloc _ _⟩
      · have hw' : E.wide = false := by simpa using hw
        have HC := Lib.hid (code_bad (by omega) (by omega) hw' (by omega))
        have hne : ((E.bd.length : Int) != (E.sh.length : Int)) = true := by simp; omega
        clear hw
        go_enter Try.func23, Try.ntmps23
        go_wp2_with (go_at_call 41; refine (containsr_any (fun n => decide (30 < n)) R d E.bd _ (HB.out.next (one_alloc _ _)) (by unfold maxLen; omega) (Lib.hid fun R n c W => wide_any R n c W)).mono ?_; rintro e w' ⟨rfl, rfl⟩; rw [wide_eq])
        all_goals (go_ret; exact ⟨ret_int HC.out.symm, one_alloc _ _⟩)
  · by_cases h10 : (10 : Int) < (E.sh.length : Int)
    · have HC := Lib.hid (code_many1 (E := E) (by omega))
      go_enter Try.func23, Try.ntmps23
      go_wp2
      go_ret
      exact ⟨ret_int HC.out.symm, one_alloc _ _⟩
    · have h10' : (E.sh.length : Int) ≤ 10 := by omega
      have g10 : decide ((10 : Int) < (E.sh.length : Int)) = false := by simpa using h10
      clear h10
      by_cases hw : E.wide = true
      · have HC := Lib.hid (code_many3 hw)
        go_enter Try.func23, Try.ntmps23
        go_wp2_with (go_at_call 41; refine (containsr_any (fun n => decide (30 < n)) R d E.bd _ (HB.out.next (one_alloc _ _)) (by unfold maxLen; omega) (Lib.hid fun R n c W => wide_any R n c W)).mono ?_; rintro e w' ⟨rfl, rfl⟩; rw [wide_eq])
        go_ret
        exact ⟨ret_int HC.out.symm, one_alloc _ _⟩
      · have hw' : E.wide = false := by simpa using hw
        clear hw
        by_cases hs0 : (E.sh.length : Int) = 0
        · have HC := Lib.hid (code_bad (by omega) (by omega) hw' (Or.inl (by omega)))
          have h0 : ((E.sh.length : Int) == 0) = true := by simpa using hs0
          clear hs0
          go_enter Try.func23, Try.ntmps23
          go_wp2_with (go_at_call 41; refine (containsr_any (fun n => decide (30 < n)) R d E.bd _ (HB.out.next (one_alloc _ _)) (by unfold maxLen; omega) (Lib.hid fun R n c W => wide_any R n c W)).mono ?_; rintro e w' ⟨rfl, rfl⟩; rw [wide_eq])
          go_ret
          exact ⟨ret_int HC.out.symm, one_alloc _ _⟩
        · have h0 : ((E.sh.length : Int) == 0) = false := by simpa using hs0
          by_cases hbs : (E.bd.length : Int) = (E.sh.length : Int)
          rotate_left
          · have HC := Lib.hid (code_bad (by omega) (by omega) hw' (Or.inr (by omega)))
            have h1 : ((E.bd.length : Int) != (E.sh.length : Int)) = true := by simpa using hbs
            clear hbs
            go_enter Try.func23, Try.ntmps23
            go_wp2_with (go_at_call 41; refine (containsr_any (fun n => decide (30 < n)) R d E.bd _ (HB.out.next (one_alloc _ _)) (by unfold maxLen; omega) (Lib.hid fun R n c W => wide_any R n c W)).mono ?_; rintro e w' ⟨rfl, rfl⟩; rw [wide_eq])
            go_ret
            exact ⟨ret_int HC.out.symm, one_alloc _ _⟩
          · have h1 : ((E.bd.length : Int) != (E.sh.length : Int)) = false := by simpa using hbs
            have HG := Lib.hid (fun hg => code_good (E := E) (by omega) (by omega) hw' (by omega) hg)
            have HA := Lib.hid (fun i hi hn => code_at (E := E) (by omega) (by omega) hw' (by omega) (i := i) hi hn)
            have hbs' : E.bd.length = E.sh.length := by omega
            have HL := Lib.hid hbs'
            clear hbs hbs' hs0
            go_enter Try.func23, Try.ntmps23
            go_wp2_with (go_at_call 41; refine (containsr_any (fun n => decide (30 < n)) R d E.bd _ (HB.out.next (one_alloc _ _)) (by unfold maxLen; omega) (Lib.hid fun R n c W => wide_any R n c W)).mono ?_; rintro e w' ⟨rfl, rfl⟩; rw [wide_eq])
            go_loopw [3, 36] (fun l i wr => ∃ k : Nat, k ≤ E.sh.length ∧ i = .int .i64 k ∧ l = .int .i64 (E.left k) ∧ Hid (∀ j, j < k → E.okAt j = true) ∧ Hid ((k : Int) ≤ 1000 - E.left k ∧ 0 ≤ E.left k) ∧ Below w.heap.size w wr ∧ wr.heap[w.heap.size]? = some (.cells #[.slice A E.sh.length c, .slice R E.bd.length d] 25 (0, 0))) (fun _ i _ => E.sh.length - (intOf i).toNat)
            case atStart => exact ⟨0, Nat.zero_le _, rfl, rfl, Lib.hid (fun j hj => by omega), Lib.hid (by simp [Est.left, sumTo]), one_alloc _ _, heap_new rfl⟩
            case round =>
              obtain ⟨k, hk, rfl, rfl, hok, hlf, hB, hbx⟩ := hrel
              by_cases hlt : k < E.sh.length
              · obtain ⟨ad, rfl, hb, hc⟩ := (HS.out.below hB).at_ hlt
                have hlt' : k < E.bd.length := by rw [HL.out]; exact hlt
                obtain ⟨bd, Rk, ck, rfl, hb', hc', hcl, hcm, hrk⟩ := (HB.out.below hB).at_ hlt'
                obtain ⟨bd', R0, c0, hbd, hb0, hc0, _, _, _⟩ := (HB.out.below hB).at_ (show 0 < E.bd.length by omega)
                obtain rfl : bd = bd' := by simpa using hbd
                have cbx := fun j => cell_of_row wr _ j _ _ _ hbx
                have hc0' : wr.cell? bd = some (.slice R0 (gr E.bd 0).length c0) := by simpa [Addr.add] using hc0
                have i1 : (k : Int) < (E.bd.length : Int) := by omega
                have i2 : (0 : Int) < (E.bd.length : Int) := by omega
                have hlk := hlf.out
                have HCk := Lib.hid (HA.out k hlt)
                clear hbd hb0
                by_cases q1 : gi E.sh k < 1
                · have p1 : decide (gi E.sh k < 1) = true := by simpa using q1
                  have HF := Lib.hid (HCk.out (okAt_s1 q1))
                  clear q1
                  go_wp2_with (go_at_call 32; refine (contains_any43 outB Rk ck (gr E.bd k) _ (hrk.more hB.size) (by unfold maxLen at hcm ⊢; omega) (Lib.hid fun x W => out_any x W)).mono ?_; rintro e w' ⟨rfl, rfl⟩)
                  go_quiet (fail)
                  go_wp2
                  go_ret
                  exact ⟨ret_int HF.out.symm, below_drewN hB _⟩
                have p1 : decide (gi E.sh k < 1) = false := by simpa using q1
                by_cases q2 : E.left k < gi E.sh k
                · have p2 : decide (E.left k < gi E.sh k) = true := by simpa using q2
                  have HF := Lib.hid (HCk.out (okAt_s2 q2))
                  clear q2
                  go_wp2_with (go_at_call 32; refine (contains_any43 outB Rk ck (gr E.bd k) _ (hrk.more hB.size) (by unfold maxLen at hcm ⊢; omega) (Lib.hid fun x W => out_any x W)).mono ?_; rintro e w' ⟨rfl, rfl⟩)
                  go_quiet (fail)
                  go_wp2
                  go_ret
                  exact ⟨ret_int HF.out.symm, below_drewN hB _⟩
                have p2 : decide (E.left k < gi E.sh k) = false := by simpa using q2
                by_cases q3 : ((gr E.bd k).length : Int) = ((gr E.bd 0).length : Int)
                rotate_left
                · have p3 : (((gr E.bd k).length : Int) != ((gr E.bd 0).length : Int)) = true := by simpa using q3
                  have HF := Lib.hid (HCk.out (okAt_len (by simp only [Est.row]; omega)))
                  clear q3
                  go_wp2_with (go_at_call 32; refine (contains_any43 outB Rk ck (gr E.bd k) _ (hrk.more hB.size) (by unfold maxLen at hcm ⊢; omega) (Lib.hid fun x W => out_any x W)).mono ?_; rintro e w' ⟨rfl, rfl⟩)
                  go_quiet (fail)
                  go_wp2
                  go_ret
                  exact ⟨ret_int HF.out.symm, below_drewN hB _⟩
                have p3 : (((gr E.bd k).length : Int) != ((gr E.bd 0).length : Int)) = false := by simpa using q3
                by_cases q4 : (gr E.bd k).any outB = true
                · have HF := Lib.hid (HCk.out (okAt_out q4))
                  clear q3
                  go_wp2_with (go_at_call 32; refine (contains_any43 outB Rk ck (gr E.bd k) _ (hrk.more hB.size) (by unfold maxLen at hcm ⊢; omega) (Lib.hid fun x W => out_any x W)).mono ?_; rintro e w' ⟨rfl, rfl⟩)
                  go_quiet (fail)
                  go_wp2
                  go_ret
                  exact ⟨ret_int HF.out.symm, below_drewN hB _⟩
                have p4 : (gr E.bd k).any outB = false := by simpa using q4
                have HF := Lib.hid (okAt_yes (E := E) (i := k) (by simp only [Est.share]; omega) (by simp only [Est.share]; omega) (by simp only [Est.row]; omega) p4)
                have hls : E.left (k + 1) = E.left k - gi E.sh k := left_succ E k
                have HLS := Lib.hid hls
                have s1 : IntKind.i64.wrap (E.left k - gi E.sh k) = E.left k - gi E.sh k := IntWalk.i64_in _ (by omega)
                clear q3 q4 hls
                go_wp2_with (go_at_call 32; refine (contains_any43 outB Rk ck (gr E.bd k) _ (hrk.more hB.size) (by unfold maxLen at hcm ⊢; omega) (Lib.hid fun x W => out_any x W)).mono ?_; rintro e w' ⟨rfl, rfl⟩)
                go_quiet (fail)
                go_wp2
                go_roundw
                case rel => exact ⟨k + 1, by omega, by go_num, by rw [HLS.out], Lib.hid (all_step hok.out HF.out), Lib.hid (by rw [HLS.out]; omega), below_drewN hB _, hbx⟩
                case measure => simp [intOf]; omega
              · obtain rfl : k = E.sh.length := by omega
                have HC := Lib.hid (HG.out hok.out)
                go_wp2
                go_ret
                exact ⟨ret_int HC.out.symm, hB⟩
end Go.Proofs.Ytedgdmblpjfaiaa
