/- The reference's Check of an estate: it returns the code. -/
import Derived.Test.YtedgdmblpjfaiaaCheck
namespace Go.Proofs.Ytedgdmblpjfaiaa
open Go.RowKit
set_option linter.unusedVariables false
set_option linter.unusedSimpArgs false

theorem wide_at {E : Est} {k : Nat} (hk : k < E.bd.length) (h : 30 < (gr E.bd k).length) : E.wide = true := by
  unfold Est.wide; rw [List.any_eq_true]; exact ⟨_, gr_mem hk, by simpa using h⟩
theorem wide_no {E : Est} (h : ∀ k, k < E.bd.length → (gr E.bd k).length ≤ 30) : E.wide = false := by
  unfold Est.wide; rw [List.any_eq_false]
  intro x hx
  obtain ⟨k, hk, rfl⟩ := mem_gr hx
  have := h k hk
  simp; omega
theorem out_at {l : List Int} {k : Nat} (hk : k < l.length) (h : gi l k < 0 ∨ 1000000 < gi l k) : l.any outB = true :=
  any_some hk (by simp only [outB, Bool.or_eq_true, decide_eq_true_eq]; exact h)
theorem out_no {l : List Int} (h : ∀ k, k < l.length → 0 ≤ gi l k ∧ gi l k ≤ 1000000) : l.any outB = false :=
  any_none fun j hj => by have := h j hj; simp only [outB]; rw [Bool.or_eq_false_iff]; simp; omega

abbrev bxOf (A : Option Addr) (c : Nat) (R : Option Addr) (d : Nat) (E : Est) : Obj := .cells #[.slice A E.sh.length c, .slice R E.bd.length d] 25 (0, 0)

set_option maxRecDepth 100000 in
set_option maxHeartbeats 8000000 in
theorem check_ref (E : Est) (A : Option Addr) (c : Nat) (R : Option Addr) (d : Nat) (w : World) (h : EIn w.heap.size w A c R d E) :
    Calls Try.prog 24 #[eV A c R d E] w fun e w' => e = .returned (.int .i64 E.code) ∧ Below w.heap.size w w' := by
  obtain ⟨hs, hb, hsl, hsm, hbl, hbm⟩ := h
  unfold maxLen at hsm hbm
  unfold eV
  have HB := Lib.hid hb
  have HS := Lib.hid hs
  clear hb hs
  by_cases a1 : (10 : Int) < (E.sh.length : Int)
  · have HC := Lib.hid (code_many1 (E := E) (by omega))
    have g1 : decide ((10 : Int) < (E.sh.length : Int)) = true := by simpa using a1
    clear a1
    go_enter Try.func24, Try.ntmps24
    go_wp2
    go_ret
    exact ⟨ret_int HC.out.symm, one_alloc _ _⟩
  have g1 : decide ((10 : Int) < (E.sh.length : Int)) = false := by simpa using a1
  by_cases a2 : (10 : Int) < (E.bd.length : Int)
  · have HC := Lib.hid (code_many2 (E := E) (by omega))
    have g2 : decide ((10 : Int) < (E.bd.length : Int)) = true := by simpa using a2
    clear a1 a2
    go_enter Try.func24, Try.ntmps24
    go_wp2
    go_ret
    exact ⟨ret_int HC.out.symm, one_alloc _ _⟩
  have g2 : decide ((10 : Int) < (E.bd.length : Int)) = false := by simpa using a2
  have a1' : E.sh.length ≤ 10 := by omega
  have a2' : E.bd.length ≤ 10 := by omega
  clear a1 a2
  go_enter Try.func24, Try.ntmps24
  go_wp2_with fail
  go_loopw [3] (fun i wr => ∃ k : Nat, k ≤ E.bd.length ∧ i = .int .i64 k ∧ Hid (∀ j, j < k → (gr E.bd j).length ≤ 30) ∧ Below w.heap.size w wr ∧ wr.heap[w.heap.size]? = some (bxOf A c R d E)) (fun i _ => E.bd.length - (intOf i).toNat)
  case atStart => exact ⟨0, Nat.zero_le _, rfl, Lib.hid (fun j hj => by omega), one_alloc _ _, heap_new rfl⟩
  case round =>
    obtain ⟨k, hk, rfl, hok, hB, hbx⟩ := hrel
    have cbx := fun j => cell_of_row wr _ j _ _ _ hbx
    by_cases hlt : k < E.bd.length
    · obtain ⟨bd, Rk, ck, rfl, hb', hc', hcl, hcm, hrk⟩ := (HB.out.below hB).at_ hlt
      by_cases q : (30 : Int) < ((gr E.bd k).length : Int)
      · have HC := Lib.hid (code_many3 (wide_at hlt (by omega)))
        have q1 : decide ((30 : Int) < ((gr E.bd k).length : Int)) = true := by simpa using q
        clear q
        go_wp2_with fail
        go_ret
        exact ⟨ret_int HC.out.symm, hB⟩
      · have q1 : decide ((30 : Int) < ((gr E.bd k).length : Int)) = false := by simpa using q
        have HF := Lib.hid (show (gr E.bd k).length ≤ 30 by omega)
        clear q
        go_wp2_with fail
        go_roundw
        case rel => exact ⟨k + 1, by omega, by go_num, Lib.hid (all_step hok.out HF.out), hB, hbx⟩
        case measure => simp [intOf]; omega
    obtain rfl : k = E.bd.length := by omega
    have hw' := wide_no hok.out
    by_cases hs0 : (E.sh.length : Int) = 0
    · have HC := Lib.hid (code_bad (by omega) (by omega) hw' (Or.inl (by omega)))
      have h0 : ((E.sh.length : Int) == 0) = true := by simpa using hs0
      clear hs0 hw'
      go_wp2_with fail
      go_ret
      exact ⟨ret_int HC.out.symm, hB⟩
    have h0 : ((E.sh.length : Int) == 0) = false := by simpa using hs0
    by_cases hbs : (E.bd.length : Int) = (E.sh.length : Int)
    rotate_left
    · have HC := Lib.hid (code_bad (by omega) (by omega) hw' (Or.inr (by omega)))
      have h1 : ((E.bd.length : Int) != (E.sh.length : Int)) = true := by simpa using hbs
      clear hbs hw'
      go_wp2_with fail
      go_ret
      exact ⟨ret_int HC.out.symm, hB⟩
    have h1 : ((E.bd.length : Int) != (E.sh.length : Int)) = false := by simpa using hbs
    have HG := Lib.hid (fun hg => code_good (E := E) (by omega) (by omega) hw' (by omega) hg)
    have HA := Lib.hid (fun i hi hn => code_at (E := E) (by omega) (by omega) hw' (by omega) (i := i) hi hn)
    have hbs' : E.bd.length = E.sh.length := by omega
    have HL := Lib.hid hbs'
    clear hbs hbs' hs0 hw' hok
    obtain ⟨wo, rfl⟩ : ∃ wo : World, wo = wr := ⟨_, rfl⟩
    go_wp2_with fail
    go_loopw [4, 5, 6] (fun l i _ wr => ∃ k : Nat, k ≤ E.sh.length ∧ i = .int .i64 k ∧ l = .int .i64 (E.left k) ∧ Hid (∀ j, j < k → E.okAt j = true) ∧ Hid ((k : Int) ≤ 1000 - E.left k ∧ 0 ≤ E.left k) ∧ Below w.heap.size w wr ∧ wr.heap[w.heap.size]? = some (bxOf A c R d E)) (fun _ i _ _ => E.sh.length - (intOf i).toNat)
    case atStart => exact ⟨0, Nat.zero_le _, rfl, rfl, Lib.hid (fun j hj => by omega), Lib.hid (by simp [Est.left, sumTo]), hB, hbx⟩
    case round =>
      clear hB hbx cbx
      obtain ⟨k, hk, rfl, rfl, hok, hlf, hB, hbx⟩ := hrel
      have cbx := fun j => cell_of_row wr _ j _ _ _ hbx
      by_cases hlt : k < E.sh.length
      · obtain ⟨ad, rfl, hb, hc⟩ := (HS.out.below hB).at_ hlt
        have hlt' : k < E.bd.length := by rw [HL.out]; exact hlt
        obtain ⟨bd, Rk, ck, rfl, hb', hc', hcl, hcm, hrk⟩ := (HB.out.below hB).at_ hlt'
        obtain ⟨bd', R0, c0, hbd, hb0, hc0, _, _, _⟩ := (HB.out.below hB).at_ (show 0 < E.bd.length by omega)
        obtain rfl : bd = bd' := by simpa using hbd
        have hc0' : wr.cell? bd = some (.slice R0 (gr E.bd 0).length c0) := by simpa [Addr.add] using hc0
        have i1 : (k : Int) < (E.bd.length : Int) := by omega
        have i3 : (k : Int) < (E.sh.length : Int) := by omega
        have i2 : (0 : Int) < (E.bd.length : Int) := by omega
        have hlk := hlf.out
        have HCk := Lib.hid (HA.out k hlt)
        clear hbd hb0
        by_cases q1 : gi E.sh k < 1
        · have p1 : decide (gi E.sh k < 1) = true := by simpa using q1
          have HF := Lib.hid (HCk.out (okAt_s1 q1))
          clear q1
          go_wp2_with fail
          go_quiet (fail)
          go_wp2
          go_ret
          exact ⟨ret_int HF.out.symm, below_drewN hB _⟩
        have p1 : decide (gi E.sh k < 1) = false := by simpa using q1
        by_cases q2 : E.left k < gi E.sh k
        · have p2 : decide (E.left k < gi E.sh k) = true := by simpa using q2
          have HF := Lib.hid (HCk.out (okAt_s2 q2))
          clear q2
          go_wp2_with fail
          go_quiet (fail)
          go_wp2
          go_ret
          exact ⟨ret_int HF.out.symm, below_drewN hB _⟩
        have p2 : decide (E.left k < gi E.sh k) = false := by simpa using q2
        by_cases q3 : ((gr E.bd k).length : Int) = ((gr E.bd 0).length : Int)
        rotate_left
        · have p3 : (((gr E.bd k).length : Int) != ((gr E.bd 0).length : Int)) = true := by simpa using q3
          have HF := Lib.hid (HCk.out (okAt_len (by simp only [Est.row]; omega)))
          clear q3
          go_wp2_with fail
          go_quiet (fail)
          go_wp2
          go_ret
          exact ⟨ret_int HF.out.symm, below_drewN hB _⟩
        have p3 : (((gr E.bd k).length : Int) != ((gr E.bd 0).length : Int)) = false := by simpa using q3
        have HO := Lib.hid (fun h => HCk.out (okAt_out h))
        have HY := Lib.hid (fun h4 => okAt_yes (E := E) (i := k) (by simp only [Est.share]; omega) (by simp only [Est.share]; omega) (by simp only [Est.row]; omega) h4)
        have hls : E.left (k + 1) = E.left k - gi E.sh k := left_succ E k
        have HLS := Lib.hid hls
        have s1 : IntKind.i64.wrap (E.left k - gi E.sh k) = E.left k - gi E.sh k := IntWalk.i64_in _ (by omega)
        unfold maxLen at hcm
        clear q3 hls
        go_wp2_with fail
        go_quiet (fail)
        go_wp2_with fail
        go_loop [6] (fun j => ∃ m : Nat, m ≤ (gr E.bd k).length ∧ j = .int .i64 m ∧ Hid (∀ j, j < m → 0 ≤ gi (gr E.bd k) j ∧ gi (gr E.bd k) j ≤ 1000000)) (fun j => (gr E.bd k).length - (intOf j).toNat)
        case atStart => exact ⟨0, Nat.zero_le _, rfl, Lib.hid (fun j hj => by omega)⟩
        case round =>
          obtain ⟨m, hm, rfl, hin⟩ := hrel
          by_cases hmt : m < (gr E.bd k).length
          · obtain ⟨rd, rfl, hbr, hcr⟩ := hrk.at_ hmt
            by_cases u1 : gi (gr E.bd k) m < 0
            · have v1 : decide (gi (gr E.bd k) m < 0) = true := by simpa using u1
              have HF := Lib.hid (HO.out (out_at hmt (Or.inl u1)))
              clear u1
              go_wp2
              go_ret
              exact ⟨ret_int HF.out.symm, below_drewN hB _⟩
            have v1 : decide (gi (gr E.bd k) m < 0) = false := by simpa using u1
            by_cases u2 : 1000000 < gi (gr E.bd k) m
            · have v2 : decide (1000000 < gi (gr E.bd k) m) = true := by simpa using u2
              have HF := Lib.hid (HO.out (out_at hmt (Or.inr u2)))
              clear u2
              go_wp2
              go_ret
              exact ⟨ret_int HF.out.symm, below_drewN hB _⟩
            have v2 : decide (1000000 < gi (gr E.bd k) m) = false := by simpa using u2
            have HF := Lib.hid (show 0 ≤ gi (gr E.bd k) m ∧ gi (gr E.bd k) m ≤ 1000000 by omega)
            clear u1 u2
            go_wp2
            go_round
            case rel => exact ⟨m + 1, by omega, by go_num, Lib.hid (all_step hin.out HF.out)⟩
            case measure => simp [intOf]; omega
          · obtain rfl : m = (gr E.bd k).length := by omega
            have HF := Lib.hid (HY.out (out_no hin.out))
            go_wp2
            go_roundw
            case rel => exact ⟨k + 1, by omega, by go_num, by rw [HLS.out], Lib.hid (all_step hok.out HF.out), Lib.hid (by rw [HLS.out]; omega), below_drewN hB _, hbx⟩
            case measure => simp [intOf]; omega
      · obtain rfl : k = E.sh.length := by omega
        have HC := Lib.hid (HG.out hok.out)
        go_wp2
        go_ret
        exact ⟨ret_int HC.out.symm, hB⟩
end Go.Proofs.Ytedgdmblpjfaiaa
