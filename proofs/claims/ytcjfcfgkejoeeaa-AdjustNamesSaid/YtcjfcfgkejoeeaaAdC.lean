/- Great, Check, All, Valid, Complete of the reference of goods; Check of adjust and of its reference: walked. -/
import Derived.Test.YtcjfcfgkejoeeaaAdB
namespace Go.Proofs.Ytcjfcfgkejoeeaa
open Go.RowKit
set_option linter.unusedVariables false
set_option linter.unusedSimpArgs false

theorem add_zero_ (a : Addr) : a.add 0 = a := rfl
theorem GIn.at0 {B : Nat} {w : World} {A : Option Addr} {c : Nat} {bs : List (List Int)} (h : GIn B w A c bs) (h0 : 0 < bs.length) : ∃ (ad : Addr) (R : Option Addr) (d : Nat), A = some ad ∧ ad.block < B ∧ w.cell? ad = some (.slice R (gr bs 0).length d) ∧ (gr bs 0).length ≤ d ∧ d ≤ maxLen ∧ Ints B w R (gr bs 0) := h.rows.at_ h0

set_option maxHeartbeats 1000000 in
theorem great_any (bs : List (List Int)) (A : Option Addr) (c : Nat) (O : Option Addr) (oc : Nat) (xs : List Int) (w : World) (h : GIn w.heap.size w A c bs) (hm : xs.length ≤ maxLen) :
    Calls Try.prog 9 #[gV A c bs, .slice O xs.length oc] w fun e w' => e = .returned (.bool (decide (Great bs xs))) ∧ Below w.heap.size w w' := by
  have HB := Lib.hid (h.next (one_alloc w (gB A c bs)))
  have hl := h.len
  have hc := h.cap
  unfold maxLen at hc hm
  clear h
  go_enter Try.func9, Try.ntmps9
  go_wp2
  go_loop [5] (fun i => ∃ k : Nat, k ≤ bs.length ∧ k ≤ 20 ∧ i = .int .i64 k ∧ Hid (∀ j, j < k → (gr bs j).length ≤ 50)) (fun i => bs.length - (intOf i).toNat)
  case atStart => exact ⟨0, Nat.zero_le _, by omega, rfl, Lib.hid fun j hj => by omega⟩
  case round =>
    obtain ⟨k, hk, hk20, rfl, hno⟩ := hrel
    by_cases hlt : k < bs.length
    · by_cases h20 : (k : Int) < 20
      · obtain ⟨ad, R, d, rfl, hb, hcl, hrl, hrm, _⟩ := HB.out.rows.at_ hlt
        by_cases h50 : (50 : Int) < ((gr bs k).length : Int)
        · have HG := Lib.hid (show Great bs xs from Or.inl ⟨k, hlt, by omega, by omega⟩)
          clear hno
          go_wp2
          go_ret
          exact ⟨ret_bool (decide_eq_true HG.out).symm, one_alloc _ _⟩
        · have HN := Lib.hid (all_step (P := fun j => (gr bs j).length ≤ 50) hno.out (by omega))
          have g50 : decide ((50 : Int) < ((gr bs k).length : Int)) = false := by simpa using h50
          clear hno h50
          go_wp2
          go_round
          case rel => exact ⟨k + 1, by omega, by omega, by go_num, HN⟩
          case measure => simp [intOf]; omega
      · obtain rfl : k = 20 := by omega
        by_cases hl20 : (20 : Int) < (bs.length : Int)
        · have HG := Lib.hid (show Great bs xs from Or.inr (Or.inl (by omega)))
          clear hno h20
          go_wp2
          go_ret
          exact ⟨ret_bool (decide_eq_true HG.out).symm, one_alloc _ _⟩
        · exact absurd hlt (by omega)
    · obtain rfl : k = bs.length := by omega
      by_cases hl20 : (20 : Int) < (bs.length : Int)
      · omega
      · have g20 : decide ((20 : Int) < (bs.length : Int)) = false := by simpa using hl20
        by_cases hx : (50 : Int) < (xs.length : Int)
        · have HG := Lib.hid (show Great bs xs from Or.inr (Or.inr (by omega)))
          clear hno hl20
          go_wp2
          go_ret
          exact ⟨ret_bool (by rw [decide_eq_true HG.out]), one_alloc _ _⟩
        · have HG := Lib.hid (show ¬ Great bs xs from by
            rintro (⟨i, h1, _, h3⟩ | h | h)
            · have := hno.out i h1; omega
            · omega
            · omega)
          clear hno hl20
          go_wp2
          go_ret
          exact ⟨ret_bool (by rw [decide_eq_false HG.out]), one_alloc _ _⟩

set_option maxRecDepth 100000 in
set_option maxHeartbeats 4000000 in
theorem fgcheck_any (bs : List (List Int)) (A : Option Addr) (c : Nat) (w : World) (h : GIn w.heap.size w A c bs) :
    Calls Try.prog 29 #[gV A c bs] w fun e w' => e = .returned (.int .i64 (gdCode bs)) ∧ Below w.heap.size w w' := by
  have HB := Lib.hid (h.next (one_alloc w (gB A c bs)))
  have hl := h.len
  have hc := h.cap
  unfold maxLen at hc
  clear h
  by_cases h6 : (6 : Int) < (bs.length : Int)
  · have HC := Lib.hid (gd_many1 (bs := bs) (by omega))
    go_enter Try.func29, Try.ntmps29
    go_wp2
    go_ret
    exact ⟨ret_int HC.out.symm, one_alloc _ _⟩
  have g6 : decide ((6 : Int) < (bs.length : Int)) = false := by simpa using h6
  have h6' : bs.length ≤ 6 := by omega
  clear h6
  have hg0 : (w.alloc (gB A c bs)).heap[w.heap.size]? = some (gB A c bs) := heap_new rfl
  have HBel := Lib.hid (one_alloc w (gB A c bs))
  go_enter Try.func29, Try.ntmps29
  go_wp2
  go_loop [4] (fun i => ∃ k : Nat, k ≤ bs.length ∧ i = .int .i64 k ∧ Hid (∀ j, j < k → (gr bs j).length ≤ 10)) (fun i => bs.length - (intOf i).toNat)
  case atStart => exact ⟨0, Nat.zero_le _, rfl, Lib.hid fun j hj => by omega⟩
  case round =>
    obtain ⟨k, hk, rfl, hno⟩ := hrel
    by_cases hlt : k < bs.length
    · obtain ⟨ad, R, d, rfl, hb, hcl, hrl, hrm, _⟩ := HB.out.rows.at_ hlt
      by_cases h10 : (10 : Int) < ((gr bs k).length : Int)
      · have HC := Lib.hid (gd_many2 hlt (by omega))
        clear hno
        go_wp2
        go_ret
        exact ⟨ret_int HC.out.symm, one_alloc _ _⟩
      · have HN := Lib.hid (all_step (P := fun j => (gr bs j).length ≤ 10) hno.out (by omega))
        have g10 : decide ((10 : Int) < ((gr bs k).length : Int)) = false := by simpa using h10
        clear hno h10
        go_wp2
        go_round
        case rel => exact ⟨k + 1, by omega, by go_num, HN⟩
        case measure => simp [intOf]; omega
    obtain rfl : k = bs.length := by omega
    have HNM := Lib.hid (not_many h6' hno.out)
    have HT := Lib.hid hno.out
    have HX := Lib.hid (fun i hi hb => gd_bad HNM.out (i := i) hi hb)
    have HG := Lib.hid (fun h0 hg => gd_good HNM.out h0 hg)
    clear hno hlt hk
    go_wp2_with fail
    go_loopw [5] (fun i wr => ∃ k : Nat, k ≤ bs.length ∧ i = .int .i64 k ∧ Hid (∀ j, j < k → RowOk bs j) ∧ Below w.heap.size w wr ∧ GIn wr.heap.size wr A c bs ∧ wr.heap[w.heap.size]? = some (gB A c bs)) (fun i _ => bs.length - (intOf i).toNat)
    case atStart => exact ⟨0, Nat.zero_le _, rfl, Lib.hid fun j hj => by omega, HBel.out, HB.out, hg0⟩
    case round =>
      obtain ⟨k, hk, rfl, hok, hBr, hGr, hgr⟩ := hrel
      have cg := fun j => cell_of_row _ _ j _ _ _ hgr
      have zg := lt_some hgr
      by_cases hlt : k < bs.length
      · obtain ⟨bd, R, d, rfl, hb', hc', hrl, hrm, hri⟩ := hGr.rows.at_ hlt
        obtain ⟨bd', R0, d0, hbd, hb0, hc0, _, _, _⟩ := hGr.at0 (show 0 < bs.length by omega)
        obtain rfl : bd = bd' := by simpa using hbd
        clear hbd hb0
        have i0 : (0 : Int) < (bs.length : Int) := by omega
        have i1 : (k : Int) < (bs.length : Int) := by omega
        have i2 : (0 : Int) ≤ (k : Int) := by omega
        unfold maxLen at hrm
        have HGr := Lib.hid hGr
        have HRI := Lib.hid hri
        have HBr := Lib.hid hBr
        clear hGr hri hBr
        by_cases hl : ((gr bs k).length : Int) = ((gr bs 0).length : Int)
        rotate_left
        · have HC := Lib.hid (HX.out k hlt (row_len (by omega)))
          have g1 : (((gr bs k).length : Int) != ((gr bs 0).length : Int)) = true := by simpa using hl
          clear hl hok
          go_wp2_with fail
          go_quiet (fail)
          go_wp2_with fail
          go_ret
          exact ⟨ret_int HC.out.symm, below_drewN HBr.out _⟩
        have g1 : (((gr bs k).length : Int) != ((gr bs 0).length : Int)) = false := by simpa using hl
        have HL := Lib.hid hl
        clear hl
        go_wp2_with fail
        go_quiet (fail)
        go_wp2_with fail
        go_loop [6] (fun i => ∃ m : Nat, m ≤ (gr bs k).length ∧ i = .int .i64 m ∧ Hid (∀ j, j < m → 0 ≤ gi (gr bs k) j ∧ gi (gr bs k) j ≤ 1000)) (fun i => (gr bs k).length - (intOf i).toNat)
        case atStart => exact ⟨0, Nat.zero_le _, rfl, Lib.hid fun j hj => by omega⟩
        case round =>
          obtain ⟨m, hmk, rfl, hin⟩ := hrel
          by_cases hlm : m < (gr bs k).length
          · obtain ⟨rd, rfl, hrb, hrc⟩ := HRI.out.at_ hlm
            by_cases h1 : gi (gr bs k) m < 0
            · have HC := Lib.hid (HX.out k hlt (row_out hlm (by omega)))
              have q : decide (gi (gr bs k) m < 0) = true := by simpa using h1
              clear hok hin h1
              go_wp2_with fail
              go_ret
              exact ⟨ret_int HC.out.symm, below_drewN HBr.out _⟩
            · have q : decide (gi (gr bs k) m < 0) = false := by simpa using h1
              by_cases h2 : 1000 < gi (gr bs k) m
              · have HC := Lib.hid (HX.out k hlt (row_out hlm (by omega)))
                have q2 : decide (1000 < gi (gr bs k) m) = true := by simpa using h2
                clear hok hin h1 h2
                go_wp2_with fail
                go_ret
                exact ⟨ret_int HC.out.symm, below_drewN HBr.out _⟩
              · have HI := Lib.hid (all_step (P := fun j => 0 ≤ gi (gr bs k) j ∧ gi (gr bs k) j ≤ 1000) hin.out (by omega))
                have q2 : decide (1000 < gi (gr bs k) m) = false := by simpa using h2
                clear hin h1 h2
                go_wp2_with fail
                go_round
                case rel => exact ⟨m + 1, by omega, by go_num, HI⟩
                case measure => simp [intOf]; omega
          · obtain rfl : m = (gr bs k).length := by omega
            have HS := Lib.hid (all_step hok.out (row_ok (bs := bs) (by have := HL.out; omega) hin.out))
            clear hok hin
            go_wp2_with fail
            go_roundw
            case rel => exact ⟨k + 1, by omega, by go_num, HS, below_drewN HBr.out _, HGr.out.drewN _, hgr⟩
            case measure => simp [intOf]; omega
      · obtain rfl : k = bs.length := by omega
        by_cases h0 : (bs.length : Int) < 1
        · have HC := Lib.hid (gd_none HNM.out (by omega))
          clear hok
          go_wp2_with fail
          go_ret
          exact ⟨ret_int HC.out.symm, hBr⟩
        · have HC := Lib.hid (HG.out (by omega) hok.out)
          have g0 : decide ((bs.length : Int) < 1) = false := by simpa using h0
          clear hok h0
          go_wp2_with fail
          go_ret
          exact ⟨ret_int HC.out.symm, hBr⟩

/-- The sum of a row of goods in order. -/
theorem all_any (bs : List (List Int)) (A : Option Addr) (c : Nat) (i : Nat) (w : World) (h : GIn w.heap.size w A c bs) (hi : i < bs.length) (hr : RowOk bs i) (h10 : (gr bs i).length ≤ 10) :
    Calls Try.prog 27 #[gV A c bs, .int .i64 i] w fun e w' => e = .returned (.int .i64 (tot (gr bs i))) ∧ Below w.heap.size w w' := by
  have HS := Lib.hid (sum_bd hr.2 h10)
  have HE := Lib.hid hr.2
  have HB := Lib.hid (h.next (one_alloc w (gB A c bs)))
  have hl := h.len
  have hc := h.cap
  unfold maxLen at hc
  obtain ⟨ad, R, d, rfl, hb, hcl, hrl, hrm, hri⟩ := HB.out.rows.at_ hi
  have HRI := Lib.hid hri
  clear h hr hri
  go_enter Try.func27, Try.ntmps27
  go_wp2
  go_loop [5, 6] (fun s i_ => ∃ k : Nat, k ≤ (gr bs i).length ∧ i_ = .int .i64 k ∧ s = .int .i64 (sumTo (gi (gr bs i)) k)) (fun _ i_ => (gr bs i).length - (intOf i_).toNat)
  case atStart => exact ⟨0, Nat.zero_le _, rfl, rfl⟩
  case round =>
    obtain ⟨k, hk, rfl, rfl⟩ := hrel
    by_cases hlt : k < (gr bs i).length
    · obtain ⟨rd, rfl, hrb, hrc⟩ := HRI.out.at_ hlt
      have h1 := HS.out k hk
      have h2 := HE.out k hlt
      have h11 := h1.1; have h12 := h1.2; have h21 := h2.1; have h22 := h2.2
      clear h1 h2
      go_wp2
      go_round
      case rel => exact ⟨k + 1, by omega, by go_num, rfl⟩
      case measure => simp [intOf]; omega
    · obtain rfl : k = (gr bs i).length := by omega
      go_wp2
      go_ret
      exact ⟨rfl, one_alloc _ _⟩
set_option maxHeartbeats 1000000 in
theorem complete_any (A : Option Addr) (c : Nat) (xs : List Int) (w : World) (hx : Ints w.heap.size w A xs) (hm : xs.length ≤ maxLen) :
    Calls Try.prog 35 #[.slice A xs.length c] w fun e w' => e = .returned (.bool (decide (∀ k, k < xs.length → 0 ≤ gi xs k))) ∧ w = w' := by
  unfold maxLen at hm
  go_enter Try.func35, Try.ntmps35
  go_wp2
  go_loop [3] (fun i => ∃ k : Nat, k ≤ xs.length ∧ i = .int .i64 k ∧ Hid (∀ j, j < k → 0 ≤ gi xs j)) (fun i => xs.length - (intOf i).toNat)
  case atStart => exact ⟨0, Nat.zero_le _, rfl, Lib.hid fun j hj => by omega⟩
  case round =>
    obtain ⟨k, hk, rfl, hno⟩ := hrel
    by_cases hlt : k < xs.length
    · obtain ⟨ad, rfl, hb, hc⟩ := hx.at_ hlt
      by_cases h1 : gi xs k < 0
      · have HD := Lib.hid (decide_eq_false (p := ∀ k, k < xs.length → 0 ≤ gi xs k) (fun h => by have := h k hlt; omega))
        clear hno
        go_wp2
        go_ret
        exact ⟨ret_bool HD.out.symm, rfl⟩
      · have HS := Lib.hid (all_step (P := fun j => 0 ≤ gi xs j) hno.out (by omega))
        have q : decide (gi xs k < 0) = false := by simpa using h1
        clear hno h1
        go_wp2
        go_round
        case rel => exact ⟨k + 1, by omega, by go_num, HS⟩
        case measure => simp [intOf]; omega
    · obtain rfl : k = xs.length := by omega
      have HD := Lib.hid (decide_eq_true (p := ∀ k, k < xs.length → 0 ≤ gi xs k) hno.out)
      clear hno
      go_wp2
      go_ret
      exact ⟨ret_bool HD.out.symm, rfl⟩
end Go.Proofs.Ytcjfcfgkejoeeaa
