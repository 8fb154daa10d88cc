/- The library's functions that estate calls: IndexFunc, ContainsFunc, Compare; and its small readers. -/
import Derived.Test.YtedgdmblpjfaiaaOpen
import Derived.Outline
namespace Go.Proofs.Ytedgdmblpjfaiaa
open Go.RowKit
set_option linter.unusedVariables false
set_option linter.unusedSimpArgs false

def AnyAt (b : Bool) (w : World) (e : Ending) (w' : World) : Prop := ∃ r : Int, e = .returned (.int .i64 r) ∧ decide (0 ≤ r) = b ∧ w = w'

section
variable {α : Type} {g : Nat → α} {p : α → Bool} {k : Nat}
theorem any_step (h : ∀ j, j < k → p (g j) = false) (hk : p (g k) = false) : ∀ j, j < k + 1 → p (g j) = false := by
  intro j hj
  by_cases e : j = k
  · subst e; exact hk
  · exact h j (by omega)
end
theorem any_none {p : Int → Bool} {xs : List Int} (h : ∀ j, j < xs.length → p (gi xs j) = false) : xs.any p = false := by
  rw [List.any_eq_false]
  intro x hx
  obtain ⟨i, hi, rfl⟩ := mem_gi hx
  simpa using h i hi
theorem any_some {p : Int → Bool} {xs : List Int} {k : Nat} (hk : k < xs.length) (h : p (gi xs k) = true) : xs.any p = true := by
  rw [List.any_eq_true]
  exact ⟨_, gi_mem hk, h⟩
theorem anyr_none {p : Nat → Bool} {bs : List (List Int)} (h : ∀ j, j < bs.length → p (gr bs j).length = false) : (bs.any fun r => p r.length) = false := by
  rw [List.any_eq_false]
  intro x hx
  obtain ⟨i, hi, rfl⟩ := mem_gr hx
  simpa using h i hi
theorem anyr_some {p : Nat → Bool} {bs : List (List Int)} {k : Nat} (hk : k < bs.length) (h : p (gr bs k).length = true) : (bs.any fun r => p r.length) = true := by
  rw [List.any_eq_true]
  exact ⟨_, gr_mem hk, h⟩

set_option maxHeartbeats 1000000 in
theorem index_any43 (p : Int → Bool) (A : Option Addr) (c : Nat) (xs : List Int) (w : World) (hx : Ints w.heap.size w A xs) (hm : xs.length ≤ maxLen)
    (HK : Hid (∀ (x : Int) (W : World), Calls Try.prog 43 #[.int .i64 x] W fun e w' => e = .returned (.bool (p x)) ∧ W = w')) :
    Calls Try.prog 44 #[.slice A xs.length c, .func (.func 43) #[] #[]] w (AnyAt (xs.any p) w) := by
  unfold maxLen at hm
  go_enter Try.func44, Try.ntmps44
  go_wp2
  go_loop [8] (fun i => ∃ k : Nat, k ≤ xs.length ∧ i = .int .i64 k ∧ Hid (∀ j, j < k → p (gi xs j) = false)) (fun i => xs.length - (intOf i).toNat)
  case atStart => exact ⟨0, Nat.zero_le _, rfl, fun j hj => by omega⟩
  case round =>
    obtain ⟨k, hk, rfl, hno⟩ := hrel
    by_cases hlt : k < xs.length
    · obtain ⟨ad, rfl, hb, hc⟩ := hx.at_ hlt
      go_wp2_with (go_at_call 43; refine (HK.out _ _).mono ?_; rintro e w' ⟨rfl, rfl⟩)
      · go_ret
        exact ⟨k, rfl, by rw [any_some hlt ‹_›]; simp, rfl⟩
      · go_round
        case rel => exact ⟨k + 1, by omega, by go_num, any_step hno ‹_›⟩
        case measure => simp [intOf]; omega
    · obtain rfl : k = xs.length := by omega
      go_wp2
      go_ret
      exact ⟨-1, rfl, by rw [any_none hno]; rfl, rfl⟩

theorem contains_any43 (p : Int → Bool) (A : Option Addr) (c : Nat) (xs : List Int) (w : World) (hx : Ints w.heap.size w A xs) (hm : xs.length ≤ maxLen)
    (HK : Hid (∀ (x : Int) (W : World), Calls Try.prog 43 #[.int .i64 x] W fun e w' => e = .returned (.bool (p x)) ∧ W = w')) :
    Calls Try.prog 32 #[.slice A xs.length c, .func (.func 43) #[] #[]] w fun e w' => e = .returned (.bool (xs.any p)) ∧ w = w' := by
  have HI := Lib.hid (index_any43 p A c xs w hx hm HK)
  clear hx HK
  go_enter Try.func32, Try.ntmps32
  go_wp2_with (go_at_call 44; refine HI.out.mono ?_; rintro e w' ⟨r, rfl, hr, rfl⟩)
  go_ret
  exact ⟨rfl, rfl⟩

set_option maxHeartbeats 1000000 in
theorem index_any33 (p : Int → Bool) (A : Option Addr) (c : Nat) (xs : List Int) (w : World) (hx : Ints w.heap.size w A xs) (hm : xs.length ≤ maxLen)
    (HK : Hid (∀ (x : Int) (W : World), Calls Try.prog 33 #[.int .i64 x] W fun e w' => e = .returned (.bool (p x)) ∧ W = w')) :
    Calls Try.prog 44 #[.slice A xs.length c, .func (.func 33) #[] #[]] w (AnyAt (xs.any p) w) := by
  unfold maxLen at hm
  go_enter Try.func44, Try.ntmps44
  go_wp2
  go_loop [8] (fun i => ∃ k : Nat, k ≤ xs.length ∧ i = .int .i64 k ∧ Hid (∀ j, j < k → p (gi xs j) = false)) (fun i => xs.length - (intOf i).toNat)
  case atStart => exact ⟨0, Nat.zero_le _, rfl, fun j hj => by omega⟩
  case round =>
    obtain ⟨k, hk, rfl, hno⟩ := hrel
    by_cases hlt : k < xs.length
    · obtain ⟨ad, rfl, hb, hc⟩ := hx.at_ hlt
      go_wp2_with (go_at_call 33; refine (HK.out _ _).mono ?_; rintro e w' ⟨rfl, rfl⟩)
      · go_ret
        exact ⟨k, rfl, by rw [any_some hlt ‹_›]; simp, rfl⟩
      · go_round
        case rel => exact ⟨k + 1, by omega, by go_num, any_step hno ‹_›⟩
        case measure => simp [intOf]; omega
    · obtain rfl : k = xs.length := by omega
      go_wp2
      go_ret
      exact ⟨-1, rfl, by rw [any_none hno]; rfl, rfl⟩

theorem contains_any33 (p : Int → Bool) (A : Option Addr) (c : Nat) (xs : List Int) (w : World) (hx : Ints w.heap.size w A xs) (hm : xs.length ≤ maxLen)
    (HK : Hid (∀ (x : Int) (W : World), Calls Try.prog 33 #[.int .i64 x] W fun e w' => e = .returned (.bool (p x)) ∧ W = w')) :
    Calls Try.prog 32 #[.slice A xs.length c, .func (.func 33) #[] #[]] w fun e w' => e = .returned (.bool (xs.any p)) ∧ w = w' := by
  have HI := Lib.hid (index_any33 p A c xs w hx hm HK)
  clear hx HK
  go_enter Try.func32, Try.ntmps32
  go_wp2_with (go_at_call 44; refine HI.out.mono ?_; rintro e w' ⟨r, rfl, hr, rfl⟩)
  go_ret
  exact ⟨rfl, rfl⟩

set_option maxHeartbeats 1000000 in
theorem indexr_any (p : Nat → Bool) (A : Option Addr) (c : Nat) (bs : List (List Int)) (w : World) (hx : IntRows w.heap.size w A bs) (hm : bs.length ≤ maxLen)
    (HK : Hid (∀ (R : Option Addr) (n c : Nat) (W : World), Calls Try.prog 42 #[.slice R n c] W fun e w' => e = .returned (.bool (p n)) ∧ W = w')) :
    Calls Try.prog 47 #[.slice A bs.length c, .func (.func 42) #[] #[]] w (AnyAt (bs.any fun r => p r.length) w) := by
  unfold maxLen at hm
  go_enter Try.func47, Try.ntmps47
  go_wp2
  go_loop [8] (fun i => ∃ k : Nat, k ≤ bs.length ∧ i = .int .i64 k ∧ Hid (∀ j, j < k → p (gr bs j).length = false)) (fun i => bs.length - (intOf i).toNat)
  case atStart => exact ⟨0, Nat.zero_le _, rfl, fun j hj => by omega⟩
  case round =>
    obtain ⟨k, hk, rfl, hno⟩ := hrel
    by_cases hlt : k < bs.length
    · obtain ⟨ad, R, c', rfl, hb, hc, _, _, _⟩ := hx.at_ hlt
      go_wp2_with (go_at_call 42; refine (HK.out _ _ _ _).mono ?_; rintro e w' ⟨rfl, rfl⟩)
      · go_ret
        exact ⟨k, rfl, by rw [anyr_some hlt ‹_›]; simp, rfl⟩
      · go_round
        case rel => exact ⟨k + 1, by omega, by go_num, any_step (g := fun j => (gr bs j).length) hno ‹_›⟩
        case measure => simp [intOf]; omega
    · obtain rfl : k = bs.length := by omega
      go_wp2
      go_ret
      exact ⟨-1, rfl, by rw [anyr_none hno]; rfl, rfl⟩

theorem containsr_any (p : Nat → Bool) (A : Option Addr) (c : Nat) (bs : List (List Int)) (w : World) (hx : IntRows w.heap.size w A bs) (hm : bs.length ≤ maxLen)
    (HK : Hid (∀ (R : Option Addr) (n c : Nat) (W : World), Calls Try.prog 42 #[.slice R n c] W fun e w' => e = .returned (.bool (p n)) ∧ W = w')) :
    Calls Try.prog 41 #[.slice A bs.length c, .func (.func 42) #[] #[]] w fun e w' => e = .returned (.bool (bs.any fun r => p r.length)) ∧ w = w' := by
  have HI := Lib.hid (indexr_any p A c bs w hx hm HK)
  clear hx HK
  go_enter Try.func41, Try.ntmps41
  go_wp2_with (go_at_call 47; refine HI.out.mono ?_; rintro e w' ⟨r, rfl, hr, rfl⟩)
  go_ret
  exact ⟨rfl, rfl⟩

theorem wide_any (R : Option Addr) (n c : Nat) (w : World) : Calls Try.prog 42 #[.slice R n c] w fun e w' => e = .returned (.bool (decide (30 < n))) ∧ w = w' := by
  go_enter Try.func42, Try.ntmps42
  go_wp2
  go_ret
  exact ⟨ret_bool (by rw [Bool.eq_iff_iff]; first | (simp; done) | (simp; omega)), rfl⟩
def farB (x : Int) : Bool := decide (x < -1000000000) || decide (1000000000 < x)
def outB (x : Int) : Bool := decide (x < 0) || decide (1000000 < x)
theorem outB_inb (x : Int) : outB x = !Est.inb x := by
  unfold outB Est.inb; rw [Bool.eq_iff_iff]; first | (simp; done) | (simp; omega)
theorem out_any (x : Int) (w : World) : Calls Try.prog 43 #[.int .i64 x] w fun e w' => e = .returned (.bool (outB x)) ∧ w = w' := by
  go_enter Try.func43, Try.ntmps43
  go_wp2
  all_goals (go_ret; exact ⟨ret_bool (by simp only [outB]; try grind), rfl⟩)
theorem far_any (x : Int) (w : World) : Calls Try.prog 33 #[.int .i64 x] w fun e w' => e = .returned (.bool (farB x)) ∧ w = w' := by
  go_enter Try.func33, Try.ntmps33
  go_wp2
  all_goals (go_ret; exact ⟨ret_bool (by simp only [farB]; try grind), rfl⟩)

set_option maxHeartbeats 1000000 in
theorem sum_any (A : Option Addr) (c : Nat) (xs : List Int) (w : World) (hx : Ints w.heap.size w A xs) (hm : xs.length ≤ maxLen)
    (hs : ∀ k, k ≤ xs.length → -4611686018427387904 ≤ sumTo (gi xs) k ∧ sumTo (gi xs) k ≤ 4611686018427387904) :
    Calls Try.prog 34 #[.slice A xs.length c] w fun e w' => e = .returned (.int .i64 (sumTo (gi xs) xs.length)) ∧ w = w' := by
  unfold maxLen at hm
  have HS := Lib.hid hs
  clear hs
  go_enter Try.func34, Try.ntmps34
  go_wp2
  go_loop [3, 8] (fun n i => ∃ k : Nat, k ≤ xs.length ∧ i = .int .i64 k ∧ n = .int .i64 (sumTo (gi xs) k)) (fun _ i => xs.length - (intOf i).toNat)
  case atStart => exact ⟨0, Nat.zero_le _, rfl, rfl⟩
  case round =>
    obtain ⟨k, hk, rfl, rfl⟩ := hrel
    by_cases hlt : k < xs.length
    · obtain ⟨ad, rfl, hb, hc⟩ := hx.at_ hlt
      obtain ⟨b1, b2⟩ := HS.out (k + 1) (by omega)
      rw [sumTo_succ] at b1 b2
      go_wp2
      go_round
      case rel => exact ⟨k + 1, by omega, by go_num, rfl⟩
      case measure => simp [intOf]; omega
    · obtain rfl : k = xs.length := by omega
      go_wp2
      go_ret
      exact ⟨rfl, rfl⟩

/-- Whether two lists are the same. -/
def sameL (a b : List Int) : Bool := decide (a = b)

set_option maxHeartbeats 1000000 in
theorem same_any (A B : Option Addr) (c d : Nat) (xs ys : List Int) (w : World) (hx : Ints w.heap.size w A xs) (hy : Ints w.heap.size w B ys) (hm : xs.length ≤ maxLen) (hm' : ys.length ≤ maxLen) :
    Calls Try.prog 25 #[.slice A xs.length c, .slice B ys.length d] w fun e w' => e = .returned (.bool (sameL xs ys)) ∧ Below w.heap.size w w' := by
  unfold maxLen at hm hm'
  by_cases hl : xs.length = ys.length
  · have hne : ((xs.length : Int) != (ys.length : Int)) = false := by simp [hl]
    have HL := Lib.hid hl
    clear hl
    go_enter Try.func25, Try.ntmps25
    go_wp2
    go_loopw [5] (fun i wr => ∃ k : Nat, k ≤ xs.length ∧ i = .int .i64 k ∧ Hid (∀ j, j < k → gi xs j = gi ys j) ∧ Below w.heap.size w wr) (fun i _ => xs.length - (intOf i).toNat)
    case atStart => exact ⟨0, Nat.zero_le _, rfl, fun j hj => by omega, Below.refl _ _⟩
    case round =>
      obtain ⟨k, hk, rfl, hno, hB⟩ := hrel
      by_cases hlt : k < xs.length
      · obtain ⟨ad, rfl, hb, hc⟩ := (hx.below hB).at_ hlt
        have hlt' : k < ys.length := by rw [← HL.out]; exact hlt
        obtain ⟨bd, rfl, hb', hc'⟩ := (hy.below hB).at_ hlt'
        by_cases hq : gi xs k = gi ys k
        · have hqb : (gi xs k != gi ys k) = false := by simp [hq]
          have HQ := Lib.hid hq
          clear hq
          go_wp2_with fail
          go_quiet (fail)
          go_wp2
          go_roundw
          case rel => exact ⟨k + 1, by omega, by go_num, Lib.hid (fun j hj => by
            by_cases e : j = k
            · subst e; exact HQ.out
            · exact hno.out j (by omega)), below_drewN hB _⟩
          case measure => simp [intOf]; omega
        · have hqb : (gi xs k != gi ys k) = true := by simp [hq]
          have HQ := Lib.hid hq
          clear hq
          go_wp2_with fail
          go_quiet (fail)
          go_wp2
          go_ret
          exact ⟨ret_bool (by simp only [sameL]; rw [Bool.false_eq, decide_eq_false_iff_not]; rintro rfl; exact HQ.out rfl), below_drewN hB _⟩
      · obtain rfl : k = xs.length := by omega
        go_wp2
        go_ret
        exact ⟨ret_bool (by simp only [sameL]; rw [Bool.true_eq, decide_eq_true_iff]; exact gi_ext HL.out hno.out), hB⟩
  · have hne : ((xs.length : Int) != (ys.length : Int)) = true := by simp; omega
    have HL := Lib.hid hl
    clear hl
    go_enter Try.func25, Try.ntmps25
    go_wp2
    go_ret
    exact ⟨ret_bool (by simp only [sameL]; rw [Bool.false_eq, decide_eq_false_iff_not]; rintro rfl; exact HL.out rfl), Below.refl _ _⟩

end Go.Proofs.Ytedgdmblpjfaiaa
