/- The library's functions that goods calls: IndexFunc, ContainsFunc, Index, Contains; total, Great, All, Complete, Worth. -/
import Derived.Test.YtcjfcfgkejoeeaaAdO
import Derived.BigGuardPart
namespace Go.Proofs.Ytcjfcfgkejoeeaa
open Go.RowKit
set_option linter.unusedVariables false
set_option linter.unusedSimpArgs false

def AnyAt (b : Bool) (w : World) (e : Ending) (w' : World) : Prop := ∃ r : Int, e = .returned (.int .i64 r) ∧ decide (0 ≤ r) = b ∧ w = w'

section
variable {α : Type} {g : Nat → α} {p : α → Bool} {k : Nat}
theorem any_step (h : ∀ j, j < k → p (g j) = false) (hk : p (g k) = false) : ∀ j, j < k + 1 → p (g j) = false := by
  intro j hj
  by_cases e : j = k
  · subst e; exact hk
  · exact h j (by omega)
end
theorem any_none {p : Int → Bool} {xs : List Int} (h : ∀ j, j < xs.length → p (gi xs j) = false) : xs.any p = false := by
  rw [List.any_eq_false]
  intro x hx
  obtain ⟨i, hi, rfl⟩ := mem_gi hx
  simpa using h i hi
theorem any_some {p : Int → Bool} {xs : List Int} {k : Nat} (hk : k < xs.length) (h : p (gi xs k) = true) : xs.any p = true := by
  rw [List.any_eq_true]
  exact ⟨_, gi_mem hk, h⟩
theorem anyr_none {p : Nat → Bool} {bs : List (List Int)} (h : ∀ j, j < bs.length → p (gr bs j).length = false) : (bs.any fun r => p r.length) = false := by
  rw [List.any_eq_false]
  intro x hx
  obtain ⟨i, hi, rfl⟩ := mem_gr hx
  simpa using h i hi
theorem anyr_some {p : Nat → Bool} {bs : List (List Int)} {k : Nat} (hk : k < bs.length) (h : p (gr bs k).length = true) : (bs.any fun r => p r.length) = true := by
  rw [List.any_eq_true]
  exact ⟨_, gr_mem hk, h⟩

set_option maxHeartbeats 1000000 in
theorem index_odd (p : Int → Bool) (A : Option Addr) (c : Nat) (xs : List Int) (w : World) (hx : Ints w.heap.size w A xs) (hm : xs.length ≤ maxLen)
    (HK : Hid (∀ (x : Int), Calls Try.prog 66 #[.int .i64 x] w fun e w' => e = .returned (.bool (p x)) ∧ w = w')) :
    Calls Try.prog 75 #[.slice A xs.length c, .func (.func 66) #[] #[]] w (AnyAt (xs.any p) w) := by
  unfold maxLen at hm
  go_enter Try.func75, Try.ntmps75
  go_wp2
  go_loop [8] (fun i => ∃ k : Nat, k ≤ xs.length ∧ i = .int .i64 k ∧ Hid (∀ j, j < k → p (gi xs j) = false)) (fun i => xs.length - (intOf i).toNat)
  case atStart => exact ⟨0, Nat.zero_le _, rfl, fun j hj => by omega⟩
  case round =>
    obtain ⟨k, hk, rfl, hno⟩ := hrel
    by_cases hlt : k < xs.length
    · obtain ⟨ad, rfl, hb, hc⟩ := hx.at_ hlt
      go_wp2_with (go_at_call 66; refine (HK.out _).mono ?_; rintro e w' ⟨rfl, rfl⟩)
      · go_ret
        exact ⟨k, rfl, by rw [any_some hlt ‹_›]; simp, rfl⟩
      · go_round
        case rel => exact ⟨k + 1, by omega, by go_num, any_step hno ‹_›⟩
        case measure => simp [intOf]; omega
    · obtain rfl : k = xs.length := by omega
      go_wp2
      go_ret
      exact ⟨-1, rfl, by rw [any_none hno]; rfl, rfl⟩
theorem contains_odd (p : Int → Bool) (A : Option Addr) (c : Nat) (xs : List Int) (w : World) (hx : Ints w.heap.size w A xs) (hm : xs.length ≤ maxLen)
    (HK : Hid (∀ (x : Int), Calls Try.prog 66 #[.int .i64 x] w fun e w' => e = .returned (.bool (p x)) ∧ w = w')) :
    Calls Try.prog 67 #[.slice A xs.length c, .func (.func 66) #[] #[]] w fun e w' => e = .returned (.bool (xs.any p)) ∧ w = w' := by
  have HI := Lib.hid (index_odd p A c xs w hx hm HK)
  clear hx HK
  go_enter Try.func67, Try.ntmps67
  go_wp2_with (go_at_call 75; refine HI.out.mono ?_; rintro e w' ⟨r, rfl, hr, rfl⟩)
  go_ret
  exact ⟨rfl, rfl⟩
set_option maxHeartbeats 1000000 in
theorem index_far (p : Int → Bool) (p1 p2 : Value) (A : Option Addr) (c : Nat) (xs : List Int) (w : World) (hx : Ints w.heap.size w A xs) (hm : xs.length ≤ maxLen)
    (HK : Hid (∀ (x : Int), Calls Try.prog 71 #[.int .i64 x, p1, p2] w fun e w' => e = .returned (.bool (p x)) ∧ w = w')) :
    Calls Try.prog 75 #[.slice A xs.length c, .func (.func 71) #[] #[p1, p2]] w (AnyAt (xs.any p) w) := by
  unfold maxLen at hm
  go_enter Try.func75, Try.ntmps75
  go_wp2
  go_loop [8] (fun i => ∃ k : Nat, k ≤ xs.length ∧ i = .int .i64 k ∧ Hid (∀ j, j < k → p (gi xs j) = false)) (fun i => xs.length - (intOf i).toNat)
  case atStart => exact ⟨0, Nat.zero_le _, rfl, fun j hj => by omega⟩
  case round =>
    obtain ⟨k, hk, rfl, hno⟩ := hrel
    by_cases hlt : k < xs.length
    · obtain ⟨ad, rfl, hb, hc⟩ := hx.at_ hlt
      go_wp2_with (go_at_call 71; refine (HK.out _).mono ?_; rintro e w' ⟨rfl, rfl⟩)
      · go_ret
        exact ⟨k, rfl, by rw [any_some hlt ‹_›]; simp, rfl⟩
      · go_round
        case rel => exact ⟨k + 1, by omega, by go_num, any_step hno ‹_›⟩
        case measure => simp [intOf]; omega
    · obtain rfl : k = xs.length := by omega
      go_wp2
      go_ret
      exact ⟨-1, rfl, by rw [any_none hno]; rfl, rfl⟩
theorem contains_far (p : Int → Bool) (p1 p2 : Value) (A : Option Addr) (c : Nat) (xs : List Int) (w : World) (hx : Ints w.heap.size w A xs) (hm : xs.length ≤ maxLen)
    (HK : Hid (∀ (x : Int), Calls Try.prog 71 #[.int .i64 x, p1, p2] w fun e w' => e = .returned (.bool (p x)) ∧ w = w')) :
    Calls Try.prog 67 #[.slice A xs.length c, .func (.func 71) #[] #[p1, p2]] w fun e w' => e = .returned (.bool (xs.any p)) ∧ w = w' := by
  have HI := Lib.hid (index_far p p1 p2 A c xs w hx hm HK)
  clear hx HK
  go_enter Try.func67, Try.ntmps67
  go_wp2_with (go_at_call 75; refine HI.out.mono ?_; rintro e w' ⟨r, rfl, hr, rfl⟩)
  go_ret
  exact ⟨rfl, rfl⟩
set_option maxHeartbeats 1000000 in
theorem indexr_any (p : Nat → Bool) (A : Option Addr) (c : Nat) (bs : List (List Int)) (w : World) (hx : IntRows w.heap.size w A bs) (hm : bs.length ≤ maxLen)
    (HK : Hid (∀ (R : Option Addr) (n c : Nat) (W : World), Calls Try.prog 65 #[.slice R n c] W fun e w' => e = .returned (.bool (p n)) ∧ W = w')) :
    Calls Try.prog 74 #[.slice A bs.length c, .func (.func 65) #[] #[]] w (AnyAt (bs.any fun r => p r.length) w) := by
  unfold maxLen at hm
  go_enter Try.func74, Try.ntmps74
  go_wp2
  go_loop [8] (fun i => ∃ k : Nat, k ≤ bs.length ∧ i = .int .i64 k ∧ Hid (∀ j, j < k → p (gr bs j).length = false)) (fun i => bs.length - (intOf i).toNat)
  case atStart => exact ⟨0, Nat.zero_le _, rfl, fun j hj => by omega⟩
  case round =>
    obtain ⟨k, hk, rfl, hno⟩ := hrel
    by_cases hlt : k < bs.length
    · obtain ⟨ad, R, c', rfl, hb, hc, _, _, _⟩ := hx.at_ hlt
      go_wp2_with (go_at_call 65; refine (HK.out _ _ _ _).mono ?_; rintro e w' ⟨rfl, rfl⟩)
      · go_ret
        exact ⟨k, rfl, by rw [anyr_some hlt ‹_›]; simp, rfl⟩
      · go_round
        case rel => exact ⟨k + 1, by omega, by go_num, any_step (g := fun j => (gr bs j).length) hno ‹_›⟩
        case measure => simp [intOf]; omega
    · obtain rfl : k = bs.length := by omega
      go_wp2
      go_ret
      exact ⟨-1, rfl, by rw [anyr_none hno]; rfl, rfl⟩

theorem containsr_any (p : Nat → Bool) (A : Option Addr) (c : Nat) (bs : List (List Int)) (w : World) (hx : IntRows w.heap.size w A bs) (hm : bs.length ≤ maxLen)
    (HK : Hid (∀ (R : Option Addr) (n c : Nat) (W : World), Calls Try.prog 65 #[.slice R n c] W fun e w' => e = .returned (.bool (p n)) ∧ W = w')) :
    Calls Try.prog 64 #[.slice A bs.length c, .func (.func 65) #[] #[]] w fun e w' => e = .returned (.bool (bs.any fun r => p r.length)) ∧ w = w' := by
  have HI := Lib.hid (indexr_any p A c bs w hx hm HK)
  clear hx HK
  go_enter Try.func64, Try.ntmps64
  go_wp2_with (go_at_call 74; refine HI.out.mono ?_; rintro e w' ⟨r, rfl, hr, rfl⟩)
  go_ret
  exact ⟨rfl, rfl⟩


theorem wide_any (R : Option Addr) (n c : Nat) (w : World) : Calls Try.prog 65 #[.slice R n c] w fun e w' => e = .returned (.bool (decide (10 < n))) ∧ w = w' := by
  go_enter Try.func65, Try.ntmps65
  go_wp2
  go_ret
  exact ⟨ret_bool (by rw [Bool.eq_iff_iff]; first | (simp; done) | (simp; omega)), rfl⟩
def oddB (x : Int) : Bool := decide (x < 0) || decide (1000 < x)
theorem odd_any (x : Int) (w : World) : Calls Try.prog 66 #[.int .i64 x] w fun e w' => e = .returned (.bool (oddB x)) ∧ w = w' := by
  go_enter Try.func66, Try.ntmps66
  go_wp2
  all_goals (go_ret; exact ⟨ret_bool (by simp only [oddB]; try grind), rfl⟩)
def farB (lo hi x : Int) : Bool := decide (x < lo) || decide (hi ≤ x)
theorem far_any (lo hi x : Int) (a b : Nat) (w : World) (h1 : w.cell? ⟨a, 0, none⟩ = some (.int .i64 lo)) (h2 : w.cell? ⟨b, 0, none⟩ = some (.int .i64 hi)) :
    Calls Try.prog 71 #[.int .i64 x, .pointer (some ⟨a, 0, none⟩), .pointer (some ⟨b, 0, none⟩)] w fun e w' => e = .returned (.bool (farB lo hi x)) ∧ w = w' := by
  go_enter Try.func71, Try.ntmps71
  go_wp2
  all_goals (go_ret; exact ⟨ret_bool (by simp only [farB]; try grind), rfl⟩)
theorem within_any (lo hi : Int) (A : Option Addr) (c : Nat) (xs : List Int) (w : World) (hx : Ints w.heap.size w A xs) (hm : xs.length ≤ maxLen) :
    Calls Try.prog 56 #[.int .i64 lo, .int .i64 hi, .slice A xs.length c] w fun e w' => e = .returned (.bool (!xs.any (farB lo hi))) ∧ Below w.heap.size w w' := by
  have hB : Below w.heap.size w ((w.alloc (.cells #[.int .i64 lo] 3)).alloc (.cells #[.int .i64 hi] 3)) := ((Below.refl _ _).alloc (Nat.le_refl _) _).alloc (by simp) _
  have h1 : ((w.alloc (.cells #[.int .i64 lo] 3)).alloc (.cells #[.int .i64 hi] 3)).heap[w.heap.size]? = some (.cells #[.int .i64 lo] 3) := heap_old (heap_new rfl)
  have h2 : ((w.alloc (.cells #[.int .i64 lo] 3)).alloc (.cells #[.int .i64 hi] 3)).heap[w.heap.size + 1]? = some (.cells #[.int .i64 hi] 3) := heap_new (by simp)
  have HC := Lib.hid (contains_far (farB lo hi) (.pointer (some ⟨w.heap.size, 0, none⟩)) (.pointer (some ⟨w.heap.size + 1, 0, none⟩)) A c xs _ (hx.next hB) hm (Lib.hid fun x => far_any lo hi x _ _ _ (cell_of_row _ _ 0 _ _ _ h1) (cell_of_row _ _ 0 _ _ _ h2)))
  clear h1 h2 hx
  go_enter Try.func56, Try.ntmps56
  go_wp2_with (go_at_call 67; refine HC.out.mono ?_; rintro e w' ⟨rfl, rfl⟩)
  go_ret
  exact ⟨rfl, hB⟩
set_option maxHeartbeats 1000000 in
theorem index_at (y : Int) (A : Option Addr) (c : Nat) (xs : List Int) (w : World) (hx : Ints w.heap.size w A xs) (hm : xs.length ≤ maxLen) :
    Calls Try.prog 57 #[.slice A xs.length c, .int .i64 y] w (AnyAt (xs.any (y == ·)) w) := by
  unfold maxLen at hm
  go_enter Try.func57, Try.ntmps57
  go_wp2
  go_loop [8] (fun i => ∃ k : Nat, k ≤ xs.length ∧ i = .int .i64 k ∧ Hid (∀ j, j < k → (y == gi xs j) = false)) (fun i => xs.length - (intOf i).toNat)
  case atStart => exact ⟨0, Nat.zero_le _, rfl, fun j hj => by omega⟩
  case round =>
    obtain ⟨k, hk, rfl, hno⟩ := hrel
    by_cases hlt : k < xs.length
    · obtain ⟨ad, rfl, hb, hc⟩ := hx.at_ hlt
      by_cases he : y = gi xs k
      · have q : (y == gi xs k) = true := by simpa using he
        have HA := Lib.hid (any_some (p := (y == ·)) hlt q)
        clear he
        go_wp2
        go_ret
        exact ⟨k, rfl, by rw [HA.out]; simp, rfl⟩
      · have q : (y == gi xs k) = false := by simpa using he
        have HS := Lib.hid (any_step (p := (y == ·)) hno q)
        clear he
        go_wp2
        go_round
        case rel => exact ⟨k + 1, by omega, by go_num, HS⟩
        case measure => simp [intOf]; omega
    · obtain rfl : k = xs.length := by omega
      go_wp2
      go_ret
      exact ⟨-1, rfl, by rw [any_none (p := (y == ·)) hno]; rfl, rfl⟩
theorem contains_at (y : Int) (A : Option Addr) (c : Nat) (xs : List Int) (w : World) (hx : Ints w.heap.size w A xs) (hm : xs.length ≤ maxLen) :
    Calls Try.prog 32 #[.slice A xs.length c, .int .i64 y] w fun e w' => e = .returned (.bool (xs.any (y == ·))) ∧ w = w' := by
  have HI := Lib.hid (index_at y A c xs w hx hm)
  clear hx
  go_enter Try.func32, Try.ntmps32
  go_wp2_with (go_at_call 57; refine HI.out.mono ?_; rintro e w' ⟨r, rfl, hr, rfl⟩)
  go_ret
  exact ⟨rfl, rfl⟩
/-- Sums of lists whose elements are small. -/
theorem sum_bd {xs : List Int} (h : ∀ k, k < xs.length → 0 ≤ gi xs k ∧ gi xs k ≤ 1000) (hl : xs.length ≤ 10) (k : Nat) (hk : k ≤ xs.length) : 0 ≤ sumTo (gi xs) k ∧ sumTo (gi xs) k ≤ 10000 := by
  have := sumTo_bd (f := gi xs) (lo := 0) (hi := 1000) (k := k) (fun i hi => h i (by omega))
  omega
theorem tot_bd {xs : List Int} (h : ∀ k, k < xs.length → 0 ≤ gi xs k ∧ gi xs k ≤ 1000) (hl : xs.length ≤ 10) : 0 ≤ tot xs ∧ tot xs ≤ 10000 := sum_bd h hl _ (Nat.le_refl _)
set_option maxHeartbeats 1000000 in
theorem total_any (A : Option Addr) (c : Nat) (xs : List Int) (w : World) (hx : Ints w.heap.size w A xs) (h : ∀ k, k < xs.length → 0 ≤ gi xs k ∧ gi xs k ≤ 1000) (hl : xs.length ≤ 10) :
    Calls Try.prog 45 #[.slice A xs.length c] w fun e w' => e = .returned (.int .i64 (tot xs)) ∧ w = w' := by
  have HS := Lib.hid (sum_bd h hl)
  have HE := Lib.hid h
  clear h
  go_enter Try.func45, Try.ntmps45
  go_wp2
  go_loop [3, 8] (fun s i => ∃ k : Nat, k ≤ xs.length ∧ i = .int .i64 k ∧ s = .int .i64 (sumTo (gi xs) k)) (fun _ i => xs.length - (intOf i).toNat)
  case atStart => exact ⟨0, Nat.zero_le _, rfl, rfl⟩
  case round =>
    obtain ⟨k, hk, rfl, rfl⟩ := hrel
    by_cases hlt : k < xs.length
    · obtain ⟨ad, rfl, hb, hc⟩ := hx.at_ hlt
      have h1 := HS.out k hk
      have h2 := HE.out k hlt
      have h11 := h1.1; have h12 := h1.2; have h21 := h2.1; have h22 := h2.2
      clear h1 h2
      go_wp2
      go_round
      case rel => exact ⟨k + 1, by omega, by go_num, rfl⟩
      case measure => simp [intOf]; omega
    · obtain rfl : k = xs.length := by omega
      go_wp2
      go_ret
      exact ⟨rfl, rfl⟩
end Go.Proofs.Ytcjfcfgkejoeeaa
