/- Great and both Checks of markets, walked. -/
import Derived.Test.YtpijllobpohpgaaMa2
import Derived.Test.YtpijllobpohpgaaBx
import Derived.BigGuardPart
import Derived.Test.YtpijllobpohpgaaMxI
namespace Go.Proofs.Ytpijllobpohpgaa
open Go.RowKit Go.Deep
set_option linter.unusedVariables false
set_option linter.unusedSimpArgs false

def AnyAt (b : Bool) (w : World) (e : Ending) (w' : World) : Prop := ∃ r : Int, e = .returned (.int .i64 r) ∧ decide (0 ≤ r) = b ∧ w = w'

section
variable {α : Type} {g : Nat → α} {p : α → Bool} {k : Nat}
theorem any_step (h : ∀ j, j < k → p (g j) = false) (hk : p (g k) = false) : ∀ j, j < k + 1 → p (g j) = false := by
  intro j hj
  by_cases e : j = k
  · subst e; exact hk
  · exact h j (by omega)
end
theorem anyr_none {p : Nat → Bool} {bs : List (List Int)} (h : ∀ j, j < bs.length → p (gr bs j).length = false) : (bs.any fun r => p r.length) = false := by
  rw [List.any_eq_false]
  intro x hx
  obtain ⟨i, hi, rfl⟩ := mem_gr hx
  simpa using h i hi
theorem anyr_some {p : Nat → Bool} {bs : List (List Int)} {k : Nat} (hk : k < bs.length) (h : p (gr bs k).length = true) : (bs.any fun r => p r.length) = true := by
  rw [List.any_eq_true]
  exact ⟨_, gr_mem hk, h⟩

set_option maxHeartbeats 1000000 in
theorem indexr_any (p : Nat → Bool) (A : Option Addr) (c : Nat) (bs : List (List Int)) (w : World) (hx : IntRows w.heap.size w A bs) (hm : bs.length ≤ maxLen)
    (HK : Hid (∀ (R : Option Addr) (n c : Nat) (W : World), Calls Try.prog 59 #[.slice R n c] W fun e w' => e = .returned (.bool (p n)) ∧ W = w')) :
    Calls Try.prog 84 #[.slice A bs.length c, .func (.func 59) #[] #[]] w (AnyAt (bs.any fun r => p r.length) w) := by
  unfold maxLen at hm
  go_enter Try.func84, Try.ntmps84
  go_wp2
  go_loop [8] (fun i => ∃ k : Nat, k ≤ bs.length ∧ i = .int .i64 k ∧ Hid (∀ j, j < k → p (gr bs j).length = false)) (fun i => bs.length - (intOf i).toNat)
  case atStart => exact ⟨0, Nat.zero_le _, rfl, fun j hj => by omega⟩
  case round =>
    obtain ⟨k, hk, rfl, hno⟩ := hrel
    by_cases hlt : k < bs.length
    · obtain ⟨ad, R, c', rfl, hb, hc, _, _, _⟩ := hx.at_ hlt
      go_wp2_with (go_at_call 59; refine (HK.out _ _ _ _).mono ?_; rintro e w' ⟨rfl, rfl⟩)
      · go_ret
        exact ⟨k, rfl, by rw [anyr_some hlt ‹_›]; simp, rfl⟩
      · go_round
        case rel => exact ⟨k + 1, by omega, by go_num, any_step (g := fun j => (gr bs j).length) hno ‹_›⟩
        case measure => simp [intOf]; omega
    · obtain rfl : k = bs.length := by omega
      go_wp2
      go_ret
      exact ⟨-1, rfl, by rw [anyr_none hno]; rfl, rfl⟩

theorem containsr_any (p : Nat → Bool) (A : Option Addr) (c : Nat) (bs : List (List Int)) (w : World) (hx : IntRows w.heap.size w A bs) (hm : bs.length ≤ maxLen)
    (HK : Hid (∀ (R : Option Addr) (n c : Nat) (W : World), Calls Try.prog 59 #[.slice R n c] W fun e w' => e = .returned (.bool (p n)) ∧ W = w')) :
    Calls Try.prog 58 #[.slice A bs.length c, .func (.func 59) #[] #[]] w fun e w' => e = .returned (.bool (bs.any fun r => p r.length)) ∧ w = w' := by
  have HI := Lib.hid (indexr_any p A c bs w hx hm HK)
  clear hx HK
  go_enter Try.func58, Try.ntmps58
  go_wp2_with (go_at_call 84; refine HI.out.mono ?_; rintro e w' ⟨r, rfl, hr, rfl⟩)
  go_ret
  exact ⟨rfl, rfl⟩


theorem wide_any (R : Option Addr) (n c : Nat) (w : World) : Calls Try.prog 59 #[.slice R n c] w fun e w' => e = .returned (.bool (decide (10 < n))) ∧ w = w' := by
  go_enter Try.func59, Try.ntmps59
  go_wp2
  go_ret
  exact ⟨ret_bool (by rw [Bool.eq_iff_iff]; first | (simp; done) | (simp; omega)), rfl⟩
def mnTo (l : List Int) : Nat → Int
  | 0 => gi l 0
  | k + 1 => min (mnTo l k) (gi l (k + 1))
def mxTo (l : List Int) : Nat → Int
  | 0 => gi l 0
  | k + 1 => max (mxTo l k) (gi l (k + 1))
theorem mnTo_neg {l : List Int} : ∀ {k : Nat}, mnTo l k < 0 ↔ ∃ i, i ≤ k ∧ gi l i < 0
  | 0 => by
    constructor
    · intro h; exact ⟨0, Nat.le_refl _, h⟩
    · rintro ⟨i, hi, h⟩
      obtain rfl : i = 0 := by omega
      exact h
  | k + 1 => by
    have e : mnTo l (k + 1) < 0 ↔ mnTo l k < 0 ∨ gi l (k + 1) < 0 := by show min _ _ < 0 ↔ _; omega
    rw [e, mnTo_neg]
    constructor
    · rintro (⟨i, hi, h⟩ | h)
      · exact ⟨i, by omega, h⟩
      · exact ⟨k + 1, Nat.le_refl _, h⟩
    · rintro ⟨i, hi, h⟩
      by_cases c : i = k + 1
      · subst c; exact Or.inr h
      · exact Or.inl ⟨i, by omega, h⟩
theorem mxTo_gt {l : List Int} {b : Int} : ∀ {k : Nat}, b < mxTo l k ↔ ∃ i, i ≤ k ∧ b < gi l i
  | 0 => by
    constructor
    · intro h; exact ⟨0, Nat.le_refl _, h⟩
    · rintro ⟨i, hi, h⟩
      obtain rfl : i = 0 := by omega
      exact h
  | k + 1 => by
    have e : b < mxTo l (k + 1) ↔ b < mxTo l k ∨ b < gi l (k + 1) := by show b < max _ _ ↔ _; omega
    rw [e, mxTo_gt]
    constructor
    · rintro (⟨i, hi, h⟩ | h)
      · exact ⟨i, by omega, h⟩
      · exact ⟨k + 1, Nat.le_refl _, h⟩
    · rintro ⟨i, hi, h⟩
      by_cases c : i = k + 1
      · subst c; exact Or.inr h
      · exact Or.inl ⟨i, by omega, h⟩
set_option maxHeartbeats 1000000 in
theorem max_any (A : Option Addr) (c : Nat) (xs : List Int) (w : World) (hx : Ints w.heap.size w A xs) (h0 : 0 < xs.length) (hm : xs.length ≤ maxLen) :
    Calls Try.prog 60 #[.slice A xs.length c] w fun e w' => e = .returned (.int .i64 (mxTo xs (xs.length - 1))) ∧ Below w.heap.size w w' := by
  unfold maxLen at hm
  have q0 : decide ((xs.length : Int) < 1) = false := decide_eq_false (by omega)
  have q0' : decide (xs.length < 1) = false := decide_eq_false (by omega)
  have q0n : ¬ xs.length < 1 := by omega
  obtain ⟨ad, rfl, hb, hc⟩ := hx.at_ h0
  have i0 : (0 : Int) < (xs.length : Int) := by omega
  rw [show ad.add 0 = ad by simp [Addr.add]] at hc
  go_enter Try.func60, Try.ntmps60
  go_wp2_with fail
  clear q0 q0' q0n hb hc
  go_loop [3, 4] (fun m i => ∃ k : Nat, k < xs.length ∧ i = .int .i64 (k + 1 : Nat) ∧ m = .int .i64 (mxTo xs k)) (fun _ i => xs.length - (intOf i).toNat)
  case atStart => exact ⟨0, h0, rfl, rfl⟩
  case round =>
    obtain ⟨k, hk, rfl, rfl⟩ := hrel
    by_cases hlt : k + 1 < xs.length
    · obtain ⟨ad', e, hb, hc⟩ := hx.at_ hlt
      obtain rfl : ad = ad' := by simpa using e
      have i1 : (((k + 1 : Nat) : Int)) < (xs.length : Int) := by omega
      have i2 : (0 : Int) ≤ ((k + 1 : Nat) : Int) := by omega
      have HS := Lib.hid (show mxTo xs (k + 1) = max (mxTo xs k) (gi xs (k + 1)) from rfl)
      clear e
      generalize hkk : k + 1 = kk at *
      generalize mxTo xs k = mk at *
      go_wp2_with fail
      go_round
      case rel => exact ⟨kk, hlt, by go_num, by rw [HS.out]; first | done | (congr 1; rw [Int.max_def]; split <;> split <;> omega)⟩
      case measure => simp [intOf]; omega
    · obtain rfl : k = xs.length - 1 := by omega
      have i1 : ((xs.length - 1 + 1 : Nat) : Int) = (xs.length : Int) := by omega
      rw [i1]
      go_wp2_with fail
      go_ret
      exact ⟨rfl, Below.refl _ _⟩

theorem beqT {a b : Int} (h : a = b) : (a == b) = true := by simpa using h
theorem beqF {a b : Int} (h : a ≠ b) : (a == b) = false := by simpa using h
theorem bneT {a b : Int} (h : a ≠ b) : (a != b) = true := by simpa using h
theorem bneF {a b : Int} (h : a = b) : (a != b) = false := by simpa using h
theorem beqTn {a b : Nat} (h : a = b) : (a == b) = true := by simpa using h
theorem beqFn {a b : Nat} (h : a ≠ b) : (a == b) = false := by simpa using h
theorem bneTn {a b : Nat} (h : a ≠ b) : (a != b) = true := by simpa using h
theorem bneFn {a b : Nat} (h : a = b) : (a != b) = false := by simpa using h
/-- Larger than the statements consider. -/
def mkBig (bs : List (List Int)) : Bool := (bs.any fun r => decide (40 < r.length)) || decide (40 < bs.length)
set_option maxHeartbeats 1000000 in
theorem mgreat_any (bs : List (List Int)) (A : Option Addr) (c : Nat) (w : World) (h : GIn w.heap.size w A c bs) :
    Calls Try.prog 23 #[gV A c bs] w fun e w' => e = .returned (.bool (mkBig bs)) ∧ Below w.heap.size w w' := by
  have hm := Nat.le_trans h.len h.cap
  unfold maxLen at hm
  have HG := Lib.hid (h.next (one_alloc w (gB A c bs))).rows
  clear h
  go_enter Try.func23, Try.ntmps23
  go_wp2_with fail
  go_loop [3] (fun i => ∃ k : Nat, k ≤ bs.length ∧ i = .int .i64 k ∧ Hid (∀ j, j < k → decide (40 < (gr bs j).length) = false)) (fun i => bs.length - (intOf i).toNat)
  case atStart => exact ⟨0, Nat.zero_le _, rfl, Lib.hid fun j hj => by omega⟩
  case round =>
    obtain ⟨k, hk, rfl, hno⟩ := hrel
    by_cases hlt : k < bs.length
    · obtain ⟨ad, R, c', rfl, hb, hc, _, _, _⟩ := HG.out.at_ hlt
      by_cases hq : 40 < (gr bs k).length
      · have q1 : decide (40 < (gr bs k).length) = true := by simpa using hq
        have q1i : decide ((40 : Int) < ((gr bs k).length : Int)) = true := decide_eq_true (by omega)
        have HR := Lib.hid (show mkBig bs = true by unfold mkBig; rw [anyr_some (p := fun n => decide (40 < n)) hlt q1]; rfl)
        clear hno
        go_wp2_with fail
        go_ret
        exact ⟨ret_bool HR.out.symm, one_alloc _ _⟩
      · have q1 : decide (40 < (gr bs k).length) = false := by simpa using hq
        have q1i : decide ((40 : Int) < ((gr bs k).length : Int)) = false := decide_eq_false (by omega)
        have HS := Lib.hid (any_step (g := fun j => (gr bs j).length) (p := fun n => decide (40 < n)) hno.out q1)
        clear hno hq
        go_wp2_with fail
        exact ⟨⟨k + 1, by omega, by go_num, HS⟩, by simp [intOf]; omega⟩
    · obtain rfl : k = bs.length := by omega
      have HR := Lib.hid (show mkBig bs = decide (40 < bs.length) by unfold mkBig; rw [anyr_none (p := fun n => decide (40 < n)) hno.out]; rfl)
      clear hno
      go_wp2_with fail
      go_ret
      exact ⟨ret_bool (by rw [HR.out, Bool.eq_iff_iff]; simp; omega), one_alloc _ _⟩

theorem far_wide {bs : List (List Int)} : (bs.any fun r => decide (10 < r.length)) = true ↔ ∃ i, i < bs.length ∧ 10 < (gr bs i).length := by
  rw [List.any_eq_true]
  constructor
  · rintro ⟨r, hr, h⟩
    obtain ⟨i, hi, rfl⟩ := mem_gr hr
    exact ⟨i, hi, by simpa using h⟩
  · rintro ⟨i, hi, h⟩
    exact ⟨_, gr_mem hi, by simpa using h⟩
/-- What there is of the goods of two agents, in the worlds that have grown. -/
structure Two (B : Nat) (W : World) (ad : Addr) (R0 : Option Addr) (c0 : Nat) (R1 : Option Addr) (c1 : Nat) (bs : List (List Int)) : Prop where
  bl : ad.block < B
  r0 : W.cell? ad = some (.slice R0 (gr bs 0).length c0)
  r1 : W.cell? ⟨ad.block, ad.off + 1, none⟩ = some (.slice R1 (gr bs 1).length c1)
  l0 : (gr bs 0).length ≤ c0
  m0 : c0 ≤ maxLen
  l1 : (gr bs 1).length ≤ c1
  m1 : c1 ≤ maxLen
  i0 : Ints B W R0 (gr bs 0)
  i1 : Ints B W R1 (gr bs 1)
theorem GIn.two {w : World} {A : Option Addr} {c : Nat} {bs : List (List Int)} (h : GIn w.heap.size w A c bs) (h2 : bs.length = 2) : ∃ ad R0 c0 R1 c1, A = some ad ∧ Two w.heap.size w ad R0 c0 R1 c1 bs := by
  obtain ⟨ad, R0, c0, rfl, hb, hc0, l0, m0, i0⟩ := h.rows.at_ (show 0 < bs.length by omega)
  obtain ⟨ad', R1, c1, e, _, hc1, l1, m1, i1⟩ := h.rows.at_ (show 1 < bs.length by omega)
  obtain rfl : ad = ad' := by simpa using e
  rw [show ad.add 0 = ad by simp [Addr.add]] at hc0
  exact ⟨ad, R0, c0, R1, c1, rfl, ⟨hb, hc0, hc1, l0, m0, l1, m1, i0, i1⟩⟩
theorem Two.below {B : Nat} {w W : World} {ad : Addr} {R0 : Option Addr} {c0 : Nat} {R1 : Option Addr} {c1 : Nat} {bs : List (List Int)} (h : Two B w ad R0 c0 R1 c1 bs) (hb : Below B w W) : Two B W ad R0 c0 R1 c1 bs :=
  ⟨h.bl, (hb.cell h.bl).trans h.r0, (hb.cell (p := ⟨ad.block, ad.off + 1, none⟩) h.bl).trans h.r1, h.l0, h.m0, h.l1, h.m1, h.i0.below hb, h.i1.below hb⟩
theorem Two.next {w W : World} {ad : Addr} {R0 : Option Addr} {c0 : Nat} {R1 : Option Addr} {c1 : Nat} {bs : List (List Int)} (h : Two w.heap.size w ad R0 c0 R1 c1 bs) (hb : Below w.heap.size w W) : Two W.heap.size W ad R0 c0 R1 c1 bs :=
  have k := h.below hb
  ⟨Nat.lt_of_lt_of_le k.bl hb.size, k.r0, k.r1, k.l0, k.m0, k.l1, k.m1, k.i0.more hb.size, k.i1.more hb.size⟩
theorem mxTo_zero {l : List Int} {k : Nat} (h : ∀ i, i ≤ k → 0 ≤ gi l i) : mxTo l k = 0 ↔ ¬ ∃ i, i ≤ k ∧ 0 < gi l i := by
  have g0 : 0 ≤ mxTo l k := by
    rcases Int.lt_or_le (mxTo l k) 0 with q | q
    · exfalso
      have := h 0 (Nat.zero_le _)
      have := (mxTo_gt (l := l) (b := -1) (k := k)).2 ⟨0, Nat.zero_le _, by omega⟩
      omega
    · exact q
  have := mxTo_gt (l := l) (b := 0) (k := k)
  constructor
  · intro e hx; have := this.2 hx; omega
  · intro hx
    rcases Int.lt_or_le 0 (mxTo l k) with q | q
    · exact absurd (this.1 q) hx
    · omega

set_option maxRecDepth 100000 in
set_option maxHeartbeats 8000000 in
theorem mcheck_any (bs : List (List Int)) (A : Option Addr) (c : Nat) (w : World) (h : GIn w.heap.size w A c bs) :
    Calls Try.prog 28 #[gV A c bs] w fun e w' => e = .returned (.int .i64 (mkCode bs)) ∧ Below w.heap.size w w' := by
  have hm := h.len
  have hc := h.cap
  unfold maxLen at hc
  have HB := Lib.hid h
  have HW := Lib.hid (far_wide (bs := bs))
  have hB0 : Bx w [(w.heap.size, gB A c bs)] (w.alloc (gB A c bs)) := (Bx.start w).new rfl _
  clear h
  go_enter Try.func28, Try.ntmps28
  go_upto_region 1 with fail
  generalize hw0 : w.alloc (gB A c bs) = w0 at *
  clear hw0
  have c_G := fun j => cell_of_row _ _ j _ _ _ (hB0.get 0 rfl)
  have z_G := hB0.lt 0 rfl
  have HBE := Lib.hid hB0.below
  by_cases h6 : (2 : Int) < (bs.length : Int)
  · have HC := Lib.hid (mk_many (bs := bs) (Or.inl (by omega)))
    go_wp2_with fail
    go_ret
    exact ⟨ret_int HC.out.symm, HBE.out⟩
  have g6 : decide ((2 : Int) < (bs.length : Int)) = false := by simpa using h6
  have g6n : decide (2 < bs.length) = false := by simp; omega
  have h6' : bs.length ≤ 2 := by omega
  clear h6
  by_cases hw : (bs.any fun r => decide (10 < r.length)) = true
  · obtain ⟨i, hi, hi10⟩ := HW.out.1 hw
    have HC := Lib.hid (mk_many (bs := bs) (Or.inr ⟨i, hi, hi10⟩))
    clear hi hi10
    go_wp2_with ((go_at_call 58; refine (containsr_any (fun n => decide (10 < n)) A c bs _ (HB.out.rows.next HBE.out) (by unfold maxLen; omega) (Lib.hid fun R n c W => wide_any R n c W)).mono ?_; rintro e w' ⟨rfl, rfl⟩))
    go_ret
    exact ⟨ret_int HC.out.symm, HBE.out⟩
  have hw' : (bs.any fun r => decide (10 < r.length)) = false := by simpa using hw
  have HWD := Lib.hid (fun i (hi : i < bs.length) => show (gr bs i).length ≤ 10 by
    rcases Nat.lt_or_ge 10 (gr bs i).length with k | k
    · exact absurd (HW.out.2 ⟨i, hi, k⟩) hw
    · exact k)
  have HNM := Lib.hid (show ¬ MkMany bs from not_mkMany h6' HWD.out)
  have HX := Lib.hid (fun hg => mk_bad HNM.out hg)
  clear hw HW
  by_cases h2 : bs.length = 2
  rotate_left
  · have HC := Lib.hid (HX.out (fun g => h2 g.1.1))
    have q1 : ((bs.length : Int) == 2) = false := beqF (by omega)
    have q1' : ((bs.length : Int) != 2) = true := bneT (by omega)
    have q1n : (bs.length != 2) = true := bneTn h2
    have q1m : (bs.length == 2) = false := beqFn h2
    clear h2
    go_wp2_with ((go_at_call 58; refine (containsr_any (fun n => decide (10 < n)) A c bs _ (HB.out.rows.next HBE.out) (by unfold maxLen; omega) (Lib.hid fun R n c W => wide_any R n c W)).mono ?_; rintro e w' ⟨rfl, rfl⟩))
    refine wp_region_ext (by kernel_rfl) (by kernel_rfl) ?_
    repeat (first | go_big_quiet_step (fail) | quiet_step (fail))
    refine wpQuiet_nil ?_
    rintro w2 ⟨⟨_, hb⟩, rfl⟩
    have HB2 := Lib.hid (bcall HBE.out HBE.out.size hb)
    clear hb c_G z_G hB0
    go_wp2_with fail
    go_ret
    exact ⟨ret_int HC.out.symm, HB2.out⟩
  obtain ⟨ad, R0, c0, R1, c1, rfl, hT0⟩ := HB.out.two h2
  have HT := Lib.hid hT0
  clear hT0
  have q2 : ((bs.length : Int) != 2) = false := bneF (by omega)
  have q2' : (2 : Int) = (bs.length : Int) := by omega
  have q20 : (0 : Int) < (bs.length : Int) := by omega
  have q21 : (1 : Int) < (bs.length : Int) := by omega
  have q2n : (bs.length == 2) = true := beqTn h2
  have q2m : (bs.length != 2) = false := bneFn h2
  have HL0 := Lib.hid (HWD.out 0 (by omega))
  have HL1 := Lib.hid (HWD.out 1 (by omega))
  have H2 := Lib.hid h2
  clear h2 HWD
  by_cases hn : 0 < (gr bs 0).length
  rotate_left
  · have HC := Lib.hid (HX.out (fun g => by have := g.1.2.1; omega))
    have e0 : (gr bs 0).length = 0 := by omega
    have q3 : (((gr bs 0).length : Int) == 0) = true := beqT (by omega)
    have q3n : ((gr bs 0).length == 0) = true := beqTn (by omega)
    clear hn e0
    have hT := HT.out.next hB0.below
    have t0 := hT.r0
    have t1 := hT.r1
    have tb := hT.bl
    clear hT
    go_wp2_with ((go_at_call 58; refine (containsr_any (fun n => decide (10 < n)) (some ad) c bs _ (HB.out.rows.next HBE.out) (by unfold maxLen; omega) (Lib.hid fun R n c W => wide_any R n c W)).mono ?_; rintro e w' ⟨rfl, rfl⟩))
    refine wp_region_ext (by kernel_rfl) (by kernel_rfl) ?_
    repeat (first | go_big_quiet_step (fail) | quiet_step (fail))
    refine wpQuiet_nil ?_
    rintro w3 ⟨⟨_, hb⟩, rfl⟩
    have hBx := hB0.next hb
    clear c_G z_G t0 t1 tb hb hB0
    have HE := Lib.hid hBx.below
    clear hBx
    go_wp2_with fail
    all_goals (go_ret; exact ⟨ret_int HC.out.symm, HE.out⟩)
  have q3 : (((gr bs 0).length : Int) == 0) = false := beqF (by omega)
  have q3n : ((gr bs 0).length == 0) = false := beqFn (by omega)
  by_cases hq : (gr bs 0).length = (gr bs 1).length
  rotate_left
  · have HC := Lib.hid (HX.out (fun g => hq g.1.2.2))
    have q4 : (((gr bs 0).length : Int) != ((gr bs 1).length : Int)) = true := bneT (by omega)
    have q4n : ((gr bs 0).length != (gr bs 1).length) = true := by simpa using hq
    clear hq hn
    have hT := HT.out.next hB0.below
    have t0 := hT.r0
    have t1 := hT.r1
    have tb := hT.bl
    clear hT
    go_wp2_with ((go_at_call 58; refine (containsr_any (fun n => decide (10 < n)) (some ad) c bs _ (HB.out.rows.next HBE.out) (by unfold maxLen; omega) (Lib.hid fun R n c W => wide_any R n c W)).mono ?_; rintro e w' ⟨rfl, rfl⟩))
    refine wp_region_ext (by kernel_rfl) (by kernel_rfl) ?_
    repeat (first | go_big_quiet_step (fail) | quiet_step (fail))
    refine wpQuiet_nil ?_
    rintro w3 ⟨⟨_, hb⟩, rfl⟩
    have hBx := hB0.next hb
    clear c_G z_G t0 t1 tb hb hB0
    have HE := Lib.hid hBx.below
    clear hBx
    go_wp2_with fail
    all_goals (go_ret; exact ⟨ret_int HC.out.symm, HE.out⟩)
  have HEQ := Lib.hid hq
  have q4 : (((gr bs 0).length : Int) != ((gr bs 1).length : Int)) = false := bneF (by omega)
  have q4n : ((gr bs 0).length != (gr bs 1).length) = false := by simpa using hq
  have HN := Lib.hid hn
  clear hq hn
  have hT := HT.out.next hB0.below
  have t0 := hT.r0
  have t1 := hT.r1
  have tb := hT.bl
  clear hT
  go_wp2_with ((go_at_call 58; refine (containsr_any (fun n => decide (10 < n)) (some ad) c bs _ (HB.out.rows.next HBE.out) (by unfold maxLen; omega) (Lib.hid fun R n c W => wide_any R n c W)).mono ?_; rintro e w' ⟨rfl, rfl⟩))
  refine wp_region_ext (by kernel_rfl) (by kernel_rfl) ?_
  repeat (first | go_big_quiet_step (fail) | quiet_step (fail))
  refine wpQuiet_nil ?_
  rintro w3 ⟨⟨_, hb⟩, rfl⟩
  have hBx := hB0.next hb
  clear c_G z_G t0 t1 tb hb hB0
  clear q2 q2n q2m q3 q3n q4 q4n g6 g6n hw'
  have hT := HT.out.next hBx.below
  have t0 := hT.r0
  have t1 := hT.r1
  have tb := hT.bl
  clear hT
  have c_G := fun j => cell_of_row _ _ j _ _ _ (hBx.get 0 rfl)
  have z_G := hBx.lt 0 rfl
  go_wp2_with fail
  clear c_G z_G t0 t1 tb
  have HB3 := Lib.hid hBx
  clear hBx
  go_loopw [45] (fun s wr => ∃ k : Nat, k ≤ (gr bs 0).length ∧ s = .int .i64 k ∧ (∀ j, j < k → goodB bs j = true) ∧ Bx w [(w.heap.size, gB (some ad) c bs)] wr) (fun s _ => (gr bs 0).length - (intOf s).toNat)
  case atStart => exact ⟨0, Nat.zero_le _, rfl, fun j hj => by omega, HB3.out⟩
  case round =>
    obtain ⟨k, hk, rfl, hall, hBr⟩ := hrel
    have HA := Lib.hid hall
    clear HB3 hall
    by_cases hlt : k < (gr bs 0).length
    rotate_left
    · obtain rfl : k = (gr bs 0).length := by omega
      clear hlt hk
      have HM0 := Lib.hid (fun (W : World) (hW : Below w.heap.size w W) => max_any R0 c0 (gr bs 0) W (HT.out.next hW).i0 HN.out (Nat.le_trans HT.out.l0 HT.out.m0))
      have HM1 := Lib.hid (fun (W : World) (hW : Below w.heap.size w W) => max_any R1 c1 (gr bs 1) W (HT.out.next hW).i1 (by have := HN.out; have := HEQ.out; omega) (Nat.le_trans HT.out.l1 HT.out.m1))
      have HZ0 := Lib.hid (mxTo_zero (l := gr bs 0) (k := (gr bs 0).length - 1) (fun i hi => by
        have := HA.out i (by have := HN.out; omega)
        simp only [goodB, Bool.and_eq_true, decide_eq_true_eq] at this; omega))
      have HZ1 := Lib.hid (mxTo_zero (l := gr bs 1) (k := (gr bs 1).length - 1) (fun i hi => by
        have := HA.out i (by have := HN.out; have := HEQ.out; omega)
        simp only [goodB, Bool.and_eq_true, decide_eq_true_eq] at this; omega))
      have HS0 := Lib.hid (show mxTo (gr bs 0) ((gr bs 0).length - 1) = 0 → ¬ MkGood bs from fun e g => HZ0.out.1 e (by obtain ⟨i, hi, hp⟩ := g.2.2.1; exact ⟨i, by omega, hp⟩))
      have HS1 := Lib.hid (show mxTo (gr bs 1) ((gr bs 1).length - 1) = 0 → ¬ MkGood bs from fun e g => HZ1.out.1 e (by obtain ⟨i, hi, hp⟩ := g.2.2.2; exact ⟨i, by have := HEQ.out; omega, hp⟩))
      have HGO := Lib.hid (fun (e0 : mxTo (gr bs 0) ((gr bs 0).length - 1) ≠ 0) (e1 : mxTo (gr bs 1) ((gr bs 1).length - 1) ≠ 0) => mk_good HNM.out ⟨⟨H2.out, HN.out, HEQ.out⟩, HA.out,
        (by
          rcases Classical.em (∃ i, i ≤ (gr bs 0).length - 1 ∧ 0 < gi (gr bs 0) i) with q | q
          · obtain ⟨i, hi, hp⟩ := q; exact ⟨i, by have := HN.out; omega, hp⟩
          · exact absurd (HZ0.out.2 q) e0),
        (by
          rcases Classical.em (∃ i, i ≤ (gr bs 1).length - 1 ∧ 0 < gi (gr bs 1) i) with q | q
          · obtain ⟨i, hi, hp⟩ := q; exact ⟨i, by have := HN.out; have := HEQ.out; omega, hp⟩
          · exact absurd (HZ1.out.2 q) e1)⟩)
      clear HZ0 HZ1 HA
      generalize mxTo (gr bs 0) ((gr bs 0).length - 1) = m0 at *
      generalize mxTo (gr bs 1) ((gr bs 1).length - 1) = m1 at *
      have hT := HT.out.next hBr.below
      have t0 := hT.r0
      have t1 := hT.r1
      have tb := hT.bl
      clear hT
      have c_G := fun j => cell_of_row _ _ j _ _ _ (hBr.get 0 rfl)
      have z_G := hBr.lt 0 rfl
      go_wp2_with fail
      refine (HM0.out _ hBr.below).mono ?_
      rintro e w21 ⟨rfl, hb⟩
      have hB21 := hBr.next hb
      clear c_G z_G hb hBr
      clear t0 t1 tb HM0
      by_cases e0 : m0 = 0
      · have q : (m0 == 0) = true := by simpa using e0
        have HC := Lib.hid (HX.out (HS0.out e0))
        clear e0
        have HE := Lib.hid hB21.below
        clear hB21
        go_wp2_with fail
        all_goals (go_ret; exact ⟨ret_int HC.out.symm, HE.out⟩)
      have q : (m0 == 0) = false := by simpa using e0
      have HE0 := Lib.hid e0
      clear e0
      have hT := HT.out.next hB21.below
      have t0 := hT.r0
      have t1 := hT.r1
      have tb := hT.bl
      clear hT
      have c_G := fun j => cell_of_row _ _ j _ _ _ (hB21.get 0 rfl)
      have z_G := hB21.lt 0 rfl
      go_wp2_with fail
      refine (HM1.out _ hB21.below).mono ?_
      rintro e w22 ⟨rfl, hb⟩
      have hB22 := hB21.next hb
      clear c_G z_G hb hB21
      clear t0 t1 tb HM1
      by_cases e1 : m1 = 0
      · have qq : (m1 == 0) = true := by simpa using e1
        have HC := Lib.hid (HX.out (HS1.out e1))
        clear e1
        have HE := Lib.hid hB22.below
        clear hB22
        go_wp2_with fail
        all_goals (go_ret; exact ⟨ret_int HC.out.symm, HE.out⟩)
      have qq : (m1 == 0) = false := by simpa using e1
      have HC := Lib.hid (HGO.out HE0.out e1)
      clear e1
      have HE := Lib.hid hB22.below
      clear hB22
      go_wp2_with fail
      all_goals (go_ret; exact ⟨ret_int HC.out.symm, HE.out⟩)
    obtain ⟨a0, rfl, ab, ac⟩ := (HT.out.next hBr.below).i0.at_ hlt
    obtain ⟨a1, rfl, bb, bc⟩ := (HT.out.next hBr.below).i1.at_ (show k < (gr bs 1).length by have := HEQ.out; omega)
    have z1 : (k : Int) < ((gr bs 0).length : Int) := by omega
    have z2 : (k : Int) < ((gr bs 1).length : Int) := by have := HEQ.out; omega
    have z3 : (0 : Int) ≤ (k : Int) := by omega
    have HKB := Lib.hid (show k ≤ 10 by have := HL0.out; omega)
    have y1 : IntKind.i64.wrap ((k : Int) + 1) = (k : Int) + 1 := IntWalk.i64_in _ (by have := HKB.out; omega)
    have y1' : wrap64 ((k : Int) + 1) = (k : Int) + 1 := IntWalk.wrap64_in _ (by have := HKB.out; omega)
    have HLT := Lib.hid hlt
    have HME := Lib.hid (And.intro (Nat.succ_le_of_lt hlt) (Nat.sub_lt_sub_left hlt (Nat.lt_succ_self k)))
    have HGB := Lib.hid (show goodB bs k = (decide (0 ≤ gi (gr bs 0) k) && decide (gi (gr bs 0) k ≤ 1000) && decide (0 ≤ gi (gr bs 1) k) && decide (gi (gr bs 1) k ≤ 1000) && (decide (0 < gi (gr bs 0) k) || decide (0 < gi (gr bs 1) k))) from rfl)
    have HNG := Lib.hid (fun (e : goodB bs k = false) => HX.out (fun g => by have := g.2.1 k HLT.out; rw [e] at this; simp at this))
    clear hlt hk
    generalize gi (gr bs 0) k = va at *
    generalize gi (gr bs 1) k = vb at *
    have hT := HT.out.next hBr.below
    have t0 := hT.r0
    have t1 := hT.r1
    have tb := hT.bl
    clear hT
    have c_G := fun j => cell_of_row _ _ j _ _ _ (hBr.get 0 rfl)
    have z_G := hBr.lt 0 rfl
    have HMN := Lib.hid (show (if vb < va then vb else va) = min va vb by rw [Int.min_def]; split <;> split <;> omega)
    have HMX := Lib.hid (show (if va < vb then vb else va) = max va vb by rw [Int.max_def]; split <;> split <;> omega)
    by_cases c1 : min va vb < 0
    · have q1 : decide ((if vb < va then vb else va) < 0) = true := by rw [HMN.out]; simpa using c1
      have HC := Lib.hid (HNG.out (by rw [HGB.out]; simp; omega))
      clear c1
      have HE := Lib.hid hBr.below
      clear hBr
      go_wp2_with fail
      all_goals (go_ret; exact ⟨ret_int HC.out.symm, HE.out⟩)
    have q1 : decide ((if vb < va then vb else va) < 0) = false := by rw [HMN.out]; simpa using c1
    by_cases c2 : 1000 < max va vb
    · have q2 : decide (1000 < if va < vb then vb else va) = true := by rw [HMX.out]; simpa using c2
      have HC := Lib.hid (HNG.out (by rw [HGB.out]; simp; omega))
      clear c1 c2
      have HE := Lib.hid hBr.below
      clear hBr
      go_wp2_with fail
      all_goals (go_ret; exact ⟨ret_int HC.out.symm, HE.out⟩)
    have q2 : decide (1000 < if va < vb then vb else va) = false := by rw [HMX.out]; simpa using c2
    by_cases c3 : max va vb = 0
    · have q3 : ((if va < vb then vb else va) == 0) = true := by rw [HMX.out]; simpa using c3
      have HC := Lib.hid (HNG.out (by rw [HGB.out]; simp; omega))
      clear c1 c2 c3
      have HE := Lib.hid hBr.below
      clear hBr
      go_wp2_with fail
      all_goals (go_ret; exact ⟨ret_int HC.out.symm, HE.out⟩)
    have q3 : ((if va < vb then vb else va) == 0) = false := by rw [HMX.out]; simpa using c3
    have HG1 := Lib.hid (show goodB bs k = true by rw [HGB.out]; simp; omega)
    have HS := Lib.hid (fun j (hj : j < k + 1) => show goodB bs j = true by
      by_cases e : j = k
      · subst e; exact HG1.out
      · exact HA.out j (by omega))
    have HBr := Lib.hid hBr
    clear c1 c2 c3 HA hBr
    clear c_G z_G
    have c_G := fun j => cell_of_row _ _ j _ _ _ (HBr.out.get 0 rfl)
    have z_G := HBr.out.lt 0 rfl
    go_wp2_with fail
    all_goals exact ⟨⟨k + 1, HME.out.1, by go_num, HS.out, HBr.out⟩, by simpa [intOf] using HME.out.2⟩
end Go.Proofs.Ytpijllobpohpgaa

namespace Go.Proofs.Ytpijllobpohpgaa
open Go.RowKit Go.Deep
set_option linter.unusedVariables false
set_option linter.unusedSimpArgs false

theorem goodB_not {bs : List (List Int)} {g : Nat} (h : goodB bs g = true) : (0 ≤ gi (gr bs 0) g ∧ gi (gr bs 0) g ≤ 1000) ∧ (0 ≤ gi (gr bs 1) g ∧ gi (gr bs 1) g ≤ 1000) ∧ (0 < gi (gr bs 0) g ∨ 0 < gi (gr bs 1) g) := by
  simp only [goodB, Bool.and_eq_true, Bool.or_eq_true, decide_eq_true_eq] at h
  omega
theorem sum_zero_none {f : Nat → Int} {k : Nat} (h : ∀ i, i < k → 0 ≤ f i) : sumTo f k = 0 ↔ ¬ ∃ i, i < k ∧ 0 < f i := by
  constructor
  · rintro e ⟨i, hi, hp⟩
    have a := sumTo_le_of_nonneg (f := f) (i := i + 1) (n := k) h (by omega)
    have b := sumTo_nonneg (f := f) (k := i) (fun j hj => h j (by omega))
    rw [sumTo] at a; omega
  · intro hn
    rw [sumTo_congr (g := fun _ => 0) (fun i hi => by
      rcases Int.lt_or_le 0 (f i) with q | q
      · exact absurd ⟨i, hi, q⟩ hn
      · have := h i hi; omega), sumTo_zero]
set_option maxRecDepth 100000 in
set_option maxHeartbeats 16000000 in
theorem fmcheck_any (bs : List (List Int)) (A : Option Addr) (c : Nat) (w : World) (h : GIn w.heap.size w A c bs) :
    Calls Try.prog 11 #[gV A c bs] w fun e w' => e = .returned (.int .i64 (mkCode bs)) ∧ Below w.heap.size w w' := by
  have hm := h.len
  have hc := h.cap
  unfold maxLen at hc
  have HB := Lib.hid h
  have hB0 : Bx w [(w.heap.size, gB A c bs)] (w.alloc (gB A c bs)) := (Bx.start w).new rfl _
  clear h
  go_enter Try.func11, Try.ntmps11
  try dsimp only [List.append]
  go_upto_region 1 with fail
  generalize hw0 : w.alloc (gB A c bs) = w0 at *
  clear hw0
  have c_G := fun j => cell_of_row _ _ j _ _ _ (hB0.get 0 rfl)
  have z_G := hB0.lt 0 rfl
  have HBE := Lib.hid hB0.below
  by_cases h6 : (2 : Int) < (bs.length : Int)
  · have HC := Lib.hid (mk_many (bs := bs) (Or.inl (by omega)))
    go_wp2_with fail
    go_ret
    exact ⟨ret_int HC.out.symm, HBE.out⟩
  have g6 : decide ((2 : Int) < (bs.length : Int)) = false := by simpa using h6
  have g6n : decide (2 < bs.length) = false := by simp; omega
  have h6' : bs.length ≤ 2 := by omega
  have H6 := Lib.hid h6'
  clear h6 h6'
  go_wp2_with fail
  clear g6 g6n
  go_loop [3] (fun i => ∃ k : Nat, k ≤ bs.length ∧ i = .int .i64 k ∧ Hid (∀ j, j < k → (gr bs j).length ≤ 10)) (fun i => bs.length - (intOf i).toNat)
  case atStart => exact ⟨0, Nat.zero_le _, rfl, Lib.hid fun j hj => by omega⟩
  case round =>
    obtain ⟨k, hk, rfl, hno⟩ := hrel
    by_cases hlt : k < bs.length
    · obtain ⟨ad, R, c', rfl, hb, hcc, _, _, _⟩ := (HB.out.rows.next HBE.out).at_ hlt
      by_cases hq : 10 < (gr bs k).length
      · have q1 : decide (10 < (gr bs k).length) = true := by simpa using hq
        have q1i : decide ((10 : Int) < ((gr bs k).length : Int)) = true := decide_eq_true (by omega)
        have HC := Lib.hid (mk_many (bs := bs) (Or.inr ⟨k, hlt, hq⟩))
        clear hno
        go_wp2_with fail
        go_ret
        exact ⟨ret_int HC.out.symm, HBE.out⟩
      · have q1 : decide (10 < (gr bs k).length) = false := by simpa using hq
        have q1i : decide ((10 : Int) < ((gr bs k).length : Int)) = false := decide_eq_false (by omega)
        have HS := Lib.hid (fun j (hj : j < k + 1) => show (gr bs j).length ≤ 10 by
          by_cases e : j = k
          · subst e; omega
          · exact hno.out j (by omega))
        have HME := Lib.hid (And.intro (Nat.succ_le_of_lt hlt) (Nat.sub_lt_sub_left hlt (Nat.lt_succ_self k)))
        clear hno hq
        have y1 : IntKind.i64.wrap ((k : Int) + 1) = (k : Int) + 1 := IntWalk.i64_in _ (by have := H6.out; omega)
        have y1' : wrap64 ((k : Int) + 1) = (k : Int) + 1 := IntWalk.wrap64_in _ (by have := H6.out; omega)
        go_wp2_with fail
        exact ⟨⟨k + 1, HME.out.1, by go_num, HS⟩, by simpa [intOf] using HME.out.2⟩
    obtain rfl : k = bs.length := by omega
    have HNM := Lib.hid (show ¬ MkMany bs from not_mkMany H6.out (fun i hi => hno.out i hi))
    have HX := Lib.hid (fun hg => mk_bad HNM.out hg)
    have HWD := Lib.hid hno.out
    clear hno hk hlt
    by_cases h2 : bs.length = 2
    rotate_left
    · have HC := Lib.hid (HX.out (fun g => h2 g.1.1))
      have q1 : ((bs.length : Int) == 2) = false := beqF (by omega)
      have q1' : ((bs.length : Int) != 2) = true := bneT (by omega)
      have q1n : (bs.length != 2) = true := bneTn h2
      have q1m : (bs.length == 2) = false := beqFn h2
      clear h2
      go_wp2_with fail
      refine wp_region_ext (by kernel_rfl) (by kernel_rfl) ?_
      repeat (first | go_big_quiet_step (fail) | quiet_step (fail))
      refine wpQuiet_nil ?_
      rintro _ ⟨⟨w2, hb⟩, rfl⟩
      have HB2 := Lib.hid (bcall HBE.out HBE.out.size hb)
      clear hb c_G z_G hB0
      go_wp2_with fail
      go_ret
      exact ⟨ret_int HC.out.symm, HB2.out⟩
    obtain ⟨ad, R0, c0, R1, c1, rfl, hT0⟩ := HB.out.two h2
    have HT := Lib.hid hT0
    clear hT0
    have q2 : ((bs.length : Int) != 2) = false := bneF (by omega)
    have q20 : (0 : Int) < (bs.length : Int) := by omega
    have q21 : (1 : Int) < (bs.length : Int) := by omega
    have q2m : (bs.length != 2) = false := bneFn h2
    have HL0 := Lib.hid (HWD.out 0 (by omega))
    have HL1 := Lib.hid (HWD.out 1 (by omega))
    have H2 := Lib.hid h2
    clear h2 HWD
    by_cases hn : 0 < (gr bs 0).length
    rotate_left
    · have HC := Lib.hid (HX.out (fun g => by have := g.1.2.1; omega))
      have q3 : (((gr bs 0).length : Int) == 0) = true := beqT (by omega)
      have q3n : ((gr bs 0).length == 0) = true := beqTn (by omega)
      clear hn
      have hT := HT.out.next (hB0.below)
      have t0 := hT.r0
      have t1 := hT.r1
      have tb := hT.bl
      clear hT
      go_wp2_with fail
      refine wp_region_ext (by kernel_rfl) (by kernel_rfl) ?_
      repeat (first | go_big_quiet_step (fail) | quiet_step (fail))
      refine wpQuiet_nil ?_
      rintro w3 ⟨⟨_, hb⟩, rfl⟩
      have hBx := hB0.next hb
      clear c_G z_G t0 t1 tb hb hB0
      have HE := Lib.hid hBx.below
      clear hBx
      go_wp2_with fail
      all_goals (go_ret; exact ⟨ret_int HC.out.symm, HE.out⟩)
    have q3 : (((gr bs 0).length : Int) == 0) = false := beqF (by omega)
    have q3n : ((gr bs 0).length == 0) = false := beqFn (by omega)
    by_cases hq : (gr bs 0).length = (gr bs 1).length
    rotate_left
    · have HC := Lib.hid (HX.out (fun g => hq g.1.2.2))
      have q4 : (((gr bs 0).length : Int) != ((gr bs 1).length : Int)) = true := bneT (by omega)
      have q4n : ((gr bs 0).length != (gr bs 1).length) = true := bneTn hq
      clear hq hn
      have hT := HT.out.next (hB0.below)
      have t0 := hT.r0
      have t1 := hT.r1
      have tb := hT.bl
      clear hT
      go_wp2_with fail
      refine wp_region_ext (by kernel_rfl) (by kernel_rfl) ?_
      repeat (first | go_big_quiet_step (fail) | quiet_step (fail))
      refine wpQuiet_nil ?_
      rintro w3 ⟨⟨_, hb⟩, rfl⟩
      have hBx := hB0.next hb
      clear c_G z_G t0 t1 tb hb hB0
      have HE := Lib.hid hBx.below
      clear hBx
      go_wp2_with fail
      all_goals (go_ret; exact ⟨ret_int HC.out.symm, HE.out⟩)
    have HEQ := Lib.hid hq
    have q4 : (((gr bs 0).length : Int) != ((gr bs 1).length : Int)) = false := bneF (by omega)
    have q4n : ((gr bs 0).length != (gr bs 1).length) = false := bneFn hq
    have HN := Lib.hid hn
    clear hq hn
    have hT := HT.out.next (hB0.below)
    have t0 := hT.r0
    have t1 := hT.r1
    have tb := hT.bl
    clear hT
    go_wp2_with fail
    refine wp_region_ext (by kernel_rfl) (by kernel_rfl) ?_
    repeat (first | go_big_quiet_step (fail) | quiet_step (fail))
    refine wpQuiet_nil ?_
    rintro w3 ⟨⟨_, hb⟩, rfl⟩
    have hBx := hB0.next hb
    clear c_G z_G t0 t1 tb hb hB0
    clear q2 q2m q3 q3n q4 q4n
    obtain ⟨i0, hi0, hz0, hz1, hz2⟩ := info_parts info3
    have hm2 : ∀ w, Sem.run Try.prog (Instr.makeSlice 40 (.int .i64 2) (.int .i64 2)) w = .ok (.slice (some ⟨w.heap.size, 0, none⟩) 2 2) (w.alloc (.cells (madeCells #[.int .i64 0] 2) 3)) := run_make_row' (P := Try.prog) 40 3 (.int .i64 0) 8 Try.underlying40 info3 rfl .i64 .i64 2 (by omega) (by omega)
    go_upto_region 11 with fail
    have hM1 := (Mx.of_bx hBx).lit (madeCells #[.int .i64 0] 2) 3 1 2 (by unfold maxLen; omega) (by simp [madeCells])
    clear hBx hm2
    have emc : (madeCells #[.int .i64 0] 2).toList = intsV [0, 0] := by rw [toList_madeCells_one]; rfl
    rw [emc] at hM1
    clear emc
    generalize w3.heap.size = gS at *
    generalize w3.alloc _ = w4 at *
    have HM1 := Lib.hid hM1
    clear hM1
    go_wp2_with fail
    go_loopw [5] (fun s wr => ∃ k : Nat, k ≤ (gr bs 0).length ∧ s = .int .i64 k ∧ (∀ j, j < k → goodB bs j = true) ∧ Mx w [(w.heap.size, gB (some ad) c bs)] [⟨.slice (some ⟨gS, 0, none⟩) 2 2, 3, 1, 2, intsV [sumTo (gi (gr bs 0)) k, sumTo (gi (gr bs 1)) k]⟩] wr) (fun s _ => (gr bs 0).length - (intOf s).toNat)
    case atStart => exact ⟨0, Nat.zero_le _, rfl, fun j hj => by omega, HM1.out⟩
    case round =>
      obtain ⟨k, hk, rfl, hall, hMr⟩ := hrel
      have HA := Lib.hid hall
      clear HM1 hall
      by_cases hlt : k < (gr bs 0).length
      rotate_left
      · obtain rfl : k = (gr bs 0).length := by omega
        clear hlt hk
        have HZ0 := Lib.hid (sum_zero_none (f := gi (gr bs 0)) (k := (gr bs 0).length) (fun i hi => (goodB_not (HA.out i hi)).1.1))
        have HZ1 := Lib.hid (sum_zero_none (f := gi (gr bs 1)) (k := (gr bs 0).length) (fun i hi => (goodB_not (HA.out i hi)).2.1.1))
        have HS0 := Lib.hid (show sumTo (gi (gr bs 0)) (gr bs 0).length = 0 → ¬ MkGood bs from fun e g => HZ0.out.1 e g.2.2.1)
        have HS1 := Lib.hid (show sumTo (gi (gr bs 1)) (gr bs 0).length = 0 → ¬ MkGood bs from fun e g => HZ1.out.1 e g.2.2.2)
        have HGO := Lib.hid (fun (e0 : sumTo (gi (gr bs 0)) (gr bs 0).length ≠ 0) (e1 : sumTo (gi (gr bs 1)) (gr bs 0).length ≠ 0) => mk_good HNM.out ⟨⟨H2.out, HN.out, HEQ.out⟩, HA.out,
          (by rcases Classical.em (∃ i, i < (gr bs 0).length ∧ 0 < gi (gr bs 0) i) with q | q
              · exact q
              · exact absurd (HZ0.out.2 q) e0),
          (by rcases Classical.em (∃ i, i < (gr bs 0).length ∧ 0 < gi (gr bs 1) i) with q | q
              · exact q
              · exact absurd (HZ1.out.2 q) e1)⟩)
        clear HZ0 HZ1 HA
        generalize sumTo (gi (gr bs 0)) (gr bs 0).length = m0 at *
        generalize sumTo (gi (gr bs 1)) (gr bs 0).length = m1 at *
        have s0 := (hMr.rowAt 0 rfl).1 0 (.int .i64 m0) (by omega) rfl
        have s1 := (hMr.rowAt 0 rfl).1 1 (.int .i64 m1) (by omega) rfl
        have hT := HT.out.next (hMr.below)
        have t0 := hT.r0
        have t1 := hT.r1
        have tb := hT.bl
        clear hT
        have c_G := fun j => cell_of_row _ _ j _ _ _ (hMr.get 0 rfl)
        have z_G := hMr.lt 0 rfl
        by_cases e0 : m0 = 0
        · have q : (m0 == 0) = true := by simpa using e0
          have HC := Lib.hid (HX.out (HS0.out e0))
          clear e0
          have HE := Lib.hid hMr.below
          clear hMr
          go_wp2_with fail
          all_goals (go_ret; exact ⟨ret_int HC.out.symm, HE.out⟩)
        have q : (m0 == 0) = false := by simpa using e0
        have HE0 := Lib.hid e0
        clear e0
        by_cases e1 : m1 = 0
        · have qq : (m1 == 0) = true := by simpa using e1
          have HC := Lib.hid (HX.out (HS1.out e1))
          clear e1
          have HE := Lib.hid hMr.below
          clear hMr
          go_wp2_with fail
          all_goals (go_ret; exact ⟨ret_int HC.out.symm, HE.out⟩)
        have qq : (m1 == 0) = false := by simpa using e1
        have HC := Lib.hid (HGO.out HE0.out e1)
        clear e1
        have HE := Lib.hid hMr.below
        clear hMr
        go_wp2_with fail
        all_goals (go_ret; exact ⟨ret_int HC.out.symm, HE.out⟩)
      have HLT := Lib.hid hlt
      have HME := Lib.hid (And.intro (Nat.succ_le_of_lt hlt) (Nat.sub_lt_sub_left hlt (Nat.lt_succ_self k)))
      have HKB := Lib.hid (show k ≤ 10 by have := HL0.out; omega)
      have HNG := Lib.hid (fun (e : goodB bs k = false) => HX.out (fun g => by have := g.2.1 k HLT.out; rw [e] at this; simp at this))
      have HSB := Lib.hid (show (0 ≤ sumTo (gi (gr bs 0)) k ∧ sumTo (gi (gr bs 0)) k ≤ 10000) ∧ (0 ≤ sumTo (gi (gr bs 1)) k ∧ sumTo (gi (gr bs 1)) k ≤ 10000) by
        have a := sumTo_bd (f := gi (gr bs 0)) (lo := 0) (hi := 1000) (k := k) (fun i hi => (goodB_not (HA.out i hi)).1)
        have b := sumTo_bd (f := gi (gr bs 1)) (lo := 0) (hi := 1000) (k := k) (fun i hi => (goodB_not (HA.out i hi)).2.1)
        have := HKB.out
        omega)
      have HSE := Lib.hid (show sumTo (gi (gr bs 0)) (k + 1) = sumTo (gi (gr bs 0)) k + gi (gr bs 0) k ∧ sumTo (gi (gr bs 1)) (k + 1) = sumTo (gi (gr bs 1)) k + gi (gr bs 1) k from ⟨rfl, rfl⟩)
      have HGB := Lib.hid (show goodB bs k = (decide (0 ≤ gi (gr bs 0) k) && decide (gi (gr bs 0) k ≤ 1000) && decide (0 ≤ gi (gr bs 1) k) && decide (gi (gr bs 1) k ≤ 1000) && (decide (0 < gi (gr bs 0) k) || decide (0 < gi (gr bs 1) k))) from rfl)
      obtain ⟨a0, rfl, _, _⟩ := HT.out.i0.at_ hlt
      obtain ⟨a1, rfl, _, _⟩ := HT.out.i1.at_ (show k < (gr bs 1).length by have := HEQ.out; omega)
      have HV := Lib.hid (fun (W : World) (hW : Below w.heap.size w W) => show (W.cell? (a0.add k) = some (.int .i64 (gi (gr bs 0) k)) ∧ (a0.add k).block < W.heap.size) ∧ (W.cell? (a1.add k) = some (.int .i64 (gi (gr bs 1) k)) ∧ (a1.add k).block < W.heap.size) by
        obtain ⟨x, ex, bx, cx⟩ := (HT.out.next hW).i0.at_ HLT.out
        obtain rfl : a0 = x := by simpa using ex
        obtain ⟨y, ey, b_y, cy⟩ := (HT.out.next hW).i1.at_ (show k < (gr bs 1).length by have := HEQ.out; have := HLT.out; omega)
        obtain rfl : a1 = y := by simpa using ey
        exact ⟨⟨cx, by rw [block_add]; exact bx⟩, ⟨cy, by rw [block_add]; exact b_y⟩⟩)
      have z1 : (k : Int) < ((gr bs 0).length : Int) := by omega
      have z2 : (k : Int) < ((gr bs 1).length : Int) := by have := HEQ.out; omega
      have z3 : (0 : Int) ≤ (k : Int) := by omega
      clear hlt hk
      generalize gi (gr bs 0) k = va at *
      generalize gi (gr bs 1) k = vb at *
      generalize sumTo (gi (gr bs 0)) k = sa at *
      generalize sumTo (gi (gr bs 1)) k = sb at *
      have HMi := Lib.hid hMr
      have hT := HT.out.next (hMr.below)
      have t0 := hT.r0
      have t1 := hT.r1
      have tb := hT.bl
      clear hT
      have c_G := fun j => cell_of_row _ _ j _ _ _ (hMr.get 0 rfl)
      have z_G := hMr.lt 0 rfl
      go_wp2_with fail
      clear c_G z_G t0 t1 tb hMr
      go_loopw [6] (fun s wr => ∃ i : Nat, i ≤ 2 ∧ s = .int .i64 i ∧ (1 ≤ i → 0 ≤ va ∧ va ≤ 1000) ∧ (2 ≤ i → 0 ≤ vb ∧ vb ≤ 1000) ∧ Mx w [(w.heap.size, gB (some ad) c bs)] [⟨.slice (some ⟨gS, 0, none⟩) 2 2, 3, 1, 2, intsV [if i = 0 then sa else sa + va, if i = 2 then sb + vb else sb]⟩] wr) (fun s _ => 2 - (intOf s).toNat)
      case atStart => exact ⟨0, by omega, rfl, fun h => by omega, fun h => by omega, HMi.out⟩
      case round =>
        obtain ⟨i, hi, rfl, hv0, hv1, hMs⟩ := hrel
        clear HMi
        have hc3 : i = 0 ∨ i = 1 ∨ i = 2 := by omega
        clear hi
        rcases hc3 with rfl | rfl | rfl
        · have hT := HT.out.next (hMs.below)
          have t0 := hT.r0
          have t1 := hT.r1
          have tb := hT.bl
          clear hT
          have c_G := fun j => cell_of_row _ _ j _ _ _ (hMs.get 0 rfl)
          have z_G := hMs.lt 0 rfl
          have hv := HV.out _ hMs.below
          have v0 := hv.1.1
          clear hv
          by_cases c1 : va < 0
          · have q1 : decide (va < 0) = true := by simpa using c1
            have HC := Lib.hid (HNG.out (by rw [HGB.out]; simp; omega))
            clear c1
            have HE := Lib.hid hMs.below
            clear hMs
            go_wp2_with fail
            all_goals (go_ret; exact ⟨ret_int HC.out.symm, HE.out⟩)
          have q1 : decide (va < 0) = false := by simpa using c1
          by_cases c2 : 1000 < va
          · have q2 : decide (1000 < va) = true := by simpa using c2
            have HC := Lib.hid (HNG.out (by rw [HGB.out]; simp; omega))
            clear c1 c2
            have HE := Lib.hid hMs.below
            clear hMs
            go_wp2_with fail
            all_goals (go_ret; exact ⟨ret_int HC.out.symm, HE.out⟩)
          have q2 : decide (1000 < va) = false := by simpa using c2
          have HVB := Lib.hid (show 0 ≤ va ∧ va ≤ 1000 by omega)
          have HV0 := Lib.hid hv0
          clear c1 c2 hv0 hv1
          have x1 : IntKind.i64.wrap (sa + va) = sa + va := IntWalk.i64_in _ (by have := HSB.out; have := HVB.out; omega)
          have x1' : wrap64 (sa + va) = sa + va := IntWalk.wrap64_in _ (by have := HSB.out; have := HVB.out; omega)
          go_upto_region 19 with fail
          clear c_G z_G t0 t1 tb v0
          have hM6 : Mx w [(w.heap.size, gB (some ad) c bs)] [⟨.slice (some ⟨gS, 0, none⟩) 2 2, 3, 1, 2, intsV [sa, sb]⟩] wr := hMs
          clear hMs
          refine wp_region_R (Bx w [(w.heap.size, gB (some ad) c bs)]) 15 (by kernel_rfl) (by rfl) ((hM6.keep (List.Sublist.cons_cons _ (List.nil_sublist _))).drew) (fun wq1 hbq => ?_)
          have hB41 := hM6.next hbq
          clear hM6 hbq
          refine wpAnyE_goR (Bx.grows _ _) (hB41.keep (List.Sublist.cons_cons _ (List.nil_sublist _))) [0, 1, 2, 4, 5, 6, 7, 8, 9, 10, 11] 4 (by kernel_rfl) ?_
          apply Exists.intro
          refine ⟨fun G hG hN => ?_, ?_⟩
          · have c_G := fun (e : GE (Bx w [(w.heap.size, gB (some ad) c bs)]) G) j => cell_of_row e.w _ j _ _ _ ((GE.h e).get 0 rfl)
            have z_G := fun (e : GE (Bx w [(w.heap.size, gB (some ad) c bs)]) G) => (GE.h e).lt 0 rfl
            have e0 := fun (e : GE (Bx w [(w.heap.size, gB (some ad) c bs)]) G) => (HT.out.next (GE.h e).below).r0
            have e1 := fun (e : GE (Bx w [(w.heap.size, gB (some ad) c bs)]) G) => (HT.out.next (GE.h e).below).r1
            have eb := fun (e : GE (Bx w [(w.heap.size, gB (some ad) c bs)]) G) => (HT.out.next (GE.h e).below).bl
            have ev := fun (e : GE (Bx w [(w.heap.size, gB (some ad) c bs)]) G) => (HV.out e.w (GE.h e).below).1.1
            simp only [pickOps, List.getElem?_toArray, List.getElem?_cons_zero, List.getElem?_cons_succ]
            repeat (first | go_big_quiet_step (fail) | quiet_step (fail))
            exact wpQuiet_nil rfl
          refine wpAnyE_all (rs := [3]) (by kernel_rfl) (by simp) (fun wa2 hwa2 hRwa2 i hi => ?_)
          have hB42 := hB41.next hwa2
          clear hB41 hwa2 hRwa2
          obtain rfl := List.mem_singleton.1 hi
          refine wpOp_step rfl (fun Kc hKc => ?_)
          have sc := (hB42.rowAt 0 rfl).1 0 (.int .i64 sa) (by omega) rfl
          have sg := (hB42.rowAt 0 rfl).2.2
          go_simp
          refine hKc _ _ ⟨(hB42.keep (List.Sublist.cons_cons _ (List.nil_sublist _))), ?_⟩
          clear hKc Kc sc sg
          refine wpAnyE_goR (Bx.grows _ _) (hB42.keep (List.Sublist.cons_cons _ (List.nil_sublist _))) [12, 13] 1 (by kernel_rfl) ?_
          apply Exists.intro
          refine ⟨fun G hG hN => ?_, ?_⟩
          · have c_G := fun (e : GE (Bx w [(w.heap.size, gB (some ad) c bs)]) G) j => cell_of_row e.w _ j _ _ _ ((GE.h e).get 0 rfl)
            have z_G := fun (e : GE (Bx w [(w.heap.size, gB (some ad) c bs)]) G) => (GE.h e).lt 0 rfl
            have e0 := fun (e : GE (Bx w [(w.heap.size, gB (some ad) c bs)]) G) => (HT.out.next (GE.h e).below).r0
            have e1 := fun (e : GE (Bx w [(w.heap.size, gB (some ad) c bs)]) G) => (HT.out.next (GE.h e).below).r1
            have eb := fun (e : GE (Bx w [(w.heap.size, gB (some ad) c bs)]) G) => (HT.out.next (GE.h e).below).bl
            have ev := fun (e : GE (Bx w [(w.heap.size, gB (some ad) c bs)]) G) => (HV.out e.w (GE.h e).below).1.1
            simp only [pickOps, List.getElem?_toArray, List.getElem?_cons_zero, List.getElem?_cons_succ]
            repeat (first | go_big_quiet_step (fail) | quiet_step (fail))
            exact wpQuiet_nil rfl
          refine wpAnyE_all (rs := [14]) (by kernel_rfl) (by simp) (fun wa3 hwa3 hRwa3 i hi => ?_)
          have hB43 := hB42.next hwa3
          clear hB42 hwa3 hRwa3
          obtain rfl := List.mem_singleton.1 hi
          refine wpOp_step rfl (fun Kc hKc => ?_)
          have sc := (hB43.rowAt 0 rfl).1 0 (.int .i64 sa) (by omega) rfl
          have sf := (hB43.rowAt 0 rfl).2.1
          have sg := (hB43.rowAt 0 rfl).2.2
          go_simp
          have hB44 : Mx w _ [⟨.slice (some ⟨gS, 0, none⟩) 2 2, 3, 1, 2, intsV [sa + va, sb]⟩] _ := hB43.setRow 0 rfl 0 (.int .i64 (sa + va))
          refine hKc _ _ ⟨(hB44.keep (List.Sublist.cons_cons _ (List.nil_sublist _))), ?_⟩
          clear hKc Kc hB43 sc sf sg
          generalize wa3.setCell _ _ = wb4 at *
          refine wpAnyE_done (by kernel_rfl) (fun wd5 hwd5 hRwd5 => ?_) _
          refine NoPanic.normal ?_
          have hB45 := hB44.next hwd5
          clear hB44 hwd5 hRwd5
          have HZ := Lib.hid hB45
          clear hB45
          go_wp2_with fail
          exact ⟨⟨1, by omega, by go_num, fun _ => HVB.out, fun h => by omega, HZ.out⟩, by simp [intOf]⟩
        · have hT := HT.out.next (hMs.below)
          have t0 := hT.r0
          have t1 := hT.r1
          have tb := hT.bl
          clear hT
          have c_G := fun j => cell_of_row _ _ j _ _ _ (hMs.get 0 rfl)
          have z_G := hMs.lt 0 rfl
          have hv := HV.out _ hMs.below
          have v0 := hv.2.1
          clear hv
          by_cases c1 : vb < 0
          · have q1 : decide (vb < 0) = true := by simpa using c1
            have HC := Lib.hid (HNG.out (by rw [HGB.out]; simp; omega))
            clear c1
            have HE := Lib.hid hMs.below
            clear hMs
            go_wp2_with fail
            all_goals (go_ret; exact ⟨ret_int HC.out.symm, HE.out⟩)
          have q1 : decide (vb < 0) = false := by simpa using c1
          by_cases c2 : 1000 < vb
          · have q2 : decide (1000 < vb) = true := by simpa using c2
            have HC := Lib.hid (HNG.out (by rw [HGB.out]; simp; omega))
            clear c1 c2
            have HE := Lib.hid hMs.below
            clear hMs
            go_wp2_with fail
            all_goals (go_ret; exact ⟨ret_int HC.out.symm, HE.out⟩)
          have q2 : decide (1000 < vb) = false := by simpa using c2
          have HVB := Lib.hid (show 0 ≤ vb ∧ vb ≤ 1000 by omega)
          have HV0 := Lib.hid hv0
          clear c1 c2 hv0 hv1
          have x1 : IntKind.i64.wrap (sb + vb) = sb + vb := IntWalk.i64_in _ (by have := HSB.out; have := HVB.out; omega)
          have x1' : wrap64 (sb + vb) = sb + vb := IntWalk.wrap64_in _ (by have := HSB.out; have := HVB.out; omega)
          go_upto_region 19 with fail
          clear c_G z_G t0 t1 tb v0
          have hM6 : Mx w [(w.heap.size, gB (some ad) c bs)] [⟨.slice (some ⟨gS, 0, none⟩) 2 2, 3, 1, 2, intsV [sa + va, sb]⟩] wr := hMs
          clear hMs
          refine wp_region_R (Bx w [(w.heap.size, gB (some ad) c bs)]) 15 (by kernel_rfl) (by rfl) ((hM6.keep (List.Sublist.cons_cons _ (List.nil_sublist _))).drew) (fun wq6 hbq => ?_)
          have hB41 := hM6.next hbq
          clear hM6 hbq
          refine wpAnyE_goR (Bx.grows _ _) (hB41.keep (List.Sublist.cons_cons _ (List.nil_sublist _))) [0, 1, 2, 4, 5, 6, 7, 8, 9, 10, 11] 4 (by kernel_rfl) ?_
          apply Exists.intro
          refine ⟨fun G hG hN => ?_, ?_⟩
          · have c_G := fun (e : GE (Bx w [(w.heap.size, gB (some ad) c bs)]) G) j => cell_of_row e.w _ j _ _ _ ((GE.h e).get 0 rfl)
            have z_G := fun (e : GE (Bx w [(w.heap.size, gB (some ad) c bs)]) G) => (GE.h e).lt 0 rfl
            have e0 := fun (e : GE (Bx w [(w.heap.size, gB (some ad) c bs)]) G) => (HT.out.next (GE.h e).below).r0
            have e1 := fun (e : GE (Bx w [(w.heap.size, gB (some ad) c bs)]) G) => (HT.out.next (GE.h e).below).r1
            have eb := fun (e : GE (Bx w [(w.heap.size, gB (some ad) c bs)]) G) => (HT.out.next (GE.h e).below).bl
            have ev := fun (e : GE (Bx w [(w.heap.size, gB (some ad) c bs)]) G) => (HV.out e.w (GE.h e).below).2.1
            simp only [pickOps, List.getElem?_toArray, List.getElem?_cons_zero, List.getElem?_cons_succ]
            repeat (first | go_big_quiet_step (fail) | quiet_step (fail))
            exact wpQuiet_nil rfl
          refine wpAnyE_all (rs := [3]) (by kernel_rfl) (by simp) (fun wa7 hwa7 hRwa7 i hi => ?_)
          have hB42 := hB41.next hwa7
          clear hB41 hwa7 hRwa7
          obtain rfl := List.mem_singleton.1 hi
          refine wpOp_step rfl (fun Kc hKc => ?_)
          have sc := (hB42.rowAt 0 rfl).1 1 (.int .i64 sb) (by omega) rfl
          have sg := (hB42.rowAt 0 rfl).2.2
          go_simp
          refine hKc _ _ ⟨(hB42.keep (List.Sublist.cons_cons _ (List.nil_sublist _))), ?_⟩
          clear hKc Kc sc sg
          refine wpAnyE_goR (Bx.grows _ _) (hB42.keep (List.Sublist.cons_cons _ (List.nil_sublist _))) [12, 13] 1 (by kernel_rfl) ?_
          apply Exists.intro
          refine ⟨fun G hG hN => ?_, ?_⟩
          · have c_G := fun (e : GE (Bx w [(w.heap.size, gB (some ad) c bs)]) G) j => cell_of_row e.w _ j _ _ _ ((GE.h e).get 0 rfl)
            have z_G := fun (e : GE (Bx w [(w.heap.size, gB (some ad) c bs)]) G) => (GE.h e).lt 0 rfl
            have e0 := fun (e : GE (Bx w [(w.heap.size, gB (some ad) c bs)]) G) => (HT.out.next (GE.h e).below).r0
            have e1 := fun (e : GE (Bx w [(w.heap.size, gB (some ad) c bs)]) G) => (HT.out.next (GE.h e).below).r1
            have eb := fun (e : GE (Bx w [(w.heap.size, gB (some ad) c bs)]) G) => (HT.out.next (GE.h e).below).bl
            have ev := fun (e : GE (Bx w [(w.heap.size, gB (some ad) c bs)]) G) => (HV.out e.w (GE.h e).below).2.1
            simp only [pickOps, List.getElem?_toArray, List.getElem?_cons_zero, List.getElem?_cons_succ]
            repeat (first | go_big_quiet_step (fail) | quiet_step (fail))
            exact wpQuiet_nil rfl
          refine wpAnyE_all (rs := [14]) (by kernel_rfl) (by simp) (fun wa8 hwa8 hRwa8 i hi => ?_)
          have hB43 := hB42.next hwa8
          clear hB42 hwa8 hRwa8
          obtain rfl := List.mem_singleton.1 hi
          refine wpOp_step rfl (fun Kc hKc => ?_)
          have sc := (hB43.rowAt 0 rfl).1 1 (.int .i64 sb) (by omega) rfl
          have sf := (hB43.rowAt 0 rfl).2.1
          have sg := (hB43.rowAt 0 rfl).2.2
          go_simp
          have hB44 : Mx w _ [⟨.slice (some ⟨gS, 0, none⟩) 2 2, 3, 1, 2, intsV [sa + va, sb + vb]⟩] _ := hB43.setRow 0 rfl 1 (.int .i64 (sb + vb))
          refine hKc _ _ ⟨(hB44.keep (List.Sublist.cons_cons _ (List.nil_sublist _))), ?_⟩
          clear hKc Kc hB43 sc sf sg
          generalize wa8.setCell _ _ = wb9 at *
          refine wpAnyE_done (by kernel_rfl) (fun wd10 hwd10 hRwd10 => ?_) _
          refine NoPanic.normal ?_
          have hB45 := hB44.next hwd10
          clear hB44 hwd10 hRwd10
          have HZ := Lib.hid hB45
          clear hB45
          go_wp2_with fail
          exact ⟨⟨2, by omega, by go_num, fun _ => HV0.out (by omega), fun _ => HVB.out, HZ.out⟩, by simp [intOf]⟩
        · have hM6 : Mx w [(w.heap.size, gB (some ad) c bs)] [⟨.slice (some ⟨gS, 0, none⟩) 2 2, 3, 1, 2, intsV [sa + va, sb + vb]⟩] wr := hMs
          have HVA := Lib.hid (hv0 (by omega))
          have HVB := Lib.hid (hv1 (by omega))
          clear hMs hv0 hv1
          have hT := HT.out.next (hM6.below)
          have t0 := hT.r0
          have t1 := hT.r1
          have tb := hT.bl
          clear hT
          have c_G := fun j => cell_of_row _ _ j _ _ _ (hM6.get 0 rfl)
          have z_G := hM6.lt 0 rfl
          have hv := HV.out _ hM6.below
          have v0 := hv.1.1
          have v1 := hv.2.1
          clear hv
          by_cases c1 : va = 0
          · by_cases c2 : vb = 0
            · have q1 : (va == 0) = true := by simpa using c1
              have q2 : (vb == 0) = true := by simpa using c2
              have HC := Lib.hid (HNG.out (by rw [HGB.out]; simp; omega))
              clear c1 c2
              have HE := Lib.hid hM6.below
              clear hM6
              go_wp2_with fail
              all_goals (go_ret; exact ⟨ret_int HC.out.symm, HE.out⟩)
            · have q1 : (va == 0) = true := by simpa using c1
              have q2 : (vb == 0) = false := by simpa using c2
              have HG1 := Lib.hid (show goodB bs k = true by rw [HGB.out]; have := HVA.out; have := HVB.out; simp; omega)
              clear c1 c2
              have HS := Lib.hid (fun j (hj : j < k + 1) => show goodB bs j = true by
                by_cases e : j = k
                · subst e; exact HG1.out
                · exact HA.out j (by omega))
              have y1 : IntKind.i64.wrap ((k : Int) + 1) = (k : Int) + 1 := IntWalk.i64_in _ (by have := HKB.out; omega)
              have y1' : wrap64 ((k : Int) + 1) = (k : Int) + 1 := IntWalk.wrap64_in _ (by have := HKB.out; omega)
              have HZ := Lib.hid hM6
              clear hM6
              go_wp2_with fail
              exact ⟨⟨k + 1, HME.out.1, by go_num, HS.out, by rw [HSE.out.1, HSE.out.2]; exact HZ.out⟩, by simpa [intOf] using HME.out.2⟩
          have q1 : (va == 0) = false := by simpa using c1
          have HG1 := Lib.hid (show goodB bs k = true by rw [HGB.out]; have := HVA.out; have := HVB.out; simp; omega)
          clear c1
          have HS := Lib.hid (fun j (hj : j < k + 1) => show goodB bs j = true by
            by_cases e : j = k
            · subst e; exact HG1.out
            · exact HA.out j (by omega))
          have y1 : IntKind.i64.wrap ((k : Int) + 1) = (k : Int) + 1 := IntWalk.i64_in _ (by have := HKB.out; omega)
          have y1' : wrap64 ((k : Int) + 1) = (k : Int) + 1 := IntWalk.wrap64_in _ (by have := HKB.out; omega)
          have HZ := Lib.hid hM6
          clear hM6
          go_wp2_with fail
          exact ⟨⟨k + 1, HME.out.1, by go_num, HS.out, by rw [HSE.out.1, HSE.out.2]; exact HZ.out⟩, by simpa [intOf] using HME.out.2⟩
end Go.Proofs.Ytpijllobpohpgaa
