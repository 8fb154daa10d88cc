/- EstateFair returns true for every estate. -/
import Derived.Test.YtedgdmblpjfaiaaFairPlain
import Derived.Test.YtedgdmblpjfaiaaAlive
import Derived.Test.YtedgdmblpjfaiaaAccept
namespace Go.Proofs.Ytedgdmblpjfaiaa
open Go.RowKit Go.Deep
set_option linter.unusedVariables false
set_option linter.unusedSimpArgs false

section
variable {E : Est} {A : Option Addr} {c : Nat} {R : Option Addr} {d : Nat} {w : World}
def ListOk (w : World) (n : Nat) (l : List Int) (e : Ending) (w' : World) : Prop :=
  ∃ O oc, e = .returned (.tuple #[.slice O n oc, .int .i64 0]) ∧ Ints w'.heap.size w' O l ∧ Below w.heap.size w w'
theorem owners_ok (hc : E.code = 0) (h : EIn w.heap.size w A c R d E) : Calls Try.prog 13 #[eV A c R d E] w (ListOk w E.m (ownersL E E.m)) :=
  (owners_any E A c R d w h).mono fun e w' ⟨O, oc, he, hO, hb⟩ => by
    rw [ownersR, if_pos hc] at he hO; rw [ownersL_length, hc] at he; exact ⟨O, oc, he, hO, hb⟩
theorem claims_ok (hc : E.code = 0) (h : EIn w.heap.size w A c R d E) : Calls Try.prog 15 #[eV A c R d E] w (ListOk w E.sh.length (claimsL E E.sh.length)) :=
  (claims_any E A c R d w h).mono fun e w' ⟨O, oc, he, hO, hb⟩ => by
    rw [claimsR, if_pos hc] at he hO; rw [claimsL_length, hc] at he; exact ⟨O, oc, he, hO, hb⟩
theorem exact_ok (hc : E.code = 0) (h : EIn w.heap.size w A c R d E) : Calls Try.prog 19 #[eV A c R d E] w (ListOk w E.sh.length (exactL E)) :=
  (exact_any E A c R d w h).mono fun e w' ⟨O, oc, he, hO, hb⟩ => by
    rw [exactR, if_pos hc] at he hO; rw [exactL, mapL_length, hc] at he; exact ⟨O, oc, he, hO, hb⟩
theorem pay_ok (hc : E.code = 0) (h : EIn w.heap.size w A c R d E) : Calls Try.prog 21 #[eV A c R d E] w (ListOk w E.sh.length (payL E)) :=
  (pay_any E A c R d w h).mono fun e w' ⟨O, oc, he, hO, hb⟩ => by
    rw [payR, if_pos hc] at he hO; rw [payL_length, hc] at he; exact ⟨O, oc, he, hO, hb⟩
theorem pool_ok (hc : E.code = 0) (h : EIn w.heap.size w A c R d E) : Calls Try.prog 17 #[eV A c R d E] w fun e w' => e = .returned (.tuple #[.int .i64 E.pool, .int .i64 0]) ∧ Below w.heap.size w w' :=
  (pool_any E A c R d w h).mono fun e w' ⟨he, hb⟩ => by
    rw [poolR, if_pos hc, hc] at he; exact ⟨he, hb⟩
end

theorem mul_bd2 {a x K M : Int} (h0 : 0 ≤ a) (h1 : a ≤ K) (hl : -M ≤ x) (hh : x ≤ M) (hM : 0 ≤ M) : -(K * M) ≤ a * x ∧ a * x ≤ K * M := by
  have e1 : a * x ≤ a * M := Int.mul_le_mul_of_nonneg_left hh h0
  have e2 : a * M ≤ K * M := Int.mul_le_mul_of_nonneg_right h1 hM
  have e3 : a * (-M) ≤ a * x := Int.mul_le_mul_of_nonneg_left hl h0
  rw [Int.mul_neg] at e3
  omega

/-- What the loop of the law keeps. -/
structure FairIn (w : World) (E : Est) (A : Option Addr) (c : Nat) (R : Option Addr) (d : Nat) (O P Q C : Option Addr) (wr : World) : Prop where
  e : EstIn w E A c R d wr
  o : Ints wr.heap.size wr O (ownersL E E.m)
  p : Ints wr.heap.size wr P (payL E)
  q : Ints wr.heap.size wr Q (exactL E)
  c : Ints wr.heap.size wr C (claimsL E E.sh.length)
theorem FairIn.next {w : World} {E : Est} {A : Option Addr} {c : Nat} {R : Option Addr} {d : Nat} {O P Q C : Option Addr} {wr w1 : World} (h : FairIn w E A c R d O P Q C wr) (hb : Below wr.heap.size wr w1) : FairIn w E A c R d O P Q C w1 :=
  ⟨h.e.next hb, h.o.next hb, h.p.next hb, h.q.next hb, h.c.next hb⟩
theorem FairIn.drewN {w : World} {E : Est} {A : Option Addr} {c : Nat} {R : Option Addr} {d : Nat} {O P Q C : Option Addr} {wr : World} (h : FairIn w E A c R d O P Q C wr) (n : Nat) : FairIn w E A c R d O P Q C (wr.drewN n) :=
  h.next (below_drewN (Below.refl _ _) n)

set_option maxRecDepth 100000 in
set_option maxHeartbeats 8000000 in
theorem fair_walk (E : Est) (A : Option Addr) (c : Nat) (R : Option Addr) (d : Nat) (w : World) (h : EIn w.heap.size w A c R d E) :
    Calls Try.prog 9 #[eV A c R d E] w fun e w' => e = .returned (.bool true) ∧ Below w.heap.size w w' := by
  have hW0 := EstIn.start h
  clear h
  go_enter Try.func9, Try.ntmps9
  try dsimp only [List.append]
  go_wp2_with fail
  refine (alive_any _).mono ?_
  rintro e w1 ⟨rfl, hb1⟩
  have hW1 := hW0.next hb1
  have cbx := fun j => cell_of_row w1 _ j _ _ _ hW1.bx
  clear hb1 hW0
  go_wp2_with fail
  refine (check_ref E A c R d _ hW1.e).mono ?_
  rintro e w2 ⟨rfl, hb2⟩
  have hW2 := hW1.next hb2
  clear hb2 hW1 cbx
  by_cases hc : E.code = 0
  rotate_left
  · have q1 : (E.code != 0) = true := by simpa using hc
    clear hc
    go_wp2_with fail
    go_ret
    exact ⟨rfl, hW2.below⟩
  have hE := Est.ok_of_code hc
  have HC := Lib.hid hc
  have HE := Lib.hid hE
  have q1 : (E.code != 0) = false := by simpa using hc
  have cbx := fun j => cell_of_row w2 _ j _ _ _ hW2.bx
  clear hc hE
  go_wp2_with fail
  refine (owners_ok HC.out hW2.e).mono ?_
  rintro e w3 ⟨O, oc, rfl, hO, hb3⟩
  have hW3 := hW2.next hb3
  clear hb3 hW2 cbx
  have cbx := fun j => cell_of_row w3 _ j _ _ _ hW3.bx
  go_wp2_with fail
  refine (pay_ok HC.out hW3.e).mono ?_
  rintro e w4 ⟨P, pc, rfl, hP, hb4⟩
  have hW4 := hW3.next hb4
  have hO4 := hO.next hb4
  clear hb4 hW3 cbx hO
  have cbx := fun j => cell_of_row w4 _ j _ _ _ hW4.bx
  go_wp2_with fail
  refine (exact_ok HC.out hW4.e).mono ?_
  rintro e w5 ⟨Q, qc, rfl, hQ, hb5⟩
  have hW5 := hW4.next hb5
  have hO5 := hO4.next hb5
  have hP5 := hP.next hb5
  clear hb5 hW4 cbx hO4 hP
  have cbx := fun j => cell_of_row w5 _ j _ _ _ hW5.bx
  go_wp2_with fail
  refine (claims_ok HC.out hW5.e).mono ?_
  rintro e w6 ⟨C, cc, rfl, hC, hb6⟩
  have hW6 := hW5.next hb6
  have hO6 := hO5.next hb6
  have hP6 := hP5.next hb6
  have hQ6 := hQ.next hb6
  clear hb6 hW5 cbx hO5 hP5 hQ
  have cbx := fun j => cell_of_row w6 _ j _ _ _ hW6.bx
  have HA := Lib.hid (accept_any E A c R d O oc (ownersL E E.m) P pc (payL E) w6 hW6.e hO6 hP6 (by rw [ownersL_length]; have := HE.out.m30; unfold maxLen; omega) (by rw [payL_length]; have : E.sh.length ≤ 10 := HE.out.n10; unfold maxLen; omega))
  rw [ownersL_length, payL_length, accRes, accepted HC.out HE.out, HC.out] at HA
  go_wp2_with fail
  refine HA.out.mono ?_
  rintro e w7 ⟨rfl, hb7⟩
  have hF : FairIn w E A c R d O P Q C w7 := ⟨hW6.next hb7, hO6.next hb7, hP6.next hb7, hQ6.next hb7, hC.next hb7⟩
  clear hb7 hW6 cbx hO6 hP6 hQ6 hC HA
  have cbx := fun j => cell_of_row w7 _ j _ _ _ hF.e.bx
  go_wp2_with fail
  refine (sumref_any E HE.out A c R d _ hF.e.e).mono ?_
  rintro e w8 ⟨rfl, hb8⟩
  have hF8 := hF.next hb8
  clear hb8 hF cbx
  have hn10 : E.sh.length ≤ 10 := HE.out.n10
  have hS := HE.out.S_bd
  have hS1 := hS.1
  have hS2 := hS.2
  have hDb := HE.out.D_bd
  have hD1 : 1 ≤ E.S * E.S := hDb.1
  have hD2 : E.S * E.S ≤ 1000000 := hDb.2
  go_wp2_with fail
  go_loopw [16, 17, 18] (fun a b i wr => ∃ k : Nat, k ≤ E.sh.length ∧ i = .int .i64 k ∧ a = .int .i64 (sumTo E.pay k) ∧ b = .int .i64 (sumTo E.exact k) ∧ FairIn w E A c R d O P Q C wr) (fun _ _ i _ => E.sh.length - (intOf i).toNat)
  case atStart => exact ⟨0, Nat.zero_le _, rfl, rfl, rfl, hF8⟩
  case round =>
    clear hF8
    obtain ⟨k, hk, rfl, rfl, rfl, hF⟩ := hrel
    have cbx := fun j => cell_of_row wr _ j _ _ _ hF.e.bx
    by_cases hlt : k < E.sh.length
    · obtain ⟨ap, rfl, hap, c1⟩ := hF.p.at_ (k := k) (by rw [payL_length]; exact hlt)
      obtain ⟨aq, rfl, haq, c2⟩ := hF.q.at_ (k := k) (by rw [exactL, mapL_length]; exact hlt)
      rw [payL_gi hlt] at c1
      rw [exactL, mapL_gi hlt] at c2
      have i1 : (k : Int) < (E.sh.length : Int) := by omega
      have b1 := sumTo_bd (f := E.pay) (lo := -1000000000) (hi := 1000000000) (k := k) (fun i hi => HE.out.pay_bd i (Nat.lt_trans hi hlt))
      have b2 := sumTo_bd (f := E.exact) (lo := -400000000000000) (hi := 400000000000000) (k := k) (fun i hi => HE.out.exact_bd i (Nat.lt_trans hi hlt))
      have b3 := HE.out.pay_bd k hlt
      have b4 := HE.out.exact_bd k hlt
      have t1 : -20000000000 ≤ sumTo E.pay k + E.pay k := by omega
      have t2 : sumTo E.pay k + E.pay k ≤ 20000000000 := by omega
      have t3 : -8000000000000000 ≤ sumTo E.exact k + E.exact k := by omega
      have t4 : sumTo E.exact k + E.exact k ≤ 8000000000000000 := by omega
      have HWO := Lib.hid (worth_any E HE.out A c R d O oc (ownersL E E.m) k hlt (by rw [ownersL_length]; exact Nat.le_refl _) wr hF.e.e hF.o)
      rw [ownersL_length, worth_owners] at HWO
      go_wp2_with fail
      refine HWO.out.mono ?_
      rintro e w9 ⟨rfl, hb9⟩
      have hF9 := hF.next hb9
      clear hb9 hF cbx c1 c2 hap haq HWO
      have cbx := fun j => cell_of_row w9 _ j _ _ _ hF9.e.bx
      obtain ⟨ap', e1, hap, c1⟩ := hF9.p.at_ (k := k) (by rw [payL_length]; exact hlt)
      obtain rfl : ap = ap' := by simpa using e1
      obtain ⟨aq', e2, haq, c2⟩ := hF9.q.at_ (k := k) (by rw [exactL, mapL_length]; exact hlt)
      obtain rfl : aq = aq' := by simpa using e2
      obtain ⟨ac, rfl, hac, c3⟩ := hF9.c.at_ (k := k) (by rw [claimsL_length]; exact hlt)
      rw [payL_gi hlt] at c1
      rw [exactL, mapL_gi hlt] at c2
      rw [claimsL_gi hlt] at c3
      have f1 := HE.out.claim_lt k hlt
      have f2 := HE.out.exact_ge k hlt
      have f3 := HE.out.round k
      have f4 := HE.out.pay_nonneg k hlt
      have f5 := HE.out.worth_bd k hlt
      have f6 := HE.out.claim_bd k hlt
      rw [show E.D = E.S * E.S from rfl] at f2 f3
      obtain ⟨x, hx⟩ : ∃ x, x = E.worth k E.m := ⟨_, rfl⟩
      rw [← hx] at f1 f2 f4 f5 ⊢
      have m1 := mul_bd (a := E.S) (x := x + E.pay k) (M := 2000000000) (by omega) (by omega) (by omega) (by omega) (by omega)
      have m2 := mul_bd (a := E.S) (x := E.claim k) (M := 30000000000) (by omega) (by omega) (by omega) (by omega) (by omega)
      have m3 := mul_bd2 (a := E.S * E.S) (x := x) (K := 1000000) (M := 30000000) (by omega) (by omega) (by omega) (by omega) (by omega)
      have m4 := mul_bd2 (a := E.S * E.S) (x := E.pay k) (K := 1000000) (M := 1000000000) (by omega) (by omega) (by omega) (by omega) (by omega)
      have s0 : IntKind.i64.wrap (x + E.pay k) = x + E.pay k := IntWalk.i64_in _ (by omega)
      have s1 : IntKind.i64.wrap (E.S * (x + E.pay k)) = E.S * (x + E.pay k) := IntWalk.i64_in _ (by omega)
      have s2 : IntKind.i64.wrap (E.claim k - E.S) = E.claim k - E.S := IntWalk.i64_in _ (by omega)
      have s3 : IntKind.i64.wrap (E.S * E.claim k) = E.S * E.claim k := IntWalk.i64_in _ (by omega)
      have s4 : IntKind.i64.wrap (E.S * E.S) = E.S * E.S := IntWalk.i64_in _ (by omega)
      have s5 : IntKind.i64.wrap (E.S * E.S * x) = E.S * E.S * x := IntWalk.i64_in _ (by omega)
      have s6 : IntKind.i64.wrap (E.S * E.claim k - E.S * E.S * x) = E.S * E.claim k - E.S * E.S * x := IntWalk.i64_in _ (by omega)
      have s7 : IntKind.i64.wrap (E.S * E.S * E.pay k) = E.S * E.S * E.pay k := IntWalk.i64_in _ (by omega)
      have s8 : IntKind.i64.wrap (E.exact k - E.S * E.S) = E.exact k - E.S * E.S := IntWalk.i64_in _ (by omega)
      have s9 : IntKind.i64.wrap (E.exact k + E.S * E.S) = E.exact k + E.S * E.S := IntWalk.i64_in _ (by omega)
      have p1 : decide (E.S * (x + E.pay k) ≤ E.claim k - E.S) = false := by rw [decide_eq_false_iff_not]; omega
      have p2 : decide (E.exact k < E.S * E.claim k - E.S * E.S * x) = false := by rw [decide_eq_false_iff_not]; omega
      have p3 : decide (E.S * E.S * E.pay k ≤ E.exact k - E.S * E.S) = false := by rw [decide_eq_false_iff_not]; omega
      have p4 : decide (E.exact k + E.S * E.S ≤ E.S * E.S * E.pay k) = false := by rw [decide_eq_false_iff_not]; omega
      have HF4 := Lib.hid f4
      clear f1 f2 f3 f4 hx e1 e2 b1 b2
      go_upto_region 20 with fail
      go_quiet (fail)
      go_upto_region 22 with fail
      go_quiet (fail)
      by_cases hx0 : x = 0
      · have p5 : (x == 0) = true := by simpa using hx0
        have p6 : decide (E.pay k < 0) = false := by have := HF4.out hx0; rw [decide_eq_false_iff_not]; omega
        clear hx0
        go_wp2_with fail
        go_roundw
        case rel => exact ⟨k + 1, by omega, by go_num, by rw [sumTo_succ], by rw [sumTo_succ], by first | exact (hF9.drewN _).drewN _ | exact hF9.drewN _⟩
        case measure => simp [intOf]; omega
      · have p5 : (x == 0) = false := by simpa using hx0
        clear hx0
        go_wp2_with fail
        go_roundw
        case rel => exact ⟨k + 1, by omega, by go_num, by rw [sumTo_succ], by rw [sumTo_succ], by first | exact (hF9.drewN _).drewN _ | exact hF9.drewN _⟩
        case measure => simp [intOf]; omega
    · obtain rfl : k = E.sh.length := by omega
      have z1 : (sumTo E.pay E.sh.length == 0) = true := by rw [show sumTo E.pay E.sh.length = 0 from HE.out.pay_sum]; rfl
      have z2 : (sumTo E.exact E.sh.length == 0) = true := by rw [show sumTo E.exact E.sh.length = 0 from E.exact_sum]; rfl
      go_wp2_with fail
      go_ret
      exact ⟨rfl, hF.e.below⟩
end Go.Proofs.Ytedgdmblpjfaiaa
