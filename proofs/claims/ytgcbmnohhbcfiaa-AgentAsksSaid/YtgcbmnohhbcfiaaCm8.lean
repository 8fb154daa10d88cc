/- Small functions on cakes and points. -/
import Derived.Test.YtgcbmnohhbcfiaaCm5
import Derived.Test.YtgcbmnohhbcfiaaCm7
import Derived.Test.YtgcbmnohhbcfiaaCm3
import Derived.Test.YtgcbmnohhbcfiaaCm4
namespace Go.Proofs.Ytgcbmnohhbcfiaa
open Go.RowKit Go.Deep
set_option linter.unusedVariables false
set_option linter.unusedSimpArgs false

theorem whole_any (n : Int) (w : World) : Calls Try.prog 83 #[.int .i64 n] w fun e w' => e = .returned (rV ⟨n, 1⟩) ∧ Below w.heap.size w w' := by
  go_enter Try.func83, Try.ntmps83
  go_wp2_with fail
  refine bodyPost_ret (v := rV ⟨n, 1⟩) (by simp [results, Try.results83, go_sem]) rfl ⟨rfl, ?_⟩
  exact one_alloc _ _
set_option maxHeartbeats 1000000 in
theorem cless_any (a b : Rt) (ha : a.Ok) (hb : b.Ok) (w : World) : Calls Try.prog 82 #[rV a, rV b] w fun e w' => e = .returned (.bool (ltB a b)) ∧ Below w.heap.size w w' := by
  have HBel0 := Lib.hid (show Below w.heap.size w ((w.alloc (rB a)).alloc (rB b)) from (one_alloc w _).alloc (by simp) _)
  have h0 : ((w.alloc (rB a)).alloc (rB b)).heap[w.heap.size]? = some (rB a) := heap_old (heap_new rfl)
  have h1 : ((w.alloc (rB a)).alloc (rB b)).heap[w.heap.size + 1]? = some (rB b) := heap_new (by simp)
  have HC := Lib.hid (fun (W : World) => rcmp_any a b ha.wf hb.wf W)
  have HE := Lib.hid (show decide (cmpR a b < 0) = ltB a b by unfold ltB; exact decide_eq_decide.2 (cmpR_neg ha hb))
  clear ha hb
  have c0 := fun j => cell_of_row _ _ j _ _ _ h0
  have c1 := fun j => cell_of_row _ _ j _ _ _ h1
  have z0 := lt_some h0
  have z1 := lt_some h1
  clear h0 h1
  go_enter Try.func82, Try.ntmps82
  go_wp2_with fail
  refine (HC.out _).mono ?_
  rintro e w1 ⟨rfl, hb1⟩
  go_wp2_with fail
  go_ret
  exact ⟨ret_bool HE.out, bcall HBel0.out HBel0.out.size hb1⟩
/-- Whether a ratio is a point of a cake. -/
def pointB (n : Int) (p : Rt) : Bool := decide (p.code = 0) && decide (0 ≤ p.n) && !ltB ⟨n, 1⟩ p
theorem len_ok {n : Int} (h0 : -1000 ≤ n) (h1 : n ≤ 1000) : Rt.Ok ⟨n, 1⟩ := by
  refine ⟨?_, ?_, ?_, ?_, ?_⟩ <;> (try simp only) <;> first | omega | (unfold gcdI; simp)
set_option maxRecDepth 100000 in
set_option maxHeartbeats 4000000 in
theorem cpoint_any (K : Ck) (A : Option Addr) (c : Nat) (R : Option Addr) (d : Nat) (p : Rt) (hp : p.wf) (h0 : 0 ≤ K.len) (h1 : K.len ≤ 1000) (w : World) :
    Calls Try.prog 81 #[cV A c R d K, rV p] w fun e w' => e = .returned (.bool (pointB K.len p)) ∧ Below w.heap.size w w' := by
  have HBel0 := Lib.hid (show Below w.heap.size w ((w.alloc (cB A c R d K)).alloc (rB p)) from (one_alloc w _).alloc (by simp) _)
  have hh0 : ((w.alloc (cB A c R d K)).alloc (rB p)).heap[w.heap.size]? = some (cB A c R d K) := heap_old (heap_new rfl)
  have hh1 : ((w.alloc (cB A c R d K)).alloc (rB p)).heap[w.heap.size + 1]? = some (rB p) := heap_new (by simp)
  have HL := Lib.hid (len_ok (n := K.len) (by omega) (by omega))
  have HC := Lib.hid (fun (W : World) => rcheck_any p hp W)
  have HP := Lib.hid hp
  clear hp h0 h1
  by_cases q1 : p.code = 0
  · have b1 : (p.code == 0) = true := by simpa using q1
    have d1 : decide (p.code = 0) = true := by simpa using q1
    have HO := Lib.hid (Rt.ok_code q1)
    by_cases q2 : 0 ≤ p.n
    · have b2 : decide (0 ≤ p.n) = true := by simpa using q2
      have HLS := Lib.hid (fun (W : World) => cless_any ⟨K.len, 1⟩ p HL.out HO.out W)
      have HE := Lib.hid (show pointB K.len p = !ltB ⟨K.len, 1⟩ p by unfold pointB; rw [d1, b2]; rfl)
      rw [HE.out]
      clear HE q1 q2 d1
      generalize p.code = pc at *
      generalize ltB ⟨K.len, 1⟩ p = lb at *
      go_enter Try.func81, Try.ntmps81
      go_upto_region 1 with fail
      generalize (w.alloc _).alloc _ = w1 at *
      have c0 := fun j => cell_of_row _ _ j _ _ _ hh0
      have c1 := fun j => cell_of_row _ _ j _ _ _ hh1
      have z0 := lt_some hh0
      have z1 := lt_some hh1
      refine wp_region_ext (by kernel_rfl) (by kernel_rfl) ?_
      repeat (first | go_big_quiet_step ((first | (go_at_call 89; exact calls_ext (HC.out _)) | (go_at_call 83; exact calls_ext (whole_any _ _)) | (go_at_call 82; exact calls_ext (HLS.out _)))) | quiet_step ((first | (go_at_call 89; exact calls_ext (HC.out _)) | (go_at_call 83; exact calls_ext (whole_any _ _)) | (go_at_call 82; exact calls_ext (HLS.out _)))))
      refine wpQuiet_nil ?_
      rintro _ ⟨⟨w2, hb2⟩, rfl⟩
      go_wp2_with fail
      go_ret
      exact ⟨rfl, bcall HBel0.out HBel0.out.size hb2⟩
    · have b2 : decide (0 ≤ p.n) = false := by simpa using q2
      have HE := Lib.hid (show pointB K.len p = false by unfold pointB; rw [b2]; simp)
      rw [HE.out]
      clear HE q1 q2 d1
      generalize p.code = pc at *
      go_enter Try.func81, Try.ntmps81
      go_upto_region 1 with fail
      generalize (w.alloc _).alloc _ = w1 at *
      have c0 := fun j => cell_of_row _ _ j _ _ _ hh0
      have c1 := fun j => cell_of_row _ _ j _ _ _ hh1
      have z0 := lt_some hh0
      have z1 := lt_some hh1
      refine wp_region_ext (by kernel_rfl) (by kernel_rfl) ?_
      repeat (first | go_big_quiet_step ((go_at_call 89; exact calls_ext (HC.out _))) | quiet_step ((go_at_call 89; exact calls_ext (HC.out _))))
      refine wpQuiet_nil ?_
      rintro _ ⟨⟨w2, hb2⟩, rfl⟩
      go_wp2_with fail
      go_ret
      exact ⟨rfl, bcall HBel0.out HBel0.out.size hb2⟩
  · have b1 : (p.code == 0) = false := by simpa using q1
    have HE := Lib.hid (show pointB K.len p = false by unfold pointB; rw [decide_eq_false q1]; rfl)
    rw [HE.out]
    clear HE q1
    generalize p.code = pc at *
    go_enter Try.func81, Try.ntmps81
    go_upto_region 1 with fail
    generalize (w.alloc _).alloc _ = w1 at *
    have c0 := fun j => cell_of_row _ _ j _ _ _ hh0
    have c1 := fun j => cell_of_row _ _ j _ _ _ hh1
    have z0 := lt_some hh0
    have z1 := lt_some hh1
    refine wp_region_ext (by kernel_rfl) (by kernel_rfl) ?_
    repeat (first | go_big_quiet_step ((go_at_call 89; exact calls_ext (HC.out _))) | quiet_step ((go_at_call 89; exact calls_ext (HC.out _))))
    refine wpQuiet_nil ?_
    rintro _ ⟨⟨w2, hb2⟩, rfl⟩
    go_wp2_with fail
    go_ret
    exact ⟨rfl, bcall HBel0.out HBel0.out.size hb2⟩
set_option maxRecDepth 100000 in
set_option maxHeartbeats 4000000 in
theorem fpoint_any (n : Int) (p : Rt) (hp : p.wf) (h0 : 0 ≤ n) (h1 : n ≤ 1000) (w : World) :
    Calls Try.prog 34 #[.int .i64 n, rV p] w fun e w' => e = .returned (.bool (pointB n p)) ∧ Below w.heap.size w w' := by
  have HBel0 := Lib.hid (one_alloc w (rB p))
  have hh1 : (w.alloc (rB p)).heap[w.heap.size]? = some (rB p) := heap_new rfl
  have HL := Lib.hid (len_ok (n := n) (by omega) (by omega))
  have HC := Lib.hid (fun (W : World) => fcheck_any p hp W)
  have HP := Lib.hid hp
  have n1 : IntKind.i64.wrap n = n := IntWalk.i64_in _ (by omega)
  have n1' : wrap64 n = n := IntWalk.wrap64_in _ (by omega)
  clear hp h0 h1
  by_cases q1 : p.code = 0
  · have b1 : (p.code == 0) = true := by simpa using q1
    have d1 : decide (p.code = 0) = true := by simpa using q1
    have HO := Lib.hid (Rt.ok_code q1)
    by_cases q2 : 0 ≤ p.n
    · have b2 : decide (0 ≤ p.n) = true := by simpa using q2
      have HLS := Lib.hid (fun (W : World) => flt_any ⟨n, 1⟩ p HL.out HO.out W)
      have HE := Lib.hid (show pointB n p = !ltB ⟨n, 1⟩ p by unfold pointB; rw [d1, b2]; rfl)
      rw [HE.out]
      clear HE q1 q2 d1
      generalize p.code = pc at *
      generalize ltB ⟨n, 1⟩ p = lb at *
      go_enter Try.func34, Try.ntmps34
      go_upto_region 1 with fail
      generalize w.alloc _ = w1 at *
      have c1 := fun j => cell_of_row _ _ j _ _ _ hh1
      have z1 := lt_some hh1
      refine wp_region_ext (by kernel_rfl) (by kernel_rfl) ?_
      repeat (first | go_big_quiet_step ((first | (go_at_call 30; exact calls_ext (HC.out _)) | (go_at_call 73; exact calls_ext (of_any _ _)) | (go_at_call 35; exact calls_ext (HLS.out _)))) | quiet_step ((first | (go_at_call 30; exact calls_ext (HC.out _)) | (go_at_call 73; exact calls_ext (of_any _ _)) | (go_at_call 35; exact calls_ext (HLS.out _)))))
      refine wpQuiet_nil ?_
      rintro _ ⟨⟨w2, hb2⟩, rfl⟩
      go_wp2_with fail
      go_ret
      exact ⟨rfl, bcall HBel0.out HBel0.out.size hb2⟩
    · have b2 : decide (0 ≤ p.n) = false := by simpa using q2
      have HE := Lib.hid (show pointB n p = false by unfold pointB; rw [b2]; simp)
      rw [HE.out]
      clear HE q1 q2 d1
      generalize p.code = pc at *
      go_enter Try.func34, Try.ntmps34
      go_upto_region 1 with fail
      generalize w.alloc _ = w1 at *
      have c1 := fun j => cell_of_row _ _ j _ _ _ hh1
      have z1 := lt_some hh1
      refine wp_region_ext (by kernel_rfl) (by kernel_rfl) ?_
      repeat (first | go_big_quiet_step ((go_at_call 30; exact calls_ext (HC.out _))) | quiet_step ((go_at_call 30; exact calls_ext (HC.out _))))
      refine wpQuiet_nil ?_
      rintro _ ⟨⟨w2, hb2⟩, rfl⟩
      go_wp2_with fail
      go_ret
      exact ⟨rfl, bcall HBel0.out HBel0.out.size hb2⟩
  · have b1 : (p.code == 0) = false := by simpa using q1
    have HE := Lib.hid (show pointB n p = false by unfold pointB; rw [decide_eq_false q1]; rfl)
    rw [HE.out]
    clear HE q1
    generalize p.code = pc at *
    go_enter Try.func34, Try.ntmps34
    go_upto_region 1 with fail
    generalize w.alloc _ = w1 at *
    have c1 := fun j => cell_of_row _ _ j _ _ _ hh1
    have z1 := lt_some hh1
    refine wp_region_ext (by kernel_rfl) (by kernel_rfl) ?_
    repeat (first | go_big_quiet_step ((go_at_call 30; exact calls_ext (HC.out _))) | quiet_step ((go_at_call 30; exact calls_ext (HC.out _))))
    refine wpQuiet_nil ?_
    rintro _ ⟨⟨w2, hb2⟩, rfl⟩
    go_wp2_with fail
    go_ret
    exact ⟨rfl, bcall HBel0.out HBel0.out.size hb2⟩
set_option maxHeartbeats 1000000 in
theorem cgreat_any (K : Ck) (A : Option Addr) (c : Nat) (R : Option Addr) (d : Nat) (hc : K.cuts.length ≤ maxLen) (hd : K.dens.length ≤ maxLen) (w : World) :
    Calls Try.prog 15 #[cV A c R d K] w fun e w' => e = .returned (.bool K.big) ∧ Below w.heap.size w w' := by
  unfold maxLen at hc hd
  have h0 : (w.alloc (cB A c R d K)).heap[w.heap.size]? = some (cB A c R d K) := heap_new rfl
  have c0 := fun j => cell_of_row _ _ j _ _ _ h0
  have e1 : decide ((60 : Int) < (K.cuts.length : Int)) = decide (60 < K.cuts.length) := decide_eq_decide.2 (by omega)
  have e2 : decide ((60 : Int) < (K.dens.length : Int)) = decide (60 < K.dens.length) := decide_eq_decide.2 (by omega)
  by_cases q : 60 < K.cuts.length
  · have b : decide ((60 : Int) < (K.cuts.length : Int)) = true := decide_eq_true (by omega)
    have HE := Lib.hid (show K.big = true by unfold Ck.big; rw [decide_eq_true q]; rfl)
    rw [HE.out]
    clear HE e1 e2 q
    go_enter Try.func15, Try.ntmps15
    go_wp2_with fail
    go_ret
    exact ⟨rfl, one_alloc _ _⟩
  · have b : decide ((60 : Int) < (K.cuts.length : Int)) = false := decide_eq_false (by omega)
    have bn : decide (60 < K.cuts.length) = false := decide_eq_false (by omega)
    have HE := Lib.hid (show K.big = decide (60 < K.dens.length) by unfold Ck.big; rw [decide_eq_false q]; rfl)
    rw [HE.out]
    clear HE e1 q
    go_enter Try.func15, Try.ntmps15
    go_wp2_with fail
    go_ret
    exact ⟨by simp [e2], one_alloc _ _⟩

set_option maxHeartbeats 1000000 in
theorem min_any (A : Option Addr) (c : Nat) (xs : List Int) (w : World) (hx : Ints w.heap.size w A xs) (h0 : 0 < xs.length) (hm : xs.length ≤ maxLen) :
    Calls Try.prog 84 #[.slice A xs.length c] w fun e w' => e = .returned (.int .i64 (mnTo xs (xs.length - 1))) ∧ Below w.heap.size w w' := by
  unfold maxLen at hm
  have q0 : decide ((xs.length : Int) < 1) = false := decide_eq_false (by omega)
  have q0' : decide (xs.length < 1) = false := decide_eq_false (by omega)
  have q0n : ¬ xs.length < 1 := by omega
  obtain ⟨ad, rfl, hb, hc⟩ := hx.at_ h0
  have i0 : (0 : Int) < (xs.length : Int) := by omega
  rw [show ad.add 0 = ad by simp [Addr.add]] at hc
  go_enter Try.func84, Try.ntmps84
  go_wp2_with fail
  clear q0 q0' q0n hb hc
  go_loop [3, 4] (fun m i => ∃ k : Nat, k < xs.length ∧ i = .int .i64 (k + 1 : Nat) ∧ m = .int .i64 (mnTo xs k)) (fun _ i => xs.length - (intOf i).toNat)
  case atStart => exact ⟨0, h0, rfl, rfl⟩
  case round =>
    obtain ⟨k, hk, rfl, rfl⟩ := hrel
    by_cases hlt : k + 1 < xs.length
    · obtain ⟨ad', e, hb, hc⟩ := hx.at_ hlt
      obtain rfl : ad = ad' := by simpa using e
      have i1 : (((k + 1 : Nat) : Int)) < (xs.length : Int) := by omega
      have i2 : (0 : Int) ≤ ((k + 1 : Nat) : Int) := by omega
      have HS := Lib.hid (show mnTo xs (k + 1) = min (mnTo xs k) (gi xs (k + 1)) from rfl)
      clear e
      generalize hkk : k + 1 = kk at *
      generalize mnTo xs k = mk at *
      go_wp2_with fail
      go_round
      case rel => exact ⟨kk, hlt, by go_num, by rw [HS.out]⟩
      case measure => simp [intOf]; omega
    · obtain rfl : k = xs.length - 1 := by omega
      have i1 : ((xs.length - 1 + 1 : Nat) : Int) = (xs.length : Int) := by omega
      rw [i1]
      go_wp2_with fail
      go_ret
      exact ⟨rfl, Below.refl _ _⟩

set_option maxHeartbeats 1000000 in
theorem max_any (A : Option Addr) (c : Nat) (xs : List Int) (w : World) (hx : Ints w.heap.size w A xs) (h0 : 0 < xs.length) (hm : xs.length ≤ maxLen) :
    Calls Try.prog 85 #[.slice A xs.length c] w fun e w' => e = .returned (.int .i64 (mxTo xs (xs.length - 1))) ∧ Below w.heap.size w w' := by
  unfold maxLen at hm
  have q0 : decide ((xs.length : Int) < 1) = false := decide_eq_false (by omega)
  have q0' : decide (xs.length < 1) = false := decide_eq_false (by omega)
  have q0n : ¬ xs.length < 1 := by omega
  obtain ⟨ad, rfl, hb, hc⟩ := hx.at_ h0
  have i0 : (0 : Int) < (xs.length : Int) := by omega
  rw [show ad.add 0 = ad by simp [Addr.add]] at hc
  go_enter Try.func85, Try.ntmps85
  go_wp2_with fail
  clear q0 q0' q0n hb hc
  go_loop [3, 4] (fun m i => ∃ k : Nat, k < xs.length ∧ i = .int .i64 (k + 1 : Nat) ∧ m = .int .i64 (mxTo xs k)) (fun _ i => xs.length - (intOf i).toNat)
  case atStart => exact ⟨0, h0, rfl, rfl⟩
  case round =>
    obtain ⟨k, hk, rfl, rfl⟩ := hrel
    by_cases hlt : k + 1 < xs.length
    · obtain ⟨ad', e, hb, hc⟩ := hx.at_ hlt
      obtain rfl : ad = ad' := by simpa using e
      have i1 : (((k + 1 : Nat) : Int)) < (xs.length : Int) := by omega
      have i2 : (0 : Int) ≤ ((k + 1 : Nat) : Int) := by omega
      have HS := Lib.hid (show mxTo xs (k + 1) = max (mxTo xs k) (gi xs (k + 1)) from rfl)
      clear e
      generalize hkk : k + 1 = kk at *
      generalize mxTo xs k = mk at *
      go_wp2_with fail
      go_round
      case rel => exact ⟨kk, hlt, by go_num, by rw [HS.out]⟩
      case measure => simp [intOf]; omega
    · obtain rfl : k = xs.length - 1 := by omega
      have i1 : ((xs.length - 1 + 1 : Nat) : Int) = (xs.length : Int) := by omega
      rw [i1]
      go_wp2_with fail
      go_ret
      exact ⟨rfl, Below.refl _ _⟩
/-- Whether two lists are the same. -/
def sameL (a b : List Int) : Bool := decide (a = b)

set_option maxHeartbeats 1000000 in
theorem equal_any (A B : Option Addr) (c d : Nat) (xs ys : List Int) (w : World) (hx : Ints w.heap.size w A xs) (hy : Ints w.heap.size w B ys) (hm : xs.length ≤ maxLen) (hm' : ys.length ≤ maxLen) :
    Calls Try.prog 86 #[.slice A xs.length c, .slice B ys.length d] w fun e w' => e = .returned (.bool (sameL xs ys)) ∧ Below w.heap.size w w' := by
  unfold maxLen at hm hm'
  by_cases hl : xs.length = ys.length
  · have hne : ((xs.length : Int) != (ys.length : Int)) = false := by simp [hl]
    have HL := Lib.hid hl
    clear hl
    go_enter Try.func86, Try.ntmps86
    go_wp2
    go_loopw [5, 13] (fun _ i wr => ∃ k : Nat, k ≤ xs.length ∧ i = .int .i64 k ∧ Hid (∀ j, j < k → gi xs j = gi ys j) ∧ Below w.heap.size w wr) (fun _ i _ => xs.length - (intOf i).toNat)
    case atStart => exact ⟨0, Nat.zero_le _, rfl, fun j hj => by omega, Below.refl _ _⟩
    case round =>
      obtain ⟨k, hk, rfl, hno, hB⟩ := hrel
      by_cases hlt : k < xs.length
      · obtain ⟨ad, rfl, hb, hc⟩ := (hx.below hB).at_ hlt
        have hlt' : k < ys.length := by rw [← HL.out]; exact hlt
        obtain ⟨bd, rfl, hb', hc'⟩ := (hy.below hB).at_ hlt'
        by_cases hq : gi xs k = gi ys k
        · have hqb : (gi xs k != gi ys k) = false := by simp [hq]
          have HQ := Lib.hid hq
          clear hq
          go_wp2_with fail
          go_quiet (fail)
          go_wp2
          go_roundw
          case rel => exact ⟨k + 1, by omega, by go_num, Lib.hid (fun j hj => by
            by_cases e : j = k
            · subst e; exact HQ.out
            · exact hno.out j (by omega)), below_drewN hB _⟩
          case measure => simp [intOf]; omega
        · have hqb : (gi xs k != gi ys k) = true := by simp [hq]
          have HQ := Lib.hid hq
          clear hq
          go_wp2_with fail
          go_quiet (fail)
          go_wp2
          go_ret
          exact ⟨ret_bool (by simp only [sameL]; rw [Bool.false_eq, decide_eq_false_iff_not]; rintro rfl; exact HQ.out rfl), below_drewN hB _⟩
      · obtain rfl : k = xs.length := by omega
        go_wp2
        go_ret
        exact ⟨ret_bool (by simp only [sameL]; rw [Bool.true_eq, decide_eq_true_iff]; exact gi_ext HL.out hno.out), hB⟩
  · have hne : ((xs.length : Int) != (ys.length : Int)) = true := by simp; omega
    have HL := Lib.hid hl
    clear hl
    go_enter Try.func86, Try.ntmps86
    go_wp2
    go_ret
    exact ⟨ret_bool (by simp only [sameL]; rw [Bool.false_eq, decide_eq_false_iff_not]; rintro rfl; exact HL.out rfl), Below.refl _ _⟩


end Go.Proofs.Ytgcbmnohhbcfiaa

namespace Go.Proofs.Ytgcbmnohhbcfiaa
set_option linter.unusedVariables false
set_option linter.unusedSimpArgs false

theorem int_ok {n : Int} (h0 : -1000000000000000000 ≤ n) (h1 : n ≤ 1000000000000000000) : Rt.Ok ⟨n, 1⟩ := by
  refine ⟨?_, ?_, ?_, ?_, ?_⟩ <;> (try simp only) <;> first | omega | (unfold gcdI; simp)
theorem point_q {n : Int} {p : Rt} (h0 : 0 ≤ n) (h1 : n ≤ 1000) : pointB n p = true ↔ p.Ok ∧ 0 ≤ p.q ∧ p.q ≤ (n : Rat) := by
  simp only [pointB, Bool.and_eq_true, decide_eq_true_eq, Bool.not_eq_true']
  constructor
  · rintro ⟨⟨h2, h3⟩, h4⟩
    have ok := Rt.ok_code h2
    have := (ltB_qf (len_ok (n := n) (by omega) (by omega)) ok).1 h4
    rw [whole_q] at this
    exact ⟨ok, (num_q ok).1.1 h3, this⟩
  · rintro ⟨ok, h3, h4⟩
    refine ⟨⟨Rt.code_ok ok, (num_q ok).1.2 h3⟩, (ltB_qf (len_ok (n := n) (by omega) (by omega)) ok).2 ?_⟩
    rw [whole_q]; exact h4

/-- A step of arithmetic: the number it makes, if it has a ratio. -/
theorem sub_step {a b : Rt} (ha : a.Ok) (hb : b.Ok) : (subC a b = 0 ∧ (subR a b).Ok ∧ (subR a b).q = a.q - b.q) ∨ subC a b = 16 := by
  have h := sub_ok (code2_ok ha hb)
  rw [h.1, h.2]
  rcases mkC_cases (a.q - b.q) with k | k
  · have i := mkC_zero k
    exact Or.inl ⟨k, mkR_ok i, q_mkR i⟩
  · exact Or.inr k
theorem add_step {a b : Rt} (ha : a.Ok) (hb : b.Ok) : (addC a b = 0 ∧ (addR a b).Ok ∧ (addR a b).q = a.q + b.q) ∨ addC a b = 16 := by
  have h := add_ok (code2_ok ha hb)
  rw [h.1, h.2]
  rcases mkC_cases (a.q + b.q) with k | k
  · have i := mkC_zero k
    exact Or.inl ⟨k, mkR_ok i, q_mkR i⟩
  · exact Or.inr k
theorem mul_step {a b : Rt} (ha : a.Ok) (hb : b.Ok) : (mulC a b = 0 ∧ (mulR a b).Ok ∧ (mulR a b).q = a.q * b.q) ∨ mulC a b = 16 := by
  have h := mul_ok (code2_ok ha hb)
  rw [h.1, h.2]
  rcases mkC_cases (a.q * b.q) with k | k
  · have i := mkC_zero k
    exact Or.inl ⟨k, mkR_ok i, q_mkR i⟩
  · exact Or.inr k
theorem div_step {a b : Rt} (ha : a.Ok) (hb : b.Ok) (h0 : b.n ≠ 0) : (divC a b = 0 ∧ (divR a b).Ok ∧ (divR a b).q = a.q / b.q) ∨ divC a b = 16 := by
  have h := div_ok (code2_ok ha hb) h0
  rw [h.1, h.2]
  rcases mkC_cases (a.q / b.q) with k | k
  · have i := mkC_zero k
    exact Or.inl ⟨k, mkR_ok i, q_mkR i⟩
  · exact Or.inr k
theorem sub_int {x y : Int} (h : -1000000000000000000 ≤ x - y ∧ x - y ≤ 1000000000000000000) (hx : -1000000000000000000 ≤ x ∧ x ≤ 1000000000000000000) (hy : -1000000000000000000 ≤ y ∧ y ≤ 1000000000000000000) : subC ⟨x, 1⟩ ⟨y, 1⟩ = 0 ∧ subR ⟨x, 1⟩ ⟨y, 1⟩ = ⟨x - y, 1⟩ := by
  have k := sub_ok (code2_ok (int_ok hx.1 hx.2) (int_ok hy.1 hy.2))
  rw [whole_q, whole_q, ← Rat.intCast_sub] at k
  rw [k.1, k.2]
  exact ⟨(mkR_int h.1 h.2).2, (mkR_int h.1 h.2).1⟩
theorem add_int {x y : Int} (h : -1000000000000000000 ≤ x + y ∧ x + y ≤ 1000000000000000000) (hx : -1000000000000000000 ≤ x ∧ x ≤ 1000000000000000000) (hy : -1000000000000000000 ≤ y ∧ y ≤ 1000000000000000000) : addC ⟨x, 1⟩ ⟨y, 1⟩ = 0 ∧ addR ⟨x, 1⟩ ⟨y, 1⟩ = ⟨x + y, 1⟩ := by
  have k := add_ok (code2_ok (int_ok hx.1 hx.2) (int_ok hy.1 hy.2))
  rw [whole_q, whole_q, ← Rat.intCast_add] at k
  rw [k.1, k.2]
  exact ⟨(mkR_int h.1 h.2).2, (mkR_int h.1 h.2).1⟩
theorem mul_int {x y : Int} (h : -1000000000000000000 ≤ x * y ∧ x * y ≤ 1000000000000000000) (hx : -1000000000000000000 ≤ x ∧ x ≤ 1000000000000000000) (hy : -1000000000000000000 ≤ y ∧ y ≤ 1000000000000000000) : mulC ⟨x, 1⟩ ⟨y, 1⟩ = 0 ∧ mulR ⟨x, 1⟩ ⟨y, 1⟩ = ⟨x * y, 1⟩ := by
  have k := mul_ok (code2_ok (int_ok hx.1 hx.2) (int_ok hy.1 hy.2))
  rw [whole_q, whole_q, ← Rat.intCast_mul] at k
  rw [k.1, k.2]
  exact ⟨(mkR_int h.1 h.2).2, (mkR_int h.1 h.2).1⟩

/-- The worth of a piece from a to b of density d: a ratio and an error. -/
def pieceR (a b : Rt) (d : Int) : Rt := mulR (subR b a) ⟨d, 1⟩
def pieceC (a b : Rt) (d : Int) : Int := if subC b a ≠ 0 then subC b a else mulC (subR b a) ⟨d, 1⟩
theorem piece_step {a b : Rt} {d : Int} (ha : a.Ok) (hb : b.Ok) (h0 : 0 ≤ d) (h1 : d ≤ 12) : (subC b a = 0 ∧ pieceC a b d = 0 ∧ (subR b a).Ok ∧ (pieceR a b d).Ok ∧ (pieceR a b d).q = (d : Rat) * (b.q - a.q)) ∨ pieceC a b d = 16 := by
  unfold pieceC pieceR
  rcases sub_step hb ha with ⟨k1, k2, k3⟩ | k
  · rw [if_neg (by omega)]
    rcases mul_step k2 (len_ok (n := d) (by omega) (by omega)) with ⟨l1, l2, l3⟩ | l
    · refine Or.inl ⟨k1, l1, k2, l2, ?_⟩
      rw [l3, k3, whole_q, Rat.mul_comm]
    · exact Or.inr l
  · rw [if_pos (by omega)]; exact Or.inr k
theorem piece_int {x y d : Int} (hx : 0 ≤ x) (hxy : x ≤ y) (hy : y ≤ 1000) (h0 : 0 ≤ d) (h1 : d ≤ 12) : pieceC ⟨x, 1⟩ ⟨y, 1⟩ d = 0 ∧ pieceR ⟨x, 1⟩ ⟨y, 1⟩ d = ⟨(y - x) * d, 1⟩ := by
  have a := sub_int (x := y) (y := x) (by omega) (by omega) (by omega)
  have p := Int.mul_nonneg (show 0 ≤ y - x by omega) h0
  have q := Int.mul_le_mul_of_nonneg_left h1 (show 0 ≤ y - x by omega)
  have b := mul_int (x := y - x) (y := d) (by omega) (by omega) (by omega)
  unfold pieceC pieceR
  rw [if_neg (by omega), a.2]; exact b

/-- Value: where it is, what it has, the error. -/
structure VS where
  at_ : Rt
  sum : Rt
  e : Int
def Ck.vEnd (K : Ck) (b : Rt) (i : Nat) : Rt := if ltB b ⟨gi K.cuts (i + 1), 1⟩ = true then b else ⟨gi K.cuts (i + 1), 1⟩
def Ck.vStep (K : Ck) (b : Rt) (i : Nat) (s : VS) : VS :=
  if s.e ≠ 0 then s
  else if ltB s.at_ (K.vEnd b i) = false then s
  else if gi K.dens i = 0 then ⟨K.vEnd b i, s.sum, 0⟩
  else if pieceC s.at_ (K.vEnd b i) (gi K.dens i) ≠ 0 then ⟨s.at_, s.sum, pieceC s.at_ (K.vEnd b i) (gi K.dens i)⟩
  else if addC s.sum (pieceR s.at_ (K.vEnd b i) (gi K.dens i)) ≠ 0 then ⟨s.at_, s.sum, addC s.sum (pieceR s.at_ (K.vEnd b i) (gi K.dens i))⟩
  else ⟨K.vEnd b i, addR s.sum (pieceR s.at_ (K.vEnd b i) (gi K.dens i)), 0⟩
def Ck.vTo (K : Ck) (a b : Rt) : Nat → VS
  | 0 => ⟨a, ⟨0, 1⟩, 0⟩
  | k + 1 => K.vStep b k (K.vTo a b k)
def Ck.valC (K : Ck) (a b : Rt) : Int := if K.code ≠ 0 then K.code else if pointB K.len a = true ∧ pointB K.len b = true ∧ ltB b a = false then (K.vTo a b K.dens.length).e else 2
def Ck.val (K : Ck) (a b : Rt) : Rt := if K.valC a b = 0 then (K.vTo a b K.dens.length).sum else ⟨0, 0⟩
section
variable {K : Ck} {a b v : Rt}
theorem Ck.Ok.cut_ok (h : K.Ok) {i : Nat} (hi : i ≤ K.dens.length) : Rt.Ok ⟨gi K.cuts i, 1⟩ := by have := h.cut_bd hi; exact len_ok (by omega) (by omega)
theorem Ck.Ok.vEnd_ok (h : K.Ok) (hb : b.Ok) {i : Nat} (hi : i < K.dens.length) : (K.vEnd b i).Ok ∧ (K.vEnd b i).q = min b.q (gi K.cuts (i + 1) : Rat) := by
  have c := h.cut_ok (i := i + 1) (by omega)
  unfold Ck.vEnd
  cases e : ltB b ⟨gi K.cuts (i + 1), 1⟩ with
  | true => have := (ltB_q hb c).1 e; rw [whole_q] at this; rw [if_pos rfl]; exact ⟨hb, by grind⟩
  | false => have := (ltB_qf hb c).1 e; rw [whole_q] at this; rw [if_neg (by decide)]; exact ⟨c, by rw [whole_q]; grind⟩
/-- What holds of the value under way. -/
structure VOk (K : Ck) (a b : Rt) (k : Nat) (s : VS) : Prop where
  at_ : s.at_.Ok
  sum : s.sum.Ok
  aq : s.e = 0 → s.at_.q = max a.q (min b.q (gi K.cuts k : Rat))
  sq : s.e = 0 → s.sum.q = K.V s.at_.q - K.V a.q
  e : s.e = 0 ∨ s.e = 16
theorem zero_ok : Rt.Ok ⟨0, 1⟩ := int_ok (by omega) (by omega)
theorem vTo_ok (h : K.Ok) (ha : a.Ok) (hb : b.Ok) (a0 : 0 ≤ a.q) (hab : a.q ≤ b.q) : ∀ k, k ≤ K.dens.length → VOk K a b k (K.vTo a b k)
  | 0, _ => by
    refine ⟨ha, zero_ok, fun _ => ?_, fun _ => ?_, Or.inl rfl⟩
    · rw [h.c0Q]; show a.q = _; grind
    · show (Rt.mk 0 1).q = K.V a.q - K.V a.q
      rw [whole_q, show ((0 : Int) : Rat) = 0 from rfl]; grind
  | k + 1, hk => by
    have ih := vTo_ok h ha hb a0 hab k (by omega)
    show VOk K a b (k + 1) (K.vStep b k (K.vTo a b k))
    generalize K.vTo a b k = s at *
    obtain ⟨i1, i2, i3, i4, i5⟩ := ih
    have E := h.vEnd_ok hb (i := k) (by omega)
    have r := h.riseQ (i := k) (by omega)
    have f := h.fit k (by omega)
    unfold Ck.vStep
    generalize K.vEnd b k = en at *
    by_cases e0 : s.e = 0
    rotate_left
    · rw [if_pos e0]; exact ⟨i1, i2, fun x => absurd x e0, fun x => absurd x e0, i5⟩
    rw [if_neg (by omega)]
    have i3 := i3 e0
    have i4 := i4 e0
    cases lt : ltB s.at_ en with
    | false =>
      rw [if_pos rfl]
      have := (ltB_qf i1 E.1).1 lt
      exact ⟨i1, i2, fun _ => by grind, fun _ => i4, i5⟩
    | true =>
    rw [if_neg (by decide)]
    have lt := (ltB_q i1 E.1).1 lt
    have hin := h.V_in (i := k) (by omega) (x := s.at_.q) (y := en.q) (by grind) (by grind) (by grind)
    have heq : en.q = max a.q (min b.q (gi K.cuts (k + 1) : Rat)) := by grind
    by_cases d0 : gi K.dens k = 0
    · rw [if_pos d0]
      refine ⟨E.1, i2, fun _ => heq, fun _ => ?_, Or.inl rfl⟩
      rw [d0, show ((0 : Int) : Rat) = 0 from rfl] at hin
      show s.sum.q = K.V en.q - K.V a.q
      rw [i4]; grind
    rw [if_neg d0]
    rcases piece_step (d := gi K.dens k) i1 E.1 f.1 f.2 with ⟨_, p1, _, p2, p3⟩ | p1
    rotate_left
    · rw [if_pos (by omega)]; exact ⟨i1, i2, fun x => by have x : pieceC s.at_ en (gi K.dens k) = 0 := x; omega, fun x => by have x : pieceC s.at_ en (gi K.dens k) = 0 := x; omega, Or.inr p1⟩
    rw [if_neg (by omega)]
    rcases add_step i2 p2 with ⟨q1, q2, q3⟩ | q1
    rotate_left
    · rw [if_pos (by omega)]; exact ⟨i1, i2, fun x => by have x : addC s.sum (pieceR s.at_ en (gi K.dens k)) = 0 := x; omega, fun x => by have x : addC s.sum (pieceR s.at_ en (gi K.dens k)) = 0 := x; omega, Or.inr q1⟩
    rw [if_neg (by omega)]
    refine ⟨E.1, q2, fun _ => heq, fun _ => ?_, Or.inl rfl⟩
    show (addR s.sum (pieceR s.at_ en (gi K.dens k))).q = K.V en.q - K.V a.q
    rw [q3, p3, i4]; grind
/-- The value between two points, if it has one. -/
structure ValOk (K : Ck) (a b : Rt) : Prop where
  c : K.valC a b = 0 ∨ K.valC a b = 16
  v : K.valC a b = 0 → (K.val a b).Ok ∧ (K.val a b).q = K.V b.q - K.V a.q
theorem Ck.Ok.val_ok (h : K.Ok) (ha : a.Ok) (hb : b.Ok) (a0 : 0 ≤ a.q) (hab : a.q ≤ b.q) (hl : b.q ≤ (K.len : Rat)) : ValOk K a b := by
  have V := vTo_ok h ha hb a0 hab _ (Nat.le_refl _)
  have c1 : K.valC a b = (K.vTo a b K.dens.length).e := by
    unfold Ck.valC
    have l1 := h.l1; have l2 := h.l2
    rw [if_neg (by have := h.code; omega), if_pos ⟨(point_q (by omega) (by omega)).2 ⟨ha, a0, by grind⟩, (point_q (by omega) (by omega)).2 ⟨hb, by grind, hl⟩, (ltB_qf hb ha).2 hab⟩]
  refine ⟨by rw [c1]; exact V.e, fun z => ?_⟩
  have v1 : K.val a b = (K.vTo a b K.dens.length).sum := by unfold Ck.val; rw [if_pos z]
  rw [c1] at z
  rw [v1]
  refine ⟨V.sum, ?_⟩
  rw [V.sq z, V.aq z, h.cnQ]
  have : max a.q (min b.q (K.len : Rat)) = b.q := by grind
  rw [this]
/-- Whole numbers: no error. -/
theorem vTo_int (h : K.Ok) {x y : Int} (x0 : 0 ≤ x) (hxy : x ≤ y) (hy : y ≤ K.len) : ∀ k, k ≤ K.dens.length → ∃ z s : Int, K.vTo ⟨x, 1⟩ ⟨y, 1⟩ k = ⟨⟨z, 1⟩, ⟨s, 1⟩, 0⟩ ∧ 0 ≤ z ∧ z ≤ y ∧ 0 ≤ s ∧ s ≤ 12000 * k
  | 0, _ => ⟨x, 0, rfl, x0, hxy, by omega, by omega⟩
  | k + 1, hk => by
    obtain ⟨z, s, e, z0, z1, s0, s1⟩ := vTo_int h x0 hxy hy k (by omega)
    have l2 := h.l2
    have n2 := h.n2
    have f := h.fit k (by omega)
    have c := h.cut_bd (i := k + 1) (by omega)
    show ∃ z' s' : Int, K.vStep ⟨y, 1⟩ k (K.vTo ⟨x, 1⟩ ⟨y, 1⟩ k) = _ ∧ _
    rw [e]
    obtain ⟨en, he, en0, en1⟩ : ∃ en : Int, K.vEnd ⟨y, 1⟩ k = ⟨en, 1⟩ ∧ 0 ≤ en ∧ en ≤ y := by
      unfold Ck.vEnd
      cases q : ltB ⟨y, 1⟩ ⟨gi K.cuts (k + 1), 1⟩ with
      | true => exact ⟨y, by rw [if_pos rfl], by omega, by omega⟩
      | false =>
        refine ⟨gi K.cuts (k + 1), by rw [if_neg (by decide)], c.1, ?_⟩
        have := (ltB_qf (len_ok (n := y) (by omega) (by omega)) (h.cut_ok (by omega))).1 q
        rw [whole_q, whole_q] at this
        exact Rat.intCast_le_intCast.1 this
    unfold Ck.vStep
    rw [he, if_neg (by simp)]
    simp only
    cases lt : ltB ⟨z, 1⟩ ⟨en, 1⟩ with
    | false => rw [if_pos rfl]; exact ⟨z, s, rfl, z0, z1, s0, by omega⟩
    | true =>
    rw [if_neg (by decide)]
    have lt := (ltB_q (len_ok (n := z) (by omega) (by omega)) (len_ok (n := en) (by omega) (by omega))).1 lt
    rw [whole_q, whole_q] at lt
    have lt := Rat.intCast_lt_intCast.1 lt
    by_cases d0 : gi K.dens k = 0
    · rw [if_pos d0]; exact ⟨en, s, rfl, en0, en1, s0, by omega⟩
    rw [if_neg d0]
    have p := piece_int (x := z) (y := en) (d := gi K.dens k) z0 (by omega) (by omega) f.1 f.2
    have m0 := Int.mul_nonneg (show 0 ≤ en - z by omega) f.1
    have m1 := Int.mul_le_mul_of_nonneg_left f.2 (show 0 ≤ en - z by omega)
    have q := add_int (x := s) (y := (en - z) * gi K.dens k) (by omega) (by omega) (by omega)
    rw [if_neg (by omega), p.2, if_neg (by omega), q.2]
    exact ⟨en, _, rfl, en0, en1, by omega, by omega⟩
theorem Ck.Ok.val_int (h : K.Ok) {x y : Int} (x0 : 0 ≤ x) (hxy : x ≤ y) (hy : y ≤ K.len) : K.valC ⟨x, 1⟩ ⟨y, 1⟩ = 0 := by
  have l1 := h.l1; have l2 := h.l2
  obtain ⟨z, s, e, _⟩ := vTo_int h x0 hxy hy _ (Nat.le_refl _)
  have px : pointB K.len ⟨x, 1⟩ = true := (point_q (by omega) (by omega)).2 ⟨len_ok (by omega) (by omega), by rw [whole_q]; exact Rat.intCast_nonneg.2 x0, by rw [whole_q]; exact Rat.intCast_le_intCast.2 (by omega)⟩
  have py : pointB K.len ⟨y, 1⟩ = true := (point_q (by omega) (by omega)).2 ⟨len_ok (by omega) (by omega), by rw [whole_q]; exact Rat.intCast_nonneg.2 (by omega), by rw [whole_q]; exact Rat.intCast_le_intCast.2 (by omega)⟩
  have pl : ltB ⟨y, 1⟩ ⟨x, 1⟩ = false := (ltB_qf (len_ok (by omega) (by omega)) (len_ok (by omega) (by omega))).2 (by rw [whole_q, whole_q]; exact Rat.intCast_le_intCast.2 hxy)
  unfold Ck.valC
  rw [if_neg (by have := h.code; omega), if_pos ⟨px, py, pl⟩, e]

/-- Mark: where it is, what is left, the error that is late, the point, whether it has ended. -/
structure MS where
  at_ : Rt
  v : Rt
  late : Int
  out : Rt
  stop : Bool
def Ck.mStep (K : Ck) (i : Nat) (s : MS) : MS :=
  if s.stop = true then s
  else if ltB s.at_ ⟨gi K.cuts (i + 1), 1⟩ = false then s
  else if gi K.dens i = 0 then { s with at_ := ⟨gi K.cuts (i + 1), 1⟩ }
  else if pieceC s.at_ ⟨gi K.cuts (i + 1), 1⟩ (gi K.dens i) ≠ 0 then { s with late := pieceC s.at_ ⟨gi K.cuts (i + 1), 1⟩ (gi K.dens i), stop := true }
  else if ltB (pieceR s.at_ ⟨gi K.cuts (i + 1), 1⟩ (gi K.dens i)) s.v = true then
    (if subC s.v (pieceR s.at_ ⟨gi K.cuts (i + 1), 1⟩ (gi K.dens i)) ≠ 0 then { s with late := subC s.v (pieceR s.at_ ⟨gi K.cuts (i + 1), 1⟩ (gi K.dens i)), stop := true }
    else { s with at_ := ⟨gi K.cuts (i + 1), 1⟩, v := subR s.v (pieceR s.at_ ⟨gi K.cuts (i + 1), 1⟩ (gi K.dens i)), late := 6 })
  else if divC s.v ⟨gi K.dens i, 1⟩ ≠ 0 then { s with late := divC s.v ⟨gi K.dens i, 1⟩, stop := true }
  else { s with late := addC s.at_ (divR s.v ⟨gi K.dens i, 1⟩), out := addR s.at_ (divR s.v ⟨gi K.dens i, 1⟩), stop := true }
def Ck.mTo (K : Ck) (a v : Rt) : Nat → MS
  | 0 => ⟨a, v, 6, ⟨0, 0⟩, false⟩
  | k + 1 => K.mStep k (K.mTo a v k)
def Ck.markC (K : Ck) (a v : Rt) : Int := if K.code ≠ 0 then K.code else if pointB K.len a = true ∧ v.code = 0 ∧ 0 ≤ v.n then (if v.n = 0 then 0 else (K.mTo a v K.dens.length).late) else 2
def Ck.mark (K : Ck) (a v : Rt) : Rt := if K.markC a v = 0 then (if v.n = 0 then a else (K.mTo a v K.dens.length).out) else ⟨0, 0⟩
/-- What holds of the mark under way. -/
structure MOk (K : Ck) (a v : Rt) (k : Nat) (s : MS) : Prop where
  run : s.stop = false → s.at_.Ok ∧ s.v.Ok ∧ 0 < s.v.q ∧ s.late = 6 ∧ s.at_.q = max a.q (gi K.cuts k : Rat) ∧ s.v.q = v.q - (K.V s.at_.q - K.V a.q)
  fin : s.stop = true → s.late = 16 ∨ (s.late = 0 ∧ s.out.Ok ∧ a.q ≤ s.out.q ∧ s.out.q ≤ (K.len : Rat) ∧ K.V s.out.q - K.V a.q = v.q ∧ ∀ x, x < s.out.q → K.V x - K.V a.q < v.q)
theorem mTo_ok (h : K.Ok) (ha : a.Ok) (hv : v.Ok) (a0 : 0 ≤ a.q) (v0 : 0 < v.q) : ∀ k, k ≤ K.dens.length → MOk K a v k (K.mTo a v k)
  | 0, _ => by
    refine ⟨fun _ => ⟨ha, hv, v0, rfl, ?_, ?_⟩, fun x => by cases x⟩
    · rw [h.c0Q]; show a.q = _; grind
    · show v.q = v.q - (K.V a.q - K.V a.q); grind
  | k + 1, hk => by
    have ih := mTo_ok h ha hv a0 v0 k (by omega)
    show MOk K a v (k + 1) (K.mStep k (K.mTo a v k))
    generalize K.mTo a v k = s at *
    obtain ⟨i1, i2⟩ := ih
    have C := h.cut_ok (i := k + 1) (by omega)
    have CQ := whole_q (gi K.cuts (k + 1))
    have r := h.riseQ (i := k) (by omega)
    have f := h.fit k (by omega)
    have CL : (gi K.cuts (k + 1) : Rat) ≤ (K.len : Rat) := by rw [← h.cnQ]; exact h.monoQ (by omega) (Nat.le_refl _)
    unfold Ck.mStep
    cases st : s.stop with
    | true => rw [if_pos rfl]; exact ⟨(fun x => by rw [st] at x; cases x), fun _ => i2 st⟩
    | false =>
    rw [if_neg (by decide)]
    obtain ⟨j1, j2, j3, j4, j5, j6⟩ := i1 st
    cases lt : ltB s.at_ ⟨gi K.cuts (k + 1), 1⟩ with
    | false =>
      rw [if_pos rfl]
      have lt := (ltB_qf j1 C).1 lt
      rw [CQ] at lt
      exact ⟨fun _ => ⟨j1, j2, j3, j4, by grind, j6⟩, fun x => by rw [st] at x; cases x⟩
    | true =>
    rw [if_neg (by decide)]
    have lt := (ltB_q j1 C).1 lt
    rw [CQ] at lt
    have hin := h.V_in (i := k) (by omega) (x := s.at_.q) (y := (gi K.cuts (k + 1) : Rat)) (by grind) (by grind) (by grind)
    by_cases d0 : gi K.dens k = 0
    · rw [if_pos d0]
      rw [d0, show ((0 : Int) : Rat) = 0 from rfl] at hin
      refine ⟨fun _ => ⟨C, j2, j3, j4, by simp only; rw [CQ]; grind, by simp only; rw [CQ]; grind⟩, fun x => by first | (cases x; done) | (simp only at x; rw [st] at x; cases x)⟩
    rw [if_neg d0]
    rcases piece_step (d := gi K.dens k) j1 C f.1 f.2 with ⟨_, p1, _, p2, p3⟩ | p1
    rotate_left
    · rw [if_pos (by omega)]; exact ⟨(fun x => by cases x), fun _ => Or.inl p1⟩
    rw [if_neg (by omega)]
    rw [CQ] at p3
    generalize pieceR s.at_ ⟨gi K.cuts (k + 1), 1⟩ (gi K.dens k) = W at *
    cases lw : ltB W s.v with
    | true =>
      rw [if_pos rfl]
      have lw := (ltB_q p2 j2).1 lw
      rcases sub_step j2 p2 with ⟨q1, q2, q3⟩ | q1
      · rw [if_neg (by omega)]
        exact ⟨fun _ => ⟨C, q2, by simp only; grind, rfl, by simp only; rw [CQ]; grind, by simp only; rw [CQ]; grind⟩, fun x => by first | (cases x; done) | (simp only at x; rw [st] at x; cases x)⟩
      · rw [if_pos (by omega)]; exact ⟨(fun x => by cases x), fun _ => Or.inl q1⟩
    | false =>
      rw [if_neg (by decide)]
      have lw := (ltB_qf p2 j2).1 lw
      have dp : (0 : Rat) < (gi K.dens k : Rat) := Rat.intCast_pos.2 (by omega)
      rcases div_step (b := ⟨gi K.dens k, 1⟩) j2 (len_ok (by omega) (by omega)) d0 with ⟨q1, q2, q3⟩ | q1
      rotate_left
      · rw [if_pos (by omega)]; exact ⟨(fun x => by cases x), fun _ => Or.inl q1⟩
      rw [if_neg (by omega)]
      rw [whole_q] at q3
      generalize divR s.v ⟨gi K.dens k, 1⟩ = D at *
      rcases add_step j1 q2 with ⟨t1, t2, t3⟩ | t1
      rotate_left
      · exact ⟨(fun x => by cases x), fun _ => Or.inl t1⟩
      have eD : (gi K.dens k : Rat) * D.q = s.v.q := by rw [q3]; grind
      have D0 : 0 < D.q := by
        rcases Classical.em (0 < D.q) with z | z
        · exact z
        · have := Rat.mul_le_mul_of_nonneg_left (Rat.not_lt.1 z) (show 0 ≤ (gi K.dens k : Rat) by grind)
          grind
      have D1 : D.q ≤ (gi K.cuts (k + 1) : Rat) - s.at_.q := by
        rw [p3, ← eD] at lw
        exact Rat.le_of_mul_le_mul_left lw dp
      generalize addR s.at_ D = P at *
      have hP := h.V_in (i := k) (by omega) (x := s.at_.q) (y := P.q) (by grind) (by grind) (by grind)
      have eP : K.V P.q - K.V a.q = v.q := by
        have : P.q - s.at_.q = D.q := by grind
        rw [this, eD] at hP; grind
      refine ⟨(fun x => by cases x), fun _ => Or.inr ⟨t1, t2, by simp only; grind, by simp only; grind, eP, fun x hx => ?_⟩⟩
      simp only at hx
      rcases Classical.em (s.at_.q ≤ x) with z | z
      · have m := h.V_in (i := k) (by omega) (x := x) (y := P.q) (by grind) (by grind) (by grind)
        have := Rat.mul_lt_mul_of_pos_left (show 0 < P.q - x by grind) dp
        grind
      · have m := h.V_mono (x := x) (y := s.at_.q) (by grind)
        grind
/-- The mark from a point for a value. -/
structure MarkOk (K : Ck) (a v : Rt) : Prop where
  c : K.markC a v = 0 ∨ K.markC a v = 6 ∨ K.markC a v = 16
  m : K.markC a v = 0 → (K.mark a v).Ok ∧ a.q ≤ (K.mark a v).q ∧ (K.mark a v).q ≤ (K.len : Rat) ∧ K.V (K.mark a v).q - K.V a.q = v.q ∧ ∀ x, a.q ≤ x → x < (K.mark a v).q → K.V x - K.V a.q < v.q
  n : K.markC a v = 6 → K.V (K.len : Rat) - K.V a.q < v.q
theorem Ck.Ok.mark_ok (h : K.Ok) (ha : a.Ok) (hv : v.Ok) (a0 : 0 ≤ a.q) (al : a.q ≤ (K.len : Rat)) (v0 : 0 ≤ v.q) : MarkOk K a v := by
  have l1 := h.l1; have l2 := h.l2
  have nv := num_q hv
  have c1 : K.markC a v = if v.n = 0 then 0 else (K.mTo a v K.dens.length).late := by
    unfold Ck.markC
    rw [if_neg (by have := h.code; omega), if_pos ⟨(point_q (by omega) (by omega)).2 ⟨ha, a0, al⟩, Rt.code_ok hv, nv.1.2 v0⟩]
  by_cases vz : v.n = 0
  · rw [if_pos vz] at c1
    have m1 : K.mark a v = a := by unfold Ck.mark; rw [if_pos c1, if_pos vz]
    have vq : v.q = 0 := by rw [← Rat.num_eq_zero, hv.num]; exact vz
    refine ⟨Or.inl c1, fun _ => ?_, fun x => by omega⟩
    rw [m1, vq]
    exact ⟨ha, by grind, al, by grind, fun x h1 h2 => by grind⟩
  rw [if_neg vz] at c1
  have vp : 0 < v.q := nv.2.1 (by have := nv.1.2 v0; omega)
  have M := mTo_ok h ha hv a0 vp _ (Nat.le_refl _)
  have m1 : K.markC a v = 0 → K.mark a v = (K.mTo a v K.dens.length).out := fun z => by unfold Ck.mark; rw [if_pos z, if_neg vz]
  rw [c1] at m1
  generalize K.mTo a v K.dens.length = s at *
  cases st : s.stop with
  | false =>
    obtain ⟨j1, j2, j3, j4, j5, j6⟩ := M.run st
    refine ⟨by rw [c1]; omega, fun x => by rw [c1] at x; omega, fun _ => ?_⟩
    rw [h.cnQ] at j5
    have : s.at_.q = (K.len : Rat) := by grind
    rw [this] at j6; grind
  | true =>
    rcases M.fin st with q | ⟨q, q1, q2, q3, q4, q5⟩
    · exact ⟨by rw [c1]; omega, fun x => by rw [c1] at x; omega, fun x => by rw [c1] at x; omega⟩
    · refine ⟨by rw [c1]; omega, fun _ => ?_, fun x => by rw [c1] at x; omega⟩
      rw [m1 q]
      exact ⟨q1, q2, q3, q4, fun x _ hx => q5 x hx⟩
end
end Go.Proofs.Ytgcbmnohhbcfiaa

namespace Go.Proofs.Ytgcbmnohhbcfiaa
set_option linter.unusedVariables false
set_option linter.unusedSimpArgs false

section
variable {K : Ck} {a b e v p : Rt}
theorem zero_q : (Rt.mk 0 1).q = 0 := by rw [whole_q]; rfl
theorem whole_val (h : K.Ok) : K.valC ⟨0, 1⟩ ⟨K.len, 1⟩ = 0 ∧ K.val ⟨0, 1⟩ ⟨K.len, 1⟩ = ⟨K.total, 1⟩ := by
  have l1 := h.l1; have l2 := h.l2
  have c := h.val_int (x := 0) (y := K.len) (by omega) (by omega) (by omega)
  have V := h.val_ok (a := ⟨0, 1⟩) (b := ⟨K.len, 1⟩) zero_ok (len_ok (by omega) (by omega)) (by rw [zero_q]; grind) (by rw [zero_q, whole_q]; exact Rat.intCast_nonneg.2 (by omega)) (by rw [whole_q]; grind)
  refine ⟨c, ?_⟩
  have t := h.total_bd
  refine q_inj (V.v c).1 (int_ok (by omega) (by omega)) ?_
  rw [(V.v c).2, zero_q, whole_q, whole_q, h.V_zero, h.V_len]; grind
theorem val_nonneg (h : K.Ok) (ha : a.Ok) (hb : b.Ok) (a0 : 0 ≤ a.q) (hab : a.q ≤ b.q) (hl : b.q ≤ (K.len : Rat)) (hc : K.valC a b = 0) : 0 ≤ (K.val a b).n := by
  have V := (h.val_ok ha hb a0 hab hl).v hc
  have m := h.V_mono hab
  exact (num_q V.1).1.2 (by rw [V.2]; grind)
theorem val_add (h : K.Ok) (ha : a.Ok) (hb : b.Ok) (he : e.Ok) (a0 : 0 ≤ a.q) (hab : a.q ≤ b.q) (hbe : b.q ≤ e.q) (hl : e.q ≤ (K.len : Rat)) (h1 : K.valC a b = 0) (h2 : K.valC b e = 0) (h3 : K.valC a e = 0) :
    addC (K.val a b) (K.val b e) = 0 ∧ addR (K.val a b) (K.val b e) = K.val a e := by
  have X := (h.val_ok ha hb a0 hab (by grind)).v h1
  have Y := (h.val_ok hb he (by grind) hbe hl).v h2
  have Z := (h.val_ok ha he a0 (by grind) hl).v h3
  have k := add_ok (code2_ok X.1 Y.1)
  have q : (K.val a b).q + (K.val b e).q = (K.val a e).q := by rw [X.2, Y.2, Z.2]; grind
  rw [k.1, k.2, q]
  exact ⟨mkC_q Z.1, mkR_q Z.1⟩
/-- The mark for a value: what is between is that value. -/
theorem mark_val (h : K.Ok) (ha : a.Ok) (hv : v.Ok) (a0 : 0 ≤ a.q) (al : a.q ≤ (K.len : Rat)) (v0 : 0 ≤ v.q) (hc : K.markC a v = 0) :
    (K.mark a v).Ok ∧ a.q ≤ (K.mark a v).q ∧ (K.mark a v).q ≤ (K.len : Rat) ∧ (K.valC a (K.mark a v) = 0 ∨ K.valC a (K.mark a v) = 16) ∧ (K.valC a (K.mark a v) = 0 → K.val a (K.mark a v) = v) := by
  obtain ⟨m1, m2, m3, m4, m5⟩ := (h.mark_ok ha hv a0 al v0).m hc
  have V := h.val_ok ha m1 a0 m2 m3
  refine ⟨m1, m2, m3, V.c, fun z => ?_⟩
  exact q_inj (V.v z).1 hv (by rw [(V.v z).2, m4])
theorem mark_before (h : K.Ok) (ha : a.Ok) (hv : v.Ok) (hp : p.Ok) (a0 : 0 ≤ a.q) (al : a.q ≤ (K.len : Rat)) (v0 : 0 ≤ v.q) (hc : K.markC a v = 0) (hap : a.q ≤ p.q) (hl : p.q ≤ (K.len : Rat)) (lt : p.q < (K.mark a v).q) (z : K.valC a p = 0) :
    ltB (K.val a p) v = true := by
  obtain ⟨m1, m2, m3, m4, m5⟩ := (h.mark_ok ha hv a0 al v0).m hc
  have V := (h.val_ok ha hp a0 hap hl).v z
  exact (ltB_q V.1 hv).2 (by rw [V.2]; exact m5 _ hap lt)
theorem mark_none (h : K.Ok) (ha : a.Ok) (hv : v.Ok) (a0 : 0 ≤ a.q) (al : a.q ≤ (K.len : Rat)) (v0 : 0 ≤ v.q) (hc : K.markC a v = 6) (z : K.valC a ⟨K.len, 1⟩ = 0) : ltB (K.val a ⟨K.len, 1⟩) v = true := by
  have n := (h.mark_ok ha hv a0 al v0).n hc
  have l1 := h.l1; have l2 := h.l2
  have V := (h.val_ok (b := ⟨K.len, 1⟩) ha (len_ok (by omega) (by omega)) a0 (by rw [whole_q]; exact al) (by rw [whole_q]; grind)).v z
  exact (ltB_q V.1 hv).2 (by rw [V.2, whole_q]; exact n)
/-- The mark for the value between two points is at most the second one. -/
theorem val_mark (h : K.Ok) (ha : a.Ok) (hb : b.Ok) (a0 : 0 ≤ a.q) (hab : a.q ≤ b.q) (hl : b.q ≤ (K.len : Rat)) (z : K.valC a b = 0) :
    (K.val a b).Ok ∧ (K.markC a (K.val a b) = 0 ∨ K.markC a (K.val a b) = 16) ∧ (K.markC a (K.val a b) = 0 → (K.mark a (K.val a b)).q ≤ b.q) := by
  have V := (h.val_ok ha hb a0 hab hl).v z
  have m := h.V_mono hab
  have v0 : 0 ≤ (K.val a b).q := by rw [V.2]; grind
  have M := h.mark_ok ha V.1 a0 (by grind) v0
  refine ⟨V.1, ?_, fun k => ?_⟩
  · rcases M.c with k | k | k
    · exact Or.inl k
    · have := M.n k
      have := h.V_mono hl
      rw [V.2] at *; grind
    · exact Or.inr k
  · obtain ⟨m1, m2, m3, m4, m5⟩ := M.m k
    rcases Classical.em ((K.mark a (K.val a b)).q ≤ b.q) with c | c
    · exact c
    · have := m5 b.q hab (by grind)
      rw [V.2] at this; grind
end
end Go.Proofs.Ytgcbmnohhbcfiaa
