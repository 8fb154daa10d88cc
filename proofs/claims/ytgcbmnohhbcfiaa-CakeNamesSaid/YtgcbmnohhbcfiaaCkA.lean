/- Small functions on cakes and points. -/
import Derived.Test.YtgcbmnohhbcfiaaCkO
import Derived.Test.YtgcbmnohhbcfiaaRtG
import Derived.Test.YtgcbmnohhbcfiaaRfB
import Derived.Test.YtgcbmnohhbcfiaaRfD
namespace Go.Proofs.Ytgcbmnohhbcfiaa
open Go.RowKit Go.Deep
set_option linter.unusedVariables false
set_option linter.unusedSimpArgs false

theorem whole_any (n : Int) (w : World) : Calls Try.prog 83 #[.int .i64 n] w fun e w' => e = .returned (rV ⟨n, 1⟩) ∧ Below w.heap.size w w' := by
  go_enter Try.func83, Try.ntmps83
  go_wp2_with fail
  refine bodyPost_ret (v := rV ⟨n, 1⟩) (by simp [results, Try.results83, go_sem]) rfl ⟨rfl, ?_⟩
  exact one_alloc _ _
set_option maxHeartbeats 1000000 in
theorem cless_any (a b : Rt) (ha : a.Ok) (hb : b.Ok) (w : World) : Calls Try.prog 82 #[rV a, rV b] w fun e w' => e = .returned (.bool (ltB a b)) ∧ Below w.heap.size w w' := by
  have HBel0 := Lib.hid (show Below w.heap.size w ((w.alloc (rB a)).alloc (rB b)) from (one_alloc w _).alloc (by simp) _)
  have h0 : ((w.alloc (rB a)).alloc (rB b)).heap[w.heap.size]? = some (rB a) := heap_old (heap_new rfl)
  have h1 : ((w.alloc (rB a)).alloc (rB b)).heap[w.heap.size + 1]? = some (rB b) := heap_new (by simp)
  have HC := Lib.hid (fun (W : World) => rcmp_any a b ha.wf hb.wf W)
  have HE := Lib.hid (show decide (cmpR a b < 0) = ltB a b by unfold ltB; exact decide_eq_decide.2 (cmpR_neg ha hb))
  clear ha hb
  have c0 := fun j => cell_of_row _ _ j _ _ _ h0
  have c1 := fun j => cell_of_row _ _ j _ _ _ h1
  have z0 := lt_some h0
  have z1 := lt_some h1
  clear h0 h1
  go_enter Try.func82, Try.ntmps82
  go_wp2_with fail
  refine (HC.out _).mono ?_
  rintro e w1 ⟨rfl, hb1⟩
  go_wp2_with fail
  go_ret
  exact ⟨ret_bool HE.out, bcall HBel0.out HBel0.out.size hb1⟩
/-- Whether a ratio is a point of a cake. -/
def pointB (n : Int) (p : Rt) : Bool := decide (p.code = 0) && decide (0 ≤ p.n) && !ltB ⟨n, 1⟩ p
theorem len_ok {n : Int} (h0 : -1000 ≤ n) (h1 : n ≤ 1000) : Rt.Ok ⟨n, 1⟩ := by
  refine ⟨?_, ?_, ?_, ?_, ?_⟩ <;> (try simp only) <;> first | omega | (unfold gcdI; simp)
set_option maxRecDepth 100000 in
set_option maxHeartbeats 4000000 in
theorem cpoint_any (K : Ck) (A : Option Addr) (c : Nat) (R : Option Addr) (d : Nat) (p : Rt) (hp : p.wf) (h0 : 0 ≤ K.len) (h1 : K.len ≤ 1000) (w : World) :
    Calls Try.prog 81 #[cV A c R d K, rV p] w fun e w' => e = .returned (.bool (pointB K.len p)) ∧ Below w.heap.size w w' := by
  have HBel0 := Lib.hid (show Below w.heap.size w ((w.alloc (cB A c R d K)).alloc (rB p)) from (one_alloc w _).alloc (by simp) _)
  have hh0 : ((w.alloc (cB A c R d K)).alloc (rB p)).heap[w.heap.size]? = some (cB A c R d K) := heap_old (heap_new rfl)
  have hh1 : ((w.alloc (cB A c R d K)).alloc (rB p)).heap[w.heap.size + 1]? = some (rB p) := heap_new (by simp)
  have HL := Lib.hid (len_ok (n := K.len) (by omega) (by omega))
  have HC := Lib.hid (fun (W : World) => rcheck_any p hp W)
  have HP := Lib.hid hp
  clear hp h0 h1
  by_cases q1 : p.code = 0
  · have b1 : (p.code == 0) = true := by simpa using q1
    have d1 : decide (p.code = 0) = true := by simpa using q1
    have HO := Lib.hid (Rt.ok_code q1)
    by_cases q2 : 0 ≤ p.n
    · have b2 : decide (0 ≤ p.n) = true := by simpa using q2
      have HLS := Lib.hid (fun (W : World) => cless_any ⟨K.len, 1⟩ p HL.out HO.out W)
      have HE := Lib.hid (show pointB K.len p = !ltB ⟨K.len, 1⟩ p by unfold pointB; rw [d1, b2]; rfl)
      rw [HE.out]
      clear HE q1 q2 d1
      generalize p.code = pc at *
      generalize ltB ⟨K.len, 1⟩ p = lb at *
      go_enter Try.func81, Try.ntmps81
      go_upto_region 1 with fail
      generalize (w.alloc _).alloc _ = w1 at *
      have c0 := fun j => cell_of_row _ _ j _ _ _ hh0
      have c1 := fun j => cell_of_row _ _ j _ _ _ hh1
      have z0 := lt_some hh0
      have z1 := lt_some hh1
      refine wp_region_ext (by kernel_rfl) (by kernel_rfl) ?_
      repeat (first | go_big_quiet_step ((first | (go_at_call 89; exact calls_ext (HC.out _)) | (go_at_call 83; exact calls_ext (whole_any _ _)) | (go_at_call 82; exact calls_ext (HLS.out _)))) | quiet_step ((first | (go_at_call 89; exact calls_ext (HC.out _)) | (go_at_call 83; exact calls_ext (whole_any _ _)) | (go_at_call 82; exact calls_ext (HLS.out _)))))
      refine wpQuiet_nil ?_
      rintro _ ⟨⟨w2, hb2⟩, rfl⟩
      go_wp2_with fail
      go_ret
      exact ⟨rfl, bcall HBel0.out HBel0.out.size hb2⟩
    · have b2 : decide (0 ≤ p.n) = false := by simpa using q2
      have HE := Lib.hid (show pointB K.len p = false by unfold pointB; rw [b2]; simp)
      rw [HE.out]
      clear HE q1 q2 d1
      generalize p.code = pc at *
      go_enter Try.func81, Try.ntmps81
      go_upto_region 1 with fail
      generalize (w.alloc _).alloc _ = w1 at *
      have c0 := fun j => cell_of_row _ _ j _ _ _ hh0
      have c1 := fun j => cell_of_row _ _ j _ _ _ hh1
      have z0 := lt_some hh0
      have z1 := lt_some hh1
      refine wp_region_ext (by kernel_rfl) (by kernel_rfl) ?_
      repeat (first | go_big_quiet_step ((go_at_call 89; exact calls_ext (HC.out _))) | quiet_step ((go_at_call 89; exact calls_ext (HC.out _))))
      refine wpQuiet_nil ?_
      rintro _ ⟨⟨w2, hb2⟩, rfl⟩
      go_wp2_with fail
      go_ret
      exact ⟨rfl, bcall HBel0.out HBel0.out.size hb2⟩
  · have b1 : (p.code == 0) = false := by simpa using q1
    have HE := Lib.hid (show pointB K.len p = false by unfold pointB; rw [decide_eq_false q1]; rfl)
    rw [HE.out]
    clear HE q1
    generalize p.code = pc at *
    go_enter Try.func81, Try.ntmps81
    go_upto_region 1 with fail
    generalize (w.alloc _).alloc _ = w1 at *
    have c0 := fun j => cell_of_row _ _ j _ _ _ hh0
    have c1 := fun j => cell_of_row _ _ j _ _ _ hh1
    have z0 := lt_some hh0
    have z1 := lt_some hh1
    refine wp_region_ext (by kernel_rfl) (by kernel_rfl) ?_
    repeat (first | go_big_quiet_step ((go_at_call 89; exact calls_ext (HC.out _))) | quiet_step ((go_at_call 89; exact calls_ext (HC.out _))))
    refine wpQuiet_nil ?_
    rintro _ ⟨⟨w2, hb2⟩, rfl⟩
    go_wp2_with fail
    go_ret
    exact ⟨rfl, bcall HBel0.out HBel0.out.size hb2⟩
set_option maxRecDepth 100000 in
set_option maxHeartbeats 4000000 in
theorem fpoint_any (n : Int) (p : Rt) (hp : p.wf) (h0 : 0 ≤ n) (h1 : n ≤ 1000) (w : World) :
    Calls Try.prog 34 #[.int .i64 n, rV p] w fun e w' => e = .returned (.bool (pointB n p)) ∧ Below w.heap.size w w' := by
  have HBel0 := Lib.hid (one_alloc w (rB p))
  have hh1 : (w.alloc (rB p)).heap[w.heap.size]? = some (rB p) := heap_new rfl
  have HL := Lib.hid (len_ok (n := n) (by omega) (by omega))
  have HC := Lib.hid (fun (W : World) => fcheck_any p hp W)
  have HP := Lib.hid hp
  have n1 : IntKind.i64.wrap n = n := IntWalk.i64_in _ (by omega)
  have n1' : wrap64 n = n := IntWalk.wrap64_in _ (by omega)
  clear hp h0 h1
  by_cases q1 : p.code = 0
  · have b1 : (p.code == 0) = true := by simpa using q1
    have d1 : decide (p.code = 0) = true := by simpa using q1
    have HO := Lib.hid (Rt.ok_code q1)
    by_cases q2 : 0 ≤ p.n
    · have b2 : decide (0 ≤ p.n) = true := by simpa using q2
      have HLS := Lib.hid (fun (W : World) => flt_any ⟨n, 1⟩ p HL.out HO.out W)
      have HE := Lib.hid (show pointB n p = !ltB ⟨n, 1⟩ p by unfold pointB; rw [d1, b2]; rfl)
      rw [HE.out]
      clear HE q1 q2 d1
      generalize p.code = pc at *
      generalize ltB ⟨n, 1⟩ p = lb at *
      go_enter Try.func34, Try.ntmps34
      go_upto_region 1 with fail
      generalize w.alloc _ = w1 at *
      have c1 := fun j => cell_of_row _ _ j _ _ _ hh1
      have z1 := lt_some hh1
      refine wp_region_ext (by kernel_rfl) (by kernel_rfl) ?_
      repeat (first | go_big_quiet_step ((first | (go_at_call 30; exact calls_ext (HC.out _)) | (go_at_call 73; exact calls_ext (of_any _ _)) | (go_at_call 35; exact calls_ext (HLS.out _)))) | quiet_step ((first | (go_at_call 30; exact calls_ext (HC.out _)) | (go_at_call 73; exact calls_ext (of_any _ _)) | (go_at_call 35; exact calls_ext (HLS.out _)))))
      refine wpQuiet_nil ?_
      rintro _ ⟨⟨w2, hb2⟩, rfl⟩
      go_wp2_with fail
      go_ret
      exact ⟨rfl, bcall HBel0.out HBel0.out.size hb2⟩
    · have b2 : decide (0 ≤ p.n) = false := by simpa using q2
      have HE := Lib.hid (show pointB n p = false by unfold pointB; rw [b2]; simp)
      rw [HE.out]
      clear HE q1 q2 d1
      generalize p.code = pc at *
      go_enter Try.func34, Try.ntmps34
      go_upto_region 1 with fail
      generalize w.alloc _ = w1 at *
      have c1 := fun j => cell_of_row _ _ j _ _ _ hh1
      have z1 := lt_some hh1
      refine wp_region_ext (by kernel_rfl) (by kernel_rfl) ?_
      repeat (first | go_big_quiet_step ((go_at_call 30; exact calls_ext (HC.out _))) | quiet_step ((go_at_call 30; exact calls_ext (HC.out _))))
      refine wpQuiet_nil ?_
      rintro _ ⟨⟨w2, hb2⟩, rfl⟩
      go_wp2_with fail
      go_ret
      exact ⟨rfl, bcall HBel0.out HBel0.out.size hb2⟩
  · have b1 : (p.code == 0) = false := by simpa using q1
    have HE := Lib.hid (show pointB n p = false by unfold pointB; rw [decide_eq_false q1]; rfl)
    rw [HE.out]
    clear HE q1
    generalize p.code = pc at *
    go_enter Try.func34, Try.ntmps34
    go_upto_region 1 with fail
    generalize w.alloc _ = w1 at *
    have c1 := fun j => cell_of_row _ _ j _ _ _ hh1
    have z1 := lt_some hh1
    refine wp_region_ext (by kernel_rfl) (by kernel_rfl) ?_
    repeat (first | go_big_quiet_step ((go_at_call 30; exact calls_ext (HC.out _))) | quiet_step ((go_at_call 30; exact calls_ext (HC.out _))))
    refine wpQuiet_nil ?_
    rintro _ ⟨⟨w2, hb2⟩, rfl⟩
    go_wp2_with fail
    go_ret
    exact ⟨rfl, bcall HBel0.out HBel0.out.size hb2⟩
set_option maxHeartbeats 1000000 in
theorem cgreat_any (K : Ck) (A : Option Addr) (c : Nat) (R : Option Addr) (d : Nat) (hc : K.cuts.length ≤ maxLen) (hd : K.dens.length ≤ maxLen) (w : World) :
    Calls Try.prog 15 #[cV A c R d K] w fun e w' => e = .returned (.bool K.big) ∧ Below w.heap.size w w' := by
  unfold maxLen at hc hd
  have h0 : (w.alloc (cB A c R d K)).heap[w.heap.size]? = some (cB A c R d K) := heap_new rfl
  have c0 := fun j => cell_of_row _ _ j _ _ _ h0
  have e1 : decide ((60 : Int) < (K.cuts.length : Int)) = decide (60 < K.cuts.length) := decide_eq_decide.2 (by omega)
  have e2 : decide ((60 : Int) < (K.dens.length : Int)) = decide (60 < K.dens.length) := decide_eq_decide.2 (by omega)
  by_cases q : 60 < K.cuts.length
  · have b : decide ((60 : Int) < (K.cuts.length : Int)) = true := decide_eq_true (by omega)
    have HE := Lib.hid (show K.big = true by unfold Ck.big; rw [decide_eq_true q]; rfl)
    rw [HE.out]
    clear HE e1 e2 q
    go_enter Try.func15, Try.ntmps15
    go_wp2_with fail
    go_ret
    exact ⟨rfl, one_alloc _ _⟩
  · have b : decide ((60 : Int) < (K.cuts.length : Int)) = false := decide_eq_false (by omega)
    have bn : decide (60 < K.cuts.length) = false := decide_eq_false (by omega)
    have HE := Lib.hid (show K.big = decide (60 < K.dens.length) by unfold Ck.big; rw [decide_eq_false q]; rfl)
    rw [HE.out]
    clear HE e1 q
    go_enter Try.func15, Try.ntmps15
    go_wp2_with fail
    go_ret
    exact ⟨by simp [e2], one_alloc _ _⟩

set_option maxHeartbeats 1000000 in
theorem min_any (A : Option Addr) (c : Nat) (xs : List Int) (w : World) (hx : Ints w.heap.size w A xs) (h0 : 0 < xs.length) (hm : xs.length ≤ maxLen) :
    Calls Try.prog 84 #[.slice A xs.length c] w fun e w' => e = .returned (.int .i64 (mnTo xs (xs.length - 1))) ∧ Below w.heap.size w w' := by
  unfold maxLen at hm
  have q0 : decide ((xs.length : Int) < 1) = false := decide_eq_false (by omega)
  have q0' : decide (xs.length < 1) = false := decide_eq_false (by omega)
  have q0n : ¬ xs.length < 1 := by omega
  obtain ⟨ad, rfl, hb, hc⟩ := hx.at_ h0
  have i0 : (0 : Int) < (xs.length : Int) := by omega
  rw [show ad.add 0 = ad by simp [Addr.add]] at hc
  go_enter Try.func84, Try.ntmps84
  go_wp2_with fail
  clear q0 q0' q0n hb hc
  go_loop [3, 4] (fun m i => ∃ k : Nat, k < xs.length ∧ i = .int .i64 (k + 1 : Nat) ∧ m = .int .i64 (mnTo xs k)) (fun _ i => xs.length - (intOf i).toNat)
  case atStart => exact ⟨0, h0, rfl, rfl⟩
  case round =>
    obtain ⟨k, hk, rfl, rfl⟩ := hrel
    by_cases hlt : k + 1 < xs.length
    · obtain ⟨ad', e, hb, hc⟩ := hx.at_ hlt
      obtain rfl : ad = ad' := by simpa using e
      have i1 : (((k + 1 : Nat) : Int)) < (xs.length : Int) := by omega
      have i2 : (0 : Int) ≤ ((k + 1 : Nat) : Int) := by omega
      have HS := Lib.hid (show mnTo xs (k + 1) = min (mnTo xs k) (gi xs (k + 1)) from rfl)
      clear e
      generalize hkk : k + 1 = kk at *
      generalize mnTo xs k = mk at *
      go_wp2_with fail
      go_round
      case rel => exact ⟨kk, hlt, by go_num, by rw [HS.out]⟩
      case measure => simp [intOf]; omega
    · obtain rfl : k = xs.length - 1 := by omega
      have i1 : ((xs.length - 1 + 1 : Nat) : Int) = (xs.length : Int) := by omega
      rw [i1]
      go_wp2_with fail
      go_ret
      exact ⟨rfl, Below.refl _ _⟩

set_option maxHeartbeats 1000000 in
theorem max_any (A : Option Addr) (c : Nat) (xs : List Int) (w : World) (hx : Ints w.heap.size w A xs) (h0 : 0 < xs.length) (hm : xs.length ≤ maxLen) :
    Calls Try.prog 85 #[.slice A xs.length c] w fun e w' => e = .returned (.int .i64 (mxTo xs (xs.length - 1))) ∧ Below w.heap.size w w' := by
  unfold maxLen at hm
  have q0 : decide ((xs.length : Int) < 1) = false := decide_eq_false (by omega)
  have q0' : decide (xs.length < 1) = false := decide_eq_false (by omega)
  have q0n : ¬ xs.length < 1 := by omega
  obtain ⟨ad, rfl, hb, hc⟩ := hx.at_ h0
  have i0 : (0 : Int) < (xs.length : Int) := by omega
  rw [show ad.add 0 = ad by simp [Addr.add]] at hc
  go_enter Try.func85, Try.ntmps85
  go_wp2_with fail
  clear q0 q0' q0n hb hc
  go_loop [3, 4] (fun m i => ∃ k : Nat, k < xs.length ∧ i = .int .i64 (k + 1 : Nat) ∧ m = .int .i64 (mxTo xs k)) (fun _ i => xs.length - (intOf i).toNat)
  case atStart => exact ⟨0, h0, rfl, rfl⟩
  case round =>
    obtain ⟨k, hk, rfl, rfl⟩ := hrel
    by_cases hlt : k + 1 < xs.length
    · obtain ⟨ad', e, hb, hc⟩ := hx.at_ hlt
      obtain rfl : ad = ad' := by simpa using e
      have i1 : (((k + 1 : Nat) : Int)) < (xs.length : Int) := by omega
      have i2 : (0 : Int) ≤ ((k + 1 : Nat) : Int) := by omega
      have HS := Lib.hid (show mxTo xs (k + 1) = max (mxTo xs k) (gi xs (k + 1)) from rfl)
      clear e
      generalize hkk : k + 1 = kk at *
      generalize mxTo xs k = mk at *
      go_wp2_with fail
      go_round
      case rel => exact ⟨kk, hlt, by go_num, by rw [HS.out]⟩
      case measure => simp [intOf]; omega
    · obtain rfl : k = xs.length - 1 := by omega
      have i1 : ((xs.length - 1 + 1 : Nat) : Int) = (xs.length : Int) := by omega
      rw [i1]
      go_wp2_with fail
      go_ret
      exact ⟨rfl, Below.refl _ _⟩
/-- Whether two lists are the same. -/
def sameL (a b : List Int) : Bool := decide (a = b)

set_option maxHeartbeats 1000000 in
theorem equal_any (A B : Option Addr) (c d : Nat) (xs ys : List Int) (w : World) (hx : Ints w.heap.size w A xs) (hy : Ints w.heap.size w B ys) (hm : xs.length ≤ maxLen) (hm' : ys.length ≤ maxLen) :
    Calls Try.prog 86 #[.slice A xs.length c, .slice B ys.length d] w fun e w' => e = .returned (.bool (sameL xs ys)) ∧ Below w.heap.size w w' := by
  unfold maxLen at hm hm'
  by_cases hl : xs.length = ys.length
  · have hne : ((xs.length : Int) != (ys.length : Int)) = false := by simp [hl]
    have HL := Lib.hid hl
    clear hl
    go_enter Try.func86, Try.ntmps86
    go_wp2
    go_loopw [5, 13] (fun _ i wr => ∃ k : Nat, k ≤ xs.length ∧ i = .int .i64 k ∧ Hid (∀ j, j < k → gi xs j = gi ys j) ∧ Below w.heap.size w wr) (fun _ i _ => xs.length - (intOf i).toNat)
    case atStart => exact ⟨0, Nat.zero_le _, rfl, fun j hj => by omega, Below.refl _ _⟩
    case round =>
      obtain ⟨k, hk, rfl, hno, hB⟩ := hrel
      by_cases hlt : k < xs.length
      · obtain ⟨ad, rfl, hb, hc⟩ := (hx.below hB).at_ hlt
        have hlt' : k < ys.length := by rw [← HL.out]; exact hlt
        obtain ⟨bd, rfl, hb', hc'⟩ := (hy.below hB).at_ hlt'
        by_cases hq : gi xs k = gi ys k
        · have hqb : (gi xs k != gi ys k) = false := by simp [hq]
          have HQ := Lib.hid hq
          clear hq
          go_wp2_with fail
          go_quiet (fail)
          go_wp2
          go_roundw
          case rel => exact ⟨k + 1, by omega, by go_num, Lib.hid (fun j hj => by
            by_cases e : j = k
            · subst e; exact HQ.out
            · exact hno.out j (by omega)), below_drewN hB _⟩
          case measure => simp [intOf]; omega
        · have hqb : (gi xs k != gi ys k) = true := by simp [hq]
          have HQ := Lib.hid hq
          clear hq
          go_wp2_with fail
          go_quiet (fail)
          go_wp2
          go_ret
          exact ⟨ret_bool (by simp only [sameL]; rw [Bool.false_eq, decide_eq_false_iff_not]; rintro rfl; exact HQ.out rfl), below_drewN hB _⟩
      · obtain rfl : k = xs.length := by omega
        go_wp2
        go_ret
        exact ⟨ret_bool (by simp only [sameL]; rw [Bool.true_eq, decide_eq_true_iff]; exact gi_ext HL.out hno.out), hB⟩
  · have hne : ((xs.length : Int) != (ys.length : Int)) = true := by simp; omega
    have HL := Lib.hid hl
    clear hl
    go_enter Try.func86, Try.ntmps86
    go_wp2
    go_ret
    exact ⟨ret_bool (by simp only [sameL]; rw [Bool.false_eq, decide_eq_false_iff_not]; rintro rfl; exact HL.out rfl), Below.refl _ _⟩


end Go.Proofs.Ytgcbmnohhbcfiaa
