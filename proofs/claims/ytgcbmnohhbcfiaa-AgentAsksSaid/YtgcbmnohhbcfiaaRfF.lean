/- The reference's Sub and Mul, walked. -/
import Derived.Test.YtgcbmnohhbcfiaaRfE
namespace Go.Proofs.Ytgcbmnohhbcfiaa
open Go.RowKit Go.Deep
set_option linter.unusedVariables false
set_option linter.unusedSimpArgs false

/-- The product's numerator is 0 only if one of both is. -/
theorem prod_pos {a b : Rt} (ha : a.Ok) (hb : b.Ok) : (0 < absI a.n / gcdI a.n b.d * (absI b.n / gcdI b.n a.d)) ↔ (a.n ≠ 0 ∧ b.n ≠ 0) := by
  have d1 := ha.d0; have d2 := hb.d0
  have hg := gcdI_pos (a := a.n) (b := b.d) (by omega)
  have hh := gcdI_pos (a := b.n) (b := a.d) (by omega)
  have e1 : gcdI a.n b.d ∣ absI a.n := by
    have := Int.gcd_dvd_left (absI a.n) b.d; rw [gcd_abs] at this; exact this
  have e3 : gcdI b.n a.d ∣ absI b.n := by
    have := Int.gcd_dvd_left (absI b.n) a.d; rw [gcd_abs] at this; exact this
  have f1 := Int.mul_ediv_cancel' e1
  have f3 := Int.mul_ediv_cancel' e3
  have u0 : 0 ≤ absI a.n / gcdI a.n b.d := Int.ediv_nonneg (absI_nonneg _) (by omega)
  have v0 : 0 ≤ absI b.n / gcdI b.n a.d := Int.ediv_nonneg (absI_nonneg _) (by omega)
  generalize absI a.n / gcdI a.n b.d = u at *
  generalize absI b.n / gcdI b.n a.d = v at *
  constructor
  · intro h
    refine ⟨fun k => ?_, fun k => ?_⟩
    · have : u = 0 := by
        rw [k] at f1
        have : gcdI a.n b.d * u = 0 := by rw [k]; exact f1
        rcases Int.mul_eq_zero.1 this with h1 | h1
        · omega
        · exact h1
      rw [this] at h; simp at h
    · have : v = 0 := by
        have : gcdI b.n a.d * v = 0 := by rw [f3, k]; rfl
        rcases Int.mul_eq_zero.1 this with h1 | h1
        · omega
        · exact h1
      rw [this] at h; simp at h
  · rintro ⟨h1, h2⟩
    have hu : u ≠ 0 := fun k => by rw [k, Int.mul_zero] at f1; unfold absI at f1; omega
    have hv : v ≠ 0 := fun k => by rw [k, Int.mul_zero] at f3; unfold absI at f3; omega
    exact Int.mul_pos (by omega) (by omega)

set_option maxRecDepth 100000 in
set_option maxHeartbeats 4000000 in
theorem fsub_any (a b : Rt) (ha : a.wf) (hb : b.wf) (w : World) :
    Calls Try.prog 128 #[rV a, rV b] w fun e w' => e = .returned (.tuple #[rV (subR a b), .int .i64 (subC a b)]) ∧ Below w.heap.size w w' := by
  have hT0 := TriIn.start w a b
  have HC := Lib.hid (fun (W : World) => fboth_any a b ha hb W)
  by_cases hc : code2 a b = 0
  rotate_left
  · have q1 : (code2 a b != 0) = true := by simpa using hc
    have hr := sub_bad hc
    rw [hr.1, hr.2]
    clear hr hc ha hb
    generalize code2 a b = c at HC q1
    go_enter Try.func128, Try.ntmps128
    go_wp2_with fail
    refine (HC.out _).mono ?_
    rintro e w1 ⟨rfl, hb1⟩
    have hT1 := hT0.next hb1
    clear hb1 hT0
    have ca := fun j => cell_of_row w1 _ j _ _ _ hT1.ba
    have cb := fun j => cell_of_row w1 _ j _ _ _ hT1.bb
    go_wp2_with fail
    refine (HC.out _).mono ?_
    rintro e w2 ⟨rfl, hb2⟩
    have hT2 := hT1.next hb2
    clear hb2 hT1 ca cb
    obtain ⟨x0, x1, hr0⟩ := hT2.r
    have c1 := fun j => cell_of_row w2 _ j _ _ _ hr0
    have c2 := fun j => frozen_of_row w2 _ j _ _ hr0
    have z1 := lt_some hr0
    go_wp2_with fail
    exact bodyPost_ret (v := .tuple #[.agg #[.int .i64 0, .int .i64 0], .int .i64 c]) (by simp [results, Try.results128, go_sem, c1, c2, z1]) rfl ⟨rfl, hT2.end_ _ _⟩
  obtain ⟨oa, ob⟩ := ok_code2 hc
  have q1 : (code2 a b != 0) = false := by simpa using hc
  rw [← (sub_add hc).1, ← (sub_add hc).2]
  have m0 := ob.n0; have m1 := ob.n1
  have HA := Lib.hid (fun (W : World) => fadd_any a b.neg ha (Rt.neg_ok ob).wf W)
  have HN := Lib.hid (fun (W : World) => neg_any b W (by omega) (by omega))
  clear hc ha hb
  generalize addR a b.neg = R at HA ⊢
  generalize addC a b.neg = C at HA ⊢
  go_enter Try.func128, Try.ntmps128
  go_wp2_with fail
  refine (HC.out _).mono ?_
  rintro e w1 ⟨rfl, hb1⟩
  have hT1 := hT0.next hb1
  clear hb1 hT0
  go_upto_region 3 with fail
  have HRG : Grows (TriIn w a b) := fun _ _ h hb => h.next hb
  refine wp_region_grown (TriIn w a b) HRG ((hT1).next (Below.refl _ _).drew) [0, 1, 2, 3, 4, 5] 8 2 (by kernel_rfl) (by kernel_rfl) ?_
  apply Exists.intro
  refine ⟨fun G hG hN => ?_, ?_⟩
  · have ca := fun (e : GE (TriIn w a b) G) j => cell_of_row e.w _ j _ _ _ e.h.ba
    have cb := fun (e : GE (TriIn w a b) G) j => cell_of_row e.w _ j _ _ _ e.h.bb
    simp only [pickOps, List.getElem?_toArray, List.getElem?_cons_zero, List.getElem?_cons_succ]
    repeat (first | go_big_quiet_step ((first | (go_at_call 140; exact calls_ge HRG hG (HN.out _)) | (go_at_call 125; exact calls_ge HRG hG (HA.out _)))) | quiet_step ((first | (go_at_call 140; exact calls_ge HRG hG (HN.out _)) | (go_at_call 125; exact calls_ge HRG hG (HA.out _)))))
    exact wpQuiet_nil rfl
  refine wpAnyE_all (rs := [6]) (by kernel_rfl) (by simp) (fun W1 hW1 hRW1 i hi => ?_)
  obtain rfl := List.mem_singleton.1 hi
  obtain ⟨x0, x1, hr0⟩ := hRW1.r
  have c1 := fun j => cell_of_row _ _ j _ _ _ hr0
  have c2 := fun j => frozen_of_row _ _ j _ _ hr0
  refine wpOp_step rfl (fun K hK => ?_)
  go_simp
  refine hK _ _ ⟨hRW1.setR _ _, ?_⟩
  clear hK K
  clear c1 c2
  refine wpAnyE_all (rs := [7]) (by kernel_rfl) (by simp) (fun W2 hW2 hRW2 i hi => ?_)
  obtain rfl := List.mem_singleton.1 hi
  refine wpOp_step rfl (fun K hK => ?_)
  go_simp
  refine hK _ _ ⟨hRW2, ?_⟩
  clear hK K
  refine wpAnyE_done (by kernel_rfl) (fun W3 hW3 hR3 => ?_) _
  refine NoPanic.normal ?_
  have hr1 := heap_ext (heap_ext (heap_set (heap_set hr0)) hW2) hW3
  have c1 := fun j => cell_of_row _ _ j _ _ _ hr1
  have z1 := lt_some hr1
  go_wp2_with fail
  exact bodyPost_ret (v := .tuple #[rV R, .int .i64 C]) (by simp [results, Try.results128, go_sem, c1, z1]) rfl ⟨rfl, hR3.below⟩

set_option maxRecDepth 100000 in
set_option maxHeartbeats 8000000 in
theorem fmul_any (a b : Rt) (ha : a.wf) (hb : b.wf) (w : World) :
    Calls Try.prog 135 #[rV a, rV b] w fun e w' => e = .returned (.tuple #[rV (mulR a b), .int .i64 (mulC a b)]) ∧ Below w.heap.size w w' := by
  have hT0 := TriIn.start w a b
  have HC := Lib.hid (fun (W : World) => fboth_any a b ha hb W)
  by_cases hc : code2 a b = 0
  rotate_left
  · have q1 : (code2 a b != 0) = true := by simpa using hc
    have hr := mul_bad hc
    rw [hr.1, hr.2]
    clear hr hc ha hb
    generalize code2 a b = c at HC q1
    go_enter Try.func135, Try.ntmps135
    go_wp2_with fail
    refine (HC.out _).mono ?_
    rintro e w1 ⟨rfl, hb1⟩
    have hT1 := hT0.next hb1
    clear hb1 hT0
    have ca := fun j => cell_of_row w1 _ j _ _ _ hT1.ba
    have cb := fun j => cell_of_row w1 _ j _ _ _ hT1.bb
    go_wp2_with fail
    refine (HC.out _).mono ?_
    rintro e w2 ⟨rfl, hb2⟩
    have hT2 := hT1.next hb2
    clear hb2 hT1 ca cb
    obtain ⟨x0, x1, hr0⟩ := hT2.r
    have c1 := fun j => cell_of_row w2 _ j _ _ _ hr0
    have c2 := fun j => frozen_of_row w2 _ j _ _ hr0
    have z1 := lt_some hr0
    go_wp2_with fail
    exact bodyPost_ret (v := .tuple #[.agg #[.int .i64 0, .int .i64 0], .int .i64 c]) (by simp [results, Try.results135, go_sem, c1, c2, z1]) rfl ⟨rfl, hT2.end_ _ _⟩
  obtain ⟨oa, ob⟩ := ok_code2 hc
  have q1 : (code2 a b != 0) = false := by simpa using hc
  rw [(mul_ok hc).1, (mul_ok hc).2]
  clear hc ha hb
  have P := prodOf oa ob
  have n0 := oa.n0; have n1 := oa.n1; have d0 := oa.d0; have d1 := oa.d1
  have m0 := ob.n0; have m1 := ob.n1; have e0 := ob.d0; have e1 := ob.d1
  have an := absI_nonneg a.n
  have al : absI a.n ≤ 1000000000000000000 := by unfold absI; omega
  have bn := absI_nonneg b.n
  have bl : absI b.n ≤ 1000000000000000000 := by unfold absI; omega
  have HS1 := Lib.hid (fun (W : World) => fabs_any a.n W (by omega) (by omega))
  have HS2 := Lib.hid (fun (W : World) => fabs_any b.n W (by omega) (by omega))
  have HG1 := Lib.hid (fun (W : World) => fgcd_any (absI a.n) b.d W (by omega) (by omega) (by omega) (by omega))
  have HG2 := Lib.hid (fun (W : World) => fgcd_any (absI b.n) a.d W (by omega) (by omega) (by omega) (by omega))
  rw [gcdI_abs] at HG1 HG2
  have HFIN := Lib.hid P.fin
  have HZN := Lib.hid (show (0 < absI a.n / gcdI a.n b.d * (absI b.n / gcdI b.n a.d)) ↔ (a.n ≠ 0 ∧ b.n ≠ 0) from prod_pos oa ob)
  generalize mkR (a.q * b.q) = R at HFIN ⊢
  generalize mkC (a.q * b.q) = C at HFIN ⊢
  generalize gcdI a.n b.d = g at *
  generalize gcdI b.n a.d = h at *
  have g0 := P.g0; have h0 := P.h0; have gd := P.gd; have hd := P.hd
  have u0 := P.u0; have u1 := P.u1; have v0 := P.v0; have v1 := P.v1
  have x0 := P.x0; have x1 := P.x1; have y0 := P.y0; have y1 := P.y1
  have N0 := P.n0; have D0 := P.d0
  have wd1 : IntKind.u64.wrap a.d = a.d := IntWalk.u64_in _ (by omega)
  have wd2 : IntKind.u64.wrap b.d = b.d := IntWalk.u64_in _ (by omega)
  have r1 : IntKind.u64.wrap ((absI a.n).tdiv g) = absI a.n / g := IntWalk.u64_quo _ _ (by omega)
  have r2 : IntKind.u64.wrap ((absI b.n).tdiv h) = absI b.n / h := IntWalk.u64_quo _ _ (by omega)
  have r3 : IntKind.u64.wrap (a.d.tdiv h) = a.d / h := IntWalk.u64_quo _ _ (by omega)
  have r4 : IntKind.u64.wrap (b.d.tdiv g) = b.d / g := IntWalk.u64_quo _ _ (by omega)
  have r5 : ¬ g = 0 := by omega
  have r6 : ¬ h = 0 := by omega
  clear P
  generalize absI a.n / g = u at *
  generalize absI b.n / h = v at *
  generalize a.d / h = x at *
  generalize b.d / g = y at *
  have HM1 := Lib.hid (fun (W : World) => times_any u v W u0 (by omega) v0 (by omega))
  have HM2 := Lib.hid (fun (W : World) => times_any x y W x0 (by omega) y0 (by omega))
  generalize u * v = N at *
  generalize x * y = D at *
  have HDM := Lib.hid (show ∀ (W : World), Calls Try.prog 119 #[.bool (decide (0 < N) && (decide (a.n < 0) != decide (b.n < 0))), wV N, wV D] W fun e w' => e = .returned (.tuple #[rV R, .int .i64 C]) ∧ Below W.heap.size W w' from fun W => by
    have := made_any (decide (0 < N) && (decide (a.n < 0) != decide (b.n < 0))) N D W N0 (by omega)
    unfold signR signC at this
    rw [HFIN.out.1, HFIN.out.2] at this
    exact this)
  clear HFIN
  obtain ⟨sA, hsA⟩ : ∃ A, decide (a.n < 0) = A := ⟨_, rfl⟩
  obtain ⟨sB, hsB⟩ : ∃ B, decide (b.n < 0) = B := ⟨_, rfl⟩
  rw [hsA, hsB] at HDM
  go_enter Try.func135, Try.ntmps135
  go_wp2_with fail
  refine (HC.out _).mono ?_
  rintro e w1 ⟨rfl, hb1⟩
  have hT1 := hT0.next hb1
  clear hb1 hT0
  go_upto_region 3 with fail
  have HRG : Grows (TriIn w a b) := fun _ _ h hb => h.next hb
  refine wp_region_grown (TriIn w a b) HRG ((hT1).next (Below.refl _ _).drew) [0, 1, 2, 3, 4, 5, 6, 7, 8, 9, 10, 11, 12, 13, 14, 15] 16 0 (by kernel_rfl) (by kernel_rfl) ?_
  apply Exists.intro
  refine ⟨fun G hG hN => ?_, ?_⟩
  · have ca := fun (e : GE (TriIn w a b) G) j => cell_of_row e.w _ j _ _ _ e.h.ba
    have cb := fun (e : GE (TriIn w a b) G) j => cell_of_row e.w _ j _ _ _ e.h.bb
    simp only [pickOps, List.getElem?_toArray, List.getElem?_cons_zero, List.getElem?_cons_succ]
    repeat (first | go_big_quiet_step ((first | (go_at_call 88; first | (with_reducible exact calls_ge HRG hG (HS1.out _)) | (with_reducible exact calls_ge HRG hG (HS2.out _))) | (go_at_call 87; first | (with_reducible exact calls_ge HRG hG (HG1.out _)) | (with_reducible exact calls_ge HRG hG (HG2.out _))))) | quiet_step ((first | (go_at_call 88; first | (with_reducible exact calls_ge HRG hG (HS1.out _)) | (with_reducible exact calls_ge HRG hG (HS2.out _))) | (go_at_call 87; first | (with_reducible exact calls_ge HRG hG (HG1.out _)) | (with_reducible exact calls_ge HRG hG (HG2.out _))))))
    exact wpQuiet_nil rfl
  refine wpAnyE_done (by kernel_rfl) (fun w2 hw2 hT2 => ?_) _
  refine NoPanic.normal ?_
  clear hT1 hw2 HG1 HG2
  go_upto_region 4 with fail
  clear HRG
  cases sA
  · cases sB
    · have HD : Hid (∀ (W : World), Calls Try.prog 119 #[.bool false, wV N, wV D] W fun e w' => e = .returned (.tuple #[rV R, .int .i64 C]) ∧ Below W.heap.size W w') := Lib.hid (by have := HDM.out; simpa using this)
      clear HDM HZN
      have HRG : Grows (TriIn w a b) := fun _ _ h hb => h.next hb
      refine wp_region_grown (TriIn w a b) HRG ((hT2).next (Below.refl _ _).drew) [0, 1, 2, 3, 4, 5, 6, 7, 8, 9, 10, 11, 12, 13, 14, 15, 16, 17, 18, 19, 20, 21, 22, 23, 24, 25, 26, 27, 28, 29, 30, 31, 32, 33, 34, 35, 36, 37, 38, 39, 40, 41] 44 2 (by kernel_rfl) (by kernel_rfl) ?_
      apply Exists.intro
      refine ⟨fun G hG hN => ?_, ?_⟩
      · have ca := fun (e : GE (TriIn w a b) G) j => cell_of_row e.w _ j _ _ _ e.h.ba
        have cb := fun (e : GE (TriIn w a b) G) j => cell_of_row e.w _ j _ _ _ e.h.bb
        simp only [pickOps, List.getElem?_toArray, List.getElem?_cons_zero, List.getElem?_cons_succ]
        repeat (first | go_big_quiet_step ((first | (go_at_call 88; first | (with_reducible exact calls_ge HRG hG (HS1.out _)) | (with_reducible exact calls_ge HRG hG (HS2.out _))) | (go_at_call 95; first | (with_reducible exact calls_ge HRG hG (HM1.out _)) | (with_reducible exact calls_ge HRG hG (HM2.out _))) | (go_at_call 119; exact calls_ge HRG hG (HD.out _)))) | quiet_step ((first | (go_at_call 88; first | (with_reducible exact calls_ge HRG hG (HS1.out _)) | (with_reducible exact calls_ge HRG hG (HS2.out _))) | (go_at_call 95; first | (with_reducible exact calls_ge HRG hG (HM1.out _)) | (with_reducible exact calls_ge HRG hG (HM2.out _))) | (go_at_call 119; exact calls_ge HRG hG (HD.out _)))))
        exact wpQuiet_nil rfl
      refine wpAnyE_all (rs := [42]) (by kernel_rfl) (by simp) (fun W1 hW1 hRW1 i hi => ?_)
      obtain rfl := List.mem_singleton.1 hi
      obtain ⟨x0, x1, hr0⟩ := hRW1.r
      have c1 := fun j => cell_of_row _ _ j _ _ _ hr0
      have c2 := fun j => frozen_of_row _ _ j _ _ hr0
      refine wpOp_step rfl (fun K hK => ?_)
      go_simp
      refine hK _ _ ⟨hRW1.setR _ _, ?_⟩
      clear hK K
      clear c1 c2
      refine wpAnyE_all (rs := [43]) (by kernel_rfl) (by simp) (fun W2 hW2 hRW2 i hi => ?_)
      obtain rfl := List.mem_singleton.1 hi
      refine wpOp_step rfl (fun K hK => ?_)
      go_simp
      refine hK _ _ ⟨hRW2, ?_⟩
      clear hK K
      refine wpAnyE_done (by kernel_rfl) (fun W3 hW3 hR3 => ?_) _
      refine NoPanic.normal ?_
      have hr1 := heap_ext (heap_ext (heap_set (heap_set hr0)) hW2) hW3
      have c1 := fun j => cell_of_row _ _ j _ _ _ hr1
      have z1 := lt_some hr1
      go_wp2_with fail
      exact bodyPost_ret (v := .tuple #[rV R, .int .i64 C]) (by simp [results, Try.results135, go_sem, c1, z1]) rfl ⟨rfl, hR3.below⟩
    · by_cases ka : a.n = 0
      · have q5 : (a.n != 0) = false := by simpa using ka
        have HD : Hid (∀ (W : World), Calls Try.prog 119 #[.bool false, wV N, wV D] W fun e w' => e = .returned (.tuple #[rV R, .int .i64 C]) ∧ Below W.heap.size W w') := Lib.hid (by have := HDM.out; rw [show decide (0 < N) = false by simp; have h9 := HZN.out; omega] at this; simpa using this)
        clear HDM HZN
        clear ka
        have HRG : Grows (TriIn w a b) := fun _ _ h hb => h.next hb
        refine wp_region_grown (TriIn w a b) HRG ((hT2).next (Below.refl _ _).drew) [0, 1, 2, 3, 4, 5, 6, 7, 8, 9, 10, 11, 12, 13, 14, 15, 16, 17, 18, 19, 20, 21, 22, 23, 24, 25, 26, 27, 28, 29, 30, 31, 32, 33, 34, 35, 36, 37, 38, 39, 40, 41] 44 2 (by kernel_rfl) (by kernel_rfl) ?_
        apply Exists.intro
        refine ⟨fun G hG hN => ?_, ?_⟩
        · have ca := fun (e : GE (TriIn w a b) G) j => cell_of_row e.w _ j _ _ _ e.h.ba
          have cb := fun (e : GE (TriIn w a b) G) j => cell_of_row e.w _ j _ _ _ e.h.bb
          simp only [pickOps, List.getElem?_toArray, List.getElem?_cons_zero, List.getElem?_cons_succ]
          repeat (first | go_big_quiet_step ((first | (go_at_call 88; first | (with_reducible exact calls_ge HRG hG (HS1.out _)) | (with_reducible exact calls_ge HRG hG (HS2.out _))) | (go_at_call 95; first | (with_reducible exact calls_ge HRG hG (HM1.out _)) | (with_reducible exact calls_ge HRG hG (HM2.out _))) | (go_at_call 119; exact calls_ge HRG hG (HD.out _)))) | quiet_step ((first | (go_at_call 88; first | (with_reducible exact calls_ge HRG hG (HS1.out _)) | (with_reducible exact calls_ge HRG hG (HS2.out _))) | (go_at_call 95; first | (with_reducible exact calls_ge HRG hG (HM1.out _)) | (with_reducible exact calls_ge HRG hG (HM2.out _))) | (go_at_call 119; exact calls_ge HRG hG (HD.out _)))))
          exact wpQuiet_nil rfl
        refine wpAnyE_all (rs := [42]) (by kernel_rfl) (by simp) (fun W1 hW1 hRW1 i hi => ?_)
        obtain rfl := List.mem_singleton.1 hi
        obtain ⟨x0, x1, hr0⟩ := hRW1.r
        have c1 := fun j => cell_of_row _ _ j _ _ _ hr0
        have c2 := fun j => frozen_of_row _ _ j _ _ hr0
        refine wpOp_step rfl (fun K hK => ?_)
        go_simp
        refine hK _ _ ⟨hRW1.setR _ _, ?_⟩
        clear hK K
        clear c1 c2
        refine wpAnyE_all (rs := [43]) (by kernel_rfl) (by simp) (fun W2 hW2 hRW2 i hi => ?_)
        obtain rfl := List.mem_singleton.1 hi
        refine wpOp_step rfl (fun K hK => ?_)
        go_simp
        refine hK _ _ ⟨hRW2, ?_⟩
        clear hK K
        refine wpAnyE_done (by kernel_rfl) (fun W3 hW3 hR3 => ?_) _
        refine NoPanic.normal ?_
        have hr1 := heap_ext (heap_ext (heap_set (heap_set hr0)) hW2) hW3
        have c1 := fun j => cell_of_row _ _ j _ _ _ hr1
        have z1 := lt_some hr1
        go_wp2_with fail
        exact bodyPost_ret (v := .tuple #[rV R, .int .i64 C]) (by simp [results, Try.results135, go_sem, c1, z1]) rfl ⟨rfl, hR3.below⟩
      · have q5 : (a.n != 0) = true := by simpa using ka
        by_cases kb : b.n = 0
        · have q6 : (b.n != 0) = false := by simpa using kb
          have HD : Hid (∀ (W : World), Calls Try.prog 119 #[.bool false, wV N, wV D] W fun e w' => e = .returned (.tuple #[rV R, .int .i64 C]) ∧ Below W.heap.size W w') := Lib.hid (by have := HDM.out; rw [show decide (0 < N) = false by simp; have h9 := HZN.out; omega] at this; simpa using this)
          clear HDM HZN
          clear ka kb
          have HRG : Grows (TriIn w a b) := fun _ _ h hb => h.next hb
          refine wp_region_grown (TriIn w a b) HRG ((hT2).next (Below.refl _ _).drew) [0, 1, 2, 3, 4, 5, 6, 7, 8, 9, 10, 11, 12, 13, 14, 15, 16, 17, 18, 19, 20, 21, 22, 23, 24, 25, 26, 27, 28, 29, 30, 31, 32, 33, 34, 35, 36, 37, 38, 39, 40, 41] 44 2 (by kernel_rfl) (by kernel_rfl) ?_
          apply Exists.intro
          refine ⟨fun G hG hN => ?_, ?_⟩
          · have ca := fun (e : GE (TriIn w a b) G) j => cell_of_row e.w _ j _ _ _ e.h.ba
            have cb := fun (e : GE (TriIn w a b) G) j => cell_of_row e.w _ j _ _ _ e.h.bb
            simp only [pickOps, List.getElem?_toArray, List.getElem?_cons_zero, List.getElem?_cons_succ]
            repeat (first | go_big_quiet_step ((first | (go_at_call 88; first | (with_reducible exact calls_ge HRG hG (HS1.out _)) | (with_reducible exact calls_ge HRG hG (HS2.out _))) | (go_at_call 95; first | (with_reducible exact calls_ge HRG hG (HM1.out _)) | (with_reducible exact calls_ge HRG hG (HM2.out _))) | (go_at_call 119; exact calls_ge HRG hG (HD.out _)))) | quiet_step ((first | (go_at_call 88; first | (with_reducible exact calls_ge HRG hG (HS1.out _)) | (with_reducible exact calls_ge HRG hG (HS2.out _))) | (go_at_call 95; first | (with_reducible exact calls_ge HRG hG (HM1.out _)) | (with_reducible exact calls_ge HRG hG (HM2.out _))) | (go_at_call 119; exact calls_ge HRG hG (HD.out _)))))
            exact wpQuiet_nil rfl
          refine wpAnyE_all (rs := [42]) (by kernel_rfl) (by simp) (fun W1 hW1 hRW1 i hi => ?_)
          obtain rfl := List.mem_singleton.1 hi
          obtain ⟨x0, x1, hr0⟩ := hRW1.r
          have c1 := fun j => cell_of_row _ _ j _ _ _ hr0
          have c2 := fun j => frozen_of_row _ _ j _ _ hr0
          refine wpOp_step rfl (fun K hK => ?_)
          go_simp
          refine hK _ _ ⟨hRW1.setR _ _, ?_⟩
          clear hK K
          clear c1 c2
          refine wpAnyE_all (rs := [43]) (by kernel_rfl) (by simp) (fun W2 hW2 hRW2 i hi => ?_)
          obtain rfl := List.mem_singleton.1 hi
          refine wpOp_step rfl (fun K hK => ?_)
          go_simp
          refine hK _ _ ⟨hRW2, ?_⟩
          clear hK K
          refine wpAnyE_done (by kernel_rfl) (fun W3 hW3 hR3 => ?_) _
          refine NoPanic.normal ?_
          have hr1 := heap_ext (heap_ext (heap_set (heap_set hr0)) hW2) hW3
          have c1 := fun j => cell_of_row _ _ j _ _ _ hr1
          have z1 := lt_some hr1
          go_wp2_with fail
          exact bodyPost_ret (v := .tuple #[rV R, .int .i64 C]) (by simp [results, Try.results135, go_sem, c1, z1]) rfl ⟨rfl, hR3.below⟩
        · have q6 : (b.n != 0) = true := by simpa using kb
          have HD : Hid (∀ (W : World), Calls Try.prog 119 #[.bool true, wV N, wV D] W fun e w' => e = .returned (.tuple #[rV R, .int .i64 C]) ∧ Below W.heap.size W w') := Lib.hid (by have := HDM.out; rw [show decide (0 < N) = true by simp; have h9 := HZN.out; omega] at this; simpa using this)
          clear HDM HZN
          clear ka kb
          have HRG : Grows (TriIn w a b) := fun _ _ h hb => h.next hb
          refine wp_region_grown (TriIn w a b) HRG ((hT2).next (Below.refl _ _).drew) [0, 1, 2, 3, 4, 5, 6, 7, 8, 9, 10, 11, 12, 13, 14, 15, 16, 17, 18, 19, 20, 21, 22, 23, 24, 25, 26, 27, 28, 29, 30, 31, 32, 33, 34, 35, 36, 37, 38, 39, 40, 41] 44 2 (by kernel_rfl) (by kernel_rfl) ?_
          apply Exists.intro
          refine ⟨fun G hG hN => ?_, ?_⟩
          · have ca := fun (e : GE (TriIn w a b) G) j => cell_of_row e.w _ j _ _ _ e.h.ba
            have cb := fun (e : GE (TriIn w a b) G) j => cell_of_row e.w _ j _ _ _ e.h.bb
            simp only [pickOps, List.getElem?_toArray, List.getElem?_cons_zero, List.getElem?_cons_succ]
            repeat (first | go_big_quiet_step ((first | (go_at_call 88; first | (with_reducible exact calls_ge HRG hG (HS1.out _)) | (with_reducible exact calls_ge HRG hG (HS2.out _))) | (go_at_call 95; first | (with_reducible exact calls_ge HRG hG (HM1.out _)) | (with_reducible exact calls_ge HRG hG (HM2.out _))) | (go_at_call 119; exact calls_ge HRG hG (HD.out _)))) | quiet_step ((first | (go_at_call 88; first | (with_reducible exact calls_ge HRG hG (HS1.out _)) | (with_reducible exact calls_ge HRG hG (HS2.out _))) | (go_at_call 95; first | (with_reducible exact calls_ge HRG hG (HM1.out _)) | (with_reducible exact calls_ge HRG hG (HM2.out _))) | (go_at_call 119; exact calls_ge HRG hG (HD.out _)))))
            exact wpQuiet_nil rfl
          refine wpAnyE_all (rs := [42]) (by kernel_rfl) (by simp) (fun W1 hW1 hRW1 i hi => ?_)
          obtain rfl := List.mem_singleton.1 hi
          obtain ⟨x0, x1, hr0⟩ := hRW1.r
          have c1 := fun j => cell_of_row _ _ j _ _ _ hr0
          have c2 := fun j => frozen_of_row _ _ j _ _ hr0
          refine wpOp_step rfl (fun K hK => ?_)
          go_simp
          refine hK _ _ ⟨hRW1.setR _ _, ?_⟩
          clear hK K
          clear c1 c2
          refine wpAnyE_all (rs := [43]) (by kernel_rfl) (by simp) (fun W2 hW2 hRW2 i hi => ?_)
          obtain rfl := List.mem_singleton.1 hi
          refine wpOp_step rfl (fun K hK => ?_)
          go_simp
          refine hK _ _ ⟨hRW2, ?_⟩
          clear hK K
          refine wpAnyE_done (by kernel_rfl) (fun W3 hW3 hR3 => ?_) _
          refine NoPanic.normal ?_
          have hr1 := heap_ext (heap_ext (heap_set (heap_set hr0)) hW2) hW3
          have c1 := fun j => cell_of_row _ _ j _ _ _ hr1
          have z1 := lt_some hr1
          go_wp2_with fail
          exact bodyPost_ret (v := .tuple #[rV R, .int .i64 C]) (by simp [results, Try.results135, go_sem, c1, z1]) rfl ⟨rfl, hR3.below⟩
  · cases sB
    · by_cases ka : a.n = 0
      · have q5 : (a.n != 0) = false := by simpa using ka
        have HD : Hid (∀ (W : World), Calls Try.prog 119 #[.bool false, wV N, wV D] W fun e w' => e = .returned (.tuple #[rV R, .int .i64 C]) ∧ Below W.heap.size W w') := Lib.hid (by have := HDM.out; rw [show decide (0 < N) = false by simp; have h9 := HZN.out; omega] at this; simpa using this)
        clear HDM HZN
        clear ka
        have HRG : Grows (TriIn w a b) := fun _ _ h hb => h.next hb
        refine wp_region_grown (TriIn w a b) HRG ((hT2).next (Below.refl _ _).drew) [0, 1, 2, 3, 4, 5, 6, 7, 8, 9, 10, 11, 12, 13, 14, 15, 16, 17, 18, 19, 20, 21, 22, 23, 24, 25, 26, 27, 28, 29, 30, 31, 32, 33, 34, 35, 36, 37, 38, 39, 40, 41] 44 2 (by kernel_rfl) (by kernel_rfl) ?_
        apply Exists.intro
        refine ⟨fun G hG hN => ?_, ?_⟩
        · have ca := fun (e : GE (TriIn w a b) G) j => cell_of_row e.w _ j _ _ _ e.h.ba
          have cb := fun (e : GE (TriIn w a b) G) j => cell_of_row e.w _ j _ _ _ e.h.bb
          simp only [pickOps, List.getElem?_toArray, List.getElem?_cons_zero, List.getElem?_cons_succ]
          repeat (first | go_big_quiet_step ((first | (go_at_call 88; first | (with_reducible exact calls_ge HRG hG (HS1.out _)) | (with_reducible exact calls_ge HRG hG (HS2.out _))) | (go_at_call 95; first | (with_reducible exact calls_ge HRG hG (HM1.out _)) | (with_reducible exact calls_ge HRG hG (HM2.out _))) | (go_at_call 119; exact calls_ge HRG hG (HD.out _)))) | quiet_step ((first | (go_at_call 88; first | (with_reducible exact calls_ge HRG hG (HS1.out _)) | (with_reducible exact calls_ge HRG hG (HS2.out _))) | (go_at_call 95; first | (with_reducible exact calls_ge HRG hG (HM1.out _)) | (with_reducible exact calls_ge HRG hG (HM2.out _))) | (go_at_call 119; exact calls_ge HRG hG (HD.out _)))))
          exact wpQuiet_nil rfl
        refine wpAnyE_all (rs := [42]) (by kernel_rfl) (by simp) (fun W1 hW1 hRW1 i hi => ?_)
        obtain rfl := List.mem_singleton.1 hi
        obtain ⟨x0, x1, hr0⟩ := hRW1.r
        have c1 := fun j => cell_of_row _ _ j _ _ _ hr0
        have c2 := fun j => frozen_of_row _ _ j _ _ hr0
        refine wpOp_step rfl (fun K hK => ?_)
        go_simp
        refine hK _ _ ⟨hRW1.setR _ _, ?_⟩
        clear hK K
        clear c1 c2
        refine wpAnyE_all (rs := [43]) (by kernel_rfl) (by simp) (fun W2 hW2 hRW2 i hi => ?_)
        obtain rfl := List.mem_singleton.1 hi
        refine wpOp_step rfl (fun K hK => ?_)
        go_simp
        refine hK _ _ ⟨hRW2, ?_⟩
        clear hK K
        refine wpAnyE_done (by kernel_rfl) (fun W3 hW3 hR3 => ?_) _
        refine NoPanic.normal ?_
        have hr1 := heap_ext (heap_ext (heap_set (heap_set hr0)) hW2) hW3
        have c1 := fun j => cell_of_row _ _ j _ _ _ hr1
        have z1 := lt_some hr1
        go_wp2_with fail
        exact bodyPost_ret (v := .tuple #[rV R, .int .i64 C]) (by simp [results, Try.results135, go_sem, c1, z1]) rfl ⟨rfl, hR3.below⟩
      · have q5 : (a.n != 0) = true := by simpa using ka
        by_cases kb : b.n = 0
        · have q6 : (b.n != 0) = false := by simpa using kb
          have HD : Hid (∀ (W : World), Calls Try.prog 119 #[.bool false, wV N, wV D] W fun e w' => e = .returned (.tuple #[rV R, .int .i64 C]) ∧ Below W.heap.size W w') := Lib.hid (by have := HDM.out; rw [show decide (0 < N) = false by simp; have h9 := HZN.out; omega] at this; simpa using this)
          clear HDM HZN
          clear ka kb
          have HRG : Grows (TriIn w a b) := fun _ _ h hb => h.next hb
          refine wp_region_grown (TriIn w a b) HRG ((hT2).next (Below.refl _ _).drew) [0, 1, 2, 3, 4, 5, 6, 7, 8, 9, 10, 11, 12, 13, 14, 15, 16, 17, 18, 19, 20, 21, 22, 23, 24, 25, 26, 27, 28, 29, 30, 31, 32, 33, 34, 35, 36, 37, 38, 39, 40, 41] 44 2 (by kernel_rfl) (by kernel_rfl) ?_
          apply Exists.intro
          refine ⟨fun G hG hN => ?_, ?_⟩
          · have ca := fun (e : GE (TriIn w a b) G) j => cell_of_row e.w _ j _ _ _ e.h.ba
            have cb := fun (e : GE (TriIn w a b) G) j => cell_of_row e.w _ j _ _ _ e.h.bb
            simp only [pickOps, List.getElem?_toArray, List.getElem?_cons_zero, List.getElem?_cons_succ]
            repeat (first | go_big_quiet_step ((first | (go_at_call 88; first | (with_reducible exact calls_ge HRG hG (HS1.out _)) | (with_reducible exact calls_ge HRG hG (HS2.out _))) | (go_at_call 95; first | (with_reducible exact calls_ge HRG hG (HM1.out _)) | (with_reducible exact calls_ge HRG hG (HM2.out _))) | (go_at_call 119; exact calls_ge HRG hG (HD.out _)))) | quiet_step ((first | (go_at_call 88; first | (with_reducible exact calls_ge HRG hG (HS1.out _)) | (with_reducible exact calls_ge HRG hG (HS2.out _))) | (go_at_call 95; first | (with_reducible exact calls_ge HRG hG (HM1.out _)) | (with_reducible exact calls_ge HRG hG (HM2.out _))) | (go_at_call 119; exact calls_ge HRG hG (HD.out _)))))
            exact wpQuiet_nil rfl
          refine wpAnyE_all (rs := [42]) (by kernel_rfl) (by simp) (fun W1 hW1 hRW1 i hi => ?_)
          obtain rfl := List.mem_singleton.1 hi
          obtain ⟨x0, x1, hr0⟩ := hRW1.r
          have c1 := fun j => cell_of_row _ _ j _ _ _ hr0
          have c2 := fun j => frozen_of_row _ _ j _ _ hr0
          refine wpOp_step rfl (fun K hK => ?_)
          go_simp
          refine hK _ _ ⟨hRW1.setR _ _, ?_⟩
          clear hK K
          clear c1 c2
          refine wpAnyE_all (rs := [43]) (by kernel_rfl) (by simp) (fun W2 hW2 hRW2 i hi => ?_)
          obtain rfl := List.mem_singleton.1 hi
          refine wpOp_step rfl (fun K hK => ?_)
          go_simp
          refine hK _ _ ⟨hRW2, ?_⟩
          clear hK K
          refine wpAnyE_done (by kernel_rfl) (fun W3 hW3 hR3 => ?_) _
          refine NoPanic.normal ?_
          have hr1 := heap_ext (heap_ext (heap_set (heap_set hr0)) hW2) hW3
          have c1 := fun j => cell_of_row _ _ j _ _ _ hr1
          have z1 := lt_some hr1
          go_wp2_with fail
          exact bodyPost_ret (v := .tuple #[rV R, .int .i64 C]) (by simp [results, Try.results135, go_sem, c1, z1]) rfl ⟨rfl, hR3.below⟩
        · have q6 : (b.n != 0) = true := by simpa using kb
          have HD : Hid (∀ (W : World), Calls Try.prog 119 #[.bool true, wV N, wV D] W fun e w' => e = .returned (.tuple #[rV R, .int .i64 C]) ∧ Below W.heap.size W w') := Lib.hid (by have := HDM.out; rw [show decide (0 < N) = true by simp; have h9 := HZN.out; omega] at this; simpa using this)
          clear HDM HZN
          clear ka kb
          have HRG : Grows (TriIn w a b) := fun _ _ h hb => h.next hb
          refine wp_region_grown (TriIn w a b) HRG ((hT2).next (Below.refl _ _).drew) [0, 1, 2, 3, 4, 5, 6, 7, 8, 9, 10, 11, 12, 13, 14, 15, 16, 17, 18, 19, 20, 21, 22, 23, 24, 25, 26, 27, 28, 29, 30, 31, 32, 33, 34, 35, 36, 37, 38, 39, 40, 41] 44 2 (by kernel_rfl) (by kernel_rfl) ?_
          apply Exists.intro
          refine ⟨fun G hG hN => ?_, ?_⟩
          · have ca := fun (e : GE (TriIn w a b) G) j => cell_of_row e.w _ j _ _ _ e.h.ba
            have cb := fun (e : GE (TriIn w a b) G) j => cell_of_row e.w _ j _ _ _ e.h.bb
            simp only [pickOps, List.getElem?_toArray, List.getElem?_cons_zero, List.getElem?_cons_succ]
            repeat (first | go_big_quiet_step ((first | (go_at_call 88; first | (with_reducible exact calls_ge HRG hG (HS1.out _)) | (with_reducible exact calls_ge HRG hG (HS2.out _))) | (go_at_call 95; first | (with_reducible exact calls_ge HRG hG (HM1.out _)) | (with_reducible exact calls_ge HRG hG (HM2.out _))) | (go_at_call 119; exact calls_ge HRG hG (HD.out _)))) | quiet_step ((first | (go_at_call 88; first | (with_reducible exact calls_ge HRG hG (HS1.out _)) | (with_reducible exact calls_ge HRG hG (HS2.out _))) | (go_at_call 95; first | (with_reducible exact calls_ge HRG hG (HM1.out _)) | (with_reducible exact calls_ge HRG hG (HM2.out _))) | (go_at_call 119; exact calls_ge HRG hG (HD.out _)))))
            exact wpQuiet_nil rfl
          refine wpAnyE_all (rs := [42]) (by kernel_rfl) (by simp) (fun W1 hW1 hRW1 i hi => ?_)
          obtain rfl := List.mem_singleton.1 hi
          obtain ⟨x0, x1, hr0⟩ := hRW1.r
          have c1 := fun j => cell_of_row _ _ j _ _ _ hr0
          have c2 := fun j => frozen_of_row _ _ j _ _ hr0
          refine wpOp_step rfl (fun K hK => ?_)
          go_simp
          refine hK _ _ ⟨hRW1.setR _ _, ?_⟩
          clear hK K
          clear c1 c2
          refine wpAnyE_all (rs := [43]) (by kernel_rfl) (by simp) (fun W2 hW2 hRW2 i hi => ?_)
          obtain rfl := List.mem_singleton.1 hi
          refine wpOp_step rfl (fun K hK => ?_)
          go_simp
          refine hK _ _ ⟨hRW2, ?_⟩
          clear hK K
          refine wpAnyE_done (by kernel_rfl) (fun W3 hW3 hR3 => ?_) _
          refine NoPanic.normal ?_
          have hr1 := heap_ext (heap_ext (heap_set (heap_set hr0)) hW2) hW3
          have c1 := fun j => cell_of_row _ _ j _ _ _ hr1
          have z1 := lt_some hr1
          go_wp2_with fail
          exact bodyPost_ret (v := .tuple #[rV R, .int .i64 C]) (by simp [results, Try.results135, go_sem, c1, z1]) rfl ⟨rfl, hR3.below⟩
    · have HD : Hid (∀ (W : World), Calls Try.prog 119 #[.bool false, wV N, wV D] W fun e w' => e = .returned (.tuple #[rV R, .int .i64 C]) ∧ Below W.heap.size W w') := Lib.hid (by have := HDM.out; simpa using this)
      clear HDM HZN
      have HRG : Grows (TriIn w a b) := fun _ _ h hb => h.next hb
      refine wp_region_grown (TriIn w a b) HRG ((hT2).next (Below.refl _ _).drew) [0, 1, 2, 3, 4, 5, 6, 7, 8, 9, 10, 11, 12, 13, 14, 15, 16, 17, 18, 19, 20, 21, 22, 23, 24, 25, 26, 27, 28, 29, 30, 31, 32, 33, 34, 35, 36, 37, 38, 39, 40, 41] 44 2 (by kernel_rfl) (by kernel_rfl) ?_
      apply Exists.intro
      refine ⟨fun G hG hN => ?_, ?_⟩
      · have ca := fun (e : GE (TriIn w a b) G) j => cell_of_row e.w _ j _ _ _ e.h.ba
        have cb := fun (e : GE (TriIn w a b) G) j => cell_of_row e.w _ j _ _ _ e.h.bb
        simp only [pickOps, List.getElem?_toArray, List.getElem?_cons_zero, List.getElem?_cons_succ]
        repeat (first | go_big_quiet_step ((first | (go_at_call 88; first | (with_reducible exact calls_ge HRG hG (HS1.out _)) | (with_reducible exact calls_ge HRG hG (HS2.out _))) | (go_at_call 95; first | (with_reducible exact calls_ge HRG hG (HM1.out _)) | (with_reducible exact calls_ge HRG hG (HM2.out _))) | (go_at_call 119; exact calls_ge HRG hG (HD.out _)))) | quiet_step ((first | (go_at_call 88; first | (with_reducible exact calls_ge HRG hG (HS1.out _)) | (with_reducible exact calls_ge HRG hG (HS2.out _))) | (go_at_call 95; first | (with_reducible exact calls_ge HRG hG (HM1.out _)) | (with_reducible exact calls_ge HRG hG (HM2.out _))) | (go_at_call 119; exact calls_ge HRG hG (HD.out _)))))
        exact wpQuiet_nil rfl
      refine wpAnyE_all (rs := [42]) (by kernel_rfl) (by simp) (fun W1 hW1 hRW1 i hi => ?_)
      obtain rfl := List.mem_singleton.1 hi
      obtain ⟨x0, x1, hr0⟩ := hRW1.r
      have c1 := fun j => cell_of_row _ _ j _ _ _ hr0
      have c2 := fun j => frozen_of_row _ _ j _ _ hr0
      refine wpOp_step rfl (fun K hK => ?_)
      go_simp
      refine hK _ _ ⟨hRW1.setR _ _, ?_⟩
      clear hK K
      clear c1 c2
      refine wpAnyE_all (rs := [43]) (by kernel_rfl) (by simp) (fun W2 hW2 hRW2 i hi => ?_)
      obtain rfl := List.mem_singleton.1 hi
      refine wpOp_step rfl (fun K hK => ?_)
      go_simp
      refine hK _ _ ⟨hRW2, ?_⟩
      clear hK K
      refine wpAnyE_done (by kernel_rfl) (fun W3 hW3 hR3 => ?_) _
      refine NoPanic.normal ?_
      have hr1 := heap_ext (heap_ext (heap_set (heap_set hr0)) hW2) hW3
      have c1 := fun j => cell_of_row _ _ j _ _ _ hr1
      have z1 := lt_some hr1
      go_wp2_with fail
      exact bodyPost_ret (v := .tuple #[rV R, .int .i64 C]) (by simp [results, Try.results135, go_sem, c1, z1]) rfl ⟨rfl, hR3.below⟩
end Go.Proofs.Ytgcbmnohhbcfiaa
