/- The reference's Div. -/
import Derived.Test.YtgcbmnohhbcfiaaRfF
import Derived.Test.YtgcbmnohhbcfiaaCm10
namespace Go.Proofs.Ytgcbmnohhbcfiaa
open Go.RowKit Go.Deep
set_option linter.unusedVariables false
set_option linter.unusedSimpArgs false

theorem wrap_neg {x : Int} (h0 : -9223372036854775807 ≤ x) (h1 : x ≤ 9223372036854775807) : IntKind.i64.wrap (-x) = -x ∧ wrap64 (-x) = -x := ⟨IntWalk.i64_in _ (by omega), IntWalk.wrap64_in _ (by omega)⟩
set_option maxRecDepth 100000 in
set_option maxHeartbeats 8000000 in
theorem fdiv_any (a b : Rt) (ha : a.wf) (hb : b.wf) (w : World) :
    Calls Try.prog 127 #[rV a, rV b] w fun e w' => e = .returned (.tuple #[rV (divR a b), .int .i64 (divC a b)]) ∧ Below w.heap.size w w' := by
  have hB0 : Bx w [(w.heap.size + 1 + 1, rB ⟨0, 0⟩), (w.heap.size + 1, rB b), (w.heap.size, rB a)] (((w.alloc (rB a)).alloc (rB b)).alloc (rB ⟨0, 0⟩)) :=
    ((((Bx.start w).new rfl _).new (by simp) _).new (by simp) _)
  have HC := Lib.hid (fun (W : World) => fboth_any a b ha hb W)
  go_enter Try.func127, Try.ntmps127
  go_upto_region 1 with fail
  generalize hw0 : ((w.alloc (rB a)).alloc (rB b)).alloc (rB ⟨0, 0⟩) = w0 at *
  clear hw0
  generalize w.heap.size + 1 + 1 = gO at *
  generalize w.heap.size + 1 = gB at *
  have c_b := fun j => cell_of_row _ _ j _ _ _ (hB0.get 1 rfl)
  have z_b := hB0.lt 1 rfl
  have c_a := fun j => cell_of_row _ _ j _ _ _ (hB0.get 2 rfl)
  have z_a := hB0.lt 2 rfl
  by_cases hc : code2 a b = 0
  rotate_left
  · have q : (code2 a b != 0) = true := by simpa using hc
    have HD := Lib.hid (div_bad hc)
    clear hc
    generalize code2 a b = cc at *
    go_wp2_with fail
    refine (HC.out _).mono ?_
    rintro e w1 ⟨rfl, hb⟩
    have hB1 := hB0.next hb
    clear c_b z_b c_a z_a hb hB0
    have c_b := fun j => cell_of_row _ _ j _ _ _ (hB1.get 1 rfl)
    have z_b := hB1.lt 1 rfl
    have c_a := fun j => cell_of_row _ _ j _ _ _ (hB1.get 2 rfl)
    have z_a := hB1.lt 2 rfl
    go_wp2_with fail
    refine (HC.out _).mono ?_
    rintro e w2 ⟨rfl, hb⟩
    have hB2 := hB1.next hb
    clear c_b z_b c_a z_a hb hB1
    have c_out := fun j => cell_of_row _ _ j _ _ _ (hB2.get 0 rfl)
    have z_out := hB2.lt 0 rfl
    have f_out := fun j => frozen_of_row _ _ j _ _ (hB2.get 0 rfl)
    have c_b := fun j => cell_of_row _ _ j _ _ _ (hB2.get 1 rfl)
    have z_b := hB2.lt 1 rfl
    have c_a := fun j => cell_of_row _ _ j _ _ _ (hB2.get 2 rfl)
    have z_a := hB2.lt 2 rfl
    have HE := Lib.hid (hB2.put 0 rfl (⟨0, 0⟩)).below
    clear hB2
    go_wp2_with fail
    refine bodyPost_ret (v := .tuple #[rV (⟨0, 0⟩), .int .i64 (cc)]) (by simp [results, Try.results127, go_sem, c_out, f_out, z_out]) rfl ?_
    exact ⟨by rw [HD.out.1, HD.out.2], HE.out⟩
  have HO := Lib.hid (ok_code2 hc)
  have HCC := Lib.hid hc
  rw [hc] at HC
  clear hc
  go_wp2_with fail
  refine (HC.out _).mono ?_
  rintro e w1 ⟨rfl, hb⟩
  have hB1 := hB0.next hb
  clear c_b z_b c_a z_a hb hB0
  have c_b := fun j => cell_of_row _ _ j _ _ _ (hB1.get 1 rfl)
  have z_b := hB1.lt 1 rfl
  by_cases hz : b.n = 0
  · have q : (b.n == 0) = true := by simpa using hz
    have HD := Lib.hid (div_zero HCC.out hz)
    clear hz
    have c_out := fun j => cell_of_row _ _ j _ _ _ (hB1.get 0 rfl)
    have z_out := hB1.lt 0 rfl
    have f_out := fun j => frozen_of_row _ _ j _ _ (hB1.get 0 rfl)
    have c_a := fun j => cell_of_row _ _ j _ _ _ (hB1.get 2 rfl)
    have z_a := hB1.lt 2 rfl
    have HE := Lib.hid (hB1.put 0 rfl (⟨0, 0⟩)).below
    clear hB1
    go_wp2_with fail
    refine bodyPost_ret (v := .tuple #[rV (⟨0, 0⟩), .int .i64 (18)]) (by simp [results, Try.results127, go_sem, c_out, f_out, z_out]) rfl ?_
    exact ⟨by rw [HD.out.1, HD.out.2], HE.out⟩
  have q : (b.n == 0) = false := by simpa using hz
  have HI := Lib.hid (Rt.inv_ok HO.out.2 hz)
  have HMU := Lib.hid (fun (W : World) => fmul_any a b.inv HO.out.1.wf HI.out.wf W)
  have HD := Lib.hid (div_mul HCC.out hz)
  rw [HD.out.1, HD.out.2] at HMU
  clear hz HD
  obtain ⟨D, hD⟩ : ∃ x, x = divR a b := ⟨_, rfl⟩
  obtain ⟨DC, hDC⟩ : ∃ x, x = divC a b := ⟨_, rfl⟩
  rw [← hD, ← hDC] at HMU
  have HDD := Lib.hid hD
  have HDC := Lib.hid hDC
  clear hD hDC
  go_upto_region 6 with fail
  have hB2 := hB1.new rfl (rB ⟨b.d, b.n⟩)
  clear c_b z_b hB1
  generalize w1.heap.size = gC at *
  generalize w1.alloc _ = w2 at *
  have c_b := fun j => cell_of_row _ _ j _ _ _ (hB2.get 2 rfl)
  have z_b := hB2.lt 2 rfl
  by_cases hn : b.n < 0
  · have q2 : decide (b.n < 0) = true := by simpa using hn
    have e : b.inv = ⟨-b.d, -b.n⟩ := by unfold Rt.inv; rw [if_pos hn]
    rw [e] at HMU HI
    obtain ⟨n1, n1'⟩ := wrap_neg (x := b.d) (by have := HO.out.2.d0; omega) (by have := HO.out.2.d1; omega)
    obtain ⟨n2, n2'⟩ := wrap_neg (x := b.n) (by have := HO.out.2.n0; omega) (by have := HO.out.2.n1; omega)
    clear e hn
    have c_c := fun j => cell_of_row _ _ j _ _ _ (hB2.get 0 rfl)
    have z_c := hB2.lt 0 rfl
    have f_c := fun j => frozen_of_row _ _ j _ _ (hB2.get 0 rfl)
    go_upto_region 8 with fail
    have hB3 := hB2.put 0 rfl (⟨-b.d, -b.n⟩)
    clear c_b z_b c_c z_c f_c hB2
    generalize (w2.setCell _ _).setCell _ _ = w3 at *
    have c_c := fun j => cell_of_row _ _ j _ _ _ (hB3.get 0 rfl)
    have z_c := hB3.lt 0 rfl
    have c_a := fun j => cell_of_row _ _ j _ _ _ (hB3.get 3 rfl)
    have z_a := hB3.lt 3 rfl
    go_wp2_with fail
    refine (HMU.out _).mono ?_
    rintro e w4 ⟨rfl, hb⟩
    have hB4 := hB3.next hb
    clear c_c z_c c_a z_a hb hB3
    have c_c := fun j => cell_of_row _ _ j _ _ _ (hB4.get 0 rfl)
    have z_c := hB4.lt 0 rfl
    have c_out := fun j => cell_of_row _ _ j _ _ _ (hB4.get 1 rfl)
    have z_out := hB4.lt 1 rfl
    have f_out := fun j => frozen_of_row _ _ j _ _ (hB4.get 1 rfl)
    have c_b := fun j => cell_of_row _ _ j _ _ _ (hB4.get 2 rfl)
    have z_b := hB4.lt 2 rfl
    have c_a := fun j => cell_of_row _ _ j _ _ _ (hB4.get 3 rfl)
    have z_a := hB4.lt 3 rfl
    have HE := Lib.hid (hB4.put 1 rfl (D)).below
    clear hB4
    go_wp2_with fail
    refine bodyPost_ret (v := .tuple #[rV (D), .int .i64 (DC)]) (by simp [results, Try.results127, go_sem, c_out, f_out, z_out]) rfl ?_
    exact ⟨by rw [HDD.out, HDC.out], HE.out⟩
  have q2 : decide (b.n < 0) = false := by simpa using hn
  have e : b.inv = ⟨b.d, b.n⟩ := by unfold Rt.inv; rw [if_neg hn]
  rw [e] at HMU HI
  clear e hn
  have c_c := fun j => cell_of_row _ _ j _ _ _ (hB2.get 0 rfl)
  have z_c := hB2.lt 0 rfl
  have c_a := fun j => cell_of_row _ _ j _ _ _ (hB2.get 3 rfl)
  have z_a := hB2.lt 3 rfl
  go_wp2_with fail
  refine (HMU.out _).mono ?_
  rintro e w3 ⟨rfl, hb⟩
  have hB3 := hB2.next hb
  clear c_b z_b c_c z_c c_a z_a hb hB2
  have c_c := fun j => cell_of_row _ _ j _ _ _ (hB3.get 0 rfl)
  have z_c := hB3.lt 0 rfl
  have c_out := fun j => cell_of_row _ _ j _ _ _ (hB3.get 1 rfl)
  have z_out := hB3.lt 1 rfl
  have f_out := fun j => frozen_of_row _ _ j _ _ (hB3.get 1 rfl)
  have c_b := fun j => cell_of_row _ _ j _ _ _ (hB3.get 2 rfl)
  have z_b := hB3.lt 2 rfl
  have c_a := fun j => cell_of_row _ _ j _ _ _ (hB3.get 3 rfl)
  have z_a := hB3.lt 3 rfl
  have HE := Lib.hid (hB3.put 1 rfl (D)).below
  clear hB3
  go_wp2_with fail
  refine bodyPost_ret (v := .tuple #[rV (D), .int .i64 (DC)]) (by simp [results, Try.results127, go_sem, c_out, f_out, z_out]) rfl ?_
  exact ⟨by rw [HDD.out, HDC.out], HE.out⟩
end Go.Proofs.Ytgcbmnohhbcfiaa
