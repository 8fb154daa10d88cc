/- The reference's mark of cakes, walked: Mark. -/
import Derived.Test.YtgcbmnohhbcfiaaCkRv
import Derived.Test.YtgcbmnohhbcfiaaCm12
namespace Go.Proofs.Ytgcbmnohhbcfiaa
open Go.RowKit Go.Deep
set_option linter.unusedVariables false
set_option linter.unusedSimpArgs false

/-- One step of the mark. -/
structure MRef (K : Ck) (k : Nat) (s : MS) (w : Rt) (wc : Int) : Prop where
  skip : ltB s.at_ (⟨gi K.cuts (k + 1), 1⟩ : Rt) = false → K.mStep k s = s
  zero : ltB s.at_ (⟨gi K.cuts (k + 1), 1⟩ : Rt) = true → gi K.dens k = 0 → K.mStep k s = { s with at_ := (⟨gi K.cuts (k + 1), 1⟩ : Rt) }
  bad : ltB s.at_ (⟨gi K.cuts (k + 1), 1⟩ : Rt) = true → gi K.dens k ≠ 0 → wc ≠ 0 → (K.mStep k s).stop = true ∧ (K.mStep k s).late = wc
  less : ltB s.at_ (⟨gi K.cuts (k + 1), 1⟩ : Rt) = true → gi K.dens k ≠ 0 → wc = 0 → ltB w s.v = true → (subC s.v w ≠ 0 → (K.mStep k s).stop = true ∧ (K.mStep k s).late = subC s.v w) ∧ (subC s.v w = 0 → K.mStep k s = { s with at_ := (⟨gi K.cuts (k + 1), 1⟩ : Rt), v := subR s.v w, late := 6 })
  done : ltB s.at_ (⟨gi K.cuts (k + 1), 1⟩ : Rt) = true → gi K.dens k ≠ 0 → wc = 0 → ltB w s.v = false → (divC s.v ⟨gi K.dens k, 1⟩ ≠ 0 → (K.mStep k s).stop = true ∧ (K.mStep k s).late = divC s.v ⟨gi K.dens k, 1⟩) ∧ (divC s.v ⟨gi K.dens k, 1⟩ = 0 → (K.mStep k s).stop = true ∧ (K.mStep k s).late = addC s.at_ (divR s.v ⟨gi K.dens k, 1⟩) ∧ (K.mStep k s).out = addR s.at_ (divR s.v ⟨gi K.dens k, 1⟩))
theorem mref {K : Ck} {a v : Rt} {k : Nat} {s : MS} (h : K.Ok) (hk : k < K.dens.length) (hs : MOk K a v k s) (h0 : s.stop = false) : MRef K k s (K.wtR k s.at_ (⟨gi K.cuts (k + 1), 1⟩ : Rt)) (K.wtC k s.at_ (⟨gi K.cuts (k + 1), 1⟩ : Rt)) := by
  obtain ⟨j1, j2, j3, j4, j5, j6⟩ := hs.run h0
  have cq : (gi K.cuts k : Rat) ≤ s.at_.q := by grind
  refine ⟨fun l => mStep_skip h0 l, fun l d => mStep_zero h0 l d, fun l d q => ?_, fun l d q r => ?_, fun l d q r => ?_⟩
  · have p := wt_in h j1 hk cq l d
    rw [p.1] at q ⊢
    rw [mStep_e1 h0 l d q]; exact ⟨rfl, rfl⟩
  · have p := wt_in h j1 hk cq l d
    have e := mStep_less h0 l d (by rw [← p.1]; exact q) (p.2 q).symm r
    refine ⟨fun t => ?_, fun t => ?_⟩
    · rw [e, if_pos t]; exact ⟨rfl, rfl⟩
    · rw [e, if_neg (fun x => x t)]
  · have p := wt_in h j1 hk cq l d
    have e := mStep_done h0 l d (by rw [← p.1]; exact q) (p.2 q).symm r
    refine ⟨fun t => ?_, fun t => ?_⟩
    · rw [e, if_pos t]; exact ⟨rfl, rfl⟩
    · rw [e, if_neg (fun x => x t)]; exact ⟨rfl, rfl, rfl⟩
theorem add_bad_ {a b : Rt} (ha : a.Ok) (hb : b.Ok) (h : addC a b ≠ 0) : addR a b = ⟨0, 0⟩ := by
  have e := add_ok (code2_ok ha hb)
  rw [e.2] at h
  rw [e.1]
  exact (mkR_out (fun i => h (if_pos i))).1
set_option maxRecDepth 100000 in
set_option maxHeartbeats 32000000 in
theorem fmark_any (K : Ck) (A : Option Addr) (c : Nat) (R : Option Addr) (d : Nat) (a v : Rt) (ha : a.wf) (hv : v.wf) (w : World) (h : CIn w.heap.size w A c R d K) :
    Calls Try.prog 116 #[cV A c R d K, rV a, rV v] w fun e w' => e = .returned (.tuple #[rV (K.mark a v), .int .i64 (K.markC a v)]) ∧ Below w.heap.size w w' := by
  have hB0 : Bx w [(w.heap.size + 1 + 1 + 1, rB ⟨0, 0⟩), (w.heap.size + 1 + 1, rB v), (w.heap.size + 1, rB a), (w.heap.size, cB A c R d K)] ((((w.alloc (cB A c R d K)).alloc (rB a)).alloc (rB v)).alloc (rB ⟨0, 0⟩)) :=
    ((((Bx.start w).new rfl _).new (by simp) _).new (by simp) _).new (by simp) _
  have HH := Lib.hid h
  have HA := Lib.hid ha
  have HV := Lib.hid hv
  have HC := Lib.hid (fun (W : World) (hW : Below w.heap.size w W) => fckcheck_any K A c R d W (h.next hW))
  have HCV := Lib.hid (fun (W : World) => fcheck_any v hv W)
  clear h ha hv
  go_enter Try.func116, Try.ntmps116
  try dsimp only [List.append]
  go_upto_region 1 with fail
  generalize hw0 : (((w.alloc (cB A c R d K)).alloc (rB a)).alloc (rB v)).alloc (rB ⟨0, 0⟩) = w0 at *
  clear hw0
  generalize w.heap.size + 1 + 1 + 1 = gO at *
  generalize w.heap.size + 1 + 1 = gV at *
  generalize w.heap.size + 1 = gA at *
  have c_K := fun j => cell_of_row _ _ j _ _ _ (hB0.get 3 rfl)
  have z_K := hB0.lt 3 rfl
  by_cases hc : K.code = 0
  rotate_left
  · have q : (K.code != 0) = true := by simpa using hc
    have HX := Lib.hid (show K.markC a v = K.code ∧ K.mark a v = ⟨0, 0⟩ by
      have e : K.markC a v = K.code := by unfold Ck.markC; rw [if_pos hc]
      exact ⟨e, by unfold Ck.mark; rw [e, if_neg hc]⟩)
    generalize K.code = code at *
    clear hc
    go_wp2_with fail
    refine (HC.out _ hB0.below).mono ?_
    rintro e w1 ⟨rfl, hb⟩
    have hB1 := hB0.next hb
    clear c_K z_K hb hB0
    have c_out := fun j => cell_of_row _ _ j _ _ _ (hB1.get 0 rfl)
    have z_out := hB1.lt 0 rfl
    have c_v := fun j => cell_of_row _ _ j _ _ _ (hB1.get 1 rfl)
    have z_v := hB1.lt 1 rfl
    have c_a := fun j => cell_of_row _ _ j _ _ _ (hB1.get 2 rfl)
    have z_a := hB1.lt 2 rfl
    have c_K := fun j => cell_of_row _ _ j _ _ _ (hB1.get 3 rfl)
    have z_K := hB1.lt 3 rfl
    go_wp2_with fail
    refine (HC.out _ hB1.below).mono ?_
    rintro e w2 ⟨rfl, hb⟩
    have hB2 := hB1.next hb
    clear c_out z_out c_v z_v c_a z_a c_K z_K hb hB1
    have c_out := fun j => cell_of_row _ _ j _ _ _ (hB2.get 0 rfl)
    have z_out := hB2.lt 0 rfl
    have f_out := fun j => frozen_of_row _ _ j _ _ (hB2.get 0 rfl)
    have c_v := fun j => cell_of_row _ _ j _ _ _ (hB2.get 1 rfl)
    have z_v := hB2.lt 1 rfl
    have c_a := fun j => cell_of_row _ _ j _ _ _ (hB2.get 2 rfl)
    have z_a := hB2.lt 2 rfl
    have c_K := fun j => cell_of_row _ _ j _ _ _ (hB2.get 3 rfl)
    have z_K := hB2.lt 3 rfl
    have HE := Lib.hid (hB2.put 0 rfl ⟨0, 0⟩).below
    clear hB2
    go_wp2_with fail
    refine bodyPost_ret (v := .tuple #[rV ⟨0, 0⟩, .int .i64 (code)]) (by simp [results, Try.results116, go_sem, c_out, f_out, z_out]) rfl ?_
    exact ⟨by rw [HX.out.1, HX.out.2], HE.out⟩
  have HK := Lib.hid (Ck.ok_code hc)
  have HCZ := Lib.hid hc
  have l1 := HK.out.l1
  have l2 := HK.out.l2
  have HPA := Lib.hid (fun (W : World) => fpoint_any K.len a HA.out (by omega) l2 W)
  have HVB := Lib.hid (fun (x : Int) (e : K.markC a v = x) (hx : x ≠ 0) => Ck.mark_bad e hx)
  have HQA := Lib.hid (fun (h : pointB K.len a = true) => (point_q (by omega) l2).1 h)
  rw [hc] at HC
  clear hc
  go_wp2_with fail
  refine (HC.out _ hB0.below).mono ?_
  rintro e w1 ⟨rfl, hb⟩
  have hB1 := hB0.next hb
  clear c_K z_K hb hB0
  cases hpa : pointB K.len a with
  | false =>
    have HX := Lib.hid (Ck.markC_arg (a := a) (v := v) HCZ.out (fun q => by rw [hpa] at q; exact absurd q.1 (by decide)))
    rw [hpa] at HPA
    clear hpa
    have c_out := fun j => cell_of_row _ _ j _ _ _ (hB1.get 0 rfl)
    have z_out := hB1.lt 0 rfl
    have c_v := fun j => cell_of_row _ _ j _ _ _ (hB1.get 1 rfl)
    have z_v := hB1.lt 1 rfl
    have c_a := fun j => cell_of_row _ _ j _ _ _ (hB1.get 2 rfl)
    have z_a := hB1.lt 2 rfl
    have c_K := fun j => cell_of_row _ _ j _ _ _ (hB1.get 3 rfl)
    have z_K := hB1.lt 3 rfl
    go_wp2_with fail
    refine (HPA.out _).mono ?_
    rintro e w2 ⟨rfl, hb⟩
    have hB2 := hB1.next hb
    clear c_out z_out c_v z_v c_a z_a c_K z_K hb hB1
    have c_out := fun j => cell_of_row _ _ j _ _ _ (hB2.get 0 rfl)
    have z_out := hB2.lt 0 rfl
    have f_out := fun j => frozen_of_row _ _ j _ _ (hB2.get 0 rfl)
    have c_v := fun j => cell_of_row _ _ j _ _ _ (hB2.get 1 rfl)
    have z_v := hB2.lt 1 rfl
    have c_a := fun j => cell_of_row _ _ j _ _ _ (hB2.get 2 rfl)
    have z_a := hB2.lt 2 rfl
    have c_K := fun j => cell_of_row _ _ j _ _ _ (hB2.get 3 rfl)
    have z_K := hB2.lt 3 rfl
    have HE := Lib.hid (hB2.put 0 rfl ⟨0, 0⟩).below
    clear hB2
    go_wp2_with fail
    refine bodyPost_ret (v := .tuple #[rV ⟨0, 0⟩, .int .i64 (2)]) (by simp [results, Try.results116, go_sem, c_out, f_out, z_out]) rfl ?_
    exact ⟨by rw [HVB.out 2 HX.out (by decide), HX.out], HE.out⟩
  | true =>
  have HPa := Lib.hid hpa
  rw [hpa] at HPA
  clear hpa
  have c_out := fun j => cell_of_row _ _ j _ _ _ (hB1.get 0 rfl)
  have z_out := hB1.lt 0 rfl
  have c_v := fun j => cell_of_row _ _ j _ _ _ (hB1.get 1 rfl)
  have z_v := hB1.lt 1 rfl
  have c_a := fun j => cell_of_row _ _ j _ _ _ (hB1.get 2 rfl)
  have z_a := hB1.lt 2 rfl
  have c_K := fun j => cell_of_row _ _ j _ _ _ (hB1.get 3 rfl)
  have z_K := hB1.lt 3 rfl
  go_wp2_with fail
  refine (HPA.out _).mono ?_
  rintro e w2 ⟨rfl, hb⟩
  have hB2 := hB1.next hb
  clear c_out z_out c_v z_v c_a z_a c_K z_K hb hB1
  by_cases hcv : v.code = 0
  rotate_left
  · have q : (v.code != 0) = true := by simpa using hcv
    have HX := Lib.hid (Ck.markC_arg (a := a) (v := v) HCZ.out (fun q => hcv q.2.1))
    clear hcv
    generalize v.code = vc at *
    have c_out := fun j => cell_of_row _ _ j _ _ _ (hB2.get 0 rfl)
    have z_out := hB2.lt 0 rfl
    have c_v := fun j => cell_of_row _ _ j _ _ _ (hB2.get 1 rfl)
    have z_v := hB2.lt 1 rfl
    have c_a := fun j => cell_of_row _ _ j _ _ _ (hB2.get 2 rfl)
    have z_a := hB2.lt 2 rfl
    have c_K := fun j => cell_of_row _ _ j _ _ _ (hB2.get 3 rfl)
    have z_K := hB2.lt 3 rfl
    go_wp2_with fail
    refine (HCV.out _).mono ?_
    rintro e w3 ⟨rfl, hb⟩
    have hB3 := hB2.next hb
    clear c_out z_out c_v z_v c_a z_a c_K z_K hb hB2
    have c_out := fun j => cell_of_row _ _ j _ _ _ (hB3.get 0 rfl)
    have z_out := hB3.lt 0 rfl
    have f_out := fun j => frozen_of_row _ _ j _ _ (hB3.get 0 rfl)
    have c_v := fun j => cell_of_row _ _ j _ _ _ (hB3.get 1 rfl)
    have z_v := hB3.lt 1 rfl
    have c_a := fun j => cell_of_row _ _ j _ _ _ (hB3.get 2 rfl)
    have z_a := hB3.lt 2 rfl
    have c_K := fun j => cell_of_row _ _ j _ _ _ (hB3.get 3 rfl)
    have z_K := hB3.lt 3 rfl
    have HE := Lib.hid (hB3.put 0 rfl ⟨0, 0⟩).below
    clear hB3
    go_wp2_with fail
    refine bodyPost_ret (v := .tuple #[rV ⟨0, 0⟩, .int .i64 (2)]) (by simp [results, Try.results116, go_sem, c_out, f_out, z_out]) rfl ?_
    exact ⟨by rw [HVB.out 2 HX.out (by decide), HX.out], HE.out⟩
  have HVO := Lib.hid (Rt.ok_code hcv)
  have HVC := Lib.hid hcv
  rw [hcv] at HCV
  clear hcv
  have c_out := fun j => cell_of_row _ _ j _ _ _ (hB2.get 0 rfl)
  have z_out := hB2.lt 0 rfl
  have c_v := fun j => cell_of_row _ _ j _ _ _ (hB2.get 1 rfl)
  have z_v := hB2.lt 1 rfl
  have c_a := fun j => cell_of_row _ _ j _ _ _ (hB2.get 2 rfl)
  have z_a := hB2.lt 2 rfl
  have c_K := fun j => cell_of_row _ _ j _ _ _ (hB2.get 3 rfl)
  have z_K := hB2.lt 3 rfl
  go_wp2_with fail
  refine (HCV.out _).mono ?_
  rintro e w3 ⟨rfl, hb⟩
  have hB3 := hB2.next hb
  clear c_out z_out c_v z_v c_a z_a c_K z_K hb hB2
  by_cases hn : v.n < 0
  · have q : decide (v.n < 0) = true := by simpa using hn
    have HX := Lib.hid (Ck.markC_arg (a := a) (v := v) HCZ.out (fun q => by have := q.2.2; omega))
    clear hn
    have c_out := fun j => cell_of_row _ _ j _ _ _ (hB3.get 0 rfl)
    have z_out := hB3.lt 0 rfl
    have f_out := fun j => frozen_of_row _ _ j _ _ (hB3.get 0 rfl)
    have c_v := fun j => cell_of_row _ _ j _ _ _ (hB3.get 1 rfl)
    have z_v := hB3.lt 1 rfl
    have c_a := fun j => cell_of_row _ _ j _ _ _ (hB3.get 2 rfl)
    have z_a := hB3.lt 2 rfl
    have c_K := fun j => cell_of_row _ _ j _ _ _ (hB3.get 3 rfl)
    have z_K := hB3.lt 3 rfl
    have HE := Lib.hid (hB3.put 0 rfl ⟨0, 0⟩).below
    clear hB3
    go_wp2_with fail
    refine bodyPost_ret (v := .tuple #[rV ⟨0, 0⟩, .int .i64 (2)]) (by simp [results, Try.results116, go_sem, c_out, f_out, z_out]) rfl ?_
    exact ⟨by rw [HVB.out 2 HX.out (by decide), HX.out], HE.out⟩
  have q : decide (v.n < 0) = false := by simpa using hn
  have OA := Lib.hid (HQA.out HPa.out)
  clear HPA HCV HQA
  have c_v := fun j => cell_of_row _ _ j _ _ _ (hB3.get 1 rfl)
  have z_v := hB3.lt 1 rfl
  have c_a := fun j => cell_of_row _ _ j _ _ _ (hB3.get 2 rfl)
  have z_a := hB3.lt 2 rfl
  have c_K := fun j => cell_of_row _ _ j _ _ _ (hB3.get 3 rfl)
  have z_K := hB3.lt 3 rfl
  have n1 := HK.out.n1
  have n2 := HK.out.n2
  go_upto_region 6 with fail
  have hB4 := hB3.new rfl (rB a)
  clear c_v z_v c_a z_a c_K z_K hB3
  generalize w3.heap.size = gT at *
  generalize w3.alloc _ = w4 at *
  have c_v := fun j => cell_of_row _ _ j _ _ _ (hB4.get 2 rfl)
  have z_v := hB4.lt 2 rfl
  have c_a := fun j => cell_of_row _ _ j _ _ _ (hB4.get 3 rfl)
  have z_a := hB4.lt 3 rfl
  have c_K := fun j => cell_of_row _ _ j _ _ _ (hB4.get 4 rfl)
  have z_K := hB4.lt 4 rfl
  go_wp2_with fail
  clear c_v z_v c_a z_a c_K z_K l1 l2
  by_cases hz : v.n = 0
  · have HX := Lib.hid (Ck.mark_zero HCZ.out HPa.out HVC.out hz)
    have qz : decide (0 < v.n) = false := decide_eq_false (by omega)
    have ql : decide ((0 : Int) < (K.dens.length : Int)) = true := decide_eq_true (by omega)
    have ql2 : decide (0 < K.dens.length) = true := decide_eq_true (by omega)
    clear hn hz q
    have HB0 := Lib.hid hB4
    clear hB4
    go_loopw [9] (fun s9 wr => s9 = .int .i64 0 ∧ Bx w [(gT, rB a), (gO, rB ⟨0, 0⟩), (gV, rB v), (gA, rB a), (w.heap.size, cB A c R d K)] wr) (fun _ _ => 0)
    case atStart => exact ⟨rfl, HB0.out⟩
    case round =>
      obtain ⟨rfl, hBr⟩ := hrel
      clear HB0
      have c_out := fun j => cell_of_row _ _ j _ _ _ (hBr.get 1 rfl)
      have z_out := hBr.lt 1 rfl
      have f_out := fun j => frozen_of_row _ _ j _ _ (hBr.get 1 rfl)
      have c_v := fun j => cell_of_row _ _ j _ _ _ (hBr.get 2 rfl)
      have z_v := hBr.lt 2 rfl
      have c_a := fun j => cell_of_row _ _ j _ _ _ (hBr.get 3 rfl)
      have z_a := hBr.lt 3 rfl
      have c_K := fun j => cell_of_row _ _ j _ _ _ (hBr.get 4 rfl)
      have z_K := hBr.lt 4 rfl
      have HE := Lib.hid (hBr.put 1 rfl a).below
      clear hBr
      go_wp2_with fail
      refine bodyPost_ret (v := .tuple #[rV a, .int .i64 0]) (by simp [results, Try.results116, go_sem, c_out, f_out, z_out]) rfl ?_
      exact ⟨by rw [HX.out.1, HX.out.2], HE.out⟩
  have HX := Lib.hid (Ck.markC_run HCZ.out HPa.out HVC.out (show 0 < v.n by omega))
  have HOK := Lib.hid (show K.markC a v = 0 → K.mark a v = (K.mTo a v K.dens.length).out from fun e => by unfold Ck.mark; rw [if_pos e, if_neg hz])
  have HVQ := Lib.hid ((num_q HVO.out).2.1 (show 0 < v.n by omega))
  clear hn hz q
  have HB0 := Lib.hid hB4
  clear hB4
  go_loopw [9] (fun s9 wr => ∃ k : Nat, k ≤ K.dens.length ∧ s9 = .int .i64 k ∧ (K.mTo a v k).stop = false ∧ Bx w [(gT, rB (K.mTo a v k).at_), (gO, rB ⟨0, 0⟩), (gV, rB (K.mTo a v k).v), (gA, rB a), (w.heap.size, cB A c R d K)] wr) (fun s9 _ => K.dens.length - (intOf s9).toNat)
  case atStart => exact ⟨0, Nat.zero_le _, rfl, rfl, HB0.out⟩
  case round =>
    obtain ⟨k, hk, rfl, he0, hBr⟩ := hrel
    clear HB0
    have HS := Lib.hid (mTo_ok HK.out OA.out.1 HVO.out OA.out.2.1 HVQ.out k hk)
    have HSR := Lib.hid (HS.out.run he0)
    have qv : decide (0 < (K.mTo a v k).v.n) = true := decide_eq_true ((num_q HSR.out.2.1).2.2 HSR.out.2.2.1)
    by_cases hlt : k < K.dens.length
    rotate_left
    · obtain rfl : k = K.dens.length := by omega
      have HX2 := Lib.hid (show K.markC a v = 6 from HX.out.trans HSR.out.2.2.2.1)
      generalize K.mTo a v K.dens.length = vs at *
      have c_out := fun j => cell_of_row _ _ j _ _ _ (hBr.get 1 rfl)
      have z_out := hBr.lt 1 rfl
      have f_out := fun j => frozen_of_row _ _ j _ _ (hBr.get 1 rfl)
      have c_v := fun j => cell_of_row _ _ j _ _ _ (hBr.get 2 rfl)
      have z_v := hBr.lt 2 rfl
      have c_K := fun j => cell_of_row _ _ j _ _ _ (hBr.get 4 rfl)
      have z_K := hBr.lt 4 rfl
      have HE := Lib.hid (hBr.put 1 rfl ⟨0, 0⟩).below
      clear hBr he0
      go_wp2_with fail
      refine bodyPost_ret (v := .tuple #[rV ⟨0, 0⟩, .int .i64 6]) (by simp [results, Try.results116, go_sem, c_out, f_out, z_out]) rfl ?_
      exact ⟨by rw [HVB.out 6 HX2.out (by decide), HX2.out], HE.out⟩
    have HMR := Lib.hid (mref HK.out hlt HS.out he0)
    have HCut := Lib.hid (HK.out.cut_ok (i := k + 1) (by omega))
    have HST := Lib.hid (show K.mTo a v (k + 1) = K.mStep k (K.mTo a v k) from rfl)
    have HSY := Lib.hid (fun (h : (K.mTo a v (k + 1)).stop = true) => mTo_stay h K.dens.length (by omega))
    have HE0 := Lib.hid he0
    have HFit := Lib.hid (HK.out.fit k hlt)
    have nc := HK.out.nc
    have HAO := Lib.hid HSR.out.1
    have HVO2 := Lib.hid HSR.out.2.1
    have HW := Lib.hid (fun (W : World) (hW : Below w.heap.size w W) => fworth_any K A c R d k (K.mTo a v k).at_ (⟨gi K.cuts (k + 1), 1⟩ : Rt) HK.out hlt HSR.out.1 HCut.out W (HH.out.next hW))
    have HWO := Lib.hid (wt_ok (a := (K.mTo a v k).at_) (b := (⟨gi K.cuts (k + 1), 1⟩ : Rt)) HK.out HSR.out.1 HCut.out hlt)
    obtain ⟨s, hs⟩ : ∃ s, s = K.mTo a v k := ⟨_, rfl⟩
    rw [← hs] at HMR HST HE0 hBr HAO HVO2 HW HWO
    rw [← hs] at qv
    clear hs he0 HS HSR
    obtain ⟨ad, rfl, hb1, hc1⟩ := HH.out.cuts.at_ (show k + 1 < K.cuts.length by omega)
    obtain ⟨rd, rfl, hb2, hc2⟩ := HH.out.dens.at_ hlt
    have HF := Lib.hid (fun (W : World) (hW : Below w.heap.size w W) => show W.cell? ⟨ad.block, ad.off + (k + 1), none⟩ = some (.int .i64 (gi K.cuts (k + 1))) ∧ W.cell? (rd.add k) = some (.int .i64 (gi K.dens k)) from
      ⟨(hW.cell (p := ad.add (k + 1)) (by rw [block_add]; exact hb1)).trans hc1, (hW.cell (by rw [block_add]; exact hb2)).trans hc2⟩)
    clear hb1 hc1 hb2 hc2
    have z1 : (k : Int) < (K.dens.length : Int) := by omega
    have z3 : (0 : Int) ≤ (k : Int) := by omega
    have z4 : (k : Int) + 1 < (K.cuts.length : Int) := by omega
    have z5 : (0 : Int) ≤ (k : Int) + 1 := by omega
    have z6 : ((k : Int) + 1).toNat = k + 1 := by omega
    have z8 : k + 1 < K.cuts.length := by omega
    have y1 : IntKind.i64.wrap ((k : Int) + 1) = (k : Int) + 1 := IntWalk.i64_in _ (by omega)
    have y1' : wrap64 ((k : Int) + 1) = (k : Int) + 1 := IntWalk.wrap64_in _ (by omega)
    have HLE := Lib.hid (show k + 1 ≤ K.dens.length by omega)
    have HME := Lib.hid (show K.dens.length - (k + 1) < K.dens.length - k by omega)
    obtain ⟨f1, f2⟩ := HF.out wr hBr.below
    clear nc n1 n2
    have HLA := Lib.hid (fun (W : World) => flt_any s.at_ (⟨gi K.cuts (k + 1), 1⟩ : Rt) HAO.out HCut.out W)
    have HLR := Lib.hid (fun (W : World) => flater_any s.at_ (⟨gi K.cuts (k + 1), 1⟩ : Rt) HAO.out HCut.out W)
    obtain ⟨wv, hwv⟩ : ∃ x, x = K.wtR k s.at_ (⟨gi K.cuts (k + 1), 1⟩ : Rt) := ⟨_, rfl⟩
    obtain ⟨wc, hwc⟩ : ∃ x, x = K.wtC k s.at_ (⟨gi K.cuts (k + 1), 1⟩ : Rt) := ⟨_, rfl⟩
    rw [← hwv, ← hwc] at HMR HW HWO
    clear hwv hwc
    obtain ⟨C, hC⟩ : ∃ x, x = (⟨gi K.cuts (k + 1), 1⟩ : Rt) := ⟨_, rfl⟩
    obtain ⟨m1, m2, m3, m4, m5⟩ := HMR.out
    rw [← hC] at HLA HLR HCut HW
    rw [← hC] at m1 m2 m3 m4 m5
    have HC2 := Lib.hid hC
    obtain ⟨la, hla⟩ : ∃ x, x = ltB s.at_ C := ⟨_, rfl⟩
    rw [← hla] at HLA HLR m1 m2 m3 m4 m5
    have M1 := Lib.hid m1
    have M2 := Lib.hid m2
    have M3 := Lib.hid m3
    have M4 := Lib.hid m4
    have M5 := Lib.hid m5
    clear hla hC m1 m2 m3 m4 m5 HMR
    have c_v := fun j => cell_of_row _ _ j _ _ _ (hBr.get 2 rfl)
    have z_v := hBr.lt 2 rfl
    have c_K := fun j => cell_of_row _ _ j _ _ _ (hBr.get 4 rfl)
    have z_K := hBr.lt 4 rfl
    go_wp2_with fail
    refine (of_any _ _).mono ?_
    rintro e w21 ⟨rfl, hb⟩
    have hB21 := hBr.next hb
    clear c_v z_v c_K z_K hb hBr
    rw [← HC2.out]
    clear f1 f2
    go_upto_region 10 with fail
    have hB22 := hB21.new rfl (rB C)
    clear hB21
    generalize w21.heap.size = gE at *
    generalize w21.alloc _ = w22 at *
    obtain ⟨f1, f2⟩ := HF.out _ hB22.below
    cases la with
    | false =>
      rw [if_neg (by decide)] at HLR
      have HN := Lib.hid (M1.out rfl)
      have c_end := fun j => cell_of_row _ _ j _ _ _ (hB22.get 0 rfl)
      have z_end := hB22.lt 0 rfl
      have c_at := fun j => cell_of_row _ _ j _ _ _ (hB22.get 1 rfl)
      have z_at := hB22.lt 1 rfl
      have c_K := fun j => cell_of_row _ _ j _ _ _ (hB22.get 5 rfl)
      have z_K := hB22.lt 5 rfl
      go_wp2_with fail
      refine (HLA.out _).mono ?_
      rintro e w23 ⟨rfl, hb⟩
      have hB23 := hB22.next hb
      clear c_end z_end c_at z_at c_K z_K hb hB22
      clear f1 f2
      obtain ⟨f1, f2⟩ := HF.out _ hB23.below
      have c_K := fun j => cell_of_row _ _ j _ _ _ (hB23.get 5 rfl)
      have z_K := hB23.lt 5 rfl
      have c_end := fun j => cell_of_row _ _ j _ _ _ (hB23.get 0 rfl)
      have z_end := hB23.lt 0 rfl
      have c_at := fun j => cell_of_row _ _ j _ _ _ (hB23.get 1 rfl)
      have z_at := hB23.lt 1 rfl
      go_wp2_with fail
      refine (HLR.out _).mono ?_
      rintro e w24 ⟨rfl, hb⟩
      have hB24 := hB23.next hb
      clear c_K z_K c_end z_end c_at z_at hb hB23
      have c_at := fun j => cell_of_row _ _ j _ _ _ (hB24.get 1 rfl)
      have z_at := hB24.lt 1 rfl
      have f_at := fun j => frozen_of_row _ _ j _ _ (hB24.get 1 rfl)
      have HZ := Lib.hid (hB24.put 1 rfl (s.at_)).drop
      clear hB24
      go_wp2_with fail
      exact ⟨⟨k + 1, HLE.out, by go_num, by rw [HST.out, HN.out]; exact HE0.out, by rw [HST.out, HN.out]; exact HZ.out⟩, by simpa [intOf] using HME.out⟩
    | true =>
    by_cases hd : gi K.dens k = 0
    · have dq : (gi K.dens k == 0) = true := by simpa using hd
      rw [if_pos rfl] at HLR
      have HN := Lib.hid (M2.out rfl hd)
      have c_end := fun j => cell_of_row _ _ j _ _ _ (hB22.get 0 rfl)
      have z_end := hB22.lt 0 rfl
      have c_at := fun j => cell_of_row _ _ j _ _ _ (hB22.get 1 rfl)
      have z_at := hB22.lt 1 rfl
      have c_K := fun j => cell_of_row _ _ j _ _ _ (hB22.get 5 rfl)
      have z_K := hB22.lt 5 rfl
      go_wp2_with fail
      refine (HLA.out _).mono ?_
      rintro e w23 ⟨rfl, hb⟩
      have hB23 := hB22.next hb
      clear c_end z_end c_at z_at c_K z_K hb hB22
      clear f1 f2
      obtain ⟨f1, f2⟩ := HF.out _ hB23.below
      have c_K := fun j => cell_of_row _ _ j _ _ _ (hB23.get 5 rfl)
      have z_K := hB23.lt 5 rfl
      have c_end := fun j => cell_of_row _ _ j _ _ _ (hB23.get 0 rfl)
      have z_end := hB23.lt 0 rfl
      have c_at := fun j => cell_of_row _ _ j _ _ _ (hB23.get 1 rfl)
      have z_at := hB23.lt 1 rfl
      go_wp2_with fail
      refine (HLR.out _).mono ?_
      rintro e w24 ⟨rfl, hb⟩
      have hB24 := hB23.next hb
      clear c_K z_K c_end z_end c_at z_at hb hB23
      have c_at := fun j => cell_of_row _ _ j _ _ _ (hB24.get 1 rfl)
      have z_at := hB24.lt 1 rfl
      have f_at := fun j => frozen_of_row _ _ j _ _ (hB24.get 1 rfl)
      have HZ := Lib.hid (hB24.put 1 rfl (C)).drop
      clear hB24
      go_wp2_with fail
      exact ⟨⟨k + 1, HLE.out, by go_num, by rw [HST.out, HN.out]; exact HE0.out, by rw [HST.out, HN.out]; exact HZ.out⟩, by simpa [intOf] using HME.out⟩
    have dq : (gi K.dens k == 0) = false := by simpa using hd
    have HD0 := Lib.hid hd
    have HM3 := Lib.hid (M3.out rfl hd)
    have HM4 := Lib.hid (M4.out rfl hd)
    have HM5 := Lib.hid (M5.out rfl hd)
    clear hd HLR M1 M2 M3 M4 M5
    have c_end := fun j => cell_of_row _ _ j _ _ _ (hB22.get 0 rfl)
    have z_end := hB22.lt 0 rfl
    have c_at := fun j => cell_of_row _ _ j _ _ _ (hB22.get 1 rfl)
    have z_at := hB22.lt 1 rfl
    have c_K := fun j => cell_of_row _ _ j _ _ _ (hB22.get 5 rfl)
    have z_K := hB22.lt 5 rfl
    go_wp2_with fail
    refine (HLA.out _).mono ?_
    rintro e w23 ⟨rfl, hb⟩
    have hB23 := hB22.next hb
    clear c_end z_end c_at z_at c_K z_K hb hB22
    clear f1 f2
    obtain ⟨f1, f2⟩ := HF.out _ hB23.below
    have c_end := fun j => cell_of_row _ _ j _ _ _ (hB23.get 0 rfl)
    have z_end := hB23.lt 0 rfl
    have c_at := fun j => cell_of_row _ _ j _ _ _ (hB23.get 1 rfl)
    have z_at := hB23.lt 1 rfl
    have c_K := fun j => cell_of_row _ _ j _ _ _ (hB23.get 5 rfl)
    have z_K := hB23.lt 5 rfl
    go_wp2_with fail
    refine (HW.out _ hB23.below).mono ?_
    rintro e w24 ⟨rfl, hb⟩
    have hB24 := hB23.next hb
    clear c_end z_end c_at z_at c_K z_K hb hB23
    clear HW HLA f1 f2
    go_upto_region 13 with fail
    have hB25 := hB24.new rfl (rB wv)
    clear hB24
    generalize w24.heap.size = gW at *
    generalize w24.alloc _ = w25 at *
    have hwo := HWO.out
    rcases hwo with ⟨k1, k2⟩ | k1
    rotate_left
    · have lq : (wc != 0) = true := by rw [k1]; rfl
      have HNZ := Lib.hid (show wc ≠ 0 by omega)
      clear k1
      have HX2 := Lib.hid (show K.markC a v = wc by
        have e := HM3.out HNZ.out
        rw [← HST.out] at e
        rw [HX.out, HSY.out e.1, e.2])
      have c_wt := fun j => cell_of_row _ _ j _ _ _ (hB25.get 0 rfl)
      have z_wt := hB25.lt 0 rfl
      have c_end := fun j => cell_of_row _ _ j _ _ _ (hB25.get 1 rfl)
      have z_end := hB25.lt 1 rfl
      have c_at := fun j => cell_of_row _ _ j _ _ _ (hB25.get 2 rfl)
      have z_at := hB25.lt 2 rfl
      have c_out := fun j => cell_of_row _ _ j _ _ _ (hB25.get 3 rfl)
      have z_out := hB25.lt 3 rfl
      have f_out := fun j => frozen_of_row _ _ j _ _ (hB25.get 3 rfl)
      have c_v := fun j => cell_of_row _ _ j _ _ _ (hB25.get 4 rfl)
      have z_v := hB25.lt 4 rfl
      have c_a := fun j => cell_of_row _ _ j _ _ _ (hB25.get 5 rfl)
      have z_a := hB25.lt 5 rfl
      have c_K := fun j => cell_of_row _ _ j _ _ _ (hB25.get 6 rfl)
      have z_K := hB25.lt 6 rfl
      have HE := Lib.hid (hB25.put 3 rfl ⟨0, 0⟩).below
      clear hB25
      go_wp2_with fail
      refine bodyPost_ret (v := .tuple #[rV ⟨0, 0⟩, .int .i64 wc]) (by simp [results, Try.results116, go_sem, c_out, f_out, z_out]) rfl ?_
      exact ⟨by rw [HVB.out wc HX2.out HNZ.out, HX2.out], HE.out⟩
    have lq : (wc != 0) = false := by rw [k1]; rfl
    have HWK := Lib.hid k2
    have HLW := Lib.hid (fun (W : World) => flt_any wv s.v k2 HVO2.out W)
    have HSB := Lib.hid (fun (W : World) => fsub_any s.v wv HVO2.out.wf k2.wf W)
    have hss := sub_step HVO2.out k2
    have HM4b := Lib.hid (HM4.out k1)
    have HM5b := Lib.hid (HM5.out k1)
    obtain ⟨lw, hlw⟩ : ∃ x, x = ltB wv s.v := ⟨_, rfl⟩
    rw [← hlw] at HLW HM4b HM5b
    clear hlw k1 k2 HM3 HM4 HM5 HWO
    have c_wt := fun j => cell_of_row _ _ j _ _ _ (hB25.get 0 rfl)
    have z_wt := hB25.lt 0 rfl
    have c_v := fun j => cell_of_row _ _ j _ _ _ (hB25.get 4 rfl)
    have z_v := hB25.lt 4 rfl
    go_wp2_with fail
    refine (HLW.out _).mono ?_
    rintro e w26 ⟨rfl, hb⟩
    have hB26 := hB25.next hb
    clear c_wt z_wt c_v z_v hb hB25
    clear HLW
    cases lw with
    | false =>
      have HM6 := Lib.hid (HM5b.out rfl)
      clear hss HSB HM4b HM5b
      have HDV := Lib.hid (fun (W : World) => fdiv_any s.v ⟨gi K.dens k, 1⟩ HVO2.out.wf (len_ok (n := gi K.dens k) (by have := HFit.out; omega) (by have := HFit.out; omega)).wf W)
      have hds := div_step HVO2.out (len_ok (n := gi K.dens k) (by have := HFit.out; omega) (by have := HFit.out; omega)) HD0.out
      obtain ⟨D, hD⟩ : ∃ x, x = divR s.v ⟨gi K.dens k, 1⟩ := ⟨_, rfl⟩
      obtain ⟨DC, hDC⟩ : ∃ x, x = divC s.v ⟨gi K.dens k, 1⟩ := ⟨_, rfl⟩
      rw [← hD, ← hDC] at HDV hds HM6
      clear hD hDC
      have hM := Mx.of_bx hB26
      clear hB26
      go_wp2_with fail
      refine wp_region_R (Bx w [(gV, rB s.v), (w.heap.size, cB (some ad) c (some rd) d K)]) 14 (by kernel_rfl) (by rfl) ((hM.keep (List.Sublist.cons _ (List.Sublist.cons _ (List.Sublist.cons _ (List.Sublist.cons _ (List.Sublist.cons_cons _ (List.Sublist.cons _ (List.Sublist.cons_cons _ (List.nil_sublist _))))))))).drew) (fun wq1 hbq => ?_)
      have hB61 := hM.next hbq
      clear hM hbq
      refine wpAnyE_goR (Bx.grows _ _) (hB61.keep (List.Sublist.cons _ (List.Sublist.cons _ (List.Sublist.cons _ (List.Sublist.cons _ (List.Sublist.cons_cons _ (List.Sublist.cons _ (List.Sublist.cons_cons _ (List.nil_sublist _))))))))) [0, 1, 2, 3, 4, 5, 6, 7, 8, 9, 10] 3 (by kernel_rfl) ?_
      apply Exists.intro
      refine ⟨fun G hG hN => ?_, ?_⟩
      · have c_v := fun (e : GE (Bx w [(gV, rB s.v), (w.heap.size, cB (some ad) c (some rd) d K)]) G) j => cell_of_row e.w _ j _ _ _ ((GE.h e).get 0 rfl)
        have z_v := fun (e : GE (Bx w [(gV, rB s.v), (w.heap.size, cB (some ad) c (some rd) d K)]) G) => (GE.h e).lt 0 rfl
        have c_K := fun (e : GE (Bx w [(gV, rB s.v), (w.heap.size, cB (some ad) c (some rd) d K)]) G) j => cell_of_row e.w _ j _ _ _ ((GE.h e).get 1 rfl)
        have z_K := fun (e : GE (Bx w [(gV, rB s.v), (w.heap.size, cB (some ad) c (some rd) d K)]) G) => (GE.h e).lt 1 rfl
        have f2 := fun (e : GE (Bx w [(gV, rB s.v), (w.heap.size, cB (some ad) c (some rd) d K)]) G) => (HF.out e.w (GE.h e).below).2
        simp only [pickOps, List.getElem?_toArray, List.getElem?_cons_zero, List.getElem?_cons_succ]
        repeat (first | go_big_quiet_step ((first | (go_at_call 73; exact calls_ge (Bx.grows _ _) hG (of_any _ _)) | (go_at_call 127; exact calls_ge (Bx.grows _ _) hG (HDV.out _)))) | quiet_step ((first | (go_at_call 73; exact calls_ge (Bx.grows _ _) hG (of_any _ _)) | (go_at_call 127; exact calls_ge (Bx.grows _ _) hG (HDV.out _)))))
        exact wpQuiet_nil rfl
      refine wpAnyE_all (rs := [11]) (by kernel_rfl) (by simp) (fun wa2 hwa2 hRwa2 i hi => ?_)
      have hB62 := hB61.next hwa2
      clear hB61 hwa2 hRwa2
      obtain rfl := List.mem_singleton.1 hi
      refine wpOp_step rfl (fun Kc hKc => ?_)
      go_simp
      have hB63 := hB62.new (g := wa2.heap.size) rfl (rB ⟨0, 0⟩)
      refine hKc _ _ ⟨(hB63.keep (List.Sublist.cons _ (List.Sublist.cons _ (List.Sublist.cons _ (List.Sublist.cons _ (List.Sublist.cons _ (List.Sublist.cons_cons _ (List.Sublist.cons _ (List.Sublist.cons_cons _ (List.nil_sublist _)))))))))), ?_⟩
      clear hKc Kc hB62
      generalize wa2.heap.size = gD at *
      generalize wa2.alloc _ = wb3 at *
      refine wpAnyE_all (rs := [12]) (by kernel_rfl) (by simp) (fun wa4 hwa4 hRwa4 i hi => ?_)
      have hB64 := hB63.next hwa4
      clear hB63 hwa4 hRwa4
      obtain rfl := List.mem_singleton.1 hi
      refine wpOp_step rfl (fun Kc hKc => ?_)
      have c_dv := fun j => cell_of_row _ _ j _ _ _ (hB64.get 0 rfl)
      have z_dv := hB64.lt 0 rfl
      have f_dv := fun j => frozen_of_row _ _ j _ _ (hB64.get 0 rfl)
      go_simp
      have hB65 := hB64.put 0 rfl (D)
      refine hKc _ _ ⟨(hB65.keep (List.Sublist.cons _ (List.Sublist.cons _ (List.Sublist.cons _ (List.Sublist.cons _ (List.Sublist.cons _ (List.Sublist.cons_cons _ (List.Sublist.cons _ (List.Sublist.cons_cons _ (List.nil_sublist _)))))))))), ?_⟩
      clear c_dv z_dv f_dv hKc Kc hB64
      generalize (wa4.setCell _ _).setCell _ _ = wb5 at *
      refine wpAnyE_goR (Bx.grows _ _) (hB65.keep (List.Sublist.cons _ (List.Sublist.cons _ (List.Sublist.cons _ (List.Sublist.cons _ (List.Sublist.cons _ (List.Sublist.cons_cons _ (List.Sublist.cons _ (List.Sublist.cons_cons _ (List.nil_sublist _)))))))))) [13] 0 (by kernel_rfl) ?_
      apply Exists.intro
      refine ⟨fun G hG hN => ?_, ?_⟩
      · have c_v := fun (e : GE (Bx w [(gV, rB s.v), (w.heap.size, cB (some ad) c (some rd) d K)]) G) j => cell_of_row e.w _ j _ _ _ ((GE.h e).get 0 rfl)
        have z_v := fun (e : GE (Bx w [(gV, rB s.v), (w.heap.size, cB (some ad) c (some rd) d K)]) G) => (GE.h e).lt 0 rfl
        have c_K := fun (e : GE (Bx w [(gV, rB s.v), (w.heap.size, cB (some ad) c (some rd) d K)]) G) j => cell_of_row e.w _ j _ _ _ ((GE.h e).get 1 rfl)
        have z_K := fun (e : GE (Bx w [(gV, rB s.v), (w.heap.size, cB (some ad) c (some rd) d K)]) G) => (GE.h e).lt 1 rfl
        have f2 := fun (e : GE (Bx w [(gV, rB s.v), (w.heap.size, cB (some ad) c (some rd) d K)]) G) => (HF.out e.w (GE.h e).below).2
        simp only [pickOps, List.getElem?_toArray, List.getElem?_cons_zero, List.getElem?_cons_succ]
        repeat (first | go_big_quiet_step ((first | (go_at_call 73; exact calls_ge (Bx.grows _ _) hG (of_any _ _)) | (go_at_call 127; exact calls_ge (Bx.grows _ _) hG (HDV.out _)))) | quiet_step ((first | (go_at_call 73; exact calls_ge (Bx.grows _ _) hG (of_any _ _)) | (go_at_call 127; exact calls_ge (Bx.grows _ _) hG (HDV.out _)))))
        exact wpQuiet_nil rfl
      refine wpAnyE_done (by kernel_rfl) (fun wd6 hwd6 hRwd6 => ?_) _
      refine NoPanic.normal ?_
      have hB66 := hB65.next hwd6
      clear hB65 hwd6 hRwd6
      have hB := hB66.bx
      clear hB66
      clear HDV
      rcases hds with ⟨k1, k2, k3⟩ | k1
      rotate_left
      · have dq2 : (DC != 0) = true := by simp; omega
        have HNZ := Lib.hid (show DC ≠ 0 by omega)
        clear k1
        have HX2 := Lib.hid (show K.markC a v = DC by
          have e := HM6.out.1 HNZ.out
          rw [← HST.out] at e
          rw [HX.out, HSY.out e.1, e.2])
        have c_dv := fun j => cell_of_row _ _ j _ _ _ (hB.get 0 rfl)
        have z_dv := hB.lt 0 rfl
        have c_wt := fun j => cell_of_row _ _ j _ _ _ (hB.get 1 rfl)
        have z_wt := hB.lt 1 rfl
        have c_end := fun j => cell_of_row _ _ j _ _ _ (hB.get 2 rfl)
        have z_end := hB.lt 2 rfl
        have c_at := fun j => cell_of_row _ _ j _ _ _ (hB.get 3 rfl)
        have z_at := hB.lt 3 rfl
        have c_out := fun j => cell_of_row _ _ j _ _ _ (hB.get 4 rfl)
        have z_out := hB.lt 4 rfl
        have f_out := fun j => frozen_of_row _ _ j _ _ (hB.get 4 rfl)
        have c_v := fun j => cell_of_row _ _ j _ _ _ (hB.get 5 rfl)
        have z_v := hB.lt 5 rfl
        have c_a := fun j => cell_of_row _ _ j _ _ _ (hB.get 6 rfl)
        have z_a := hB.lt 6 rfl
        have c_K := fun j => cell_of_row _ _ j _ _ _ (hB.get 7 rfl)
        have z_K := hB.lt 7 rfl
        have HE := Lib.hid (hB.put 4 rfl ⟨0, 0⟩).below
        clear hB
        go_wp2_with fail
        refine bodyPost_ret (v := .tuple #[rV ⟨0, 0⟩, .int .i64 DC]) (by simp [results, Try.results116, go_sem, c_out, f_out, z_out]) rfl ?_
        exact ⟨by rw [HVB.out DC HX2.out HNZ.out, HX2.out], HE.out⟩
      have dq2 : (DC != 0) = false := by rw [k1]; rfl
      have HAD := Lib.hid (fun (W : World) => fadd_any s.at_ D HAO.out.wf k2.wf W)
      have HAB := Lib.hid (fun q => add_bad_ HAO.out k2 q)
      have e6 := HM6.out.2 k1
      rw [← HST.out] at e6
      have e7 := HSY.out e6.1
      have HX2 := Lib.hid (show K.markC a v = addC s.at_ D by rw [HX.out, e7, e6.2.1])
      have HU := Lib.hid (show K.mark a v = addR s.at_ D by
        by_cases q : addC s.at_ D = 0
        · rw [HOK.out (by rw [HX2.out]; exact q), e7, e6.2.2]
        · rw [HVB.out _ HX2.out q, HAB.out q])
      obtain ⟨S, hS⟩ : ∃ x, x = addR s.at_ D := ⟨_, rfl⟩
      obtain ⟨SC, hSC⟩ : ∃ x, x = addC s.at_ D := ⟨_, rfl⟩
      rw [← hS] at HU HAD
      rw [← hSC] at HX2 HAD
      clear e6 e7 k1 k2 k3 hS hSC HAB
      have c_dv := fun j => cell_of_row _ _ j _ _ _ (hB.get 0 rfl)
      have z_dv := hB.lt 0 rfl
      have c_at := fun j => cell_of_row _ _ j _ _ _ (hB.get 3 rfl)
      have z_at := hB.lt 3 rfl
      go_wp2_with fail
      refine (HAD.out _).mono ?_
      rintro e w81 ⟨rfl, hb⟩
      have hB81 := hB.next hb
      clear c_dv z_dv c_at z_at hb hB
      have c_out := fun j => cell_of_row _ _ j _ _ _ (hB81.get 4 rfl)
      have z_out := hB81.lt 4 rfl
      have f_out := fun j => frozen_of_row _ _ j _ _ (hB81.get 4 rfl)
      have HE := Lib.hid (hB81.put 4 rfl S).below
      clear hB81
      go_wp2_with fail
      refine bodyPost_ret (v := .tuple #[rV S, .int .i64 SC]) (by simp [results, Try.results116, go_sem, c_out, f_out, z_out]) rfl ?_
      exact ⟨by rw [HU.out, HX2.out], HE.out⟩
    | true =>
      have HM6 := Lib.hid (HM4b.out rfl)
      clear HM4b HM5b
      obtain ⟨D, hD⟩ : ∃ x, x = subR s.v wv := ⟨_, rfl⟩
      obtain ⟨DC, hDC⟩ : ∃ x, x = subC s.v wv := ⟨_, rfl⟩
      rw [← hD, ← hDC] at HSB hss HM6
      clear hD hDC
      have c_wt := fun j => cell_of_row _ _ j _ _ _ (hB26.get 0 rfl)
      have z_wt := hB26.lt 0 rfl
      have c_v := fun j => cell_of_row _ _ j _ _ _ (hB26.get 4 rfl)
      have z_v := hB26.lt 4 rfl
      go_wp2_with fail
      refine (HSB.out _).mono ?_
      rintro e w27 ⟨rfl, hb⟩
      have hB27 := hB26.next hb
      clear c_wt z_wt c_v z_v hb hB26
      have c_v := fun j => cell_of_row _ _ j _ _ _ (hB27.get 4 rfl)
      have z_v := hB27.lt 4 rfl
      have f_v := fun j => frozen_of_row _ _ j _ _ (hB27.get 4 rfl)
      go_upto_region 21 with fail
      have hB28 := hB27.put 4 rfl (D)
      clear c_v z_v f_v hB27
      generalize (w27.setCell _ _).setCell _ _ = w28 at *
      rcases hss with ⟨k1, k2, k3⟩ | k1
      rotate_left
      · have dq2 : (DC != 0) = true := by simp; omega
        have HNZ := Lib.hid (show DC ≠ 0 by omega)
        clear k1
        have HX2 := Lib.hid (show K.markC a v = DC by
          have e := HM6.out.1 HNZ.out
          rw [← HST.out] at e
          rw [HX.out, HSY.out e.1, e.2])
        have c_wt := fun j => cell_of_row _ _ j _ _ _ (hB28.get 0 rfl)
        have z_wt := hB28.lt 0 rfl
        have c_end := fun j => cell_of_row _ _ j _ _ _ (hB28.get 1 rfl)
        have z_end := hB28.lt 1 rfl
        have c_at := fun j => cell_of_row _ _ j _ _ _ (hB28.get 2 rfl)
        have z_at := hB28.lt 2 rfl
        have c_out := fun j => cell_of_row _ _ j _ _ _ (hB28.get 3 rfl)
        have z_out := hB28.lt 3 rfl
        have f_out := fun j => frozen_of_row _ _ j _ _ (hB28.get 3 rfl)
        have c_v := fun j => cell_of_row _ _ j _ _ _ (hB28.get 4 rfl)
        have z_v := hB28.lt 4 rfl
        have c_a := fun j => cell_of_row _ _ j _ _ _ (hB28.get 5 rfl)
        have z_a := hB28.lt 5 rfl
        have c_K := fun j => cell_of_row _ _ j _ _ _ (hB28.get 6 rfl)
        have z_K := hB28.lt 6 rfl
        have HE := Lib.hid (hB28.put 3 rfl ⟨0, 0⟩).below
        clear hB28
        go_wp2_with fail
        refine bodyPost_ret (v := .tuple #[rV ⟨0, 0⟩, .int .i64 DC]) (by simp [results, Try.results116, go_sem, c_out, f_out, z_out]) rfl ?_
        exact ⟨by rw [HVB.out DC HX2.out HNZ.out, HX2.out], HE.out⟩
      have dq2 : (DC != 0) = false := by rw [k1]; rfl
      have HN := Lib.hid (HM6.out.2 k1)
      clear k1 k2 k3
      have c_end := fun j => cell_of_row _ _ j _ _ _ (hB28.get 1 rfl)
      have z_end := hB28.lt 1 rfl
      have c_at := fun j => cell_of_row _ _ j _ _ _ (hB28.get 2 rfl)
      have z_at := hB28.lt 2 rfl
      have f_at := fun j => frozen_of_row _ _ j _ _ (hB28.get 2 rfl)
      have HZ := Lib.hid (hB28.put 2 rfl C).drop.drop
      clear hB28
      go_wp2_with fail
      exact ⟨⟨k + 1, HLE.out, by go_num, by rw [HST.out, HN.out]; exact HE0.out, by rw [HST.out, HN.out]; exact HZ.out⟩, by simpa [intOf] using HME.out⟩
end Go.Proofs.Ytgcbmnohhbcfiaa
