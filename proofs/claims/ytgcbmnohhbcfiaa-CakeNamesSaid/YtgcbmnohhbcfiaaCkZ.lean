/- Mark of cakes: the walk over the pieces. -/
import Derived.Test.YtgcbmnohhbcfiaaCkY
import Derived.Test.YtgcbmnohhbcfiaaFlowA
namespace Go.Proofs.Ytgcbmnohhbcfiaa
open Go.RowKit Go.Deep
set_option linter.unusedVariables false
set_option linter.unusedSimpArgs false

theorem mTo_stay {K : Ck} {a v : Rt} {i : Nat} (h : (K.mTo a v i).stop = true) : ∀ k, i ≤ k → K.mTo a v k = K.mTo a v i
  | 0, hk => by have : i = 0 := by omega
                subst this; rfl
  | k + 1, hk => by
    by_cases e : i = k + 1
    · subst e; rfl
    · have ih := mTo_stay h k (by omega)
      show K.mStep k (K.mTo a v k) = _
      unfold Ck.mStep
      rw [if_pos (by rw [ih]; exact h)]; exact ih
section
variable {K : Ck} {k : Nat} {s : MS} {M : Rt}
theorem mStep_skip (h : s.stop = false) (l : ltB s.at_ ⟨gi K.cuts (k + 1), 1⟩ = false) : K.mStep k s = s := by unfold Ck.mStep; rw [if_neg (by rw [h]; decide), if_pos l]
theorem mStep_zero (h : s.stop = false) (l : ltB s.at_ ⟨gi K.cuts (k + 1), 1⟩ = true) (d : gi K.dens k = 0) : K.mStep k s = { s with at_ := ⟨gi K.cuts (k + 1), 1⟩ } := by
  unfold Ck.mStep; rw [if_neg (by rw [h]; decide), if_neg (by rw [l]; decide), if_pos d]
theorem mStep_e1 (h : s.stop = false) (l : ltB s.at_ ⟨gi K.cuts (k + 1), 1⟩ = true) (d : gi K.dens k ≠ 0) (q : pieceC s.at_ ⟨gi K.cuts (k + 1), 1⟩ (gi K.dens k) ≠ 0) : K.mStep k s = { s with late := pieceC s.at_ ⟨gi K.cuts (k + 1), 1⟩ (gi K.dens k), stop := true } := by
  unfold Ck.mStep; rw [if_neg (by rw [h]; decide), if_neg (by rw [l]; decide), if_neg d, if_pos q]
theorem mStep_less (h : s.stop = false) (l : ltB s.at_ ⟨gi K.cuts (k + 1), 1⟩ = true) (d : gi K.dens k ≠ 0) (q : pieceC s.at_ ⟨gi K.cuts (k + 1), 1⟩ (gi K.dens k) = 0) (hM : pieceR s.at_ ⟨gi K.cuts (k + 1), 1⟩ (gi K.dens k) = M) (r : ltB M s.v = true) :
    K.mStep k s = if subC s.v M ≠ 0 then { s with late := subC s.v M, stop := true } else { s with at_ := ⟨gi K.cuts (k + 1), 1⟩, v := subR s.v M, late := 6 } := by
  subst hM
  unfold Ck.mStep; rw [if_neg (by rw [h]; decide), if_neg (by rw [l]; decide), if_neg d, if_neg (by omega), if_pos r]
theorem mStep_done (h : s.stop = false) (l : ltB s.at_ ⟨gi K.cuts (k + 1), 1⟩ = true) (d : gi K.dens k ≠ 0) (q : pieceC s.at_ ⟨gi K.cuts (k + 1), 1⟩ (gi K.dens k) = 0) (hM : pieceR s.at_ ⟨gi K.cuts (k + 1), 1⟩ (gi K.dens k) = M) (r : ltB M s.v = false) :
    K.mStep k s = if divC s.v ⟨gi K.dens k, 1⟩ ≠ 0 then { s with late := divC s.v ⟨gi K.dens k, 1⟩, stop := true } else { s with late := addC s.at_ (divR s.v ⟨gi K.dens k, 1⟩), out := addR s.at_ (divR s.v ⟨gi K.dens k, 1⟩), stop := true } := by
  subst hM
  unfold Ck.mStep; rw [if_neg (by rw [h]; decide), if_neg (by rw [l]; decide), if_neg d, if_neg (by omega), if_neg (by rw [r]; decide)]
end

/-- How the walk ends. -/
structure WkEnd (K : Ck) (a v : Rt) (gV gL gU : Nat) (M : List (Nat × Obj)) (wb : World) (er : Int) (w' : World) : Prop where
  ex : ∃ (v' : Rt) (lt : Int) (ot : Rt), Bx wb ((gV, rB v') :: (gL, eB lt) :: (gU, rB ot) :: M) w' ∧ (if er ≠ 0 then er else lt) = (K.mTo a v K.dens.length).late ∧ ((K.mTo a v K.dens.length).late = 0 → ot = (K.mTo a v K.dens.length).out)
theorem WkEnd.mk' {K : Ck} {a v : Rt} {gV gL gU : Nat} {M : List (Nat × Obj)} {wb : World} {er : Int} {w' : World} {m : MS} {v' : Rt} {lt : Int} {ot : Rt} (hm : K.mTo a v K.dens.length = m)
    (hB : Bx wb ((gV, rB v') :: (gL, eB lt) :: (gU, rB ot) :: M) w') (h1 : (if er ≠ 0 then er else lt) = m.late) (h2 : m.late = 0 → ot = m.out) : WkEnd K a v gV gL gU M wb er w' := ⟨v', lt, ot, hB, by rw [hm]; exact h1, by rw [hm]; exact h2⟩

set_option maxRecDepth 100000 in
set_option maxHeartbeats 16000000 in
theorem cwalk_any (K : Ck) (A : Option Addr) (c : Nat) (R : Option Addr) (d : Nat) (a v : Rt) (hK : K.Ok) (ha : a.Ok) (hv : v.Ok) (a0 : 0 ≤ a.q) (v0 : 0 < v.q) (gV gL gU : Nat) (M : List (Nat × Obj)) (wb w0 : World) (hk : CIn wb.heap.size wb A c R d K)
    (h : Bx wb ((gV, rB v) :: (gL, eB 6) :: (gU, rB ⟨0, 0⟩) :: M) w0) :
    Calls Try.prog 90 #[cV A c R d K, rV a, .func (.func 91) #[] #[ptrV gV, ptrV gL, ptrV gU]] w0 fun e w' => ∃ er, e = .returned (.int .i64 er) ∧ WkEnd K a v gV gL gU M wb er w' := by
  have hB0 : Bx wb ((w0.heap.size + 1, rB a) :: (w0.heap.size, cB A c R d K) :: (gV, rB v) :: (gL, eB 6) :: (gU, rB ⟨0, 0⟩) :: M) ((w0.alloc (cB A c R d K)).alloc (rB a)) := ((h.new rfl _).new (by simp) _)
  have HH := Lib.hid hk
  have HK := Lib.hid hK
  have HMT := Lib.hid (mTo_ok hK ha hv a0 v0)
  clear h hk hK
  go_enter Try.func90, Try.ntmps90
  go_upto_region 1 with fail
  generalize hw1 : (w0.alloc (cB A c R d K)).alloc (rB a) = w1 at *
  clear hw1
  generalize w0.heap.size + 1 = gA at *
  generalize w0.heap.size = gK at *
  have c_K := fun j => cell_of_row _ _ j _ _ _ (hB0.get 1 rfl)
  have z_K := hB0.lt 1 rfl
  have n1 := HK.out.n1
  have n2 := HK.out.n2
  go_wp2_with fail
  clear c_K z_K
  have HB0 := Lib.hid hB0
  clear hB0
  go_loopw [7, 8, 9, 10, 11, 12, 16] (fun _ _ _ _ _ _ s16 wr => ∃ k : Nat, k ≤ K.dens.length ∧ s16 = .int .i64 k ∧ (K.mTo a v k).stop = false ∧ Bx wb ((gA, rB (K.mTo a v k).at_) :: (gK, cB A c R d K) :: (gV, rB (K.mTo a v k).v) :: (gL, eB (K.mTo a v k).late) :: (gU, rB (K.mTo a v k).out) :: M) wr) (fun _ _ _ _ _ _ s16 _ => K.dens.length - (intOf s16).toNat)
  case atStart => exact ⟨0, Nat.zero_le _, rfl, rfl, HB0.out⟩
  case round =>
    obtain ⟨k, hk, rfl, hst, hBr⟩ := hrel
    by_cases hlt : k < K.dens.length
    rotate_left
    · obtain rfl : k = K.dens.length := by omega
      have HE := Lib.hid (WkEnd.mk' (er := 0) rfl hBr.drop.drop (by rw [if_neg (by decide)]) (fun _ => rfl))
      clear hBr
      go_wp2_with fail
      go_ret
      exact ⟨0, rfl, HE.out⟩
    have HS := Lib.hid ((HMT.out k hk).run hst)
    have HCut := Lib.hid (HK.out.cut_ok (i := k + 1) (by omega))
    have HST := Lib.hid (show K.mTo a v (k + 1) = K.mStep k (K.mTo a v k) from rfl)
    have HSY := Lib.hid (fun (h : (K.mTo a v (k + 1)).stop = true) => mTo_stay h K.dens.length (by omega))
    have HE0 := Lib.hid hst
    have fit := HK.out.fit k hlt
    have HFit := Lib.hid fit
    have nc := HK.out.nc
    obtain ⟨s, hs⟩ : ∃ s, s = K.mTo a v k := ⟨_, rfl⟩
    rw [← hs] at HS HST HE0 hBr
    clear hs hst
    obtain ⟨ad, rfl, hb1, hc1⟩ := HH.out.cuts.at_ (show k + 1 < K.cuts.length by omega)
    obtain ⟨rd, rfl, hb2, hc2⟩ := HH.out.dens.at_ hlt
    have HF := Lib.hid (fun (W : World) (hW : Below wb.heap.size wb W) => show W.cell? ⟨ad.block, ad.off + (k + 1), none⟩ = some (.int .i64 (gi K.cuts (k + 1))) ∧ W.cell? (rd.add k) = some (.int .i64 (gi K.dens k)) from
      ⟨(hW.cell (p := ad.add (k + 1)) (by rw [block_add]; exact hb1)).trans hc1, (hW.cell (by rw [block_add]; exact hb2)).trans hc2⟩)
    clear hb1 hc1 hb2 hc2
    have z1 : (k : Int) < (K.dens.length : Int) := by omega
    have z3 : (0 : Int) ≤ (k : Int) := by omega
    have z4 : (k : Int) + 1 < (K.cuts.length : Int) := by omega
    have z5 : (0 : Int) ≤ (k : Int) + 1 := by omega
    have z6 : ((k : Int) + 1).toNat = k + 1 := by omega
    have z8 : k + 1 < K.cuts.length := by omega
    have y1 : IntKind.i64.wrap ((k : Int) + 1) = (k : Int) + 1 := IntWalk.i64_in _ (by omega)
    have y1' : wrap64 ((k : Int) + 1) = (k : Int) + 1 := IntWalk.wrap64_in _ (by omega)
    have HLE := Lib.hid (show k + 1 ≤ K.dens.length by omega)
    have HME := Lib.hid (show K.dens.length - (k + 1) < K.dens.length - k by omega)
    obtain ⟨f1, f2⟩ := HF.out wr hBr.below
    have HLA := Lib.hid (fun (W : World) => cless_any s.at_ ⟨gi K.cuts (k + 1), 1⟩ HS.out.1 HCut.out W)
    clear nc fit n1 n2
    have c_K := fun j => cell_of_row _ _ j _ _ _ (hBr.get 1 rfl)
    have z_K := hBr.lt 1 rfl
    go_wp2_with fail
    refine (whole_any _ _).mono ?_
    rintro e w21 ⟨rfl, hb⟩
    have hB21 := hBr.next hb
    clear c_K z_K hb hBr
    clear f1 f2
    go_upto_region 5 with fail
    have hB22 := hB21.new rfl (rB ⟨gi K.cuts (k + 1), 1⟩)
    clear hB21
    generalize w21.heap.size = gE at *
    generalize w21.alloc _ = w22 at *
    cases hla : ltB s.at_ ⟨gi K.cuts (k + 1), 1⟩ with
    | false =>
      have HN := Lib.hid (mStep_skip (K := K) (k := k) HE0.out hla)
      rw [hla] at HLA
      clear hla
      have c_end := fun j => cell_of_row _ _ j _ _ _ (hB22.get 0 rfl)
      have z_end := hB22.lt 0 rfl
      have c_at := fun j => cell_of_row _ _ j _ _ _ (hB22.get 1 rfl)
      have z_at := hB22.lt 1 rfl
      go_wp2_with fail
      refine (HLA.out _).mono ?_
      rintro e w23 ⟨rfl, hb⟩
      have hB23 := hB22.next hb
      clear c_end z_end c_at z_at hb hB22
      have HZ := Lib.hid hB23.drop
      clear hB23
      go_wp2_with fail
      exact ⟨⟨k + 1, HLE.out, by go_num, by rw [HST.out, HN.out]; exact HE0.out, by rw [HST.out, HN.out]; exact HZ.out⟩, by simpa [intOf] using HME.out⟩
    | true =>
    have HL := Lib.hid hla
    rw [hla] at HLA
    clear hla
    have c_end := fun j => cell_of_row _ _ j _ _ _ (hB22.get 0 rfl)
    have z_end := hB22.lt 0 rfl
    have c_at := fun j => cell_of_row _ _ j _ _ _ (hB22.get 1 rfl)
    have z_at := hB22.lt 1 rfl
    go_wp2_with fail
    refine (HLA.out _).mono ?_
    rintro e w23 ⟨rfl, hb⟩
    have hB23 := hB22.next hb
    clear c_end z_end c_at z_at hb hB22
    go_wp2_with fail
    refine (whole_any _ _).mono ?_
    rintro e w24 ⟨rfl, hb⟩
    have hB24 := hB23.next hb
    clear hb hB23
    go_upto_region 7 with fail
    have hB25 := hB24.new rfl (rB ⟨0, 1⟩)
    clear hB24
    generalize w24.heap.size = gW at *
    generalize w24.alloc _ = w25 at *
    by_cases hd : gi K.dens k = 0
    · have dq : decide (0 < gi K.dens k) = false := by simp; omega
      have HN := Lib.hid (mStep_zero (K := K) (k := k) HE0.out HL.out hd)
      have HD := Lib.hid hd
      clear hd

      go_upto_region 14 with fail
      rw [HD.out]
      have c_wor := fun j => cell_of_row _ _ j _ _ _ (hB25.get 0 rfl)
      have z_wor := hB25.lt 0 rfl
      have c_end := fun j => cell_of_row _ _ j _ _ _ (hB25.get 1 rfl)
      have z_end := hB25.lt 1 rfl
      have c_at := fun j => cell_of_row _ _ j _ _ _ (hB25.get 2 rfl)
      have z_at := hB25.lt 2 rfl
      have c_K := fun j => cell_of_row _ _ j _ _ _ (hB25.get 3 rfl)
      have z_K := hB25.lt 3 rfl
      go_wp2_with fail
      refine (visit_zero s.at_ ⟨gi K.cuts (k + 1), 1⟩ ⟨0, 1⟩ s.v s.out 0 s.late gV gL gU _ wb _ (Bx.swap (P := [_, _, _, _]) (Q := [_, _, _]) hB25)).mono ?_
      rintro e w26 ⟨rfl, hb, _⟩
      have hB26 := Bx.swap (P := [_, _, _]) (Q := [_, _, _, _]) hb
      clear c_wor z_wor c_end z_end c_at z_at c_K z_K hb hB25
      have c_end := fun j => cell_of_row _ _ j _ _ _ (hB26.get 1 rfl)
      have z_end := hB26.lt 1 rfl
      have c_at := fun j => cell_of_row _ _ j _ _ _ (hB26.get 2 rfl)
      have z_at := hB26.lt 2 rfl
      have f_at := fun j => frozen_of_row _ _ j _ _ (hB26.get 2 rfl)
      have HZ := Lib.hid ((hB26.put 2 rfl ⟨gi K.cuts (k + 1), 1⟩).drop.drop)
      clear hB26
      go_wp2_with fail
      exact ⟨⟨k + 1, HLE.out, by go_num, by rw [HST.out, HN.out]; exact HE0.out, by rw [HST.out, HN.out]; exact HZ.out⟩, by simpa [intOf] using HME.out⟩
    have dq : decide (0 < gi K.dens k) = true := by have := HFit.out; simp; omega
    have HD0 := Lib.hid hd
    clear hd
    have HSB := Lib.hid (fun (W : World) => rsub_any ⟨gi K.cuts (k + 1), 1⟩ s.at_ HCut.out.wf HS.out.1.wf W)
    have hss := sub_step HCut.out HS.out.1
    obtain ⟨LL, hLL⟩ : ∃ x, x = subR ⟨gi K.cuts (k + 1), 1⟩ s.at_ := ⟨_, rfl⟩
    obtain ⟨LC, hLC⟩ : ∃ x, x = subC ⟨gi K.cuts (k + 1), 1⟩ s.at_ := ⟨_, rfl⟩
    rw [← hLL, ← hLC] at HSB hss
    have HLC := Lib.hid hLC
    have HLL := Lib.hid hLL
    clear hLL hLC
    have c_end := fun j => cell_of_row _ _ j _ _ _ (hB25.get 1 rfl)
    have z_end := hB25.lt 1 rfl
    have c_at := fun j => cell_of_row _ _ j _ _ _ (hB25.get 2 rfl)
    have z_at := hB25.lt 2 rfl
    go_wp2_with fail
    refine (HSB.out _).mono ?_
    rintro e w26 ⟨rfl, hb⟩
    have hB26 := hB25.next hb
    clear c_end z_end c_at z_at hb hB25
    go_upto_region 9 with fail
    have hB27 := hB26.new rfl (rB LL)
    clear hB26
    generalize w26.heap.size = gLn at *
    generalize w26.alloc _ = w27 at *
    rcases hss with ⟨k1, k2, k3⟩ | k1
    rotate_left
    · have lq : (LC != 0) = true := by simp; omega
      have HK1 := Lib.hid k1
      have HPC := Lib.hid (show pieceC s.at_ ⟨gi K.cuts (k + 1), 1⟩ (gi K.dens k) = LC by unfold pieceC; rw [if_pos (by rw [← HLC.out]; omega), ← HLC.out])
      clear k1
      have HN := Lib.hid (mStep_e1 (K := K) (k := k) HE0.out HL.out HD0.out (by rw [HPC.out]; have := HK1.out; omega))
      rw [HPC.out] at HN
      have HE := Lib.hid (WkEnd.mk' (er := LC) ((HSY.out (by rw [HST.out, HN.out])).trans (HST.out.trans HN.out)) hB27.drop.drop.drop.drop.drop (by rw [if_pos (by have := HK1.out; omega)]) (fun x => by have := HK1.out; simp only at x; omega))
      clear hB27
      go_wp2_with fail
      go_ret
      exact ⟨LC, rfl, HE.out⟩
    have lq : (LC != 0) = false := by rw [k1]; rfl
    have HLO := Lib.hid k2
    have HLZ := Lib.hid (show subC ⟨gi K.cuts (k + 1), 1⟩ s.at_ = 0 by rw [← HLC.out, k1])
    clear k1 k2 k3
    have HMU := Lib.hid (fun (W : World) => rmul_any LL ⟨gi K.dens k, 1⟩ HLO.out.wf (len_ok (n := gi K.dens k) (by have := HFit.out; omega) (by have := HFit.out; omega)).wf W)
    have hms := mul_step HLO.out (len_ok (n := gi K.dens k) (by have := HFit.out; omega) (by have := HFit.out; omega))
    obtain ⟨M', hM⟩ : ∃ x, x = mulR LL ⟨gi K.dens k, 1⟩ := ⟨_, rfl⟩
    obtain ⟨MC, hMC⟩ : ∃ x, x = mulC LL ⟨gi K.dens k, 1⟩ := ⟨_, rfl⟩
    rw [← hM, ← hMC] at HMU hms
    have HPC := Lib.hid (show pieceC s.at_ ⟨gi K.cuts (k + 1), 1⟩ (gi K.dens k) = MC by unfold pieceC; rw [if_neg (by rw [HLZ.out]; decide), hMC, HLL.out])
    have HPR := Lib.hid (show pieceR s.at_ ⟨gi K.cuts (k + 1), 1⟩ (gi K.dens k) = M' by unfold pieceR; rw [hM, HLL.out])
    clear hM hMC
    go_wp2_with fail
    have n_len := hB27.ne 0 1 rfl rfl (by decide)
    simp only at n_len
    refine wp_region_flow_at wb [gW] 9 (by kernel_rfl) (by rfl) hB27.below (fun wq hbq hbb => ?_)
    have hB28q := hB27.next hbq
    have hzg : wb.heap.size ≤ gW := hB27.le 1 rfl
    clear hB27
    refine wpAnyE_go (w0 := wb) (w1 := wq) (X := [gW]) (fun _ h => h) (RK.at0 hbb) [0, 1, 2, 3, 4, 5, 6] 2 (by kernel_rfl) ?_
    apply Exists.intro
    refine ⟨fun G hG hN => ?_, ?_⟩
    · have c_len := fun (e : GE (RK wb wq [gW]) G) j => cell_of_row e.w _ j _ _ _ ((GE.h e).at (hB28q.get 0 rfl) (by simp [n_len]))
      have z_len := fun (e : GE (RK wb wq [gW]) G) => lt_some ((GE.h e).at (hB28q.get 0 rfl) (by simp [n_len]))
      simp only [pickOps, List.getElem?_toArray, List.getElem?_cons_zero, List.getElem?_cons_succ]
      repeat (first | go_big_quiet_step ((first | (go_at_call 83; exact calls_ge (RK.grows _ _ _) hG (whole_any _ _)) | (go_at_call 94; exact calls_ge (RK.grows _ _ _) hG (HMU.out _)))) | quiet_step ((first | (go_at_call 83; exact calls_ge (RK.grows _ _ _) hG (whole_any _ _)) | (go_at_call 94; exact calls_ge (RK.grows _ _ _) hG (HMU.out _)))))
      exact wpQuiet_nil rfl
    refine wpAnyE_all (rs := [7]) (by kernel_rfl) (by simp) (fun Wb hWb hRWb i hi => ?_)
    obtain rfl := List.mem_singleton.1 hi
    have hB28b := hB28q.next hWb
    clear hB28q
    have ck := fun j => cell_of_row _ _ j _ _ _ (hB28b.get 1 rfl)
    have fk := fun j => frozen_of_row _ _ j _ _ (hB28b.get 1 rfl)
    have zk := hB28b.lt 1 rfl
    refine wpOp_step rfl (fun K hK => ?_)
    go_simp
    refine hK _ _ ⟨(hRWb.set hzg (Or.inl (by simp))).set hzg (Or.inl (by simp)), ?_⟩
    clear hK K
    clear ck fk zk
    have hB28c := hB28b.put 1 rfl (M')
    clear hB28b
    have hsc := (hRWb.set hzg (Or.inl (by simp)) (j := 0) (u := .int .i64 (M').n)).set hzg (Or.inl (by simp)) (j := 1) (u := .int .i64 (M').d)
    generalize (Wb.setCell _ _).setCell _ _ = Wd at *
    refine wpAnyE_go (w0 := wb) (w1 := Wd) (X := [gW]) (RK.move hsc (by simp)) (RK.here hsc) [8] 0 (by kernel_rfl) ?_
    apply Exists.intro
    refine ⟨fun G hG hN => ?_, ?_⟩
    · simp only [pickOps, List.getElem?_toArray, List.getElem?_cons_zero, List.getElem?_cons_succ]
      repeat (first | go_big_quiet_step (fail) | quiet_step (fail))
      exact wpQuiet_nil rfl
    refine wpAnyE_done (by kernel_rfl) (fun Wc hWc hRWc => ?_) _
    refine NoPanic.normal ?_
    have hB28 := hB28c.next hWc
    clear hB28c hWb hWc hRWb hRWc hbq hbb hsc
    generalize Wc = w28 at *
    rcases hms with ⟨k1, k2, k3⟩ | k1
    rotate_left
    · have mq : (MC != 0) = true := by simp; omega
      have HK1 := Lib.hid k1
      clear k1
      have HN := Lib.hid (mStep_e1 (K := K) (k := k) HE0.out HL.out HD0.out (by rw [HPC.out]; have := HK1.out; omega))
      rw [HPC.out] at HN
      have HE := Lib.hid (WkEnd.mk' (er := MC) ((HSY.out (by rw [HST.out, HN.out])).trans (HST.out.trans HN.out)) hB28.drop.drop.drop.drop.drop (by rw [if_pos (by have := HK1.out; omega)]) (fun x => by have := HK1.out; simp only at x; omega))
      clear hB28
      go_wp2_with fail
      go_ret
      exact ⟨MC, rfl, HE.out⟩
    have mq : (MC != 0) = false := by rw [k1]; rfl
    have HMO := Lib.hid k2
    have HPZ := Lib.hid (show pieceC s.at_ ⟨gi K.cuts (k + 1), 1⟩ (gi K.dens k) = 0 by rw [HPC.out, k1])
    clear k1 k2 k3
    cases hlw : ltB M' s.v with
    | false =>
      have HN := Lib.hid (mStep_done (K := K) (k := k) HE0.out HL.out HD0.out HPZ.out HPR.out hlw)
      have HVI := fun W h => visit_done s.at_ ⟨gi K.cuts (k + 1), 1⟩ M' s.v s.out (gi K.dens k) s.late gV gL gU ((gLn, rB LL) :: (gW, rB M') :: (gE, rB ⟨gi K.cuts (k + 1), 1⟩) :: (gA, rB s.at_) :: (gK, cB (some ad) c (some rd) d K) :: M) wb W HS.out.2.1 HMO.out HS.out.1 (by have := HFit.out; have := HD0.out; omega) (by have := HFit.out; omega) hlw h
      clear hlw
      go_upto_region 14 with fail
      have c_len := fun j => cell_of_row _ _ j _ _ _ (hB28.get 0 rfl)
      have z_len := hB28.lt 0 rfl
      have c_wor := fun j => cell_of_row _ _ j _ _ _ (hB28.get 1 rfl)
      have z_wor := hB28.lt 1 rfl
      have c_end := fun j => cell_of_row _ _ j _ _ _ (hB28.get 2 rfl)
      have z_end := hB28.lt 2 rfl
      have c_at := fun j => cell_of_row _ _ j _ _ _ (hB28.get 3 rfl)
      have z_at := hB28.lt 3 rfl
      have c_K := fun j => cell_of_row _ _ j _ _ _ (hB28.get 4 rfl)
      have z_K := hB28.lt 4 rfl
      go_wp2_with fail
      refine (HVI _ (Bx.swap (P := [_, _, _, _, _]) (Q := [_, _, _]) hB28)).mono ?_
      rintro e w29 ⟨rfl, hb, _⟩
      have hB29 := Bx.swap (P := [_, _, _]) (Q := [_, _, _, _, _]) hb
      clear c_len z_len c_wor z_wor c_end z_end c_at z_at c_K z_K hb hB28
      have HE : Hid (WkEnd K a v gV gL gU M wb 0 w29) := by
        refine Lib.hid ?_
        have hT : (K.mTo a v (k + 1)).stop = true := by rw [HST.out, HN.out]; split <;> rfl
        refine WkEnd.mk' ((HSY.out hT).trans (HST.out.trans HN.out)) hB29.drop.drop.drop.drop.drop ?_ ?_
        · rw [if_neg (by decide)]; split <;> rfl
        · split
          · rename_i q; intro x; exact absurd x q
          · intro _; rfl
      clear hB29 HVI
      go_wp2_with fail
      go_ret
      exact ⟨0, rfl, HE.out⟩
    | true =>
      have HN := Lib.hid (mStep_less (K := K) (k := k) HE0.out HL.out HD0.out HPZ.out HPR.out hlw)
      have HVI := fun W h => visit_less s.at_ ⟨gi K.cuts (k + 1), 1⟩ M' s.v s.out (gi K.dens k) s.late gV gL gU ((gLn, rB LL) :: (gW, rB M') :: (gE, rB ⟨gi K.cuts (k + 1), 1⟩) :: (gA, rB s.at_) :: (gK, cB (some ad) c (some rd) d K) :: M) wb W HS.out.2.1 HMO.out hlw HD0.out h
      clear hlw
      go_upto_region 14 with fail
      have c_len := fun j => cell_of_row _ _ j _ _ _ (hB28.get 0 rfl)
      have z_len := hB28.lt 0 rfl
      have c_wor := fun j => cell_of_row _ _ j _ _ _ (hB28.get 1 rfl)
      have z_wor := hB28.lt 1 rfl
      have c_end := fun j => cell_of_row _ _ j _ _ _ (hB28.get 2 rfl)
      have z_end := hB28.lt 2 rfl
      have c_at := fun j => cell_of_row _ _ j _ _ _ (hB28.get 3 rfl)
      have z_at := hB28.lt 3 rfl
      have c_K := fun j => cell_of_row _ _ j _ _ _ (hB28.get 4 rfl)
      have z_K := hB28.lt 4 rfl
      go_wp2_with fail
      refine (HVI _ (Bx.swap (P := [_, _, _, _, _]) (Q := [_, _, _]) hB28)).mono ?_
      rintro e w29 ⟨rfl, hb, _⟩
      have hB29 := Bx.swap (P := [_, _, _]) (Q := [_, _, _, _, _]) hb
      clear c_len z_len c_wor z_wor c_end z_end c_at z_at c_K z_K hb hB28
      clear HVI
      generalize subR s.v M' = SR at *
      generalize subC s.v M' = SC at *
      by_cases hs : SC ≠ 0
      · have sq : (SC != 0) = true := by simpa using hs
        rw [if_pos hs] at HN
        have HE := Lib.hid (WkEnd.mk' (er := 0) ((HSY.out (by rw [HST.out, HN.out])).trans (HST.out.trans HN.out)) hB29.drop.drop.drop.drop.drop (by rw [if_neg (by decide), if_pos hs]) (fun x => absurd x hs))
        clear hB29 hs
        go_wp2_with fail
        go_ret
        exact ⟨0, rfl, HE.out⟩
      have sq : (SC != 0) = false := by simpa using hs
      rw [if_neg hs] at HN
      have hB29x := hB29
      rw [if_neg hs] at hB29x
      clear hB29 hs
      have hB29 := hB29x
      clear hB29x
      have c_end := fun j => cell_of_row _ _ j _ _ _ (hB29.get 2 rfl)
      have z_end := hB29.lt 2 rfl
      have c_at := fun j => cell_of_row _ _ j _ _ _ (hB29.get 3 rfl)
      have z_at := hB29.lt 3 rfl
      have f_at := fun j => frozen_of_row _ _ j _ _ (hB29.get 3 rfl)
      have HZ := Lib.hid ((hB29.put 3 rfl ⟨gi K.cuts (k + 1), 1⟩).drop.drop.drop)
      clear hB29
      go_wp2_with fail
      exact ⟨⟨k + 1, HLE.out, by go_num, by rw [HST.out, HN.out]; exact HE0.out, by rw [HST.out, HN.out]; exact HZ.out⟩, by simpa [intOf] using HME.out⟩
end Go.Proofs.Ytgcbmnohhbcfiaa
