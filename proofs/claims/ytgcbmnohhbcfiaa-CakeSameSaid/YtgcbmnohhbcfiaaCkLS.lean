/- CakeSame returns true. -/
import Derived.Test.YtgcbmnohhbcfiaaCkG
import Derived.Test.YtgcbmnohhbcfiaaCkN
import Derived.Test.YtgcbmnohhbcfiaaCkU
import Derived.Test.YtgcbmnohhbcfiaaCkR
import Derived.Test.YtgcbmnohhbcfiaaCkPt
import Derived.Test.YtgcbmnohhbcfiaaCkS
namespace Go.Proofs.Ytgcbmnohhbcfiaa
set_option linter.unusedVariables false
set_option linter.unusedSimpArgs false

section
variable {K : Ck} {a b v p : Rt}
theorem densAt_spec {K : Ck} {p : Rt} : ∀ k, densAt K p k ≤ k ∧ (densAt K p k = 0 ∨ ltB p ⟨gi K.cuts (densAt K p k), 1⟩ = false) ∧ (densAt K p k = k ∨ ltB p ⟨gi K.cuts (densAt K p k + 1), 1⟩ = true)
  | 0 => ⟨Nat.le_refl _, Or.inl rfl, Or.inl rfl⟩
  | k + 1 => by
    obtain ⟨h1, h2, h3⟩ := densAt_spec (K := K) (p := p) k
    unfold densAt
    cases e : ltB p ⟨gi K.cuts (k + 1), 1⟩ with
    | true =>
      rw [if_pos rfl]
      refine ⟨by omega, h2, ?_⟩
      rcases h3 with h3 | h3
      · right; rw [h3]; exact e
      · exact Or.inr h3
    | false => rw [if_neg (by decide)]; exact ⟨Nat.le_refl _, Or.inr e, Or.inl rfl⟩
theorem at_spec (h : K.Ok) (hp : p.Ok) (p0 : 0 ≤ p.q) (pl : p.q ≤ (K.len : Rat)) : K.at_ p < K.dens.length ∧ (gi K.cuts (K.at_ p) : Rat) ≤ p.q ∧ p.q ≤ (gi K.cuts (K.at_ p + 1) : Rat) ∧ (K.at_ p + 1 = K.dens.length ∨ p.q < (gi K.cuts (K.at_ p + 1) : Rat)) := by
  obtain ⟨h1, h2, h3⟩ := densAt_spec (K := K) (p := p) (K.dens.length - 1)
  have n1 := h.n1
  show densAt K p (K.dens.length - 1) < _ ∧ _
  unfold Ck.at_
  generalize densAt K p (K.dens.length - 1) = i at *
  have hi : i < K.dens.length := by omega
  refine ⟨hi, ?_, ?_, ?_⟩
  · rcases h2 with h2 | h2
    · subst h2; rw [h.c0Q]; exact p0
    · have := (ltB_qf hp (h.cut_ok (by omega))).1 h2
      rwa [whole_q] at this
  · rcases h3 with h3 | h3
    · rw [show i + 1 = K.dens.length by omega, h.cnQ]; exact pl
    · have := (ltB_q hp (h.cut_ok (by omega))).1 h3
      rw [whole_q] at this; grind
  · rcases h3 with h3 | h3
    · left; omega
    · right
      have := (ltB_q hp (h.cut_ok (by omega))).1 h3
      rwa [whole_q] at this
theorem den_norm (h : K.Ok) (hp : p.Ok) (p0 : 0 ≤ p.q) (pl : p.q ≤ (K.len : Rat)) : gi K.norm.dens (K.norm.at_ p) = gi K.dens (K.at_ p) := by
  have N := h.norm_ok
  obtain ⟨i1, i2, i3, i4⟩ := at_spec h hp p0 pl
  obtain ⟨j1, j2, j3, j4⟩ := at_spec N hp p0 pl
  generalize K.at_ p = i at *
  generalize K.norm.at_ p = j at *
  by_cases e : p.q < (K.len : Rat)
  · have i5 : p.q < (gi K.cuts (i + 1) : Rat) := by
      rcases i4 with q | q
      · rw [q, h.cnQ]; exact e
      · exact q
    have j5 : p.q < (gi K.norm.cuts (j + 1) : Rat) := by
      rcases j4 with q | q
      · rw [q, N.cnQ]; exact e
      · exact q
    obtain ⟨y, hy1, hy2, hy3⟩ : ∃ y : Rat, p.q < y ∧ y ≤ (gi K.cuts (i + 1) : Rat) ∧ y ≤ (gi K.norm.cuts (j + 1) : Rat) := ⟨min (gi K.cuts (i + 1) : Rat) (gi K.norm.cuts (j + 1) : Rat), by grind, by grind, by grind⟩
    have v1 := h.V_in i1 i2 (show p.q ≤ y by grind) hy2
    have v2 := N.V_in j1 j2 (show p.q ≤ y by grind) hy3
    rw [h.norm_V, h.norm_V, v1] at v2
    have d0 : 0 < y - p.q := by grind
    have e1 : (gi K.dens i : Rat) = (gi K.norm.dens j : Rat) := by
      have a1 : (gi K.dens i : Rat) * (y - p.q) ≤ (gi K.norm.dens j : Rat) * (y - p.q) := by rw [v2]; grind
      have a2 : (gi K.norm.dens j : Rat) * (y - p.q) ≤ (gi K.dens i : Rat) * (y - p.q) := by rw [v2]; grind
      have := Rat.le_of_mul_le_mul_right a1 d0
      have := Rat.le_of_mul_le_mul_right a2 d0
      grind
    exact (Rat.intCast_inj.1 e1).symm
  · have el : p.q = (K.len : Rat) := by grind
    have i5 : i + 1 = K.dens.length := by
      rcases i4 with q | q
      · exact q
      · have := h.monoQ (i := i + 1) (j := K.dens.length) (by omega) (Nat.le_refl _)
        rw [h.cnQ] at this; grind
    have j5 : j + 1 = K.norm.dens.length := by
      rcases j4 with q | q
      · exact q
      · have := N.monoQ (i := j + 1) (j := K.norm.dens.length) (by omega) (Nat.le_refl _)
        rw [N.cnQ] at this
        have : (K.norm.len : Rat) = (K.len : Rat) := rfl
        grind
    have R := rDens_last K K.dens.length (by omega)
    have R' : K.norm.dens = rDens K K.dens.length ++ [gi K.dens (K.dens.length - 1)] := R
    have L := congrArg List.length R'
    rw [List.length_append, List.length_singleton] at L
    rw [R', gi_app_at' (by omega), show i = K.dens.length - 1 by omega]
theorem same_val (h : K.Ok) (ha : a.Ok) (hb : b.Ok) (a0 : 0 ≤ a.q) (hab : a.q ≤ b.q) (hl : b.q ≤ (K.len : Rat)) (h1 : K.valC a b = 0) (h2 : K.norm.valC a b = 0) : K.val a b = K.norm.val a b := by
  have X := (h.val_ok ha hb a0 hab hl).v h1
  have Y := (h.norm_ok.val_ok ha hb a0 hab hl).v h2
  exact q_inj X.1 Y.1 (by rw [X.2, Y.2, h.norm_V, h.norm_V])
theorem markC_bad (h : K.Ok) (ha : a.Ok) (a0 : 0 ≤ a.q) (al : a.q ≤ (K.len : Rat)) (hv : ¬ (v.code = 0 ∧ 0 ≤ v.n)) : K.markC a v = 2 := by
  unfold Ck.markC
  rw [if_neg (by have := h.code; omega), if_neg (fun q => hv q.2)]
/-- The marks' codes, of a cake and of its normal form. -/
theorem same_mark (h : K.Ok) (ha : a.Ok) (a0 : 0 ≤ a.q) (al : a.q ≤ (K.len : Rat)) :
    (K.markC a v = 0 ∧ K.norm.markC a v = 0 ∧ K.mark a v = K.norm.mark a v) ∨ (K.markC a v = 2 ∧ K.norm.markC a v = 2) ∨ (K.markC a v = 6 ∧ K.norm.markC a v = 6) ∨ K.markC a v = 16 ∨ K.norm.markC a v = 16 ∧ (K.markC a v = 0 ∨ K.markC a v = 6) := by
  by_cases hv : v.code = 0 ∧ 0 ≤ v.n
  · have ov := Rt.ok_code hv.1
    have v0 := (num_q ov).1.1 hv.2
    have M := h.mark_ok ha ov a0 al v0
    have N := h.norm_ok.mark_ok ha ov a0 al v0
    have vn := h.norm_V
    rcases M.c with m | m | m
    · rcases N.c with n | n | n
      · left
        refine ⟨m, n, ?_⟩
        obtain ⟨m1, m2, m3, m4, m5⟩ := M.m m
        obtain ⟨n1, n2, n3, n4, n5⟩ := N.m n
        rw [vn, vn] at n4
        refine q_inj m1 n1 ?_
        rcases Classical.em ((K.mark a v).q < (K.norm.mark a v).q) with c | c
        · have := n5 _ m2 c; rw [vn, vn] at this; grind
        · rcases Classical.em ((K.norm.mark a v).q < (K.mark a v).q) with c' | c'
          · have := m5 _ n2 c'; grind
          · grind
      · obtain ⟨m1, m2, m3, m4, m5⟩ := M.m m
        have := N.n n
        rw [vn, vn] at this
        have := h.V_mono m3
        have : (K.norm.len : Rat) = (K.len : Rat) := rfl
        grind
      · exact Or.inr (Or.inr (Or.inr (Or.inr ⟨n, Or.inl m⟩)))
    · rcases N.c with n | n | n
      · obtain ⟨n1, n2, n3, n4, n5⟩ := N.m n
        have := M.n m
        rw [vn, vn] at n4
        have := h.V_mono (show (K.norm.mark a v).q ≤ (K.len : Rat) from n3)
        grind
      · exact Or.inr (Or.inr (Or.inl ⟨m, n⟩))
      · exact Or.inr (Or.inr (Or.inr (Or.inr ⟨n, Or.inr m⟩)))
    · exact Or.inr (Or.inr (Or.inr (Or.inl m)))
  · exact Or.inr (Or.inl ⟨markC_bad h ha a0 al hv, markC_bad h.norm_ok ha a0 al hv⟩)
theorem markC_codes (h : K.Ok) (ha : a.Ok) (a0 : 0 ≤ a.q) (al : a.q ≤ (K.len : Rat)) : K.markC a v = 0 ∨ K.markC a v = 2 ∨ K.markC a v = 6 ∨ K.markC a v = 16 := by
  by_cases hv : v.code = 0 ∧ 0 ≤ v.n
  · have ov := Rt.ok_code hv.1
    have := (h.mark_ok ha ov a0 al ((num_q ov).1.1 hv.2)).c
    omega
  · exact Or.inr (Or.inl (markC_bad h ha a0 al hv))
/-- The value of a part. -/
theorem part_val (h : K.Ok) {f t : Int} (ha : ¬ K.pArg f t) : K.valC ⟨f, 1⟩ ⟨t, 1⟩ = 0 ∧ K.val ⟨f, 1⟩ ⟨t, 1⟩ = ⟨(K.part f t).total, 1⟩ := by
  unfold Ck.pArg at ha
  have l2 := h.l2
  have c := h.val_int (x := f) (y := t) (by omega) (by omega) (by omega)
  have V := (h.val_ok (a := ⟨f, 1⟩) (b := ⟨t, 1⟩) (len_ok (by omega) (by omega)) (len_ok (by omega) (by omega)) (by rw [whole_q]; exact Rat.intCast_nonneg.2 (by omega)) (by rw [whole_q, whole_q]; exact Rat.intCast_le_intCast.2 (by omega)) (by rw [whole_q]; exact Rat.intCast_le_intCast.2 (by omega))).v c
  refine ⟨c, ?_⟩
  have hq : (K.val ⟨f, 1⟩ ⟨t, 1⟩).q = ((K.part f t).total : Rat) := by rw [V.2, whole_q, whole_q, h.part_V (by omega) (by omega)]
  have e := mkR_q V.1
  rw [hq] at e
  rw [← e]
  have i : inR ((K.part f t).total : Rat) := by rw [← hq]; exact V.1.inR
  unfold inR at i
  rw [Rat.num_intCast] at i
  exact (mkR_int i.1 i.2.1).1
end
end Go.Proofs.Ytgcbmnohhbcfiaa
namespace Go.Proofs.Ytgcbmnohhbcfiaa
open Go.RowKit Go.Deep
set_option linter.unusedVariables false
set_option linter.unusedSimpArgs false

theorem validB_ok {K : Ck} {a b : Rt} (h : validB K a b = true) : K.Ok ∧ a.Ok ∧ b.Ok ∧ 0 ≤ a.q ∧ a.q ≤ b.q ∧ b.q ≤ (K.len : Rat) := by
  simp only [validB, Bool.and_eq_true, Bool.not_eq_true', decide_eq_true_eq] at h
  obtain ⟨⟨⟨⟨_, h1⟩, h2⟩, h3⟩, h4⟩ := h
  have k := Ck.ok_code h1
  have l1 := k.l1
  obtain ⟨oa, a0, _⟩ := (point_q (by omega) k.l2).1 h2
  obtain ⟨ob, _, bl⟩ := (point_q (by omega) k.l2).1 h3
  exact ⟨k, oa, ob, a0, (ltB_qf ob oa).1 h4, bl⟩


/-- What a call that gives a cake leaves: read from here on. -/
theorem KRes.split {N : Ck} {x : Int} {w w' : World} {e : Ending} (h : KRes N x w e w') : ∃ A c R d, e = .returned (.tuple #[cV A c R d N, .int .i64 x]) ∧ CIn w'.heap.size w' A c R d N ∧ Below w.heap.size w w' := by
  obtain ⟨u, v, rfl, hk, hb⟩ := h
  obtain ⟨A, c, R, d, rfl, rfl⟩ := hk.shape
  exact ⟨A, c, R, d, rfl, hk.fresh.here, hb⟩
set_option maxRecDepth 100000 in
set_option maxHeartbeats 32000000 in
theorem same_walk (K : Ck) (A : Option Addr) (c : Nat) (R : Option Addr) (d : Nat) (a b v : Rt) (f t : Int) (ha : a.wf) (hb : b.wf) (hv : v.wf) (hf0 : -9223372036854775808 ≤ f) (hf1 : f ≤ 9223372036854775807) (ht0 : -9223372036854775808 ≤ t) (ht1 : t ≤ 9223372036854775807) (w : World) (h : CIn w.heap.size w A c R d K) :
    Calls Try.prog 8 #[cV A c R d K, rV a, rV b, rV v, .int .i64 f, .int .i64 t] w fun e w' => e = .returned (.bool true) ∧ Below w.heap.size w w' := by
  have hB0 : Bx w [(w.heap.size + 1 + 1 + 1, rB v), (w.heap.size + 1 + 1, rB b), (w.heap.size + 1, rB a), (w.heap.size, cB A c R d K)] ((((w.alloc (cB A c R d K)).alloc (rB a)).alloc (rB b)).alloc (rB v)) :=
    ((((Bx.start w).new rfl _).new (by simp) _).new (by simp) _).new (by simp) _
  have H1 := Lib.hid (fun (W : World) (hW : Below w.heap.size w W) => valid_any K A c R d a b ha hb W (h.next hW))
  have HN1 := Lib.hid (fun (W : World) (hW : Below w.heap.size w W) => cnormal_any K A c R d W (h.next hW))
  have HDK := Lib.hid (fun (W : World) (hW : Below w.heap.size w W) => cdensity_any K A c R d a ha W (h.next hW))
  have HVK := Lib.hid (fun (W : World) (hW : Below w.heap.size w W) => cvalue_any K A c R d a b ha hb W (h.next hW))
  have HMK := Lib.hid (fun (W : World) (hW : Below w.heap.size w W) => cmark_any K A c R d a v ha hv W (h.next hW))
  have HPK := Lib.hid (fun (W : World) (hW : Below w.heap.size w W) => cpart_any K A c R d f t hf0 hf1 ht0 ht1 W (h.next hW))
  have HV2 := Lib.hid (fun (h1 : Rt.wf ⟨f, 1⟩) (h2 : Rt.wf ⟨t, 1⟩) (W : World) (hW : Below w.heap.size w W) => cvalue_any K A c R d ⟨f, 1⟩ ⟨t, 1⟩ h1 h2 W (h.next hW))
  have HDN := Lib.hid (fun (A1 : Option Addr) (c1 : Nat) (R1 : Option Addr) (d1 : Nat) (W : World) (hN : CIn W.heap.size W A1 c1 R1 d1 K.norm) => cdensity_any K.norm A1 c1 R1 d1 a ha W hN)
  have HVN := Lib.hid (fun (A1 : Option Addr) (c1 : Nat) (R1 : Option Addr) (d1 : Nat) (W : World) (hN : CIn W.heap.size W A1 c1 R1 d1 K.norm) => cvalue_any K.norm A1 c1 R1 d1 a b ha hb W hN)
  have HMN := Lib.hid (fun (A1 : Option Addr) (c1 : Nat) (R1 : Option Addr) (d1 : Nat) (W : World) (hN : CIn W.heap.size W A1 c1 R1 d1 K.norm) => cmark_any K.norm A1 c1 R1 d1 a v ha hv W hN)
  clear h ha hb hv hf0 hf1 ht0 ht1
  go_enter Try.func8, Try.ntmps8
  try dsimp only [List.append]
  go_upto_region 1 with fail
  generalize hw0 : (((w.alloc (cB A c R d K)).alloc (rB a)).alloc (rB b)).alloc (rB v) = w0 at *
  clear hw0
  generalize w.heap.size + 1 + 1 + 1 = gV at *
  generalize w.heap.size + 1 + 1 = gB at *
  generalize w.heap.size + 1 = gA at *
  have c_v := fun j => cell_of_row _ _ j _ _ _ (hB0.get 0 rfl)
  have z_v := hB0.lt 0 rfl
  have c_b := fun j => cell_of_row _ _ j _ _ _ (hB0.get 1 rfl)
  have z_b := hB0.lt 1 rfl
  have c_a := fun j => cell_of_row _ _ j _ _ _ (hB0.get 2 rfl)
  have z_a := hB0.lt 2 rfl
  have c_K := fun j => cell_of_row _ _ j _ _ _ (hB0.get 3 rfl)
  have z_K := hB0.lt 3 rfl
  cases hv : validB K a b with
  | false =>
    rw [hv] at H1
    clear hv
    go_wp2_with fail
    refine (H1.out _ hB0.below).mono ?_
    rintro e w1 ⟨rfl, hb⟩
    have hB1 := hB0.next hb
    clear c_v z_v c_b z_b c_a z_a c_K z_K hb hB0
    have c_v := fun j => cell_of_row _ _ j _ _ _ (hB1.get 0 rfl)
    have z_v := hB1.lt 0 rfl
    have c_b := fun j => cell_of_row _ _ j _ _ _ (hB1.get 1 rfl)
    have z_b := hB1.lt 1 rfl
    have c_a := fun j => cell_of_row _ _ j _ _ _ (hB1.get 2 rfl)
    have z_a := hB1.lt 2 rfl
    have c_K := fun j => cell_of_row _ _ j _ _ _ (hB1.get 3 rfl)
    have z_K := hB1.lt 3 rfl
    go_wp2_with fail
    refine (alive_any _).mono ?_
    rintro e w2 ⟨rfl, hb⟩
    have hB2 := hB1.next hb
    clear c_v z_v c_b z_b c_a z_a c_K z_K hb hB1
    have HE := Lib.hid hB2.below
    clear hB2
    go_wp2_with fail
    go_ret
    exact ⟨rfl, HE.out⟩
  | true =>
  have O := Lib.hid (validB_ok hv)
  rw [hv] at H1
  clear hv
  go_wp2_with fail
  refine (H1.out _ hB0.below).mono ?_
  rintro e w1 ⟨rfl, hb⟩
  have hB1 := hB0.next hb
  clear c_v z_v c_b z_b c_a z_a c_K z_K hb hB0
  have HK := Lib.hid O.out.1
  have HNO := Lib.hid HK.out.norm_ok
  have HNK := Lib.hid (show K.norm? = K.norm ∧ K.norm.norm? = K.norm from ⟨by unfold Ck.norm?; rw [if_pos HK.out.code], by unfold Ck.norm?; rw [if_pos HNO.out.code]; exact HK.out.norm_norm⟩)
  have HPA := Lib.hid (show pointB K.len a = true from (point_q (by have := HK.out.l1; omega) HK.out.l2).2 ⟨O.out.2.1, O.out.2.2.2.1, by have := O.out.2.2.2.2; grind⟩)
  rw [HNK.out.1, HK.out.code] at HN1
  have c_K := fun j => cell_of_row _ _ j _ _ _ (hB1.get 3 rfl)
  have z_K := hB1.lt 3 rfl
  go_wp2_with fail
  refine Calls.mono (HN1.out _ hB1.below) ?_
  intro e w2 hkr
  obtain ⟨A1, c1, R1, d1, rfl, hN, hb⟩ := hkr.split
  have hB2 := hB1.next hb
  clear c_K z_K hb hkr hB1
  go_upto_region 4 with fail
  have hB3 := hB2.new rfl (cB A1 c1 R1 d1 K.norm)
  have hN := hN.next (one_alloc w2 (cB A1 c1 R1 d1 K.norm))
  clear hB2
  generalize w2.heap.size = gN at *
  generalize w2.alloc _ = w3 at *
  have c_n := fun j => cell_of_row _ _ j _ _ _ (hB3.get 0 rfl)
  have z_n := hB3.lt 0 rfl
  have HN2 := cnormal_any K.norm A1 c1 R1 d1 _ hN
  rw [HNK.out.2, HNO.out.code] at HN2
  go_wp2_with fail
  refine Calls.mono (HN2) ?_
  intro e w4 hkr
  obtain ⟨A2, c2, R2, d2, rfl, hM, hb⟩ := hkr.split
  have hB4 := hB3.next hb
  have hN := hN.next hb
  clear c_n z_n hb hkr hB3
  clear HN2
  go_upto_region 5 with fail
  have hB5 := hB4.new rfl (cB A2 c2 R2 d2 K.norm)
  have hN := hN.next (one_alloc w4 (cB A2 c2 R2 d2 K.norm))
  have hM := hM.next (one_alloc w4 (cB A2 c2 R2 d2 K.norm))
  clear hB4
  generalize w4.heap.size = gM at *
  generalize w4.alloc _ = w5 at *
  have HS := fsame_any K.norm K.norm A1 c1 R1 d1 A2 c2 R2 d2 _ hN hM
  rw [sameK_self] at HS
  clear hM
  have c_m := fun j => cell_of_row _ _ j _ _ _ (hB5.get 0 rfl)
  have z_m := hB5.lt 0 rfl
  have c_n := fun j => cell_of_row _ _ j _ _ _ (hB5.get 1 rfl)
  have z_n := hB5.lt 1 rfl
  go_wp2_with fail
  refine (HS).mono ?_
  rintro e w6 ⟨rfl, hb⟩
  have hB6 := hB5.next hb
  have hN := hN.next hb
  clear c_m z_m c_n z_n hb hB5
  clear HS
  have HC2 := fckcheck_any K.norm A1 c1 R1 d1 _ hN
  rw [HNO.out.code] at HC2
  have c_n := fun j => cell_of_row _ _ j _ _ _ (hB6.get 1 rfl)
  have z_n := hB6.lt 1 rfl
  go_wp2_with fail
  refine (HC2).mono ?_
  rintro e w7 ⟨rfl, hb⟩
  have hB7 := hB6.next hb
  have hN := hN.next hb
  clear c_n z_n hb hB6
  clear HC2
  have c_n := fun j => cell_of_row _ _ j _ _ _ (hB7.get 1 rfl)
  have z_n := hB7.lt 1 rfl
  go_wp2_with fail
  clear c_n z_n
  have HB5 := Lib.hid hB7
  have HN5 := Lib.hid hN
  clear hB7 hN
  go_loopw [17] (fun s17 wr => ∃ i : Nat, 1 ≤ i ∧ i ≤ K.norm.dens.length ∧ s17 = .int .i64 i ∧ Bx w [(gM, cB A2 c2 R2 d2 K.norm), (gN, cB A1 c1 R1 d1 K.norm), (gV, rB v), (gB, rB b), (gA, rB a), (w.heap.size, cB A c R d K)] wr ∧ CIn wr.heap.size wr A1 c1 R1 d1 K.norm) (fun s17 _ => K.norm.dens.length - (intOf s17).toNat)
  case atStart => exact ⟨1, Nat.le_refl _, HNO.out.n1, rfl, HB5.out, HN5.out⟩
  case round =>
    as_aux_lemma =>
    obtain ⟨i, hi1, hi, rfl, hBr, hN⟩ := hrel
    clear HB5 HN5
    by_cases hlt : i < K.norm.dens.length
    · have HME := Lib.hid (And.intro (Nat.succ_le_of_lt hlt) (Nat.sub_lt_sub_left hlt (Nat.lt_succ_self i)))
      have HNE := Lib.hid (HK.out.norm_ne (i := i) (by omega) hlt)
      obtain ⟨rd, rfl, hb2, hc2⟩ := hN.dens.at_ hlt
      obtain ⟨re, e3, hb3, hc3⟩ := hN.dens.at_ (show i - 1 < K.norm.dens.length by omega)
      obtain rfl : rd = re := by simpa using e3
      have HF := Lib.hid (fun (W : World) (hW : Below wr.heap.size wr W) => show W.cell? (rd.add i) = some (.int .i64 (gi K.norm.dens i)) ∧ W.cell? (rd.add (i - 1)) = some (.int .i64 (gi K.norm.dens (i - 1))) from ⟨(hW.cell (by rw [block_add]; exact hb2)).trans hc2, (hW.cell (by rw [block_add]; exact hb3)).trans hc3⟩)
      have k2 := hc2
      have k3 := hc3
      have kb2 : (rd.add i).block < wr.heap.size := by rw [block_add]; exact hb2
      have kb3 : (rd.add (i - 1)).block < wr.heap.size := by rw [block_add]; exact hb3
      have z1 : (i : Int) < (K.norm.dens.length : Int) := by omega
      have z3 : (0 : Int) ≤ (i : Int) := by omega
      have z4 : (0 : Int) ≤ (i : Int) - 1 := by omega
      have z5 : (i : Int) - 1 < (K.norm.dens.length : Int) := by omega
      have z6 : ((i : Int) - 1).toNat = i - 1 := by omega
      have HBD := Lib.hid (show i ≤ 39 by have := HNO.out.n2; omega)
      have HI1 := Lib.hid hi1
      clear hb2 hc2 hb3 hc3 e3 hi hlt hi1
      have y1 : IntKind.i64.wrap ((i : Int) + 1) = (i : Int) + 1 := IntWalk.i64_in _ (by have := HBD.out; omega)
      have y2 : IntKind.i64.wrap ((i : Int) - 1) = (i : Int) - 1 := IntWalk.i64_in _ (by have := HBD.out; omega)
      have y1' : wrap64 ((i : Int) + 1) = (i : Int) + 1 := IntWalk.wrap64_in _ (by have := HBD.out; omega)
      have y2' : wrap64 ((i : Int) - 1) = (i : Int) - 1 := IntWalk.wrap64_in _ (by have := HBD.out; omega)
      have q1 : (gi K.norm.dens i == gi K.norm.dens (i - 1)) = false := by simpa using HNE.out
      have HNH := Lib.hid hN
      clear hN
      have c_n := fun j => cell_of_row _ _ j _ _ _ (hBr.get 1 rfl)
      have z_n := hBr.lt 1 rfl
      go_wp2_with fail
      refine wp_region_ext (by kernel_rfl) (by kernel_rfl) ?_
      repeat (first | go_big_quiet_step (fail) | quiet_step (fail))
      refine wpQuiet_nil ?_
      rintro _ ⟨⟨w21, hb⟩, rfl⟩
      have HZ := Lib.hid (And.intro (hBr.next hb) (HNH.out.next hb))
      clear c_n z_n hb hBr
      go_wp2_with fail
      exact ⟨⟨i + 1, by have := HI1.out; omega, HME.out.1, by go_num, HZ.out.1, HZ.out.2⟩, by simpa [intOf] using HME.out.2⟩
    obtain rfl : i = K.norm.dens.length := by omega
    clear hlt hi hi1
    have HDE := Lib.hid (show K.den a = gi K.dens (K.at_ a) ∧ K.denC a = 0 ∧ K.norm.den a = gi K.dens (K.at_ a) ∧ K.norm.denC a = 0 by
      have ok := O.out
      have e := den_norm HK.out ok.2.1 ok.2.2.2.1 (by have := ok.2.2.2.2; grind)
      have pn : pointB K.norm.len a = true := HPA.out
      refine ⟨?_, ?_, ?_, ?_⟩
      · unfold Ck.den; rw [if_pos HK.out.code, if_pos HPA.out]
      · unfold Ck.denC; rw [if_pos HK.out.code, if_pos HPA.out]
      · unfold Ck.den; rw [if_pos HNO.out.code, if_pos pn, e]
      · unfold Ck.denC; rw [if_pos HNO.out.code, if_pos pn])
    rw [HDE.out.1, HDE.out.2.1] at HDK
    rw [HDE.out.2.2.1, HDE.out.2.2.2] at HDN
    generalize gi K.dens (K.at_ a) = dn at *
    have c_n := fun j => cell_of_row _ _ j _ _ _ (hBr.get 1 rfl)
    have z_n := hBr.lt 1 rfl
    have c_a := fun j => cell_of_row _ _ j _ _ _ (hBr.get 4 rfl)
    have z_a := hBr.lt 4 rfl
    have c_K := fun j => cell_of_row _ _ j _ _ _ (hBr.get 5 rfl)
    have z_K := hBr.lt 5 rfl
    go_wp2_with fail
    refine (HDK.out _ hBr.below).mono ?_
    rintro e w21 ⟨rfl, hb⟩
    have hB21 := hBr.next hb
    have hN := hN.next hb
    clear c_n z_n c_a z_a c_K z_K hb hBr
    have c_n := fun j => cell_of_row _ _ j _ _ _ (hB21.get 1 rfl)
    have z_n := hB21.lt 1 rfl
    have c_a := fun j => cell_of_row _ _ j _ _ _ (hB21.get 4 rfl)
    have z_a := hB21.lt 4 rfl
    have c_K := fun j => cell_of_row _ _ j _ _ _ (hB21.get 5 rfl)
    have z_K := hB21.lt 5 rfl
    go_wp2_with fail
    refine (HDN.out A1 c1 R1 d1 _ hN).mono ?_
    rintro e w22 ⟨rfl, hb⟩
    have hB22 := hB21.next hb
    have hN := hN.next hb
    clear c_n z_n c_a z_a c_K z_K hb hB21
    have X1 := Lib.hid (HK.out.val_ok O.out.2.1 O.out.2.2.1 O.out.2.2.2.1 O.out.2.2.2.2.1 O.out.2.2.2.2.2).c
    have X2 := Lib.hid (HNO.out.val_ok O.out.2.1 O.out.2.2.1 O.out.2.2.2.1 O.out.2.2.2.2.1 O.out.2.2.2.2.2).c
    have XE := Lib.hid (fun h1 h2 => same_val HK.out O.out.2.1 O.out.2.2.1 O.out.2.2.2.1 O.out.2.2.2.2.1 O.out.2.2.2.2.2 h1 h2)
    obtain ⟨x, hx⟩ : ∃ q, q = K.val a b := ⟨_, rfl⟩
    obtain ⟨xc, hxc⟩ : ∃ q, q = K.valC a b := ⟨_, rfl⟩
    obtain ⟨y, hy⟩ : ∃ q, q = K.norm.val a b := ⟨_, rfl⟩
    obtain ⟨yc, hyc⟩ : ∃ q, q = K.norm.valC a b := ⟨_, rfl⟩
    rw [← hx, ← hxc] at HVK
    rw [← hy, ← hyc] at HVN
    rw [← hxc] at X1
    rw [← hyc] at X2
    rw [← hx, ← hxc, ← hy, ← hyc] at XE
    clear hx hxc hy hyc
    have c_b := fun j => cell_of_row _ _ j _ _ _ (hB22.get 3 rfl)
    have z_b := hB22.lt 3 rfl
    have c_a := fun j => cell_of_row _ _ j _ _ _ (hB22.get 4 rfl)
    have z_a := hB22.lt 4 rfl
    have c_K := fun j => cell_of_row _ _ j _ _ _ (hB22.get 5 rfl)
    have z_K := hB22.lt 5 rfl
    go_wp2_with fail
    refine (HVK.out _ hB22.below).mono ?_
    rintro e w23 ⟨rfl, hb⟩
    have hB23 := hB22.next hb
    have hN := hN.next hb
    clear c_b z_b c_a z_a c_K z_K hb hB22
    go_upto_region 15 with fail
    have hB24 := hB23.new rfl (rB x)
    have hN := hN.next (one_alloc w23 (rB x))
    clear hB23
    generalize w23.heap.size = gX at *
    generalize w23.alloc _ = w24 at *
    have c_n := fun j => cell_of_row _ _ j _ _ _ (hB24.get 2 rfl)
    have z_n := hB24.lt 2 rfl
    have c_b := fun j => cell_of_row _ _ j _ _ _ (hB24.get 4 rfl)
    have z_b := hB24.lt 4 rfl
    have c_a := fun j => cell_of_row _ _ j _ _ _ (hB24.get 5 rfl)
    have z_a := hB24.lt 5 rfl
    go_wp2_with fail
    refine (HVN.out A1 c1 R1 d1 _ hN).mono ?_
    rintro e w25 ⟨rfl, hb⟩
    have hB25 := hB24.next hb
    have hN := hN.next hb
    clear c_n z_n c_b z_b c_a z_a hb hB24
    go_upto_region 16 with fail
    have hB26 := hB25.new rfl (rB y)
    have hN := hN.next (one_alloc w25 (rB y))
    clear hB25
    generalize w25.heap.size = gY at *
    generalize w25.alloc _ = w26 at *
    go_cut [137] (fun s wx => s = .bool false ∧ wx = w26)
    case first =>
      have c_y := fun j => cell_of_row _ _ j _ _ _ (hB26.get 0 rfl)
      have z_y := hB26.lt 0 rfl
      have c_x := fun j => cell_of_row _ _ j _ _ _ (hB26.get 1 rfl)
      have z_x := hB26.lt 1 rfl
      have t1 : (dn == dn) = true := by simp
      have t2 : (dn != dn) = false := by simp
      rcases X1.out with rfl | rfl
      · rcases X2.out with rfl | rfl
        · obtain rfl := XE.out rfl rfl
          (go_wp2_with fail; go_meet; exact ⟨rfl, rfl⟩)
        · (go_wp2_with fail; go_meet; exact ⟨rfl, rfl⟩)
      · (go_wp2_with fail; go_meet; exact ⟨rfl, rfl⟩)
    case rest =>
      as_aux_lemma =>
      obtain ⟨rfl, rfl⟩ := hcut
      have XM := Lib.hid (same_mark (v := v) HK.out O.out.2.1 O.out.2.2.2.1 (by have := O.out.2.2.2.2; grind))
      have YC := Lib.hid (markC_codes (v := v) HNO.out O.out.2.1 O.out.2.2.2.1 (by have := O.out.2.2.2.2; have e : (K.norm.len : Rat) = (K.len : Rat) := rfl; grind))
      clear X1 X2 XE HVK HVN HDK HDN
      obtain ⟨p, hp⟩ : ∃ q, q = K.mark a v := ⟨_, rfl⟩
      obtain ⟨pc, hpc⟩ : ∃ q, q = K.markC a v := ⟨_, rfl⟩
      obtain ⟨q, hq⟩ : ∃ q, q = K.norm.mark a v := ⟨_, rfl⟩
      obtain ⟨qc, hqc⟩ : ∃ q, q = K.norm.markC a v := ⟨_, rfl⟩
      rw [← hp, ← hpc] at HMK
      rw [← hq, ← hqc] at HMN
      rw [← hp, ← hpc, ← hq, ← hqc] at XM
      rw [← hqc] at YC
      clear hp hpc hq hqc
      have c_v := fun j => cell_of_row _ _ j _ _ _ (hB26.get 4 rfl)
      have z_v := hB26.lt 4 rfl
      have c_a := fun j => cell_of_row _ _ j _ _ _ (hB26.get 6 rfl)
      have z_a := hB26.lt 6 rfl
      have c_K := fun j => cell_of_row _ _ j _ _ _ (hB26.get 7 rfl)
      have z_K := hB26.lt 7 rfl
      go_wp2_with fail
      refine (HMK.out _ hB26.below).mono ?_
      rintro e w61 ⟨rfl, hb⟩
      have hB61 := hB26.next hb
      have hN := hN.next hb
      clear c_v z_v c_a z_a c_K z_K hb hB26
      go_upto_region 19 with fail
      have hB62 := hB61.new rfl (rB p)
      have hN := hN.next (one_alloc w61 (rB p))
      clear hB61
      generalize w61.heap.size = gP at *
      generalize w61.alloc _ = w62 at *
      have c_n := fun j => cell_of_row _ _ j _ _ _ (hB62.get 4 rfl)
      have z_n := hB62.lt 4 rfl
      have c_v := fun j => cell_of_row _ _ j _ _ _ (hB62.get 5 rfl)
      have z_v := hB62.lt 5 rfl
      have c_a := fun j => cell_of_row _ _ j _ _ _ (hB62.get 7 rfl)
      have z_a := hB62.lt 7 rfl
      go_wp2_with fail
      refine (HMN.out A1 c1 R1 d1 _ hN).mono ?_
      rintro e w63 ⟨rfl, hb⟩
      have hB63 := hB62.next hb
      have hN := hN.next hb
      clear c_n z_n c_v z_v c_a z_a hb hB62
      go_upto_region 20 with fail
      have hB64 := hB63.new rfl (rB q)
      have hN := hN.next (one_alloc w63 (rB q))
      clear hB63
      generalize w63.heap.size = gQ at *
      generalize w63.alloc _ = w64 at *
      go_cut [177] (fun s wx => s = .bool false ∧ wx = w64)
      case first =>
        have c_q := fun j => cell_of_row _ _ j _ _ _ (hB64.get 0 rfl)
        have z_q := hB64.lt 0 rfl
        have c_p := fun j => cell_of_row _ _ j _ _ _ (hB64.get 1 rfl)
        have z_p := hB64.lt 1 rfl
        rcases XM.out with ⟨rfl, rfl, rfl⟩ | ⟨rfl, rfl⟩ | ⟨rfl, rfl⟩ | rfl | ⟨rfl, rfl | rfl⟩
        · (go_wp2_with fail; go_meet; exact ⟨rfl, rfl⟩)
        · (go_wp2_with fail; go_meet; exact ⟨rfl, rfl⟩)
        · (go_wp2_with fail; go_meet; exact ⟨rfl, rfl⟩)
        · rcases YC.out with rfl | rfl | rfl | rfl
          · (go_wp2_with fail; go_meet; exact ⟨rfl, rfl⟩)
          · (go_wp2_with fail; go_meet; exact ⟨rfl, rfl⟩)
          · (go_wp2_with fail; go_meet; exact ⟨rfl, rfl⟩)
          · (go_wp2_with fail; go_meet; exact ⟨rfl, rfl⟩)
        · (go_wp2_with fail; go_meet; exact ⟨rfl, rfl⟩)
        · (go_wp2_with fail; go_meet; exact ⟨rfl, rfl⟩)
      case rest =>
        as_aux_lemma =>
        obtain ⟨rfl, rfl⟩ := hcut
        clear XM YC HMK HMN hN
        obtain ⟨pt, hpt⟩ : ∃ q, q = K.part? f t := ⟨_, rfl⟩
        obtain ⟨sc, hsc⟩ : ∃ q, q = K.partC f t := ⟨_, rfl⟩
        rw [← hpt, ← hsc] at HPK
        have HSC := Lib.hid hsc
        have HPT := Lib.hid hpt
        clear hpt hsc
        have HPC := Lib.hid (show K.partC f t = if K.pArg f t then 2 else if (K.part f t).code ≠ 0 then 6 else 0 by unfold Ck.partC; rw [if_neg (by have := HK.out.code; omega)])
        have c_K := fun j => cell_of_row _ _ j _ _ _ (hB64.get 9 rfl)
        have z_K := hB64.lt 9 rfl
        go_wp2_with fail
        refine Calls.mono (HPK.out _ hB64.below) ?_
        intro e w91 hkr
        obtain ⟨A3, c3, R3, d3, rfl, hR, hb⟩ := hkr.split
        have hB91 := hB64.next hb
        clear c_K z_K hb hkr hB64
        go_upto_region 23 with fail
        have hB92 := hB91.new rfl (cB A3 c3 R3 d3 pt)
        have hR := hR.next (one_alloc w91 (cB A3 c3 R3 d3 pt))
        clear hB91
        generalize w91.heap.size = gR at *
        generalize w91.alloc _ = w92 at *
        by_cases hpa : K.pArg f t
        · obtain rfl : sc = 2 := by rw [HSC.out, HPC.out, if_pos hpa]
          clear hR
          have c_K := fun j => cell_of_row _ _ j _ _ _ (hB92.get 10 rfl)
          have z_K := hB92.lt 10 rfl
          rcases hpa with h1 | h1 | h1
          · have a1 : decide (f < 0) = true := by simpa using h1
            go_wp2_with fail
            refine (alive_any _).mono ?_
            rintro e w93 ⟨rfl, hb⟩
            have hB93 := hB92.next hb
            clear c_K z_K hb hB92
            have HE := Lib.hid hB93.below
            clear hB93
            go_wp2_with fail
            go_ret
            exact ⟨rfl, HE.out⟩
          · by_cases h0 : f < 0
            · have a1 : decide (f < 0) = true := by simpa using h0
              have a2 : decide (K.len < t) = true := by simpa using h1
              go_wp2_with fail
              refine (alive_any _).mono ?_
              rintro e w93 ⟨rfl, hb⟩
              have hB93 := hB92.next hb
              clear c_K z_K hb hB92
              have HE := Lib.hid hB93.below
              clear hB93
              go_wp2_with fail
              go_ret
              exact ⟨rfl, HE.out⟩
            · have a1 : decide (f < 0) = false := by simpa using h0
              have a2 : decide (K.len < t) = true := by simpa using h1
              go_wp2_with fail
              refine (alive_any _).mono ?_
              rintro e w93 ⟨rfl, hb⟩
              have hB93 := hB92.next hb
              clear c_K z_K hb hB92
              have HE := Lib.hid hB93.below
              clear hB93
              go_wp2_with fail
              go_ret
              exact ⟨rfl, HE.out⟩
          · by_cases h0 : f < 0
            · have a1 : decide (f < 0) = true := by simpa using h0
              go_wp2_with fail
              refine (alive_any _).mono ?_
              rintro e w93 ⟨rfl, hb⟩
              have hB93 := hB92.next hb
              clear c_K z_K hb hB92
              have HE := Lib.hid hB93.below
              clear hB93
              go_wp2_with fail
              go_ret
              exact ⟨rfl, HE.out⟩
            by_cases h2 : K.len < t
            · have a1 : decide (f < 0) = false := by simpa using h0
              have a2 : decide (K.len < t) = true := by simpa using h2
              go_wp2_with fail
              refine (alive_any _).mono ?_
              rintro e w93 ⟨rfl, hb⟩
              have hB93 := hB92.next hb
              clear c_K z_K hb hB92
              have HE := Lib.hid hB93.below
              clear hB93
              go_wp2_with fail
              go_ret
              exact ⟨rfl, HE.out⟩
            have a1 : decide (f < 0) = false := by simpa using h0
            have a2 : decide (K.len < t) = false := by simpa using h2
            have a3 : decide (t ≤ f) = true := by simpa using h1
            go_wp2_with fail
            refine (alive_any _).mono ?_
            rintro e w93 ⟨rfl, hb⟩
            have hB93 := hB92.next hb
            clear c_K z_K hb hB92
            have HE := Lib.hid hB93.below
            clear hB93
            go_wp2_with fail
            go_ret
            exact ⟨rfl, HE.out⟩
        have HNP := Lib.hid hpa
        have a1 : decide (f < 0) = false := by simp; unfold Ck.pArg at hpa; omega
        have a2 : decide (K.len < t) = false := by simp; unfold Ck.pArg at hpa; omega
        have a3 : decide (t ≤ f) = false := by simp; unfold Ck.pArg at hpa; omega
        have HSC2 := Lib.hid (show sc = if (K.part f t).code ≠ 0 then 6 else 0 by rw [HSC.out, HPC.out, if_neg hpa])
        clear hpa
        by_cases hz : (K.part f t).code ≠ 0
        · obtain rfl : sc = 6 := by rw [HSC2.out, if_pos hz]
          clear hR hz
          have c_K := fun j => cell_of_row _ _ j _ _ _ (hB92.get 10 rfl)
          have z_K := hB92.lt 10 rfl
          go_wp2_with fail
          refine (alive_any _).mono ?_
          rintro e w93 ⟨rfl, hb⟩
          have hB93 := hB92.next hb
          clear c_K z_K hb hB92
          have HE := Lib.hid hB93.below
          clear hB93
          go_wp2_with fail
          go_ret
          exact ⟨rfl, HE.out⟩
        obtain rfl : sc = 0 := by rw [HSC2.out, if_neg hz]
        have HPE := Lib.hid (show pt = K.part f t by rw [HPT.out]; unfold Ck.part?; rw [if_pos HSC.out.symm])
        obtain rfl := HPE.out
        clear a1 a2 a3
        have HZC := Lib.hid (show (K.part f t).code = 0 by omega)
        have HT := ctotal_any (K.part f t) A3 c3 R3 d3 _ hR
        rw [show (K.part f t).tot = (K.part f t).total by unfold Ck.tot; rw [if_pos HZC.out], HZC.out] at HT
        have PV := Lib.hid (part_val HK.out HNP.out)
        have FB := Lib.hid (show 0 ≤ f ∧ f ≤ 1000 ∧ 0 ≤ t ∧ t ≤ 1000 ∧ f < t by have := HNP.out; unfold Ck.pArg at this; have := HK.out.l2; omega)
        have HV3 := Lib.hid (HV2.out (len_ok (by have := FB.out; omega) (by have := FB.out; omega)).wf (len_ok (by have := FB.out; omega) (by have := FB.out; omega)).wf)
        rw [PV.out.1, PV.out.2] at HV3
        have HPL := Lib.hid (show (K.part f t).len = t - f from rfl)
        clear hz
        have c_r := fun j => cell_of_row _ _ j _ _ _ (hB92.get 0 rfl)
        have z_r := hB92.lt 0 rfl
        go_wp2_with fail
        refine (HT).mono ?_
        rintro e w93 ⟨rfl, hb⟩
        have hB93 := hB92.next hb
        have hR := hR.next hb
        clear c_r z_r hb hB92
        clear HT hR
        obtain ⟨tt, htt⟩ : ∃ q, q = (K.part f t).total := ⟨_, rfl⟩
        rw [← htt] at HV3 ⊢
        clear htt
        go_upto_region 26 with fail
        refine wp_region_flow 12 (by kernel_rfl) (by rfl) (fun wq hbq => ?_)
        have hB94q := hB93.next hbq
        clear hB93
        refine wpAnyE_go (w0 := wq) (w1 := wq) (X := []) (fun _ h => h) (RK.start _) [0, 1, 2, 3, 4, 5, 6, 7, 8] 3 (by kernel_rfl) ?_
        apply Exists.intro
        refine ⟨fun G hG hN => ?_, ?_⟩
        · have c_K := fun (e : GE (RK wq wq []) G) j => cell_of_row e.w _ j _ _ _ ((hB94q.next (RK.b (GE.h e))).get 10 rfl)
          have z_K := fun (e : GE (RK wq wq []) G) => ((hB94q.next (RK.b (GE.h e))).lt 10 rfl)
          simp only [pickOps, List.getElem?_toArray, List.getElem?_cons_zero, List.getElem?_cons_succ]
          repeat (first | go_big_quiet_step ((first | (go_at_call 36; exact calls_ge (RK.grows _ _ _) hG (lof_any _ _)) | (go_at_call 33; exact calls_ge (RK.grows _ _ _) hG (HV3.out _ ((hB94q.next (RK.b (GE.h _))).below))))) | quiet_step ((first | (go_at_call 36; exact calls_ge (RK.grows _ _ _) hG (lof_any _ _)) | (go_at_call 33; exact calls_ge (RK.grows _ _ _) hG (HV3.out _ ((hB94q.next (RK.b (GE.h _))).below))))))
          exact wpQuiet_nil rfl
        refine wpAnyE_all (rs := [9]) (by kernel_rfl) (by simp) (fun Wa hWa hRWa i hi => ?_)
        obtain rfl := List.mem_singleton.1 hi
        refine wpOp_step rfl (fun K hK => ?_)
        go_simp
        refine hK _ _ ⟨hRWa.grow (one_alloc _ _), ?_⟩
        clear hK K
        have hxa := heap_new (w := Wa) (o := rB ⟨0, 0⟩) rfl
        have hza : wq.heap.size ≤ Wa.heap.size := hRWa.b.size
        refine wpAnyE_all (rs := [10]) (by kernel_rfl) (by simp) (fun Wb hWb hRWb i hi => ?_)
        obtain rfl := List.mem_singleton.1 hi
        have hxb := heap_ext hxa hWb
        have ck := fun j => cell_of_row _ _ j _ _ _ hxb
        have fk := fun j => frozen_of_row _ _ j _ _ hxb
        have zk := lt_some hxb
        refine wpOp_step rfl (fun K hK => ?_)
        go_simp
        refine hK _ _ ⟨(hRWb.set hza (Or.inr hza)).set hza (Or.inr hza), ?_⟩
        clear hK K
        clear ck fk zk
        have hxc := heap_set (j := 1) (u := .int .i64 ((⟨tt, 1⟩ : Rt)).d) (heap_set (j := 0) (u := .int .i64 ((⟨tt, 1⟩ : Rt)).n) hxb)
        have hsc := (hRWb.set hza (Or.inr hza) (j := 0) (u := .int .i64 ((⟨tt, 1⟩ : Rt)).n)).set hza (Or.inr hza) (j := 1) (u := .int .i64 ((⟨tt, 1⟩ : Rt)).d)
        generalize (Wb.setCell _ _).setCell _ _ = Wd at *
        refine wpAnyE_go (w0 := wq) (w1 := Wd) (X := []) (RK.move hsc (by simp)) (RK.here hsc) [11] 0 (by kernel_rfl) ?_
        apply Exists.intro
        refine ⟨fun G hG hN => ?_, ?_⟩
        · simp only [pickOps, List.getElem?_toArray, List.getElem?_cons_zero, List.getElem?_cons_succ]
          repeat (first | go_big_quiet_step (fail) | quiet_step (fail))
          exact wpQuiet_nil rfl
        refine wpAnyE_done (by kernel_rfl) (fun Wc hWc hRWc => ?_) _
        refine NoPanic.normal ?_
        have hB94 : Bx w ((Wa.heap.size, rB ((⟨tt, 1⟩ : Rt))) :: _) Wc := hB94q.add hRWc.b hza (heap_ext hxc hWc)
        clear hB94q hxa hxb hxc hWb hWc hRWa hRWb hRWc hza hWa hbq
        generalize Wa.heap.size = gW at *
        generalize Wc = w94 at *
        have t1 : (tt == tt) = true := by simp
        have x1 : IntKind.i64.wrap (t - f) = t - f := IntWalk.i64_in _ (by have := FB.out; omega)
        have t3 : (t - f == t - f) = true := by simp
        have t4 : ((K.part f t).len == t - f) = true := by rw [HPL.out]; simp
        have c_w := fun j => cell_of_row _ _ j _ _ _ (hB94.get 0 rfl)
        have z_w := hB94.lt 0 rfl
        have c_r := fun j => cell_of_row _ _ j _ _ _ (hB94.get 1 rfl)
        have z_r := hB94.lt 1 rfl
        go_wp2_with fail
        refine wp_region_ext (by kernel_rfl) (by kernel_rfl) ?_
        repeat (first | go_big_quiet_step ((first | (go_at_call 36; exact calls_ext (lof_any _ _)) | (go_at_call 31; exact calls_ext (alive_any _)))) | quiet_step ((first | (go_at_call 36; exact calls_ext (lof_any _ _)) | (go_at_call 31; exact calls_ext (alive_any _)))))
        refine wpQuiet_nil ?_
        rintro _ ⟨⟨w95, hb⟩, rfl⟩
        have hB95 := hB94.next hb
        clear c_w z_w c_r z_r hb hB94
        have HE := Lib.hid hB95.below
        clear hB95
        go_wp2_with fail
        go_ret
        exact ⟨rfl, HE.out⟩
end Go.Proofs.Ytgcbmnohhbcfiaa
