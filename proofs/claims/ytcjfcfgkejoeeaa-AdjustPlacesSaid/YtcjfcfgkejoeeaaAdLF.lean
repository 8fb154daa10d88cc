/- AdjustFair returns true for every goods and division. -/
import Derived.Test.YtcjfcfgkejoeeaaAdLO
import Derived.Test.YtcjfcfgkejoeeaaAdG
import Derived.Test.YtcjfcfgkejoeeaaRfD
namespace Go.Proofs.Ytcjfcfgkejoeeaa
open Go.RowKit Go.Deep
set_option linter.unusedVariables false
set_option linter.unusedSimpArgs false

theorem ltB_of {a b : Rt} (ha : a.Ok) (hb : b.Ok) (h : a.n * b.d < b.n * a.d) : ltB a b = true := by unfold ltB; exact decide_eq_true ((lt_q ha hb).1 h)
/-- Values of a valid division. -/
theorem values_ok (bs : List (List Int)) (A : Option Addr) (c : Nat) (d : Pt) (O : Option Addr) (oc : Nat) (w : World) (h : GIn w.heap.size w A c bs) (hp : PIn w.heap.size w O oc d) (hd : d.code bs = 0) :
    Calls Try.prog 10 #[gV A c bs, pV O oc d] w fun e w' => e = .returned (.tuple #[rV (d.val bs 0), rV (d.val bs 1), .int .i64 0]) ∧ Below w.heap.size w w' := by
  have := avalues_any bs A c d O oc w h hp
  rw [hd] at this
  exact this
theorem tot_small {bs : List (List Int)} (h : AdOk bs (num bs)) : 0 ≤ tot (gr bs 0) ∧ tot (gr bs 0) ≤ 10000 := by
  have := sumTo_bd (f := gi (gr bs 0)) (lo := 0) (hi := 1000) (k := (gr bs 0).length) (fun k hk => h.v0 k (by rw [h.l0] at hk; exact hk))
  have := h.n10
  unfold tot
  rw [h.l0] at *
  omega

set_option maxRecDepth 100000 in
set_option maxHeartbeats 8000000 in
theorem fair_walk (bs : List (List Int)) (A : Option Addr) (c : Nat) (d : Pt) (P : Option Addr) (pc : Nat) (w : World) (h : GIn w.heap.size w A c bs) (hp : PIn w.heap.size w P pc d) :
    Calls Try.prog 6 #[gV A c bs, pV P pc d] w fun e w' => e = .returned (.bool true) ∧ Below w.heap.size w w' := by
  have HBel0 := Lib.hid (show Below w.heap.size w ((w.alloc (gB A c bs)).alloc (pB P pc d)) from (one_alloc w _).alloc (by simp) _)
  have hg0 : ((w.alloc (gB A c bs)).alloc (pB P pc d)).heap[w.heap.size]? = some (gB A c bs) := heap_old (heap_new rfl)
  have hp0 : ((w.alloc (gB A c bs)).alloc (pB P pc d)).heap[w.heap.size + 1]? = some (pB P pc d) := heap_new (by simp)
  have HB := Lib.hid h
  have HP := Lib.hid hp
  obtain ⟨fb, hfb⟩ : ∃ b, b = fitB bs := ⟨_, rfl⟩
  have HFI := Lib.hid (fun (W : World) (hW : Below w.heap.size w W) => hfb ▸ fit_any bs A c W (h.next hW))
  have HFB := Lib.hid hfb
  have hlen := Nat.le_trans hp.len hp.cap
  unfold maxLen at hlen
  clear h hfb hp
  go_enter Try.func6, Try.ntmps6
  try dsimp only [List.append]
  go_wp2_with fail
  refine (alive_any _).mono ?_
  rintro e w1 ⟨rfl, hb1⟩
  have HB1 := Lib.hid (bcall HBel0.out HBel0.out.size hb1)
  have hg1 := heap_ext hg0 hb1
  have hp1 := heap_ext hp0 hb1
  clear hg0 hp0 hb1
  have cg := fun j => cell_of_row _ _ j _ _ _ hg1
  go_wp2_with fail
  refine (HFI.out _ HB1.out).mono ?_
  rintro e w2 ⟨rfl, hb2⟩
  have HB2 := Lib.hid (bcall HB1.out HB1.out.size hb2)
  have hg2 := heap_ext hg1 hb2
  have hp2 := heap_ext hp1 hb2
  clear cg hg1 hp1 hb2
  have cg := fun j => cell_of_row _ _ j _ _ _ hg2
  cases fb with
  | false =>
    go_wp2_with fail
    go_ret
    exact ⟨rfl, HB2.out⟩
  | true =>
  have hc := fit_code HFB.out.symm
  have HC := Lib.hid hc
  have HK := Lib.hid (show AdOk bs (num bs) from ad_ok hc)
  clear hc HFI HFB
  have HDV := Lib.hid (fun (W : World) (hW : Below w.heap.size w W) => adivide_any bs A c W (HB.out.next hW))
  go_wp2_with fail
  refine (HDV.out _ HB2.out).mono ?_
  rintro e w3 ⟨O, oc, D, rfl, hP3, hD, _, hb3⟩
  have hD := hD HC.out
  have HDE := Lib.hid hD
  have HP4 := Lib.hid (hP3.next (one_alloc w3 (pB O oc D)))
  have HB4 := Lib.hid ((bcall HB2.out HB2.out.size hb3).alloc (bcall HB2.out HB2.out.size hb3).size (pB O oc D))
  have hg4 := heap_old (o' := pB O oc D) (heap_ext hg2 hb3)
  have hp4 := heap_old (o' := pB O oc D) (heap_ext hp2 hb3)
  have hd4 : (w3.alloc (pB O oc D)).heap[w3.heap.size]? = some (pB O oc D) := heap_new rfl
  rw [HC.out]
  clear cg hg2 hp2 hb3 hP3 hD HDV HB2
  go_upto_region 5 with fail
  generalize w3.heap.size = g6 at *
  generalize w3.alloc _ = w4 at *
  have HCD := Lib.hid (show D.code bs = 0 by rw [HDE.out]; exact divP_code HC.out)
  obtain ⟨X, hX⟩ : ∃ X, X = D.val bs 0 := ⟨_, rfl⟩
  have hX1 : D.val bs 1 = X := by rw [hX, HDE.out]; exact (divP_val HC.out).symm
  have HXO := Lib.hid (show X.Ok by rw [hX]; exact (val_ok (n := num bs) (ptOk HCD.out) (show 0 < 2 by omega)).1)
  have HXD := Lib.hid (show X.d ≤ 2000 by rw [hX, HDE.out]; exact val_den HC.out)
  have HXH := Lib.hid (show tot (gr bs 0) * X.d ≤ 2 * X.n by rw [hX, HDE.out]; exact half_val HC.out)
  have HVA := Lib.hid (fun (W : World) (hW : Below w4.heap.size w4 W) => hX1 ▸ hX.symm ▸ values_ok bs A c D O oc W (HB.out.next (bcall HB4.out HB4.out.size hW)) (HP4.out.next hW) HCD.out)
  have HFX := Lib.hid (fun (e : Pt) (he : e.code bs = 0) => show (e.val bs 0).n * X.d < X.n * (e.val bs 0).d ∨ (e.val bs 1).n * X.d < X.n * (e.val bs 1).d ∨ (e.val bs 0 = X ∧ e.val bs 1 = X) from by
    have := fair_vals HC.out he
    rwa [← HDE.out, hX1, ← hX] at this)
  have HV0 := Lib.hid (fun (W : World) (hW : Below w4.heap.size w4 W) => hX.symm ▸ fvalue0_any bs A c D O oc (num bs) W (HB.out.next (bcall HB4.out HB4.out.size hW)) (HP4.out.next hW) (ptOk HCD.out))
  have HV1 := Lib.hid (fun (W : World) (hW : Below w4.heap.size w4 W) => hX1 ▸ fvalue1_any bs A c D O oc (num bs) W (HB.out.next (bcall HB4.out HB4.out.size hW)) (HP4.out.next hW) (ptOk HCD.out))
  have HFV := Lib.hid (fun (W : World) (hW : Below w4.heap.size w4 W) => show Calls Try.prog 13 #[gV A c bs, pV O oc D] W (fun e w' => e = .returned (.int .i64 0) ∧ Below W.heap.size W w') from by
    have := fvalid_any bs A c D O oc W (HB.out.next (bcall HB4.out HB4.out.size hW)) (HP4.out.next hW)
    rw [HCD.out] at this
    exact this)
  have HAL := Lib.hid (fun (W : World) (hW : Below w4.heap.size w4 W) => show Calls Try.prog 27 #[gV A c bs, .int .i64 0] W (fun e w' => e = .returned (.int .i64 (tot (gr bs 0))) ∧ Below W.heap.size W w') from by
    obtain ⟨q1, q2, q3, q4⟩ := gd_ok HK.out.gd
    exact all_any bs A c 0 W (HB.out.next (bcall HB4.out HB4.out.size hW)) q1 (q4 0 q1) q3)
  have HTT := Lib.hid (tot_small HK.out)
  clear hX hX1
  obtain ⟨T, hT⟩ : ∃ T, T = tot (gr bs 0) := ⟨_, rfl⟩
  rw [← hT] at HXH HAL HTT
  clear hT
  have cg := fun j => cell_of_row _ _ j _ _ _ hg4
  have cd := fun j => cell_of_row _ _ j _ _ _ hd4
  have zd := lt_some hd4
  go_wp2_with fail
  refine (HVA.out _ (Below.refl _ _)).mono ?_
  rintro e w5 ⟨rfl, hb5⟩
  have b5 := bcall HB4.out HB4.out.size hb5
  have HB6 := Lib.hid ((b5.alloc b5.size (rB X)).alloc (by have := b5.size; simp; omega) (rB X))
  have HS6 := Lib.hid (show Below w4.heap.size w4 ((w5.alloc (rB X)).alloc (rB X)) from (hb5.alloc hb5.size _).alloc (by have := hb5.size; simp; omega) _)
  have h8 : ((w5.alloc (rB X)).alloc (rB X)).heap[w5.heap.size]? = some (rB X) := heap_old (heap_new rfl)
  have h9 : ((w5.alloc (rB X)).alloc (rB X)).heap[w5.heap.size + 1]? = some (rB X) := heap_new (by simp)
  have hg6 := heap_old (o' := rB X) (heap_old (o' := rB X) (heap_ext hg4 hb5))
  have hp6 := heap_old (o' := rB X) (heap_old (o' := rB X) (heap_ext hp4 hb5))
  have hd6 := heap_old (o' := rB X) (heap_old (o' := rB X) (heap_ext hd4 hb5))
  clear cg cd zd hb5 b5 hg4 hp4 hd4 HVA
  go_upto_region 6 with fail
  generalize w5.heap.size = g8 at *
  generalize (w5.alloc _).alloc _ = w6 at *
  have hXO := HXO.out
  have x1 := hXO.n0
  have x2 := hXO.n1
  have x3 := hXO.d0
  have x4 := HXD.out
  have x5 := HTT.out
  have x6 := Int.mul_nonneg x5.1 (show 0 ≤ X.d by omega)
  have x6' : T * X.d ≤ 10000 * 2000 := Int.mul_le_mul x5.2 x4 (by omega) (by omega)
  have x7 := HXH.out
  have u1 : IntKind.i64.wrap (2 * X.n) = 2 * X.n := IntWalk.i64_in _ (by omega)
  have u1' : wrap64 (2 * X.n) = 2 * X.n := IntWalk.wrap64_in _ (by omega)
  have u2 : IntKind.i64.wrap (T * X.d) = T * X.d := IntWalk.i64_in _ (by omega)
  have u2' : wrap64 (T * X.d) = T * X.d := IntWalk.wrap64_in _ (by omega)
  have u3 : decide (2 * X.n < T * X.d) = false := by simpa using x7
  have u4 : IntKind.i64.wrap T = T := IntWalk.i64_in _ (by omega)
  have u4' : wrap64 T = T := IntWalk.wrap64_in _ (by omega)
  clear x1 x2 x3 x4 x5 x6 x6' x7 hXO HXH HXD HTT
  have cg := fun j => cell_of_row _ _ j _ _ _ hg6
  have cd := fun j => cell_of_row _ _ j _ _ _ hd6
  have c8 := fun j => cell_of_row _ _ j _ _ _ h8
  have c9 := fun j => cell_of_row _ _ j _ _ _ h9
  have zg := lt_some hg6
  have zd := lt_some hd6
  have z8 := lt_some h8
  have z9 := lt_some h9
  have KV := Lib.hid (fun (W : World) (hW : Below w6.heap.size w6 W) => HFV.out W (bcall HS6.out HS6.out.size hW))
  have K0 := Lib.hid (fun (W : World) (hW : Below w6.heap.size w6 W) => HV0.out W (bcall HS6.out HS6.out.size hW))
  have K1 := Lib.hid (fun (W : World) (hW : Below w6.heap.size w6 W) => HV1.out W (bcall HS6.out HS6.out.size hW))
  have KA := Lib.hid (fun (W : World) (hW : Below w6.heap.size w6 W) => HAL.out W (bcall HS6.out HS6.out.size hW))
  refine wp_region_ext (by kernel_rfl) (by kernel_rfl) ?_
  repeat (first | go_big_quiet_step ((first | (go_at_call 13; exact calls_ext (KV.out _ (Ext.h _))) | (go_at_call 26; first | (with_reducible exact calls_ext (K0.out _ (Ext.h _))) | (with_reducible exact calls_ext (K1.out _ (Ext.h _)))) | (go_at_call 27; exact calls_ext (KA.out _ (Ext.h _))))) | quiet_step ((first | (go_at_call 13; exact calls_ext (KV.out _ (Ext.h _))) | (go_at_call 26; first | (with_reducible exact calls_ext (K0.out _ (Ext.h _))) | (with_reducible exact calls_ext (K1.out _ (Ext.h _)))) | (go_at_call 27; exact calls_ext (KA.out _ (Ext.h _))))))
  refine wpQuiet_nil ?_
  rintro _ ⟨⟨w7, hb7⟩, rfl⟩
  have HB7 := Lib.hid (bcall HB6.out HB6.out.size hb7)
  have hg7 := heap_ext hg6 hb7
  have hp7 := heap_ext hp6 hb7
  have h8 := heap_ext h8 hb7
  have h9 := heap_ext h9 hb7
  clear cg cd c8 c9 zg zd z8 z9 KV K0 K1 KA HFV HV0 HV1 HAL hb7 hg6 hp6 hd6 u1 u1' u2 u2' u3 u4 u4' HS6 HB6
  have cg := fun j => cell_of_row _ _ j _ _ _ hg7
  have cp := fun j => cell_of_row _ _ j _ _ _ hp7
  by_cases hl : 50 < d.ow.length
  · have q : decide ((50 : Int) < (d.ow.length : Int)) = true := by simp; omega
    go_wp2_with fail
    go_ret
    exact ⟨rfl, HB7.out⟩
  have q : decide ((50 : Int) < (d.ow.length : Int)) = false := by simp; omega
  have q' : decide (50 < d.ow.length) = false := by simp; omega
  obtain ⟨cd, hcd⟩ : ∃ cd, cd = d.code bs := ⟨_, rfl⟩
  have HVD := Lib.hid (fun (W : World) (hW : Below w.heap.size w W) => hcd ▸ fvalid_any bs A c d P pc W (HB.out.next hW) (HP.out.next hW))
  have HCE := Lib.hid hcd
  clear hcd
  go_wp2_with fail
  refine (HVD.out _ HB7.out).mono ?_
  rintro e w8 ⟨rfl, hb8⟩
  have HB8 := Lib.hid (bcall HB7.out HB7.out.size hb8)
  have hg8 := heap_ext hg7 hb8
  have hp8 := heap_ext hp7 hb8
  have h8 := heap_ext h8 hb8
  have h9 := heap_ext h9 hb8
  clear cg cp hg7 hp7 hb8 HVD
  have cg := fun j => cell_of_row _ _ j _ _ _ hg8
  have cp := fun j => cell_of_row _ _ j _ _ _ hp8
  by_cases hz : cd = 0
  rotate_left
  · have q2 : (cd != 0) = true := by simpa using hz
    go_wp2_with fail
    go_ret
    exact ⟨rfl, HB8.out⟩
  have q2 : (cd != 0) = false := by simpa using hz
  subst hz
  have HVE := Lib.hid (fun (W : World) (hW : Below w.heap.size w W) => values_ok bs A c d P pc W (HB.out.next hW) (HP.out.next hW) HCE.out.symm)
  have HEQ := Lib.hid (HFX.out d HCE.out.symm)
  have HT := Lib.hid (show PtOk bs d (num bs) from ptOk HCE.out.symm)
  have HU := Lib.hid (val_ok HT.out (show 0 < 2 by omega)).1
  have HV := Lib.hid (val_ok HT.out (show 1 < 2 by omega)).1
  generalize d.val bs 0 = U at *
  generalize d.val bs 1 = V at *
  go_wp2_with fail
  refine (HVE.out _ HB8.out).mono ?_
  rintro e w9 ⟨rfl, hb9⟩
  have b9 := bcall HB8.out HB8.out.size hb9
  have HBA := Lib.hid ((b9.alloc b9.size (rB U)).alloc (by have := b9.size; simp; omega) (rB V))
  have h11 : ((w9.alloc (rB U)).alloc (rB V)).heap[w9.heap.size]? = some (rB U) := heap_old (heap_new rfl)
  have h12 : ((w9.alloc (rB U)).alloc (rB V)).heap[w9.heap.size + 1]? = some (rB V) := heap_new (by simp)
  have h8 := heap_old (o' := rB V) (heap_old (o' := rB U) (heap_ext h8 hb9))
  have h9 := heap_old (o' := rB V) (heap_old (o' := rB U) (heap_ext h9 hb9))
  clear cg cp hg8 hp8 hb9 b9 HVE
  go_upto_region 11 with fail
  generalize w9.heap.size = g11 at *
  generalize (w9.alloc _).alloc _ = wA at *
  have c8 := fun j => cell_of_row _ _ j _ _ _ h8
  have c9 := fun j => cell_of_row _ _ j _ _ _ h9
  have c11 := fun j => cell_of_row _ _ j _ _ _ h11
  have c12 := fun j => cell_of_row _ _ j _ _ _ h12
  have z8 := lt_some h8
  have z9 := lt_some h9
  have z11 := lt_some h11
  have z12 := lt_some h12
  obtain ⟨lu, hlu⟩ : ∃ b, b = ltB U X := ⟨_, rfl⟩
  obtain ⟨lv, hlv⟩ : ∃ b, b = ltB V X := ⟨_, rfl⟩
  have HLU := Lib.hid (fun (W : World) => hlu ▸ flt_any U X HU.out HXO.out W)
  have HLV := Lib.hid (fun (W : World) => hlv ▸ flt_any V X HV.out HXO.out W)
  have HCA := Lib.hid (show lu = true ∨ lv = true ∨ (U = X ∧ V = X) from by
    rcases HEQ.out with k | k | k
    · exact Or.inl (hlu.trans (ltB_of HU.out HXO.out k))
    · exact Or.inr (Or.inl (hlv.trans (ltB_of HV.out HXO.out k)))
    · exact Or.inr (Or.inr k))
  clear hlu hlv HEQ
  go_wp2_with fail
  refine (HLU.out _).mono ?_
  rintro e wB ⟨rfl, hbB⟩
  have HBB := Lib.hid (bcall HBA.out HBA.out.size hbB)
  have h8 := heap_ext h8 hbB
  have h9 := heap_ext h9 hbB
  have h11 := heap_ext h11 hbB
  have h12 := heap_ext h12 hbB
  clear c8 c9 c11 c12 z8 z9 z11 z12 hbB
  have c8 := fun j => cell_of_row _ _ j _ _ _ h8
  have c9 := fun j => cell_of_row _ _ j _ _ _ h9
  have c11 := fun j => cell_of_row _ _ j _ _ _ h11
  have c12 := fun j => cell_of_row _ _ j _ _ _ h12
  have z8 := lt_some h8
  have z9 := lt_some h9
  have z11 := lt_some h11
  have z12 := lt_some h12
  cases lu with
  | true =>
    go_wp2_with fail
    go_ret
    exact ⟨rfl, HBB.out⟩
  | false =>
  go_wp2_with fail
  refine (HLV.out _).mono ?_
  rintro e wC ⟨rfl, hbC⟩
  have HBC := Lib.hid (bcall HBB.out HBB.out.size hbC)
  have h8 := heap_ext h8 hbC
  have h9 := heap_ext h9 hbC
  have h11 := heap_ext h11 hbC
  have h12 := heap_ext h12 hbC
  clear c8 c9 c11 c12 z8 z9 z11 z12 hbC
  cases lv with
  | true =>
    go_wp2_with fail
    go_ret
    exact ⟨rfl, HBC.out⟩
  | false =>
  obtain ⟨rfl, rfl⟩ : U = X ∧ V = X := by
    rcases HCA.out with k | k | k
    · cases k
    · cases k
    · exact k
  have c8 := fun j => cell_of_row _ _ j _ _ _ h8
  have c9 := fun j => cell_of_row _ _ j _ _ _ h9
  have c11 := fun j => cell_of_row _ _ j _ _ _ h11
  have c12 := fun j => cell_of_row _ _ j _ _ _ h12
  have z8 := lt_some h8
  have z9 := lt_some h9
  have z11 := lt_some h11
  have z12 := lt_some h12
  go_wp2_with fail
  go_ret
  exact ⟨rfl, HBC.out⟩
end Go.Proofs.Ytcjfcfgkejoeeaa
