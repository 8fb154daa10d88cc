/- AdjustOrder returns true for every goods and two numbers. -/
import Derived.Test.YtcjfcfgkejoeeaaAdAl
import Derived.Test.YtcjfcfgkejoeeaaAdE
namespace Go.Proofs.Ytcjfcfgkejoeeaa
open Go.RowKit Go.Deep
set_option linter.unusedVariables false
set_option linter.unusedSimpArgs false

theorem fit_code {bs : List (List Int)} (h : fitB bs = true) : adCode bs = 0 := by
  unfold fitB at h
  simp only [Bool.and_eq_true, decide_eq_true_eq] at h
  exact h.2
/-- The two rows of goods that can be divided, in any world that has grown. -/
theorem rows2 {bs : List (List Int)} {A : Option Addr} {c : Nat} {w : World} (h : GIn w.heap.size w A c bs) (hk : AdOk bs (num bs)) (hn : 0 < num bs) :
    ∃ (bd : Addr) (r0 r1 : Addr) (c0 c1 : Nat), A = some bd ∧ (bd.block < w.heap.size ∧ r0.block < w.heap.size ∧ r1.block < w.heap.size) ∧ ∀ W, Below w.heap.size w W → W.cell? bd = some (.slice (some r0) (num bs) c0) ∧ W.cell? ⟨bd.block, bd.off + 1, none⟩ = some (.slice (some r1) (num bs) c1)
      ∧ (∀ i, i < num bs → W.cell? (r0.add i) = some (.int .i64 (gi (gr bs 0) i))) ∧ (∀ i, i < num bs → W.cell? (r1.add i) = some (.int .i64 (gi (gr bs 1) i))) := by
  have two := hk.two
  have l0 := hk.l0; have l1 := hk.l1
  obtain ⟨bd, R0, c0, rfl, hb0, hc0, _, _, hi0⟩ := h.at0 (by omega)
  obtain ⟨bd', R1, c1, hA, hb1, hc1, _, _, hi1⟩ := h.at1 (by omega)
  obtain rfl : bd = bd' := by simpa using hA
  obtain ⟨r0, rfl, q0, _⟩ := hi0.at_ (show 0 < _ by omega)
  obtain ⟨r1, rfl, q1, _⟩ := hi1.at_ (show 0 < _ by omega)
  refine ⟨bd, r0, r1, c0, c1, rfl, ⟨hb0, q0, q1⟩, fun W hb => ⟨(hb.cell hb0).trans (l0 ▸ hc0), (hb.cell (p := ⟨bd.block, bd.off + 1, none⟩) hb0).trans (l1 ▸ hc1), fun i hi => ?_, fun i hi => ?_⟩⟩
  · obtain ⟨r, e, q, k⟩ := hi0.at_ (show i < _ by omega)
    obtain rfl : r0 = r := by simpa using e
    exact (hb.cell (by rw [block_add]; exact q)).trans k
  · obtain ⟨r, e, q, k⟩ := hi1.at_ (show i < _ by omega)
    obtain rfl : r1 = r := by simpa using e
    exact (hb.cell (by rw [block_add]; exact q)).trans k
theorem num_pos {bs : List (List Int)} (hk : AdOk bs (num bs)) : 0 < num bs := by
  rcases Nat.eq_zero_or_pos (num bs) with e | e
  · exfalso
    refine hk.t0 ?_
    unfold tot
    rw [hk.l0, e]; rfl
  · exact e

set_option maxRecDepth 100000 in
set_option maxHeartbeats 8000000 in
theorem order_walk (bs : List (List Int)) (A : Option Addr) (c : Nat) (j k : Int) (w : World) (h : GIn w.heap.size w A c bs) (wj : (Lit.int .i64 j).wf = true) (wk : (Lit.int .i64 k).wf = true) :
    Calls Try.prog 8 #[gV A c bs, .int .i64 j, .int .i64 k] w fun e w' => e = .returned (.bool true) ∧ Below w.heap.size w w' := by
  have HBel0 := Lib.hid (one_alloc w (gB A c bs))
  have hg0 : (w.alloc (gB A c bs)).heap[w.heap.size]? = some (gB A c bs) := heap_new rfl
  have HB := Lib.hid h
  obtain ⟨fb, hfb⟩ : ∃ b, b = fitB bs := ⟨_, rfl⟩
  have HFI := Lib.hid (fun (W : World) (hW : Below w.heap.size w W) => hfb ▸ fit_any bs A c W (h.next hW))
  have HDV := Lib.hid (fun (W : World) (hW : Below w.heap.size w W) => adivide_any bs A c W (h.next hW))
  have HFB := Lib.hid hfb
  clear h hfb wj wk
  go_enter Try.func8, Try.ntmps8
  try dsimp only [List.append]
  go_wp2_with fail
  refine (alive_any _).mono ?_
  rintro e w1 ⟨rfl, hb1⟩
  have HB1 := Lib.hid (bcall HBel0.out HBel0.out.size hb1)
  have hg1 := heap_ext hg0 hb1
  clear hg0 hb1
  have cg := fun j => cell_of_row _ _ j _ _ _ hg1
  go_wp2_with fail
  refine (HFI.out _ HB1.out).mono ?_
  rintro e w2 ⟨rfl, hb2⟩
  have HB2 := Lib.hid (bcall HB1.out HB1.out.size hb2)
  have hg2 := heap_ext hg1 hb2
  clear cg hg1 hb2
  have cg := fun j => cell_of_row _ _ j _ _ _ hg2
  cases fb with
  | false =>
    clear HFI HDV
    go_wp2_with fail
    go_ret
    exact ⟨rfl, HB2.out⟩
  | true =>
  have hc := fit_code HFB.out.symm
  have HC := Lib.hid hc
  have HK := Lib.hid (show AdOk bs (num bs) from ad_ok hc)
  have n0 := num_pos HK.out
  obtain ⟨bd, r0, r1, c0, c1, rfl, ⟨zb, zr0, zr1⟩, hW⟩ := rows2 HB.out HK.out n0
  have two := HK.out.two
  have HW := Lib.hid hW
  clear hW hc HFI HFB
  obtain ⟨f0, f1, f2, f3⟩ := HW.out _ HB2.out
  have i0 : (0 : Int) < (bs.length : Int) := by omega
  have i0n : 0 < bs.length := by omega
  have i1 : (1 : Int) < (bs.length : Int) := by omega
  have i1n : 1 < bs.length := by omega
  clear two
  by_cases j0 : j < 0
  · have q : decide (j < 0) = true := by simpa using j0
    clear HDV j0
    go_wp2_with fail
    go_ret
    exact ⟨rfl, HB2.out⟩
  have qj0 : decide (j < 0) = false := by simpa using j0
  by_cases k0 : k < 0
  · have q : decide (k < 0) = true := by simpa using k0
    clear HDV j0 k0
    go_wp2_with fail
    go_ret
    exact ⟨rfl, HB2.out⟩
  have qk0 : decide (k < 0) = false := by simpa using k0
  by_cases j1 : (num bs : Int) ≤ j
  · have q : decide ((num bs : Int) ≤ j) = true := by simpa using j1
    clear HDV j0 k0 j1
    go_wp2_with fail
    go_ret
    exact ⟨rfl, HB2.out⟩
  have qj1 : decide ((num bs : Int) ≤ j) = false := by simpa using j1
  by_cases k1 : (num bs : Int) ≤ k
  · have q : decide ((num bs : Int) ≤ k) = true := by simpa using k1
    clear HDV j0 k0 j1 k1
    go_wp2_with fail
    go_ret
    exact ⟨rfl, HB2.out⟩
  have qk1 : decide ((num bs : Int) ≤ k) = false := by simpa using k1
  clear f0 f1 f2 f3
  obtain ⟨f0, f1, f2, f3⟩ := HW.out _ HB2.out
  go_wp2_with fail
  refine (HDV.out _ HB2.out).mono ?_
  rintro e w3 ⟨O, oc, D, rfl, hP3, hD, _, hb3⟩
  have hD := hD HC.out
  have HDE := Lib.hid hD
  have HP4 := Lib.hid (hP3.next (one_alloc w3 (pB O oc D)))
  have HB4 := Lib.hid ((bcall HB2.out HB2.out.size hb3).alloc (bcall HB2.out HB2.out.size hb3).size (pB O oc D))
  have hg4 := heap_old (o' := pB O oc D) (heap_ext hg2 hb3)
  have hd4 : (w3.alloc (pB O oc D)).heap[w3.heap.size]? = some (pB O oc D) := heap_new rfl
  rw [HC.out]
  clear cg hg2 hb3 hP3 f0 f1 f2 f3 hD HDV HB2
  go_upto_region 5 with fail
  generalize w3.heap.size = g8 at *
  generalize w3.alloc _ = w4 at *
  have cg := fun j => cell_of_row _ _ j _ _ _ hg4
  have cd := fun j => cell_of_row _ _ j _ _ _ hd4
  have zd := lt_some hd4
  have HFV := Lib.hid (fun (W : World) (hW : Below w4.heap.size w4 W) => show Calls Try.prog 13 #[gV (some bd) c bs, pV O oc D] W (fun e w' => e = .returned (.int .i64 0) ∧ Below W.heap.size W w') from by
    have := fvalid_any bs (some bd) c D O oc W (HB.out.next (bcall HB4.out HB4.out.size hW)) (HP4.out.next hW)
    rw [show D.code bs = 0 by rw [HDE.out]; exact divP_code HC.out] at this
    exact this)
  go_wp2_with fail
  refine (HFV.out _ (Below.refl _ _)).mono ?_
  rintro e w5 ⟨rfl, hb5⟩
  have HB5 := Lib.hid (bcall HB4.out HB4.out.size hb5)
  have hP5 := HP4.out.next hb5
  have hg5 := heap_ext hg4 hb5
  have hd5 := heap_ext hd4 hb5
  clear cg cd zd hg4 hd4 hb5 HP4 HB4 HFV
  have HT := Lib.hid (show PtOk bs D (num bs) by rw [HDE.out]; exact divP_pt HC.out)
  have HL := HT.out.len
  obtain ⟨jn, rfl⟩ := Int.eq_ofNat_of_zero_le (show 0 ≤ j by omega)
  obtain ⟨kn, rfl⟩ := Int.eq_ofNat_of_zero_le (show 0 ≤ k by omega)
  obtain ⟨od, rfl, _, oj⟩ := hP5.ow.at_ (show jn < D.ow.length by omega)
  obtain ⟨od', e1, _, ok⟩ := hP5.ow.at_ (show kn < D.ow.length by omega)
  obtain rfl : od = od' := by simpa using e1
  have a1 : (jn : Int) < (D.ow.length : Int) := by omega
  have a2 : (kn : Int) < (D.ow.length : Int) := by omega
  have a1n : jn < D.ow.length := by omega
  have a2n : kn < D.ow.length := by omega
  have b1 : (jn : Int) < (num bs : Int) := by omega
  have b2 : (kn : Int) < (num bs : Int) := by omega
  have b1n : jn < num bs := by omega
  have b2n : kn < num bs := by omega
  have HBD := Lib.hid (show ∃ s t, Best bs D s t by rw [HDE.out]; exact divP_best HC.out)
  have HSP := Lib.hid (show ∀ i, i < num bs → (i : Int) = D.sp → gi D.ow i = 0 from fun i hi e => by
    have q := (divP_ok HK.out).sp
    rw [← HDE.out] at q
    rcases q with ⟨q, _⟩ | ⟨_, q, _⟩
    · omega
    · rw [← e] at q; simpa using q)
  clear hP5 e1 HDE HL j0 k0 j1 k1 qj0 qk0 qj1 qk1
  have cg := fun j => cell_of_row _ _ j _ _ _ hg5
  have cd := fun j => cell_of_row _ _ j _ _ _ hd5
  obtain ⟨f0, f1, f2, f3⟩ := HW.out _ HB5.out
  by_cases o1 : gi D.ow jn = 0
  · have q1 : (gi D.ow jn != 0) = false := by simpa using o1
    by_cases o2 : gi D.ow kn = 1 ∨ (kn : Int) = D.sp
    · have HO := Lib.hid (show gi (gr bs 0) kn * gi (gr bs 1) jn ≤ gi (gr bs 0) jn * gi (gr bs 1) kn from by
        obtain ⟨s, t, B⟩ := HBD.out
        exact B.order b1n b2n (fun i k hi hk => (HK.out.v hi hk).1) (Or.inr o1) o2.symm HT.out.ow HSP.out)
      have v1 := HK.out.v0 jn b1n
      have v2 := HK.out.v1 kn b2n
      have v3 := HK.out.v0 kn b2n
      have v4 := HK.out.v1 jn b1n
      have m1 := prod_bd v1.1 v1.2 v2.1 (by omega)
      have m2 := prod_bd v3.1 v3.2 v4.1 (by omega)
      have x1 : IntKind.i64.wrap (gi (gr bs 0) jn * gi (gr bs 1) kn) = gi (gr bs 0) jn * gi (gr bs 1) kn := IntWalk.i64_in _ (by omega)
      have x2 : IntKind.i64.wrap (gi (gr bs 0) kn * gi (gr bs 1) jn) = gi (gr bs 0) kn * gi (gr bs 1) jn := IntWalk.i64_in _ (by omega)
      have x1' : wrap64 (gi (gr bs 0) jn * gi (gr bs 1) kn) = gi (gr bs 0) jn * gi (gr bs 1) kn := IntWalk.wrap64_in _ (by omega)
      have x2' : wrap64 (gi (gr bs 0) kn * gi (gr bs 1) jn) = gi (gr bs 0) kn * gi (gr bs 1) jn := IntWalk.wrap64_in _ (by omega)
      have qo : decide (gi (gr bs 0) kn * gi (gr bs 1) jn ≤ gi (gr bs 0) jn * gi (gr bs 1) kn) = true := by simpa using HO.out
      have y0 := f2 jn b1n
      have y1 := f3 kn b2n
      have y2 := f2 kn b2n
      have y3 := f3 jn b1n
      clear HO v1 v2 v3 v4 m1 m2 f2 f3 HBD HSP
      generalize gi (gr bs 0) jn = p0 at *
      generalize gi (gr bs 1) kn = p1 at *
      generalize gi (gr bs 0) kn = p2 at *
      generalize gi (gr bs 1) jn = p3 at *
      by_cases o3 : gi D.ow kn = 1
      · have q2 : (gi D.ow kn != 1) = false := by simpa using o3
        by_cases jk : jn = kn
        · exfalso
          rw [jk] at o1
          omega
        · have q5 : ((jn : Int) == (kn : Int)) = false := by simp; omega
          go_upto_region 9 with fail
          go_quiet (fail)
          go_wp2_with fail
          go_ret
          exact ⟨rfl, below_drewN HB5.out _⟩
      · have q2 : (gi D.ow kn != 1) = true := by simpa using o3
        have q3 : ((kn : Int) != D.sp) = false := by have := o2.resolve_left o3; simp [this]
        by_cases jk : jn = kn
        · subst jk
          have q5 : ((jn : Int) == (jn : Int)) = true := by simp
          go_upto_region 9 with fail
          go_quiet (fail)
          go_wp2_with fail
          go_ret
          exact ⟨rfl, below_drewN HB5.out _⟩
        · have q5 : ((jn : Int) == (kn : Int)) = false := by simp; omega
          go_upto_region 9 with fail
          go_quiet (fail)
          go_wp2_with fail
          go_ret
          exact ⟨rfl, below_drewN HB5.out _⟩
    · have q2 : (gi D.ow kn != 1) = true := by have := fun e => o2 (Or.inl e); simpa using this
      have q3 : ((kn : Int) != D.sp) = true := by have := fun e => o2 (Or.inr e); simpa using this
      go_wp2_with fail
      go_ret
      exact ⟨rfl, HB5.out⟩
  · have q1 : (gi D.ow jn != 0) = true := by simpa using o1
    go_wp2_with fail
    go_ret
    exact ⟨rfl, HB5.out⟩
end Go.Proofs.Ytcjfcfgkejoeeaa
