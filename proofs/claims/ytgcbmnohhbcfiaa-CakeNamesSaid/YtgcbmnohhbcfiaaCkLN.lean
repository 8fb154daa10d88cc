/- CakeNames returns true. -/
import Derived.Test.YtgcbmnohhbcfiaaCkG
import Derived.Test.YtgcbmnohhbcfiaaCkU
import Derived.Test.YtgcbmnohhbcfiaaCkPt
import Derived.Test.YtgcbmnohhbcfiaaCkS
import Derived.Test.YtgcbmnohhbcfiaaFlowT
import Derived.Test.YtgcbmnohhbcfiaaMx
namespace Go.Proofs.Ytgcbmnohhbcfiaa
open Go.RowKit Go.Deep
set_option linter.unusedVariables false
set_option linter.unusedSimpArgs false

/-- What a call that gives a cake leaves: read from here on. -/
theorem KRes.split {N : Ck} {x : Int} {w w' : World} {e : Ending} (h : KRes N x w e w') : ∃ A c R d, e = .returned (.tuple #[cV A c R d N, .int .i64 x]) ∧ CIn w'.heap.size w' A c R d N ∧ Below w.heap.size w w' := by
  obtain ⟨u, v, rfl, hk, hb⟩ := h
  obtain ⟨A, c, R, d, rfl, rfl⟩ := hk.shape
  exact ⟨A, c, R, d, rfl, hk.fresh.here, hb⟩
theorem ck_eq {K L : Ck} (h : K.len = L.len ∧ K.cuts = L.cuts ∧ K.dens = L.dens) : K = L := by cases K; cases L; simp_all
/-- A cake written out, read at once. -/
theorem ck_at {g1 g2 : Nat} {w : World} {cs0 cs1 : Array Value} {t u : TypeId} {K : Ck} (h1 : w.heap[g1]? = some (.cells cs0 t)) (h2 : w.heap[g2]? = some (.cells cs1 u))
    (c0 : cs0.toList = K.cuts.map (Value.int .i64)) (c1 : cs1.toList = K.dens.map (Value.int .i64)) {c d : Nat} (lc : K.cuts.length = c) (ld : K.dens.length = d) (mc : c ≤ 1000) (md : d ≤ 1000) (w0 : -1000000 ≤ K.len) (w1 : K.len ≤ 1000000) :
    CIn w.heap.size w (some ⟨g1, 0, none⟩) c (some ⟨g2, 0, none⟩) d K := (ck_lit (B0 := 0) (Nat.zero_le _) (Nat.zero_le _) h1 h2 c0 c1 lc ld mc md w0 w1).here
theorem nm1c : givenK.denC ⟨4, 1⟩ = 0 := by decide +kernel
theorem nm1v : givenK.den ⟨4, 1⟩ = 0 := by decide +kernel
theorem nm1w0 : Rt.wf ⟨4, 1⟩ := ⟨by decide, by decide, by decide, by decide⟩
theorem nm2c : givenK.denC ⟨10, 1⟩ = 0 := by decide +kernel
theorem nm2v : givenK.den ⟨10, 1⟩ = 3 := by decide +kernel
theorem nm2w0 : Rt.wf ⟨10, 1⟩ := ⟨by decide, by decide, by decide, by decide⟩
theorem nm3c : givenK.partC 3 7 = 0 := by decide +kernel
theorem nm3v : givenK.part? 3 7 = ⟨4, [0, 1, 3, 4], [2, 0, 3]⟩ := ck_eq (by decide +kernel)
theorem nm4c : givenK.partC 4 6 = 6 := by decide +kernel
theorem nm5 : (⟨4, [0, 1, 2, 4], [1, 1, 0]⟩ : Ck).norm? = ⟨4, [0, 2, 4], [1, 0]⟩ ∧ (⟨4, [0, 1, 2, 4], [1, 1, 0]⟩ : Ck).code = 0 := ⟨ck_eq (by decide +kernel), by decide +kernel⟩
theorem nm6c : givenK.valC ⟨1, 3⟩ ⟨13, 2⟩ = 0 := by decide +kernel
theorem nm6v : givenK.val ⟨1, 3⟩ ⟨13, 2⟩ = ⟨53, 6⟩ := by decide +kernel
theorem nm6w0 : Rt.wf ⟨1, 3⟩ := ⟨by decide, by decide, by decide, by decide⟩
theorem nm6w1 : Rt.wf ⟨13, 2⟩ := ⟨by decide, by decide, by decide, by decide⟩
theorem nm7c : givenK.markC ⟨7, 2⟩ ⟨1, 1⟩ = 0 := by decide +kernel
theorem nm7v : givenK.mark ⟨7, 2⟩ ⟨1, 1⟩ = ⟨4, 1⟩ := by decide +kernel
theorem nm7w0 : Rt.wf ⟨7, 2⟩ := ⟨by decide, by decide, by decide, by decide⟩
theorem nm7w1 : Rt.wf ⟨1, 1⟩ := ⟨by decide, by decide, by decide, by decide⟩
theorem nm8c : givenK.markC ⟨10, 1⟩ ⟨0, 1⟩ = 0 := by decide +kernel
theorem nm8v : givenK.mark ⟨10, 1⟩ ⟨0, 1⟩ = ⟨10, 1⟩ := by decide +kernel
theorem nm8w0 : Rt.wf ⟨10, 1⟩ := ⟨by decide, by decide, by decide, by decide⟩
theorem nm8w1 : Rt.wf ⟨0, 1⟩ := ⟨by decide, by decide, by decide, by decide⟩
theorem nm10c : givenK.valC ⟨(-1), 1⟩ ⟨1, 1⟩ = 2 := by decide +kernel
theorem nm10w0 : Rt.wf ⟨(-1), 1⟩ := ⟨by decide, by decide, by decide, by decide⟩
theorem nm10w1 : Rt.wf ⟨1, 1⟩ := ⟨by decide, by decide, by decide, by decide⟩
theorem nm11c : givenK.valC ⟨1, 1⟩ ⟨11, 1⟩ = 2 := by decide +kernel
theorem nm11w0 : Rt.wf ⟨1, 1⟩ := ⟨by decide, by decide, by decide, by decide⟩
theorem nm11w1 : Rt.wf ⟨11, 1⟩ := ⟨by decide, by decide, by decide, by decide⟩
theorem nm12c : givenK.valC ⟨2, 1⟩ ⟨1, 1⟩ = 2 := by decide +kernel
theorem nm12w0 : Rt.wf ⟨2, 1⟩ := ⟨by decide, by decide, by decide, by decide⟩
theorem nm12w1 : Rt.wf ⟨1, 1⟩ := ⟨by decide, by decide, by decide, by decide⟩
theorem nm13c : givenK.valC ⟨0, 1⟩ ⟨2, 4⟩ = 2 := by decide +kernel
theorem nm13w0 : Rt.wf ⟨0, 1⟩ := ⟨by decide, by decide, by decide, by decide⟩
theorem nm13w1 : Rt.wf ⟨2, 4⟩ := ⟨by decide, by decide, by decide, by decide⟩
theorem nm14c : givenK.markC ⟨0, 1⟩ ⟨(-1), 1⟩ = 2 := by decide +kernel
theorem nm14w0 : Rt.wf ⟨0, 1⟩ := ⟨by decide, by decide, by decide, by decide⟩
theorem nm14w1 : Rt.wf ⟨(-1), 1⟩ := ⟨by decide, by decide, by decide, by decide⟩
theorem nm15c : givenK.markC ⟨10, 1⟩ ⟨1, 1⟩ = 6 := by decide +kernel
theorem nm15w0 : Rt.wf ⟨10, 1⟩ := ⟨by decide, by decide, by decide, by decide⟩
theorem nm15w1 : Rt.wf ⟨1, 1⟩ := ⟨by decide, by decide, by decide, by decide⟩
theorem nm16c : givenK.denC ⟨11, 1⟩ = 2 := by decide +kernel
theorem nm16w0 : Rt.wf ⟨11, 1⟩ := ⟨by decide, by decide, by decide, by decide⟩
theorem nm17c : givenK.partC 3 3 = 2 := by decide +kernel
theorem nm18c : givenK.partC 0 11 = 2 := by decide +kernel
theorem nm19c : givenK.valC ⟨1, 1000000000000000000⟩ ⟨999999999999999998, 999999999999999999⟩ = 16 := by decide +kernel
theorem nm19w0 : Rt.wf ⟨1, 1000000000000000000⟩ := ⟨by decide, by decide, by decide, by decide⟩
theorem nm19w1 : Rt.wf ⟨999999999999999998, 999999999999999999⟩ := ⟨by decide, by decide, by decide, by decide⟩
theorem same37 (A : Option Addr) (c : Nat) (R : Option Addr) (d : Nat) (B : Option Addr) (e : Nat) (S : Option Addr) (f : Nat) (w : World) (hk : CIn w.heap.size w A c R d ⟨4, [0, 1, 3, 4], [2, 0, 3]⟩) (hl : CIn w.heap.size w B e S f ⟨4, [0, 1, 3, 4], [2, 0, 3]⟩) :
    Calls Try.prog 21 #[cV A c R d ⟨4, [0, 1, 3, 4], [2, 0, 3]⟩, cV B e S f ⟨4, [0, 1, 3, 4], [2, 0, 3]⟩] w fun x w' => x = .returned (.bool true) ∧ Below w.heap.size w w' := by
  have := fsame_any ⟨4, [0, 1, 3, 4], [2, 0, 3]⟩ ⟨4, [0, 1, 3, 4], [2, 0, 3]⟩ A c R d B e S f w hk hl
  rwa [sameK_self] at this
theorem same5 (A : Option Addr) (c : Nat) (R : Option Addr) (d : Nat) (B : Option Addr) (e : Nat) (S : Option Addr) (f : Nat) (w : World) (hk : CIn w.heap.size w A c R d ⟨4, [0, 2, 4], [1, 0]⟩) (hl : CIn w.heap.size w B e S f ⟨4, [0, 2, 4], [1, 0]⟩) :
    Calls Try.prog 21 #[cV A c R d ⟨4, [0, 2, 4], [1, 0]⟩, cV B e S f ⟨4, [0, 2, 4], [1, 0]⟩] w fun x w' => x = .returned (.bool true) ∧ Below w.heap.size w w' := by
  have := fsame_any ⟨4, [0, 2, 4], [1, 0]⟩ ⟨4, [0, 2, 4], [1, 0]⟩ A c R d B e S f w hk hl
  rwa [sameK_self] at this
theorem chk_lit (K : Ck) (x : Int) (hx : K.code = x) (A : Option Addr) (c : Nat) (R : Option Addr) (d : Nat) (w : World) (h : CIn w.heap.size w A c R d K) : Calls Try.prog 26 #[cV A c R d K] w fun e w' => e = .returned (.int .i64 x) ∧ Below w.heap.size w w' := by
  have := ccheck_any K A c R d w h
  rwa [hx] at this
theorem ck_none (n : Int) (h0 : -1000000 ≤ n) (h1 : n ≤ 1000000) (w : World) : CIn w.heap.size w none 0 none 0 ⟨n, [], []⟩ := ⟨Ints.nil_, Ints.nil_, Nat.le_refl _, by unfold maxLen; omega, Nat.le_refl _, by unfold maxLen; omega, by show _ ≤ n; omega, by show n ≤ _; omega⟩
theorem ck_cuts {g c : Nat} {w : World} {cs : Array Value} {t : TypeId} {n : Int} {l : List Int} (h : w.heap[g]? = some (.cells cs t)) (hc : cs.toList = l.map (Value.int .i64)) (hl : l.length = c) (hm : c ≤ 1000) (h0 : -1000000 ≤ n) (h1 : n ≤ 1000000) : CIn w.heap.size w (some ⟨g, 0, none⟩) c none 0 ⟨n, l, []⟩ :=
  ⟨Ints.of_lit h (lt_some h) hc, Ints.nil_, by show l.length ≤ c; omega, by unfold maxLen; omega, Nat.le_refl _, by unfold maxLen; omega, by show _ ≤ n; omega, by show n ≤ _; omega⟩
theorem zeros41 : (madeCells #[Value.int .i64 0] 41).toList = (List.replicate 41 (0 : Int)).map (Value.int .i64) := by rw [toList_madeCells_one]; simp
theorem same_none (A : Option Addr) (c : Nat) (w : World) (h : CIn w.heap.size w A c none 0 ⟨0, [], []⟩) : Calls Try.prog 28 #[cV none 0 none 0 ⟨0, [], []⟩, cV A c none 0 ⟨0, [], []⟩] w fun x w' => x = .returned (.bool true) ∧ Below w.heap.size w w' := by
  have := csame_any ⟨0, [], []⟩ ⟨0, [], []⟩ none 0 none 0 A c none 0 w (ck_none 0 (by decide) (by decide) w) h
  rwa [sameK_self] at this
set_option maxRecDepth 100000 in
set_option maxHeartbeats 32000000 in
theorem cnames_walk (w : World) : Calls Try.prog 9 #[] w fun e w' => e = .returned (.bool true) ∧ Below w.heap.size w w' := by
  have hB0 : Bx w [] w := Bx.start w
  go_enter Try.func9, Try.ntmps9
  try dsimp only [List.append]
  go_wp2_with fail
  refine (given_any _).mono ?_
  rintro e w1 ⟨A, c, R, d, rfl, hF, hb⟩
  have hB1 := hB0.next hb
  have hK := hF.here
  clear hb hF hB0
  go_wp2_with fail
  refine (lof_any 4 _).mono ?_
  rintro e w2 ⟨rfl, hb⟩
  have hB2 := hB1.next hb
  have hK := hK.next hb
  clear hb hB1
  have HQ := cdensity_any givenK A c R d ⟨4, 1⟩ nm1w0 _ hK
  rw [nm1c] at HQ
  rw [nm1v] at HQ
  go_wp2_with fail
  refine (HQ).mono ?_
  rintro e w3 ⟨rfl, hb⟩
  have hB3 := hB2.next hb
  clear hb hB2
  clear HQ hK
  go_wp2_with fail
  refine (given_any _).mono ?_
  rintro e w4 ⟨A, c, R, d, rfl, hF, hb⟩
  have hB4 := hB3.next hb
  have hK := hF.here
  clear hb hF hB3
  go_wp2_with fail
  refine (lof_any 10 _).mono ?_
  rintro e w5 ⟨rfl, hb⟩
  have hB5 := hB4.next hb
  have hK := hK.next hb
  clear hb hB4
  have HQ := cdensity_any givenK A c R d ⟨10, 1⟩ nm2w0 _ hK
  rw [nm2c] at HQ
  rw [nm2v] at HQ
  go_wp2_with fail
  refine (HQ).mono ?_
  rintro e w6 ⟨rfl, hb⟩
  have hB6 := hB5.next hb
  clear hb hB5
  clear HQ hK
  go_wp2_with fail
  refine (given_any _).mono ?_
  rintro e w7 ⟨A, c, R, d, rfl, hF, hb⟩
  have hB7 := hB6.next hb
  have hK := hF.here
  clear hb hF hB6
  have HQ := cpart_any givenK A c R d 3 7 (by decide) (by decide) (by decide) (by decide) _ hK
  rw [nm3c] at HQ
  rw [nm3v] at HQ
  go_wp2_with fail
  refine HQ.mono ?_
  intro e w8 hkr
  obtain ⟨A3, c3, R3, d3, rfl, hp, hb⟩ := hkr.split
  have hB8 := hB7.next hb
  clear hb hkr HQ hK hB7
  go_upto_region 4 with fail
  have hB9 := hB8.new rfl (cB A3 c3 R3 d3 ⟨4, [0, 1, 3, 4], [2, 0, 3]⟩)
  have hp := hp.next (one_alloc w8 (cB A3 c3 R3 d3 ⟨4, [0, 1, 3, 4], [2, 0, 3]⟩))
  clear hB8
  generalize w8.heap.size = g_p at *
  generalize w8.alloc _ = w9 at *
  go_wp2_with fail
  refine (given_any _).mono ?_
  rintro e w10 ⟨A, c, R, d, rfl, hF, hb⟩
  have hB10 := hB9.next hb
  have hK := hF.here
  have hp := hp.next hb
  clear hb hF hB9
  have HQ := cpart_any givenK A c R d 4 6 (by decide) (by decide) (by decide) (by decide) _ hK
  rw [nm4c] at HQ
  obtain ⟨K4, hK4⟩ : ∃ q, q = givenK.part? 4 6 := ⟨_, rfl⟩
  rw [← hK4] at HQ
  clear hK4
  go_wp2_with fail
  refine HQ.mono ?_
  intro e w11 hkr
  obtain ⟨A4, c4, R4, d4, rfl, hp2, hb⟩ := hkr.split
  have hB11 := hB10.next hb
  have hp := hp.next hb
  clear hb hkr HQ hK hB10
  clear hp2
  go_upto_region 5 with fail
  have hB12 := hB11.new rfl (cB A4 c4 R4 d4 K4)
  have hp := hp.next (one_alloc w11 (cB A4 c4 R4 d4 K4))
  clear hB11
  generalize w11.heap.size = g_p2 at *
  generalize w11.alloc _ = w12 at *
  have HQ := fun (A : Option Addr) (c : Nat) (R : Option Addr) (d : Nat) (W : World) (h : CIn W.heap.size W A c R d ⟨4, [0, 1, 2, 4], [1, 1, 0]⟩) => cnormal_any ⟨4, [0, 1, 2, 4], [1, 1, 0]⟩ A c R d W h
  rw [nm5.1, nm5.2] at HQ
  go_wp2_with fail
  refine Calls.mono (HQ (some ⟨_, 0, none⟩) 4 (some ⟨_, 0, none⟩) 3 _ ?_) ?_
  · exact ck_at (K := ⟨4, [0, 1, 2, 4], [1, 1, 0]⟩) (heap_old (heap_new (by first | rfl | simp))) (heap_new (by first | rfl | simp)) rfl rfl rfl rfl (by decide) (by decide) (by decide) (by decide)
  intro e w13 hkr
  obtain ⟨An, cn, Rn, dn, rfl, hn, hb0⟩ := hkr.split
  have hb : Below w12.heap.size w12 w13 := bcall (by repeat (first | exact Below.refl _ _ | refine Below.alloc ?_ (by first | (simp; done) | (simp; omega) | omega) _)) (by first | (simp; done) | (simp; omega) | omega) hb0
  have hB13 := hB12.next hb
  have hp := hp.next hb
  clear hb hb0 hkr HQ hB12
  go_upto_region 6 with fail
  have hB14 := hB13.new rfl (cB An cn Rn dn ⟨4, [0, 2, 4], [1, 0]⟩)
  have hp := hp.next (one_alloc w13 (cB An cn Rn dn ⟨4, [0, 2, 4], [1, 0]⟩))
  have hn := hn.next (one_alloc w13 (cB An cn Rn dn ⟨4, [0, 2, 4], [1, 0]⟩))
  clear hB13
  generalize w13.heap.size = g_n at *
  generalize w13.alloc _ = w14 at *
  go_wp2_with fail
  refine (given_any _).mono ?_
  rintro e w15 ⟨A, c, R, d, rfl, hF, hb⟩
  have hB15 := hB14.next hb
  have hK := hF.here
  have hp := hp.next hb
  have hn := hn.next hb
  clear hb hF hB14
  have HQ := cvalue_any givenK A c R d ⟨1, 3⟩ ⟨13, 2⟩ nm6w0 nm6w1 _ hK
  rw [nm6c] at HQ
  rw [nm6v] at HQ
  go_wp2_with fail
  refine (HQ).mono ?_
  rintro e w16 ⟨rfl, hb⟩
  have hB16 := hB15.next hb
  have hp := hp.next hb
  have hn := hn.next hb
  clear hb hB15
  clear HQ hK
  go_upto_region 7 with fail
  have hB17 := hB16.new rfl (rB ⟨53, 6⟩)
  have hp := hp.next (one_alloc w16 (rB ⟨53, 6⟩))
  have hn := hn.next (one_alloc w16 (rB ⟨53, 6⟩))
  clear hB16
  generalize w16.heap.size = g_v at *
  generalize w16.alloc _ = w17 at *
  go_wp2_with fail
  refine (given_any _).mono ?_
  rintro e w18 ⟨A, c, R, d, rfl, hF, hb⟩
  have hB18 := hB17.next hb
  have hK := hF.here
  have hp := hp.next hb
  have hn := hn.next hb
  clear hb hF hB17
  go_wp2_with fail
  refine (lof_any 1 _).mono ?_
  rintro e w19 ⟨rfl, hb⟩
  have hB19 := hB18.next hb
  have hp := hp.next hb
  have hn := hn.next hb
  have hK := hK.next hb
  clear hb hB18
  have HQ := cmark_any givenK A c R d ⟨7, 2⟩ ⟨1, 1⟩ nm7w0 nm7w1 _ hK
  rw [nm7c] at HQ
  rw [nm7v] at HQ
  go_wp2_with fail
  refine (HQ).mono ?_
  rintro e w20 ⟨rfl, hb⟩
  have hB20 := hB19.next hb
  have hp := hp.next hb
  have hn := hn.next hb
  clear hb hB19
  clear HQ hK
  go_upto_region 8 with fail
  have hB21 := hB20.new rfl (rB ⟨4, 1⟩)
  have hp := hp.next (one_alloc w20 (rB ⟨4, 1⟩))
  have hn := hn.next (one_alloc w20 (rB ⟨4, 1⟩))
  clear hB20
  generalize w20.heap.size = g_x at *
  generalize w20.alloc _ = w21 at *
  go_wp2_with fail
  refine (given_any _).mono ?_
  rintro e w22 ⟨A, c, R, d, rfl, hF, hb⟩
  have hB22 := hB21.next hb
  have hK := hF.here
  have hp := hp.next hb
  have hn := hn.next hb
  clear hb hF hB21
  go_wp2_with fail
  refine (lof_any 10 _).mono ?_
  rintro e w23 ⟨rfl, hb⟩
  have hB23 := hB22.next hb
  have hp := hp.next hb
  have hn := hn.next hb
  have hK := hK.next hb
  clear hb hB22
  go_wp2_with fail
  refine (lof_any 0 _).mono ?_
  rintro e w24 ⟨rfl, hb⟩
  have hB24 := hB23.next hb
  have hp := hp.next hb
  have hn := hn.next hb
  have hK := hK.next hb
  clear hb hB23
  have HQ := cmark_any givenK A c R d ⟨10, 1⟩ ⟨0, 1⟩ nm8w0 nm8w1 _ hK
  rw [nm8c] at HQ
  rw [nm8v] at HQ
  go_wp2_with fail
  refine (HQ).mono ?_
  rintro e w25 ⟨rfl, hb⟩
  have hB25 := hB24.next hb
  have hp := hp.next hb
  have hn := hn.next hb
  clear hb hB24
  clear HQ hK
  go_upto_region 9 with fail
  have hB26 := hB25.new rfl (rB ⟨10, 1⟩)
  have hp := hp.next (one_alloc w25 (rB ⟨10, 1⟩))
  have hn := hn.next (one_alloc w25 (rB ⟨10, 1⟩))
  clear hB25
  generalize w25.heap.size = g_y at *
  generalize w25.alloc _ = w26 at *
  have HX := Lib.hid hB26
  have HPX := Lib.hid hp
  have HNX := Lib.hid hn
  have HB9 := Lib.hid hB26.below
  clear hp hn hB26
  go_wp2_with fail
  go_cut [17] (fun s wx => s = .bool true ∧ Below w26.heap.size w26 wx)
  case first =>
    as_aux_lemma =>
      have hM9 := Mx.of_bx (Bx.start w26)
      refine wp_region_T (Bx w26 []) 68 (by kernel_rfl) (by rfl) ((hM9.keep (List.nil_sublist _)).drew) (fun wq1 hbq => ?_)
      have hB101 := hM9.next hbq
      clear hM9 hbq
      refine wpAnyT_go (Bx.grows _ _) (hB101.keep (List.nil_sublist _)) [0, 1, 2, 3, 4, 5, 6, 7, 8, 9, 10, 11, 12, 13, 14, 15, 16, 17, 18, 19] 48 (by kernel_rfl) ?_
      apply Exists.intro
      refine ⟨fun G hG hN => ?_, ?_⟩
      · have c_p := fun (e : GE (Bx w26 []) G) j => cell_of_row e.w _ j _ _ _ (heap_ext (HX.out.get 5 rfl) (GE.h e).below)
        have z_p := fun (e : GE (Bx w26 []) G) => lt_some (heap_ext (HX.out.get 5 rfl) (GE.h e).below)
        have c_n := fun (e : GE (Bx w26 []) G) j => cell_of_row e.w _ j _ _ _ (heap_ext (HX.out.get 3 rfl) (GE.h e).below)
        have z_n := fun (e : GE (Bx w26 []) G) => lt_some (heap_ext (HX.out.get 3 rfl) (GE.h e).below)
        have c_v := fun (e : GE (Bx w26 []) G) j => cell_of_row e.w _ j _ _ _ (heap_ext (HX.out.get 2 rfl) (GE.h e).below)
        have z_v := fun (e : GE (Bx w26 []) G) => lt_some (heap_ext (HX.out.get 2 rfl) (GE.h e).below)
        have c_x := fun (e : GE (Bx w26 []) G) j => cell_of_row e.w _ j _ _ _ (heap_ext (HX.out.get 1 rfl) (GE.h e).below)
        have z_x := fun (e : GE (Bx w26 []) G) => lt_some (heap_ext (HX.out.get 1 rfl) (GE.h e).below)
        have c_y := fun (e : GE (Bx w26 []) G) j => cell_of_row e.w _ j _ _ _ (heap_ext (HX.out.get 0 rfl) (GE.h e).below)
        have z_y := fun (e : GE (Bx w26 []) G) => lt_some (heap_ext (HX.out.get 0 rfl) (GE.h e).below)
        simp only [pickOps, List.getElem?_toArray, List.getElem?_cons_zero, List.getElem?_cons_succ]
        repeat (first | go_big_quiet_step ((first | (go_at_call 36; exact calls_ge (Bx.grows _ _) hG (lof_any _ _)))) | quiet_step ((first | (go_at_call 36; exact calls_ge (Bx.grows _ _) hG (lof_any _ _)))))
        exact wpQuiet_nil rfl
      refine wpAnyT_two (i := 20) (j := 21) (oi := (.cells #[.int .i64 0, .int .i64 1, .int .i64 3, .int .i64 4] 3)) (oj := (.cells #[.int .i64 2, .int .i64 0, .int .i64 3] 3)) hB101 (fun _ k => k.keep (List.nil_sublist _)) (by kernel_rfl) ?_
      apply Exists.intro
      apply Exists.intro
      apply Exists.intro
      refine ⟨?_, ?_, ?_, ?_, ?_⟩
      · intro g W K hg hK
        try dsimp only
        refine wpOp_step rfl (fun Kc hKc => ?_)
        go_simp
        try rw [hg]
        exact hKc _ _ hK
      · intro g0 g W K hg hK
        try dsimp only
        refine wpOp_step rfl (fun Kc hKc => ?_)
        go_simp
        try rw [hg]
        exact hKc _ _ hK
      · intro g W K hg hK
        try dsimp only
        refine wpOp_step rfl (fun Kc hKc => ?_)
        go_simp
        try rw [hg]
        exact hKc _ _ hK
      · intro g0 g W K hg hK
        try dsimp only
        refine wpOp_step rfl (fun Kc hKc => ?_)
        go_simp
        try rw [hg]
        exact hKc _ _ hK
      intro gL1 gL2 wt2 hB102
      try dsimp only
      refine wpAnyT_go (Bx.grows _ _) (hB102.keep (List.nil_sublist _)) [22] 45 (by kernel_rfl) ?_
      apply Exists.intro
      refine ⟨fun G hG hN => ?_, ?_⟩
      · have c_p := fun (e : GE (Bx w26 []) G) j => cell_of_row e.w _ j _ _ _ (heap_ext (HX.out.get 5 rfl) (GE.h e).below)
        have z_p := fun (e : GE (Bx w26 []) G) => lt_some (heap_ext (HX.out.get 5 rfl) (GE.h e).below)
        have c_n := fun (e : GE (Bx w26 []) G) j => cell_of_row e.w _ j _ _ _ (heap_ext (HX.out.get 3 rfl) (GE.h e).below)
        have z_n := fun (e : GE (Bx w26 []) G) => lt_some (heap_ext (HX.out.get 3 rfl) (GE.h e).below)
        have c_v := fun (e : GE (Bx w26 []) G) j => cell_of_row e.w _ j _ _ _ (heap_ext (HX.out.get 2 rfl) (GE.h e).below)
        have z_v := fun (e : GE (Bx w26 []) G) => lt_some (heap_ext (HX.out.get 2 rfl) (GE.h e).below)
        have c_x := fun (e : GE (Bx w26 []) G) j => cell_of_row e.w _ j _ _ _ (heap_ext (HX.out.get 1 rfl) (GE.h e).below)
        have z_x := fun (e : GE (Bx w26 []) G) => lt_some (heap_ext (HX.out.get 1 rfl) (GE.h e).below)
        have c_y := fun (e : GE (Bx w26 []) G) j => cell_of_row e.w _ j _ _ _ (heap_ext (HX.out.get 0 rfl) (GE.h e).below)
        have z_y := fun (e : GE (Bx w26 []) G) => lt_some (heap_ext (HX.out.get 0 rfl) (GE.h e).below)
        simp only [pickOps, List.getElem?_toArray, List.getElem?_cons_zero, List.getElem?_cons_succ]
        repeat (first | go_big_quiet_step ((first | (go_at_call 36; exact calls_ge (Bx.grows _ _) hG (lof_any _ _)))) | quiet_step ((first | (go_at_call 36; exact calls_ge (Bx.grows _ _) hG (lof_any _ _)))))
        exact wpQuiet_nil rfl
      refine wpAnyT_all (rs := [23]) (by kernel_rfl) (by simp) (fun wa3 hwa3 hRwa3 i hi => ?_)
      have hB103 := hB102.next hwa3
      clear hB102 hwa3 hRwa3
      obtain rfl := List.mem_singleton.1 hi
      refine wpOp_step rfl (fun Kc hKc => ?_)
      go_simp
      refine Calls.mono (same37 A3 c3 R3 d3 _ _ _ _ _ (HPX.out.next hB103.below) (ck_at (K := ⟨4, [0, 1, 3, 4], [2, 0, 3]⟩) (hB103.get 1 rfl) (hB103.get 0 rfl) rfl rfl rfl rfl (by decide) (by decide) (by decide) (by decide))) ?_
      rintro e wv4 ⟨rfl, hb⟩
      have hB104 := hB103.next hb
      clear hb
      refine hKc _ _ ⟨(hB104.keep (List.nil_sublist _)), ?_⟩
      clear hKc Kc hB103
      refine wpAnyT_go (Bx.grows _ _) (hB104.keep (List.nil_sublist _)) [24, 25, 26, 27, 28, 29, 30, 31, 32, 33, 34] 33 (by kernel_rfl) ?_
      apply Exists.intro
      refine ⟨fun G hG hN => ?_, ?_⟩
      · have c_p := fun (e : GE (Bx w26 []) G) j => cell_of_row e.w _ j _ _ _ (heap_ext (HX.out.get 5 rfl) (GE.h e).below)
        have z_p := fun (e : GE (Bx w26 []) G) => lt_some (heap_ext (HX.out.get 5 rfl) (GE.h e).below)
        have c_n := fun (e : GE (Bx w26 []) G) j => cell_of_row e.w _ j _ _ _ (heap_ext (HX.out.get 3 rfl) (GE.h e).below)
        have z_n := fun (e : GE (Bx w26 []) G) => lt_some (heap_ext (HX.out.get 3 rfl) (GE.h e).below)
        have c_v := fun (e : GE (Bx w26 []) G) j => cell_of_row e.w _ j _ _ _ (heap_ext (HX.out.get 2 rfl) (GE.h e).below)
        have z_v := fun (e : GE (Bx w26 []) G) => lt_some (heap_ext (HX.out.get 2 rfl) (GE.h e).below)
        have c_x := fun (e : GE (Bx w26 []) G) j => cell_of_row e.w _ j _ _ _ (heap_ext (HX.out.get 1 rfl) (GE.h e).below)
        have z_x := fun (e : GE (Bx w26 []) G) => lt_some (heap_ext (HX.out.get 1 rfl) (GE.h e).below)
        have c_y := fun (e : GE (Bx w26 []) G) j => cell_of_row e.w _ j _ _ _ (heap_ext (HX.out.get 0 rfl) (GE.h e).below)
        have z_y := fun (e : GE (Bx w26 []) G) => lt_some (heap_ext (HX.out.get 0 rfl) (GE.h e).below)
        simp only [pickOps, List.getElem?_toArray, List.getElem?_cons_zero, List.getElem?_cons_succ]
        repeat (first | go_big_quiet_step ((first | (go_at_call 36; exact calls_ge (Bx.grows _ _) hG (lof_any _ _)))) | quiet_step ((first | (go_at_call 36; exact calls_ge (Bx.grows _ _) hG (lof_any _ _)))))
        exact wpQuiet_nil rfl
      refine wpAnyT_two (i := 35) (j := 36) (oi := (.cells #[.int .i64 0, .int .i64 2, .int .i64 4] 3)) (oj := (.cells #[.int .i64 1, .int .i64 0] 3)) hB104 (fun _ k => k.keep (List.nil_sublist _)) (by kernel_rfl) ?_
      apply Exists.intro
      apply Exists.intro
      apply Exists.intro
      refine ⟨?_, ?_, ?_, ?_, ?_⟩
      · intro g W K hg hK
        try dsimp only
        refine wpOp_step rfl (fun Kc hKc => ?_)
        go_simp
        try rw [hg]
        exact hKc _ _ hK
      · intro g0 g W K hg hK
        try dsimp only
        refine wpOp_step rfl (fun Kc hKc => ?_)
        go_simp
        try rw [hg]
        exact hKc _ _ hK
      · intro g W K hg hK
        try dsimp only
        refine wpOp_step rfl (fun Kc hKc => ?_)
        go_simp
        try rw [hg]
        exact hKc _ _ hK
      · intro g0 g W K hg hK
        try dsimp only
        refine wpOp_step rfl (fun Kc hKc => ?_)
        go_simp
        try rw [hg]
        exact hKc _ _ hK
      intro gL3 gL4 wt5 hB105
      try dsimp only
      refine wpAnyT_go (Bx.grows _ _) (hB105.keep (List.nil_sublist _)) [37] 30 (by kernel_rfl) ?_
      apply Exists.intro
      refine ⟨fun G hG hN => ?_, ?_⟩
      · have c_p := fun (e : GE (Bx w26 []) G) j => cell_of_row e.w _ j _ _ _ (heap_ext (HX.out.get 5 rfl) (GE.h e).below)
        have z_p := fun (e : GE (Bx w26 []) G) => lt_some (heap_ext (HX.out.get 5 rfl) (GE.h e).below)
        have c_n := fun (e : GE (Bx w26 []) G) j => cell_of_row e.w _ j _ _ _ (heap_ext (HX.out.get 3 rfl) (GE.h e).below)
        have z_n := fun (e : GE (Bx w26 []) G) => lt_some (heap_ext (HX.out.get 3 rfl) (GE.h e).below)
        have c_v := fun (e : GE (Bx w26 []) G) j => cell_of_row e.w _ j _ _ _ (heap_ext (HX.out.get 2 rfl) (GE.h e).below)
        have z_v := fun (e : GE (Bx w26 []) G) => lt_some (heap_ext (HX.out.get 2 rfl) (GE.h e).below)
        have c_x := fun (e : GE (Bx w26 []) G) j => cell_of_row e.w _ j _ _ _ (heap_ext (HX.out.get 1 rfl) (GE.h e).below)
        have z_x := fun (e : GE (Bx w26 []) G) => lt_some (heap_ext (HX.out.get 1 rfl) (GE.h e).below)
        have c_y := fun (e : GE (Bx w26 []) G) j => cell_of_row e.w _ j _ _ _ (heap_ext (HX.out.get 0 rfl) (GE.h e).below)
        have z_y := fun (e : GE (Bx w26 []) G) => lt_some (heap_ext (HX.out.get 0 rfl) (GE.h e).below)
        simp only [pickOps, List.getElem?_toArray, List.getElem?_cons_zero, List.getElem?_cons_succ]
        repeat (first | go_big_quiet_step ((first | (go_at_call 36; exact calls_ge (Bx.grows _ _) hG (lof_any _ _)))) | quiet_step ((first | (go_at_call 36; exact calls_ge (Bx.grows _ _) hG (lof_any _ _)))))
        exact wpQuiet_nil rfl
      refine wpAnyT_all (rs := [38]) (by kernel_rfl) (by simp) (fun wa6 hwa6 hRwa6 i hi => ?_)
      have hB106 := hB105.next hwa6
      clear hB105 hwa6 hRwa6
      obtain rfl := List.mem_singleton.1 hi
      refine wpOp_step rfl (fun Kc hKc => ?_)
      go_simp
      refine Calls.mono (same5 An cn Rn dn _ _ _ _ _ (HNX.out.next hB106.below) (ck_at (K := ⟨4, [0, 2, 4], [1, 0]⟩) (hB106.get 1 rfl) (hB106.get 0 rfl) rfl rfl rfl rfl (by decide) (by decide) (by decide) (by decide))) ?_
      rintro e wv7 ⟨rfl, hb⟩
      have hB107 := hB106.next hb
      clear hb
      refine hKc _ _ ⟨(hB107.keep (List.nil_sublist _)), ?_⟩
      clear hKc Kc hB106
      refine wpAnyT_go (Bx.grows _ _) (hB107.keep (List.nil_sublist _)) [39, 40, 41, 42, 43, 44, 45, 46, 47, 48, 49, 50, 51, 52, 53, 54, 55, 56, 57, 58, 59, 60, 61, 62, 63, 64, 65, 66, 67] 0 (by kernel_rfl) ?_
      apply Exists.intro
      refine ⟨fun G hG hN => ?_, ?_⟩
      · have c_p := fun (e : GE (Bx w26 []) G) j => cell_of_row e.w _ j _ _ _ (heap_ext (HX.out.get 5 rfl) (GE.h e).below)
        have z_p := fun (e : GE (Bx w26 []) G) => lt_some (heap_ext (HX.out.get 5 rfl) (GE.h e).below)
        have c_n := fun (e : GE (Bx w26 []) G) j => cell_of_row e.w _ j _ _ _ (heap_ext (HX.out.get 3 rfl) (GE.h e).below)
        have z_n := fun (e : GE (Bx w26 []) G) => lt_some (heap_ext (HX.out.get 3 rfl) (GE.h e).below)
        have c_v := fun (e : GE (Bx w26 []) G) j => cell_of_row e.w _ j _ _ _ (heap_ext (HX.out.get 2 rfl) (GE.h e).below)
        have z_v := fun (e : GE (Bx w26 []) G) => lt_some (heap_ext (HX.out.get 2 rfl) (GE.h e).below)
        have c_x := fun (e : GE (Bx w26 []) G) j => cell_of_row e.w _ j _ _ _ (heap_ext (HX.out.get 1 rfl) (GE.h e).below)
        have z_x := fun (e : GE (Bx w26 []) G) => lt_some (heap_ext (HX.out.get 1 rfl) (GE.h e).below)
        have c_y := fun (e : GE (Bx w26 []) G) j => cell_of_row e.w _ j _ _ _ (heap_ext (HX.out.get 0 rfl) (GE.h e).below)
        have z_y := fun (e : GE (Bx w26 []) G) => lt_some (heap_ext (HX.out.get 0 rfl) (GE.h e).below)
        simp only [pickOps, List.getElem?_toArray, List.getElem?_cons_zero, List.getElem?_cons_succ]
        repeat (first | go_big_quiet_step ((first | (go_at_call 36; exact calls_ge (Bx.grows _ _) hG (lof_any _ _)))) | quiet_step ((first | (go_at_call 36; exact calls_ge (Bx.grows _ _) hG (lof_any _ _)))))
        exact wpQuiet_nil rfl
      refine wpAnyT_done (by kernel_rfl) (fun wd8 hwd8 hRwd8 => ?_) _
      refine NoPanic.normal ?_
      have hB108 := hB107.next hwd8
      clear hB107 hwd8 hRwd8
      have HE := Lib.hid hB108.below
      clear hB108
      go_wp2_with fail
      go_meet
      exact ⟨rfl, HE.out⟩
  case rest =>
    as_aux_lemma =>
      obtain ⟨rfl, hb⟩ := hcut
      have hC := (HX.out.next hb).sub (List.nil_sublist _)
      clear hb HX HPX HNX HB9
      generalize wc = w60 at *
      go_wp2_with fail
      refine (given_any _).mono ?_
      rintro e w61 ⟨A, c, R, d, rfl, hF, hb⟩
      have hB61 := hC.next hb
      have hK := hF.here
      clear hb hF hC
      go_wp2_with fail
      refine (lof_any (-1) _).mono ?_
      rintro e w62 ⟨rfl, hb⟩
      have hB62 := hB61.next hb
      have hK := hK.next hb
      clear hb hB61
      go_wp2_with fail
      refine (lof_any 1 _).mono ?_
      rintro e w63 ⟨rfl, hb⟩
      have hB63 := hB62.next hb
      have hK := hK.next hb
      clear hb hB62
      have HQ := cvalue_any givenK A c R d ⟨(-1), 1⟩ ⟨1, 1⟩ nm10w0 nm10w1 _ hK
      rw [nm10c] at HQ
      obtain ⟨v10, hv10⟩ : ∃ q, q = givenK.val ⟨(-1), 1⟩ ⟨1, 1⟩ := ⟨_, rfl⟩
      rw [← hv10] at HQ
      clear hv10
      go_wp2_with fail
      refine (HQ).mono ?_
      rintro e w64 ⟨rfl, hb⟩
      have hB64 := hB63.next hb
      clear hb hB63
      clear HQ hK
      go_upto_region 11 with fail
      have hB65 := hB64.new rfl (rB v10)
      clear hB64
      generalize w64.heap.size = g_j at *
      generalize w64.alloc _ = w65 at *
      go_wp2_with fail
      refine (given_any _).mono ?_
      rintro e w66 ⟨A, c, R, d, rfl, hF, hb⟩
      have hB66 := hB65.next hb
      have hK := hF.here
      clear hb hF hB65
      go_wp2_with fail
      refine (lof_any 1 _).mono ?_
      rintro e w67 ⟨rfl, hb⟩
      have hB67 := hB66.next hb
      have hK := hK.next hb
      clear hb hB66
      go_wp2_with fail
      refine (lof_any 11 _).mono ?_
      rintro e w68 ⟨rfl, hb⟩
      have hB68 := hB67.next hb
      have hK := hK.next hb
      clear hb hB67
      have HQ := cvalue_any givenK A c R d ⟨1, 1⟩ ⟨11, 1⟩ nm11w0 nm11w1 _ hK
      rw [nm11c] at HQ
      obtain ⟨v11, hv11⟩ : ∃ q, q = givenK.val ⟨1, 1⟩ ⟨11, 1⟩ := ⟨_, rfl⟩
      rw [← hv11] at HQ
      clear hv11
      go_wp2_with fail
      refine (HQ).mono ?_
      rintro e w69 ⟨rfl, hb⟩
      have hB69 := hB68.next hb
      clear hb hB68
      clear HQ hK
      go_upto_region 12 with fail
      have hB70 := hB69.new rfl (rB v11)
      clear hB69
      generalize w69.heap.size = g_k at *
      generalize w69.alloc _ = w70 at *
      go_wp2_with fail
      refine (given_any _).mono ?_
      rintro e w71 ⟨A, c, R, d, rfl, hF, hb⟩
      have hB71 := hB70.next hb
      have hK := hF.here
      clear hb hF hB70
      go_wp2_with fail
      refine (lof_any 2 _).mono ?_
      rintro e w72 ⟨rfl, hb⟩
      have hB72 := hB71.next hb
      have hK := hK.next hb
      clear hb hB71
      go_wp2_with fail
      refine (lof_any 1 _).mono ?_
      rintro e w73 ⟨rfl, hb⟩
      have hB73 := hB72.next hb
      have hK := hK.next hb
      clear hb hB72
      have HQ := cvalue_any givenK A c R d ⟨2, 1⟩ ⟨1, 1⟩ nm12w0 nm12w1 _ hK
      rw [nm12c] at HQ
      obtain ⟨v12, hv12⟩ : ∃ q, q = givenK.val ⟨2, 1⟩ ⟨1, 1⟩ := ⟨_, rfl⟩
      rw [← hv12] at HQ
      clear hv12
      go_wp2_with fail
      refine (HQ).mono ?_
      rintro e w74 ⟨rfl, hb⟩
      have hB74 := hB73.next hb
      clear hb hB73
      clear HQ hK
      go_upto_region 13 with fail
      have hB75 := hB74.new rfl (rB v12)
      clear hB74
      generalize w74.heap.size = g_l at *
      generalize w74.alloc _ = w75 at *
      go_wp2_with fail
      refine (given_any _).mono ?_
      rintro e w76 ⟨A, c, R, d, rfl, hF, hb⟩
      have hB76 := hB75.next hb
      have hK := hF.here
      clear hb hF hB75
      go_wp2_with fail
      refine (lof_any 0 _).mono ?_
      rintro e w77 ⟨rfl, hb⟩
      have hB77 := hB76.next hb
      have hK := hK.next hb
      clear hb hB76
      have HQ := cvalue_any givenK A c R d ⟨0, 1⟩ ⟨2, 4⟩ nm13w0 nm13w1 _ hK
      rw [nm13c] at HQ
      obtain ⟨v13, hv13⟩ : ∃ q, q = givenK.val ⟨0, 1⟩ ⟨2, 4⟩ := ⟨_, rfl⟩
      rw [← hv13] at HQ
      clear hv13
      go_wp2_with fail
      refine (HQ).mono ?_
      rintro e w78 ⟨rfl, hb⟩
      have hB78 := hB77.next hb
      clear hb hB77
      clear HQ hK
      go_upto_region 14 with fail
      have hB79 := hB78.new rfl (rB v13)
      clear hB78
      generalize w78.heap.size = g_o at *
      generalize w78.alloc _ = w79 at *
      go_wp2_with fail
      refine (given_any _).mono ?_
      rintro e w80 ⟨A, c, R, d, rfl, hF, hb⟩
      have hB80 := hB79.next hb
      have hK := hF.here
      clear hb hF hB79
      go_wp2_with fail
      refine (lof_any 0 _).mono ?_
      rintro e w81 ⟨rfl, hb⟩
      have hB81 := hB80.next hb
      have hK := hK.next hb
      clear hb hB80
      go_wp2_with fail
      refine (lof_any (-1) _).mono ?_
      rintro e w82 ⟨rfl, hb⟩
      have hB82 := hB81.next hb
      have hK := hK.next hb
      clear hb hB81
      have HQ := cmark_any givenK A c R d ⟨0, 1⟩ ⟨(-1), 1⟩ nm14w0 nm14w1 _ hK
      rw [nm14c] at HQ
      obtain ⟨v14, hv14⟩ : ∃ q, q = givenK.mark ⟨0, 1⟩ ⟨(-1), 1⟩ := ⟨_, rfl⟩
      rw [← hv14] at HQ
      clear hv14
      go_wp2_with fail
      refine (HQ).mono ?_
      rintro e w83 ⟨rfl, hb⟩
      have hB83 := hB82.next hb
      clear hb hB82
      clear HQ hK
      go_upto_region 15 with fail
      have hB84 := hB83.new rfl (rB v14)
      clear hB83
      generalize w83.heap.size = g_q at *
      generalize w83.alloc _ = w84 at *
      go_wp2_with fail
      refine (given_any _).mono ?_
      rintro e w85 ⟨A, c, R, d, rfl, hF, hb⟩
      have hB85 := hB84.next hb
      have hK := hF.here
      clear hb hF hB84
      go_wp2_with fail
      refine (lof_any 10 _).mono ?_
      rintro e w86 ⟨rfl, hb⟩
      have hB86 := hB85.next hb
      have hK := hK.next hb
      clear hb hB85
      go_wp2_with fail
      refine (lof_any 1 _).mono ?_
      rintro e w87 ⟨rfl, hb⟩
      have hB87 := hB86.next hb
      have hK := hK.next hb
      clear hb hB86
      have HQ := cmark_any givenK A c R d ⟨10, 1⟩ ⟨1, 1⟩ nm15w0 nm15w1 _ hK
      rw [nm15c] at HQ
      obtain ⟨v15, hv15⟩ : ∃ q, q = givenK.mark ⟨10, 1⟩ ⟨1, 1⟩ := ⟨_, rfl⟩
      rw [← hv15] at HQ
      clear hv15
      go_wp2_with fail
      refine (HQ).mono ?_
      rintro e w88 ⟨rfl, hb⟩
      have hB88 := hB87.next hb
      clear hb hB87
      clear HQ hK
      go_upto_region 16 with fail
      have hB89 := hB88.new rfl (rB v15)
      clear hB88
      generalize w88.heap.size = g_r at *
      generalize w88.alloc _ = w89 at *
      go_wp2_with fail
      refine (given_any _).mono ?_
      rintro e w90 ⟨A, c, R, d, rfl, hF, hb⟩
      have hB90 := hB89.next hb
      have hK := hF.here
      clear hb hF hB89
      go_wp2_with fail
      refine (lof_any 11 _).mono ?_
      rintro e w91 ⟨rfl, hb⟩
      have hB91 := hB90.next hb
      have hK := hK.next hb
      clear hb hB90
      have HQ := cdensity_any givenK A c R d ⟨11, 1⟩ nm16w0 _ hK
      rw [nm16c] at HQ
      obtain ⟨v16, hv16⟩ : ∃ q, q = givenK.den ⟨11, 1⟩ := ⟨_, rfl⟩
      rw [← hv16] at HQ
      clear hv16
      go_wp2_with fail
      refine (HQ).mono ?_
      rintro e w92 ⟨rfl, hb⟩
      have hB92 := hB91.next hb
      clear hb hB91
      clear HQ hK
      go_wp2_with fail
      refine (given_any _).mono ?_
      rintro e w93 ⟨A, c, R, d, rfl, hF, hb⟩
      have hB93 := hB92.next hb
      have hK := hF.here
      clear hb hF hB92
      have HQ := cpart_any givenK A c R d 3 3 (by decide) (by decide) (by decide) (by decide) _ hK
      rw [nm17c] at HQ
      obtain ⟨K17, hK17⟩ : ∃ q, q = givenK.part? 3 3 := ⟨_, rfl⟩
      rw [← hK17] at HQ
      clear hK17
      go_wp2_with fail
      refine HQ.mono ?_
      intro e w94 hkr
      obtain ⟨A17, c17, R17, d17, rfl, ht, hb⟩ := hkr.split
      have hB94 := hB93.next hb
      clear hb hkr HQ hK hB93
      clear ht
      go_upto_region 18 with fail
      have hB95 := hB94.new rfl (cB A17 c17 R17 d17 K17)
      clear hB94
      generalize w94.heap.size = g_t at *
      generalize w94.alloc _ = w95 at *
      go_wp2_with fail
      refine (given_any _).mono ?_
      rintro e w96 ⟨A, c, R, d, rfl, hF, hb⟩
      have hB96 := hB95.next hb
      have hK := hF.here
      clear hb hF hB95
      have HQ := cpart_any givenK A c R d 0 11 (by decide) (by decide) (by decide) (by decide) _ hK
      rw [nm18c] at HQ
      obtain ⟨K18, hK18⟩ : ∃ q, q = givenK.part? 0 11 := ⟨_, rfl⟩
      rw [← hK18] at HQ
      clear hK18
      go_wp2_with fail
      refine HQ.mono ?_
      intro e w97 hkr
      obtain ⟨A18, c18, R18, d18, rfl, hu, hb⟩ := hkr.split
      have hB97 := hB96.next hb
      clear hb hkr HQ hK hB96
      clear hu
      go_upto_region 19 with fail
      have hB98 := hB97.new rfl (cB A18 c18 R18 d18 K18)
      clear hB97
      generalize w97.heap.size = g_u at *
      generalize w97.alloc _ = w98 at *
      go_wp2_with fail
      refine (given_any _).mono ?_
      rintro e w99 ⟨A, c, R, d, rfl, hF, hb⟩
      have hB99 := hB98.next hb
      have hK := hF.here
      clear hb hF hB98
      have HQ := cvalue_any givenK A c R d ⟨1, 1000000000000000000⟩ ⟨999999999999999998, 999999999999999999⟩ nm19w0 nm19w1 _ hK
      rw [nm19c] at HQ
      obtain ⟨v19, hv19⟩ : ∃ q, q = givenK.val ⟨1, 1000000000000000000⟩ ⟨999999999999999998, 999999999999999999⟩ := ⟨_, rfl⟩
      rw [← hv19] at HQ
      clear hv19
      go_wp2_with fail
      refine (HQ).mono ?_
      rintro e w100 ⟨rfl, hb⟩
      have hB100 := hB99.next hb
      clear hb hB99
      clear HQ hK
      go_upto_region 20 with fail
      have hB101 := hB100.new rfl (rB v19)
      clear hB100
      generalize w100.heap.size = g_ww at *
      generalize w100.alloc _ = w101 at *
      go_wp2_with fail
      refine (given_any _).mono ?_
      rintro e w102 ⟨A, c, R, d, rfl, hF, hb⟩
      have hB102 := hB101.next hb
      go_upto_region 22 with fail
      have hB102n := hB102.new rfl (cB A c R d givenK)
      have hB102s := hB102n.set 0 rfl 0 (.int .i64 1001)
      have hKz : CIn _ ((w102.alloc (cB A c R d givenK)).setCell ⟨w102.heap.size, 0, none⟩ (.int .i64 1001)) A c R d givenK := hF _ (by simp) (fun g h1 h2 => by rw [heap_set_ne (by omega)]; exact Below.heap_alloc _ _ _ h2)
      have c_z := fun j => cell_of_row _ _ j _ _ _ (hB102n.get 0 rfl)
      have z_z := hB102n.lt 0 rfl
      have f_z := fun j => frozen_of_row _ _ j _ _ (hB102n.get 0 rfl)
      generalize w102.heap.size = gZ at *
      generalize w102.alloc _ = wZ at *
      go_upto_region 23 with fail
      clear c_z z_z f_z hB102n hB102 hB101 hb hF
      generalize wZ.setCell _ _ = wY at *
      have hK1 : CIn wY.heap.size wY A c R d ⟨1001, [0, 4, 6, 10], [2, 0, 3]⟩ := ⟨hKz.cuts, hKz.dens, hKz.lc, hKz.mc, hKz.ld, hKz.md, by decide, by decide⟩
      have hY := hB102s
      clear hB102s hKz
      have hmk : ∀ w, Sem.run Try.prog (Instr.makeSlice 22 (.int .i64 41) (.int .i64 41)) w = .ok (.slice (some ⟨w.heap.size, 0, none⟩) 41 41) (w.alloc (.cells (madeCells #[.int .i64 0] 41) 3)) := run_make_row' (P := Try.prog) 22 3 (.int .i64 0) 8 Try.underlying22 info3 rfl .i64 .i64 41 (by decide) (by decide)
      have c_z := fun j => cell_of_row _ _ j _ _ _ (hY.get 0 rfl)
      have z_z := hY.lt 0 rfl
      go_wp2_with fail
      refine (chk_lit ⟨1001, [0, 4, 6, 10], [2, 0, 3]⟩ 4 (by decide) A c R d _ hK1).mono ?_
      rintro e w103 ⟨rfl, hb⟩
      have hB103 := hY.next hb
      clear c_z z_z hb hY
      clear hK1
      go_wp2_with fail
      refine (chk_lit ⟨0, [], []⟩ 8 (by decide) none 0 none 0 _ (ck_none 0 (by decide) (by decide) _)).mono ?_
      rintro e w104 ⟨rfl, hb⟩
      have hB104 := hB103.next hb
      clear hb hB103
      go_wp2_with fail
      refine Calls.mono (chk_lit ⟨1, [0, 1], [0]⟩ 8 (by decide) (some ⟨_, 0, none⟩) 2 (some ⟨_, 0, none⟩) 1 _ ?_) ?_
      · exact ck_at (K := ⟨1, [0, 1], [0]⟩) (heap_old (heap_new (by first | rfl | simp))) (heap_new (by first | rfl | simp)) rfl rfl rfl rfl (by decide) (by decide) (by decide) (by decide)
      rintro e w105 ⟨rfl, hb0⟩
      have hb : Below w104.heap.size w104 w105 := bcall (by repeat (first | exact Below.refl _ _ | refine Below.alloc ?_ (by first | (simp; done) | (simp; omega) | omega) _)) (by first | (simp; done) | (simp; omega) | omega) hb0
      have hB105 := hB104.next hb
      clear hb hb0 hB104
      go_wp2_with fail
      refine Calls.mono (chk_lit ⟨1, [0, 1], [13]⟩ 8 (by decide) (some ⟨_, 0, none⟩) 2 (some ⟨_, 0, none⟩) 1 _ ?_) ?_
      · exact ck_at (K := ⟨1, [0, 1], [13]⟩) (heap_old (heap_new (by first | rfl | simp))) (heap_new (by first | rfl | simp)) rfl rfl rfl rfl (by decide) (by decide) (by decide) (by decide)
      rintro e w106 ⟨rfl, hb0⟩
      have hb : Below w105.heap.size w105 w106 := bcall (by repeat (first | exact Below.refl _ _ | refine Below.alloc ?_ (by first | (simp; done) | (simp; omega) | omega) _)) (by first | (simp; done) | (simp; omega) | omega) hb0
      have hB106 := hB105.next hb
      clear hb hb0 hB105
      go_wp2_with fail
      refine Calls.mono (chk_lit ⟨2, [0, 1, 1, 2], [1, 1, 1]⟩ 8 (by decide) (some ⟨_, 0, none⟩) 4 (some ⟨_, 0, none⟩) 3 _ ?_) ?_
      · exact ck_at (K := ⟨2, [0, 1, 1, 2], [1, 1, 1]⟩) (heap_old (heap_new (by first | rfl | simp))) (heap_new (by first | rfl | simp)) rfl rfl rfl rfl (by decide) (by decide) (by decide) (by decide)
      rintro e w107 ⟨rfl, hb0⟩
      have hb : Below w106.heap.size w106 w107 := bcall (by repeat (first | exact Below.refl _ _ | refine Below.alloc ?_ (by first | (simp; done) | (simp; omega) | omega) _)) (by first | (simp; done) | (simp; omega) | omega) hb0
      have hB107 := hB106.next hb
      clear hb hb0 hB106
      go_wp2_with fail
      refine Calls.mono (chk_lit ⟨1, List.replicate 41 0, []⟩ 4 (by decide) (some ⟨_, 0, none⟩) 41 none 0 _ ?_) ?_
      · exact ck_cuts (heap_new (by first | rfl | simp)) zeros41 (by simp) (by decide) (by decide) (by decide)
      rintro e w108 ⟨rfl, hb0⟩
      have hb : Below w107.heap.size w107 w108 := bcall (by repeat (first | exact Below.refl _ _ | refine Below.alloc ?_ (by first | (simp; done) | (simp; omega) | omega) _)) (by first | (simp; done) | (simp; omega) | omega) hb0
      have hB108 := hB107.next hb
      clear hb hb0 hB107
      go_wp2_with fail
      refine Calls.mono (chk_lit ⟨1, [0, 1], []⟩ 8 (by decide) (some ⟨_, 0, none⟩) 2 none 0 _ ?_) ?_
      · exact ck_cuts (heap_new (by first | rfl | simp)) rfl rfl (by decide) (by decide) (by decide)
      rintro e w109 ⟨rfl, hb0⟩
      have hb : Below w108.heap.size w108 w109 := bcall (by repeat (first | exact Below.refl _ _ | refine Below.alloc ?_ (by first | (simp; done) | (simp; omega) | omega) _)) (by first | (simp; done) | (simp; omega) | omega) hb0
      have hB109 := hB108.next hb
      clear hb hb0 hB108
      go_wp2_with fail
      refine Calls.mono (same_none (some ⟨_, 0, none⟩) 0 _ ?_) ?_
      · exact ck_cuts (heap_new (by first | rfl | simp)) rfl rfl (by decide) (by decide) (by decide)
      rintro e w110 ⟨rfl, hb0⟩
      have hb : Below w109.heap.size w109 w110 := bcall (by repeat (first | exact Below.refl _ _ | refine Below.alloc ?_ (by first | (simp; done) | (simp; omega) | omega) _)) (by first | (simp; done) | (simp; omega) | omega) hb0
      have hB110 := hB109.next hb
      clear hb hb0 hB109
      go_wp2_with fail
      refine (alive_any _).mono ?_
      rintro e w111 ⟨rfl, hb⟩
      have hB111 := hB110.next hb
      clear hb hB110
      have HE2 := Lib.hid hB111.below
      clear hB111
      go_wp2_with fail
      go_ret
      exact ⟨rfl, HE2.out⟩
end Go.Proofs.Ytgcbmnohhbcfiaa
