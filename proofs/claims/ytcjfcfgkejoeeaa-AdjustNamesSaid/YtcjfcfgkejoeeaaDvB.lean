/- Divide of adjust, walked. -/
import Derived.Test.YtcjfcfgkejoeeaaDvD
import Derived.Test.YtcjfcfgkejoeeaaAdD
import Derived.Test.YtcjfcfgkejoeeaaRtM
import Derived.Test.YtcjfcfgkejoeeaaGrow
import Derived.Deep.DeepCutAuto
import Derived.StillTailTactics
import Derived.RegionTactic
namespace Go.Proofs.Ytcjfcfgkejoeeaa
open Go.RowKit Go.Deep
set_option linter.unusedVariables false
set_option linter.unusedSimpArgs false

set_option maxRecDepth 100000 in
set_option maxHeartbeats 16000000 in
theorem adivide_any (bs : List (List Int)) (A : Option Addr) (c : Nat) (w : World) (h : GIn w.heap.size w A c bs) :
    Calls Try.prog 15 #[gV A c bs] w (DvPost bs w) := by
  have HBel0 := Lib.hid (show Below w.heap.size w ((w.alloc (gB A c bs)).alloc (.cells #[.slice none 0 0, .int .i64 0, .int .i64 0, .int .i64 0] 29)) from (one_alloc w _).alloc (by simp) _)
  have hg0 : ((w.alloc (gB A c bs)).alloc (.cells #[.slice none 0 0, .int .i64 0, .int .i64 0, .int .i64 0] 29)).heap[w.heap.size]? = some (gB A c bs) := heap_old (heap_new rfl)
  have hr0 : ((w.alloc (gB A c bs)).alloc (.cells #[.slice none 0 0, .int .i64 0, .int .i64 0, .int .i64 0] 29)).heap[w.heap.size + 1]? = some (.cells #[.slice none 0 0, .int .i64 0, .int .i64 0, .int .i64 0] 29) := heap_new (by simp)
  obtain ⟨i0, hi0, hz0, hz1, hz2⟩ := info_parts info3
  have HB := Lib.hid h
  have HC := Lib.hid (fun (W : World) (hW : Below w.heap.size w W) => acheck_any bs A c W (h.next hW))
  have hcc := h.cap
  have hlc := h.len
  unfold maxLen at hcc
  clear h
  by_cases hc : adCode bs = 0
  rotate_left
  · have q1 : (adCode bs != 0) = true := by simpa using hc
    have HCN := Lib.hid hc
    obtain ⟨code, hcode⟩ : ∃ code, code = adCode bs := ⟨_, rfl⟩
    rw [← hcode] at q1 HC
    have HCO := Lib.hid hcode
    clear hc hcode
    go_enter Try.func15, Try.ntmps15
    go_wp2_with fail
    refine (HC.out _ HBel0.out).mono ?_
    rintro e w1 ⟨rfl, hb1⟩
    have HB1 := Lib.hid (bcall HBel0.out HBel0.out.size hb1)
    have hr1 := heap_ext hr0 hb1
    clear hb1
    have c1 := fun j => cell_of_row _ _ j _ _ _ hr1
    have f1 := fun j => frozen_of_row _ _ j _ _ hr1
    have z1 := lt_some hr1
    go_wp2_with fail
    refine bodyPost_ret (v := .tuple #[.agg #[.slice none 0 0, .int .i64 0, .int .i64 0, .int .i64 0], .int .i64 code]) (by simp [results, Try.results15, go_sem, c1, f1, z1]) rfl ?_
    exact ⟨none, 0, ⟨[], 0, ⟨0, 0⟩⟩, by rw [← HCO.out]; rfl, ⟨Ints.nil_, Nat.le_refl _, by unfold maxLen; omega, by decide, by decide, ⟨by decide, by decide, by decide, by decide⟩⟩, fun k => absurd k HCN.out, fun _ => rfl, (((HB1.out.setCell (show w.heap.size ≤ _ by simp <;> omega) _).setCell (show w.heap.size ≤ _ by simp <;> omega) _).setCell (show w.heap.size ≤ _ by simp <;> omega) _).setCell (show w.heap.size ≤ _ by simp <;> omega) _⟩
  have q1 : (adCode bs != 0) = false := by simpa using hc
  have HK := Lib.hid (ad_ok hc)
  have HC0 := Lib.hid hc
  rw [hc] at HC q1
  clear hc
  obtain ⟨n, hne⟩ : ∃ n, n = (gr bs 0).length := ⟨_, rfl⟩
  rw [← hne] at HK
  have HNE := Lib.hid hne
  clear hne
  have n10 := HK.out.n10
  have two := HK.out.two
  obtain ⟨bd, R0, c0, rfl, hb0, hc0, hl0, hm0, hi0_⟩ := HB.out.at0 (show 0 < bs.length by omega)
  obtain ⟨bd', R1, c1, hAe', hb1, hc1, hl1, hm1, hi1_⟩ := HB.out.at1 (show 1 < bs.length by omega)
  obtain rfl : bd = bd' := by simpa using hAe'
  have HI0 := Lib.hid hi0_
  have HI1 := Lib.hid hi1_
  have L0 := HK.out.l0
  have L1 := HK.out.l1
  have HF0 := Lib.hid (fun (W : World) (hb : Below w.heap.size w W) => show W.cell? bd = some (.slice R0 n c0) ∧ W.cell? ⟨bd.block, bd.off + 1, none⟩ = some (.slice R1 n c1) from
    ⟨(hb.cell hb0).trans (L0 ▸ hc0), (hb.cell (p := ⟨bd.block, bd.off + 1, none⟩) hb0).trans (L1 ▸ hc1)⟩)
  have i0b : (0 : Int) < (bs.length : Int) := by omega
  have i0n : 0 < bs.length := by omega
  have i1b : (1 : Int) < (bs.length : Int) := by omega
  have i1n : 1 < bs.length := by omega
  clear hb0 hc0 hb1 hc1 hAe' hi0_ hi1_ hl0 hl1 hm0 hm1 two L0 L1
  go_enter Try.func15, Try.ntmps15
  go_wp2_with fail
  refine (HC.out _ HBel0.out).mono ?_
  rintro e w1 ⟨rfl, hb1⟩
  have hV1 : DvIn w (some bd) c bs w1.heap.size (.slice none 0 0) (iniL bs 0) (-1) ⟨0, 1⟩ (hasTo bs 0 0) (hasTo bs 1 0) ((w1.alloc (.cells #[.slice none 0 0, .int .i64 (-1), .int .i64 0, .int .i64 1] 29)).alloc (.cells #[.int .i64 0, .int .i64 0] 68)) :=
    ⟨((bcall HBel0.out HBel0.out.size hb1).alloc (bcall HBel0.out HBel0.out.size hb1).size _).alloc (by have := (bcall HBel0.out HBel0.out.size hb1).size; simp; omega) _, heap_old (heap_old (heap_ext hg0 hb1)), heap_old (heap_old (heap_ext hr0 hb1)), lt_some (heap_ext hr0 hb1), heap_old (heap_new rfl), heap_new (by simp), World.ownsRow_nil _ _ _ _⟩
  clear hb1 hg0 hr0 HC
  have HV1 := Lib.hid hV1
  clear hV1
  go_upto_region 6 with fail
  generalize w1.heap.size = g5 at *
  generalize (w1.alloc _).alloc _ = w2 at *
  obtain ⟨⟨z0, z1, z2, z3⟩, cg, cd, fd, ch, fh⟩ := HV1.out.facts
  obtain ⟨f0, f1⟩ := HF0.out _ HV1.out.below
  go_wp2_with fail
  clear z0 z1 z2 z3 cg cd fd ch fh
  clear f0 f1
  go_loopw [7, 8, 9, 34] (fun _ _ _ i wr => ∃ (k : Nat) (v : Value), k ≤ n ∧ i = .int .i64 k ∧ DvIn w (some bd) c bs g5 v (iniL bs k) (-1) ⟨0, 1⟩ (hasTo bs 0 k) (hasTo bs 1 k) wr) (fun _ _ _ i _ => n - (intOf i).toNat)
  case atStart => exact ⟨0, _, Nat.zero_le _, rfl, HV1.out⟩
  case round =>
    obtain ⟨k, v, hk, rfl, hVr⟩ := hrel
    by_cases hlt : k < n
    · obtain ⟨rd0, rfl, hrb0, hrc0⟩ := HI0.out.at_ (show k < (gr bs 0).length by have := HK.out.l0; omega)
      obtain ⟨rd1, rfl, hrb1, hrc1⟩ := HI1.out.at_ (show k < (gr bs 1).length by have := HK.out.l1; omega)
      have HF := Lib.hid (fun (W : World) (hb : Below w.heap.size w W) => show W.cell? bd = some (.slice (some rd0) n c0) ∧ W.cell? ⟨bd.block, bd.off + 1, none⟩ = some (.slice (some rd1) n c1) ∧ W.cell? (rd0.add k) = some (.int .i64 (gi (gr bs 0) k)) ∧ W.cell? (rd1.add k) = some (.int .i64 (gi (gr bs 1) k)) from
        ⟨(HF0.out W hb).1, (HF0.out W hb).2, (hb.cell (by rw [block_add]; exact hrb0)).trans hrc0, (hb.cell (by rw [block_add]; exact hrb1)).trans hrc1⟩)
      clear hrb0 hrc0 hrb1 hrc1
      have i2 : (k : Int) < (n : Int) := by omega
      have i5 : (0 : Int) ≤ (k : Int) := by omega
      have b0 := HK.out.has (i := 0) (Or.inl rfl) hk
      have b1 := HK.out.has (i := 1) (Or.inr rfl) hk
      have v0 := HK.out.v0 k hlt
      have v1 := HK.out.v1 k hlt
      have HIS := Lib.hid (iniL_succ bs k)
      have HH0 := Lib.hid (hasTo_succ (bs := bs) 0 k)
      have HH1 := Lib.hid (hasTo_succ (bs := bs) 1 k)
      by_cases q : gi (gr bs 0) k < gi (gr bs 1) k
      · have qd : decide (gi (gr bs 0) k < gi (gr bs 1) k) = true := by simpa using q
        have hini : ini bs k = 1 := by unfold ini; rw [if_pos q]
        have HI := Lib.hid (show iniL bs (k + 1) = iniL bs k ++ [1] by rw [HIS.out, hini])
        have H1 := Lib.hid (show hasTo bs 1 (k + 1) = hasTo bs 1 k + gi (gr bs 1) k by rw [HH1.out, if_pos hini]; rfl)
        have H0 := Lib.hid (show hasTo bs 0 (k + 1) = hasTo bs 0 k by rw [HH0.out, if_neg (by rw [hini]; decide)]; omega)
        have m1 : IntKind.i64.wrap (hasTo bs 1 k + gi (gr bs 1) k) = hasTo bs 1 k + gi (gr bs 1) k := IntWalk.i64_in _ (by omega)
        have m1' : wrap64 (hasTo bs 1 k + gi (gr bs 1) k) = hasTo bs 1 k + gi (gr bs 1) k := IntWalk.wrap64_in _ (by omega)
        clear q hini HIS HH0 HH1
        have hLn := Lib.hid (iniL_length bs k)
        have hsz := hVr.below.size
        have h5 := hVr.lt
        have HVr := Lib.hid hVr
        clear hVr
        obtain ⟨⟨z0, z1, z2, z3⟩, cg, cd, fd, ch, fh⟩ := HVr.out.facts
        obtain ⟨f0, f1, f2, f3⟩ := HF.out _ HVr.out.below
        obtain ⟨owk, howk⟩ : ∃ l, l = iniL bs k := ⟨_, rfl⟩
        have HOWK := Lib.hid howk
        rw [← howk] at hLn HVr
        clear howk
        go_upto_region 13 with (at_builtin; refine wpList_append_lies _ rfl (.tmp 49) (.tmp 51) 25 rfl (g5 + 2) 3 i0 (.int .i64 0) 1 8 Try.underlying25 hi0 hz0 hz1 hz2 rfl (by omega) v owk.length (intsV owk) rfl (HVr.out.o.alloc _) ⟨wr.heap.size, 0, none⟩ 1 1 [.int .i64 1] rfl rfl (one_new _ _ _) (one_one _) (by have := hLn.out; omega) (by have := hLn.out; unfold maxLen; omega) (by have := hLn.out; omega) (by simp; omega) (wr.heap.size + 1) (by simp) ?_; intro gq capq w3 hown' hgrow hat hlt'; have HW3 := Lib.hid (HVr.out.app hown' hgrow); have kG := grown_keep HVr.out.o hgrow; have cG3 := fun i => cell_of_row w3 _ i _ _ _ ((kG g5 (by omega) (by omega)).trans HVr.out.d); have fG3 := fun i => frozen_of_row w3 _ i _ _ ((kG g5 (by omega) (by omega)).trans HVr.out.d); clear hown' hgrow hat hlt' kG)
        clear z0 z1 z2 z3 cg cd fd ch fh f0 f1 f2 f3 cG3 fG3
        generalize w3.setCell _ _ = w4 at HW3 ⊢
        rw [HOWK.out, ← HI.out] at HW3
        have hW3 := HW3.out
        clear HW3
        obtain ⟨⟨z0, z1, z2, z3⟩, cg, cd, fd, ch, fh⟩ := hW3.facts
        obtain ⟨f0, f1, f2, f3⟩ := HF.out _ hW3.below
        go_still_tail 13, (by kernel_rfl)
        change wpList _ _ _ _ _ w4.drew
        have hWD := hW3.drew
        clear hW3 z0 z1 z2 z3 cg cd fd ch fh f0 f1 f2 f3
        generalize w4.drew = w5 at hWD ⊢
        obtain ⟨⟨z0, z1, z2, z3⟩, cg, cd, fd, ch, fh⟩ := hWD.facts
        obtain ⟨f0, f1, f2, f3⟩ := HF.out _ hWD.below
        have HWE := Lib.hid (hWD.setH1 (hasTo bs 1 k + gi (gr bs 1) k))
        clear hWD
        go_wp2_with fail
        go_roundw
        case rel => exact ⟨k + 1, _, by omega, by go_num, by rw [H0.out, H1.out]; exact HWE.out⟩
        case measure => simp [intOf]; omega
      · have qd : decide (gi (gr bs 0) k < gi (gr bs 1) k) = false := by simpa using q
        have hini : ini bs k = 0 := by unfold ini; rw [if_neg q]
        have HI := Lib.hid (show iniL bs (k + 1) = iniL bs k ++ [0] by rw [HIS.out, hini])
        have H0 := Lib.hid (show hasTo bs 0 (k + 1) = hasTo bs 0 k + gi (gr bs 0) k by rw [HH0.out, if_pos hini]; rfl)
        have H1 := Lib.hid (show hasTo bs 1 (k + 1) = hasTo bs 1 k by rw [HH1.out, if_neg (by rw [hini]; decide)]; omega)
        have m1 : IntKind.i64.wrap (hasTo bs 0 k + gi (gr bs 0) k) = hasTo bs 0 k + gi (gr bs 0) k := IntWalk.i64_in _ (by omega)
        have m1' : wrap64 (hasTo bs 0 k + gi (gr bs 0) k) = hasTo bs 0 k + gi (gr bs 0) k := IntWalk.wrap64_in _ (by omega)
        clear q hini HIS HH0 HH1
        have hLn := Lib.hid (iniL_length bs k)
        have hsz := hVr.below.size
        have h5 := hVr.lt
        have HVr := Lib.hid hVr
        clear hVr
        obtain ⟨⟨z0, z1, z2, z3⟩, cg, cd, fd, ch, fh⟩ := HVr.out.facts
        obtain ⟨f0, f1, f2, f3⟩ := HF.out _ HVr.out.below
        obtain ⟨owk, howk⟩ : ∃ l, l = iniL bs k := ⟨_, rfl⟩
        have HOWK := Lib.hid howk
        rw [← howk] at hLn HVr
        clear howk
        go_upto_region 13 with (at_builtin; refine wpList_append_lies _ rfl (.tmp 49) (.tmp 51) 25 rfl (g5 + 2) 3 i0 (.int .i64 0) 1 8 Try.underlying25 hi0 hz0 hz1 hz2 rfl (by omega) v owk.length (intsV owk) rfl (HVr.out.o.alloc _) ⟨wr.heap.size, 0, none⟩ 1 1 [.int .i64 0] rfl rfl (one_new _ _ _) (one_one _) (by have := hLn.out; omega) (by have := hLn.out; unfold maxLen; omega) (by have := hLn.out; omega) (by simp; omega) (wr.heap.size + 1) (by simp) ?_; intro gq capq w3 hown' hgrow hat hlt'; have HW3 := Lib.hid (HVr.out.app hown' hgrow); have kG := grown_keep HVr.out.o hgrow; have cG3 := fun i => cell_of_row w3 _ i _ _ _ ((kG g5 (by omega) (by omega)).trans HVr.out.d); have fG3 := fun i => frozen_of_row w3 _ i _ _ ((kG g5 (by omega) (by omega)).trans HVr.out.d); clear hown' hgrow hat hlt' kG)
        clear z0 z1 z2 z3 cg cd fd ch fh f0 f1 f2 f3 cG3 fG3
        generalize w3.setCell _ _ = w4 at HW3 ⊢
        rw [HOWK.out, ← HI.out] at HW3
        have hW3 := HW3.out
        clear HW3
        obtain ⟨⟨z0, z1, z2, z3⟩, cg, cd, fd, ch, fh⟩ := hW3.facts
        obtain ⟨f0, f1, f2, f3⟩ := HF.out _ hW3.below
        go_still_tail 13, (by kernel_rfl)
        change wpList _ _ _ _ _ w4.drew
        have hWD := hW3.drew
        clear hW3 z0 z1 z2 z3 cg cd fd ch fh f0 f1 f2 f3
        generalize w4.drew = w5 at hWD ⊢
        obtain ⟨⟨z0, z1, z2, z3⟩, cg, cd, fd, ch, fh⟩ := hWD.facts
        obtain ⟨f0, f1, f2, f3⟩ := HF.out _ hWD.below
        have HWE := Lib.hid (hWD.setH0 (hasTo bs 0 k + gi (gr bs 0) k))
        clear hWD
        go_wp2_with fail
        go_roundw
        case rel => exact ⟨k + 1, _, by omega, by go_num, by rw [H0.out, H1.out]; exact HWE.out⟩
        case measure => simp [intOf]; omega
    · obtain rfl : k = n := by omega
      have HNUM := Lib.hid HK.out.num
      have HVB := Lib.hid (fun g e => (hVr.ge g e).2)
      have n0 : 0 < k := by
        rcases Nat.eq_zero_or_pos k with e | e
        · exfalso
          refine HK.out.t0 ?_
          unfold tot
          rw [HK.out.l0, e]; rfl
        · exact e
      obtain ⟨gO, cO, hvO, _, hgO⟩ := hVr.o.form (by rw [iniL_length]; exact n0)
      subst hvO
      have HOw := Lib.hid (fun j (hj : j < k) => show wr.cell? ⟨gO, j, none⟩ = some (.int .i64 (ini bs j)) from by
        rw [hVr.o.cellAt j (by rw [iniL_length, Nat.mul_one]; exact hj), intsV_at (by rw [iniL_length]; exact hj), iniL_gi hj])
      have HGO := Lib.hid hgO
      have hgo : g5 + 2 ≤ gO := (hVr.ge gO rfl).1
      have HVr := Lib.hid hVr
      clear hVr hlt hk hgO
      rw [iniL_length] at HVr
      -- who is richer
      have b0 := HK.out.has (i := 0) (Or.inl rfl) (Nat.le_refl k)
      have b1 := HK.out.has (i := 1) (Or.inr rfl) (Nat.le_refl k)
      obtain ⟨⟨z0, z1, z2, z3⟩, cg, cd, fd, ch, fh⟩ := HVr.out.facts
      go_upto_if 72 with fail
      go_cut [10] (fun s10 wx => s10 = .int .i64 (richN bs : Nat) ∧ wr = wx)
      case first =>
        by_cases hq : hasTo bs 0 k < hasTo bs 1 k
        · have hr : richN bs = 1 := by unfold richN; rw [HNUM.out, if_pos hq]
          have HR := Lib.hid hr
          have qd : decide (hasTo bs 0 k < hasTo bs 1 k) = true := by simpa using hq
          clear hr
          go_wp2_with fail
          go_meet
          exact ⟨by rw [HR.out]; rfl, rfl⟩
        · have hr : richN bs = 0 := by unfold richN; rw [HNUM.out, if_neg hq]
          have HR := Lib.hid hr
          have qd : decide (hasTo bs 0 k < hasTo bs 1 k) = false := by simpa using hq
          have hq' : hasTo bs 1 k ≤ hasTo bs 0 k := by omega
          clear hr
          go_wp2_with fail
          go_meet
          exact ⟨by rw [HR.out]; rfl, rfl⟩
      case rest =>
        obtain ⟨rfl, rfl⟩ := hcut
        obtain ⟨r, hr⟩ : ∃ r, r = richN bs := ⟨_, rfl⟩
        have HRC := Lib.hid (hr ▸ rich_cases bs)
        rw [← hr]
        have HR := Lib.hid hr
        clear hr b0 b1
        have two := HK.out.two
        have r1 : r ≤ 1 := by have := HRC.out; omega
        obtain ⟨bd1, Rr, cr, hA1, hb1, hc1, hl1, hm1, hi1⟩ := HB.out.rows.at_ (show r < bs.length by omega)
        obtain rfl : bd = bd1 := by simpa using hA1
        obtain ⟨bd2, Ro, co, hA2, hb2, hc2, hl2, hm2, hi2⟩ := HB.out.rows.at_ (show 1 - r < bs.length by omega)
        obtain rfl : bd = bd2 := by simpa using hA2
        have lr : (gr bs r).length = k := by rcases HRC.out with e | e; (rw [e]; exact HK.out.l0); (rw [e]; exact HK.out.l1)
        have lo : (gr bs (1 - r)).length = k := by rcases HRC.out with e | e; (rw [e]; exact HK.out.l1); (rw [e]; exact HK.out.l0)
        rw [lr] at hc1
        rw [lo] at hc2
        have HFR := Lib.hid (fun (W : World) (hb : Below w.heap.size w W) => show W.cell? (bd.add r) = some (.slice Rr k cr) ∧ W.cell? (bd.add (1 - r)) = some (.slice Ro k co) from
          ⟨(hb.cell (by rw [block_add]; exact hb1)).trans hc1, (hb.cell (by rw [block_add]; exact hb2)).trans hc2⟩)
        have HIR := Lib.hid hi1
        have HIO := Lib.hid hi2
        have HLR := Lib.hid lr
        have HLO := Lib.hid lo
        have j1 : (r : Int) < (bs.length : Int) := by omega
        have j2 : (0 : Int) ≤ (r : Int) := by omega
        have j3 : IntKind.i64.wrap (1 - (r : Int)) = 1 - (r : Int) := IntWalk.i64_in _ (by omega)
        have j3' : wrap64 (1 - (r : Int)) = 1 - (r : Int) := IntWalk.wrap64_in _ (by omega)
        have j4 : (1 - (r : Int)).toNat = 1 - r := by omega
        have j5 : (0 : Int) ≤ 1 - (r : Int) := by omega
        have j6 : 1 - (r : Int) < (bs.length : Int) := by omega
        have j7 : (r : Int) ≤ 1 := by omega
        clear hA1 hA2 hb1 hb2 hc1 hc2 hl1 hl2 hm1 hm2 hi1 hi2 lr lo two
        go_upto_region 18 with fail
        clear z0 z1 z2 z3 cg cd fd ch fh
        obtain ⟨N1, hN1⟩ : ∃ N, N = wr.heap.size := ⟨_, rfl⟩
        rw [← hN1] at HVB HGO
        have HN1 := Lib.hid hN1
        clear hN1
        go_cut [11, 12] (fun s11 s12 wx => ∃ g11 g12, s11 = .pointer (some ⟨g11, 0, none⟩) ∧ s12 = .pointer (some ⟨g12, 0, none⟩) ∧ DvIn w (some bd) c bs g5 (.slice (some ⟨gO, 0, none⟩) k cO) (iniL bs k) (-1) ⟨0, 1⟩ (hasTo bs 0 k) (hasTo bs 1 k) wx ∧ wx.heap[g11]? = some (.cells #[.slice Rr k cr] 25) ∧ wx.heap[g12]? = some (.cells #[.slice Ro k co] 25) ∧ N1 ≤ g11 ∧ N1 ≤ g12 ∧ g11 ≠ g12 ∧ (∀ j, j < k → wx.cell? ⟨gO, j, none⟩ = some (.int .i64 (ini bs j))))
        case first =>
          have HNX : Grows (fun wx => DvIn w (some bd) c bs g5 (.slice (some ⟨gO, 0, none⟩) k cO) (iniL bs k) (-1) ⟨0, 1⟩ (hasTo bs 0 k) (hasTo bs 1 k) wx ∧ N1 ≤ wx.heap.size ∧ (∀ j, j < k → wx.cell? ⟨gO, j, none⟩ = some (.int .i64 (ini bs j)))) := fun _ _ h hb => ⟨h.1.next hb, Nat.le_trans h.2.1 hb.size, fun j hj => (hb.cell (p := ⟨gO, j, none⟩) (h.1.ge gO rfl).2).trans (h.2.2 j hj)⟩
          have HS0 : DvIn w (some bd) c bs g5 (.slice (some ⟨gO, 0, none⟩) k cO) (iniL bs k) (-1) ⟨0, 1⟩ (hasTo bs 0 k) (hasTo bs 1 k) wr.drew ∧ N1 ≤ wr.drew.heap.size ∧ (∀ j, j < k → wr.drew.cell? ⟨gO, j, none⟩ = some (.int .i64 (ini bs j))) := ⟨HVr.out.drew, Nat.le_of_eq HN1.out, HOw.out⟩
          obtain ⟨RR, hRR⟩ : ∃ RR, RR = (fun wx => DvIn w (some bd) c bs g5 (.slice (some ⟨gO, 0, none⟩) k cO) (iniL bs k) (-1) ⟨0, 1⟩ (hasTo bs 0 k) (hasTo bs 1 k) wx ∧ N1 ≤ wx.heap.size ∧ (∀ j, j < k → wx.cell? ⟨gO, j, none⟩ = some (.int .i64 (ini bs j)))) := ⟨_, rfl⟩
          have HRT := Lib.hid (fun (wx : World) (h : RR wx) => show DvIn w (some bd) c bs g5 (.slice (some ⟨gO, 0, none⟩) k cO) (iniL bs k) (-1) ⟨0, 1⟩ (hasTo bs 0 k) (hasTo bs 1 k) wx ∧ N1 ≤ wx.heap.size ∧ (∀ j, j < k → wx.cell? ⟨gO, j, none⟩ = some (.int .i64 (ini bs j))) from by rw [hRR] at h; exact h)
          have HRM := Lib.hid (fun (wx : World) (h : DvIn w (some bd) c bs g5 (.slice (some ⟨gO, 0, none⟩) k cO) (iniL bs k) (-1) ⟨0, 1⟩ (hasTo bs 0 k) (hasTo bs 1 k) wx ∧ N1 ≤ wx.heap.size ∧ (∀ j, j < k → wx.cell? ⟨gO, j, none⟩ = some (.int .i64 (ini bs j)))) => show RR wx from by rw [hRR]; exact h)
          have HRG : Grows RR := by rw [hRR]; exact HNX
          clear hRR HNX
          refine wp_region_grown RR HRG (HRM.out _ HS0) [0, 1, 2, 3, 4, 5, 6, 7, 8, 9, 10] 15 4 (by kernel_rfl) (by kernel_rfl) ?_
          apply Exists.intro
          refine ⟨fun G hG hN => ?_, ?_⟩
          · have cg := fun (e : GE RR G) j => cell_of_row e.w _ j _ _ _ (HRT.out _ e.h).1.g
            have cr1 := fun (e : GE RR G) => (HFR.out e.w (HRT.out _ e.h).1.below).1
            have cr2 := fun (e : GE RR G) => (HFR.out e.w (HRT.out _ e.h).1.below).2
            simp only [pickOps, List.getElem?_toArray, List.getElem?_cons_zero, List.getElem?_cons_succ]
            repeat (first | go_big_quiet_step (fail) | quiet_step (fail))
            exact wpQuiet_nil rfl
          refine wpAnyE_all (rs := [11, 12]) (by kernel_rfl) (by simp) (fun W1 hW1 hRW1 i hi => ?_)
          rcases List.mem_cons.1 hi with rfl | hi
          · refine wpOp_step rfl (fun K hK => ?_)
            go_simp
            refine hK _ _ ⟨HRG _ _ hRW1 (one_alloc _ _), ?_⟩
            clear hK K
            refine wpAnyE_all (rs := [12]) (by kernel_rfl) (by simp) (fun W2 hW2 hRW2 i hi => ?_)
            obtain rfl := List.mem_singleton.1 hi
            have hx1 := heap_ext (heap_new (w := W1) (o := Obj.cells #[.slice none 0 0] 25) rfl) hW2
            refine wpOp_step rfl (fun K hK => ?_)
            go_simp
            refine hK _ _ ⟨HRG _ _ hRW2 (one_alloc _ _), ?_⟩
            clear hK K
            refine wpAnyE_all (rs := [13]) (by kernel_rfl) (by simp) (fun W3 hW3 hRW3 i hi => ?_)
            obtain rfl := List.mem_singleton.1 hi
            have hx2 := heap_ext (heap_new (w := W2) (o := Obj.cells #[.slice none 0 0] 25) rfl) hW3
            have hx1 := heap_ext (heap_old hx1) hW3
            have hne : W1.heap.size ≠ W2.heap.size := by have := hW2.size; simp at this; omega
            have s1 : N1 ≤ W1.heap.size := (HRT.out _ hRW1).2.1
            have s2 : N1 ≤ W2.heap.size := (HRT.out _ hRW2).2.1
            have g1 : gO < N1 := HVB.out gO rfl
            have n1 : (Value.slice (some ⟨gO, 0, none⟩) k cO).ownBlock ≠ some W1.heap.size := by simp [Value.ownBlock]; omega
            have n2 : (Value.slice (some ⟨gO, 0, none⟩) k cO).ownBlock ≠ some W2.heap.size := by simp [Value.ownBlock]; omega
            have hgs := hgo
            have c1 := fun j => cell_of_row _ _ j _ _ _ hx1
            have f1 := fun j => frozen_of_row _ _ j _ _ hx1
            have ST1 := Lib.hid (fun (W : World) (h : RR W) (u : Value) => HRM.out (W.setCell ⟨W1.heap.size, 0, none⟩ u) ⟨(HRT.out _ h).1.other (by omega) n1 0 u, by simpa using (HRT.out _ h).2.1, fun j hj => by rw [World.cell?_of_block (heap_set_ne (show gO ≠ W1.heap.size by omega))]; exact (HRT.out _ h).2.2 j hj⟩)
            have ST2 := Lib.hid (fun (W : World) (h : RR W) (u : Value) => HRM.out (W.setCell ⟨W2.heap.size, 0, none⟩ u) ⟨(HRT.out _ h).1.other (by omega) n2 0 u, by simpa using (HRT.out _ h).2.1, fun j hj => by rw [World.cell?_of_block (heap_set_ne (show gO ≠ W2.heap.size by omega))]; exact (HRT.out _ h).2.2 j hj⟩)
            refine wpOp_step rfl (fun K hK => ?_)
            go_simp
            refine hK _ _ ⟨ST1.out _ hRW3 _, ?_⟩
            clear hK K
            clear c1 f1
            refine wpAnyE_all (rs := [14]) (by kernel_rfl) (by simp) (fun W4 hW4 hRW4 i hi => ?_)
            obtain rfl := List.mem_singleton.1 hi
            have y5 := heap_ext (heap_set (j := 0) (u := .slice Rr k cr) hx1) hW4
            have y6 := heap_ext (by rw [heap_set_ne (Ne.symm hne)]; exact hx2) hW4
            have c1 := fun j => cell_of_row _ _ j _ _ _ y6
            have f1 := fun j => frozen_of_row _ _ j _ _ y6
            refine wpOp_step rfl (fun K hK => ?_)
            go_simp
            refine hK _ _ ⟨ST2.out _ hRW4 _, ?_⟩
            clear hK K
            clear c1 f1
            refine wpAnyE_done (by kernel_rfl) (fun W5 hW5 hR5 => ?_) _
            refine NoPanic.normal ?_
            have z6 := heap_ext (heap_set (j := 0) (u := .slice Ro k co) y6) hW5
            have z5 := heap_ext (by rw [heap_set_ne hne]; exact y5) hW5
            go_wp2_with fail
            go_meet
            exact ⟨_, _, rfl, rfl, (HRT.out _ hR5).1, z5, z6, s1, s2, hne, (HRT.out _ hR5).2.2⟩
          · obtain rfl := List.mem_singleton.1 hi
            refine wpOp_step rfl (fun K hK => ?_)
            go_simp
            refine hK _ _ ⟨HRG _ _ hRW1 (one_alloc _ _), ?_⟩
            clear hK K
            refine wpAnyE_all (rs := [11]) (by kernel_rfl) (by simp) (fun W2 hW2 hRW2 i hi => ?_)
            obtain rfl := List.mem_singleton.1 hi
            have hx1 := heap_ext (heap_new (w := W1) (o := Obj.cells #[.slice none 0 0] 25) rfl) hW2
            refine wpOp_step rfl (fun K hK => ?_)
            go_simp
            refine hK _ _ ⟨HRG _ _ hRW2 (one_alloc _ _), ?_⟩
            clear hK K
            refine wpAnyE_all (rs := [13]) (by kernel_rfl) (by simp) (fun W3 hW3 hRW3 i hi => ?_)
            obtain rfl := List.mem_singleton.1 hi
            have hx2 := heap_ext (heap_new (w := W2) (o := Obj.cells #[.slice none 0 0] 25) rfl) hW3
            have hx1 := heap_ext (heap_old hx1) hW3
            have hne : W1.heap.size ≠ W2.heap.size := by have := hW2.size; simp at this; omega
            have s1 : N1 ≤ W1.heap.size := (HRT.out _ hRW1).2.1
            have s2 : N1 ≤ W2.heap.size := (HRT.out _ hRW2).2.1
            have g1 : gO < N1 := HVB.out gO rfl
            have n1 : (Value.slice (some ⟨gO, 0, none⟩) k cO).ownBlock ≠ some W1.heap.size := by simp [Value.ownBlock]; omega
            have n2 : (Value.slice (some ⟨gO, 0, none⟩) k cO).ownBlock ≠ some W2.heap.size := by simp [Value.ownBlock]; omega
            have hgs := hgo
            have c1 := fun j => cell_of_row _ _ j _ _ _ hx2
            have f1 := fun j => frozen_of_row _ _ j _ _ hx2
            have ST1 := Lib.hid (fun (W : World) (h : RR W) (u : Value) => HRM.out (W.setCell ⟨W1.heap.size, 0, none⟩ u) ⟨(HRT.out _ h).1.other (by omega) n1 0 u, by simpa using (HRT.out _ h).2.1, fun j hj => by rw [World.cell?_of_block (heap_set_ne (show gO ≠ W1.heap.size by omega))]; exact (HRT.out _ h).2.2 j hj⟩)
            have ST2 := Lib.hid (fun (W : World) (h : RR W) (u : Value) => HRM.out (W.setCell ⟨W2.heap.size, 0, none⟩ u) ⟨(HRT.out _ h).1.other (by omega) n2 0 u, by simpa using (HRT.out _ h).2.1, fun j hj => by rw [World.cell?_of_block (heap_set_ne (show gO ≠ W2.heap.size by omega))]; exact (HRT.out _ h).2.2 j hj⟩)
            refine wpOp_step rfl (fun K hK => ?_)
            go_simp
            refine hK _ _ ⟨ST2.out _ hRW3 _, ?_⟩
            clear hK K
            clear c1 f1
            refine wpAnyE_all (rs := [14]) (by kernel_rfl) (by simp) (fun W4 hW4 hRW4 i hi => ?_)
            obtain rfl := List.mem_singleton.1 hi
            have y5 := heap_ext (heap_set (j := 0) (u := .slice Rr k cr) hx2) hW4
            have y6 := heap_ext (by rw [heap_set_ne hne]; exact hx1) hW4
            have c1 := fun j => cell_of_row _ _ j _ _ _ y6
            have f1 := fun j => frozen_of_row _ _ j _ _ y6
            refine wpOp_step rfl (fun K hK => ?_)
            go_simp
            refine hK _ _ ⟨ST1.out _ hRW4 _, ?_⟩
            clear hK K
            clear c1 f1
            refine wpAnyE_done (by kernel_rfl) (fun W5 hW5 hR5 => ?_) _
            refine NoPanic.normal ?_
            have z6 := heap_ext (heap_set (j := 0) (u := .slice Ro k co) y6) hW5
            have z5 := heap_ext (by rw [heap_set_ne (Ne.symm hne)]; exact y5) hW5
            go_wp2_with fail
            go_meet
            exact ⟨_, _, rfl, rfl, (HRT.out _ hR5).1, z5, z6, s2, s1, Ne.symm hne, (HRT.out _ hR5).2.2⟩
        case rest =>
          obtain ⟨g11, g12, rfl, rfl, hV4, h11, h12, s11, s12, hne, hOw4⟩ := hcut
          clear HOw HVr HN1
          have l11 := lt_some h11
          have l12 := lt_some h12
          have lO := (hV4.ge gO rfl).2
          have HN := Lib.hid (fun (W : World) (hb : Below wc.heap.size wc W) => show DvIn w (some bd) c bs g5 (.slice (some ⟨gO, 0, none⟩) k cO) (iniL bs k) (-1) ⟨0, 1⟩ (hasTo bs 0 k) (hasTo bs 1 k) W ∧ W.heap[g11]? = some (.cells #[.slice Rr k cr] 25) ∧ W.heap[g12]? = some (.cells #[.slice Ro k co] 25) ∧ ∀ j, j < k → W.cell? ⟨gO, j, none⟩ = some (.int .i64 (ini bs j)) from
            ⟨hV4.next hb, heap_ext h11 hb, heap_ext h12 hb, fun j hj => (hb.cell (p := ⟨gO, j, none⟩) lO).trans (hOw4 j hj)⟩)
          obtain ⟨w4, hw4⟩ : ∃ w4, w4 = wc := ⟨_, rfl⟩
          rw [← hw4] at HN l11 l12 lO
          have hB0 : Below w4.heap.size w4 wc := by rw [hw4]; exact Below.refl _ _
          have HW4 := Lib.hid hw4
          clear hw4 hV4 h11 h12 hOw4
          obtain ⟨⟨z0, z1, z2, z3⟩, cg, cd, fd, ch, fh⟩ := (HN.out _ hB0).1.facts
          go_wp2_with fail
          clear z0 z1 z2 z3 cg cd fd ch fh
          go_loopw [13, 14, 15, 87] (fun s13 _ _ i wr => ∃ (j : Nat) (v : Value), j ≤ k ∧ i = .int .i64 j ∧ v = s13 ∧ Below w4.heap.size w4 wr ∧ wr.ownsRow w4.heap.size 3 1 v (ord0 bs j).length (cellsN (ord0 bs j)) ∧ Hid (ord0 bs j = [] → v = .slice none 0 0)) (fun _ _ _ i _ => k - (intOf i).toNat)
          case atStart => exact ⟨0, _, Nat.zero_le _, rfl, rfl, hB0, World.ownsRow_nil _ _ _ _, Lib.hid (fun _ => rfl)⟩
          case round =>
            obtain ⟨j, v, hj, rfl, rfl, hBr, hor, hnil⟩ := hrel
            obtain ⟨hVr, h11, h12, hOw⟩ := HN.out _ hBr
            by_cases hlt : j < k
            · obtain ⟨rr, rfl, hrb, hrc⟩ := HIR.out.at_ (show j < (gr bs r).length by have := HLR.out; omega)
              obtain ⟨ro, rfl, hob, hoc⟩ := HIO.out.at_ (show j < (gr bs (1 - r)).length by have := HLO.out; omega)
              have cO1 := hOw j hlt
              have c11 := cell_of_row _ _ 0 _ _ _ h11
              have c12 := cell_of_row _ _ 0 _ _ _ h12
              have fo := (hVr.below.cell (by rw [block_add]; exact hob)).trans hoc
              have eo : gi (gr bs (1 - r)) j = oth bs j := by rw [HR.out]; rfl
              rw [eo] at fo
              have i2 : (j : Int) < (k : Int) := by omega
              have i5 : (0 : Int) ≤ (j : Int) := by omega
              have hlj := ord0_length bs j
              have HO := Lib.hid (ord0_succ bs j)
              have HIF := Lib.hid (inOrd_iff (bs := bs) (k := j))
              rw [← HR.out] at HIF
              have HVr := Lib.hid hVr
              have HBr := Lib.hid hBr
              clear hVr hBr h11 h12 hOw hrb hrc hob hoc eo
              by_cases hq : ini bs j = (r : Int)
              · have q1 : (ini bs j == (r : Int)) = true := by simpa using hq
                by_cases hp : 0 < oth bs j
                · have q2 : decide (0 < oth bs j) = true := by simpa using hp
                  have HE := Lib.hid (show ord0 bs (j + 1) = ord0 bs j ++ [j] by rw [HO.out, if_pos (HIF.out.2 ⟨hq, hp⟩)])
                  clear hq HO HIF
                  have hsz := HBr.out.size
                  go_wp2_with (at_builtin; refine wpList_append_lies _ rfl (.tmp 102) (.tmp 104) 25 rfl w4.heap.size 3 i0 (.int .i64 0) 1 8 Try.underlying25 hi0 hz0 hz1 hz2 rfl (by omega) v (ord0 bs j).length (cellsN (ord0 bs j)) rfl (hor.alloc _) ⟨wr.heap.size, 0, none⟩ 1 1 [.int .i64 (j : Int)] rfl rfl (one_new _ _ _) (one_one _) (by omega) (by unfold maxLen; omega) (by omega) (by simp; omega) (wr.heap.size + 1) (by simp) ?_; intro gq capq w3 hown' hgrow hat hlt'; have HO3 := Lib.hid hown'; have HB3 := Lib.hid ((HBr.out.alloc hsz _).grown hgrow (by simp; omega) (fun g e => (own_ge hor g e).1)); clear hown' hgrow hat hlt')
                  go_roundw
                  case rel => exact ⟨j + 1, _, by omega, by go_num, rfl, HB3.out, by rw [HE.out]; have := HO3.out; simpa [cellsN] using this, Lib.hid (fun e => by rw [HE.out] at e; simp at e)⟩
                  case measure => simp [intOf]; omega
                · have q2 : decide (0 < oth bs j) = false := by simpa using hp
                  have HE := Lib.hid (show ord0 bs (j + 1) = ord0 bs j by rw [HO.out, if_neg (fun e => hp (HIF.out.1 e).2)])
                  clear hq hp HO HIF
                  go_wp2_with fail
                  go_roundw
                  case rel => exact ⟨j + 1, _, by omega, by go_num, rfl, HBr.out, by rw [HE.out]; exact hor, by rw [HE.out]; exact hnil⟩
                  case measure => simp [intOf]; omega
              · have q1 : (ini bs j == (r : Int)) = false := by simpa using hq
                have HE := Lib.hid (show ord0 bs (j + 1) = ord0 bs j by rw [HO.out, if_neg (fun e => hq (HIF.out.1 e).1)])
                clear hq HO HIF
                go_wp2_with fail
                go_roundw
                case rel => exact ⟨j + 1, _, by omega, by go_num, rfl, HBr.out, by rw [HE.out]; exact hor, by rw [HE.out]; exact hnil⟩
                case measure => simp [intOf]; omega
            · obtain rfl : j = k := by omega
              have HJ := Lib.hid (show ord bs = isort (ltOf (cfD bs)) (ord0 bs j) by unfold ord; rw [HNUM.out]; rfl)
              have HD0 := Lib.hid (show divP bs = passR bs (ord bs) (iniL bs j) (hasTo bs (r : Nat) j) (hasTo bs (1 - (r : Int)) j) by unfold divP hasR hasO; rw [HNUM.out, ← HR.out])
              have hHR := HK.out.has (i := (r : Int)) (by omega) (Nat.le_refl j)
              have hHO := HK.out.has (i := 1 - (r : Int)) (by omega) (Nat.le_refl j)
              have HH0 := Lib.hid (show hasTo bs 0 j = (if r = 0 then hasTo bs (r : Nat) j else hasTo bs (1 - (r : Int)) j) from by rcases HRC.out with e | e <;> rw [e] <;> rfl)
              have HH1 := Lib.hid (show hasTo bs 1 j = (if r = 0 then hasTo bs (1 - (r : Int)) j else hasTo bs (r : Nat) j) from by rcases HRC.out with e | e <;> rw [e] <;> rfl)
              rw [HH0.out, HH1.out] at HN
              clear HH0 HH1
              generalize hasTo bs (r : Nat) j = hr0 at *
              generalize hasTo bs (1 - (r : Int)) j = ho0 at *
              obtain ⟨hVr, h11, h12, hOw⟩ := HN.out _ hBr
              have HLX := Lib.hid (show (iniL bs j).length = j from iniL_length bs j)
              obtain ⟨hcO1, hcO2⟩ : j ≤ cO ∧ cO ≤ maxLen := by
                rcases hVr.o.2 with ⟨e, _⟩ | ⟨g, cap, cur, e, _, _, x1, x2, _⟩
                · cases e
                · injection e with e1 e2 e3; subst e3; rw [iniL_length] at x1; exact ⟨x1, x2⟩
              have HCO := Lib.hid (And.intro hcO1 hcO2)
              clear hcO1 hcO2
              rcases Nat.eq_zero_or_pos (ord0 bs j).length with hz | hz
              · obtain hn := List.eq_nil_of_length_eq_zero hz
                obtain rfl := hnil.out hn
                have HOE := Lib.hid (show ord bs = [] by rw [HJ.out, hn]; rfl)
                clear hn hz hnil hor h11 h12 hOw
                have hlen := HLX
                obtain ⟨⟨z0, z1, z2, z3⟩, cg, cd, fd, ch, fh⟩ := hVr.facts
                go_wp2_with fail
                refine (stable_nil _ _).mono ?_
                rintro e w5 ⟨rfl, rfl⟩
                go_wp2_with fail
                go_loopw [112] (fun i wx => i = .int .i64 0 ∧ wr = wx) (fun _ _ => 0)
                case atStart => exact ⟨rfl, rfl⟩
                case round =>
                  obtain ⟨rfl, rfl⟩ := hrel
                  clear z0 z1 z2 z3 cg cd fd ch fh
                  obtain ⟨⟨z0, z1, z2, z3⟩, cg, cd, fd, ch, fh⟩ := hVr.facts
                  have HVF := Lib.hid hVr
                  have cr := fun i => cell_of_row _ _ i _ _ _ hVr.r
                  have fr := fun i => frozen_of_row _ _ i _ _ hVr.r
                  clear hVr
                  go_wp2_with fail
                  refine bodyPost_ret (v := .tuple #[.agg #[(.slice (some ⟨gO, 0, none⟩) j cO), .int .i64 (-1), .int .i64 (Rt.mk 0 1).n, .int .i64 (Rt.mk 0 1).d], .int .i64 0]) (by simp [results, Try.results15, go_sem, cr, fr, z2]) rfl ?_
                  exact dv_end HVF.out hlen.out HCO.out (by omega) (by omega) ⟨by decide, by decide, by decide, by decide⟩ HC0.out (by rw [HD0.out, HOE.out]; rfl) _ _ _ _ _ _ _ _
              · have HVW := HK.out.n10
                have hl2 := ord0_length bs j
                obtain ⟨g13, c13, rfl, _, _⟩ := hor.form hz
                have o13 := own_ge hor g13 rfl
                have HCMP : Hid (CmpAt w4.heap.size w4 (.pointer (some ⟨g11, 0, none⟩)) (.pointer (some ⟨g12, 0, none⟩)) j (cfD bs)) := Lib.hid (fun a b W ha hb' hBW => by
                  obtain ⟨k1, k2, k3, _⟩ := HN.out W hBW
                  exact cfD_any bs j HK.out g11 g12 Rr Ro cr co a b ha hb' W k2 k3 (by rw [← HR.out]; exact HIR.out.next k1.below) (by rw [← HR.out]; exact HIO.out.next k1.below) (by rw [← HR.out]; exact HLR.out) (by rw [← HR.out]; exact HLO.out))
                have HST := Lib.hid (stable_any w4.heap.size j w4 _ _ (cfD bs) HCMP g13 c13 (ord0 bs j) hz (by omega) (fun x hx => (ord0_mem.1 hx).1) wr hBr hBr.size hor)
                have HML := Lib.hid (show (ord bs).length = (ord0 bs j).length by rw [ord_length, HNUM.out])
                have g1 : gO < N1 := HVB.out gO rfl
                have hHR' := Lib.hid hHR
                have hHO' := Lib.hid hHO
                clear HCMP hnil hHR hHO h11 h12 hOw hVr HLX
                obtain ⟨m, hm⟩ : ∃ m, m = (ord0 bs j).length := ⟨_, rfl⟩
                rw [← hm] at HML HST hor hz hl2 ⊢
                have HM := Lib.hid hm
                clear hm
                go_wp2_with fail
                refine HST.out.mono ?_
                rintro e w5 ⟨rfl, hB5, hO5⟩
                have hP0 : PsIn w (some bd) c bs g5 gO cO r g11 g12 g13 j Rr Ro cr co (ord bs) (iniL bs j) hr0 ho0 w5 := by
                  obtain ⟨k1, k2, k3, _⟩ := HN.out w5 hB5
                  exact ⟨k1, k2, k3, fun t x e => by
                    have ht : t < (ord bs).length := (List.getElem?_eq_some_iff.1 e).1
                    rw [hO5.cellAt t (by have := HML.out; omega), ← HJ.out]; exact cellsN_at e, iniL_length _ _, (own_ge hO5 g13 rfl).2, by omega, by omega, by omega⟩
                have HP0 := Lib.hid hP0
                clear hP0 hO5 hB5 HST hor HN hBr o13 HM hz HJ
                go_wp2_with fail
                go_loopw [17, 18, 19, 20, 112] (fun _ _ _ _ i wr => ∃ (t : Nat) (ow : List Int) (hr ho : Int), t ≤ m ∧ i = .int .i64 t ∧ PsIn w (some bd) c bs g5 gO cO r g11 g12 g13 j Rr Ro cr co (ord bs) ow hr ho wr ∧ Hid (divP bs = passR bs ((ord bs).drop t) ow hr ho) ∧ (0 ≤ hr ∧ hr ≤ 10000 ∧ 0 ≤ ho ∧ ho ≤ 10000)) (fun _ _ _ _ i _ => m - (intOf i).toNat)
                case atStart => exact ⟨0, _, _, _, Nat.zero_le _, rfl, HP0.out, Lib.hid (by rw [HD0.out]; rfl), hHR'.out.1, hHR'.out.2, hHO'.out.1, hHO'.out.2⟩
                case round =>
                  obtain ⟨t, ow, hr, ho, ht, rfl, hPr, HQ, hr1, hr2, ho1, ho2⟩ := hrel
                  clear HD0 HP0 hHR' hHO'
                  by_cases hlt : t < m
                  · have htm : t < (ord bs).length := by have := HML.out; omega
                    obtain ⟨x, hx⟩ : ∃ x, x = (ord bs)[t] := ⟨_, rfl⟩
                    obtain ⟨hxn, hxo⟩ := ord_lt htm
                    rw [← hx] at hxn hxo
                    rw [HNUM.out] at hxn
                    have hxx : (ord bs)[t]? = some x := by rw [hx]; exact List.getElem?_eq_getElem htm
                    have HD := Lib.hid (show (ord bs).drop t = x :: (ord bs).drop (t + 1) by rw [hx]; exact ord_at htm)
                    have c13x := hPr.o t x hxx
                    clear hx hxx htm hxo
                    obtain ⟨rr, rfl, hrb, hrc⟩ := HIR.out.at_ (show x < (gr bs r).length by have := HLR.out; omega)
                    obtain ⟨ro, rfl, hob, hoc⟩ := HIO.out.at_ (show x < (gr bs (1 - r)).length by have := HLO.out; omega)
                    have HF := Lib.hid (fun (W : World) (hb : Below w.heap.size w W) => show W.cell? (rr.add x) = some (.int .i64 (own bs x)) ∧ W.cell? (ro.add x) = some (.int .i64 (oth bs x)) from
                      ⟨((hb.cell (by rw [block_add]; exact hrb)).trans hrc).trans (by rw [HR.out]; rfl), ((hb.cell (by rw [block_add]; exact hob)).trans hoc).trans (by rw [HR.out]; rfl)⟩)
                    have ob1 := HK.out.own_bd hxn
                    have ob2 := HK.out.oth_bd hxn
                    have HQ1 := Lib.hid (fun (q : hr - ho ≤ 0) => show divP bs = ⟨ow, -1, ⟨0, 1⟩⟩ by rw [HQ.out, HD.out, passR_stop q])
                    have HQ2 := Lib.hid (fun (q : ¬ hr - ho ≤ 0) (k : hr - ho < own bs x + oth bs x) => show divP bs = ⟨ow.set x 0, x, makeR (partOf bs (hr - ho) (own bs x + oth bs x)) (own bs x + oth bs x)⟩ by rw [HQ.out, HD.out, passR_split q k])
                    have HQ3 := Lib.hid (fun (q : ¬ hr - ho ≤ 0) (k : ¬ hr - ho < own bs x + oth bs x) => show divP bs = passR bs ((ord bs).drop (t + 1)) (ow.set x (1 - (r : Int))) (hr - own bs x) (ho + oth bs x) by rw [HQ.out, HD.out, passR_pass q k, ← HR.out])
                    clear HQ HD hrb hrc hob hoc
                    generalize own bs x = ox at *
                    generalize oth bs x = tx at *
                    have i2 : (t : Int) < (m : Int) := by omega
                    have j8 : (r : Int) < 2 := by omega
                    have j8n : r < 2 := by omega
                    have j9 : 1 - (r : Int) < 2 := by omega
                    have i5 : (0 : Int) ≤ (t : Int) := by omega
                    have i6 : (x : Int) < (j : Int) := by omega
                    have i7 : (0 : Int) ≤ (x : Int) := by omega
                    have m1 : IntKind.i64.wrap (hr - ho) = hr - ho := IntWalk.i64_in _ (by omega)
                    have m1' : wrap64 (hr - ho) = hr - ho := IntWalk.wrap64_in _ (by omega)
                    have m2 : IntKind.i64.wrap (ox + tx) = ox + tx := IntWalk.i64_in _ (by omega)
                    have m2' : wrap64 (ox + tx) = ox + tx := IntWalk.wrap64_in _ (by omega)
                    by_cases q1 : hr - ho ≤ 0
                    · have q1' : decide (hr - ho ≤ 0) = true := by simpa using q1
                      have HQE := Lib.hid (HQ1.out q1)
                      have HLW := Lib.hid hPr.len
                      clear HQ1 HQ2 HQ3 HML q1
                      obtain ⟨⟨ch0, ch1⟩, fh, c11, c12, cd, fd, fO, cO'⟩ := hPr.facts r1
                      obtain ⟨cx0, cx1⟩ := HF.out _ hPr.dv.below
                      go_upto_region 30 with fail
                      go_quiet (fail)
                      clear ch0 ch1 fh c11 c12 cd fd fO cO' cx0 cx1
                      have hP2 := hPr.drewN nq
                      clear hPr
                      generalize World.drewN _ nq = w6 at hP2 ⊢
                      obtain ⟨⟨ch0, ch1⟩, fh, c11, c12, cd, fd, fO, cO'⟩ := hP2.facts r1
                      obtain ⟨cx0, cx1⟩ := HF.out _ hP2.dv.below
                      have hDv := hP2.dv
                      clear hP2
                      clear ch0 ch1 fh c11 c12 cd fd fO cO' cx0 cx1
                      obtain ⟨⟨z0, z1, z2, z3⟩, cg, cd, fd, ch, fh⟩ := hDv.facts
                      have HVF := Lib.hid hDv
                      have cr := fun i => cell_of_row _ _ i _ _ _ hDv.r
                      have fr := fun i => frozen_of_row _ _ i _ _ hDv.r
                      clear hDv
                      go_wp2_with fail
                      refine bodyPost_ret (v := .tuple #[.agg #[(.slice (some ⟨gO, 0, none⟩) j cO), .int .i64 (-1), .int .i64 (Rt.mk 0 1).n, .int .i64 (Rt.mk 0 1).d], .int .i64 0]) (by simp [results, Try.results15, go_sem, cr, fr, z2]) rfl ?_
                      exact dv_end HVF.out HLW.out HCO.out (by omega) (by omega) ⟨by decide, by decide, by decide, by decide⟩ HC0.out HQE.out _ _ _ _ _ _ _ _
                    · have q1' : decide (hr - ho ≤ 0) = false := by simpa using q1
                      by_cases q2 : hr - ho < ox + tx
                      · have q2' : decide (hr - ho < ox + tx) = true := by simpa using q2
                        obtain ⟨pp, hpp⟩ : ∃ pp, pp = partOf bs (hr - ho) (ox + tx) := ⟨_, rfl⟩
                        have HQE := Lib.hid (show divP bs = ⟨ow.set x 0, x, makeR pp (ox + tx)⟩ by rw [HQ2.out q1 q2, hpp])
                        have HLW := Lib.hid (show (ow.set x 0).length = j by simp [hPr.len])
                        have hpp' : pp = if r = 1 then hr - ho else ox + tx - (hr - ho) := by rw [hpp, HR.out]; rfl
                        have pb : 0 < pp ∧ pp < ox + tx := by rw [hpp']; split <;> omega
                        have HPW := Lib.hid (mkR_cross pb.1 pb.2 (show ox + tx ≤ 2000 by omega))
                        have m5 : IntKind.i64.wrap (ox + tx - (hr - ho)) = ox + tx - (hr - ho) := IntWalk.i64_in _ (by omega)
                        have m5' : wrap64 (ox + tx - (hr - ho)) = ox + tx - (hr - ho) := IntWalk.wrap64_in _ (by omega)
                        have HPP := Lib.hid hpp'
                        have HMK := Lib.hid (fun (W : World) => rmake_any pp (ox + tx) (by omega) (by omega) (by omega) (by omega) W)
                        clear hpp hpp' HQ1 HQ2 HQ3 q1 q2
                        obtain ⟨⟨ch0, ch1⟩, fh, c11, c12, cd, fd, fO, cO'⟩ := hPr.facts r1
                        obtain ⟨cx0, cx1⟩ := HF.out _ hPr.dv.below
                        go_upto_region 30 with fail
                        go_quiet (fail)
                        clear ch0 ch1 fh c11 c12 cd fd fO cO' cx0 cx1
                        have hP2 := hPr.drewN nq
                        clear hPr
                        generalize World.drewN _ nq = w6 at hP2 ⊢
                        obtain ⟨⟨ch0, ch1⟩, fh, c11, c12, cd, fd, fO, cO'⟩ := hP2.facts r1
                        obtain ⟨cx0, cx1⟩ := HF.out _ hP2.dv.below
                        go_upto_region 32 with fail
                        go_quiet (fail)
                        clear ch0 ch1 fh c11 c12 cd fd fO cO' cx0 cx1
                        have hP3 := hP2.drewN nq
                        clear hP2
                        generalize World.drewN _ nq = w7 at hP3 ⊢
                        obtain ⟨⟨ch0, ch1⟩, fh, c11, c12, cd, fd, fO, cO'⟩ := hP3.facts r1
                        obtain ⟨cx0, cx1⟩ := HF.out _ hP3.dv.below
                        go_upto_if 142 with fail
                        go_cut [20] (fun s20 wx => s20 = .int .i64 pp ∧ w7 = wx)
                        case first =>
                          by_cases hq : r = 1
                          · have qd : ((r : Int) == 1) = true := by simp [hq]
                            have hpe : pp = hr - ho := by rw [HPP.out, if_pos hq]
                            have HPE := Lib.hid hpe
                            clear hpe
                            go_wp2_with fail
                            go_meet
                            exact ⟨by rw [HPE.out], rfl⟩
                          · have qd : ((r : Int) == 1) = false := by simp; omega
                            have hpe : pp = ox + tx - (hr - ho) := by rw [HPP.out, if_neg hq]
                            have HPE := Lib.hid hpe
                            clear hpe
                            go_wp2_with fail
                            go_meet
                            exact ⟨by rw [HPE.out], rfl⟩
                        case rest =>
                          obtain ⟨rfl, rfl⟩ := hcut
                          obtain ⟨y0, cy0⟩ := cO' x hxn
                          have gge := hP3.ge
                          have ne1 : g5 ≠ gO := by omega
                          have ne2 : gO ≠ g5 := by omega
                          have HV3 := Lib.hid ((hP3.setOw x 0).dv.setSp x)
                          clear hP3
                          go_wp2_with fail
                          refine (HMK.out _).mono ?_
                          rintro e w8 ⟨rfl, hb8⟩
                          have hV4 := HV3.out.next hb8
                          clear hb8 ne1 ne2 cy0
                          clear ch0 ch1 fh c11 c12 cd fd fO cO' cx0 cx1
                          obtain ⟨⟨z0, z1, z2, z3⟩, cg, cd, fd, ch, fh⟩ := hV4.facts
                          go_upto_region 43 with fail
                          clear z0 z1 z2 z3 cg cd fd ch fh
                          have hDv := hV4.setP (makeR pp (ox + tx))
                          clear hV4 HV3
                          generalize World.setCell (World.setCell _ _ _) _ _ = w9 at hDv ⊢
                          obtain ⟨⟨z0, z1, z2, z3⟩, cg, cd, fd, ch, fh⟩ := hDv.facts
                          have HVF := Lib.hid hDv
                          have cr := fun i => cell_of_row _ _ i _ _ _ hDv.r
                          have fr := fun i => frozen_of_row _ _ i _ _ hDv.r
                          clear hDv
                          go_wp2_with fail
                          refine bodyPost_ret (v := .tuple #[.agg #[(.slice (some ⟨gO, 0, none⟩) j cO), .int .i64 (x : Nat), .int .i64 (makeR pp (ox + tx)).n, .int .i64 (makeR pp (ox + tx)).d], .int .i64 0]) (by simp [results, Try.results15, go_sem, cr, fr, z2]) rfl ?_
                          exact dv_end HVF.out HLW.out HCO.out (by omega) (by omega) HPW.out.1.wf HC0.out HQE.out _ _ _ _ _ _ _ _

                      · have q2' : decide (hr - ho < ox + tx) = false := by simpa using q2
                        have HQN := Lib.hid (HQ3.out q1 q2)
                        have nb1 : 0 ≤ hr - ox ∧ hr - ox ≤ 10000 ∧ 0 ≤ ho + tx ∧ ho + tx ≤ 10000 := by omega
                        have m3 : IntKind.i64.wrap (hr - ox) = hr - ox := IntWalk.i64_in _ (by omega)
                        have m3' : wrap64 (hr - ox) = hr - ox := IntWalk.wrap64_in _ (by omega)
                        have m4 : IntKind.i64.wrap (ho + tx) = ho + tx := IntWalk.i64_in _ (by omega)
                        have m4' : wrap64 (ho + tx) = ho + tx := IntWalk.wrap64_in _ (by omega)
                        clear HQ1 HQ2 HQ3 q1 q2
                        obtain ⟨⟨ch0, ch1⟩, fh, c11, c12, cd, fd, fO, cO'⟩ := hPr.facts r1
                        obtain ⟨cx0, cx1⟩ := HF.out _ hPr.dv.below
                        go_upto_region 30 with fail
                        go_quiet (fail)
                        clear ch0 ch1 fh c11 c12 cd fd fO cO' cx0 cx1
                        have hP2 := hPr.drewN nq
                        clear hPr
                        generalize World.drewN _ nq = w6 at hP2 ⊢
                        obtain ⟨⟨ch0, ch1⟩, fh, c11, c12, cd, fd, fO, cO'⟩ := hP2.facts r1
                        obtain ⟨cx0, cx1⟩ := HF.out _ hP2.dv.below
                        go_upto_region 32 with fail
                        go_quiet (fail)
                        clear ch0 ch1 fh c11 c12 cd fd fO cO' cx0 cx1
                        have hP3 := hP2.drewN nq
                        clear hP2
                        generalize World.drewN _ nq = w7 at hP3 ⊢
                        obtain ⟨⟨ch0, ch1⟩, fh, c11, c12, cd, fd, fO, cO'⟩ := hP3.facts r1
                        obtain ⟨cx0, cx1⟩ := HF.out _ hP3.dv.below
                        obtain ⟨y0, cy0⟩ := cO' x hxn
                        go_upto_region 40 with fail
                        clear ch0 ch1 fh c11 c12 cd fd fO cO' cx0 cx1
                        have hP4 := (hP3.setOw x (1 - (r : Int)))
                        clear hP3 cy0
                        generalize w7.setCell _ _ = w8 at hP4 ⊢
                        obtain ⟨⟨ch0, ch1⟩, fh, c11, c12, cd, fd, fO, cO'⟩ := hP4.facts r1
                        obtain ⟨cx0, cx1⟩ := HF.out _ hP4.dv.below
                        go_still_tail 9, (by kernel_rfl)
                        change wpList _ _ _ _ _ w8.drew
                        have hP5 := hP4.drew
                        clear ch0 ch1 fh c11 c12 cd fd fO cO' cx0 cx1
                        clear hP4
                        generalize w8.drew = w9 at hP5 ⊢
                        obtain ⟨⟨ch0, ch1⟩, fh, c11, c12, cd, fd, fO, cO'⟩ := hP5.facts r1
                        obtain ⟨cx0, cx1⟩ := HF.out _ hP5.dv.below
                        go_upto_region 41 with fail
                        clear ch0 ch1 fh c11 c12 cd fd fO cO' cx0 cx1
                        have hP6 := hP5.setR r1 (hr - ox)
                        clear hP5
                        generalize w9.setCell _ _ = wa at hP6 ⊢
                        obtain ⟨⟨ch0, ch1⟩, fh, c11, c12, cd, fd, fO, cO'⟩ := hP6.facts r1
                        obtain ⟨cx0, cx1⟩ := HF.out _ hP6.dv.below
                        go_still_tail 10, (by kernel_rfl)
                        change wpList _ _ _ _ _ wa.drew
                        have hP7 := hP6.drew
                        clear ch0 ch1 fh c11 c12 cd fd fO cO' cx0 cx1
                        clear hP6
                        generalize wa.drew = wb at hP7 ⊢
                        obtain ⟨⟨ch0, ch1⟩, fh, c11, c12, cd, fd, fO, cO'⟩ := hP7.facts r1
                        obtain ⟨cx0, cx1⟩ := HF.out _ hP7.dv.below
                        have hP8 := Lib.hid (hP7.setO r1 (ho + tx))
                        clear hP7
                        go_wp2_with fail
                        go_roundw
                        case rel => exact ⟨t + 1, _, _, _, by omega, by go_num, hP8.out, HQN, nb1.1, nb1.2.1, nb1.2.2.1, nb1.2.2.2⟩
                        case measure => simp [intOf]; omega
                  · obtain rfl : t = m := by omega
                    have HQE := Lib.hid (show divP bs = ⟨ow, -1, ⟨0, 1⟩⟩ by rw [HQ.out, List.drop_of_length_le (by have := HML.out; omega)]; rfl)
                    have HLW := Lib.hid hPr.len
                    have hDv := hPr.dv
                    clear hPr HQ HML
                    obtain ⟨⟨z0, z1, z2, z3⟩, cg, cd, fd, ch, fh⟩ := hDv.facts
                    have HVF := Lib.hid hDv
                    have cr := fun i => cell_of_row _ _ i _ _ _ hDv.r
                    have fr := fun i => frozen_of_row _ _ i _ _ hDv.r
                    clear hDv
                    go_wp2_with fail
                    refine bodyPost_ret (v := .tuple #[.agg #[(.slice (some ⟨gO, 0, none⟩) j cO), .int .i64 (-1), .int .i64 (Rt.mk 0 1).n, .int .i64 (Rt.mk 0 1).d], .int .i64 0]) (by simp [results, Try.results15, go_sem, cr, fr, z2]) rfl ?_
                    exact dv_end HVF.out HLW.out HCO.out (by omega) (by omega) ⟨by decide, by decide, by decide, by decide⟩ HC0.out HQE.out _ _ _ _ _ _ _ _
end Go.Proofs.Ytcjfcfgkejoeeaa
