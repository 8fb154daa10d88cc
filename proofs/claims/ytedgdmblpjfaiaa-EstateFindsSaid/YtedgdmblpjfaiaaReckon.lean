/- reckon, walked. -/
import Derived.Test.YtedgdmblpjfaiaaReckonW
import Derived.Deep.RegionHeld3
import Derived.Deep.RegionLaw
import Derived.Deep.CutRange
import Derived.Deep.DeepCutAuto
import Derived.StillTailTactics
import Derived.Outline
namespace Go.Proofs.Ytedgdmblpjfaiaa
open Go.RowKit Go.Deep
set_option linter.unusedVariables false
set_option linter.unusedSimpArgs false

theorem one_new (w : World) (x : Value) (e : TypeId) : ∀ j u, [x][j]? = some u → (w.alloc (.cells #[x] e)).cell? ((⟨w.heap.size, 0, none⟩ : Addr).add j) = some u := by
  intro j u hj
  match j, hj with
  | 0, hj => simp at hj; subst hj; simp [Addr.add]
theorem one_one (n : Int) : ∀ u ∈ [Value.int .i64 n], u.oneCell' = true := by intro u hu; simp at hu; subst hu; rfl

set_option maxRecDepth 100000 in
set_option maxHeartbeats 8000000 in
theorem reckon_any (E : Est) (hE : E.Ok) (A : Option Addr) (c : Nat) (R : Option Addr) (d : Nat) (w : World) (h : EIn w.heap.size w A c R d E) :
    Calls Try.prog 30 #[eV A c R d E] w (RkPost E A c R d w) := by
  obtain ⟨hs, hb, hsl, hsm, hbl, hbm⟩ := h
  unfold maxLen at hsm hbm
  unfold eV
  obtain ⟨i0, hi0, hz0, hz1, hz2⟩ := info_parts info3
  have HB := Lib.hid hb
  have HS := Lib.hid hs
  have HE := Lib.hid hE
  have hn10 := hE.n10
  have hm30 := hE.m30
  have hsl10 : E.sh.length ≤ 10 := hE.n10
  have hn1 : 0 < E.sh.length := hE.n1
  have HR := Lib.hid (show E.bd.length = E.sh.length from hE.rows)
  have HSUM := Lib.hid (fun (W : World) (hW : Below w.heap.size w W) => sum_any A c E.sh W ((hs.below hW).more hW.size) (by unfold maxLen; omega) (fun k hk => by
    have := hE.sum_le k hk; have e : sumTo (gi E.sh) k = sumTo E.share k := rfl; rw [e]; omega))
  have hmk := run_make_row' (P := Try.prog) 22 3 (.int .i64 0) 8 Try.underlying22 info3 rfl .i64 .i64 E.sh.length (by omega) (by omega)
  clear hb hs hE
  go_enter Try.func30, Try.ntmps30
  go_upto_region 1 with fail
  go_cut [3] (fun s3 wx => s3 = .pointer (some ⟨w.heap.size + 1 + 1, 0, none⟩) ∧ RkW E A c R d w 0 0 0 (.slice none 0 0) (.slice none 0 0) wx)
  case first =>
    go_region_held3 (fun w' => w'.cell? ⟨w.heap.size, 0, none⟩ = some (.slice A E.sh.length c) ∧ w'.cell? ⟨w.heap.size, 1, none⟩ = some (.slice R E.bd.length d)) (go_keep)
     (first | (go_at_call 34; refine (HSUM.out _ ?_).mono ?_; (repeat (first | exact Below.refl _ _ | refine Below.drew ?_ | refine Below.alloc ?_ (by first | (simp; done) | (simp; omega)) _)); rintro e w' ⟨rfl, rfl⟩))
    all_goals (go_wp2_with fail; go_meet; exact ⟨rfl, (RkW.start E A c R d w).drew⟩)
  case rest =>
    clear hmk
    obtain ⟨rfl, hW⟩ := hcut
    have hb0 : 0 < E.bd.length := by have := HR.out; omega
    obtain ⟨bd, R0, c0, rfl, _, hc0, hcl0, hcm0, _⟩ := (HB.out.below hW.below).at_ hb0
    have HM := Lib.hid (show (gr E.bd 0).length = E.m from rfl)
    have hc0' : wc.cell? bd = some (.slice R0 (gr E.bd 0).length c0) := by simpa [Addr.add] using hc0
    obtain ⟨z1, cB, cG, fG, cS, fS⟩ := hW.facts
    have i0' : (0 : Int) < (E.bd.length : Int) := by omega
    unfold maxLen at hcm0
    have hml : (gr E.bd 0).length ≤ 30 := by have := HM.out; omega
    go_wp2_with fail
    clear cB cG fG cS fS hc0 hc0' z1
    go_loopw [25] (fun i wr => ∃ k : Nat, k ≤ (gr E.bd 0).length ∧ i = .int .i64 k ∧ ∃ vO, RkW E A c (some bd) d w k k 0 vO (.slice none 0 0) wr) (fun i _ => (gr E.bd 0).length - (intOf i).toNat)
    case atStart => exact ⟨0, Nat.zero_le _, rfl, _, hW⟩
    case round =>
      clear hW
      obtain ⟨k, hk, rfl, vO, hW⟩ := hrel
      obtain ⟨z1, cB, cG, fG, cS, fS⟩ := hW.facts
      by_cases hlt : k < (gr E.bd 0).length
      · obtain ⟨wo, rfl⟩ : ∃ wo : World, wo = wr := ⟨_, rfl⟩
        go_wp2_with fail
        go_loopw [5, 31] (fun b i wi => ∃ j : Nat, j ≤ E.bd.length ∧ i = .int .i64 j ∧ b = .int .i64 (E.best k j : Nat) ∧ ∃ q, wi = wo.drewN q) (fun _ i _ => E.bd.length - (intOf i).toNat)
        case atStart => exact ⟨0, Nat.zero_le _, rfl, rfl, 0, rfl⟩
        case round =>
          obtain ⟨j, hj, rfl, rfl, q, rfl⟩ := hrel
          have hbl := HE.out.best_lt k j (by have := HR.out; have : E.n = E.sh.length := rfl; omega)
          by_cases hjt : j < E.bd.length
          · have HS' := Lib.hid (show E.best k (j + 1) = if E.bid (E.best k j) k < E.bid j k then j else E.best k j from rfl)
            obtain ⟨b, hb⟩ : ∃ b, b = E.best k j := ⟨_, rfl⟩
            rw [← hb] at hbl HS' ⊢
            have hltb : b < E.bd.length := by have := HR.out; have : E.n = E.sh.length := rfl; omega
            obtain ⟨bd1, Rj, cj, hbd1, hb', hc', hcl, hcm, hrj⟩ := (HB.out.below hW.below).at_ hjt
            obtain rfl : bd = bd1 := by simpa using hbd1
            obtain ⟨bd2, Rb, cb, hbd2, hb0', hc0', hcl0', hcm0', hrb⟩ := (HB.out.below hW.below).at_ hltb
            obtain rfl : bd = bd2 := by simpa using hbd2
            have l1 : k < (gr E.bd j).length := by have := HE.out.len j (by have := HR.out; have : E.n = E.sh.length := rfl; omega); have := HM.out; simp only [Est.row] at *; omega
            have l2 : k < (gr E.bd b).length := by have := HE.out.len b hbl; have := HM.out; simp only [Est.row] at *; omega
            obtain ⟨aj, rfl, _, cj1⟩ := hrj.at_ l1
            obtain ⟨ab, rfl, _, cb1⟩ := hrb.at_ l2
            have i1 : (j : Int) < (E.bd.length : Int) := by omega
            have i2 : (b : Int) < (E.bd.length : Int) := by omega
            have i3 : (k : Int) < ((gr E.bd j).length : Int) := by omega
            have i4 : (k : Int) < ((gr E.bd b).length : Int) := by omega
            have HBB := Lib.hid hb
            clear hb hbd1 hbd2
            unfold maxLen at hcm hcm0'
            by_cases q' : gi (gr E.bd b) k < gi (gr E.bd j) k
            · have q1 : decide (gi (gr E.bd b) k < gi (gr E.bd j) k) = true := by simpa using q'
              have HF := Lib.hid (show E.best k (j + 1) = j from HS'.out.trans (if_pos q'))
              clear q'
              go_wp2_with fail
              go_quiet (fail)
              go_wp2_with fail
              go_roundw
              case rel => exact ⟨j + 1, by omega, by go_num, by rw [HF.out], _, rfl⟩
              case measure => simp [intOf]; omega
            · have q1 : decide (gi (gr E.bd b) k < gi (gr E.bd j) k) = false := by simpa using q'
              have HF := Lib.hid (show E.best k (j + 1) = b from HS'.out.trans (if_neg q'))
              clear q'
              go_wp2_with fail
              go_quiet (fail)
              go_wp2_with fail
              go_roundw
              case rel => exact ⟨j + 1, by omega, by go_num, by rw [HF.out], _, rfl⟩
              case measure => simp [intOf]; omega
          · obtain rfl : j = E.bd.length := by omega
            have HO := Lib.hid (show E.best k E.bd.length = E.own k by rw [HR.out]; rfl)
            rw [HO.out]
            rw [HO.out] at hbl
            have hW2 := hW.drewN q
            clear hW z1 cB cG fG cS fS
            generalize wo.drewN q = wi at hW2 ⊢
            obtain ⟨z1, cB, cG, fG, cS, fS⟩ := hW2.facts
            go_upto_region 13 with (at_builtin; refine wpList_append_lies _ rfl (.tmp 55) (.tmp 57) 22 rfl (w.heap.size + 1 + 1 + 1) 3 i0 (.int .i64 0) 1 8 Try.underlying22 hi0 hz0 hz1 hz2 rfl (by omega) vO k (cellsL (ownersL E k)) rfl (hW2.ow.alloc _) ⟨wi.heap.size, 0, none⟩ 1 1 [.int .i64 (E.own k : Nat)] rfl rfl (one_new _ _ _) (one_one _) (by omega) (by unfold maxLen; omega) (by omega) (by simp; omega) (wi.heap.size + 1) (by simp) ?_; intro g cap w3 hown' hgrow hat hlt'; have hW3 := hW2.own hown' hgrow; have kG := grown_keep hW2.ow hgrow; have cG3 := fun i => cell_of_row w3 _ i _ _ _ ((kG (w.heap.size + 1 + 1) (by omega) (by omega)).trans hW2.g); have fG3 := fun i => frozen_of_row w3 _ i _ _ ((kG (w.heap.size + 1 + 1) (by omega) (by omega)).trans hW2.g))
            clear hown' hgrow hat hlt' kG cG3 fG3 cB cG fG cS fS
            generalize w3.setCell _ _ = w4 at hW3 ⊢
            obtain ⟨z1, cB, cG, fG, cS, fS⟩ := hW3.facts
            have hltb : E.own k < E.bd.length := by have := HR.out; have : E.n = E.sh.length := rfl; omega
            obtain ⟨bd2, Rb, cb, hbd2, hb0', hc0', hcl0', hcm0', hrb⟩ := (HB.out.below hW3.below).at_ hltb
            obtain rfl : bd = bd2 := by simpa using hbd2
            have l2 : k < (gr E.bd (E.own k)).length := by have := HE.out.len (E.own k) hbl; have := HM.out; simp only [Est.row] at *; omega
            obtain ⟨ab, rfl, _, cb1⟩ := hrb.at_ l2
            have cS1 := cS (E.own k) hbl
            have fS1 := fS (E.own k)
            have i1 : ((E.own k : Nat) : Int) < (E.sh.length : Int) := by have : E.n = E.sh.length := rfl; omega
            have i2 : ((E.own k : Nat) : Int) < (E.bd.length : Int) := by omega
            have i4 : (k : Int) < ((gr E.bd (E.own k)).length : Int) := by omega
            have w1 := HE.out.worthOf_bd (fun k => (E.own k : Int)) (E.own k) k hbl (by have := HM.out; omega)
            have b5 : 0 ≤ gi (gr E.bd (E.own k)) k := HE.out.bid0 _ k hbl (by have := HM.out; omega)
            have b6 : gi (gr E.bd (E.own k)) k ≤ 1000000 := HE.out.bid1 _ k hbl (by have := HM.out; omega)
            have w2 : 0 ≤ E.worth (E.own k) k ∧ E.worth (E.own k) k ≤ 1000000 * k := w1
            have s1 : IntKind.i64.wrap (E.worth (E.own k) k + gi (gr E.bd (E.own k)) k) = E.worth (E.own k) k + gi (gr E.bd (E.own k)) k := IntWalk.i64_in _ (by omega)
            have hW5 := hW3.drew
            clear hbd2 cS w1
            go_still_tail 17, (by kernel_rfl)
            change wpList _ _ _ _ _ w4.drew
            clear cB cG fG cS1 fS1 z1 fS
            generalize w4.drew = w5 at hW5 ⊢
            obtain ⟨z1, cB, cG, fG, cS, fS⟩ := hW5.facts
            have cS1 := cS (E.own k) hbl
            have fS1 := fS (E.own k)
            have HW6 := Lib.hid (hW5.worth_)
            clear cS hW5 hW3
            go_wp2
            go_roundw
            case rel => exact ⟨k + 1, by omega, by go_num, _, HW6.out⟩
            case measure => simp [intOf]; omega
      · obtain rfl : k = (gr E.bd 0).length := by omega
        rw [HM.out] at hW
        go_wp2_with fail
        clear z1 cB cG fG cS fS
        go_loopw [82] (fun i wr => ∃ j : Nat, j ≤ E.sh.length ∧ i = .int .i64 j ∧ ∃ vO vC, RkW E A c (some bd) d w E.m E.m j vO vC wr) (fun i _ => E.sh.length - (intOf i).toNat)
        case atStart => exact ⟨0, Nat.zero_le _, rfl, _, _, hW⟩
        case round =>
          clear hW
          obtain ⟨j, hj, rfl, vO, vC, hW⟩ := hrel
          by_cases hjt : j < E.sh.length
          · obtain ⟨z1, cB, cG, fG, cS, fS⟩ := hW.facts
            obtain ⟨ad, rfl, _, cs1⟩ := (HS.out.below hW.below).at_ hjt
            have hjb : j < E.bd.length := by have := HR.out; omega
            obtain ⟨bd2, Rj, cj, hbd2, hb0', hc0', hcl0', hcm0', hrj⟩ := (HB.out.below hW.below).at_ hjb
            obtain rfl : bd = bd2 := by simpa using hbd2
            have hlj : (gr E.bd j).length = E.m := HE.out.len j hjt
            have HLJ := Lib.hid hlj
            have hlj30 : (gr E.bd j).length ≤ 30 := by omega
            have i1 : (j : Int) < (E.sh.length : Int) := by omega
            have i2 : (j : Int) < (E.bd.length : Int) := by omega
            have HSJ := Lib.hid (sum_any Rj cj (gr E.bd j) wr.drew ((hrj.more hW.below.size).drew) (by unfold maxLen; omega) (fun k hk => by
              have := HE.out.row_bd j k hjt (by omega); have e : sumTo (gi (gr E.bd j)) k = sumTo (E.bid j) k := rfl; rw [e]; omega))
            have hcm := HE.out.claim_bd j hjt
            have hce : E.claim j = gi E.sh j * sumTo (gi (gr E.bd j)) (gr E.bd j).length := by rw [hlj]; rfl
            have HCE := Lib.hid hce
            rw [hce] at hcm
            have s1 : IntKind.i64.wrap (gi E.sh j * sumTo (gi (gr E.bd j)) (gr E.bd j).length) = gi E.sh j * sumTo (gi (gr E.bd j)) (gr E.bd j).length := IntWalk.i64_in _ (by omega)
            have cB1 := cB 1
            have cG5 := cG 5
            have fG5 := fG 5
            simp at cB1 cG5
            clear hbd2 hlj hce cB cG fG cS fS
            have fGa := fun o => frozen_of_row (wr.alloc o) _ 5 _ _ (heap_old hW.g)
            have HK := Lib.hid (fun (o : Obj) (w1 : World) (hg : ((wr.alloc o).drew).grownBy w1 vC.ownBlock) => grown_cells hW.cl hg)
            have hbb : bd.block < w.heap.size := hb0'
            have r1 : ∀ (W : World) (u : Value), (W.setCell ⟨w.heap.size + 1 + 1, 5, none⟩ u).cell? ⟨w.heap.size, 1, none⟩ = W.cell? ⟨w.heap.size, 1, none⟩ := fun W u => World.cell?_setCell_other W _ _ u (fun e => by simp at e)
            have r4 : ∀ (W : World) (u : Value), (W.setCell ⟨w.heap.size + 1 + 1, 5, none⟩ u).cell? (bd.add j) = W.cell? (bd.add j) := fun W u => World.cell?_setCell_other W _ _ u (fun e => by have := congrArg Addr.block e; rw [block_add] at this; simp at this; omega)
            go_upto_region 18 with fail
            go_region_law (first | (refine step_append_lies _ (by rfl) _ _ _ (by rfl) (w.heap.size + 1 + 1 + 1) 3 i0 _ 1 8 Try.underlying22 hi0 hz0 hz1 hz2 rfl (by omega) vC j (cellsL (claimsL E j)) (by simp [Act.eval, Act.put]) ((hW.cl.alloc _).drew) ⟨wr.heap.size, 0, none⟩ 1 1 [.int .i64 (gi E.sh j * sumTo (gi (gr E.bd j)) (gr E.bd j).length)] (by simp [Act.eval, Act.put]) (by rfl) (World.news_of_block (cs := #[.int .i64 (gi E.sh j * sumTo (gi (gr E.bd j)) (gr E.bd j).length)]) (t := 3) (fr := (0, 0)) (heap_alloc_new wr _)) (one_one _) (by omega) (by unfold maxLen; omega) (by omega) (by simp; omega) (wr.heap.size + 1) (by simp) ?_; intro g cap w3 hown' hgrow hat hlt'; have q2 := ((HK.out _ w3 hgrow ⟨w.heap.size + 1 + 1, 5, none⟩ (by simp) (by simpa using z1)).1).trans cG5; have q3 := ((HK.out _ w3 hgrow ⟨w.heap.size + 1 + 1, 5, none⟩ (by simp) (by simpa using z1)).2).trans fG5) | (go_simp; go_at_call 34; refine HSJ.out.mono ?_; rintro e w' ⟨rfl, rfl⟩))
            all_goals
              have hW9 := hW.claim_ (W := wr) rfl rfl rfl rfl (by rw [HCE.out]; exact hown') (grown_drew hgrow) (by rcases hat with h | h; exact Or.inl h.symm; exact Or.inr (by rw [h]; rfl))
              have HW9 := Lib.hid hW9
              clear hown' hgrow hat hlt' q2 q3 hW9 hW
              go_wp2_with fail
              go_roundw
              case rel => exact ⟨j + 1, by omega, by go_num, _, _, HW9.out⟩
              case measure => simp [intOf]; omega
          · obtain rfl : j = E.sh.length := by omega
            go_wp2_with fail
            go_ret
            exact ⟨vO, vC, rfl, hW⟩
end Go.Proofs.Ytedgdmblpjfaiaa
