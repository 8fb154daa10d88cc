/- EstatePool returns true for every estate, heir, item and amount. -/
import Derived.Test.YtedgdmblpjfaiaaPoolW
namespace Go.Proofs.Ytedgdmblpjfaiaa
open Go.RowKit Go.Deep
set_option linter.unusedVariables false
set_option linter.unusedSimpArgs false

theorem share_le_S {E : Est} (h : E.Ok) (a : Nat) (ha : a < E.n) : E.share a ≤ E.S := by
  have q := sumTo_le_of_nonneg (f := E.share) (i := a + 1) (n := E.n) (fun j hj => by have := h.share_bd j hj; omega) ha
  rw [sumTo] at q
  have := h.sum_le a (by omega)
  unfold Est.S
  omega

set_option maxRecDepth 100000 in
set_option maxHeartbeats 8000000 in
theorem pool_walk (E : Est) (A : Option Addr) (c : Nat) (R : Option Addr) (d : Nat) (hi it mo : Int) (w : World) (h : EIn w.heap.size w A c R d E) (whi : (Lit.int .i64 hi).wf = true) (wit : (Lit.int .i64 it).wf = true) (wmo : (Lit.int .i64 mo).wf = true) :
    Calls Try.prog 5 #[eV A c R d E, .int .i64 hi, .int .i64 it, .int .i64 mo] w fun e w' => e = .returned (.bool true) ∧ Below w.heap.size w w' := by
  have hW0 := EstIn.start h
  clear h
  obtain ⟨i0, hi0, hz0, hz1, hz2⟩ := info_parts info3
  obtain ⟨j0, hj0, kz0, kz1, kz2⟩ := info_parts info22z
  go_enter Try.func5, Try.ntmps5
  try dsimp only [List.append]
  go_wp2_with fail
  refine (alive_any _).mono ?_
  rintro e w1 ⟨rfl, hb1⟩
  have hW1 := hW0.next hb1
  have cbx := fun j => cell_of_row w1 _ j _ _ _ hW1.bx
  clear hb1 hW0
  go_wp2_with fail
  refine (check_ref E A c R d _ hW1.e).mono ?_
  rintro e w2 ⟨rfl, hb2⟩
  have hW2 := hW1.next hb2
  clear hb2 hW1 cbx
  have cbx := fun j => cell_of_row w2 _ j _ _ _ hW2.bx
  by_cases hc : E.code = 0
  rotate_left
  · have q1 : (E.code != 0) = true := by simpa using hc
    clear hc
    go_wp2_with fail
    go_ret
    exact ⟨rfl, hW2.below⟩
  have q1 : (E.code != 0) = false := by simpa using hc
  have hE := Est.ok_of_code hc
  have HC := Lib.hid hc
  have HE := Lib.hid hE
  have hn10 : E.sh.length ≤ 10 := hE.n10
  have hn1 : 1 ≤ E.sh.length := hE.n1
  have hbl : E.bd.length = E.sh.length := hE.rows
  have HBL := Lib.hid hbl
  have hm30 := hE.m30
  have HP0 := Lib.hid hE.pool_nonneg
  clear hc hE hbl
  go_wp2_with fail
  refine (pool_ok HC.out hW2.e).mono ?_
  rintro e w3 ⟨rfl, hb3⟩
  have hW3 := hW2.next hb3
  clear hb3 hW2 cbx
  have cbx := fun j => cell_of_row w3 _ j _ _ _ hW3.bx
  obtain ⟨bd0, R0, c0, rfl, hbd0, hcell0, hcl0, hcm0, hr0⟩ := hW3.e.bd.at_ (i := 0) (by have := HBL.out; omega)
  have HR0 := Lib.hid hr0
  have hm0 : (gr E.bd 0).length = E.m := rfl
  go_wp2_with fail
  clear cbx
  go_loopw [13] (fun i wr => ∃ k : Nat, k ≤ E.sh.length ∧ i = .int .i64 k ∧ ∃ v, YW E A c (.slice R0 (gr E.bd 0).length c0) w3 k v wr) (fun i _ => E.sh.length - (intOf i).toNat)
  case atStart => exact ⟨0, Nat.zero_le _, rfl, _, YW.start E A c _ w3⟩
  case round =>
    obtain ⟨k, hk, rfl, v, hS⟩ := hrel
    have hW4 := hW3.next hS.below
    have cbx := fun j => cell_of_row wr _ j _ _ _ hW4.bx
    have cY := fun j => cell_of_row wr _ j _ _ _ hS.y
    have fY := fun j => frozen_of_row wr _ j _ _ hS.y
    have z1 := lt_some hS.y
    by_cases hlt : k < E.sh.length
    · have c1 : wr.cell? (bd0.add 0) = some (.slice R0 (gr E.bd 0).length c0) := (hS.below.cell (p := bd0.add 0) (by rw [block_add]; exact hbd0)).trans hcell0
      have c1' : wr.cell? bd0 = some (.slice R0 (gr E.bd 0).length c0) := by simpa [Addr.add] using c1
      have i1 : (k : Int) < (E.sh.length : Int) := by omega
      have i2 : (0 : Int) < (E.bd.length : Int) := by have := HBL.out; omega
      have i3 : 0 < E.bd.length := by omega
      have cY0 := cY 1
      have fY0 := fY 1
      simp at cY0
      clear cY fY
      have fGa := fun o => frozen_of_row (wr.alloc o) _ 1 _ _ (heap_old hS.y)
      have HK := Lib.hid (fun (o : Obj) (w1 : World) (hg : ((wr.alloc o).drew).grownBy w1 v.ownBlock) => grown_cells hS.x hg)
      go_upto_region 9 with fail
      go_region_law (first | (refine step_append_lies _ (by rfl) _ _ _ (by rfl) (w3.heap.size + 1) 22 j0 _ 1 24 Try.underlying23 hj0 kz0 kz1 kz2 rfl (by omega) v k (List.replicate k (.slice R0 (gr E.bd 0).length c0)) (by simp [Act.eval, Act.put]) ((hS.x.alloc _).drew) ⟨wr.heap.size, 0, none⟩ 1 1 [.slice R0 (gr E.bd 0).length c0] (by simp [Act.eval, Act.put]) (by rfl) (World.news_of_block (cs := #[.slice R0 (gr E.bd 0).length c0]) (t := 22) (fr := (0, 0)) (heap_alloc_new wr _)) (one_slice _ _ _) (by omega) (by unfold maxLen; omega) (by omega) (by simp; omega) (wr.heap.size + 1) (by simp) ?_; intro g cap w5 hown' hgrow hat hlt'; have q2 := ((HK.out _ w5 hgrow ⟨w3.heap.size, 1, none⟩ (by simp) (by simpa using z1)).1).trans cY0; have q3 := ((HK.out _ w5 hgrow ⟨w3.heap.size, 1, none⟩ (by simp) (by simpa using z1)).2).trans fY0))
      all_goals
        have HW9 := Lib.hid (hS.step hown' (grown_drew hgrow))
        clear hown' hgrow hat hlt' q2 q3 hS
        go_wp2_with fail
        go_roundw
        case rel => exact ⟨k + 1, by omega, by go_num, _, HW9.out⟩
        case measure => simp [intOf]; omega
    · obtain rfl : k = E.sh.length := by omega
      unfold maxLen at hcm0
      obtain ⟨R1, d1, rfl, hF⟩ := alike_in HE.out hW3 hcl0 (by unfold maxLen; omega) HR0.out hS
      have hFc := Est.alike_code HE.out
      have hFp := Est.alike_pool HE.out
      have HM := Lib.hid (Est.alike_m HE.out)
      generalize E.alike = F at hF hFc hFp HM cY ⊢
      have HF := Lib.hid hFc
      have hW5 := hW4
      clear hS hW4 cY fY z1 cbx hFc
      have cbx := fun j => cell_of_row wr _ j _ _ _ hW5.bx
      have cby := fun j => cell_of_row wr _ j _ _ _ hF.bx
      go_wp2_with fail
      have HQ := Lib.hid (pool_ok HF.out hF.e)
      rw [hFp] at HQ
      refine HQ.out.mono ?_
      rintro e w6 ⟨rfl, hb6⟩
      have hW6 := hW5.next hb6
      clear hb6 hF cby cbx HQ HF hW5 hFp HM
      have cbx := fun j => cell_of_row w6 _ j _ _ _ hW6.bx
      have p0 : decide (E.pool < 0) = false := by have := HP0.out; rw [decide_eq_false_iff_not]; omega
      have cellsIn := hW6.e.bd.at_ (i := 0) (by have := HBL.out; omega)
      obtain ⟨bd1, R1, c1, e1, _, cc1, _, _, _⟩ := cellsIn
      obtain rfl : bd0 = bd1 := by simpa using e1
      have cc1' : w6.cell? bd0 = some (.slice R1 (gr E.bd 0).length c1) := by simpa [Addr.add] using cc1
      have i3 : 0 < E.bd.length := by have := HBL.out; omega
      clear e1 hW3 hr0 HR0 hcell0 HP0
      by_cases g1 : hi < 0
      · have r1 : decide (hi < 0) = true := by simpa using g1
        go_wp2_with fail
        go_ret
        exact ⟨rfl, hW6.below⟩
      have r1 : decide (hi < 0) = false := by simpa using g1
      by_cases g2 : (E.sh.length : Int) ≤ hi
      · have r2 : decide ((E.sh.length : Int) ≤ hi) = true := by simpa using g2
        go_wp2_with fail
        go_ret
        exact ⟨rfl, hW6.below⟩
      have r2 : decide ((E.sh.length : Int) ≤ hi) = false := by simpa using g2
      by_cases g3 : it < 0
      · have r3 : decide (it < 0) = true := by simpa using g3
        go_wp2_with fail
        go_ret
        exact ⟨rfl, hW6.below⟩
      have r3 : decide (it < 0) = false := by simpa using g3
      by_cases g4 : ((gr E.bd 0).length : Int) ≤ it
      · have r4 : decide (((gr E.bd 0).length : Int) ≤ it) = true := by simpa using g4
        go_wp2_with fail
        go_ret
        exact ⟨rfl, hW6.below⟩
      have r4 : decide (((gr E.bd 0).length : Int) ≤ it) = false := by simpa using g4
      by_cases g5 : mo < 0
      · have r5 : decide (mo < 0) = true := by simpa using g5
        go_wp2_with fail
        go_ret
        exact ⟨rfl, hW6.below⟩
      have r5 : decide (mo < 0) = false := by simpa using g5
      obtain ⟨a, rfl⟩ : ∃ a : Nat, hi = a := ⟨hi.toNat, by omega⟩
      obtain ⟨b, rfl⟩ : ∃ b : Nat, it = b := ⟨it.toNat, by omega⟩
      have ha : a < E.sh.length := by omega
      have hab : a < E.bd.length := by have := HBL.out; omega
      have hb : b < E.m := by omega
      have r2n : decide (E.sh.length ≤ a) = false := by rw [decide_eq_false_iff_not]; omega
      have r4n : decide ((gr E.bd 0).length ≤ b) = false := by rw [decide_eq_false_iff_not]; omega
      have r2m : ¬ E.sh.length ≤ a := by omega
      have r4m : ¬ (gr E.bd 0).length ≤ b := by omega
      have hrl : (gr E.bd a).length = E.m := HE.out.len a ha
      obtain ⟨bd2, R2, c2, e2, _, cc2, cl2, cm2, hr2⟩ := hW6.e.bd.at_ (i := a) hab
      obtain rfl : bd0 = bd2 := by simpa using e2
      obtain ⟨a2, rfl, _, cc3⟩ := hr2.at_ (k := b) (by omega)
      have i4 : (a : Int) < (E.bd.length : Int) := by omega
      have i5 : (b : Int) < ((gr E.bd a).length : Int) := by omega
      have bb0 : 0 ≤ gi (gr E.bd a) b := HE.out.bid0 a b ha hb
      have bb1 : gi (gr E.bd a) b ≤ 1000000 := HE.out.bid1 a b ha hb
      have s0 : IntKind.i64.wrap (1000000 - gi (gr E.bd a) b) = 1000000 - gi (gr E.bd a) b := IntWalk.i64_in _ (by omega)
      by_cases g6 : 1000000 - gi (gr E.bd a) b < mo
      · have r6 : decide (1000000 - gi (gr E.bd a) b < mo) = true := by simpa using g6
        go_wp2_with fail
        go_ret
        exact ⟨rfl, hW6.below⟩
      have r6 : decide (1000000 - gi (gr E.bd a) b < mo) = false := by simpa using g6
      have HG := Lib.hid (show 0 ≤ mo ∧ mo ≤ 1000000 - E.bid a b from ⟨by omega, by show mo ≤ 1000000 - gi (gr E.bd a) b; omega⟩)
      have hmb := HG.out
      go_wp2_with fail
      clear cbx cc1 cc1' cc2 cc3 p0 e2 hr2 cl2 cm2 i4 i5 s0 bb0 bb1
      clear r2n r4n r2m r4m r1 r2 r3 r4 r5 r6 g1 g2 g3 g4 g5 g6
      go_loopw [17] (fun i wr => ∃ k : Nat, k ≤ E.bd.length ∧ i = .int .i64 k ∧ ∃ v xs b, ZW E A c w6 (E.bd.take k) v xs b wr) (fun i _ => E.bd.length - (intOf i).toNat)
      case atStart => exact ⟨0, Nat.zero_le _, rfl, _, _, _, by simpa using ZW.start E A c w6⟩
      case round =>
        obtain ⟨k, hk, rfl, v, xs, bf, hS⟩ := hrel
        have hW7 := hW6.next hS.below
        have cbx := fun j => cell_of_row wr _ j _ _ _ hW7.bx
        have cY := fun j => cell_of_row wr _ j _ _ _ hS.z
        have fY := fun j => frozen_of_row wr _ j _ _ hS.z
        have z1 := lt_some hS.z
        by_cases hlt : k < E.bd.length
        · obtain ⟨bd2, R2, c2, e2, hbb2, cc2, cl2, cm2, hr2⟩ := hW7.e.bd.at_ hlt
          obtain rfl : bd0 = bd2 := by simpa using e2
          have hl30 : (gr E.bd k).length ≤ 30 := by have := HE.out.len k (by have := HBL.out; have e : E.n = E.sh.length := rfl; omega); unfold Est.row at this; omega
          have i1 : (k : Int) < (E.bd.length : Int) := by omega
          have cY0 := cY 1
          have fY0 := fY 1
          simp at cY0
          clear cY fY e2
          have hlen : (E.bd.take k).length = k := by rw [List.length_take]; omega
          have htk : E.bd.take (k + 1) = E.bd.take k ++ [gr E.bd k] := by rw [List.take_add_one, List.getElem?_eq_getElem hlt, gr_get hlt]; rfl
          have hown := hS.rows.own
          rw [hlen] at hown
          have HOWN := Lib.hid (fun (W : World) (hW : Below wr.heap.size wr W) => ownsRow_ext hown hW)
          have HS := Lib.hid hS
          have HTK := Lib.hid htk
          have HLEN := Lib.hid hlen
          have hk10 : k ≤ 10 := by have := HBL.out; omega
          have cbA := fun j => cell_of_row (wr.alloc (.cells #[] 3)) _ j _ _ _ (heap_old hW7.bx)
          have cYA : (wr.alloc (.cells #[] 3)).cell? ⟨w6.heap.size, 1, none⟩ = some v := (World.cell?_alloc_lt wr _ ⟨w6.heap.size, 1, none⟩ z1).trans cY0
          have ccA : (wr.alloc (.cells #[] 3)).cell? (bd0.add k) = some (.slice R2 (gr E.bd k).length c2) := (World.cell?_alloc_lt wr _ (bd0.add k) (by rw [block_add]; exact hbb2)).trans cc2
          clear hS hown htk hlen
          go_upto_region 19 with fail
          go_region_law (first
            | (refine step_append_any _ (by rfl) _ _ _ (by rfl) wr.heap.size 3 i0 _ 1 8 Try.underlying22 hi0 hz0 hz1 hz2 rfl (by omega) (.slice (some ⟨wr.heap.size, 0, none⟩) 0 0) 0 [] (by simp [Act.eval, Act.put]) ((World.ownsRow_lit wr #[] 0 (Nat.le_refl _) (by unfold maxLen; omega) rfl).drew) wr.heap.size R2 (gr E.bd k).length c2 (cellsL (gr E.bd k)) (by simp [Act.eval, Act.put]) ((hr2.reads.alloc (Nat.le_refl _) _).drew) (one_cells _) (by unfold maxLen; omega) (by omega) (by simp) ?_; intro v1 w5 hown5 hg5 hat5; replace hown5 := own_zero hown5; obtain ⟨A1, d1', rfl⟩ := own_slice hown5; have HB5 := Lib.hid (fresh_below hg5 rfl); have HO5 := Lib.hid hown5; have c5 := (HB5.out.cell (p := ⟨w6.heap.size, 1, none⟩) z1).trans cY0; have c5a := (World.cell?_alloc_lt w5 (.cells #[.slice A1 (gr E.bd k).length d1'] 22) ⟨w6.heap.size, 1, none⟩ (Nat.lt_of_lt_of_le z1 HB5.out.size)).trans c5; clear hown5 hg5 hat5)
            | (refine step_append_lies _ (by rfl) _ _ _ (by rfl) (w6.heap.size + 1) 22 j0 _ 1 24 Try.underlying23 hj0 kz0 kz1 kz2 rfl (by omega) v k xs (by simp [Act.eval, Act.put]) ((HOWN.out _ HB5.out).alloc _) ⟨w5.heap.size, 0, none⟩ 1 1 [.slice A1 (gr E.bd k).length d1'] (by simp [Act.eval, Act.put]) (by rfl) (World.news_of_block (cs := #[.slice A1 (gr E.bd k).length d1']) (t := 22) (fr := (0, 0)) (heap_alloc_new w5 _)) (one_slice _ _ _) (by omega) (by unfold maxLen; omega) (by omega) (by have := HB5.out.size; simp; omega) (w5.heap.size + 1) (by simp) ?_; intro g cap w8 hown' hgrow hat hlt'; have q2 := (HS.out.cells HB5.out hgrow).1; have q3 := (HS.out.cells HB5.out hgrow).2))
          all_goals
            obtain ⟨bf', hZ⟩ := HS.out.step (l := gr E.bd k) (HB5.out.alloc HB5.out.size (.cells #[.slice A1 (gr E.bd k).length d1'] 22)) (HO5.out.alloc _) hgrow (by rw [HLEN.out]; exact hown') (by rcases hat with h | h; exact Or.inl h.symm; exact Or.inr (by rw [h]; simp [Value.ownBlock]))
            rw [← HTK.out] at hZ
            have HW9 := Lib.hid hZ
            clear hown' hgrow hat hlt' q2 q3 HS hZ HB5 HO5 HOWN cbA cYA ccA c5 c5a
            go_wp2_with fail
            go_roundw
            case rel => exact ⟨k + 1, by omega, by go_num, _, _, _, HW9.out⟩
            case measure => simp [intOf]; omega
        · obtain rfl : k = E.bd.length := by omega
          rw [List.take_length] at hS
          obtain ⟨g, cap, hxa, hcg, hfg, hBg, hgw, hZ⟩ := hS.rows.store (i := a) (k := b) hab (by rw [hrl]; exact hb) (gi (gr E.bd a) b + mo)
          obtain ⟨gz, capz, hvz, hgz, hgzl⟩ := hS.rows.own.form (by omega)
          subst hvz
          have hca := hS.rows.own.cells (g := gz) rfl a _ hxa
          rw [add_mk, Nat.zero_add] at hca
          have hZ8 : ZW E A c w6 (E.raise a b mo).bd _ xs bf (wr.setCell ⟨g, b, none⟩ (.int .i64 (gi (gr E.bd a) b + mo))) := ⟨hS.below.setCell (by show w6.heap.size ≤ g; omega) _, by rw [heap_set_ne (by omega)]; exact hS.z, hZ⟩
          obtain ⟨R8, d8, e8, hF⟩ := ZW.in hW6 hZ8
          have hlr : (E.raise a b mo).bd.length = E.bd.length := List.length_set ..
          have hW8 := hW6.next hZ8.below
          have hFc := Est.raise_code HE.out ha hb hmb.1 hmb.2
          have hFo := Lib.hid (Est.raise_own HE.out ha hb hmb.1 hmb.2)
          have hFn := Lib.hid (Est.raise_other HE.out ha hb hmb.1 hmb.2)
          have hF' : EstIn w6 (E.raise a b mo) A c R8 d8 _ := hF
          rw [hlr] at e8
          have i4 : (a : Int) < (E.bd.length : Int) := by omega
          have i5 : (b : Int) < ((gr E.bd a).length : Int) := by omega
          have bb0 : 0 ≤ gi (gr E.bd a) b := HE.out.bid0 a b ha hb
          have hmb2 : mo ≤ 1000000 - gi (gr E.bd a) b := hmb.2
          have hmb1 := hmb.1
          have s0 : IntKind.i64.wrap (gi (gr E.bd a) b + mo) = gi (gr E.bd a) b + mo := IntWalk.i64_in _ (by omega)
          have cY1 := cY 1
          simp at cY1
          have HZ8 := Lib.hid hW8
          have HF0 := Lib.hid hFc
          have HFI := Lib.hid hF'
          clear hW8 hFc hF hF' hZ8 hZ hxa hS hlr cY
          simp only [Value.slice.injEq, true_and] at e8
          obtain ⟨rfl, rfl⟩ := e8
          go_upto_region 21 with fail
          generalize wr.setCell _ _ = w8 at HZ8 HFI ⊢
          have hW8 := HZ8.out
          have hF8 := HFI.out
          clear HZ8 HFI cbx hW7 z1 hcg hfg hgw hgzl hca hgz hBg cY1
          have hFb := (Est.ok_of_code HF0.out).pool_bd
          have hFp := (Est.ok_of_code HF0.out).pool_nonneg
          generalize E.raise a b mo = F at hF8 HF0 hFo hFn hFb hFp ⊢
          have cbx := fun j => cell_of_row w8 _ j _ _ _ hW8.bx
          go_wp2_with fail
          refine (owners_ok HC.out hW8.e).mono ?_
          rintro e w9 ⟨O, oc, rfl, hO9, hb9⟩
          have hW9 := hW8.next hb9
          have hF9 := hF8.next hb9
          clear hb9 hW8 hF8 cbx
          have cbx := fun j => cell_of_row w9 _ j _ _ _ hW9.bx
          have cby := fun j => cell_of_row w9 _ j _ _ _ hF9.bx
          go_wp2_with fail
          refine (pool_ok HF0.out hF9.e).mono ?_
          rintro e wa ⟨rfl, hba⟩
          have hWa := hW9.next hba
          have hOa := hO9.next hba
          clear hba hW9 hF9 cbx cby hO9
          have cbx := fun j => cell_of_row wa _ j _ _ _ hWa.bx
          have p9 : decide (F.pool < 0) = false := by rw [decide_eq_false_iff_not]; omega
          obtain ⟨bd3, R3, c3, e3, _, cc3, _, _, _⟩ := hWa.e.bd.at_ (i := 0) i3
          obtain rfl : bd0 = bd3 := by simpa using e3
          have cc3' : wa.cell? bd0 = some (.slice R3 (gr E.bd 0).length c3) := by simpa [Addr.add] using cc3
          obtain ⟨ao, rfl, hao, co⟩ := hOa.at_ (k := b) (by rw [ownersL_length]; exact hb)
          rw [ownersL_gi hb] at co
          have i6 : (b : Int) < (E.m : Int) := by omega
          obtain ⟨asx, rfl, has, cs⟩ := hWa.e.sh.at_ ha
          have i7 : (a : Int) < (E.sh.length : Int) := by omega
          have hpb := HE.out.pool_bd
          have hsb := HE.out.share_bd a ha
          have hSb := HE.out.S_bd
          have hsa : gi E.sh a = E.share a := rfl
          have hm0 : 0 ≤ mo := hmb.1
          have hm1 : mo ≤ 1000000 := by have := hmb.2; have : 0 ≤ E.bid a b := HE.out.bid0 a b ha hb; omega
          have hd0 : 0 ≤ E.S - E.share a := by have := share_le_S HE.out a ha; omega
          have x1 : 0 ≤ mo * E.share a ∧ mo * E.share a ≤ 1000000000 := ⟨Int.mul_nonneg hm0 (by omega), by
            have := Int.mul_le_mul hm1 hsb.2 (by omega) (by omega)
            omega⟩
          have x2 : 0 ≤ mo * (E.S - E.share a) ∧ mo * (E.S - E.share a) ≤ 1000000000 := ⟨Int.mul_nonneg hm0 hd0, by
            have := Int.mul_le_mul hm1 (show E.S - E.share a ≤ 1000 by omega) hd0 (by omega)
            omega⟩
          have s1 : IntKind.i64.wrap (E.S - gi E.sh a) = E.S - gi E.sh a := IntWalk.i64_in _ (by omega)
          have s2 : IntKind.i64.wrap (mo * (E.S - gi E.sh a)) = mo * (E.S - gi E.sh a) := IntWalk.i64_in _ (by rw [hsa]; omega)
          have s3 : IntKind.i64.wrap (E.pool + mo * (E.S - gi E.sh a)) = E.pool + mo * (E.S - gi E.sh a) := IntWalk.i64_in _ (by rw [hsa]; omega)
          have s4 : IntKind.i64.wrap (mo * gi E.sh a) = mo * gi E.sh a := IntWalk.i64_in _ (by rw [hsa]; omega)
          have s5 : IntKind.i64.wrap (E.pool - mo * gi E.sh a) = E.pool - mo * gi E.sh a := IntWalk.i64_in _ (by rw [hsa]; omega)
          have HFN := Lib.hid (show E.pool - mo * gi E.sh a ≤ F.pool from hFn.out)
          have HFO := Lib.hid (show E.own b = a → F.pool = E.pool + mo * (E.S - gi E.sh a) from hFo.out)
          clear hsa x1 x2 hd0 hsb hFn hFo
          by_cases ho : E.own b = a
          · have o1 : ((E.own b : Int) == (a : Int)) = true := by simp [ho]
            have t1 : (F.pool == E.pool + mo * (E.S - gi E.sh a)) = true := by rw [← HFO.out ho]; simp
            have csx : ∀ W, Below wa.heap.size wa W → W.cell? (asx.add a) = some (.int .i64 (gi E.sh a)) := fun W hW => (hW.cell (by rw [block_add]; exact has)).trans cs
            have HSU := Lib.hid (fun (W : World) (hW : Below wa.heap.size wa W) => sumref_any E HE.out (some asx) c (some bd0) d W (hWa.next hW).e)
            have zb := lt_some hWa.bx
            have has' : (asx.add a).block < wa.heap.size := by rw [block_add]; exact has
            go_upto_region 26 with fail
            refine wp_region_ext (by kernel_rfl) (by kernel_rfl) ?_
            repeat (first | go_big_quiet_step ((go_at_call 27; exact calls_ext (HSU.out _ (Ext.h _)))) | quiet_step ((go_at_call 27; exact calls_ext (HSU.out _ (Ext.h _)))))
            refine wpQuiet_nil ?_
            rintro _ ⟨⟨w5, hb5⟩, rfl⟩
            go_wp2_with fail
            go_ret
            exact ⟨rfl, (hWa.next hb5).below⟩
          · have o1 : ((E.own b : Int) == (a : Int)) = false := by simp; omega
            have t1 : decide (E.pool - mo * gi E.sh a ≤ F.pool) = true := by rw [decide_eq_true_iff]; exact HFN.out
            go_wp2_with fail
            go_ret
            exact ⟨rfl, hWa.below⟩
end Go.Proofs.Ytedgdmblpjfaiaa
