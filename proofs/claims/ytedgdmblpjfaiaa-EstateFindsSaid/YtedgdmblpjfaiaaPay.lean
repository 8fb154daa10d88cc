/- Pay of estate, walked. -/
import Derived.Test.YtedgdmblpjfaiaaPayW
import Derived.Deep.CutRange
import Derived.Deep.DeepCutAuto
import Derived.StillTailTactics
import Derived.BigRegion
import Derived.Outline
namespace Go.Proofs.Ytedgdmblpjfaiaa
open Go.RowKit Go.Deep
set_option linter.unusedVariables false
set_option linter.unusedSimpArgs false

theorem heap_drew {W : World} {g : Nat} {o : Obj} (h : W.heap[g]? = some o) : W.drew.heap[g]? = some o := h
def payL (E : Est) : List Int := mapL E.sh.length E.pay
def payR (E : Est) : List Int := if E.code = 0 then payL E else []

set_option maxRecDepth 100000 in
set_option maxHeartbeats 8000000 in
theorem pay_any (E : Est) (A : Option Addr) (c : Nat) (R : Option Addr) (d : Nat) (w : World) (h : EIn w.heap.size w A c R d E) :
    Calls Try.prog 21 #[eV A c R d E] w (ListRes w (payR E) E.code) := by
  have hW0 := EstIn.start h
  clear h
  go_enter Try.func21, Try.ntmps21
  go_wp2_with fail
  refine (exact_any E A c R d _ hW0.e).mono ?_
  rintro e w2 ⟨X, xc, rfl, hX, hb2⟩
  have hW := hW0.next hb2
  have cbx := fun j => cell_of_row w2 _ j _ _ _ hW.bx
  clear hb2 hW0
  by_cases hc : E.code = 0
  rotate_left
  · have q1 : (E.code != 0) = true := by simpa using hc
    have HN := Lib.hid hc
    clear hc
    go_wp2_with fail
    go_ret2
    exact ListRes.nil (by rw [payR, if_neg HN.out]) hW.below
  have hE := Est.ok_of_code hc
  have HC := Lib.hid hc
  have HE := Lib.hid hE
  have q1 : (E.code != 0) = false := by simpa using hc
  have hxr : exactR E = exactL E := by rw [exactR, if_pos hc]
  rw [hxr] at hX ⊢
  rw [show (exactL E).length = E.sh.length from mapL_length _ _]
  clear hxr
  have hn10 : E.sh.length ≤ 10 := hE.n10
  have hn1 : 0 < E.sh.length := hE.n1
  have HSUM := Lib.hid (sum_any A c E.sh w2 hW.e.sh (by unfold maxLen; omega) (fun k hk => by
    have := hE.sum_le k hk; have e : sumTo (gi E.sh) k = sumTo E.share k := rfl; rw [e]; omega))
  have hS := hE.S_bd
  have hD := hE.D_bd
  have HS := Lib.hid (show sumTo (gi E.sh) E.sh.length = E.S from rfl)
  rw [HS.out] at HSUM
  have HD := Lib.hid (show E.S * E.S = E.D from rfl)
  have hDD : 1 ≤ E.S * E.S ∧ E.S * E.S ≤ 1000000 := hD
  have hmk := run_make_row' (P := Try.prog) 22 3 (.int .i64 0) 8 Try.underlying22 info3 rfl .i64 .i64 E.sh.length (by omega) (by omega)
  clear hc hE
  go_upto_region 6 with (go_at_call 34; refine HSUM.out.mono ?_; rintro e w' ⟨rfl, rfl⟩)
  rw [HD.out]
  go_cut [7] (fun s7 wx => P6at E.sh.length w2 s7 wx)
  case first =>
    go_region
    all_goals go_wp2_with fail
    all_goals
      go_meet
      apply Exists.intro
      apply Exists.intro
      apply Exists.intro
      apply And.intro
      · rfl
      apply P6.mk
      case cb => (refine heap_drew ?_; repeat (first | (refine heap_new ?_; (first | rfl | (simp; done))) | refine heap_old ?_))
      case below => (refine Below.drew ?_; repeat (first | exact Below.refl _ _ | refine Below.alloc ?_ (by first | (simp; done) | (simp; omega)) _))
      case rw_ => (refine World.rowIs.drew ?_; repeat (first | (refine made_row ?_; (first | rfl | (simp; done))) | refine World.rowIs.alloc ?_ _))
      case rr => (refine World.rowIs.drew ?_; repeat (first | (refine made_row ?_; (first | rfl | (simp; done))) | refine World.rowIs.alloc ?_ _))
      all_goals omega
  case rest =>
    obtain ⟨gw, gr, gc, rfl, h6⟩ := hcut
    have hP := h6.pay (E := E) (by unfold maxLen; omega)
    have HBW := Lib.hid hW.below
    have HX := Lib.hid (hX.below (show Below w2.heap.size w2 w2 from Below.refl _ _))
    clear h6 hX hW cbx
    go_wp2_with fail
    generalize wc.heap.size = go at hP ⊢
    generalize wc.alloc _ = wp at hP ⊢
    clear hmk HSUM
    go_loopw [39] (fun i wr => ∃ k : Nat, k ≤ E.sh.length ∧ i = .int .i64 k ∧ PayW E w2 gw gr gc go k k k wr) (fun i _ => E.sh.length - (intOf i).toNat)
    case atStart => exact ⟨0, Nat.zero_le _, rfl, hP⟩
    case round =>
      clear hP
      obtain ⟨k, hk, rfl, hP⟩ := hrel
      by_cases hlt : k < E.sh.length
      · obtain ⟨ax, rfl, hax, cx⟩ := (HX.out.below hP.below).at_ (k := k) (by rw [exactL, mapL_length]; exact hlt)
        rw [exactL, mapL_gi hlt] at cx
        obtain ⟨cb, cw, cr, co, fw, fr, fo⟩ := hP.facts hlt
        have i1 : (k : Int) < (E.sh.length : Int) := by omega
        have hxb := HE.out.exact_bd k hlt
        go_upto_region 12 with fail
        have hP1 := hP.setO (v := (k : Int)) rfl
        clear hP cb cw cr co fw fr fo cx
        generalize wr.setCell _ _ = w4 at hP1 ⊢
        obtain ⟨cb, cw, cr, co, fw, fr, fo⟩ := hP1.facts hlt
        have d1 : 1 ≤ E.D := hD.1
        have d2 : E.D ≤ 1000000 := hD.2
        have d3 : ¬ E.D = 0 := by omega
        have d4 : (E.D == 0) = false := by simpa using d3
        have hre := rem_eq (x := E.exact k) (d := E.D) (by omega)
        have hrb := HE.out.rest_bd k
        have HRE := Lib.hid hre
        have hlm := Int.tmod_lt_of_pos (E.exact k) (b := E.D) (by omega)
        have hgm := Int.lt_tmod_of_pos (E.exact k) (b := E.D) (by omega)
        have s1 : IntKind.i64.wrap ((E.exact k).tmod E.D + E.D) = (E.exact k).tmod E.D + E.D := IntWalk.i64_in _ (by omega)
        have hp1 := hP1.drew
        clear hre
        go_still_tail 11, (by kernel_rfl)
        change wpList _ _ _ _ _ w4.drew
        clear cb cw cr co fw fr fo hP1
        generalize w4.drew = w5 at hp1 ⊢
        obtain ⟨cb, cw, cr, co, fw, fr, fo⟩ := hp1.facts hlt
        go_upto_region 13 with fail
        generalize hw6 : w5.setCell _ _ = w6
        have hP2 : PayW E w2 gw gr gc go (k + 1) (k + 1) k w6 := by
          rw [← hw6]; exact hp1.setR (by first | exact HRE.out | (rw [Int.tmod_eq_emod_of_nonneg (by omega)] at HRE; exact HRE.out))
        clear hw6 hp1 cb cw cr co fw fr fo s1
        have hp2 := hP2.drew
        obtain ⟨cb, cw, cr, co, fw, fr, fo⟩ := hP2.facts hlt
        rw [show upTo (k + 1) E.rest k = E.rest k by simp [upTo]] at cr
        have hwb := HE.out.whole_bd k hlt
        have hrb1 := hrb.1
        have hrb2 := hrb.2
        have s2 : IntKind.i64.wrap (E.exact k - E.rest k) = E.exact k - E.rest k := IntWalk.i64_in _ (by omega)
        have s3 : (E.exact k - E.rest k).tdiv E.D = E.whole k := quo_eq (by omega)
        have s4 : IntKind.i64.wrap (E.whole k) = E.whole k := IntWalk.i64_in _ (by omega)
        go_still_tail 13, (by kernel_rfl)
        change wpList _ _ _ _ _ w6.drew
        clear cb cw cr co fw fr fo hP2
        generalize w6.drew = w7 at hp2 ⊢
        obtain ⟨cb, cw, cr, co, fw, fr, fo⟩ := hp2.facts hlt
        have HP3 := Lib.hid (hp2.setW (v := E.whole k) rfl)
        clear hp2
        go_wp2_with fail
        go_roundw
        case rel => exact ⟨k + 1, by omega, by go_num, HP3.out⟩
        case measure => simp [intOf]; omega
      · obtain rfl : k = E.sh.length := by omega
        have hgo : w2.heap.size ≤ go := Nat.le_trans hP.gew (Nat.le_of_lt hP.lw)
        have hod := hP.od
        rw [range_cells] at hod
        have HST := Lib.hid (stable_any go E.sh.length wr (.agg #[slV gw E.sh.length, slV gr E.sh.length]) (fun a b => cmpI (E.rest b) (E.rest a)) (Lib.hid hP.cmp) go E.sh.length (List.range E.sh.length) (by simpa using hn1) (by simp; omega) (by simp) wr (Below.refl _ _) (Nat.le_of_lt (own_block hP.od)) (by simpa using hod))
        rw [List.length_range, lt_order] at HST
        obtain ⟨cb, cw, cr, co, fw, fr, fo⟩ := hP.facts (k := 0) hn1
        go_upto_region 16 with (go_at_call 39; refine HST.out.mono ?_; rintro e w8 ⟨rfl, hb8, ho8⟩; have hX := hP.sorted (n := 0) hb8 ho8 hgo)
        clear hb8 ho8 cb cw cr co fw fr fo HST hod hP
        have cb := fun j => cell_of_row w8 _ j _ _ _ hX.cb
        obtain ⟨s, hs⟩ : ∃ s : Nat, E.short = (s : Int) := ⟨E.short.toNat, by have := HE.out.short_bd; omega⟩
        have hsb := HE.out.short_bd
        have hwh := hX.wh
        rw [payTo_zero] at hwh
        have hsw : sumTo E.whole E.sh.length = -(s : Int) := by have : E.short = -sumTo E.whole E.sh.length := rfl; omega
        have HSU := Lib.hid (sum_any (some ⟨gw, 0, none⟩) E.sh.length (mapL E.sh.length E.whole) w8 (Ints.of_own hwh).1 (by rw [mapL_length]; unfold maxLen; omega) (fun k hk => by
          rw [mapL_length] at hk; rw [sum_mapL hk]
          have := sumTo_bd (f := E.whole) (lo := -400000000000000) (hi := 400000000000000) (k := k) (fun i hi => HE.out.whole_bd i (by have : E.n = E.sh.length := rfl; omega))
          omega))
        rw [mapL_length, sum_mapL (Nat.le_refl _), hsw] at HSU
        have HSS := Lib.hid hs
        have hsn : s < E.sh.length := by have : E.n = E.sh.length := rfl; omega
        have i5 : (0 : Int) ≤ (s : Int) := by omega
        have i6 : (s : Int) ≤ (E.sh.length : Int) := by omega
        clear hs hsb hsw hwh
        go_wp2_with (go_at_call 34; refine HSU.out.mono ?_; rintro e w' ⟨rfl, rfl⟩)
        clear cb HSU HX
        go_loopw [84] (fun i wr => ∃ j : Nat, j ≤ s ∧ i = .int .i64 j ∧ PayX E w2 gw gc go j (slV gr E.sh.length) wr) (fun i _ => s - (intOf i).toNat)
        case atStart => exact ⟨0, Nat.zero_le _, rfl, hX⟩
        case round =>
          clear hX
          obtain ⟨j, hj, rfl, hX⟩ := hrel
          rename_i wr2 _
          by_cases hjt : j < s
          · have hjo : j < E.order.length := by rw [E.order_length]; have : E.n = E.sh.length := rfl; omega
            obtain ⟨o, ho⟩ : ∃ o, E.order[j]? = some o := ⟨_, List.getElem?_eq_getElem hjo⟩
            have hon : o < E.sh.length := E.order_mem.1 (List.mem_of_getElem? ho)
            have co := hX.od.cellAt j (by omega)
            rw [cellsN_at ho] at co
            have cw := hX.wh.cellAt o (by omega)
            rw [List.getElem?_map, List.getElem?_eq_getElem (by rw [mapL_length]; exact hon), ← gi_get, mapL_gi hon] at cw
            have cw' : _ = some (Value.int .i64 (E.payTo j o)) := cw
            have fw := hX.wh.frozenAt o
            have cb := fun j => cell_of_row _ _ j _ _ _ hX.cb
            have i1 : (j : Int) < (s : Int) := by omega
            have i2 : (o : Int) < (E.sh.length : Int) := by omega
            have pb := HE.out.payTo_bd j o hon
            have pb1 := pb.1
            have pb2 := pb.2
            have HNX := Lib.hid (hX.next ho (v := E.payTo j o + 1) rfl)
            clear cw ho hX pb
            go_wp2_with fail
            go_roundw
            case rel => exact ⟨j + 1, by omega, by go_num, HNX.out⟩
            case measure => simp [intOf]; omega
          · obtain rfl : j = s := by omega
            have cb := fun j => cell_of_row _ _ j _ _ _ hX.cb
            have HI := Lib.hid (Ints.of_own hX.wh).1
            have HBF := Lib.hid (bcall HBW.out HBW.out.size hX.below)
            have HPL := Lib.hid (show payR E = mapL E.sh.length (E.payTo j) by
              rw [payR, if_pos HC.out, payL]
              refine mapL_congr fun i _ => ?_
              rw [Est.pay, HSS.out]; simp)
            have HLN := Lib.hid (show (payR E).length = E.sh.length by rw [HPL.out, mapL_length])
            clear hX
            go_wp2_with fail
            go_ret2
            exact ⟨_, _, ret_two (by rw [HLN.out]; rfl) (vint HC.out.symm), by rw [HPL.out]; exact HI.out, HBF.out⟩
end Go.Proofs.Ytedgdmblpjfaiaa
