/- The reference's worth of goods, its next good, and the comparison of lists of lists. -/
import Derived.Test.YtcjfcfgkejoeeaaAdK
import Derived.Test.YtcjfcfgkejoeeaaDvH
import Derived.Test.YtcjfcfgkejoeeaaAdO
namespace Go.Proofs.Ytcjfcfgkejoeeaa
open Go.RowKit Go.Deep
set_option linter.unusedVariables false
set_option linter.unusedSimpArgs false

/-- What row i is worth of the first k goods to whom q they belong. -/
def worthTo (bs : List (List Int)) (ow : List Int) (i : Nat) (q : Int) (k : Nat) : Int := sumTo (fun j => if gi ow j = q then gi (gr bs i) j else 0) k
theorem worthTo_succ (bs : List (List Int)) (ow : List Int) (i : Nat) (q : Int) (k : Nat) : worthTo bs ow i q (k + 1) = worthTo bs ow i q k + if gi ow k = q then gi (gr bs i) k else 0 := rfl
theorem worthTo_bd {bs : List (List Int)} {ow : List Int} {i : Nat} {q : Int} {k : Nat} (h : ∀ j, j < k → 0 ≤ gi (gr bs i) j ∧ gi (gr bs i) j ≤ 1000) : 0 ≤ worthTo bs ow i q k ∧ worthTo bs ow i q k ≤ 1000 * k := by
  have := sumTo_bd (f := fun j => if gi ow j = q then gi (gr bs i) j else 0) (lo := 0) (hi := 1000) (k := k) (fun j hj => by have := h j hj; split <;> omega)
  unfold worthTo; omega

set_option maxRecDepth 100000 in
set_option maxHeartbeats 4000000 in
theorem worth_any (bs : List (List Int)) (A : Option Addr) (c : Nat) (ow : List Int) (O : Option Addr) (oc : Nat) (i : Nat) (q : Int) (w : World) (h : GIn w.heap.size w A c bs) (ho : Ints w.heap.size w O ow)
    (hi : i < bs.length) (hl : ow.length ≤ (gr bs i).length) (h50 : ow.length ≤ 50) (hv : ∀ k, k < ow.length → 0 ≤ gi (gr bs i) k ∧ gi (gr bs i) k ≤ 1000) :
    Calls Try.prog 40 #[gV A c bs, .slice O ow.length oc, .int .i64 i, .int .i64 q] w fun e w' => e = .returned (.int .i64 (worthTo bs ow i q ow.length)) ∧ Below w.heap.size w w' := by
  have HB0 := Lib.hid (one_alloc w (gB A c bs))
  have hg0 : (w.alloc (gB A c bs)).heap[w.heap.size]? = some (gB A c bs) := heap_new rfl
  obtain ⟨bd, R, cr, rfl, hb0, hc0, _, _, hi0⟩ := h.rows.at_ hi
  have HF := Lib.hid (fun (W : World) (hb : Below w.heap.size w W) => show W.cell? (bd.add i) = some (.slice R (gr bs i).length cr) from (hb.cell (by rw [block_add]; exact hb0)).trans hc0)
  have i1 : (i : Int) < (bs.length : Int) := by omega
  have i2 : (0 : Int) ≤ (i : Int) := by omega
  have hlc := Nat.le_trans h.len h.cap
  unfold maxLen at hlc
  have HHO := Lib.hid ho
  clear hb0 hc0 h ho
  go_enter Try.func40, Try.ntmps40
  go_wp2_with fail
  go_loopw [9, 10] (fun s9 s10 wr => ∃ k : Nat, k ≤ ow.length ∧ s9 = .int .i64 (worthTo bs ow i q k) ∧ s10 = .int .i64 k ∧ Below w.heap.size w wr ∧ wr.heap[w.heap.size]? = some (gB (some bd) c bs)) (fun _ s10 _ => ow.length - (intOf s10).toNat)
  case atStart => exact ⟨0, Nat.zero_le _, rfl, rfl, HB0.out, hg0⟩
  case round =>
    obtain ⟨k, hk, rfl, rfl, hB, hg⟩ := hrel
    have cg := fun j => cell_of_row _ _ j _ _ _ hg
    have zg := lt_some hg
    have f0 := HF.out _ hB
    by_cases hlt : k < ow.length
    · obtain ⟨od, rfl, hob, hoc⟩ := HHO.out.at_ hlt
      obtain ⟨rd, rfl, hrb, hrc⟩ := hi0.at_ (show k < (gr bs i).length by omega)
      have f1 := (hB.cell (by rw [block_add]; exact hob)).trans hoc
      have f2 := (hB.cell (by rw [block_add]; exact hrb)).trans hrc
      have j1 : (k : Int) < (ow.length : Int) := by omega
      have j2 : (0 : Int) ≤ (k : Int) := by omega
      have j3 : (k : Int) < ((gr bs i).length : Int) := by omega
      have j4 : k < (gr bs i).length := by omega
      have b1 := worthTo_bd (bs := bs) (ow := ow) (i := i) (q := q) (k := k) (fun j hj => hv j (by omega))
      have b2 := hv k hlt
      have HS := Lib.hid (worthTo_succ bs ow i q k)
      have HBB := Lib.hid hB
      have HGG := Lib.hid hg
      clear hob hoc hrb hrc hB hg
      generalize worthTo bs ow i q k = S at *
      have m1 : IntKind.i64.wrap (S + gi (gr bs i) k) = S + gi (gr bs i) k := IntWalk.i64_in _ (by omega)
      have m1' : wrap64 (S + gi (gr bs i) k) = S + gi (gr bs i) k := IntWalk.wrap64_in _ (by omega)
      by_cases hq : gi ow k = q
      · have q1 : (gi ow k == q) = true := by simpa using hq
        have HE := Lib.hid (show worthTo bs ow i q (k + 1) = S + gi (gr bs i) k by rw [HS.out, if_pos hq])
        clear HS hq
        go_wp2_with fail
        exact ⟨⟨k + 1, by omega, by rw [HE.out], by go_num, HBB.out, HGG.out⟩, by simp [intOf]; omega⟩
      · have q1 : (gi ow k == q) = false := by simpa using hq
        have HE := Lib.hid (show worthTo bs ow i q (k + 1) = S by rw [HS.out, if_neg hq]; omega)
        clear HS hq
        go_wp2_with fail
        exact ⟨⟨k + 1, by omega, by rw [HE.out], by go_num, HBB.out, HGG.out⟩, by simp [intOf]; omega⟩
    · obtain rfl : k = ow.length := by omega
      go_wp2_with fail
      go_ret
      exact ⟨rfl, hB⟩

theorem nextTo_none {bs : List (List Int)} {ow : List Int} {k : Nat} (h : candB bs ow k = false) : nextTo bs ow (k + 1) = nextTo bs ow k := by
  rw [nextTo]
  cases nextTo bs ow k with
  | none => simp [h]
  | some b => simp [h]
theorem nextTo_first {bs : List (List Int)} {ow : List Int} {k : Nat} (h : candB bs ow k = true) (hn : nextTo bs ow k = none) : nextTo bs ow (k + 1) = some k := by
  rw [nextTo, hn]; simp [h]
theorem nextTo_less {bs : List (List Int)} {ow : List Int} {k b : Nat} (h : candB bs ow k = true) (hn : nextTo bs ow k = some b) (hl : own bs k * oth bs b < own bs b * oth bs k) : nextTo bs ow (k + 1) = some k := by
  rw [nextTo, hn]; simp [h, hl]
theorem nextTo_more {bs : List (List Int)} {ow : List Int} {k b : Nat} (hn : nextTo bs ow k = some b) (hl : ¬ own bs k * oth bs b < own bs b * oth bs k) : nextTo bs ow (k + 1) = some b := by
  rw [nextTo, hn]; simp [hl]
theorem nextTo_lt {bs : List (List Int)} (h : AdOk bs (num bs)) {ow : List Int} {k b : Nat} (hk : k ≤ num bs) (hn : nextTo bs ow k = some b) : b < k := by
  have := next_spec h ow k hk
  rw [hn] at this
  exact this.1

set_option maxRecDepth 100000 in
set_option maxHeartbeats 8000000 in
theorem next_any (bs : List (List Int)) (A : Option Addr) (c : Nat) (ow : List Int) (O : Option Addr) (oc : Nat) (w : World) (h : GIn w.heap.size w A c bs) (ho : Ints w.heap.size w O ow)
    (hk : AdOk bs (num bs)) (hl : ow.length = num bs) :
    Calls Try.prog 41 #[gV A c bs, .slice O ow.length oc, .int .i64 (richN bs : Nat)] w fun e w' => e = .returned (.int .i64 (optI (nextTo bs ow (num bs)))) ∧ Below w.heap.size w w' := by
  have HB0 := Lib.hid (one_alloc w (gB A c bs))
  have hg0 : (w.alloc (gB A c bs)).heap[w.heap.size]? = some (gB A c bs) := heap_new rfl
  rw [hl]
  have HK := Lib.hid hk
  have HL := Lib.hid hl
  have n10 := hk.n10
  obtain ⟨r, hr⟩ : ∃ r, r = richN bs := ⟨_, rfl⟩
  have two := hk.two
  have r1 : r ≤ 1 := by have := rich_cases bs; omega
  obtain ⟨bd, Rr, cr, rfl, hb1, hc1, _, _, hi1⟩ := h.rows.at_ (show r < bs.length by omega)
  obtain ⟨bd2, Ro, co, hA2, hb2, hc2, _, _, hi2⟩ := h.rows.at_ (show 1 - r < bs.length by omega)
  obtain rfl : bd = bd2 := by simpa using hA2
  have lr : (gr bs r).length = num bs := by rcases (show r = 0 ∨ r = 1 by omega) with e | e; (rw [e]; exact hk.l0); (rw [e]; exact hk.l1)
  have lo : (gr bs (1 - r)).length = num bs := by rcases (show r = 0 ∨ r = 1 by omega) with e | e; (rw [e]; exact hk.l1); (rw [e]; exact hk.l0)
  rw [lr] at hc1
  rw [lo] at hc2
  have HF := Lib.hid (fun (W : World) (hb : Below w.heap.size w W) => show W.cell? (bd.add r) = some (.slice Rr (num bs) cr) ∧ W.cell? (bd.add (1 - r)) = some (.slice Ro (num bs) co) from
    ⟨(hb.cell (by rw [block_add]; exact hb1)).trans hc1, (hb.cell (by rw [block_add]; exact hb2)).trans hc2⟩)
  have HIR := Lib.hid hi1
  have HIO := Lib.hid hi2
  have HLR := Lib.hid lr
  have HLO := Lib.hid lo
  have HHO := Lib.hid ho
  have HR := Lib.hid hr
  have j1 : (r : Int) < (bs.length : Int) := by omega
  have j2 : (0 : Int) ≤ (r : Int) := by omega
  have j3 : IntKind.i64.wrap (1 - (r : Int)) = 1 - (r : Int) := IntWalk.i64_in _ (by omega)
  have j3' : wrap64 (1 - (r : Int)) = 1 - (r : Int) := IntWalk.wrap64_in _ (by omega)
  have j4 : (1 - (r : Int)).toNat = 1 - r := by omega
  have j5 : (0 : Int) ≤ 1 - (r : Int) := by omega
  have j6 : 1 - (r : Int) < (bs.length : Int) := by omega
  have j7 : (r : Int) ≤ 1 := by omega
  rw [← hr]
  clear hA2 hb1 hb2 hc1 hc2 hi1 hi2 lr lo two h ho hk hl hr
  go_enter Try.func41, Try.ntmps41
  go_wp2_with fail
  go_loopw [7, 8] (fun s7 s8 wr => ∃ k : Nat, k ≤ num bs ∧ s7 = .int .i64 (optI (nextTo bs ow k)) ∧ s8 = .int .i64 k ∧ Below w.heap.size w wr ∧ wr.heap[w.heap.size]? = some (gB (some bd) c bs)) (fun _ s8 _ => num bs - (intOf s8).toNat)
  case atStart => exact ⟨0, Nat.zero_le _, rfl, rfl, HB0.out, hg0⟩
  case round =>
    obtain ⟨k, hk, rfl, rfl, hB, hg⟩ := hrel
    have cg := fun j => cell_of_row _ _ j _ _ _ hg
    have zg := lt_some hg
    obtain ⟨f0, f1⟩ := HF.out _ hB
    by_cases hlt : k < num bs
    · obtain ⟨od, rfl, hob, hoc⟩ := HHO.out.at_ (show k < ow.length by have := HL.out; omega)
      obtain ⟨rr, rfl, hrb, hrc⟩ := HIR.out.at_ (show k < (gr bs r).length by have := HLR.out; omega)
      obtain ⟨ro, rfl, htb, htc⟩ := HIO.out.at_ (show k < (gr bs (1 - r)).length by have := HLO.out; omega)
      have f2 := (hB.cell (by rw [block_add]; exact hob)).trans hoc
      have f3 := (hB.cell (by rw [block_add]; exact hrb)).trans hrc
      have f4 := (hB.cell (by rw [block_add]; exact htb)).trans htc
      rw [show gi (gr bs r) k = own bs k by rw [HR.out]; rfl] at f3
      rw [show gi (gr bs (1 - r)) k = oth bs k by rw [HR.out]; rfl] at f4
      have i1 : (k : Int) < (num bs : Int) := by omega
      have i2 : (0 : Int) ≤ (k : Int) := by omega
      have HBB := Lib.hid hB
      have HGG := Lib.hid hg
      have HCD := Lib.hid (show candB bs ow k = (decide (gi ow k = (r : Int)) && decide (oth bs k ≠ 0)) by rw [HR.out]; rfl)
      clear hob hoc hrb hrc htb htc hB hg
      by_cases c1 : gi ow k = (r : Int)
      · have q1 : (gi ow k != (r : Int)) = false := by simpa using c1
        by_cases c2 : oth bs k = 0
        · have q2 : (oth bs k == 0) = true := by simpa using c2
          have HE := Lib.hid (nextTo_none (show candB bs ow k = false by rw [HCD.out, c2]; simp))
          clear HCD c2
          go_wp2_with fail
          go_quiet (fail)
          go_wp2_with fail
          exact ⟨⟨k + 1, by omega, by rw [HE.out], by go_num, below_drewN HBB.out _, HGG.out⟩, by simp [intOf]; omega⟩
        · have q2 : (oth bs k == 0) = false := by simpa using c2
          have HCT := Lib.hid (show candB bs ow k = true by rw [HCD.out]; simp [c1, c2])
          clear HCD
          obtain ⟨nx, hnx⟩ : ∃ x, x = nextTo bs ow k := ⟨_, rfl⟩
          rw [← hnx]
          cases nx with
          | none =>
            have HE := Lib.hid (nextTo_first HCT.out hnx.symm)
            clear hnx
            have q3 : decide ((-1 : Int) < 0) = true := rfl
            have e0 : optI none = -1 := rfl
            rw [e0]
            go_wp2_with fail
            go_quiet (fail)
            go_wp2_with fail
            go_quiet (fail)
            go_wp2_with fail
            exact ⟨⟨k + 1, by omega, by rw [HE.out]; rfl, by go_num, below_drewN HBB.out _, HGG.out⟩, by simp [intOf]; omega⟩
          | some b =>
            have hbk := nextTo_lt HK.out hk hnx.symm
            have HHB := Lib.hid hnx
            clear hnx
            have e0 : optI (some b) = (b : Int) := rfl
            rw [e0]
            have q3 : decide ((b : Int) < 0) = false := by simp
            obtain ⟨rr', e1, hrb, hrc⟩ := HIR.out.at_ (show b < (gr bs r).length by have := HLR.out; omega)
            obtain rfl : rr = rr' := by simpa using e1
            obtain ⟨ro', e2, htb, htc⟩ := HIO.out.at_ (show b < (gr bs (1 - r)).length by have := HLO.out; omega)
            obtain rfl : ro = ro' := by simpa using e2
            have f5 := (HBB.out.cell (by rw [block_add]; exact hrb)).trans hrc
            have f6 := (HBB.out.cell (by rw [block_add]; exact htb)).trans htc
            rw [show gi (gr bs r) b = own bs b by rw [HR.out]; rfl] at f5
            rw [show gi (gr bs (1 - r)) b = oth bs b by rw [HR.out]; rfl] at f6
            have i3 : (b : Int) < (num bs : Int) := by omega
            have i3n : b < num bs := by omega
            have i4 : (0 : Int) ≤ (b : Int) := by omega
            have o1 := HK.out.own_bd hlt
            have o2 := HK.out.own_bd i3n
            have t1 := HK.out.oth_bd hlt
            have t2 := HK.out.oth_bd i3n
            have p1 := prod_bd o1.1 o1.2 t2.1 (by omega)
            have p2 := prod_bd o2.1 o2.2 t1.1 (by omega)
            have m1 : IntKind.i64.wrap (own bs k * oth bs b) = own bs k * oth bs b := IntWalk.i64_in _ (by omega)
            have m2 : IntKind.i64.wrap (own bs b * oth bs k) = own bs b * oth bs k := IntWalk.i64_in _ (by omega)
            have m1' : wrap64 (own bs k * oth bs b) = own bs k * oth bs b := IntWalk.wrap64_in _ (by omega)
            have m2' : wrap64 (own bs b * oth bs k) = own bs b * oth bs k := IntWalk.wrap64_in _ (by omega)
            clear e1 e2 hrb hrc htb htc o1 o2 t1 t2 p1 p2
            by_cases c3 : own bs k * oth bs b < own bs b * oth bs k
            · have q4 : decide (own bs k * oth bs b < own bs b * oth bs k) = true := by simpa using c3
              have HE := Lib.hid (nextTo_less HCT.out HHB.out.symm c3)
              clear c2 HHB c3
              generalize own bs k = x1 at *
              generalize own bs b = x2 at *
              generalize oth bs k = x3 at *
              generalize oth bs b = x4 at *
              go_wp2_with fail
              go_quiet (fail)
              go_wp2_with fail
              go_quiet (fail)
              go_wp2_with fail
              exact ⟨⟨k + 1, by omega, by rw [HE.out]; rfl, by go_num, below_drewN HBB.out _, HGG.out⟩, by simp [intOf]; omega⟩
            · have q4 : decide (own bs k * oth bs b < own bs b * oth bs k) = false := by simpa using c3
              have HE := Lib.hid (nextTo_more HHB.out.symm c3)
              clear c2 HHB c3
              generalize own bs k = x1 at *
              generalize own bs b = x2 at *
              generalize oth bs k = x3 at *
              generalize oth bs b = x4 at *
              go_wp2_with fail
              go_quiet (fail)
              go_wp2_with fail
              go_quiet (fail)
              go_wp2_with fail
              exact ⟨⟨k + 1, by omega, by rw [HE.out]; rfl, by go_num, below_drewN HBB.out _, HGG.out⟩, by simp [intOf]; omega⟩
      · have q1 : (gi ow k != (r : Int)) = true := by simpa using c1
        have HE := Lib.hid (nextTo_none (show candB bs ow k = false by rw [HCD.out]; simp [c1]))
        clear HCD c1
        go_wp2_with fail
        go_quiet (fail)
        go_wp2_with fail
        exact ⟨⟨k + 1, by omega, by rw [HE.out], by go_num, below_drewN HBB.out _, HGG.out⟩, by simp [intOf]; omega⟩
    · obtain rfl : k = num bs := by omega
      go_wp2_with fail
      go_ret
      exact ⟨rfl, hB⟩

set_option maxRecDepth 100000 in
set_option maxHeartbeats 4000000 in
theorem samelists_any (bs : List (List Int)) (A B : Option Addr) (c d : Nat) (w : World) (h : IntRows w.heap.size w A bs) (k : IntRows w.heap.size w B bs) (hl : bs.length ≤ 100) (hr : ∀ i, i < bs.length → (gr bs i).length ≤ 100) :
    Calls Try.prog 20 #[.slice A bs.length c, .slice B bs.length d] w fun e w' => e = .returned (.bool true) ∧ Below w.heap.size w w' := by
  have HH := Lib.hid h
  have HK := Lib.hid k
  clear h k
  have q0 : ((bs.length : Int) != (bs.length : Int)) = false := by simp
  have q0' : (bs.length != bs.length) = false := by simp
  go_enter Try.func20, Try.ntmps20
  go_wp2_with fail
  go_loopw [5] (fun s5 wr => ∃ k : Nat, k ≤ bs.length ∧ s5 = .int .i64 k ∧ Below w.heap.size w wr) (fun s5 _ => bs.length - (intOf s5).toNat)
  case atStart => exact ⟨0, Nat.zero_le _, rfl, Below.refl _ _⟩
  case round =>
    obtain ⟨k, hk, rfl, hB⟩ := hrel
    by_cases hlt : k < bs.length
    · obtain ⟨ad, R, rc, rfl, hb0, hc0, _, _, hi0⟩ := (HH.out.next hB).at_ hlt
      obtain ⟨be, S, sc, rfl, hb1, hc1, _, _, hi1⟩ := (HK.out.next hB).at_ hlt
      have i1 : (k : Int) < (bs.length : Int) := by omega
      have i2 : (0 : Int) ≤ (k : Int) := by omega
      have h100 := hr k hlt
      have HS := Lib.hid (fun (W : World) (hW : Below wr.heap.size wr W) => sameL_self (gr bs k) ▸ same_any R S rc sc (gr bs k) (gr bs k) W (hi0.next hW) (hi1.next hW) (by unfold maxLen; omega) (by unfold maxLen; omega))
      have HBB := Lib.hid hB
      have b0 : (ad.add k).block < wr.heap.size := by rw [block_add]; exact hb0
      have b1 : (be.add k).block < wr.heap.size := by rw [block_add]; exact hb1
      clear hi0 hi1 hB
      go_wp2_with fail
      refine wp_region_ext (by kernel_rfl) (by kernel_rfl) ?_
      repeat (first | go_big_quiet_step ((go_at_call 46; exact calls_ext (HS.out _ (Ext.h _)))) | quiet_step ((go_at_call 46; exact calls_ext (HS.out _ (Ext.h _)))))
      refine wpQuiet_nil ?_
      rintro _ ⟨⟨w7, hb7⟩, rfl⟩
      have HB7 := Lib.hid (bcall HBB.out HBB.out.size hb7)
      clear hb7
      go_wp2_with fail
      exact ⟨⟨k + 1, by omega, by go_num, HB7.out⟩, by simp [intOf]; omega⟩
    · obtain rfl : k = bs.length := by omega
      go_wp2_with fail
      go_ret
      exact ⟨rfl, hB⟩
end Go.Proofs.Ytcjfcfgkejoeeaa
