/- Accept of the reference, walked: it answers accV and the code. -/
import Derived.Test.YtedgdmblpjfaiaaAccPlain
namespace Go.Proofs.Ytedgdmblpjfaiaa
open Go.RowKit Go.Deep
set_option linter.unusedVariables false
set_option linter.unusedSimpArgs false

/-- What the reference's walk keeps. -/
structure RefIn (w : World) (E : Est) (A : Option Addr) (c : Nat) (R : Option Addr) (d : Nat) (P Q : Option Addr) (os ps : List Int) (wr : World) : Prop where
  below : Below w.heap.size w wr
  bx : wr.heap[w.heap.size]? = some (bxOf A c R d E)
  e : EIn wr.heap.size wr A c R d E
  os : Ints wr.heap.size wr P os
  ps : Ints wr.heap.size wr Q ps
theorem RefIn.next {w : World} {E : Est} {A : Option Addr} {c : Nat} {R : Option Addr} {d : Nat} {P Q : Option Addr} {os ps : List Int} {wr w1 : World} (h : RefIn w E A c R d P Q os ps wr) (hb : Below wr.heap.size wr w1) : RefIn w E A c R d P Q os ps w1 :=
  ⟨bcall h.below h.below.size hb, heap_ext h.bx hb, h.e.next hb, h.os.next hb, h.ps.next hb⟩

set_option maxRecDepth 100000 in
set_option maxHeartbeats 8000000 in
theorem accept_ref (E : Est) (A : Option Addr) (c : Nat) (R : Option Addr) (d : Nat) (P : Option Addr) (pc : Nat) (os : List Int) (Q : Option Addr) (qc : Nat) (ps : List Int) (w : World) (h : EIn w.heap.size w A c R d E)
    (ho : Ints w.heap.size w P os) (hp : Ints w.heap.size w Q ps) (hol : os.length ≤ maxLen) (hpl : ps.length ≤ maxLen) :
    Calls Try.prog 12 #[eV A c R d E, .slice P os.length pc, .slice Q ps.length qc] w fun e w' => e = .returned (.tuple #[.bool (accV E os ps), .int .i64 E.code]) ∧ Below w.heap.size w w' := by
  have hW0 : RefIn w E A c R d P Q os ps (w.alloc (bxOf A c R d E)) := ⟨one_alloc _ _, heap_new rfl, h.next (one_alloc _ _), ho.next (one_alloc _ _), hp.next (one_alloc _ _)⟩
  have hsl := h.shl
  have hsm := h.shm
  have hbl := h.bdl
  have hbm := h.bdm
  unfold maxLen at hsm hbm hol hpl
  clear h ho hp
  go_enter Try.func12, Try.ntmps12
  go_wp2_with fail
  refine (check_ref E A c R d _ hW0.e).mono ?_
  rintro e w2 ⟨rfl, hb2⟩
  have hW := hW0.next hb2
  have cbx := fun j => cell_of_row w2 _ j _ _ _ hW.bx
  clear hb2 hW0
  by_cases hc : E.code = 0
  rotate_left
  · have q1 : (E.code != 0) = true := by simpa using hc
    have HA := Lib.hid (acc_code (E := E) (os := os) (ps := ps) hc)
    clear hc
    go_wp2_with fail
    refine (check_ref E A c R d _ hW.e).mono ?_
    rintro e w3 ⟨rfl, hb3⟩
    have hW3 := hW.next hb3
    go_wp2_with fail
    go_ret2
    exact ⟨ret_two (vbool HA.out.symm) rfl, hW3.below⟩
  have hE := Est.ok_of_code hc
  have HC := Lib.hid hc
  have q1 : (E.code != 0) = false := by simpa using hc
  clear hc
  have hb0 : 0 < E.bd.length := by have := hE.rows; have := hE.n1; omega
  obtain ⟨bd, R0, c0, rfl, _, hc0, _, hcm0, _⟩ := hW.e.bd.at_ hb0
  have hc0' : w2.cell? bd = some (.slice R0 (gr E.bd 0).length c0) := by simpa [Addr.add] using hc0
  have i0' : (0 : Int) < (E.bd.length : Int) := by omega
  clear hc0
  by_cases hl1 : (os.length : Int) = ((gr E.bd 0).length : Int)
  rotate_left
  · have p1 : ((os.length : Int) != ((gr E.bd 0).length : Int)) = true := by simpa using hl1
    have HA := Lib.hid (acc_len1 (E := E) (os := os) (ps := ps) (by simp only [Est.m, Est.row]; omega))
    clear hl1
    go_wp2_with fail
    go_ret2
    exact ⟨ret_two (vbool HA.out.symm) (vint HC.out.symm), hW.below⟩
  have p1 : ((os.length : Int) != ((gr E.bd 0).length : Int)) = false := by simpa using hl1
  by_cases hl2 : (ps.length : Int) = (E.sh.length : Int)
  rotate_left
  · have p2 : ((ps.length : Int) != (E.sh.length : Int)) = true := by simpa using hl2
    have HA := Lib.hid (acc_len2 (E := E) (os := os) (ps := ps) (by simp only [Est.n]; omega))
    clear hl1 hl2
    go_wp2_with fail
    go_ret2
    exact ⟨ret_two (vbool HA.out.symm) (vint HC.out.symm), hW.below⟩
  have p2 : ((ps.length : Int) != (E.sh.length : Int)) = false := by simpa using hl2
  have HL1 := Lib.hid (show os.length = E.m by simp only [Est.m, Est.row]; omega)
  have HL2 := Lib.hid (show ps.length = E.sh.length by omega)
  have HE := Lib.hid hE
  have hn1 : 0 < E.sh.length := hE.n1
  have hn10 : E.sh.length ≤ 10 := hE.n10
  have HR := Lib.hid (show E.bd.length = E.sh.length from hE.rows)
  clear hl1 hl2 hE
  go_wp2_with fail
  clear cbx hc0'
  go_loopw [8] (fun i wr => ∃ k : Nat, k ≤ os.length ∧ i = .int .i64 k ∧ Hid (∀ j, j < k → ownOk E os j = true) ∧ RefIn w E A c (some bd) d P Q os ps wr) (fun i _ => os.length - (intOf i).toNat)
  case atStart => exact ⟨0, Nat.zero_le _, rfl, Lib.hid (fun j hj => by omega), hW⟩
  case round =>
    clear hW
    obtain ⟨k, hk, rfl, hok, hW⟩ := hrel
    have cbx := fun j => cell_of_row wr _ j _ _ _ hW.bx
    have zbx := lt_some hW.bx
    by_cases hlt : k < os.length
    · obtain ⟨ao, rfl, hao, co⟩ := hW.os.at_ hlt
      have hkm : k < E.m := by have := HL1.out; omega
      have HFK := Lib.hid (acc_own (E := E) (os := os) (ps := ps) hlt)
      have y1 : (ao.add k).block < wr.heap.size := by rw [block_add]; exact hao
      have i9 : (k : Int) < (os.length : Int) := by omega
      by_cases q1 : gi os k < 0
      · have p1 : decide (gi os k < 0) = true := by simpa using q1
        have HA := Lib.hid (HFK.out (ownOk_neg q1))
        clear q1
        go_wp2_with fail
        go_quiet (fail)
        go_wp2_with fail
        go_ret2
        exact ⟨ret_two (vbool HA.out.symm) (vint HC.out.symm), below_drewN hW.below _⟩
      obtain ⟨o, ho⟩ : ∃ o : Nat, gi os k = (o : Int) := ⟨(gi os k).toNat, by omega⟩
      have HO := Lib.hid ho
      rw [ho] at co
      have p1 : decide ((o : Int) < 0) = false := by simp
      clear q1 ho
      by_cases q2 : E.bd.length ≤ o
      · have p2 : decide ((E.bd.length : Int) ≤ (o : Int)) = true := by simp; omega
        have p2' : decide (E.bd.length ≤ o) = true := by simpa using q2
        have HA := Lib.hid (HFK.out (ownOk_big (by rw [HO.out]; have := HE.out.rows; omega)))
        go_wp2_with fail
        go_quiet (fail)
        go_wp2_with fail
        go_ret2
        exact ⟨ret_two (vbool HA.out.symm) (vint HC.out.symm), below_drewN hW.below _⟩
      have p2 : decide ((E.bd.length : Int) ≤ (o : Int)) = false := by simp; omega
      have p2' : decide (E.bd.length ≤ o) = false := by simpa using q2
      have q2' : o < E.bd.length := by omega
      have hon : o < E.n := by have : E.n = E.sh.length := rfl; have := HR.out; omega
      have hownlt := HE.out.own_lt k
      have q3' : E.own k < E.bd.length := by have : E.n = E.sh.length := rfl; have := HR.out; omega
      clear q2
      obtain ⟨bd1, Ro, co', hbd1, hb', hc', hcl, hcm, hro⟩ := hW.e.bd.at_ q2'
      obtain rfl : bd = bd1 := by simpa using hbd1
      obtain ⟨bd2, Rw, cw', hbd2, hb2', hc2', hcl2, hcm2, hrw⟩ := hW.e.bd.at_ q3'
      obtain rfl : bd = bd2 := by simpa using hbd2
      have l1 : k < (gr E.bd o).length := by have := HE.out.len o hon; simp only [Est.row] at this; omega
      have l2 : k < (gr E.bd (E.own k)).length := by have := HE.out.len (E.own k) hownlt; simp only [Est.row] at this; omega
      obtain ⟨a1, rfl, ha1, c1⟩ := hro.at_ l1
      obtain ⟨a2, rfl, ha2, c2⟩ := hrw.at_ l2
      have HOW := Lib.hid (fun (W : World) (hb : Below wr.heap.size wr W) => owner_any E HE.out A c (some bd) d k hkm W (hW.e.next hb))
      obtain ⟨y, hy⟩ : ∃ y, y = E.own k := ⟨_, rfl⟩
      rw [← hy] at hownlt q3' hc2' hcl2 l2 c2 hrw HOW
      have HY := Lib.hid hy
      have i1 : (o : Int) < (E.bd.length : Int) := by omega
      have i2 : (y : Int) < (E.bd.length : Int) := by omega
      have i3 : (k : Int) < ((gr E.bd o).length : Int) := by omega
      have i4 : (k : Int) < ((gr E.bd y).length : Int) := by omega
      have y2 : (bd.add o).block < wr.heap.size := by rw [block_add]; exact hb'
      have y3 : (bd.add y).block < wr.heap.size := by rw [block_add]; exact hb'
      have y4 : (a1.add k).block < wr.heap.size := by rw [block_add]; exact ha1
      have y5 : (a2.add k).block < wr.heap.size := by rw [block_add]; exact ha2
      clear hbd1 hbd2 hy
      unfold maxLen at hcm hcm2
      by_cases q3 : gi (gr E.bd o) k = gi (gr E.bd y) k
      rotate_left
      · have p3 : (gi (gr E.bd o) k != gi (gr E.bd y) k) = true := by simpa using q3
        have HA := Lib.hid (HFK.out (ownOk_ne HO.out (by rw [← HY.out]; simp only [Est.bid, Est.row]; omega)))
        clear q3
        go_wp2_with fail
        refine wp_region_ext (by kernel_rfl) (by kernel_rfl) ?_
        repeat (first | go_big_quiet_step ((go_at_call 35; exact calls_ext (HOW.out _ (Ext.h _)))) | quiet_step ((go_at_call 35; exact calls_ext (HOW.out _ (Ext.h _)))))
        refine wpQuiet_nil ?_
        rintro _ ⟨⟨w5, hb5⟩, rfl⟩
        go_wp2_with fail
        go_ret2
        exact ⟨ret_two (vbool HA.out.symm) (vint HC.out.symm), (hW.next hb5).below⟩
      have p3 : (gi (gr E.bd o) k != gi (gr E.bd y) k) = false := by simpa using q3
      have HFY := Lib.hid (ownOk_yes HO.out hon (by rw [← HY.out]; simp only [Est.bid, Est.row]; omega))
      clear q3
      go_wp2_with fail
      refine wp_region_ext (by kernel_rfl) (by kernel_rfl) ?_
      repeat (first | go_big_quiet_step ((go_at_call 35; exact calls_ext (HOW.out _ (Ext.h _)))) | quiet_step ((go_at_call 35; exact calls_ext (HOW.out _ (Ext.h _)))))
      refine wpQuiet_nil ?_
      rintro _ ⟨⟨w5, hb5⟩, rfl⟩
      go_wp2_with fail
      go_roundw
      case rel => exact ⟨k + 1, by omega, by go_num, Lib.hid (all_step hok.out HFY.out), hW.next hb5⟩
      case measure => simp [intOf]; omega
    · obtain rfl : k = os.length := by omega
      obtain ⟨wo, rfl⟩ : ∃ wo : World, wo = wr := ⟨_, rfl⟩
      have gS := HE.out.S_bd
      have hm30 := HE.out.m30
      go_wp2_with fail
      clear cbx zbx
      go_loopw [9, 10] (fun s i wr => ∃ j : Nat, j ≤ ps.length ∧ i = .int .i64 j ∧ s = .int .i64 (sumTo (gi ps) j) ∧ Hid (∀ i, i < j → farB (gi ps i) = false) ∧ Hid (∀ i, i < j → fairAt E os ps i = true) ∧ RefIn w E A c (some bd) d P Q os ps wr) (fun _ i _ => ps.length - (intOf i).toNat)
      case atStart => exact ⟨0, Nat.zero_le _, rfl, rfl, Lib.hid (fun j hj => by omega), Lib.hid (fun j hj => by omega), hW⟩
      case round =>
        clear hW
        obtain ⟨j, hj, rfl, rfl, hfr, hfa, hW⟩ := hrel
        have cbx := fun j => cell_of_row wr _ j _ _ _ hW.bx
        have zbx := lt_some hW.bx
        by_cases hjt : j < ps.length
        · obtain ⟨ap, rfl, hap, cp⟩ := hW.ps.at_ hjt
          have y1 : (ap.add j).block < wr.heap.size := by rw [block_add]; exact hap
          have hjn : j < E.n := by have : E.n = E.sh.length := rfl; have := HL2.out; omega
          have i1 : (j : Int) < (ps.length : Int) := by omega
          have HFJ := Lib.hid (acc_fair (E := E) (os := os) (ps := ps) hjn)
          have HFF := Lib.hid (fun h => acc_far (E := E) (os := os) (ps := ps) (any_some hjt h))
          by_cases u1 : gi ps j < -1000000000
          · have v1 : decide (gi ps j < -1000000000) = true := by simpa using u1
            have HA := Lib.hid (HFF.out (by simp [farB, u1]))
            clear u1
            go_wp2_with fail
            go_ret2
            exact ⟨ret_two (vbool HA.out.symm) (vint HC.out.symm), hW.below⟩
          have v1 : decide (gi ps j < -1000000000) = false := by simpa using u1
          by_cases u2 : 1000000000 < gi ps j
          · have v2 : decide (1000000000 < gi ps j) = true := by simpa using u2
            have HA := Lib.hid (HFF.out (by simp [farB, u2]))
            clear u1 u2
            go_wp2_with fail
            go_ret2
            exact ⟨ret_two (vbool HA.out.symm) (vint HC.out.symm), hW.below⟩
          have v2 : decide (1000000000 < gi ps j) = false := by simpa using u2
          have HFN := Lib.hid (show farB (gi ps j) = false by simp only [farB, v1, v2]; rfl)
          have hsum : -1000000000 * (j : Int) ≤ sumTo (gi ps) j ∧ sumTo (gi ps) j ≤ 1000000000 * j := sumTo_bd fun i hi => far_not (hfr.out i hi)
          have hps10 : ps.length ≤ 10 := by have := HL2.out; omega
          have t1 : -20000000000 ≤ sumTo (gi ps) j + gi ps j := by omega
          have t2 : sumTo (gi ps) j + gi ps j ≤ 20000000000 := by omega
          have w1 := HE.out.worthOf_bd (gi os) j os.length hjn (by have := HL1.out; omega)
          have hos30 : os.length ≤ 30 := by have := HL1.out; omega
          have hcl := HE.out.claim_bd j hjn
          have c1 := Lib.hid (fun (W : World) (hb : Below wr.heap.size wr W) => sumref_any E HE.out A c (some bd) d W (hW.e.next hb))
          have c2 := Lib.hid (fun (W : World) (hb : Below wr.heap.size wr W) => worth_any E HE.out A c (some bd) d P pc os j hjn (by have := HL1.out; omega) W (hW.e.next hb) (hW.os.next hb))
          have c3 := Lib.hid (fun (W : World) (hb : Below wr.heap.size wr W) => claim_any E HE.out A c (some bd) d j hjn W (hW.e.next hb))
          obtain ⟨x, hx⟩ : ∃ x, x = E.worthOf (gi os) j os.length := ⟨_, rfl⟩
          rw [← hx] at c2 w1
          have HX := Lib.hid hx
          have m1 := mul_bd (a := E.S) (x := x + gi ps j) (M := 2000000000) (by omega) (by omega) (by omega) (by omega) (by omega)
          have s0 : IntKind.i64.wrap (x + gi ps j) = x + gi ps j := IntWalk.i64_in _ (by omega)
          have s1 : IntKind.i64.wrap (E.S * (x + gi ps j)) = E.S * (x + gi ps j) := IntWalk.i64_in _ (by omega)
          have s2 : IntKind.i64.wrap (E.claim j - E.S) = E.claim j - E.S := IntWalk.i64_in _ (by omega)
          clear hx u1 u2
          by_cases q3 : E.S * (x + gi ps j) ≤ E.claim j - E.S
          · have p3 : decide (E.S * (x + gi ps j) ≤ E.claim j - E.S) = true := by simpa using q3
            have HA := Lib.hid (HFJ.out (fair_no (by rw [← HX.out, Int.add_comm]; exact q3)))
            clear q3
            go_wp2_with fail
            refine wp_region_ext (by kernel_rfl) (by kernel_rfl) ?_
            repeat (first | go_big_quiet_step ((first | (go_at_call 27; exact calls_ext (c1.out _ (Ext.h _))) | (go_at_call 29; exact calls_ext (c2.out _ (Ext.h _))) | (go_at_call 36; exact calls_ext (c3.out _ (Ext.h _))))) | quiet_step ((first | (go_at_call 27; exact calls_ext (c1.out _ (Ext.h _))) | (go_at_call 29; exact calls_ext (c2.out _ (Ext.h _))) | (go_at_call 36; exact calls_ext (c3.out _ (Ext.h _))))))
            refine wpQuiet_nil ?_
            rintro _ ⟨⟨w5, hb5⟩, rfl⟩
            go_wp2_with fail
            go_ret2
            exact ⟨ret_two (vbool HA.out.symm) (vint HC.out.symm), (hW.next hb5).below⟩
          have p3 : decide (E.S * (x + gi ps j) ≤ E.claim j - E.S) = false := by simpa using q3
          have HFY := Lib.hid (fair_yes (E := E) (os := os) (ps := ps) (i := j) (by rw [← HX.out, Int.add_comm]; exact q3))
          clear q3
          go_wp2_with fail
          refine wp_region_ext (by kernel_rfl) (by kernel_rfl) ?_
          repeat (first | go_big_quiet_step ((first | (go_at_call 27; exact calls_ext (c1.out _ (Ext.h _))) | (go_at_call 29; exact calls_ext (c2.out _ (Ext.h _))) | (go_at_call 36; exact calls_ext (c3.out _ (Ext.h _))))) | quiet_step ((first | (go_at_call 27; exact calls_ext (c1.out _ (Ext.h _))) | (go_at_call 29; exact calls_ext (c2.out _ (Ext.h _))) | (go_at_call 36; exact calls_ext (c3.out _ (Ext.h _))))))
          refine wpQuiet_nil ?_
          rintro _ ⟨⟨w5, hb5⟩, rfl⟩
          go_wp2_with fail
          go_roundw
          case rel => exact ⟨j + 1, by omega, by go_num, by rw [sumTo_succ], Lib.hid (all_step hfr.out HFN.out), Lib.hid (all_step hfa.out HFY.out), hW.next hb5⟩
          case measure => simp [intOf]; omega
        · obtain rfl : j = ps.length := by omega
          have HS := Lib.hid (acc_sum HC.out HL1.out HL2.out hok.out (any_none hfr.out) (fun i hi => hfa.out i (by have := HL2.out; have : E.n = E.sh.length := rfl; omega)))
          go_wp2_with fail
          go_ret2
          exact ⟨ret_two (vbool (by rw [HS.out]; first | rfl | (rw [Bool.eq_iff_iff]; simp))) (vint HC.out.symm), hW.below⟩
end Go.Proofs.Ytedgdmblpjfaiaa
