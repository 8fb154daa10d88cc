/- Accept of estate, walked: it answers accV and the code. -/
import Derived.Test.YtedgdmblpjfaiaaAccPlain
import Derived.Test.YtedgdmblpjfaiaaReckon
namespace Go.Proofs.Ytedgdmblpjfaiaa
open Go.RowKit Go.Deep
set_option linter.unusedVariables false
set_option linter.unusedSimpArgs false

def hasL (E : Est) (os ps : List Int) (k : Nat) : List Int := (List.range E.sh.length).map fun i => gi ps i + E.worthOf (gi os) i k
theorem hasL_length (E : Est) (os ps : List Int) (k : Nat) : (hasL E os ps k).length = E.sh.length := by simp [hasL]
theorem hasL_gi {E : Est} {os ps : List Int} {k i : Nat} (h : i < E.sh.length) : gi (hasL E os ps k) i = gi ps i + E.worthOf (gi os) i k := by
  rw [gi_get (by rw [hasL_length]; exact h)]; simp [hasL]
theorem hasL_zero {E : Est} {os ps : List Int} (h : ps.length = E.sh.length) : hasL E os ps 0 = ps := by
  refine gi_ext (by rw [hasL_length, h]) fun k hk => ?_
  rw [hasL_length] at hk
  rw [hasL_gi hk]; simp [Est.worthOf, sumTo]
theorem hasL_succ {E : Est} {os ps : List Int} {k o : Nat} (ho : gi os k = (o : Int)) (hn : o < E.sh.length) :
    cellsL (hasL E os ps (k + 1)) = (cellsL (hasL E os ps k)).set o (.int .i64 (gi ps o + E.worthOf (gi os) o k + E.bid o k)) := by
  have e : hasL E os ps (k + 1) = (hasL E os ps k).set o (gi ps o + E.worthOf (gi os) o k + E.bid o k) := by
    refine List.ext_getElem (by simp [hasL_length]) fun i h1 h2 => ?_
    rw [hasL_length] at h1
    rw [List.getElem_set, ← gi_get, hasL_gi h1, ← gi_get, hasL_gi h1]
    simp only [Est.worthOf, sumTo]
    by_cases e : o = i
    · subst e; rw [if_pos rfl, if_pos ho]; omega
    · rw [if_neg e, if_neg (by rw [ho]; omega)]; omega
  rw [e, cellsL, cellsL, List.map_set]

structure AccIn (w : World) (N0 g : Nat) (E : Est) (A : Option Addr) (c : Nat) (R : Option Addr) (d : Nat) (O : Option Addr) (oc : Nat) (W : Option Addr) (wc : Nat) (C : Option Addr) (cc : Nat) (P Q : Option Addr) (os ps : List Int) : Prop where
  lt : N0 < w.heap.size
  bx : w.heap[N0]? = some (bxOf A c R d E)
  rk : Reck w g E A c R d O oc W wc C cc
  e : EIn w.heap.size w A c R d E
  os : Ints w.heap.size w P os
  ps : Ints w.heap.size w Q ps

abbrev accRes (E : Est) (os ps : List Int) : Value := .tuple #[.bool (accV E os ps), .int .i64 E.code]

set_option maxRecDepth 100000 in
set_option maxHeartbeats 8000000 in
theorem accept_any (E : Est) (A : Option Addr) (c : Nat) (R : Option Addr) (d : Nat) (P : Option Addr) (pc : Nat) (os : List Int) (Q : Option Addr) (qc : Nat) (ps : List Int) (w : World) (h : EIn w.heap.size w A c R d E)
    (ho : Ints w.heap.size w P os) (hp : Ints w.heap.size w Q ps) (hol : os.length ≤ maxLen) (hpl : ps.length ≤ maxLen) :
    Calls Try.prog 11 #[eV A c R d E, .slice P os.length pc, .slice Q ps.length qc] w fun e w' => e = .returned (accRes E os ps) ∧ Below w.heap.size w w' := by
  have HX := Lib.hid (h.next (one_alloc w (bxOf A c R d E)))
  have HO := Lib.hid (ho.next (one_alloc w (bxOf A c R d E)))
  have HP := Lib.hid (hp.next (one_alloc w (bxOf A c R d E)))
  have hsl := h.shl
  have hsm := h.shm
  have hbl := h.bdl
  have hbm := h.bdm
  unfold maxLen at hsm hbm hol hpl
  clear h ho hp
  have HN := Lib.hid (show ∀ W, Below (w.heap.size + 1) (w.alloc (bxOf A c R d E)) W → Below w.heap.size w W from fun W hb => (one_alloc w _).trans (hb.mono (by omega)))
  go_enter Try.func11, Try.ntmps11
  go_wp2_with fail
  refine (check_any E A c R d _ HX.out).mono ?_
  rintro e w2 ⟨rfl, hb2⟩
  have hz2 := hb2.size
  simp only [World.size_alloc] at hb2 hz2
  have hbx2 := heap_below (heap_new (w := w) (o := bxOf A c R d E) rfl) hb2 (by omega)
  have cbx := fun j => cell_of_row w2 _ j _ _ _ hbx2
  have HX2 := Lib.hid (HX.out.next (by simpa using hb2))
  have HO2 := Lib.hid (HO.out.next (by simpa using hb2))
  have HP2 := Lib.hid (HP.out.next (by simpa using hb2))
  have HB2 := Lib.hid (HN.out _ hb2)
  clear hb2 HX HO HP
  by_cases hc : E.code = 0
  rotate_left
  · have q1 : (E.code != 0) = true := by simpa using hc
    have HA := Lib.hid (acc_code (E := E) (os := os) (ps := ps) hc)
    clear hc
    go_wp2_with fail
    go_ret2
    exact ⟨ret_two (vbool HA.out.symm) rfl, HB2.out⟩
  have hE := Est.ok_of_code hc
  have HC := Lib.hid hc
  have q1 : (E.code != 0) = false := by simpa using hc
  clear hc
  have hb0 : 0 < E.bd.length := by have := hE.rows; have := hE.n1; omega
  obtain ⟨bd, R0, c0, rfl, _, hc0, _, hcm0, _⟩ := HX2.out.bd.at_ hb0
  have hc0' : w2.cell? bd = some (.slice R0 (gr E.bd 0).length c0) := by simpa [Addr.add] using hc0
  have i0' : (0 : Int) < (E.bd.length : Int) := by omega
  clear hc0
  by_cases hl1 : (os.length : Int) = ((gr E.bd 0).length : Int)
  rotate_left
  · have p1 : ((os.length : Int) != ((gr E.bd 0).length : Int)) = true := by simpa using hl1
    have HA := Lib.hid (acc_len1 (E := E) (os := os) (ps := ps) (by simp only [Est.m, Est.row]; omega))
    clear hl1
    go_wp2_with fail
    go_ret2
    exact ⟨ret_two (vbool HA.out.symm) (vint HC.out.symm), HB2.out⟩
  have p1 : ((os.length : Int) != ((gr E.bd 0).length : Int)) = false := by simpa using hl1
  by_cases hl2 : (ps.length : Int) = (E.sh.length : Int)
  rotate_left
  · have p2 : ((ps.length : Int) != (E.sh.length : Int)) = true := by simpa using hl2
    have HA := Lib.hid (acc_len2 (E := E) (os := os) (ps := ps) (by simp only [Est.n]; omega))
    clear hl1 hl2
    go_wp2_with fail
    go_ret2
    exact ⟨ret_two (vbool HA.out.symm) (vint HC.out.symm), HB2.out⟩
  have p2 : ((ps.length : Int) != (E.sh.length : Int)) = false := by simpa using hl2
  have HL1 := Lib.hid (show os.length = E.m by simp only [Est.m, Est.row]; omega)
  have HL2 := Lib.hid (show ps.length = E.sh.length by omega)
  have HE := Lib.hid hE
  have hn1 : 0 < E.sh.length := hE.n1
  have hn10 : E.sh.length ≤ 10 := hE.n10
  clear hl1 hl2 hE
  go_wp2_with fail
  refine (reckon_any E HE.out A c (some bd) d _ HX2.out).mono ?_
  intro e w3 hrk
  obtain ⟨g, O, oc, W, wc, C, cc, rfl, hR, hb3⟩ := Reck.of hrk
  have hA : AccIn w3 w.heap.size g E A c (some bd) d O oc W wc C cc P Q os ps :=
    ⟨by have := hb3.size; omega, heap_ext hbx2 hb3, hR, HX2.out.next hb3, HO2.out.next hb3, HP2.out.next hb3⟩
  have HB3 := Lib.hid (bcall HB2.out (by omega) hb3)
  clear hrk hR hb3 hbx2 cbx HX2 HO2 HP2 HB2 hc0'
  go_wp2_with fail
  refine (clone_any Q qc ps _ hA.ps (by have := HL2.out; omega)).mono ?_
  rintro e w4 ⟨vH, rfl, hown, hb4⟩
  obtain ⟨gH, capH, rfl⟩ : ∃ gH capH, vH = .slice (some ⟨gH, 0, none⟩) E.sh.length capH := by
    obtain ⟨gH, capH, e, _⟩ := hown.form (by have := HL2.out; omega)
    exact ⟨gH, capH, by rw [e, HL2.out]⟩
  rw [HL2.out] at hown
  by_cases hf : ps.any farB = true
  · have HA := Lib.hid (acc_far (E := E) (os := os) (ps := ps) hf)
    go_wp2_with (go_at_call 32; refine (contains_any33 farB Q qc ps _ (hA.ps.next hb4) (by unfold maxLen; omega) (Lib.hid fun x W => far_any x W)).mono ?_; rintro e w' ⟨rfl, rfl⟩)
    go_ret2
    exact ⟨ret_two (vbool HA.out.symm) (vint HC.out.symm), bcall HB3.out HB3.out.size hb4⟩
  have hf' : ps.any farB = false := by simpa using hf
  clear hf
  have HF := Lib.hid hf'
  go_wp2_with (go_at_call 32; refine (contains_any33 farB Q qc ps _ (hA.ps.next hb4) (by unfold maxLen; omega) (Lib.hid fun x W => far_any x W)).mono ?_; rintro e w' ⟨rfl, rfl⟩)
  clear hf'
  have hH : w4.ownsRow w3.heap.size 3 1 (.slice (some ⟨gH, 0, none⟩) E.sh.length capH) E.sh.length (cellsL (hasL E os ps 0)) := by rw [hasL_zero HL2.out]; exact hown
  clear hown
  go_loopw [44] (fun i wr => ∃ k : Nat, k ≤ os.length ∧ i = .int .i64 k ∧ Hid (∀ j, j < k → ownOk E os j = true) ∧ Below w3.heap.size w3 wr ∧ wr.ownsRow w3.heap.size 3 1 (.slice (some ⟨gH, 0, none⟩) E.sh.length capH) E.sh.length (cellsL (hasL E os ps k))) (fun i _ => os.length - (intOf i).toNat)
  case atStart => exact ⟨0, Nat.zero_le _, rfl, Lib.hid (fun j hj => by omega), hb4, hH⟩
  case round =>
    clear hb4 hH
    obtain ⟨k, hk, rfl, hok, hB, hH⟩ := hrel
    have HBW := Lib.hid (bcall HB3.out HB3.out.size hB)
    have hA' : EIn w3.heap.size wr A c (some bd) d E := hA.e.below hB
    have hbx := heap_below hA.bx hB hA.lt
    have cbx := fun j => cell_of_row wr _ j _ _ _ hbx
    have hg := heap_below hA.rk.g hB (lt_some hA.rk.g)
    have cg := fun j => cell_of_row wr _ j _ _ _ hg
    by_cases hlt : k < os.length
    · obtain ⟨ao, rfl, _, co⟩ := (hA.os.below hB).at_ hlt
      have hkm : k < E.m := by have := HL1.out; omega
      have HFK := Lib.hid (acc_own (E := E) (os := os) (ps := ps) hlt)
      have hw9 : w.heap.size + 1 < w3.heap.size + 1 := by have := hA.lt; omega
      by_cases q1 : gi os k < 0
      · have p1 : decide (gi os k < 0) = true := by simpa using q1
        have HA := Lib.hid (HFK.out (ownOk_neg q1))
        clear q1
        go_wp2_with fail
        go_quiet (fail)
        go_wp2_with fail
        go_ret2
        exact ⟨ret_two (vbool HA.out.symm) (vint HC.out.symm), below_drewN HBW.out _⟩
      obtain ⟨o, ho⟩ : ∃ o : Nat, gi os k = (o : Int) := ⟨(gi os k).toNat, by omega⟩
      have HO := Lib.hid ho
      rw [ho] at co
      have p1 : decide ((o : Int) < 0) = false := by simp
      clear q1 ho
      have hrows := HE.out.rows
      have hrows' : E.bd.length = E.sh.length := hrows
      have HR := Lib.hid hrows'
      by_cases q2 : E.bd.length ≤ o
      · have p2 : decide ((E.bd.length : Int) ≤ (o : Int)) = true := by simp; omega
        have p2' : decide (E.bd.length ≤ o) = true := by simpa using q2
        have HA := Lib.hid (HFK.out (ownOk_big (by rw [HO.out]; omega)))
        clear hrows hrows'
        go_wp2_with fail
        go_quiet (fail)
        go_wp2_with fail
        go_ret2
        exact ⟨ret_two (vbool HA.out.symm) (vint HC.out.symm), below_drewN HBW.out _⟩
      have p2 : decide ((E.bd.length : Int) ≤ (o : Int)) = false := by simp; omega
      have p2' : decide (E.bd.length ≤ o) = false := by simpa using q2
      have q2' : o < E.bd.length := by omega
      have hon : o < E.n := by have : E.n = E.sh.length := rfl; omega
      have hownlt := HE.out.own_lt k
      have q3' : E.own k < E.bd.length := by omega
      clear hrows hrows' q2
      obtain ⟨bd1, Ro, co', hbd1, hb', hc', hcl, hcm, hro⟩ := hA'.bd.at_ q2'
      obtain rfl : bd = bd1 := by simpa using hbd1
      obtain ⟨bd2, Rw, cw', hbd2, hb2', hc2', hcl2, hcm2, hrw⟩ := hA'.bd.at_ q3'
      obtain rfl : bd = bd2 := by simpa using hbd2
      have l1 : k < (gr E.bd o).length := by have := HE.out.len o hon; simp only [Est.row] at this; omega
      have l2 : k < (gr E.bd (E.own k)).length := by have := HE.out.len (E.own k) hownlt; simp only [Est.row] at this; omega
      obtain ⟨a1, rfl, _, c1⟩ := hro.at_ l1
      obtain ⟨a2, rfl, _, c2⟩ := hrw.at_ l2
      obtain ⟨a3, rfl, _, c3⟩ := (hA.rk.ow.below hB).at_ (k := k) (by rw [ownersL_length]; exact hkm)
      rw [ownersL_gi hkm] at c3
      obtain ⟨y, hy⟩ : ∃ y, y = E.own k := ⟨_, rfl⟩
      rw [← hy] at hownlt q3' hc2' hcl2 l2 c2 c3 hrw
      have HY := Lib.hid hy
      have i1 : (o : Int) < (E.bd.length : Int) := by omega
      have i2 : (y : Int) < (E.bd.length : Int) := by omega
      have i3 : (k : Int) < ((gr E.bd o).length : Int) := by omega
      have i4 : (k : Int) < ((gr E.bd y).length : Int) := by omega
      have i5 : (k : Int) < (E.m : Int) := by omega
      have i6 : (o : Int) < (E.sh.length : Int) := by have := HR.out; omega
      clear hbd1 hbd2 hy
      unfold maxLen at hcm hcm2
      by_cases q3 : gi (gr E.bd o) k < gi (gr E.bd y) k
      · have p3 : decide (gi (gr E.bd o) k < gi (gr E.bd y) k) = true := by simpa using q3
        have HA := Lib.hid (HFK.out (ownOk_ne HO.out (by rw [← HY.out]; simp only [Est.bid, Est.row]; omega)))
        clear q3
        go_wp2_with fail
        go_quiet (fail)
        go_wp2_with fail
        go_ret2
        exact ⟨ret_two (vbool HA.out.symm) (vint HC.out.symm), below_drewN HBW.out _⟩
      have p3 : decide (gi (gr E.bd o) k < gi (gr E.bd y) k) = false := by simpa using q3
      have HFY := Lib.hid (ownOk_yes HO.out hon (by
        have h1 := Est.own_max E k o hon
        rw [← HY.out] at h1 ⊢
        simp only [Est.bid, Est.row] at h1 ⊢
        omega))
      have b5 : 0 ≤ gi (gr E.bd o) k := HE.out.bid0 o k hon hkm
      have b6 : gi (gr E.bd o) k ≤ 1000000 := HE.out.bid1 o k hon hkm
      have w1 := HE.out.worthOf_bd (gi os) o k hon (by omega)
      have hm30 := HE.out.m30
      have f1 := far_all HF.out (i := o) (by have := HL2.out; have := HR.out; omega)
      have hst := hH.stored o (.int .i64 (gi ps o + E.worthOf (gi os) o k + gi (gr E.bd o) k))
      have hcH := hH.cellAt o (by have := HR.out; omega)
      rw [List.getElem?_map, List.getElem?_eq_getElem (by rw [hasL_length]; have := HR.out; omega), ← gi_get, hasL_gi (by have := HR.out; omega)] at hcH
      have hcH' : wr.cell? ⟨gH, o, none⟩ = some (.int .i64 (gi ps o + E.worthOf (gi os) o k)) := hcH
      have hfH := hH.frozenAt o
      have hge : w3.heap.size ≤ gH := (own_ge hH gH rfl).1
      have s1 : IntKind.i64.wrap (gi ps o + E.worthOf (gi os) o k + gi (gr E.bd o) k) = gi ps o + E.worthOf (gi os) o k + gi (gr E.bd o) k := IntWalk.i64_in _ (by omega)
      have HST := Lib.hid (show (wr.setCell ⟨gH, o, none⟩ (.int .i64 (gi ps o + E.worthOf (gi os) o k + gi (gr E.bd o) k))).ownsRow w3.heap.size 3 1 (.slice (some ⟨gH, 0, none⟩) E.sh.length capH) E.sh.length (cellsL (hasL E os ps (k + 1))) from by
        rw [hasL_succ HO.out (by have := HR.out; omega)]; exact hst.1)
      have HSB := Lib.hid (show Below w3.heap.size w3 (wr.setCell ⟨gH, o, none⟩ (.int .i64 (gi ps o + E.worthOf (gi os) o k + gi (gr E.bd o) k))) from hB.setCell hge _)
      clear q3 hst hcH
      go_upto_region 15 with fail
      go_quiet (fail)
      go_upto_region 15 with fail
      have HST' : Hid ((((wr.drewN nq).drew).setCell ⟨gH, o, none⟩ (.int .i64 (gi ps o + E.worthOf (gi os) o k + gi (gr E.bd o) k))).ownsRow w3.heap.size 3 1 (.slice (some ⟨gH, 0, none⟩) E.sh.length capH) E.sh.length (cellsL (hasL E os ps (k + 1)))) := HST
      have HSB' : Hid (Below w3.heap.size w3 (((wr.drewN nq).drew).setCell ⟨gH, o, none⟩ (.int .i64 (gi ps o + E.worthOf (gi os) o k + gi (gr E.bd o) k)))) := Lib.hid (show Below w3.heap.size w3 _ from (Below.drew (below_drewN hB nq)).setCell hge _)
      have e1 : (wr.drewN nq).cell? ⟨gH, o, none⟩ = some (.int .i64 (gi ps o + E.worthOf (gi os) o k)) := hcH'
      have e2 : (wr.drewN nq).frozen? ⟨gH, o, none⟩ = false := hfH
      have e3 : (wr.drewN nq).cell? ⟨w.heap.size, 1, none⟩ = some (.slice (some bd) E.bd.length d) := cbx 1
      have e4 : (wr.drewN nq).cell? (bd.add o) = some (.slice (some a1) (gr E.bd o).length co') := hc'
      have e5 : (wr.drewN nq).cell? (a1.add k) = some (.int .i64 (gi (gr E.bd o) k)) := c1
      clear HST HSB hcH' hfH cbx cg hc' c1 hc2' c2 c3 hH hA' hbx hg co hro hrw
      generalize wr.drewN nq = wd at e1 e2 e3 e4 e5 HST' HSB' ⊢
      go_still_tail 14, (by kernel_rfl)
      change wpList _ _ _ _ _ wd.drew
      go_wp2_with fail
      go_roundw
      case rel => exact ⟨k + 1, by omega, by go_num, Lib.hid (all_step hok.out HFY.out), HSB'.out, HST'.out⟩
      case measure => simp [intOf]; omega
    · obtain rfl : k = os.length := by omega
      obtain ⟨wo, rfl⟩ : ∃ wo : World, wo = wr := ⟨_, rfl⟩
      have gS := HE.out.S_bd
      have hm30 := HE.out.m30
      go_wp2_with fail
      go_loopw [100] (fun i wi => ∃ j : Nat, j ≤ E.sh.length ∧ i = .int .i64 j ∧ Hid (∀ i, i < j → fairAt E os ps i = true) ∧ ∃ q, wi = wo.drewN q) (fun i _ => E.sh.length - (intOf i).toNat)
      case atStart => exact ⟨0, Nat.zero_le _, rfl, Lib.hid (fun j hj => by omega), 0, rfl⟩
      case round =>
        obtain ⟨j, hj, rfl, hfa, q, rfl⟩ := hrel
        by_cases hjt : j < E.sh.length
        · have hcH := hH.cellAt j (by omega)
          rw [List.getElem?_map, List.getElem?_eq_getElem (by rw [hasL_length]; omega), ← gi_get, hasL_gi hjt] at hcH
          have hcH' : wo.cell? ⟨gH, j, none⟩ = some (.int .i64 (gi ps j + E.worthOf (gi os) j os.length)) := hcH
          obtain ⟨a3, rfl, _, c3⟩ := (hA.rk.cl.below hB).at_ (k := j) (by rw [claimsL_length]; exact hjt)
          rw [claimsL_gi hjt] at c3
          have HFJ := Lib.hid (acc_fair (E := E) (os := os) (ps := ps) hjt)
          have f1 := far_all HF.out (i := j) (by have := HL2.out; omega)
          have w1 := HE.out.worthOf_bd (gi os) j os.length hjt (by have := HL1.out; omega)
          have hos30 : os.length ≤ 30 := by have := HL1.out; omega
          have hcl := HE.out.claim_bd j hjt
          obtain ⟨x, hx⟩ : ∃ x, x = gi ps j + E.worthOf (gi os) j os.length := ⟨_, rfl⟩
          rw [← hx] at hcH'
          have m1 := mul_bd (a := E.S) (x := x) (M := 2000000000) (by omega) (by omega) (by omega) (by omega) (by omega)
          have s1 : IntKind.i64.wrap (E.S * x) = E.S * x := IntWalk.i64_in _ (by omega)
          have s2 : IntKind.i64.wrap (E.claim j - E.S) = E.claim j - E.S := IntWalk.i64_in _ (by omega)
          have i1 : (j : Int) < (E.sh.length : Int) := by omega
          have cg2 : wo.cell? ⟨g, 2, none⟩ = some (.int .i64 E.S) := cg 2
          have cg5 : wo.cell? ⟨g, 5, none⟩ = some (.slice (some a3) E.sh.length cc) := cg 5
          have HX := Lib.hid hx
          clear hcH hx cg cbx
          by_cases q3 : E.S * x ≤ E.claim j - E.S
          · have p3 : decide (E.S * x ≤ E.claim j - E.S) = true := by simpa using q3
            have HA := Lib.hid (HFJ.out (fair_no (by rw [← HX.out]; exact q3)))
            clear q3
            go_wp2_with fail
            go_quiet (fail)
            go_wp2_with fail
            go_ret2
            exact ⟨ret_two (vbool HA.out.symm) (vint HC.out.symm), below_drewN (below_drewN HBW.out _) _⟩
          have p3 : decide (E.S * x ≤ E.claim j - E.S) = false := by simpa using q3
          have HFY := Lib.hid (fair_yes (E := E) (os := os) (ps := ps) (i := j) (by rw [← HX.out]; exact q3))
          clear q3
          go_wp2_with fail
          go_quiet (fail)
          go_wp2_with fail
          go_roundw
          case rel => exact ⟨j + 1, by omega, by go_num, Lib.hid (all_step hfa.out HFY.out), _, rfl⟩
          case measure => simp [intOf]; omega
        · obtain rfl : j = E.sh.length := by omega
          have HS := Lib.hid (acc_sum HC.out HL1.out HL2.out hok.out HF.out hfa.out)
          have hps10 : ps.length ≤ 10 := by have := HL2.out; omega
          have HSUM := Lib.hid (sum_any Q qc ps (wo.drewN q) (((hA.ps.below hB).more hB.size).drewN q) (by unfold maxLen; omega) (fun k hk => by have := sum_far HF.out hk; omega))
          go_wp2_with (go_at_call 34; refine HSUM.out.mono ?_; rintro e w' ⟨rfl, rfl⟩)
          go_ret2
          exact ⟨ret_two (vbool (by rw [HS.out]; first | rfl | (rw [Bool.eq_iff_iff]; simp))) (vint HC.out.symm), below_drewN HBW.out _⟩
end Go.Proofs.Ytedgdmblpjfaiaa
