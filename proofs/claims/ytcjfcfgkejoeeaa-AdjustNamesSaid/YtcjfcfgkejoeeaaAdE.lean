/- Valid of the reference of goods, of adjust and of its reference: walked. -/
import Derived.Test.YtcjfcfgkejoeeaaAdD
import Derived.Test.YtcjfcfgkejoeeaaRfA
namespace Go.Proofs.Ytcjfcfgkejoeeaa
open Go.RowKit
set_option linter.unusedVariables false
set_option linter.unusedSimpArgs false

set_option maxRecDepth 100000 in
set_option maxHeartbeats 4000000 in
theorem fgvalid_any (bs : List (List Int)) (A : Option Addr) (c : Nat) (O : Option Addr) (oc : Nat) (xs : List Int) (w : World) (h : GIn w.heap.size w A c bs) (hx : Ints w.heap.size w O xs) (hm : xs.length ≤ maxLen) :
    Calls Try.prog 34 #[gV A c bs, .slice O xs.length oc] w fun e w' => e = .returned (.int .i64 (alCode bs xs)) ∧ Below w.heap.size w w' := by
  have hg0 : (w.alloc (gB A c bs)).heap[w.heap.size]? = some (gB A c bs) := heap_new rfl
  have HC := Lib.hid (fun (W : World) (hW : GIn W.heap.size W A c bs) => fgcheck_any bs A c W hW)
  have HB := Lib.hid (h.next (one_alloc w (gB A c bs)))
  have HX := Lib.hid (hx.next (one_alloc w (gB A c bs)))
  have hm' := hm
  unfold maxLen at hm'
  have hlc := h.len
  have hcc := h.cap
  unfold maxLen at hcc
  clear h hx
  by_cases hc : gdCode bs = 0
  rotate_left
  · have q1 : (gdCode bs != 0) = true := by simpa using hc
    have HV := Lib.hid (al_gd (bs := bs) (a := xs) hc)
    rw [HV.out]
    clear hc HV
    generalize gdCode bs = code at *
    go_enter Try.func34, Try.ntmps34
    go_wp2_with fail
    refine (HC.out _ HB.out).mono ?_
    rintro e w1 ⟨rfl, hb1⟩
    have hg1 := heap_ext hg0 hb1
    have cg := fun j => cell_of_row _ _ j _ _ _ hg1
    go_wp2_with fail
    refine (HC.out _ (HB.out.next hb1)).mono ?_
    rintro e w2 ⟨rfl, hb2⟩
    go_wp2_with fail
    go_ret
    exact ⟨rfl, bcall (bcall (one_alloc _ _) (by simp) hb1) (bcall (one_alloc _ _) (by simp) hb1).size hb2⟩
  have q1 : (gdCode bs != 0) = false := by simpa using hc
  have ho := gd_ok hc
  have h0 : 0 < bs.length := ho.1
  have h6 : bs.length ≤ 6 := ho.2.1
  have HA := Lib.hid (fun hk => al_bad (bs := bs) (a := xs) hc hk)
  have HG := Lib.hid (fun hk => al_good (bs := bs) (a := xs) hc hk)
  clear ho hc
  go_enter Try.func34, Try.ntmps34
  go_wp2_with fail
  refine (HC.out _ HB.out).mono ?_
  rintro e w1 ⟨rfl, hb1⟩
  have HB1 := Lib.hid (HB.out.next hb1)
  have HX1 := Lib.hid (HX.out.next hb1)
  have hg1 := heap_ext hg0 hb1
  have HBel := Lib.hid (bcall (one_alloc w (gB A c bs)) (by simp) hb1)
  clear hb1 HB HX hg0
  have cg := fun j => cell_of_row _ _ j _ _ _ hg1
  have zg := lt_some hg1
  obtain ⟨bd, R0, c0, rfl, hb0, hc0, _, _, _⟩ := HB1.out.at0 h0
  have i0 : (0 : Int) < (bs.length : Int) := by omega
  by_cases hl : (xs.length : Int) = ((gr bs 0).length : Int)
  rotate_left
  · have g1 : ((xs.length : Int) != ((gr bs 0).length : Int)) = true := by simpa using hl
    have HE := Lib.hid (HA.out (fun k => by have := k.1; omega))
    clear hl
    go_wp2_with fail
    go_ret
    exact ⟨ret_int HE.out.symm, HBel.out⟩
  have g1 : ((xs.length : Int) != ((gr bs 0).length : Int)) = false := by simpa using hl
  have HL := Lib.hid hl
  have HG1 := Lib.hid hg1
  clear hl cg hg1
  have cg := fun j => cell_of_row _ _ j _ _ _ HG1.out
  go_wp2_with fail
  clear cg hc0 hb0
  go_loopw [5] (fun i wr => ∃ k : Nat, k ≤ xs.length ∧ i = .int .i64 k ∧ Hid (∀ j, j < k → -1 ≤ gi xs j ∧ gi xs j < bs.length) ∧ Below w.heap.size w wr ∧ Ints wr.heap.size wr O xs ∧ wr.heap[w.heap.size]? = some (gB (some bd) c bs)) (fun i _ => xs.length - (intOf i).toNat)
  case atStart => exact ⟨0, Nat.zero_le _, rfl, Lib.hid fun j hj => by omega, HBel.out, HX1.out, HG1.out⟩
  case round =>
    obtain ⟨k, hk, rfl, hno, hBr, hXr, hgr⟩ := hrel
    have cg := fun j => cell_of_row _ _ j _ _ _ hgr
    by_cases hlt : k < xs.length
    · obtain ⟨ad, rfl, hb, hcx⟩ := hXr.at_ hlt
      have HBr := Lib.hid hBr
      have HXr := Lib.hid hXr
      have i1 : (k : Int) < (xs.length : Int) := by omega
      have i2 : (0 : Int) ≤ (k : Int) := by omega
      clear hBr hXr
      by_cases h1 : gi xs k < -1
      · have HE := Lib.hid (HA.out (fun r => by have := r.2 k hlt; omega))
        have q : decide (gi xs k < -1) = true := by simpa using h1
        clear hno h1
        go_wp2_with fail
        go_quiet (fail)
        go_wp2_with fail
        go_ret
        exact ⟨ret_int HE.out.symm, below_drewN HBr.out _⟩
      · have q : decide (gi xs k < -1) = false := by simpa using h1
        by_cases h2 : (bs.length : Int) ≤ gi xs k
        · have HE := Lib.hid (HA.out (fun r => by have := r.2 k hlt; omega))
          have q2 : decide ((bs.length : Int) ≤ gi xs k) = true := by simpa using h2
          clear hno h1 h2
          go_wp2_with fail
          go_quiet (fail)
          go_wp2_with fail
          go_ret
          exact ⟨ret_int HE.out.symm, below_drewN HBr.out _⟩
        · have HS := Lib.hid (all_step (P := fun j => -1 ≤ gi xs j ∧ gi xs j < bs.length) hno.out (by omega))
          have q2 : decide ((bs.length : Int) ≤ gi xs k) = false := by simpa using h2
          clear hno h1 h2
          go_wp2_with fail
          go_quiet (fail)
          go_wp2_with fail
          go_roundw
          case rel => exact ⟨k + 1, by omega, by go_num, HS, below_drewN HBr.out _, HXr.out.drewN _, hgr⟩
          case measure => simp [intOf]; omega
    · obtain rfl : k = xs.length := by omega
      have HE := Lib.hid (HG.out ⟨by have := HL.out; omega, hno.out⟩)
      clear hno
      go_wp2_with fail
      go_ret
      exact ⟨ret_int HE.out.symm, hBr⟩

set_option maxRecDepth 100000 in
set_option maxHeartbeats 8000000 in
theorem avalid_any (bs : List (List Int)) (A : Option Addr) (c : Nat) (d : Pt) (O : Option Addr) (oc : Nat) (w : World) (h : GIn w.heap.size w A c bs) (hp : PIn w.heap.size w O oc d) :
    Calls Try.prog 12 #[gV A c bs, pV O oc d] w fun e w' => e = .returned (.int .i64 (d.code bs)) ∧ Below w.heap.size w w' := by
  have HBel0 := Lib.hid (show Below w.heap.size w ((w.alloc (gB A c bs)).alloc (pB O oc d)) from (one_alloc w _).alloc (by simp) _)
  have hg0 : ((w.alloc (gB A c bs)).alloc (pB O oc d)).heap[w.heap.size]? = some (gB A c bs) := heap_old (heap_new rfl)
  have hp0 : ((w.alloc (gB A c bs)).alloc (pB O oc d)).heap[w.heap.size + 1]? = some (pB O oc d) := heap_new (by simp)
  have HC := Lib.hid (fun (W : World) (hW : GIn W.heap.size W A c bs) => acheck_any bs A c W hW)
  have HB := Lib.hid (h.next HBel0.out)
  have HP := Lib.hid (hp.next HBel0.out)
  have hoc : d.ow.length ≤ maxLen := Nat.le_trans hp.len hp.cap
  have HV := Lib.hid (fun (W : World) (hW : GIn W.heap.size W A c bs) (hX : Ints W.heap.size W O d.ow) => gvalid_any bs A c O oc d.ow W hW hX hoc)
  have HCT := Lib.hid (fun (W : World) (hX : Ints W.heap.size W O d.ow) => contains_at (-1) O oc d.ow W hX hoc)
  have HRK := Lib.hid (fun (W : World) => rcheck_any d.p hp.p W)
  have hoc' := hoc
  unfold maxLen at hoc'
  have s0 := hp.sp0
  have s1 := hp.sp1
  clear h hp hoc
  by_cases hc : adCode bs = 0
  rotate_left
  · have q1 : (adCode bs != 0) = true := by simpa using hc
    have HE := Lib.hid (pt_ad (bs := bs) (d := d) hc)
    rw [HE.out]
    clear hc HE
    generalize adCode bs = code at *
    go_enter Try.func12, Try.ntmps12
    go_wp2_with fail
    refine (HC.out _ HB.out).mono ?_
    rintro e w1 ⟨rfl, hb1⟩
    go_wp2_with fail
    go_ret
    exact ⟨rfl, bcall HBel0.out HBel0.out.size hb1⟩
  have q1 : (adCode bs != 0) = false := by simpa using hc
  have HAD := Lib.hid (ad_ok hc)
  have XO := Lib.hid (fun k => pt_ow (bs := bs) (d := d) hc k)
  have XW := Lib.hid (fun k e p => pt_whole (bs := bs) (d := d) hc k e p)
  have XX := Lib.hid (fun k e p => pt_whole_bad (bs := bs) (d := d) hc k e p)
  have XG := Lib.hid (fun k e s p => pt_good (bs := bs) (d := d) hc k e s p)
  have XS := Lib.hid (fun k e s => pt_sp (bs := bs) (d := d) hc k e s)
  have XP := Lib.hid (fun k e s => pt_part (bs := bs) (d := d) hc k e s)
  clear hc
  have hal : alCode bs d.ow = 0 ∨ alCode bs d.ow = 8 := by
    by_cases k : AlOk bs d.ow
    · exact Or.inl (al_good HAD.out.gd k)
    · exact Or.inr (al_bad HAD.out.gd k)
  have XA := Lib.hid (show alCode bs d.ow = 0 → AlOk bs d.ow from fun k => (al_ok k).2)
  have XB := Lib.hid (show alCode bs d.ow ≠ 0 → ¬ AlOk bs d.ow from fun k l => k (al_good HAD.out.gd l))
  clear HAD
  by_cases ha : alCode bs d.ow = 0
  rotate_left
  · have q2 : (alCode bs d.ow != 0) = true := by simpa using ha
    have HE := Lib.hid (XO.out (fun k => XB.out ha k.1))
    clear ha hal
    go_enter Try.func12, Try.ntmps12
    go_wp2_with fail
    refine (HC.out _ HB.out).mono ?_
    rintro e w1 ⟨rfl, hb1⟩
    have HB1 := Lib.hid (HB.out.next hb1)
    have HP1 := Lib.hid (HP.out.next hb1)
    have hg1 := heap_ext hg0 hb1
    have hp1 := heap_ext hp0 hb1
    have HBel1 := Lib.hid (bcall HBel0.out HBel0.out.size hb1)
    clear hb1
    have cg := fun j => cell_of_row _ _ j _ _ _ hg1
    have cp := fun j => cell_of_row _ _ j _ _ _ hp1
    go_wp2_with fail
    refine (HV.out _ HB1.out HP1.out.ow).mono ?_
    rintro e w2 ⟨rfl, hb2⟩
    have HP2 := Lib.hid (HP1.out.next hb2)
    have hp2 := heap_ext hp1 hb2
    have HBel2 := Lib.hid (bcall HBel1.out HBel1.out.size hb2)
    clear hb2 cg cp hg1 hp1 HP1 HB1
    have cp := fun j => cell_of_row _ _ j _ _ _ hp2
    go_wp2_with fail
    go_ret
    exact ⟨ret_int HE.out.symm, HBel2.out⟩
  have q2 : (alCode bs d.ow != 0) = false := by simpa using ha
  have hAl := XA.out ha
  clear ha hal
  by_cases hn : (d.ow.any ((-1 : Int) == ·)) = true
  · have HE := Lib.hid (XO.out (fun k => by
      rw [List.any_eq_true] at hn
      obtain ⟨x, hx, he⟩ := hn
      obtain ⟨i, hi, rfl⟩ := mem_gi hx
      have := k.2 i hi
      have : (-1 : Int) = gi d.ow i := by simpa using he
      omega))
    clear hAl
    go_enter Try.func12, Try.ntmps12
    go_wp2_with fail
    refine (HC.out _ HB.out).mono ?_
    rintro e w1 ⟨rfl, hb1⟩
    have HB1 := Lib.hid (HB.out.next hb1)
    have HP1 := Lib.hid (HP.out.next hb1)
    have hg1 := heap_ext hg0 hb1
    have hp1 := heap_ext hp0 hb1
    have HBel1 := Lib.hid (bcall HBel0.out HBel0.out.size hb1)
    clear hb1
    have cg := fun j => cell_of_row _ _ j _ _ _ hg1
    have cp := fun j => cell_of_row _ _ j _ _ _ hp1
    go_wp2_with fail
    refine (HV.out _ HB1.out HP1.out.ow).mono ?_
    rintro e w2 ⟨rfl, hb2⟩
    have HP2 := Lib.hid (HP1.out.next hb2)
    have hp2 := heap_ext hp1 hb2
    have HBel2 := Lib.hid (bcall HBel1.out HBel1.out.size hb2)
    clear hb2 cg cp hg1 hp1 HP1 HB1
    have cp := fun j => cell_of_row _ _ j _ _ _ hp2
    go_wp2_with fail
    refine (HCT.out _ HP2.out.ow).mono ?_
    rintro e w3 ⟨rfl, rfl⟩
    go_wp2_with fail
    go_ret
    exact ⟨ret_int HE.out.symm, HBel2.out⟩
  have hn' : (d.ow.any ((-1 : Int) == ·)) = false := Bool.eq_false_iff.2 hn
  have HOw := Lib.hid (show d.OwOk bs from ⟨hAl, fun k hk => by
    have h1 := (List.any_eq_false.1 hn') _ (gi_mem hk)
    have h2 := (hAl.2 k hk).1
    have h3 : ¬ (-1 : Int) = gi d.ow k := by simpa using h1
    omega⟩)
  clear hn hAl
  by_cases hs : d.sp = -1
  · have q3 : (d.sp == -1) = true := by simpa using hs
    by_cases hn : d.p.n = 0
    · have q4 : (d.p.n == 0) = true := by simpa using hn
      have q4' : (d.p.n != 0) = false := by simpa using hn
      by_cases hd : d.p.d = 1
      · have q5 : (d.p.d == 1) = true := by simpa using hd
        have HE := Lib.hid (XW.out HOw.out hs ⟨hn, hd⟩)
        have HN := Lib.hid hn
        have HS := Lib.hid hs
        have HDD := Lib.hid hd
        clear hn hd hs
        go_enter Try.func12, Try.ntmps12
        go_wp2_with fail
        refine (HC.out _ HB.out).mono ?_
        rintro e w1 ⟨rfl, hb1⟩
        have HB1 := Lib.hid (HB.out.next hb1)
        have HP1 := Lib.hid (HP.out.next hb1)
        have hg1 := heap_ext hg0 hb1
        have hp1 := heap_ext hp0 hb1
        have HBel1 := Lib.hid (bcall HBel0.out HBel0.out.size hb1)
        clear hb1
        have cg := fun j => cell_of_row _ _ j _ _ _ hg1
        have cp := fun j => cell_of_row _ _ j _ _ _ hp1
        go_wp2_with fail
        refine (HV.out _ HB1.out HP1.out.ow).mono ?_
        rintro e w2 ⟨rfl, hb2⟩
        have HP2 := Lib.hid (HP1.out.next hb2)
        have hp2 := heap_ext hp1 hb2
        have HBel2 := Lib.hid (bcall HBel1.out HBel1.out.size hb2)
        clear hb2 cg cp hg1 hp1 HP1 HB1
        have cp := fun j => cell_of_row _ _ j _ _ _ hp2
        go_wp2_with fail
        refine (HCT.out _ HP2.out.ow).mono ?_
        rintro e w3 ⟨rfl, rfl⟩
        go_wp2_with fail
        go_ret
        exact ⟨ret_int HE.out.symm, HBel2.out⟩
      · have q5 : (d.p.d == 1) = false := by simpa using hd
        have HE := Lib.hid (XX.out HOw.out hs (fun k => hd k.2))
        clear hn hd hs
        go_enter Try.func12, Try.ntmps12
        go_wp2_with fail
        refine (HC.out _ HB.out).mono ?_
        rintro e w1 ⟨rfl, hb1⟩
        have HB1 := Lib.hid (HB.out.next hb1)
        have HP1 := Lib.hid (HP.out.next hb1)
        have hg1 := heap_ext hg0 hb1
        have hp1 := heap_ext hp0 hb1
        have HBel1 := Lib.hid (bcall HBel0.out HBel0.out.size hb1)
        clear hb1
        have cg := fun j => cell_of_row _ _ j _ _ _ hg1
        have cp := fun j => cell_of_row _ _ j _ _ _ hp1
        go_wp2_with fail
        refine (HV.out _ HB1.out HP1.out.ow).mono ?_
        rintro e w2 ⟨rfl, hb2⟩
        have HP2 := Lib.hid (HP1.out.next hb2)
        have hp2 := heap_ext hp1 hb2
        have HBel2 := Lib.hid (bcall HBel1.out HBel1.out.size hb2)
        clear hb2 cg cp hg1 hp1 HP1 HB1
        have cp := fun j => cell_of_row _ _ j _ _ _ hp2
        go_wp2_with fail
        refine (HCT.out _ HP2.out.ow).mono ?_
        rintro e w3 ⟨rfl, rfl⟩
        go_wp2_with fail
        go_ret
        exact ⟨ret_int HE.out.symm, HBel2.out⟩
    · have q4 : (d.p.n == 0) = false := by simpa using hn
      have HE := Lib.hid (XX.out HOw.out hs (fun k => hn k.1))
      clear hn hs
      go_enter Try.func12, Try.ntmps12
      go_wp2_with fail
      refine (HC.out _ HB.out).mono ?_
      rintro e w1 ⟨rfl, hb1⟩
      have HB1 := Lib.hid (HB.out.next hb1)
      have HP1 := Lib.hid (HP.out.next hb1)
      have hg1 := heap_ext hg0 hb1
      have hp1 := heap_ext hp0 hb1
      have HBel1 := Lib.hid (bcall HBel0.out HBel0.out.size hb1)
      clear hb1
      have cg := fun j => cell_of_row _ _ j _ _ _ hg1
      have cp := fun j => cell_of_row _ _ j _ _ _ hp1
      go_wp2_with fail
      refine (HV.out _ HB1.out HP1.out.ow).mono ?_
      rintro e w2 ⟨rfl, hb2⟩
      have HP2 := Lib.hid (HP1.out.next hb2)
      have hp2 := heap_ext hp1 hb2
      have HBel2 := Lib.hid (bcall HBel1.out HBel1.out.size hb2)
      clear hb2 cg cp hg1 hp1 HP1 HB1
      have cp := fun j => cell_of_row _ _ j _ _ _ hp2
      go_wp2_with fail
      refine (HCT.out _ HP2.out.ow).mono ?_
      rintro e w3 ⟨rfl, rfl⟩
      go_wp2_with fail
      go_ret
      exact ⟨ret_int HE.out.symm, HBel2.out⟩
  have q3 : (d.sp == -1) = false := by simpa using hs
  by_cases ha : d.sp < 0
  · have q4 : decide (d.sp < 0) = true := by simpa using ha
    have HE := Lib.hid (XS.out HOw.out hs (fun k => by have := k.1.1; omega))
    clear hs ha
    go_enter Try.func12, Try.ntmps12
    go_wp2_with fail
    refine (HC.out _ HB.out).mono ?_
    rintro e w1 ⟨rfl, hb1⟩
    have HB1 := Lib.hid (HB.out.next hb1)
    have HP1 := Lib.hid (HP.out.next hb1)
    have hg1 := heap_ext hg0 hb1
    have hp1 := heap_ext hp0 hb1
    have HBel1 := Lib.hid (bcall HBel0.out HBel0.out.size hb1)
    clear hb1
    have cg := fun j => cell_of_row _ _ j _ _ _ hg1
    have cp := fun j => cell_of_row _ _ j _ _ _ hp1
    go_wp2_with fail
    refine (HV.out _ HB1.out HP1.out.ow).mono ?_
    rintro e w2 ⟨rfl, hb2⟩
    have HP2 := Lib.hid (HP1.out.next hb2)
    have hp2 := heap_ext hp1 hb2
    have HBel2 := Lib.hid (bcall HBel1.out HBel1.out.size hb2)
    clear hb2 cg cp hg1 hp1 HP1 HB1
    have cp := fun j => cell_of_row _ _ j _ _ _ hp2
    go_wp2_with fail
    refine (HCT.out _ HP2.out.ow).mono ?_
    rintro e w3 ⟨rfl, rfl⟩
    go_wp2_with fail
    go_ret
    exact ⟨ret_int HE.out.symm, HBel2.out⟩
  have q4 : decide (d.sp < 0) = false := by simpa using ha
  by_cases hb : (d.ow.length : Int) ≤ d.sp
  · have q5 : decide ((d.ow.length : Int) ≤ d.sp) = true := by simpa using hb
    have HE := Lib.hid (XS.out HOw.out hs (fun k => by have := k.1.2; omega))
    clear hs ha hb
    go_enter Try.func12, Try.ntmps12
    go_wp2_with fail
    refine (HC.out _ HB.out).mono ?_
    rintro e w1 ⟨rfl, hb1⟩
    have HB1 := Lib.hid (HB.out.next hb1)
    have HP1 := Lib.hid (HP.out.next hb1)
    have hg1 := heap_ext hg0 hb1
    have hp1 := heap_ext hp0 hb1
    have HBel1 := Lib.hid (bcall HBel0.out HBel0.out.size hb1)
    clear hb1
    have cg := fun j => cell_of_row _ _ j _ _ _ hg1
    have cp := fun j => cell_of_row _ _ j _ _ _ hp1
    go_wp2_with fail
    refine (HV.out _ HB1.out HP1.out.ow).mono ?_
    rintro e w2 ⟨rfl, hb2⟩
    have HP2 := Lib.hid (HP1.out.next hb2)
    have hp2 := heap_ext hp1 hb2
    have HBel2 := Lib.hid (bcall HBel1.out HBel1.out.size hb2)
    clear hb2 cg cp hg1 hp1 HP1 HB1
    have cp := fun j => cell_of_row _ _ j _ _ _ hp2
    go_wp2_with fail
    refine (HCT.out _ HP2.out.ow).mono ?_
    rintro e w3 ⟨rfl, rfl⟩
    go_wp2_with fail
    go_ret
    exact ⟨ret_int HE.out.symm, HBel2.out⟩
  have q5 : decide ((d.ow.length : Int) ≤ d.sp) = false := by simpa using hb
  have i0 : (0 : Int) ≤ d.sp := by omega
  have i1 : d.sp < (d.ow.length : Int) := by omega
  have i2 : d.sp.toNat < d.ow.length := by omega
  clear ha hb
  by_cases hz : gi d.ow d.sp.toNat = 0
  rotate_left
  · have q6 : (gi d.ow d.sp.toNat != 0) = true := by simpa using hz
    have HE := Lib.hid (XS.out HOw.out hs (fun k => hz k.2))
    clear hs hz
    go_enter Try.func12, Try.ntmps12
    go_wp2_with fail
    refine (HC.out _ HB.out).mono ?_
    rintro e w1 ⟨rfl, hb1⟩
    have HB1 := Lib.hid (HB.out.next hb1)
    have HP1 := Lib.hid (HP.out.next hb1)
    have hg1 := heap_ext hg0 hb1
    have hp1 := heap_ext hp0 hb1
    have HBel1 := Lib.hid (bcall HBel0.out HBel0.out.size hb1)
    clear hb1
    have cg := fun j => cell_of_row _ _ j _ _ _ hg1
    have cp := fun j => cell_of_row _ _ j _ _ _ hp1
    go_wp2_with fail
    refine (HV.out _ HB1.out HP1.out.ow).mono ?_
    rintro e w2 ⟨rfl, hb2⟩
    have HP2 := Lib.hid (HP1.out.next hb2)
    have hp2 := heap_ext hp1 hb2
    have HBel2 := Lib.hid (bcall HBel1.out HBel1.out.size hb2)
    clear hb2 cg cp hg1 hp1 HP1 HB1
    have cp := fun j => cell_of_row _ _ j _ _ _ hp2
    go_wp2_with fail
    refine (HCT.out _ HP2.out.ow).mono ?_
    rintro e w3 ⟨rfl, rfl⟩
    obtain ⟨od, rfl, hob, hoc_⟩ := HP2.out.ow.at_ i2
    go_wp2_with fail
    go_ret
    exact ⟨ret_int HE.out.symm, HBel2.out⟩
  have q6 : (gi d.ow d.sp.toNat != 0) = false := by simpa using hz
  have HSp := Lib.hid (show d.SpOk from ⟨⟨i0, i1⟩, hz⟩)
  clear hz
  by_cases hk : d.p.code = 0
  rotate_left
  · have q7 : (d.p.code != 0) = true := by simpa using hk
    have HE := Lib.hid (XP.out HOw.out hs (fun k => hk k.1))
    clear hs hk
    go_enter Try.func12, Try.ntmps12
    go_wp2_with fail
    refine (HC.out _ HB.out).mono ?_
    rintro e w1 ⟨rfl, hb1⟩
    have HB1 := Lib.hid (HB.out.next hb1)
    have HP1 := Lib.hid (HP.out.next hb1)
    have hg1 := heap_ext hg0 hb1
    have hp1 := heap_ext hp0 hb1
    have HBel1 := Lib.hid (bcall HBel0.out HBel0.out.size hb1)
    clear hb1
    have cg := fun j => cell_of_row _ _ j _ _ _ hg1
    have cp := fun j => cell_of_row _ _ j _ _ _ hp1
    go_wp2_with fail
    refine (HV.out _ HB1.out HP1.out.ow).mono ?_
    rintro e w2 ⟨rfl, hb2⟩
    have HP2 := Lib.hid (HP1.out.next hb2)
    have hp2 := heap_ext hp1 hb2
    have HBel2 := Lib.hid (bcall HBel1.out HBel1.out.size hb2)
    clear hb2 cg cp hg1 hp1 HP1 HB1
    have cp := fun j => cell_of_row _ _ j _ _ _ hp2
    go_wp2_with fail
    refine (HCT.out _ HP2.out.ow).mono ?_
    rintro e w3 ⟨rfl, rfl⟩
    obtain ⟨od, rfl, hob, hoc_⟩ := HP2.out.ow.at_ i2
    go_wp2_with fail
    refine (HRK.out _).mono ?_
    rintro e w4 ⟨rfl, hb4⟩
    have HBel4 := Lib.hid (bcall HBel2.out HBel2.out.size hb4)
    have hp4 := heap_ext hp2 hb4
    clear hb4 cp
    have cp := fun j => cell_of_row _ _ j _ _ _ hp4
    go_wp2_with fail
    go_ret
    exact ⟨ret_int HE.out.symm, HBel4.out⟩
  have q7 : (d.p.code != 0) = false := by simpa using hk
  by_cases h1 : d.p.n ≤ 0
  · have q8 : decide (d.p.n ≤ 0) = true := by simpa using h1
    have HE := Lib.hid (XP.out HOw.out hs (fun k => by have := k.2.1; omega))
    clear hs hk h1
    go_enter Try.func12, Try.ntmps12
    go_wp2_with fail
    refine (HC.out _ HB.out).mono ?_
    rintro e w1 ⟨rfl, hb1⟩
    have HB1 := Lib.hid (HB.out.next hb1)
    have HP1 := Lib.hid (HP.out.next hb1)
    have hg1 := heap_ext hg0 hb1
    have hp1 := heap_ext hp0 hb1
    have HBel1 := Lib.hid (bcall HBel0.out HBel0.out.size hb1)
    clear hb1
    have cg := fun j => cell_of_row _ _ j _ _ _ hg1
    have cp := fun j => cell_of_row _ _ j _ _ _ hp1
    go_wp2_with fail
    refine (HV.out _ HB1.out HP1.out.ow).mono ?_
    rintro e w2 ⟨rfl, hb2⟩
    have HP2 := Lib.hid (HP1.out.next hb2)
    have hp2 := heap_ext hp1 hb2
    have HBel2 := Lib.hid (bcall HBel1.out HBel1.out.size hb2)
    clear hb2 cg cp hg1 hp1 HP1 HB1
    have cp := fun j => cell_of_row _ _ j _ _ _ hp2
    go_wp2_with fail
    refine (HCT.out _ HP2.out.ow).mono ?_
    rintro e w3 ⟨rfl, rfl⟩
    obtain ⟨od, rfl, hob, hoc_⟩ := HP2.out.ow.at_ i2
    go_wp2_with fail
    refine (HRK.out _).mono ?_
    rintro e w4 ⟨rfl, hb4⟩
    have HBel4 := Lib.hid (bcall HBel2.out HBel2.out.size hb4)
    have hp4 := heap_ext hp2 hb4
    clear hb4 cp
    have cp := fun j => cell_of_row _ _ j _ _ _ hp4
    go_wp2_with fail
    go_ret
    exact ⟨ret_int HE.out.symm, HBel4.out⟩
  have q8 : decide (d.p.n ≤ 0) = false := by simpa using h1
  by_cases h2 : d.p.d ≤ d.p.n
  · have q9 : decide (d.p.d ≤ d.p.n) = true := by simpa using h2
    have HE := Lib.hid (XP.out HOw.out hs (fun k => by have := k.2.2.1; omega))
    clear hs hk h1 h2
    go_enter Try.func12, Try.ntmps12
    go_wp2_with fail
    refine (HC.out _ HB.out).mono ?_
    rintro e w1 ⟨rfl, hb1⟩
    have HB1 := Lib.hid (HB.out.next hb1)
    have HP1 := Lib.hid (HP.out.next hb1)
    have hg1 := heap_ext hg0 hb1
    have hp1 := heap_ext hp0 hb1
    have HBel1 := Lib.hid (bcall HBel0.out HBel0.out.size hb1)
    clear hb1
    have cg := fun j => cell_of_row _ _ j _ _ _ hg1
    have cp := fun j => cell_of_row _ _ j _ _ _ hp1
    go_wp2_with fail
    refine (HV.out _ HB1.out HP1.out.ow).mono ?_
    rintro e w2 ⟨rfl, hb2⟩
    have HP2 := Lib.hid (HP1.out.next hb2)
    have hp2 := heap_ext hp1 hb2
    have HBel2 := Lib.hid (bcall HBel1.out HBel1.out.size hb2)
    clear hb2 cg cp hg1 hp1 HP1 HB1
    have cp := fun j => cell_of_row _ _ j _ _ _ hp2
    go_wp2_with fail
    refine (HCT.out _ HP2.out.ow).mono ?_
    rintro e w3 ⟨rfl, rfl⟩
    obtain ⟨od, rfl, hob, hoc_⟩ := HP2.out.ow.at_ i2
    go_wp2_with fail
    refine (HRK.out _).mono ?_
    rintro e w4 ⟨rfl, hb4⟩
    have HBel4 := Lib.hid (bcall HBel2.out HBel2.out.size hb4)
    have hp4 := heap_ext hp2 hb4
    clear hb4 cp
    have cp := fun j => cell_of_row _ _ j _ _ _ hp4
    go_wp2_with fail
    go_ret
    exact ⟨ret_int HE.out.symm, HBel4.out⟩
  have q9 : decide (d.p.d ≤ d.p.n) = false := by simpa using h2
  by_cases h3 : 1000000 < d.p.d
  · have q10 : decide (1000000 < d.p.d) = true := by simpa using h3
    have HE := Lib.hid (XP.out HOw.out hs (fun k => by have := k.2.2.2; omega))
    clear hs hk h1 h2 h3
    go_enter Try.func12, Try.ntmps12
    go_wp2_with fail
    refine (HC.out _ HB.out).mono ?_
    rintro e w1 ⟨rfl, hb1⟩
    have HB1 := Lib.hid (HB.out.next hb1)
    have HP1 := Lib.hid (HP.out.next hb1)
    have hg1 := heap_ext hg0 hb1
    have hp1 := heap_ext hp0 hb1
    have HBel1 := Lib.hid (bcall HBel0.out HBel0.out.size hb1)
    clear hb1
    have cg := fun j => cell_of_row _ _ j _ _ _ hg1
    have cp := fun j => cell_of_row _ _ j _ _ _ hp1
    go_wp2_with fail
    refine (HV.out _ HB1.out HP1.out.ow).mono ?_
    rintro e w2 ⟨rfl, hb2⟩
    have HP2 := Lib.hid (HP1.out.next hb2)
    have hp2 := heap_ext hp1 hb2
    have HBel2 := Lib.hid (bcall HBel1.out HBel1.out.size hb2)
    clear hb2 cg cp hg1 hp1 HP1 HB1
    have cp := fun j => cell_of_row _ _ j _ _ _ hp2
    go_wp2_with fail
    refine (HCT.out _ HP2.out.ow).mono ?_
    rintro e w3 ⟨rfl, rfl⟩
    obtain ⟨od, rfl, hob, hoc_⟩ := HP2.out.ow.at_ i2
    go_wp2_with fail
    refine (HRK.out _).mono ?_
    rintro e w4 ⟨rfl, hb4⟩
    have HBel4 := Lib.hid (bcall HBel2.out HBel2.out.size hb4)
    have hp4 := heap_ext hp2 hb4
    clear hb4 cp
    have cp := fun j => cell_of_row _ _ j _ _ _ hp4
    go_wp2_with fail
    go_ret
    exact ⟨ret_int HE.out.symm, HBel4.out⟩
  have q10 : decide (1000000 < d.p.d) = false := by simpa using h3
  have HE := Lib.hid (XG.out HOw.out hs HSp.out ⟨hk, by omega, by omega, by omega⟩)
  clear hs hk h1 h2 h3
  go_enter Try.func12, Try.ntmps12
  go_wp2_with fail
  refine (HC.out _ HB.out).mono ?_
  rintro e w1 ⟨rfl, hb1⟩
  have HB1 := Lib.hid (HB.out.next hb1)
  have HP1 := Lib.hid (HP.out.next hb1)
  have hg1 := heap_ext hg0 hb1
  have hp1 := heap_ext hp0 hb1
  have HBel1 := Lib.hid (bcall HBel0.out HBel0.out.size hb1)
  clear hb1
  have cg := fun j => cell_of_row _ _ j _ _ _ hg1
  have cp := fun j => cell_of_row _ _ j _ _ _ hp1
  go_wp2_with fail
  refine (HV.out _ HB1.out HP1.out.ow).mono ?_
  rintro e w2 ⟨rfl, hb2⟩
  have HP2 := Lib.hid (HP1.out.next hb2)
  have hp2 := heap_ext hp1 hb2
  have HBel2 := Lib.hid (bcall HBel1.out HBel1.out.size hb2)
  clear hb2 cg cp hg1 hp1 HP1 HB1
  have cp := fun j => cell_of_row _ _ j _ _ _ hp2
  go_wp2_with fail
  refine (HCT.out _ HP2.out.ow).mono ?_
  rintro e w3 ⟨rfl, rfl⟩
  obtain ⟨od, rfl, hob, hoc_⟩ := HP2.out.ow.at_ i2
  go_wp2_with fail
  refine (HRK.out _).mono ?_
  rintro e w4 ⟨rfl, hb4⟩
  have HBel4 := Lib.hid (bcall HBel2.out HBel2.out.size hb4)
  have hp4 := heap_ext hp2 hb4
  clear hb4 cp
  have cp := fun j => cell_of_row _ _ j _ _ _ hp4
  go_wp2_with fail
  go_ret
  exact ⟨ret_int HE.out.symm, HBel4.out⟩

set_option maxRecDepth 100000 in
set_option maxHeartbeats 8000000 in
theorem fvalid_any (bs : List (List Int)) (A : Option Addr) (c : Nat) (d : Pt) (O : Option Addr) (oc : Nat) (w : World) (h : GIn w.heap.size w A c bs) (hp : PIn w.heap.size w O oc d) :
    Calls Try.prog 13 #[gV A c bs, pV O oc d] w fun e w' => e = .returned (.int .i64 (d.code bs)) ∧ Below w.heap.size w w' := by
  have HBel0 := Lib.hid (show Below w.heap.size w ((w.alloc (gB A c bs)).alloc (pB O oc d)) from (one_alloc w _).alloc (by simp) _)
  have hg0 : ((w.alloc (gB A c bs)).alloc (pB O oc d)).heap[w.heap.size]? = some (gB A c bs) := heap_old (heap_new rfl)
  have hp0 : ((w.alloc (gB A c bs)).alloc (pB O oc d)).heap[w.heap.size + 1]? = some (pB O oc d) := heap_new (by simp)
  have HC := Lib.hid (fun (W : World) (hW : GIn W.heap.size W A c bs) => facheck_any bs A c W hW)
  have HB := Lib.hid (h.next HBel0.out)
  have HP := Lib.hid (hp.next HBel0.out)
  have hoc : d.ow.length ≤ maxLen := Nat.le_trans hp.len hp.cap
  have HV := Lib.hid (fun (W : World) (hW : GIn W.heap.size W A c bs) (hX : Ints W.heap.size W O d.ow) => fgvalid_any bs A c O oc d.ow W hW hX hoc)
  have HCT := Lib.hid (fun (W : World) (hX : Ints W.heap.size W O d.ow) => complete_any O oc d.ow W hX hoc)
  have HRK := Lib.hid (fun (W : World) => fcheck_any d.p hp.p W)
  have hoc' := hoc
  unfold maxLen at hoc'
  have s0 := hp.sp0
  have s1 := hp.sp1
  clear h hp hoc
  by_cases hc : adCode bs = 0
  rotate_left
  · have q1 : (adCode bs != 0) = true := by simpa using hc
    have HE := Lib.hid (pt_ad (bs := bs) (d := d) hc)
    rw [HE.out]
    clear hc HE
    generalize adCode bs = code at *
    go_enter Try.func13, Try.ntmps13
    go_wp2_with fail
    refine (HC.out _ HB.out).mono ?_
    rintro e w1 ⟨rfl, hb1⟩
    have hg1 := heap_ext hg0 hb1
    have cg := fun j => cell_of_row _ _ j _ _ _ hg1
    go_wp2_with fail
    refine (HC.out _ (HB.out.next hb1)).mono ?_
    rintro e w2 ⟨rfl, hb2⟩
    go_wp2_with fail
    go_ret
    exact ⟨rfl, bcall (bcall HBel0.out HBel0.out.size hb1) (bcall HBel0.out HBel0.out.size hb1).size hb2⟩
  have q1 : (adCode bs != 0) = false := by simpa using hc
  have HAD := Lib.hid (ad_ok hc)
  have XO := Lib.hid (fun k => pt_ow (bs := bs) (d := d) hc k)
  have XW := Lib.hid (fun k e p => pt_whole (bs := bs) (d := d) hc k e p)
  have XX := Lib.hid (fun k e p => pt_whole_bad (bs := bs) (d := d) hc k e p)
  have XG := Lib.hid (fun k e s p => pt_good (bs := bs) (d := d) hc k e s p)
  have XS := Lib.hid (fun k e s => pt_sp (bs := bs) (d := d) hc k e s)
  have XP := Lib.hid (fun k e s => pt_part (bs := bs) (d := d) hc k e s)
  clear hc
  have hal : alCode bs d.ow = 0 ∨ alCode bs d.ow = 8 := by
    by_cases k : AlOk bs d.ow
    · exact Or.inl (al_good HAD.out.gd k)
    · exact Or.inr (al_bad HAD.out.gd k)
  have XA := Lib.hid (show alCode bs d.ow = 0 → AlOk bs d.ow from fun k => (al_ok k).2)
  have XB := Lib.hid (show alCode bs d.ow ≠ 0 → ¬ AlOk bs d.ow from fun k l => k (al_good HAD.out.gd l))
  clear HAD
  by_cases ha : alCode bs d.ow = 0
  rotate_left
  · have q2 : (alCode bs d.ow != 0) = true := by simpa using ha
    have HE := Lib.hid (XO.out (fun k => XB.out ha k.1))
    clear ha hal
    go_enter Try.func13, Try.ntmps13
    go_wp2_with fail
    refine (HC.out _ HB.out).mono ?_
    rintro e w1 ⟨rfl, hb1⟩
    have HB1 := Lib.hid (HB.out.next hb1)
    have HP1 := Lib.hid (HP.out.next hb1)
    have hg1 := heap_ext hg0 hb1
    have hp1 := heap_ext hp0 hb1
    have HBel1 := Lib.hid (bcall HBel0.out HBel0.out.size hb1)
    clear hb1
    have cg := fun j => cell_of_row _ _ j _ _ _ hg1
    have cp := fun j => cell_of_row _ _ j _ _ _ hp1
    go_wp2_with fail
    refine (HV.out _ HB1.out HP1.out.ow).mono ?_
    rintro e w2 ⟨rfl, hb2⟩
    have HP2 := Lib.hid (HP1.out.next hb2)
    have hp2 := heap_ext hp1 hb2
    have HBel2 := Lib.hid (bcall HBel1.out HBel1.out.size hb2)
    clear hb2 cg cp hg1 hp1 HP1 HB1
    have cp := fun j => cell_of_row _ _ j _ _ _ hp2
    go_wp2_with fail
    go_ret
    exact ⟨ret_int HE.out.symm, HBel2.out⟩
  have q2 : (alCode bs d.ow != 0) = false := by simpa using ha
  have hAl := XA.out ha
  clear ha hal
  by_cases hn : ∀ k, k < d.ow.length → 0 ≤ gi d.ow k
  rotate_left
  · have HE := Lib.hid (XO.out (fun k => hn k.2))
    have HD := Lib.hid (decide_eq_false hn)
    rw [HD.out] at HCT
    clear hAl hn HD
    go_enter Try.func13, Try.ntmps13
    go_wp2_with fail
    refine (HC.out _ HB.out).mono ?_
    rintro e w1 ⟨rfl, hb1⟩
    have HB1 := Lib.hid (HB.out.next hb1)
    have HP1 := Lib.hid (HP.out.next hb1)
    have hg1 := heap_ext hg0 hb1
    have hp1 := heap_ext hp0 hb1
    have HBel1 := Lib.hid (bcall HBel0.out HBel0.out.size hb1)
    clear hb1
    have cg := fun j => cell_of_row _ _ j _ _ _ hg1
    have cp := fun j => cell_of_row _ _ j _ _ _ hp1
    go_wp2_with fail
    refine (HV.out _ HB1.out HP1.out.ow).mono ?_
    rintro e w2 ⟨rfl, hb2⟩
    have HP2 := Lib.hid (HP1.out.next hb2)
    have hp2 := heap_ext hp1 hb2
    have HBel2 := Lib.hid (bcall HBel1.out HBel1.out.size hb2)
    clear hb2 cg cp hg1 hp1 HP1 HB1
    have cp := fun j => cell_of_row _ _ j _ _ _ hp2
    go_wp2_with fail
    refine (HCT.out _ HP2.out.ow).mono ?_
    rintro e w3 ⟨rfl, rfl⟩
    go_wp2_with fail
    go_ret
    exact ⟨ret_int HE.out.symm, HBel2.out⟩
  have HOw := Lib.hid (show d.OwOk bs from ⟨hAl, hn⟩)
  have HD := Lib.hid (decide_eq_true hn)
  rw [HD.out] at HCT
  clear hn hAl HD
  by_cases hs : d.sp = -1
  · have q3 : (d.sp == -1) = true := by simpa using hs
    have q6 : decide (d.sp < 0) = true := by simp; omega
    by_cases hn : d.p.n = 0
    · have q4 : (d.p.n == 0) = true := by simpa using hn
      by_cases hd : d.p.d = 1
      · have q5 : (d.p.d == 1) = true := by simpa using hd
        have HE := Lib.hid (XW.out HOw.out hs ⟨hn, hd⟩)
        clear hn hd hs
        go_enter Try.func13, Try.ntmps13
        go_wp2_with fail
        refine (HC.out _ HB.out).mono ?_
        rintro e w1 ⟨rfl, hb1⟩
        have HB1 := Lib.hid (HB.out.next hb1)
        have HP1 := Lib.hid (HP.out.next hb1)
        have hg1 := heap_ext hg0 hb1
        have hp1 := heap_ext hp0 hb1
        have HBel1 := Lib.hid (bcall HBel0.out HBel0.out.size hb1)
        clear hb1
        have cg := fun j => cell_of_row _ _ j _ _ _ hg1
        have cp := fun j => cell_of_row _ _ j _ _ _ hp1
        go_wp2_with fail
        refine (HV.out _ HB1.out HP1.out.ow).mono ?_
        rintro e w2 ⟨rfl, hb2⟩
        have HP2 := Lib.hid (HP1.out.next hb2)
        have hp2 := heap_ext hp1 hb2
        have HBel2 := Lib.hid (bcall HBel1.out HBel1.out.size hb2)
        clear hb2 cg cp hg1 hp1 HP1 HB1
        have cp := fun j => cell_of_row _ _ j _ _ _ hp2
        go_wp2_with fail
        refine (HCT.out _ HP2.out.ow).mono ?_
        rintro e w3 ⟨rfl, rfl⟩
        go_wp2_with fail
        go_ret
        exact ⟨ret_int HE.out.symm, HBel2.out⟩
      · have q5 : (d.p.d == 1) = false := by simpa using hd
        have HE := Lib.hid (XX.out HOw.out hs (fun k => hd k.2))
        clear hn hd hs
        go_enter Try.func13, Try.ntmps13
        go_wp2_with fail
        refine (HC.out _ HB.out).mono ?_
        rintro e w1 ⟨rfl, hb1⟩
        have HB1 := Lib.hid (HB.out.next hb1)
        have HP1 := Lib.hid (HP.out.next hb1)
        have hg1 := heap_ext hg0 hb1
        have hp1 := heap_ext hp0 hb1
        have HBel1 := Lib.hid (bcall HBel0.out HBel0.out.size hb1)
        clear hb1
        have cg := fun j => cell_of_row _ _ j _ _ _ hg1
        have cp := fun j => cell_of_row _ _ j _ _ _ hp1
        go_wp2_with fail
        refine (HV.out _ HB1.out HP1.out.ow).mono ?_
        rintro e w2 ⟨rfl, hb2⟩
        have HP2 := Lib.hid (HP1.out.next hb2)
        have hp2 := heap_ext hp1 hb2
        have HBel2 := Lib.hid (bcall HBel1.out HBel1.out.size hb2)
        clear hb2 cg cp hg1 hp1 HP1 HB1
        have cp := fun j => cell_of_row _ _ j _ _ _ hp2
        go_wp2_with fail
        refine (HCT.out _ HP2.out.ow).mono ?_
        rintro e w3 ⟨rfl, rfl⟩
        go_wp2_with fail
        go_ret
        exact ⟨ret_int HE.out.symm, HBel2.out⟩
    · have q4 : (d.p.n == 0) = false := by simpa using hn
      have HE := Lib.hid (XX.out HOw.out hs (fun k => hn k.1))
      clear hn hs
      go_enter Try.func13, Try.ntmps13
      go_wp2_with fail
      refine (HC.out _ HB.out).mono ?_
      rintro e w1 ⟨rfl, hb1⟩
      have HB1 := Lib.hid (HB.out.next hb1)
      have HP1 := Lib.hid (HP.out.next hb1)
      have hg1 := heap_ext hg0 hb1
      have hp1 := heap_ext hp0 hb1
      have HBel1 := Lib.hid (bcall HBel0.out HBel0.out.size hb1)
      clear hb1
      have cg := fun j => cell_of_row _ _ j _ _ _ hg1
      have cp := fun j => cell_of_row _ _ j _ _ _ hp1
      go_wp2_with fail
      refine (HV.out _ HB1.out HP1.out.ow).mono ?_
      rintro e w2 ⟨rfl, hb2⟩
      have HP2 := Lib.hid (HP1.out.next hb2)
      have hp2 := heap_ext hp1 hb2
      have HBel2 := Lib.hid (bcall HBel1.out HBel1.out.size hb2)
      clear hb2 cg cp hg1 hp1 HP1 HB1
      have cp := fun j => cell_of_row _ _ j _ _ _ hp2
      go_wp2_with fail
      refine (HCT.out _ HP2.out.ow).mono ?_
      rintro e w3 ⟨rfl, rfl⟩
      go_wp2_with fail
      go_ret
      exact ⟨ret_int HE.out.symm, HBel2.out⟩
  have q3 : (d.sp == -1) = false := by simpa using hs
  by_cases ha : d.sp < 0
  · have q4 : decide (d.sp < 0) = true := by simpa using ha
    have HE := Lib.hid (XS.out HOw.out hs (fun k => by have := k.1.1; omega))
    clear hs ha
    go_enter Try.func13, Try.ntmps13
    go_wp2_with fail
    refine (HC.out _ HB.out).mono ?_
    rintro e w1 ⟨rfl, hb1⟩
    have HB1 := Lib.hid (HB.out.next hb1)
    have HP1 := Lib.hid (HP.out.next hb1)
    have hg1 := heap_ext hg0 hb1
    have hp1 := heap_ext hp0 hb1
    have HBel1 := Lib.hid (bcall HBel0.out HBel0.out.size hb1)
    clear hb1
    have cg := fun j => cell_of_row _ _ j _ _ _ hg1
    have cp := fun j => cell_of_row _ _ j _ _ _ hp1
    go_wp2_with fail
    refine (HV.out _ HB1.out HP1.out.ow).mono ?_
    rintro e w2 ⟨rfl, hb2⟩
    have HP2 := Lib.hid (HP1.out.next hb2)
    have hp2 := heap_ext hp1 hb2
    have HBel2 := Lib.hid (bcall HBel1.out HBel1.out.size hb2)
    clear hb2 cg cp hg1 hp1 HP1 HB1
    have cp := fun j => cell_of_row _ _ j _ _ _ hp2
    go_wp2_with fail
    refine (HCT.out _ HP2.out.ow).mono ?_
    rintro e w3 ⟨rfl, rfl⟩
    go_wp2_with fail
    go_ret
    exact ⟨ret_int HE.out.symm, HBel2.out⟩
  have q4 : decide (d.sp < 0) = false := by simpa using ha
  by_cases hb : (d.ow.length : Int) ≤ d.sp
  · have q5 : decide ((d.ow.length : Int) ≤ d.sp) = true := by simpa using hb
    have HE := Lib.hid (XS.out HOw.out hs (fun k => by have := k.1.2; omega))
    clear hs ha hb
    go_enter Try.func13, Try.ntmps13
    go_wp2_with fail
    refine (HC.out _ HB.out).mono ?_
    rintro e w1 ⟨rfl, hb1⟩
    have HB1 := Lib.hid (HB.out.next hb1)
    have HP1 := Lib.hid (HP.out.next hb1)
    have hg1 := heap_ext hg0 hb1
    have hp1 := heap_ext hp0 hb1
    have HBel1 := Lib.hid (bcall HBel0.out HBel0.out.size hb1)
    clear hb1
    have cg := fun j => cell_of_row _ _ j _ _ _ hg1
    have cp := fun j => cell_of_row _ _ j _ _ _ hp1
    go_wp2_with fail
    refine (HV.out _ HB1.out HP1.out.ow).mono ?_
    rintro e w2 ⟨rfl, hb2⟩
    have HP2 := Lib.hid (HP1.out.next hb2)
    have hp2 := heap_ext hp1 hb2
    have HBel2 := Lib.hid (bcall HBel1.out HBel1.out.size hb2)
    clear hb2 cg cp hg1 hp1 HP1 HB1
    have cp := fun j => cell_of_row _ _ j _ _ _ hp2
    go_wp2_with fail
    refine (HCT.out _ HP2.out.ow).mono ?_
    rintro e w3 ⟨rfl, rfl⟩
    go_wp2_with fail
    go_ret
    exact ⟨ret_int HE.out.symm, HBel2.out⟩
  have q5 : decide ((d.ow.length : Int) ≤ d.sp) = false := by simpa using hb
  have i0 : (0 : Int) ≤ d.sp := by omega
  have i1 : d.sp < (d.ow.length : Int) := by omega
  have i2 : d.sp.toNat < d.ow.length := by omega
  clear ha hb
  by_cases hz : gi d.ow d.sp.toNat = 0
  rotate_left
  · have q6 : (gi d.ow d.sp.toNat != 0) = true := by simpa using hz
    have HE := Lib.hid (XS.out HOw.out hs (fun k => hz k.2))
    clear hs hz
    go_enter Try.func13, Try.ntmps13
    go_wp2_with fail
    refine (HC.out _ HB.out).mono ?_
    rintro e w1 ⟨rfl, hb1⟩
    have HB1 := Lib.hid (HB.out.next hb1)
    have HP1 := Lib.hid (HP.out.next hb1)
    have hg1 := heap_ext hg0 hb1
    have hp1 := heap_ext hp0 hb1
    have HBel1 := Lib.hid (bcall HBel0.out HBel0.out.size hb1)
    clear hb1
    have cg := fun j => cell_of_row _ _ j _ _ _ hg1
    have cp := fun j => cell_of_row _ _ j _ _ _ hp1
    go_wp2_with fail
    refine (HV.out _ HB1.out HP1.out.ow).mono ?_
    rintro e w2 ⟨rfl, hb2⟩
    have HP2 := Lib.hid (HP1.out.next hb2)
    have hp2 := heap_ext hp1 hb2
    have HBel2 := Lib.hid (bcall HBel1.out HBel1.out.size hb2)
    clear hb2 cg cp hg1 hp1 HP1 HB1
    have cp := fun j => cell_of_row _ _ j _ _ _ hp2
    go_wp2_with fail
    refine (HCT.out _ HP2.out.ow).mono ?_
    rintro e w3 ⟨rfl, rfl⟩
    obtain ⟨od, rfl, hob, hoc_⟩ := HP2.out.ow.at_ i2
    go_wp2_with fail
    go_ret
    exact ⟨ret_int HE.out.symm, HBel2.out⟩
  have q6 : (gi d.ow d.sp.toNat != 0) = false := by simpa using hz
  have HSp := Lib.hid (show d.SpOk from ⟨⟨i0, i1⟩, hz⟩)
  clear hz
  by_cases hk : d.p.code = 0
  rotate_left
  · have q7 : (d.p.code != 0) = true := by simpa using hk
    have HE := Lib.hid (XP.out HOw.out hs (fun k => hk k.1))
    clear hs hk
    go_enter Try.func13, Try.ntmps13
    go_wp2_with fail
    refine (HC.out _ HB.out).mono ?_
    rintro e w1 ⟨rfl, hb1⟩
    have HB1 := Lib.hid (HB.out.next hb1)
    have HP1 := Lib.hid (HP.out.next hb1)
    have hg1 := heap_ext hg0 hb1
    have hp1 := heap_ext hp0 hb1
    have HBel1 := Lib.hid (bcall HBel0.out HBel0.out.size hb1)
    clear hb1
    have cg := fun j => cell_of_row _ _ j _ _ _ hg1
    have cp := fun j => cell_of_row _ _ j _ _ _ hp1
    go_wp2_with fail
    refine (HV.out _ HB1.out HP1.out.ow).mono ?_
    rintro e w2 ⟨rfl, hb2⟩
    have HP2 := Lib.hid (HP1.out.next hb2)
    have hp2 := heap_ext hp1 hb2
    have HBel2 := Lib.hid (bcall HBel1.out HBel1.out.size hb2)
    clear hb2 cg cp hg1 hp1 HP1 HB1
    have cp := fun j => cell_of_row _ _ j _ _ _ hp2
    go_wp2_with fail
    refine (HCT.out _ HP2.out.ow).mono ?_
    rintro e w3 ⟨rfl, rfl⟩
    obtain ⟨od, rfl, hob, hoc_⟩ := HP2.out.ow.at_ i2
    go_wp2_with fail
    refine (HRK.out _).mono ?_
    rintro e w4 ⟨rfl, hb4⟩
    have HBel4 := Lib.hid (bcall HBel2.out HBel2.out.size hb4)
    have hp4 := heap_ext hp2 hb4
    clear hb4 cp
    have cp := fun j => cell_of_row _ _ j _ _ _ hp4
    go_wp2_with fail
    go_ret
    exact ⟨ret_int HE.out.symm, HBel4.out⟩
  have q7 : (d.p.code != 0) = false := by simpa using hk
  by_cases h1 : d.p.n < 1
  · have q8 : decide (d.p.n < 1) = true := by simpa using h1
    have HE := Lib.hid (XP.out HOw.out hs (fun k => by have := k.2.1; omega))
    clear hs hk h1
    go_enter Try.func13, Try.ntmps13
    go_wp2_with fail
    refine (HC.out _ HB.out).mono ?_
    rintro e w1 ⟨rfl, hb1⟩
    have HB1 := Lib.hid (HB.out.next hb1)
    have HP1 := Lib.hid (HP.out.next hb1)
    have hg1 := heap_ext hg0 hb1
    have hp1 := heap_ext hp0 hb1
    have HBel1 := Lib.hid (bcall HBel0.out HBel0.out.size hb1)
    clear hb1
    have cg := fun j => cell_of_row _ _ j _ _ _ hg1
    have cp := fun j => cell_of_row _ _ j _ _ _ hp1
    go_wp2_with fail
    refine (HV.out _ HB1.out HP1.out.ow).mono ?_
    rintro e w2 ⟨rfl, hb2⟩
    have HP2 := Lib.hid (HP1.out.next hb2)
    have hp2 := heap_ext hp1 hb2
    have HBel2 := Lib.hid (bcall HBel1.out HBel1.out.size hb2)
    clear hb2 cg cp hg1 hp1 HP1 HB1
    have cp := fun j => cell_of_row _ _ j _ _ _ hp2
    go_wp2_with fail
    refine (HCT.out _ HP2.out.ow).mono ?_
    rintro e w3 ⟨rfl, rfl⟩
    obtain ⟨od, rfl, hob, hoc_⟩ := HP2.out.ow.at_ i2
    go_wp2_with fail
    refine (HRK.out _).mono ?_
    rintro e w4 ⟨rfl, hb4⟩
    have HBel4 := Lib.hid (bcall HBel2.out HBel2.out.size hb4)
    have hp4 := heap_ext hp2 hb4
    clear hb4 cp
    have cp := fun j => cell_of_row _ _ j _ _ _ hp4
    go_wp2_with fail
    go_ret
    exact ⟨ret_int HE.out.symm, HBel4.out⟩
  have q8 : decide (d.p.n < 1) = false := by simpa using h1
  by_cases h2 : d.p.d ≤ d.p.n
  · have q9 : decide (d.p.d ≤ d.p.n) = true := by simpa using h2
    have HE := Lib.hid (XP.out HOw.out hs (fun k => by have := k.2.2.1; omega))
    clear hs hk h1 h2
    go_enter Try.func13, Try.ntmps13
    go_wp2_with fail
    refine (HC.out _ HB.out).mono ?_
    rintro e w1 ⟨rfl, hb1⟩
    have HB1 := Lib.hid (HB.out.next hb1)
    have HP1 := Lib.hid (HP.out.next hb1)
    have hg1 := heap_ext hg0 hb1
    have hp1 := heap_ext hp0 hb1
    have HBel1 := Lib.hid (bcall HBel0.out HBel0.out.size hb1)
    clear hb1
    have cg := fun j => cell_of_row _ _ j _ _ _ hg1
    have cp := fun j => cell_of_row _ _ j _ _ _ hp1
    go_wp2_with fail
    refine (HV.out _ HB1.out HP1.out.ow).mono ?_
    rintro e w2 ⟨rfl, hb2⟩
    have HP2 := Lib.hid (HP1.out.next hb2)
    have hp2 := heap_ext hp1 hb2
    have HBel2 := Lib.hid (bcall HBel1.out HBel1.out.size hb2)
    clear hb2 cg cp hg1 hp1 HP1 HB1
    have cp := fun j => cell_of_row _ _ j _ _ _ hp2
    go_wp2_with fail
    refine (HCT.out _ HP2.out.ow).mono ?_
    rintro e w3 ⟨rfl, rfl⟩
    obtain ⟨od, rfl, hob, hoc_⟩ := HP2.out.ow.at_ i2
    go_wp2_with fail
    refine (HRK.out _).mono ?_
    rintro e w4 ⟨rfl, hb4⟩
    have HBel4 := Lib.hid (bcall HBel2.out HBel2.out.size hb4)
    have hp4 := heap_ext hp2 hb4
    clear hb4 cp
    have cp := fun j => cell_of_row _ _ j _ _ _ hp4
    go_wp2_with fail
    go_ret
    exact ⟨ret_int HE.out.symm, HBel4.out⟩
  have q9 : decide (d.p.d ≤ d.p.n) = false := by simpa using h2
  by_cases h3 : 1000000 < d.p.d
  · have q10 : decide (1000000 < d.p.d) = true := by simpa using h3
    have HE := Lib.hid (XP.out HOw.out hs (fun k => by have := k.2.2.2; omega))
    clear hs hk h1 h2 h3
    go_enter Try.func13, Try.ntmps13
    go_wp2_with fail
    refine (HC.out _ HB.out).mono ?_
    rintro e w1 ⟨rfl, hb1⟩
    have HB1 := Lib.hid (HB.out.next hb1)
    have HP1 := Lib.hid (HP.out.next hb1)
    have hg1 := heap_ext hg0 hb1
    have hp1 := heap_ext hp0 hb1
    have HBel1 := Lib.hid (bcall HBel0.out HBel0.out.size hb1)
    clear hb1
    have cg := fun j => cell_of_row _ _ j _ _ _ hg1
    have cp := fun j => cell_of_row _ _ j _ _ _ hp1
    go_wp2_with fail
    refine (HV.out _ HB1.out HP1.out.ow).mono ?_
    rintro e w2 ⟨rfl, hb2⟩
    have HP2 := Lib.hid (HP1.out.next hb2)
    have hp2 := heap_ext hp1 hb2
    have HBel2 := Lib.hid (bcall HBel1.out HBel1.out.size hb2)
    clear hb2 cg cp hg1 hp1 HP1 HB1
    have cp := fun j => cell_of_row _ _ j _ _ _ hp2
    go_wp2_with fail
    refine (HCT.out _ HP2.out.ow).mono ?_
    rintro e w3 ⟨rfl, rfl⟩
    obtain ⟨od, rfl, hob, hoc_⟩ := HP2.out.ow.at_ i2
    go_wp2_with fail
    refine (HRK.out _).mono ?_
    rintro e w4 ⟨rfl, hb4⟩
    have HBel4 := Lib.hid (bcall HBel2.out HBel2.out.size hb4)
    have hp4 := heap_ext hp2 hb4
    clear hb4 cp
    have cp := fun j => cell_of_row _ _ j _ _ _ hp4
    go_wp2_with fail
    go_ret
    exact ⟨ret_int HE.out.symm, HBel4.out⟩
  have q10 : decide (1000000 < d.p.d) = false := by simpa using h3
  have HE := Lib.hid (XG.out HOw.out hs HSp.out ⟨hk, by omega, by omega, by omega⟩)
  clear hs hk h1 h2 h3
  go_enter Try.func13, Try.ntmps13
  go_wp2_with fail
  refine (HC.out _ HB.out).mono ?_
  rintro e w1 ⟨rfl, hb1⟩
  have HB1 := Lib.hid (HB.out.next hb1)
  have HP1 := Lib.hid (HP.out.next hb1)
  have hg1 := heap_ext hg0 hb1
  have hp1 := heap_ext hp0 hb1
  have HBel1 := Lib.hid (bcall HBel0.out HBel0.out.size hb1)
  clear hb1
  have cg := fun j => cell_of_row _ _ j _ _ _ hg1
  have cp := fun j => cell_of_row _ _ j _ _ _ hp1
  go_wp2_with fail
  refine (HV.out _ HB1.out HP1.out.ow).mono ?_
  rintro e w2 ⟨rfl, hb2⟩
  have HP2 := Lib.hid (HP1.out.next hb2)
  have hp2 := heap_ext hp1 hb2
  have HBel2 := Lib.hid (bcall HBel1.out HBel1.out.size hb2)
  clear hb2 cg cp hg1 hp1 HP1 HB1
  have cp := fun j => cell_of_row _ _ j _ _ _ hp2
  go_wp2_with fail
  refine (HCT.out _ HP2.out.ow).mono ?_
  rintro e w3 ⟨rfl, rfl⟩
  obtain ⟨od, rfl, hob, hoc_⟩ := HP2.out.ow.at_ i2
  go_wp2_with fail
  refine (HRK.out _).mono ?_
  rintro e w4 ⟨rfl, hb4⟩
  have HBel4 := Lib.hid (bcall HBel2.out HBel2.out.size hb4)
  have hp4 := heap_ext hp2 hb4
  clear hb4 cp
  have cp := fun j => cell_of_row _ _ j _ _ _ hp4
  go_wp2_with fail
  go_ret
  exact ⟨ret_int HE.out.symm, HBel4.out⟩
end Go.Proofs.Ytcjfcfgkejoeeaa
