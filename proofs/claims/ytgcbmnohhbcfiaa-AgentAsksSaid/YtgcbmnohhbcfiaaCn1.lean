/- Desks are checked. -/
import Derived.Test.YtgcbmnohhbcfiaaCm11
import Derived.Test.YtgcbmnohhbcfiaaCm9
import Derived.Test.YtgcbmnohhbcfiaaCm13
namespace Go.Proofs.Ytgcbmnohhbcfiaa
open Go.RowKit Go.Deep
set_option linter.unusedVariables false
set_option linter.unusedSimpArgs false

set_option maxRecDepth 100000 in
set_option maxHeartbeats 8000000 in
theorem fdcheck_any (ks : List Ck) (A : Option Addr) (c : Nat) (l : List Qy) (B : Option Addr) (d : Nat) (w : World) (h : CsIn w.heap.size w A c ks) (hn : l.length ≤ maxLen) :
    Calls Try.prog 57 #[dV A c ks B d l] w fun e w' => e = .returned (.int .i64 (deskC ks l.length)) ∧ Below w.heap.size w w' := by
  have hm := Nat.le_trans h.len h.cap
  unfold maxLen at hm hn
  have hB0 : Bx w [(w.heap.size, dB A c ks B d l)] (w.alloc (dB A c ks B d l)) := (Bx.start w).new rfl _
  have HH := Lib.hid (fun (W : World) (hW : Below w.heap.size w W) => h.next hW)
  clear h
  have c_d := fun j => cell_of_row _ _ j _ _ _ (hB0.get 0 rfl)
  have z_d := hB0.lt 0 rfl
  have HBw := Lib.hid hB0.below
  by_cases q1 : 6 < ks.length
  · have b1 : decide ((6 : Int) < (ks.length : Int)) = true := decide_eq_true (by omega)
    have HR := Lib.hid (deskC_many (ks := ks) (n := l.length) (Or.inl q1))
    rw [HR.out]
    clear HR q1 HH hB0 hm hn
    go_enter Try.func57, Try.ntmps57
    go_wp2_with fail
    go_ret
    exact ⟨rfl, HBw.out⟩
  have b1 : decide ((6 : Int) < (ks.length : Int)) = false := decide_eq_false (by omega)
  by_cases q2 : 2000 < l.length
  · have b2 : decide ((2000 : Int) < (l.length : Int)) = true := decide_eq_true (by omega)
    have HR := Lib.hid (deskC_many (ks := ks) (n := l.length) (Or.inr q2))
    rw [HR.out]
    clear HR q1 q2 HH hB0 hm hn
    go_enter Try.func57, Try.ntmps57
    go_wp2_with fail
    go_ret
    exact ⟨rfl, HBw.out⟩
  have b2 : decide ((2000 : Int) < (l.length : Int)) = false := decide_eq_false (by omega)
  have HQ := Lib.hid (show ¬ (6 < ks.length ∨ 2000 < l.length) by omega)
  by_cases q3 : ks.length = 0
  · have b3 : ((ks.length : Int) == 0) = true := by simpa using q3
    have HR := Lib.hid (deskC_none HQ.out q3)
    rw [HR.out]
    clear HR q1 q2 q3 HH hB0 hm hn HQ
    go_enter Try.func57, Try.ntmps57
    go_wp2_with fail
    go_ret
    exact ⟨rfl, HBw.out⟩
  have b3 : ((ks.length : Int) == 0) = false := by simpa using q3
  have HP := Lib.hid q3
  clear q1 q2 q3 hn
  go_enter Try.func57, Try.ntmps57
  go_wp2_with fail
  clear b1 b2 b3 c_d z_d
  go_loopw [3] (fun s3 wr => ∃ k : Nat, k ≤ ks.length ∧ s3 = .int .i64 k ∧ Hid (∀ (j : Nat) (L : Ck), j < k → ks[j]? = some L → L.code = 0) ∧ Bx w [(w.heap.size, dB A c ks B d l)] wr) (fun s3 _ => ks.length - (intOf s3).toNat)
  case atStart => exact ⟨0, Nat.zero_le _, rfl, fun j L hj => by omega, hB0⟩
  case round =>
    obtain ⟨k, hk, rfl, hno, hBr⟩ := hrel
    clear hB0 HBw
    have c_d := fun j => cell_of_row _ _ j _ _ _ (hBr.get 0 rfl)
    have z_d := hBr.lt 0 rfl
    by_cases hlt : k < ks.length
    rotate_left
    · obtain rfl : k = ks.length := by omega
      have HZ := Lib.hid (show ∀ (i : Nat) (L : Ck), ks[i]? = some L → L.code = 0 from fun j L hj => hno j L (by rcases Nat.lt_or_ge j ks.length with q | q; exact q; rw [List.getElem?_eq_none q] at hj; cases hj) hj)
      clear hno hk hlt
      go_wp2_with fail
      clear c_d z_d
      go_loopw [4] (fun s4 wr => ∃ k : Nat, k ≤ ks.length ∧ s4 = .int .i64 k ∧ Hid (∀ (j : Nat) (L : Ck), j < k → ks[j]? = some L → L.len = len0 ks) ∧ Bx w [(w.heap.size, dB A c ks B d l)] wr) (fun s4 _ => ks.length - (intOf s4).toNat)
      case atStart => exact ⟨0, Nat.zero_le _, rfl, fun j L hj => by omega, hBr⟩
      case round =>
        clear hBr
        obtain ⟨k, hk, rfl, hno, hBr⟩ := hrel
        have c_d := fun j => cell_of_row _ _ j _ _ _ (hBr.get 0 rfl)
        have z_d := hBr.lt 0 rfl
        have HBw := Lib.hid hBr.below
        by_cases hlt : k < ks.length
        rotate_left
        · obtain rfl : k = ks.length := by omega
          have HR := Lib.hid (deskC_good HQ.out HP.out HZ.out (fun j L hj => hno j L (by rcases Nat.lt_or_ge j ks.length with q | q; exact q; rw [List.getElem?_eq_none q] at hj; cases hj) hj))
          clear hno hk hlt hBr HZ HQ HP HH
          go_wp2_with fail
          go_ret
          exact ⟨ret_int HR.out.symm, HBw.out⟩
        obtain ⟨K, hK⟩ : ∃ K, ks[k]? = some K := ⟨_, List.getElem?_eq_getElem hlt⟩
        obtain ⟨K0, hK0⟩ : ∃ K, ks[0]? = some K := ⟨_, List.getElem?_eq_getElem (by omega)⟩
        obtain ⟨ad, P, p, R, r, rfl, hb, hC, c0, c1, c2⟩ := (HH.out _ hBr.below).cake hK
        obtain ⟨ad', P', p', R', r', e, hb', hC', d0, d1, d2⟩ := (HH.out _ hBr.below).cake hK0
        obtain rfl := Option.some.inj e
        rw [Nat.zero_mul, show ad.add 0 = ad by simp [Addr.add]] at d0
        obtain ⟨z1, z2, z3, z4⟩ := idx_facts hlt hm
        have z0 : (0 : Int) < (ks.length : Int) := by omega
        have f1 : (ad.add (k * 3)).block < wr.heap.size := by rw [block_add]; exact hb
        have HLE := Lib.hid (And.intro (Nat.succ_le_of_lt hlt) (Nat.sub_lt_sub_left hlt (Nat.lt_succ_self k)))
        have HBr := Lib.hid hBr
        by_cases e : K.len = K0.len
        · have b1 : (K.len != K0.len) = false := by simpa using e
          have HN := Lib.hid (show Hid (∀ (j : Nat) (L : Ck), j < k + 1 → ks[j]? = some L → L.len = len0 ks) from fun j L hj hL => by
            rcases Nat.lt_or_ge j k with u | u
            · exact hno j L u hL
            · obtain rfl : j = k := by omega
              rw [hK] at hL; obtain rfl := Option.some.inj hL
              rw [len0_at hK0]; exact e)
          clear hno hk hlt hK hK0 hC hC' hBr HZ HQ HP HH c1 c2 d1 d2 e
          go_wp2_with fail
          refine wp_region_ext (by kernel_rfl) (by kernel_rfl) ?_
          repeat (first | go_big_quiet_step (fail) | quiet_step (fail))
          refine wpQuiet_nil ?_
          rintro _ ⟨⟨w2, hb2⟩, rfl⟩
          have HBr2 := Lib.hid (HBr.out.next hb2)
          clear hb2 HBr hb hb' f1 c0 d0 c_d z_d
          go_wp2_with fail
          exact ⟨⟨k + 1, HLE.out.1, by go_num, HN.out, HBr2.out⟩, by simpa [intOf] using HLE.out.2⟩
        · have b1 : (K.len != K0.len) = true := by simpa using e
          have HR := Lib.hid (deskC_odd HQ.out HZ.out hK (by rw [len0_at hK0]; exact e))
          clear hno hk hlt hK hK0 hC hC' hBr HZ HQ HP HH c1 c2 d1 d2 e
          go_wp2_with fail
          refine wp_region_ext (by kernel_rfl) (by kernel_rfl) ?_
          repeat (first | go_big_quiet_step (fail) | quiet_step (fail))
          refine wpQuiet_nil ?_
          rintro _ ⟨⟨w2, hb2⟩, rfl⟩
          have HBr2 := Lib.hid (HBr.out.next hb2)
          clear hb2 HBr hb hb' f1 c0 d0 c_d z_d
          go_wp2_with fail
          go_ret
          exact ⟨ret_int HR.out.symm, HBr2.out.below⟩
    obtain ⟨K, hK⟩ : ∃ K, ks[k]? = some K := ⟨_, List.getElem?_eq_getElem hlt⟩
    have HCk := Lib.hid (fun (W : World) (hW : Below w.heap.size w W) => (HH.out W hW).cake hK)
    obtain ⟨z1, z2, z3, z4⟩ := idx_facts hlt hm
    have HLE := Lib.hid (And.intro (Nat.succ_le_of_lt hlt) (Nat.sub_lt_sub_left hlt (Nat.lt_succ_self k)))
    obtain ⟨ad, P, p, R, r, rfl, hb, hC, c0, c1, c2⟩ := HCk.out _ hBr.below
    have HC := Lib.hid (fun (W : World) (hW : Below wr.heap.size wr W) => fckcheck_any K P p R r W (hC.next hW))
    have HF := Lib.hid (fun (W : World) (hW : Below wr.heap.size wr W) => show W.cell? (ad.add (k * 3)) = some (.int .i64 K.len) ∧ W.cell? ⟨(ad.add (k * 3)).block, (ad.add (k * 3)).off + 1, none⟩ = some (.slice P K.cuts.length p) ∧ W.cell? ⟨(ad.add (k * 3)).block, (ad.add (k * 3)).off + 2, none⟩ = some (.slice R K.dens.length r) ∧ ad.block < W.heap.size from
      ⟨(hW.cell (by rw [block_add]; exact hb)).trans c0, (hW.cell (p := ⟨(ad.add (k * 3)).block, (ad.add (k * 3)).off + 1, none⟩) (by show (ad.add (k * 3)).block < _; rw [block_add]; exact hb)).trans c1, (hW.cell (p := ⟨(ad.add (k * 3)).block, (ad.add (k * 3)).off + 2, none⟩) (by show (ad.add (k * 3)).block < _; rw [block_add]; exact hb)).trans c2, Nat.lt_of_lt_of_le hb hW.size⟩)
    have HBr := Lib.hid hBr
    by_cases e : K.code = 0
    · have HN := Lib.hid (show Hid (∀ (j : Nat) (L : Ck), j < k + 1 → ks[j]? = some L → L.code = 0) from fun j L hj hL => by
        rcases Nat.lt_or_ge j k with u | u
        · exact hno j L u hL
        · obtain rfl : j = k := by omega
          rw [hK] at hL; obtain rfl := Option.some.inj hL
          exact e)
      rw [e] at HC
      clear hno hk hlt hK hC hBr HQ HP HH e HCk HF
      go_wp2_with fail
      refine (HC.out _ (Below.refl _ _)).mono ?_
      rintro e w1 ⟨rfl, hb1⟩
      have HB1 := Lib.hid (HBr.out.next hb1)
      clear hb1 HBr HC c0 c1 c2 hb c_d z_d
      go_wp2_with fail
      exact ⟨⟨k + 1, HLE.out.1, by go_num, HN.out, HB1.out⟩, by simpa [intOf] using HLE.out.2⟩
    · have HR := Lib.hid (deskC_hit HQ.out hno hK e)
      have b1 : (K.code != 0) = true := by simpa using e
      obtain ⟨code, hco⟩ : ∃ x, x = K.code := ⟨_, rfl⟩
      rw [← hco] at HC b1
      have hco := Lib.hid hco
      clear hno hk hlt hK hC hBr HQ HP HH e HCk
      go_wp2_with fail
      refine (HC.out _ (Below.refl _ _)).mono ?_
      rintro e w1 ⟨rfl, hb1⟩
      have hBr := HBr.out.next hb1
      have HW1 := Lib.hid hb1
      obtain ⟨f0, f1, f2, f3⟩ := HF.out _ hb1
      clear hb1 HBr c0 c1 c2 hb c_d z_d
      have c_d := fun j => cell_of_row _ _ j _ _ _ (hBr.get 0 rfl)
      have z_d := hBr.lt 0 rfl
      have HBr := Lib.hid hBr
      clear hBr HF
      go_wp2_with fail
      refine (HC.out _ HW1.out).mono ?_
      rintro e w2 ⟨rfl, hb2⟩
      have HB2 := Lib.hid (HBr.out.next hb2).below
      clear hb2 HBr HC f0 f1 f2 f3 c_d z_d HW1
      go_wp2_with fail
      go_ret
      exact ⟨ret_int (by rw [HR.out, ← hco.out]), HB2.out⟩
end Go.Proofs.Ytgcbmnohhbcfiaa

namespace Go.Proofs.Ytgcbmnohhbcfiaa
open Go.RowKit Go.Deep
set_option linter.unusedVariables false
set_option linter.unusedSimpArgs false

set_option maxRecDepth 100000 in
set_option maxHeartbeats 8000000 in
theorem dcheck_any (ks : List Ck) (A : Option Addr) (c : Nat) (l : List Qy) (B : Option Addr) (d : Nat) (w : World) (h : CsIn w.heap.size w A c ks) (hn : l.length ≤ maxLen) :
    Calls Try.prog 112 #[dV A c ks B d l] w fun e w' => e = .returned (.int .i64 (deskC ks l.length)) ∧ Below w.heap.size w w' := by
  have hm := Nat.le_trans h.len h.cap
  unfold maxLen at hm hn
  have hB0 : Bx w [(w.heap.size, dB A c ks B d l)] (w.alloc (dB A c ks B d l)) := (Bx.start w).new rfl _
  have HH := Lib.hid (fun (W : World) (hW : Below w.heap.size w W) => h.next hW)
  clear h
  have c_d := fun j => cell_of_row _ _ j _ _ _ (hB0.get 0 rfl)
  have z_d := hB0.lt 0 rfl
  have HBw := Lib.hid hB0.below
  by_cases q1 : 6 < ks.length
  · have b1 : decide ((6 : Int) < (ks.length : Int)) = true := decide_eq_true (by omega)
    have HR := Lib.hid (deskC_many (ks := ks) (n := l.length) (Or.inl q1))
    rw [HR.out]
    clear HR q1 HH hB0 hm hn
    go_enter Try.func112, Try.ntmps112
    go_wp2_with fail
    go_ret
    exact ⟨rfl, HBw.out⟩
  have b1 : decide ((6 : Int) < (ks.length : Int)) = false := decide_eq_false (by omega)
  by_cases q2 : 2000 < l.length
  · have b2 : decide ((2000 : Int) < (l.length : Int)) = true := decide_eq_true (by omega)
    have HR := Lib.hid (deskC_many (ks := ks) (n := l.length) (Or.inr q2))
    rw [HR.out]
    clear HR q1 q2 HH hB0 hm hn
    go_enter Try.func112, Try.ntmps112
    go_wp2_with fail
    go_ret
    exact ⟨rfl, HBw.out⟩
  have b2 : decide ((2000 : Int) < (l.length : Int)) = false := decide_eq_false (by omega)
  have HQ := Lib.hid (show ¬ (6 < ks.length ∨ 2000 < l.length) by omega)
  by_cases q3 : ks.length = 0
  · have b3 : ((ks.length : Int) == 0) = true := by simpa using q3
    have HR := Lib.hid (deskC_none HQ.out q3)
    rw [HR.out]
    clear HR q1 q2 q3 HH hB0 hm hn HQ
    go_enter Try.func112, Try.ntmps112
    go_wp2_with fail
    go_ret
    exact ⟨rfl, HBw.out⟩
  have b3 : ((ks.length : Int) == 0) = false := by simpa using q3
  have HP := Lib.hid q3
  clear q1 q2 q3 hn
  go_enter Try.func112, Try.ntmps112
  go_wp2_with fail
  clear b1 b2 b3 c_d z_d
  go_loopw [25] (fun s3 wr => ∃ k : Nat, k ≤ ks.length ∧ s3 = .int .i64 k ∧ Hid (∀ (j : Nat) (L : Ck), j < k → ks[j]? = some L → L.code = 0) ∧ Bx w [(w.heap.size, dB A c ks B d l)] wr) (fun s3 _ => ks.length - (intOf s3).toNat)
  case atStart => exact ⟨0, Nat.zero_le _, rfl, fun j L hj => by omega, hB0⟩
  case round =>
    obtain ⟨k, hk, rfl, hno, hBr⟩ := hrel
    clear hB0 HBw
    have c_d := fun j => cell_of_row _ _ j _ _ _ (hBr.get 0 rfl)
    have z_d := hBr.lt 0 rfl
    by_cases hlt : k < ks.length
    rotate_left
    · obtain rfl : k = ks.length := by omega
      have HZ := Lib.hid (show ∀ (i : Nat) (L : Ck), ks[i]? = some L → L.code = 0 from fun j L hj => hno j L (by rcases Nat.lt_or_ge j ks.length with q | q; exact q; rw [List.getElem?_eq_none q] at hj; cases hj) hj)
      clear hno hk hlt
      go_wp2_with fail
      clear c_d z_d
      go_loopw [38] (fun s4 wr => ∃ k : Nat, k ≤ ks.length ∧ s4 = .int .i64 k ∧ Hid (∀ (j : Nat) (L : Ck), j < k → ks[j]? = some L → L.len = len0 ks) ∧ Bx w [(w.heap.size, dB A c ks B d l)] wr) (fun s4 _ => ks.length - (intOf s4).toNat)
      case atStart => exact ⟨0, Nat.zero_le _, rfl, fun j L hj => by omega, hBr⟩
      case round =>
        clear hBr
        obtain ⟨k, hk, rfl, hno, hBr⟩ := hrel
        have c_d := fun j => cell_of_row _ _ j _ _ _ (hBr.get 0 rfl)
        have z_d := hBr.lt 0 rfl
        have HBw := Lib.hid hBr.below
        by_cases hlt : k < ks.length
        rotate_left
        · obtain rfl : k = ks.length := by omega
          have HR := Lib.hid (deskC_good HQ.out HP.out HZ.out (fun j L hj => hno j L (by rcases Nat.lt_or_ge j ks.length with q | q; exact q; rw [List.getElem?_eq_none q] at hj; cases hj) hj))
          clear hno hk hlt hBr HZ HQ HP HH
          go_wp2_with fail
          go_ret
          exact ⟨ret_int HR.out.symm, HBw.out⟩
        obtain ⟨K, hK⟩ : ∃ K, ks[k]? = some K := ⟨_, List.getElem?_eq_getElem hlt⟩
        obtain ⟨K0, hK0⟩ : ∃ K, ks[0]? = some K := ⟨_, List.getElem?_eq_getElem (by omega)⟩
        obtain ⟨ad, P, p, R, r, rfl, hb, hC, c0, c1, c2⟩ := (HH.out _ hBr.below).cake hK
        obtain ⟨ad', P', p', R', r', e, hb', hC', d0, d1, d2⟩ := (HH.out _ hBr.below).cake hK0
        obtain rfl := Option.some.inj e
        rw [Nat.zero_mul, show ad.add 0 = ad by simp [Addr.add]] at d0
        obtain ⟨z1, z2, z3, z4⟩ := idx_facts hlt hm
        have hBk := hBr.new rfl (cB P p R r K)
        have c_k := fun j => cell_of_row _ _ j _ _ _ (hBk.get 0 rfl)
        have z_k := hBk.lt 0 rfl
        have e_d := fun j => cell_of_row _ _ j _ _ _ (hBk.get 1 rfl)
        have y_d := hBk.lt 1 rfl
        have HBk := Lib.hid hBk
        have d1' := ((one_alloc wr (cB P p R r K)).cell (p := ad) hb).trans d0
        have hb2 := Nat.lt_of_lt_of_le hb (one_alloc wr (cB P p R r K)).size
        clear hBk
        have z0 : (0 : Int) < (ks.length : Int) := by omega
        have HLE := Lib.hid (And.intro (Nat.succ_le_of_lt hlt) (Nat.sub_lt_sub_left hlt (Nat.lt_succ_self k)))
        have HBr := Lib.hid hBr
        by_cases e : K.len = K0.len
        · have b1 : (K.len != K0.len) = false := by simpa using e
          have HN := Lib.hid (show Hid (∀ (j : Nat) (L : Ck), j < k + 1 → ks[j]? = some L → L.len = len0 ks) from fun j L hj hL => by
            rcases Nat.lt_or_ge j k with u | u
            · exact hno j L u hL
            · obtain rfl : j = k := by omega
              rw [hK] at hL; obtain rfl := Option.some.inj hL
              rw [len0_at hK0]; exact e)
          clear hno hk hlt hK hK0 hC hC' hBr HBr HZ HQ HP HH d1 d2 e
          go_wp2_with fail
          refine wp_region_ext (by kernel_rfl) (by kernel_rfl) ?_
          repeat (first | go_big_quiet_step (fail) | quiet_step (fail))
          refine wpQuiet_nil ?_
          rintro _ ⟨⟨w2, hb2'⟩, rfl⟩
          have HBr2 := Lib.hid (HBk.out.next hb2').drop
          clear hb2' HBk hb hb' hb2 c0 c1 c2 d0 d1' c_d z_d c_k z_k e_d y_d
          go_wp2_with fail
          exact ⟨⟨k + 1, HLE.out.1, by go_num, HN.out, HBr2.out⟩, by simpa [intOf] using HLE.out.2⟩
        · have b1 : (K.len != K0.len) = true := by simpa using e
          have HR := Lib.hid (deskC_odd HQ.out HZ.out hK (by rw [len0_at hK0]; exact e))
          clear hno hk hlt hK hK0 hC hC' hBr HBr HZ HQ HP HH d1 d2 e
          go_wp2_with fail
          refine wp_region_ext (by kernel_rfl) (by kernel_rfl) ?_
          repeat (first | go_big_quiet_step (fail) | quiet_step (fail))
          refine wpQuiet_nil ?_
          rintro _ ⟨⟨w2, hb2'⟩, rfl⟩
          have HBr2 := Lib.hid (HBk.out.next hb2').drop
          clear hb2' HBk hb hb' hb2 c0 c1 c2 d0 d1' c_d z_d c_k z_k e_d y_d
          go_wp2_with fail
          go_ret
          exact ⟨ret_int HR.out.symm, HBr2.out.below⟩
    obtain ⟨K, hK⟩ : ∃ K, ks[k]? = some K := ⟨_, List.getElem?_eq_getElem hlt⟩
    obtain ⟨z1, z2, z3, z4⟩ := idx_facts hlt hm
    have HLE := Lib.hid (And.intro (Nat.succ_le_of_lt hlt) (Nat.sub_lt_sub_left hlt (Nat.lt_succ_self k)))
    obtain ⟨ad, P, p, R, r, rfl, hb, hC, c0, c1, c2⟩ := (HH.out _ hBr.below).cake hK
    have HC := Lib.hid (fun (W : World) (hW : Below wr.heap.size wr W) => ccheck_any K P p R r W (hC.next hW))
    have hBk := hBr.new rfl (cB P p R r K)
    have c_k := fun j => cell_of_row _ _ j _ _ _ (hBk.get 0 rfl)
    have z_k := hBk.lt 0 rfl
    have HBk := Lib.hid hBk
    by_cases e : K.code = 0
    · have HN := Lib.hid (show Hid (∀ (j : Nat) (L : Ck), j < k + 1 → ks[j]? = some L → L.code = 0) from fun j L hj hL => by
        rcases Nat.lt_or_ge j k with u | u
        · exact hno j L u hL
        · obtain rfl : j = k := by omega
          rw [hK] at hL; obtain rfl := Option.some.inj hL
          exact e)
      rw [e] at HC
      clear hno hk hlt hK hC hBr hBk HQ HP HH e
      go_wp2_with fail
      refine (HC.out _ (one_alloc _ _)).mono ?_
      rintro e w1 ⟨rfl, hb1⟩
      have HB1 := Lib.hid (HBk.out.next hb1).drop
      clear hb1 HBk HC c0 c1 c2 hb c_d z_d c_k z_k
      go_wp2_with fail
      exact ⟨⟨k + 1, HLE.out.1, by go_num, HN.out, HB1.out⟩, by simpa [intOf] using HLE.out.2⟩
    · have HR := Lib.hid (deskC_hit HQ.out hno hK e)
      have b1 : (K.code != 0) = true := by simpa using e
      obtain ⟨code, hco⟩ : ∃ x, x = K.code := ⟨_, rfl⟩
      rw [← hco] at HC b1
      have hco := Lib.hid hco
      clear hno hk hlt hK hC hBr hBk HQ HP HH e
      go_wp2_with fail
      refine (HC.out _ (one_alloc _ _)).mono ?_
      rintro e w1 ⟨rfl, hb1⟩
      have HB2 := Lib.hid (HBk.out.next hb1).below
      clear hb1 HBk HC c0 c1 c2 hb c_d z_d c_k z_k
      go_wp2_with fail
      go_ret
      exact ⟨ret_int (by rw [HR.out, ← hco.out]), HB2.out⟩
end Go.Proofs.Ytgcbmnohhbcfiaa

namespace Go.Proofs.Ytgcbmnohhbcfiaa
open Go.RowKit Go.Deep
set_option linter.unusedVariables false
set_option linter.unusedSimpArgs false

/-- Boxes and rows, and beside them something that hangs on the blocks from b to e alone. -/
structure Mf (F : World → Prop) (b e : Nat) (w : World) (L : List (Nat × Obj)) (R : List Rw) (W : World) : Prop where
  mx : Mx w L R W
  fz : ∀ V : World, W.heap.size ≤ V.heap.size → (∀ g, b ≤ g → g < e → V.heap[g]? = W.heap[g]?) → F V
  lo : ∀ p, p ∈ L → p.1 < b ∨ e ≤ p.1
  lr : ∀ r, r ∈ R → ∀ g, r.v.ownBlock = some g → g < b ∨ e ≤ g
  sz : e ≤ W.heap.size
  lw : w.heap.size ≤ b
section
variable {F : World → Prop} {b e : Nat} {w W W1 : World} {L : List (Nat × Obj)} {R : List Rw}
theorem Mf.start {W0 : World} (h : Mx w L R W0) (hb : Below W0.heap.size W0 W) (hF : Fresh W0.heap.size W F) : Mf F W0.heap.size W.heap.size w L R W :=
  ⟨h.next hb, fun V h1 h2 => hF V h1 (fun g h3 h4 => h2 g h3 h4), fun p hp => Or.inl (lt_some (h.bx.at_ p hp)), fun r hr g hg => Or.inl (own_ge' (h.own r hr) g hg).2, Nat.le_refl _, h.below.size⟩
theorem Mf.below (h : Mf F b e w L R W) : Below w.heap.size w W := h.mx.below
theorem Mf.row (h : Mf F b e w L R W) (i : Nat) {r : Rw} (hi : R[i]? = some r) : W.ownsRow w.heap.size r.e r.size r.v r.n r.xs := h.mx.row i hi
theorem Mf.get (h : Mf F b e w L R W) (i : Nat) {p : Nat × Obj} (hi : L[i]? = some p) : W.heap[p.1]? = some p.2 := h.mx.get i hi
theorem Mf.lt (h : Mf F b e w L R W) (i : Nat) {p : Nat × Obj} (hi : L[i]? = some p) : p.1 < W.heap.size := h.mx.lt i hi
theorem Mf.keep (h : Mf F b e w L R W) {L' : List (Nat × Obj)} (hs : L'.Sublist L) : Bx w L' W := h.mx.keep hs
theorem Mf.here (h : Mf F b e w L R W) : F W := h.fz W (Nat.le_refl _) (fun _ _ _ => rfl)
theorem Mf.fresh (h : Mf F b e w L R W) : Fresh w.heap.size W F := fun V h1 h2 => h.fz V h1 (fun g h3 h4 => h2 g (Nat.le_trans h.lw h3) (Nat.lt_of_lt_of_le h4 h.sz))
theorem Mf.next (h : Mf F b e w L R W) (hb : Below W.heap.size W W1) : Mf F b e w L R W1 :=
  ⟨h.mx.next hb, fun V h1 h2 => h.fz V (Nat.le_trans hb.size h1) (fun g h3 h4 => (h2 g h3 h4).trans (hb.block g (Nat.lt_of_lt_of_le h4 h.sz))), h.lo, h.lr, Nat.le_trans h.sz hb.size, h.lw⟩
theorem Mf.new (h : Mf F b e w L R W) {g : Nat} (hg : g = W.heap.size) (o : Obj) : Mf F b e w ((g, o) :: L) R (W.alloc o) := by
  have k := h.next (one_alloc W o)
  refine ⟨h.mx.new hg o, k.fz, fun p hp => ?_, h.lr, k.sz, h.lw⟩
  rcases List.mem_cons.1 hp with rfl | hp
  · right; have := h.sz; simp only; omega
  · exact h.lo p hp
theorem Mf.addR {W0 : World} (h : Mf F b e w L R W0) (hb : Below W0.heap.size W0 W) (r : Rw) (ho : W.ownsRow W0.heap.size r.e r.size r.v r.n r.xs) : Mf F b e w L (r :: R) W := by
  have k := h.next hb
  refine ⟨h.mx.addR hb r ho, k.fz, h.lo, fun q hq g hg => ?_, k.sz, h.lw⟩
  rcases List.mem_cons.1 hq with rfl | hq
  · exact Or.inr (Nat.le_trans h.sz (own_ge' ho g hg).1)
  · exact h.lr q hq g hg
theorem Mf.grow (h : Mf F b e w L R W) (i : Nat) {r : Rw} (hi : R[i]? = some r) {v' : Value} {n' : Nat} {xs' : List Value} (hg : W.grownBy W1 r.v.ownBlock) (ho : W1.ownsRow w.heap.size r.e r.size v' n' xs')
    (hat : v'.ownBlock = r.v.ownBlock ∨ v'.ownBlock = some W.heap.size) : Mf F b e w L (R.set i ⟨v', r.e, r.size, n', xs'⟩) W1 := by
  have hr := h.lr r (List.mem_of_getElem? hi)
  refine ⟨h.mx.grow i hi hg ho hat, fun V h1 h2 => h.fz V (Nat.le_trans hg.size h1) (fun g h3 h4 => (h2 g h3 h4).trans (hg.block g (Nat.lt_of_lt_of_le h4 h.sz) (fun q => ?_))), h.lo, fun q hq g hg' => ?_, Nat.le_trans h.sz hg.size, h.lw⟩
  · have := hr g q.symm; omega
  · rcases List.mem_or_eq_of_mem_set hq with hq | rfl
    · exact h.lr q hq g hg'
    · have hg' : v'.ownBlock = some g := hg'
      rcases hat with q | q
      · exact hr g (by rw [← q]; exact hg')
      · rw [q] at hg'; have := h.sz; right; have := Option.some.inj hg'; omega
theorem Mf.set (h : Mf F b e w L R W) (i : Nat) {g : Nat} {cs : Array Value} {t : TypeId} (hi : L[i]? = some (g, .cells cs t)) (j : Nat) (u : Value) : Mf F b e w (L.set i (g, .cells (cs.setIfInBounds j u) t)) R (W.setCell ⟨g, j, none⟩ u) := by
  have hg := h.lo _ (List.mem_of_getElem? hi)
  refine ⟨h.mx.set i hi j u, fun V h1 h2 => h.fz V (by simpa using h1) (fun k h3 h4 => (h2 k h3 h4).trans (heap_set_ne (fun q => ?_))), fun p hp => ?_, h.lr, by simpa using h.sz, h.lw⟩
  · simp only at hg; omega
  · rcases List.mem_or_eq_of_mem_set hp with hp | rfl
    · exact h.lo p hp
    · exact hg
theorem Mf.put (h : Mf F b e w L R W) (i : Nat) {g : Nat} {r0 : Rt} (hi : L[i]? = some (g, rB r0)) (r : Rt) : Mf F b e w (L.set i (g, rB r)) R ((W.setCell ⟨g, 0, none⟩ (.int .i64 r.n)).setCell ⟨g, 1, none⟩ (.int .i64 r.d)) := by
  have a := h.set i hi 0 (.int .i64 r.n)
  have hlt : i < L.length := by
    rcases Nat.lt_or_ge i L.length with q | q
    · exact q
    · rw [List.getElem?_eq_none q] at hi; cases hi
  have b := a.set i (List.getElem?_set_self hlt) 1 (.int .i64 r.d)
  rw [List.set_set] at b
  exact b
end
theorem Mx.put2 {w W : World} {L : List (Nat × Obj)} {R : List Rw} (h : Mx w L R W) (i : Nat) {g : Nat} {x y : Value} {t : TypeId} (hi : L[i]? = some (g, .cells #[x, y] t)) (a c : Value) : Mx w (L.set i (g, .cells #[a, c] t)) R ((W.setCell ⟨g, 0, none⟩ a).setCell ⟨g, 1, none⟩ c) := by
  have hlt : i < L.length := by
    rcases Nat.lt_or_ge i L.length with q | q
    · exact q
    · rw [List.getElem?_eq_none q] at hi; cases hi
  have b := (h.set i hi 0 a).set i (List.getElem?_set_self hlt) 1 c
  rw [List.set_set] at b
  exact b
theorem Mf.put2 {F : World → Prop} {b e : Nat} {w W : World} {L : List (Nat × Obj)} {R : List Rw} (h : Mf F b e w L R W) (i : Nat) {g : Nat} {x y : Value} {t : TypeId} (hi : L[i]? = some (g, .cells #[x, y] t)) (a c : Value) : Mf F b e w (L.set i (g, .cells #[a, c] t)) R ((W.setCell ⟨g, 0, none⟩ a).setCell ⟨g, 1, none⟩ c) := by
  have hlt : i < L.length := by
    rcases Nat.lt_or_ge i L.length with q | q
    · exact q
    · rw [List.getElem?_eq_none q] at hi; cases hi
  have b := (h.set i hi 0 a).set i (List.getElem?_set_self hlt) 1 c
  rw [List.set_set] at b
  exact b

theorem Mx.swap {w W : World} {p q : Nat × Obj} {L : List (Nat × Obj)} {R : List Rw} (h : Mx w (p :: q :: L) R W) : Mx w (q :: p :: L) R W := by
  have e : List.Perm (q :: p :: L) (p :: q :: L) := List.Perm.swap _ _ _
  exact ⟨⟨h.bx.below, fun r hr => h.bx.own r (e.mem_iff.1 hr), (e.map _).nodup_iff.2 h.bx.nd, fun r hr => h.bx.at_ r (e.mem_iff.1 hr)⟩, h.own, fun r hr g hg hm => h.apart r hr g hg ((e.map _).mem_iff.1 hm), h.nd⟩
/-- The cells of a log. -/
def lgV (l : List Qy) : List Value := l.flatMap qyV
theorem lgV_one (q : Qy) : lgV [q] = qyV q := by simp [lgV]
theorem lgV_append (l m : List Qy) : lgV (l ++ m) = lgV l ++ lgV m := by simp [lgV]
theorem lgV_push (l : List Qy) (q : Qy) : lgV l ++ qyV q = lgV (l ++ [q]) := by rw [lgV_append, lgV_one]
theorem lgV_len : ∀ l : List Qy, (lgV l).length = l.length * 8
  | [] => rfl
  | q :: l => by
    have := lgV_len l
    show (qyV q ++ lgV l).length = _
    rw [List.length_append, this, List.length_cons]
    simp only [qyV, List.length_cons, List.length_nil]; omega
theorem lgV_get : ∀ (l : List Qy) (i : Nat) (q : Qy) (j : Nat), l[i]? = some q → j < 8 → (lgV l)[i * 8 + j]? = (qyV q)[j]?
  | [], i, q, j, h, _ => by simp at h
  | p :: l, 0, q, j, h, hj => by
    obtain rfl : p = q := by simpa using h
    show (qyV p ++ lgV l)[0 * 8 + j]? = _
    rw [Nat.zero_mul, Nat.zero_add, List.getElem?_append_left (by simpa [qyV] using hj)]
  | p :: l, i + 1, q, j, h, hj => by
    show (qyV p ++ lgV l)[(i + 1) * 8 + j]? = _
    rw [List.getElem?_append_right (by simp [qyV]; omega)]
    have e : (i + 1) * 8 + j - (qyV p).length = i * 8 + j := by simp [qyV]; omega
    rw [e]
    exact lgV_get l i q j (by simpa using h) hj
theorem lgV_cells (l : List Qy) : ∀ u ∈ lgV l, u.oneCell' = true := by
  intro u hu
  simp only [lgV, List.mem_flatMap] at hu
  obtain ⟨q, _, hu⟩ := hu
  simp at hu
  rcases hu with rfl | rfl | rfl | rfl | rfl | rfl | rfl | rfl <;> rfl
theorem qyV_cells (q : Qy) : ∀ u ∈ qyV q, u.oneCell' = true := by rw [← lgV_one]; exact lgV_cells _
theorem LgIn.reads {B : Nat} {w : World} {A : Option Addr} {c : Nat} {l : List Qy} (h : LgIn B w A c l) : Reads w B 8 A l.length (lgV l) := by
  obtain ⟨xs, hr, hx⟩ := RIn.reads h
  have e : xs = lgV l := by
    apply List.ext_getElem?
    intro m
    rcases Nat.lt_or_ge m (l.length * 8) with q | q
    · have hi : m / 8 < l.length := by omega
      obtain ⟨vs, ⟨rfl, _⟩, hv⟩ := hx (m / 8) _ (List.getElem?_eq_getElem hi)
      have hj : m % 8 < 8 := Nat.mod_lt _ (by omega)
      have a := hv (m % 8) _ (List.getElem?_eq_getElem (by simpa [qyV] using hj))
      have b := lgV_get l (m / 8) _ (m % 8) (List.getElem?_eq_getElem hi) hj
      have em : m / 8 * 8 + m % 8 = m := by omega
      have a : xs[m / 8 * 8 + m % 8]? = _ := a
      rw [em] at a b
      rw [a, b]; exact (List.getElem?_eq_getElem _).symm
    · rw [List.getElem?_eq_none (by have e : xs.length = l.length * 8 := hr.1; omega), List.getElem?_eq_none (by rw [lgV_len]; exact q)]
  rw [← e]; exact hr
theorem LgIn.wf {B : Nat} {w : World} {A : Option Addr} {c : Nat} {l : List Qy} (h : LgIn B w A c l) : ∀ q, q ∈ l → q.wf := fun q hq => by
  obtain ⟨i, hi⟩ := List.getElem?_of_mem hq
  obtain ⟨ad, vs, _, _, ⟨_, hw⟩, _⟩ := h.at_ i q hi
  exact hw
theorem LgIn.of_own {B : Nat} {w : World} {v : Value} {l : List Qy} (h : w.ownsRow B 84 8 v l.length (lgV l)) (hw : ∀ q, q ∈ l → q.wf) : ∃ A c, v = .slice A l.length c ∧ Fresh B w (fun W => LgIn W.heap.size W A c l) := by
  obtain ⟨A, c, rfl, h1, h2⟩ := own_nil_len h
  refine ⟨A, c, rfl, fun W hs hk => ?_⟩
  have h3 : W.ownsRow B 84 8 (.slice A l.length c) l.length (lgV l) := ownsRow_block h (fun g e => hk g (own_ge' h g e).1 (own_ge' h g e).2)
  have h4 : Els kQy B W (Value.slice A l.length c).ownBlock.toList l (lgV l) := fun i q hi => ⟨qyV q, fun j u hu => by
    have hj : j < 8 := by
      rcases Nat.lt_or_ge j 8 with q | q
      · exact q
      · rw [List.getElem?_eq_none (by simpa [qyV] using q)] at hu; cases hu
    exact (lgV_get l i q j hi hj).trans hu, fun V _ _ => ⟨rfl, hw q (List.mem_of_getElem? hi)⟩⟩
  obtain ⟨A', c', e, r⟩ := Els.in_ (k := kQy) h4 h3
  obtain ⟨rfl, _, rfl⟩ := Value.slice.inj e
  exact r
theorem infoQy : (Try.prog.info? 84).map (fun i => (i.zero, i.size, i.bytes)) = some (some (.agg #[.int .i64 0, .int .u8 0, .int .i64 0, .int .i64 0, .int .i64 0, .int .i64 0, .int .i64 0, .int .i64 0]), 8, 64) := by kernel_rfl
end Go.Proofs.Ytgcbmnohhbcfiaa

namespace Go.Proofs.Ytgcbmnohhbcfiaa
open Go.RowKit Go.Deep
set_option linter.unusedVariables false
set_option linter.unusedSimpArgs false

theorem run_neq_query (p q : Qy) (w : World) : (binOp .neq 84 (qV p) (qV q)).run Try.prog w = .ok (.bool (!decide (p = q))) w := by
  rw [qy_eq_bool]
  cases h0 : p.agent == q.agent with
  | false => go_simp
  | true =>
  cases h1 : p.kind == q.kind with
  | false => go_simp
  | true =>
  cases h2 : p.a.n == q.a.n with
  | false => go_simp
  | true =>
  cases h3 : p.a.d == q.a.d with
  | false => go_simp
  | true =>
  cases h4 : p.b.n == q.b.n with
  | false => go_simp
  | true =>
  cases h5 : p.b.d == q.b.d with
  | false => go_simp
  | true =>
  cases h6 : p.ans.n == q.ans.n with
  | false => go_simp
  | true =>
  cases h7 : p.ans.d == q.ans.d with
  | false => go_simp
  | true =>
  go_simp
attribute [go_sem 2000] run_neq_query
set_option maxRecDepth 100000 in
set_option maxHeartbeats 8000000 in
theorem fsamelogs_any (a b : List Qy) (A : Option Addr) (c : Nat) (B : Option Addr) (d : Nat) (w : World) (ha : LgIn w.heap.size w A c a) (hb : LgIn w.heap.size w B d b) :
    Calls Try.prog 42 #[.slice A a.length c, .slice B b.length d] w fun e w' => e = .returned (.bool (sameQ a b)) ∧ Below w.heap.size w w' := by
  have hm := Nat.le_trans ha.len ha.cap
  unfold maxLen at hm
  by_cases hl : a.length = b.length
  rotate_left
  · have b1 : ((a.length : Int) != (b.length : Int)) = true := by simp; omega
    have HR := Lib.hid (show sameQ a b = false from decide_eq_false (fun e => hl (by rw [e])))
    rw [HR.out]
    clear HR hl ha hb
    go_enter Try.func42, Try.ntmps42
    go_wp2_with fail
    go_ret
    exact ⟨rfl, Below.refl _ _⟩
  have b1 : ((a.length : Int) != (b.length : Int)) = false := by simp; omega
  have HL := Lib.hid hl
  have HA := Lib.hid (fun (W : World) (hW : Below w.heap.size w W) => ha.next hW)
  have HB := Lib.hid (fun (W : World) (hW : Below w.heap.size w W) => hb.next hW)
  clear hl ha hb
  go_enter Try.func42, Try.ntmps42
  go_wp2_with fail
  clear b1
  go_loopw [5] (fun s5 wr => ∃ k : Nat, k ≤ a.length ∧ s5 = .int .i64 k ∧ Hid (∀ (j : Nat) (x y : Qy), j < k → a[j]? = some x → b[j]? = some y → x = y) ∧ Below w.heap.size w wr) (fun s5 _ => a.length - (intOf s5).toNat)
  case atStart => exact ⟨0, Nat.zero_le _, rfl, fun j x y hj => by omega, Below.refl _ _⟩
  case round =>
    obtain ⟨k, hk, rfl, hno, hB⟩ := hrel
    by_cases hlt : k < a.length
    rotate_left
    · obtain rfl : k = a.length := by omega
      have HR := Lib.hid (show sameQ a b = true from decide_eq_true (list_same HL.out (fun j x y hx hy => hno j x y (by rcases Nat.lt_or_ge j a.length with q | q; exact q; rw [List.getElem?_eq_none q] at hx; cases hx) hx hy)))
      have HBw := Lib.hid hB
      clear hno hB hk hlt HA HB HL
      go_wp2_with fail
      go_ret
      exact ⟨ret_bool HR.out.symm, HBw.out⟩
    obtain ⟨p, hp⟩ : ∃ p, a[k]? = some p := ⟨_, List.getElem?_eq_getElem hlt⟩
    obtain ⟨q, hq⟩ : ∃ q, b[k]? = some q := ⟨_, List.getElem?_eq_getElem (by have := HL.out; omega)⟩
    obtain ⟨ad, rfl, hbA, hwp, c0, c1, c2, c3, c4, c5, c6, c7⟩ := (HA.out _ hB).query hp
    obtain ⟨bd, rfl, hbB, hwq, d0, d1, d2, d3, d4, d5, d6, d7⟩ := (HB.out _ hB).query hq
    obtain ⟨z1, z2, z3, z4⟩ := idx_facts hlt hm
    have z1b : (k : Int) < (b.length : Int) := by have := HL.out; omega
    have f1 : (ad.add (k * 8)).block < wr.heap.size := by rw [block_add]; exact hbA
    have g1 : (bd.add (k * 8)).block < wr.heap.size := by rw [block_add]; exact hbB
    have HBw := Lib.hid hB
    have HLE := Lib.hid (And.intro (Nat.succ_le_of_lt hlt) (Nat.sub_lt_sub_left hlt (Nat.lt_succ_self k)))
    by_cases e : p = q
    · have HN := Lib.hid (show Hid (∀ (j : Nat) (x y : Qy), j < k + 1 → a[j]? = some x → b[j]? = some y → x = y) from fun j x y hj hx hy => by
        rcases Nat.lt_or_ge j k with u | u
        · exact hno j x y u hx hy
        · obtain rfl : j = k := by omega
          rw [hp] at hx; rw [hq] at hy
          obtain rfl := Option.some.inj hx
          obtain rfl := Option.some.inj hy
          exact e)
      have hq' : decide (p = q) = true := decide_eq_true e
      clear hno hB hk hlt hp hq hwp hwq HA HB HL
      go_wp2_with fail
      refine wp_region_ext (by kernel_rfl) (by kernel_rfl) ?_
      repeat (first | go_big_quiet_step (fail) | quiet_step (fail))
      refine wpQuiet_nil ?_
      rintro _ ⟨⟨w2, hb2⟩, rfl⟩
      have HW2 := Lib.hid (bcall HBw.out HBw.out.size hb2)
      clear hb2 HBw hbA hbB f1 g1 c0 c1 c2 c3 c4 c5 c6 c7 d0 d1 d2 d3 d4 d5 d6 d7
      go_wp2_with fail
      exact ⟨⟨k + 1, HLE.out.1, by go_num, HN.out, HW2.out⟩, by simpa [intOf] using HLE.out.2⟩
    · have HR := Lib.hid (show sameQ a b = false from decide_eq_false (at_ne hp hq e))
      have hq' := decide_eq_false e
      clear hno hB hk hlt hp hq hwp hwq HA HB HL e
      go_wp2_with fail
      refine wp_region_ext (by kernel_rfl) (by kernel_rfl) ?_
      repeat (first | go_big_quiet_step (fail) | quiet_step (fail))
      refine wpQuiet_nil ?_
      rintro _ ⟨⟨w2, hb2⟩, rfl⟩
      have HW2 := Lib.hid (bcall HBw.out HBw.out.size hb2)
      clear hb2 HBw hbA hbB f1 g1 c0 c1 c2 c3 c4 c5 c6 c7 d0 d1 d2 d3 d4 d5 d6 d7
      go_wp2_with fail
      go_ret
      exact ⟨ret_bool HR.out.symm, HW2.out⟩
def sameC (a b : List Ck) : Bool := decide (a.length = b.length) && (List.range a.length).all (fun i => match a[i]?, b[i]? with | some x, some y => sameK x y | _, _ => true)
theorem sameC_eq {a b : List Ck} (h : sameC a b = true) : a = b := by
  simp only [sameC, Bool.and_eq_true, decide_eq_true_eq, List.all_eq_true, List.mem_range] at h
  refine list_same h.1 (fun j x y hx hy => ?_)
  have hj : j < a.length := by
    rcases Nat.lt_or_ge j a.length with q | q
    · exact q
    · rw [List.getElem?_eq_none q] at hx; cases hx
  have := h.2 j hj
  rw [hx, hy] at this
  exact sameK_eq this
theorem sameC_self (a : List Ck) : sameC a a = true := by
  simp only [sameC, Bool.and_eq_true, decide_eq_true_eq, List.all_eq_true, List.mem_range, true_and]
  intro i hi
  rw [List.getElem?_eq_getElem hi]
  exact sameK_self _
theorem sameC_all {a b : List Ck} (hl : a.length = b.length) (h : ∀ (j : Nat) (x y : Ck), a[j]? = some x → b[j]? = some y → sameK x y = true) : sameC a b = true := by
  have : a = b := list_same hl (fun j x y hx hy => sameK_eq (h j x y hx hy))
  subst this
  exact sameC_self a
theorem sameC_hit {a b : List Ck} {j : Nat} {x y : Ck} (hx : a[j]? = some x) (hy : b[j]? = some y) (h : sameK x y = false) : sameC a b = false := by
  cases e : sameC a b with
  | false => rfl
  | true =>
    have := sameC_eq e
    subst this
    rw [hx] at hy; obtain rfl := Option.some.inj hy
    rw [sameK_self] at h; cases h
theorem sameC_len {a b : List Ck} (hl : a.length ≠ b.length) : sameC a b = false := by unfold sameC; rw [decide_eq_false hl]; rfl
set_option maxRecDepth 100000 in
set_option maxHeartbeats 8000000 in
theorem fsamecakes_any (a b : List Ck) (A : Option Addr) (c : Nat) (B : Option Addr) (d : Nat) (w : World) (ha : CsIn w.heap.size w A c a) (hb : CsIn w.heap.size w B d b) :
    Calls Try.prog 58 #[.slice A a.length c, .slice B b.length d] w fun e w' => e = .returned (.bool (sameC a b)) ∧ Below w.heap.size w w' := by
  have hm := Nat.le_trans ha.len ha.cap
  unfold maxLen at hm
  by_cases hl : a.length = b.length
  rotate_left
  · have b1 : ((a.length : Int) != (b.length : Int)) = true := by simp; omega
    have HR := Lib.hid (sameC_len hl)
    rw [HR.out]
    clear HR hl ha hb
    go_enter Try.func58, Try.ntmps58
    go_wp2_with fail
    go_ret
    exact ⟨rfl, Below.refl _ _⟩
  have b1 : ((a.length : Int) != (b.length : Int)) = false := by simp; omega
  have HL := Lib.hid hl
  have HA := Lib.hid (fun (W : World) (hW : Below w.heap.size w W) => ha.next hW)
  have HB := Lib.hid (fun (W : World) (hW : Below w.heap.size w W) => hb.next hW)
  clear hl ha hb
  go_enter Try.func58, Try.ntmps58
  go_wp2_with fail
  clear b1
  go_loopw [5] (fun s5 wr => ∃ k : Nat, k ≤ a.length ∧ s5 = .int .i64 k ∧ Hid (∀ (j : Nat) (x y : Ck), j < k → a[j]? = some x → b[j]? = some y → sameK x y = true) ∧ Below w.heap.size w wr) (fun s5 _ => a.length - (intOf s5).toNat)
  case atStart => exact ⟨0, Nat.zero_le _, rfl, fun j x y hj => by omega, Below.refl _ _⟩
  case round =>
    obtain ⟨k, hk, rfl, hno, hB⟩ := hrel
    by_cases hlt : k < a.length
    rotate_left
    · obtain rfl : k = a.length := by omega
      have HR := Lib.hid (show sameC a b = true from sameC_all HL.out (fun j x y hx hy => hno j x y (by rcases Nat.lt_or_ge j a.length with q | q; exact q; rw [List.getElem?_eq_none q] at hx; cases hx) hx hy))
      have HBw := Lib.hid hB
      clear hno hB hk hlt HA HB HL
      go_wp2_with fail
      go_ret
      exact ⟨ret_bool HR.out.symm, HBw.out⟩
    obtain ⟨p, hp⟩ : ∃ p, a[k]? = some p := ⟨_, List.getElem?_eq_getElem hlt⟩
    obtain ⟨q, hq⟩ : ∃ q, b[k]? = some q := ⟨_, List.getElem?_eq_getElem (by have := HL.out; omega)⟩
    obtain ⟨ad, P, pc, R, r, rfl, hbA, hCp, c0, c1, c2⟩ := (HA.out _ hB).cake hp
    obtain ⟨bd, S, sc, T, t, rfl, hbB, hCq, d0, d1, d2⟩ := (HB.out _ hB).cake hq
    obtain ⟨z1, z2, z3, z4⟩ := idx_facts hlt hm
    have z1b : (k : Int) < (b.length : Int) := by have := HL.out; omega
    have HBw := Lib.hid hB
    have HLE := Lib.hid (And.intro (Nat.succ_le_of_lt hlt) (Nat.sub_lt_sub_left hlt (Nat.lt_succ_self k)))
    have HC := Lib.hid (fun (W : World) (hW : Below wr.heap.size wr W) => fsame_any p q P pc R r S sc T t W (hCp.next hW) (hCq.next hW))
    have HR := Lib.hid (fun (e : sameK p q = false) => sameC_hit hp hq e)
    have HN := Lib.hid (fun (e : sameK p q = true) => show Hid (∀ (j : Nat) (x y : Ck), j < k + 1 → a[j]? = some x → b[j]? = some y → sameK x y = true) from fun j x y hj hx hy => by
        rcases Nat.lt_or_ge j k with u | u
        · exact hno j x y u hx hy
        · obtain rfl : j = k := by omega
          rw [hp] at hx; rw [hq] at hy
          obtain rfl := Option.some.inj hx
          obtain rfl := Option.some.inj hy
          exact e)
    obtain ⟨e, he⟩ : ∃ e, e = sameK p q := ⟨_, rfl⟩
    rw [← he] at HC HR HN
    clear hno hB hk hlt hp hq HA HB HL he hCp hCq
    have f1 : (ad.add (k * 3)).block < wr.heap.size := by rw [block_add]; exact hbA
    have g1 : (bd.add (k * 3)).block < wr.heap.size := by rw [block_add]; exact hbB
    go_wp2_with fail
    refine wp_region_ext (by kernel_rfl) (by kernel_rfl) ?_
    repeat (first | go_big_quiet_step ((first | (go_at_call 21; exact calls_ext (HC.out _ (Ext.h _))))) | quiet_step ((first | (go_at_call 21; exact calls_ext (HC.out _ (Ext.h _))))))
    refine wpQuiet_nil ?_
    rintro _ ⟨⟨w1, hb1⟩, rfl⟩
    have HB1 := Lib.hid (bcall HBw.out HBw.out.size hb1)
    clear hb1 HBw HC c0 c1 c2 d0 d1 d2 hbA hbB f1 g1
    cases e with
    | false =>
      have HY2 := Lib.hid (HR.out rfl)
      clear HR HN
      go_wp2_with fail
      go_ret
      exact ⟨ret_bool HY2.out.symm, HB1.out⟩
    | true =>
      have HN2 := Lib.hid (HN.out rfl)
      clear HN HR
      go_wp2_with fail
      exact ⟨⟨k + 1, HLE.out.1, by go_num, HN2.out, HB1.out⟩, by simpa [intOf] using HLE.out.2⟩
end Go.Proofs.Ytgcbmnohhbcfiaa
