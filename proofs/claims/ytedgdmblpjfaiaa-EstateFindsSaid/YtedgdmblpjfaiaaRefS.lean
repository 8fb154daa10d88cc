/- The small functions of the reference of estate: Great, Sum, owner, Worth, Claim. -/
import Derived.Test.YtedgdmblpjfaiaaCheckRef
namespace Go.Proofs.Ytedgdmblpjfaiaa
open Go.RowKit
set_option linter.unusedVariables false
set_option linter.unusedSimpArgs false

def great (E : Est) : Bool := (E.bd.any fun r => decide (60 < r.length)) || decide (40 < E.sh.length) || decide (40 < E.bd.length)
theorem great_at {E : Est} {k : Nat} (hk : k < E.bd.length) (h : 60 < (gr E.bd k).length) : great E = true := by
  unfold great; rw [anyr_some (p := fun n => decide (60 < n)) hk (by simpa using h)]; rfl
theorem great_end {E : Est} (h : ∀ k, k < E.bd.length → (gr E.bd k).length ≤ 60) : great E = (decide (40 < E.sh.length) || decide (40 < E.bd.length)) := by
  unfold great; rw [anyr_none (p := fun n => decide (60 < n)) (fun j hj => by have := h j hj; simp; omega)]; rfl

set_option maxRecDepth 100000 in
set_option maxHeartbeats 4000000 in
theorem great_any (E : Est) (A : Option Addr) (c : Nat) (R : Option Addr) (d : Nat) (w : World) (h : EIn w.heap.size w A c R d E) :
    Calls Try.prog 10 #[eV A c R d E] w fun e w' => e = .returned (.bool (great E)) ∧ Below w.heap.size w w' := by
  obtain ⟨hs, hb, hsl, hsm, hbl, hbm⟩ := h
  unfold maxLen at hsm hbm
  unfold eV
  have HB := Lib.hid (hb.next (one_alloc w (bxOf A c R d E)))
  have hbx := heap_new (w := w) (o := bxOf A c R d E) rfl
  have cbx := fun j => cell_of_row _ _ j _ _ _ hbx
  clear hb hs hbx
  go_enter Try.func10, Try.ntmps10
  go_wp2_with fail
  go_loop [3] (fun i => ∃ k : Nat, k ≤ E.bd.length ∧ i = .int .i64 k ∧ Hid (∀ j, j < k → (gr E.bd j).length ≤ 60)) (fun i => E.bd.length - (intOf i).toNat)
  case atStart => exact ⟨0, Nat.zero_le _, rfl, Lib.hid (fun j hj => by omega)⟩
  case round =>
    obtain ⟨k, hk, rfl, hok⟩ := hrel
    by_cases hlt : k < E.bd.length
    · obtain ⟨bd, Rk, ck, rfl, hb', hc', hcl, hcm, hrk⟩ := HB.out.at_ hlt
      by_cases q : (60 : Int) < ((gr E.bd k).length : Int)
      · have HC := Lib.hid (great_at hlt (by omega))
        have q1 : decide ((60 : Int) < ((gr E.bd k).length : Int)) = true := by simpa using q
        clear q
        go_wp2_with fail
        go_ret
        exact ⟨ret_bool HC.out.symm, one_alloc _ _⟩
      · have q1 : decide ((60 : Int) < ((gr E.bd k).length : Int)) = false := by simpa using q
        have HF := Lib.hid (show (gr E.bd k).length ≤ 60 by omega)
        clear q
        go_wp2_with fail
        go_round
        case rel => exact ⟨k + 1, by omega, by go_num, Lib.hid (all_step hok.out HF.out)⟩
        case measure => simp [intOf]; omega
    obtain rfl : k = E.bd.length := by omega
    have HC := Lib.hid (great_end hok.out)
    by_cases q : (40 : Int) < (E.sh.length : Int)
    · have q1 : decide ((40 : Int) < (E.sh.length : Int)) = true := by simpa using q
      have q2 : decide (40 < E.sh.length) = true := by simp; omega
      rw [q2] at HC
      clear q q2
      go_wp2_with fail
      go_ret
      exact ⟨ret_bool (by rw [HC.out]; rfl), one_alloc _ _⟩
    · have q1 : decide ((40 : Int) < (E.sh.length : Int)) = false := by simpa using q
      have q2 : decide (40 < E.sh.length) = false := by simp; omega
      rw [q2] at HC
      clear q q2
      go_wp2_with fail
      go_ret
      exact ⟨ret_bool (by rw [HC.out, Bool.false_or, decide_eq_decide]; omega), one_alloc _ _⟩

set_option maxRecDepth 100000 in
set_option maxHeartbeats 4000000 in
theorem sumref_any (E : Est) (hE : E.Ok) (A : Option Addr) (c : Nat) (R : Option Addr) (d : Nat) (w : World) (h : EIn w.heap.size w A c R d E) :
    Calls Try.prog 27 #[eV A c R d E] w fun e w' => e = .returned (.int .i64 E.S) ∧ Below w.heap.size w w' := by
  obtain ⟨hs, hb, hsl, hsm, hbl, hbm⟩ := h
  unfold maxLen at hsm hbm
  unfold eV
  have HS := Lib.hid (hs.next (one_alloc w (bxOf A c R d E)))
  have hbx := heap_new (w := w) (o := bxOf A c R d E) rfl
  have cbx := fun j => cell_of_row _ _ j _ _ _ hbx
  have HE := Lib.hid hE
  clear hb hs hbx hE
  go_enter Try.func27, Try.ntmps27
  go_wp2_with fail
  go_loop [3, 4] (fun s i => ∃ k : Nat, k ≤ E.sh.length ∧ i = .int .i64 k ∧ s = .int .i64 (sumTo (gi E.sh) k)) (fun _ i => E.sh.length - (intOf i).toNat)
  case atStart => exact ⟨0, Nat.zero_le _, rfl, rfl⟩
  case round =>
    obtain ⟨k, hk, rfl, rfl⟩ := hrel
    by_cases hlt : k < E.sh.length
    · obtain ⟨ad, rfl, hb', hc'⟩ := HS.out.at_ hlt
      have b1 : ((k + 1 : Nat) : Int) ≤ sumTo (gi E.sh) k + gi E.sh k := (HE.out.sum_le (k + 1) hlt).1
      have b3 : (0 : Int) ≤ sumTo (gi E.sh) k + gi E.sh k := by omega
      have b4 : sumTo (gi E.sh) k + gi E.sh k ≤ 1000 := (HE.out.sum_le (k + 1) hlt).2
      clear b1
      go_wp2_with fail
      go_round
      case rel => exact ⟨k + 1, by omega, by go_num, rfl⟩
      case measure => simp [intOf]; omega
    · obtain rfl : k = E.sh.length := by omega
      go_wp2_with fail
      go_ret
      exact ⟨rfl, one_alloc _ _⟩

set_option maxRecDepth 100000 in
set_option maxHeartbeats 4000000 in
theorem owner_any (E : Est) (hE : E.Ok) (A : Option Addr) (c : Nat) (R : Option Addr) (d : Nat) (k : Nat) (hk : k < E.m) (w : World) (h : EIn w.heap.size w A c R d E) :
    Calls Try.prog 35 #[eV A c R d E, .int .i64 k] w fun e w' => e = .returned (.int .i64 (E.own k : Nat)) ∧ Below w.heap.size w w' := by
  obtain ⟨hs, hb, hsl, hsm, hbl, hbm⟩ := h
  unfold maxLen at hsm hbm
  unfold eV
  have HB := Lib.hid hb
  have HE := Lib.hid hE
  have hrows := HE.out.rows
  have hn1 := HE.out.n1
  have hm30 := HE.out.m30
  have HK := Lib.hid hk
  have HR := Lib.hid hrows
  clear hb hs hE hrows hk
  go_enter Try.func35, Try.ntmps35
  go_wp2_with fail
  go_loopw [5, 6] (fun b i wr => ∃ j : Nat, 1 ≤ j ∧ j ≤ E.bd.length ∧ i = .int .i64 j ∧ b = .int .i64 (E.best k j : Nat) ∧ Below w.heap.size w wr ∧ wr.heap[w.heap.size]? = some (bxOf A c R d E)) (fun _ i _ => E.bd.length - (intOf i).toNat)
  case atStart => exact ⟨1, by omega, by have := HR.out; omega, rfl, by simp [Est.best], one_alloc _ _, heap_new rfl⟩
  case round =>
    obtain ⟨j, hj1, hj, rfl, rfl, hB, hbx⟩ := hrel
    have cbx := fun j => cell_of_row wr _ j _ _ _ hbx
    have hbl := HE.out.best_lt k j (by have := HR.out; omega)
    by_cases hlt : j < E.bd.length
    · have HS := Lib.hid (show E.best k (j + 1) = if E.bid (E.best k j) k < E.bid j k then j else E.best k j from rfl)
      obtain ⟨b, hb⟩ : ∃ b, b = E.best k j := ⟨_, rfl⟩
      rw [← hb] at hbl HS ⊢
      have hltb : b < E.bd.length := by have := HR.out; omega
      obtain ⟨bd, Rj, cj, rfl, hb', hc', hcl, hcm, hrj⟩ := (HB.out.below hB).at_ hlt
      obtain ⟨bd', Rb, cb, hbd, hb0, hc0, hcl0, hcm0, hrb⟩ := (HB.out.below hB).at_ hltb
      obtain rfl : bd = bd' := by simpa using hbd
      have l1 : k < (gr E.bd j).length := by have := HE.out.len j (by have := HR.out; omega); have := HK.out; simp only [Est.row] at *; omega
      have l2 : k < (gr E.bd b).length := by have := HE.out.len b (by have := HR.out; omega); have := HK.out; simp only [Est.row] at *; omega
      obtain ⟨aj, rfl, _, cj1⟩ := hrj.at_ l1
      obtain ⟨ab, rfl, _, cb1⟩ := hrb.at_ l2
      have i1 : (j : Int) < (E.bd.length : Int) := by omega
      have i2 : (b : Int) < (E.bd.length : Int) := by omega
      have i3 : (k : Int) < ((gr E.bd j).length : Int) := by omega
      have i4 : (k : Int) < ((gr E.bd b).length : Int) := by omega
      have HBB := Lib.hid hb
      clear hb hbd
      unfold maxLen at hcm hcm0
      by_cases q : gi (gr E.bd b) k < gi (gr E.bd j) k
      · have q1 : decide (gi (gr E.bd b) k < gi (gr E.bd j) k) = true := by simpa using q
        have HF := Lib.hid (show E.best k (j + 1) = j from HS.out.trans (if_pos q))
        clear q
        go_wp2_with fail
        go_quiet (fail)
        go_wp2
        go_roundw
        case rel => exact ⟨j + 1, by omega, by omega, by go_num, by rw [HF.out], below_drewN hB _, hbx⟩
        case measure => simp [intOf]; omega
      · have q1 : decide (gi (gr E.bd b) k < gi (gr E.bd j) k) = false := by simpa using q
        have HF := Lib.hid (show E.best k (j + 1) = b from HS.out.trans (if_neg q))
        clear q
        go_wp2_with fail
        go_quiet (fail)
        go_wp2
        go_roundw
        case rel => exact ⟨j + 1, by omega, by omega, by go_num, by rw [HF.out], below_drewN hB _, hbx⟩
        case measure => simp [intOf]; omega
    · have HF := Lib.hid (show E.best k j = E.own k by rw [Est.own, ← HR.out]; congr 1; omega)
      obtain rfl : j = E.bd.length := by omega
      go_wp2_with fail
      go_ret
      exact ⟨ret_int (by rw [HF.out]), hB⟩

/-- What the owners' list gives an heir. -/
def ownL (l : List Int) (k : Nat) : Int := gi l k

set_option maxRecDepth 100000 in
set_option maxHeartbeats 4000000 in
theorem worth_any (E : Est) (hE : E.Ok) (A : Option Addr) (c : Nat) (R : Option Addr) (d : Nat) (O : Option Addr) (oc : Nat) (os : List Int) (i : Nat) (hi : i < E.n) (hos : os.length ≤ E.m) (w : World) (h : EIn w.heap.size w A c R d E)
    (ho : Ints w.heap.size w O os) :
    Calls Try.prog 29 #[eV A c R d E, .slice O os.length oc, .int .i64 i] w fun e w' => e = .returned (.int .i64 (E.worthOf (gi os) i os.length)) ∧ Below w.heap.size w w' := by
  obtain ⟨hs, hb, hsl, hsm, hbl, hbm⟩ := h
  unfold maxLen at hsm hbm
  unfold eV
  have HO := Lib.hid (ho.next (one_alloc w (bxOf A c R d E)))
  have HE := Lib.hid hE
  have hib : i < E.bd.length := by rw [hE.rows]; exact hi
  have HB := Lib.hid (hb.next (one_alloc w (bxOf A c R d E)))
  have hbx := heap_new (w := w) (o := bxOf A c R d E) rfl
  have cbx := fun j => cell_of_row _ _ j _ _ _ hbx
  have hm30 := hE.m30
  have hlen := hE.len i hi
  have HL := Lib.hid hlen
  obtain ⟨bd, Ri, ci, rfl, hb', hc', hcl, hcm, hri⟩ := HB.out.at_ hib
  have i1 : (i : Int) < (E.bd.length : Int) := by omega
  unfold maxLen at hcm
  clear hb hs hE ho hbx hlen
  go_enter Try.func29, Try.ntmps29
  go_wp2_with fail
  go_loop [7, 8] (fun s q => ∃ k : Nat, k ≤ os.length ∧ q = .int .i64 k ∧ s = .int .i64 (E.worthOf (gi os) i k)) (fun _ q => os.length - (intOf q).toNat)
  case atStart => exact ⟨0, Nat.zero_le _, rfl, rfl⟩
  case round =>
    obtain ⟨k, hk, rfl, rfl⟩ := hrel
    by_cases hlt : k < os.length
    · obtain ⟨ao, rfl, _, co⟩ := HO.out.at_ hlt
      have l1 : k < (gr E.bd i).length := by have := HL.out; simp only [Est.row] at *; omega
      obtain ⟨ai, rfl, _, ci1⟩ := hri.at_ l1
      have i2 : (k : Int) < ((gr E.bd i).length : Int) := by omega
      obtain ⟨b1, b2⟩ := HE.out.worthOf_bd (gi os) i k hi (by omega)
      have b5 := HE.out.bid0 i k hi (by omega)
      have b6 := HE.out.bid1 i k hi (by omega)
      simp only [Est.bid, Est.row] at b5 b6
      have HS := Lib.hid (show E.worthOf (gi os) i (k + 1) = E.worthOf (gi os) i k + if gi os k = (i : Int) then gi (gr E.bd i) k else 0 from rfl)
      by_cases q : gi os k = (i : Int)
      · have q1 : (gi os k == (i : Int)) = true := by simpa using q
        have HF := Lib.hid (show E.worthOf (gi os) i (k + 1) = E.worthOf (gi os) i k + gi (gr E.bd i) k by rw [HS.out, if_pos q])
        clear q
        go_wp2_with fail
        go_round
        case rel => exact ⟨k + 1, by omega, by go_num, by rw [HF.out]⟩
        case measure => simp [intOf]; omega
      · have q1 : (gi os k == (i : Int)) = false := by simpa using q
        have HF := Lib.hid (show E.worthOf (gi os) i (k + 1) = E.worthOf (gi os) i k by rw [HS.out, if_neg q]; omega)
        clear q
        go_wp2_with fail
        go_round
        case rel => exact ⟨k + 1, by omega, by go_num, by rw [HF.out]⟩
        case measure => simp [intOf]; omega
    · obtain rfl : k = os.length := by omega
      go_wp2_with fail
      go_ret
      exact ⟨rfl, one_alloc _ _⟩

set_option maxRecDepth 100000 in
set_option maxHeartbeats 4000000 in
theorem claim_any (E : Est) (hE : E.Ok) (A : Option Addr) (c : Nat) (R : Option Addr) (d : Nat) (i : Nat) (hi : i < E.n) (w : World) (h : EIn w.heap.size w A c R d E) :
    Calls Try.prog 36 #[eV A c R d E, .int .i64 i] w fun e w' => e = .returned (.int .i64 (E.claim i)) ∧ Below w.heap.size w w' := by
  obtain ⟨hs, hb, hsl, hsm, hbl, hbm⟩ := h
  unfold maxLen at hsm hbm
  unfold eV
  have HE := Lib.hid hE
  have hib : i < E.bd.length := by rw [hE.rows]; exact hi
  have his : i < E.sh.length := hi
  have HB := Lib.hid (hb.next (one_alloc w (bxOf A c R d E)))
  have HS := Lib.hid (hs.next (one_alloc w (bxOf A c R d E)))
  have hbx := heap_new (w := w) (o := bxOf A c R d E) rfl
  have cbx := fun j => cell_of_row _ _ j _ _ _ hbx
  have hm30 := hE.m30
  have hlen := hE.len i hi
  have HL := Lib.hid (show (gr E.bd i).length = E.m from hlen)
  obtain ⟨bd, Ri, ci, rfl, hb', hc', hcl, hcm, hri⟩ := HB.out.at_ hib
  obtain ⟨ad, rfl, _, cs⟩ := HS.out.at_ his
  have i1 : (i : Int) < (E.bd.length : Int) := by omega
  have i3 : (i : Int) < (E.sh.length : Int) := by omega
  have hl30 : (gr E.bd i).length ≤ 30 := by have := HL.out; omega
  unfold maxLen at hcm
  clear hb hs hE hbx hlen
  go_enter Try.func36, Try.ntmps36
  go_wp2_with fail
  go_loop [5, 6] (fun s q => ∃ k : Nat, k ≤ (gr E.bd i).length ∧ q = .int .i64 k ∧ s = .int .i64 (sumTo (gi (gr E.bd i)) k)) (fun _ q => (gr E.bd i).length - (intOf q).toNat)
  case atStart => exact ⟨0, Nat.zero_le _, rfl, rfl⟩
  case round =>
    obtain ⟨k, hk, rfl, rfl⟩ := hrel
    obtain ⟨b1, b2⟩ := HE.out.row_bd i k hi (by have := HL.out; omega)
    have b1' : 0 ≤ sumTo (gi (gr E.bd i)) k := b1
    have b2' : sumTo (gi (gr E.bd i)) k ≤ 1000000 * k := b2
    clear b1 b2
    by_cases hlt : k < (gr E.bd i).length
    · obtain ⟨ai, rfl, _, ci1⟩ := hri.at_ hlt
      have b5 : 0 ≤ gi (gr E.bd i) k := HE.out.bid0 i k hi (by have := HL.out; omega)
      have b6 : gi (gr E.bd i) k ≤ 1000000 := HE.out.bid1 i k hi (by have := HL.out; omega)
      go_wp2_with fail
      go_round
      case rel => exact ⟨k + 1, by omega, by go_num, by rw [sumTo_succ]⟩
      case measure => simp [intOf]; omega
    · obtain rfl : k = (gr E.bd i).length := by omega
      obtain ⟨c1, c2⟩ := HE.out.claim_bd i hi
      have HC := Lib.hid (show E.claim i = gi E.sh i * sumTo (gi (gr E.bd i)) (gr E.bd i).length by rw [HL.out]; rfl)
      have c3 : 0 ≤ sumTo (gi (gr E.bd i)) (gr E.bd i).length * gi E.sh i := by rw [Int.mul_comm, ← HC.out]; exact c1
      have c4 : sumTo (gi (gr E.bd i)) (gr E.bd i).length * gi E.sh i ≤ 30000000000 := by rw [Int.mul_comm, ← HC.out]; exact c2
      clear c1 c2
      go_wp2_with fail
      go_ret
      exact ⟨ret_int (by rw [HC.out, Int.mul_comm]), one_alloc _ _⟩
end Go.Proofs.Ytedgdmblpjfaiaa
