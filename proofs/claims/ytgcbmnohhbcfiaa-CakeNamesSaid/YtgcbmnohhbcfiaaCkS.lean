/- Cakes are compared and checked. -/
import Derived.Test.YtgcbmnohhbcfiaaCkA
namespace Go.Proofs.Ytgcbmnohhbcfiaa
open Go.RowKit Go.Deep
set_option linter.unusedVariables false
set_option linter.unusedSimpArgs false

def sameK (a b : Ck) : Bool := decide (a.len = b.len) && sameL a.cuts b.cuts && sameL a.dens b.dens
theorem sameK_self (a : Ck) : sameK a a = true := by simp [sameK, sameL]
theorem sameK_eq {a b : Ck} (h : sameK a b = true) : a = b := by
  simp only [sameK, sameL, Bool.and_eq_true, decide_eq_true_eq] at h
  exact Ck.ext_ h.1.1 h.1.2 h.2
/-- Two cakes as arguments. -/
theorem two_boxes (K L : Ck) (A R B S : Option Addr) (c d e f : Nat) (w : World) : Below w.heap.size w ((w.alloc (cB A c R d K)).alloc (cB B e S f L)) ∧ ((w.alloc (cB A c R d K)).alloc (cB B e S f L)).heap[w.heap.size]? = some (cB A c R d K) ∧ ((w.alloc (cB A c R d K)).alloc (cB B e S f L)).heap[w.heap.size + 1]? = some (cB B e S f L) :=
  ⟨(one_alloc w _).alloc (by simp) _, heap_old (heap_new rfl), heap_new (by simp)⟩
set_option maxRecDepth 100000 in
set_option maxHeartbeats 4000000 in
theorem csame_any (K L : Ck) (A : Option Addr) (c : Nat) (R : Option Addr) (d : Nat) (B : Option Addr) (e : Nat) (S : Option Addr) (f : Nat) (w : World) (hk : CIn w.heap.size w A c R d K) (hl : CIn w.heap.size w B e S f L) :
    Calls Try.prog 28 #[cV A c R d K, cV B e S f L] w fun x w' => x = .returned (.bool (sameK K L)) ∧ Below w.heap.size w w' := by
  obtain ⟨HB0, ha, hb⟩ := two_boxes K L A R B S c d e f w
  have HBel0 := Lib.hid HB0
  have HE1 := Lib.hid (fun (W : World) (hW : Below w.heap.size w W) => equal_any A B c e K.cuts L.cuts W (hk.next hW).cuts (hl.next hW).cuts (Nat.le_trans hk.lc hk.mc) (Nat.le_trans hl.lc hl.mc))
  have HE2 := Lib.hid (fun (W : World) (hW : Below w.heap.size w W) => equal_any R S d f K.dens L.dens W (hk.next hW).dens (hl.next hW).dens (Nat.le_trans hk.ld hk.md) (Nat.le_trans hl.ld hl.md))
  clear hk hl HB0
  have ca := fun j => cell_of_row _ _ j _ _ _ ha
  have cb := fun j => cell_of_row _ _ j _ _ _ hb
  have za := lt_some ha
  have zb := lt_some hb
  by_cases q1 : K.len = L.len
  rotate_left
  · have b1 : (K.len == L.len) = false := by simpa using q1
    have HR := Lib.hid (show sameK K L = false by unfold sameK; rw [decide_eq_false q1]; rfl)
    rw [HR.out]
    clear HR q1
    go_enter Try.func28, Try.ntmps28
    go_wp2_with fail
    go_ret
    exact ⟨rfl, HBel0.out⟩
  have b1 : (K.len == L.len) = true := by simpa using q1
  obtain ⟨e1, he1⟩ : ∃ b, b = sameL K.cuts L.cuts := ⟨_, rfl⟩
  obtain ⟨e2, he2⟩ : ∃ b, b = sameL K.dens L.dens := ⟨_, rfl⟩
  rw [← he1] at HE1
  rw [← he2] at HE2
  have HR := Lib.hid (show sameK K L = (e1 && e2) by unfold sameK; rw [decide_eq_true q1, ← he1, ← he2]; simp)
  clear he1 he2 q1
  go_enter Try.func28, Try.ntmps28
  go_wp2_with fail
  refine (HE1.out _ HBel0.out).mono ?_
  rintro x w1 ⟨rfl, hb1⟩
  have HB1 := Lib.hid (bcall HBel0.out HBel0.out.size hb1)
  cases e1 with
  | false =>
    go_wp2_with fail
    go_ret
    exact ⟨ret_bool (by rw [HR.out]; rfl), HB1.out⟩
  | true =>
  have ha := heap_ext ha hb1
  have hb := heap_ext hb hb1
  clear ca cb za zb hb1
  have ca := fun j => cell_of_row _ _ j _ _ _ ha
  have cb := fun j => cell_of_row _ _ j _ _ _ hb
  have za := lt_some ha
  have zb := lt_some hb
  go_wp2_with fail
  refine (HE2.out _ HB1.out).mono ?_
  rintro x w2 ⟨rfl, hb2⟩
  go_wp2_with fail
  go_ret
  exact ⟨ret_bool (by rw [HR.out]; rfl), bcall HB1.out HB1.out.size hb2⟩
set_option maxRecDepth 100000 in
set_option maxHeartbeats 8000000 in
theorem fsame_any (K L : Ck) (A : Option Addr) (c : Nat) (R : Option Addr) (d : Nat) (B : Option Addr) (e : Nat) (S : Option Addr) (f : Nat) (w : World) (hk : CIn w.heap.size w A c R d K) (hl : CIn w.heap.size w B e S f L) :
    Calls Try.prog 21 #[cV A c R d K, cV B e S f L] w fun x w' => x = .returned (.bool (sameK K L)) ∧ Below w.heap.size w w' := by
  obtain ⟨HB0, ha, hb⟩ := two_boxes K L A R B S c d e f w
  have HBel0 := Lib.hid HB0
  have m1 := Nat.le_trans hk.lc hk.mc
  have m2 := Nat.le_trans hk.ld hk.md
  have m3 := Nat.le_trans hl.lc hl.mc
  have m4 := Nat.le_trans hl.ld hl.md
  unfold maxLen at m1 m2 m3 m4
  have HX := Lib.hid (fun (W : World) (hW : Below w.heap.size w W) => hk.next hW)
  have HY := Lib.hid (fun (W : World) (hW : Below w.heap.size w W) => hl.next hW)
  clear hk hl HB0
  have ca := fun j => cell_of_row _ _ j _ _ _ ha
  have cb := fun j => cell_of_row _ _ j _ _ _ hb
  have za := lt_some ha
  have zb := lt_some hb
  by_cases q1 : K.len = L.len
  rotate_left
  · have bq1 : (K.len != L.len) = true := by simp; omega
    have HR := Lib.hid (show sameK K L = false by simp only [sameK, decide_eq_false q1]; rfl)
    rw [HR.out]
    clear HR q1
    go_enter Try.func21, Try.ntmps21
    go_wp2_with fail
    go_ret
    exact ⟨rfl, HBel0.out⟩
  have bq1 : (K.len != L.len) = false := by simp [q1]
  have HQ1 := Lib.hid q1
  clear q1
  by_cases q2 : K.cuts.length = L.cuts.length
  rotate_left
  · have bq2 : ((K.cuts.length : Int) != (L.cuts.length : Int)) = true := by simp; omega
    have HR := Lib.hid (show sameK K L = false by simp only [sameK, sameL, decide_eq_false (show ¬ K.cuts = L.cuts from fun x => q2 (by rw [x]))]; simp)
    rw [HR.out]
    clear HR q2
    go_enter Try.func21, Try.ntmps21
    go_wp2_with fail
    go_ret
    exact ⟨rfl, HBel0.out⟩
  have bq2 : ((K.cuts.length : Int) != (L.cuts.length : Int)) = false := by simp [q2]
  have HQ2 := Lib.hid q2
  clear q2
  by_cases q3 : K.dens.length = L.dens.length
  rotate_left
  · have bq3 : ((K.dens.length : Int) != (L.dens.length : Int)) = true := by simp; omega
    have HR := Lib.hid (show sameK K L = false by simp only [sameK, sameL, decide_eq_false (show ¬ K.dens = L.dens from fun x => q3 (by rw [x]))]; simp)
    rw [HR.out]
    clear HR q3
    go_enter Try.func21, Try.ntmps21
    go_wp2_with fail
    go_ret
    exact ⟨rfl, HBel0.out⟩
  have bq3 : ((K.dens.length : Int) != (L.dens.length : Int)) = false := by simp [q3]
  have HQ3 := Lib.hid q3
  clear q3
  go_enter Try.func21, Try.ntmps21
  go_wp2_with fail
  clear bq1 bq2 bq3
  obtain ⟨w0, hw0⟩ : ∃ w0, w0 = (w.alloc (cB A c R d K)).alloc (cB B e S f L) := ⟨_, rfl⟩
  rw [← hw0] at HBel0 ha hb ca cb za zb ⊢
  clear hw0
  go_loopw [5] (fun i wr => ∃ k : Nat, k ≤ K.cuts.length ∧ i = .int .i64 k ∧ Hid (∀ j, j < k → gi K.cuts j = gi L.cuts j) ∧ Below w0.heap.size w0 wr) (fun i _ => K.cuts.length - (intOf i).toNat)
  case atStart => exact ⟨0, Nat.zero_le _, rfl, Lib.hid fun j hj => by omega, Below.refl _ _⟩
  case round =>
    obtain ⟨k, hk, rfl, hno, hB⟩ := hrel
    have hA := bcall HBel0.out HBel0.out.size hB
    have ha := heap_ext ha hB
    have hb := heap_ext hb hB
    clear ca cb za zb
    have ca := fun j => cell_of_row _ _ j _ _ _ ha
    have cb := fun j => cell_of_row _ _ j _ _ _ hb
    have za := lt_some ha
    have zb := lt_some hb
    by_cases hlt : k < K.cuts.length
    · obtain ⟨ad, rfl, _, hc⟩ := (HX.out _ hA).cuts.at_ hlt
      have hlt' : k < L.cuts.length := by rw [← HQ2.out]; exact hlt
      obtain ⟨bd, rfl, _, hc'⟩ := (HY.out _ hA).cuts.at_ hlt'
      by_cases hq : gi K.cuts k = gi L.cuts k
      · have hqb : (gi K.cuts k != gi L.cuts k) = false := by simp [hq]
        have HS := Lib.hid (show ∀ j, j < k + 1 → gi K.cuts j = gi L.cuts j from fun j hj => by
          by_cases x : j = k
          · subst x; exact hq
          · exact hno.out j (by omega))
        clear hq hno
        go_wp2_with fail
        go_quiet (fail)
        go_wp2_with fail
        go_roundw
        case rel => exact ⟨k + 1, by omega, by go_num, HS, below_drewN hB _⟩
        case measure => simp [intOf]; omega
      · have hqb : (gi K.cuts k != gi L.cuts k) = true := by simp [hq]
        have HR := Lib.hid (show sameK K L = false by simp only [sameK, sameL, decide_eq_false (show ¬ K.cuts = L.cuts from fun x => hq (by rw [x]))]; simp)
        clear hq hno
        go_wp2_with fail
        go_quiet (fail)
        go_wp2_with fail
        go_ret
        exact ⟨ret_bool HR.out.symm, below_drewN hA _⟩
    · obtain rfl : k = K.cuts.length := by omega
      have HC := Lib.hid (gi_ext HQ2.out hno.out)
      clear hno
      go_wp2_with fail
      obtain ⟨w1, hw1⟩ : ∃ w1, w1 = wr := ⟨_, rfl⟩
      rw [← hw1] at hA hB ha hb ca cb za zb ⊢
      clear hw1
      have HA1 := Lib.hid hA
      have ha1 := ha
      have hb1 := hb
      clear hA hB hk hlt
      go_loopw [6] (fun i wr => ∃ k : Nat, k ≤ K.dens.length ∧ i = .int .i64 k ∧ Hid (∀ j, j < k → gi K.dens j = gi L.dens j) ∧ Below w1.heap.size w1 wr) (fun i _ => K.dens.length - (intOf i).toNat)
      case atStart => exact ⟨0, Nat.zero_le _, rfl, Lib.hid fun j hj => by omega, Below.refl _ _⟩
      case round =>
        obtain ⟨k, hk, rfl, hno, hB⟩ := hrel
        have hA := bcall HA1.out HA1.out.size hB
        have ha := heap_ext ha1 hB
        have hb := heap_ext hb1 hB
        clear ca cb za zb
        have ca := fun j => cell_of_row _ _ j _ _ _ ha
        have cb := fun j => cell_of_row _ _ j _ _ _ hb
        have za := lt_some ha
        have zb := lt_some hb
        by_cases hlt : k < K.dens.length
        · obtain ⟨ad, rfl, _, hc⟩ := (HX.out _ hA).dens.at_ hlt
          have hlt' : k < L.dens.length := by rw [← HQ3.out]; exact hlt
          obtain ⟨bd, rfl, _, hc'⟩ := (HY.out _ hA).dens.at_ hlt'
          by_cases hq : gi K.dens k = gi L.dens k
          · have hqb : (gi K.dens k != gi L.dens k) = false := by simp [hq]
            have HS := Lib.hid (show ∀ j, j < k + 1 → gi K.dens j = gi L.dens j from fun j hj => by
              by_cases x : j = k
              · subst x; exact hq
              · exact hno.out j (by omega))
            clear hq hno
            go_wp2_with fail
            go_quiet (fail)
            go_wp2_with fail
            go_roundw
            case rel => exact ⟨k + 1, by omega, by go_num, HS, below_drewN hB _⟩
            case measure => simp [intOf]; omega
          · have hqb : (gi K.dens k != gi L.dens k) = true := by simp [hq]
            have HR := Lib.hid (show sameK K L = false by simp only [sameK, sameL, decide_eq_false (show ¬ K.dens = L.dens from fun x => hq (by rw [x]))]; simp)
            clear hq hno
            go_wp2_with fail
            go_quiet (fail)
            go_wp2_with fail
            go_ret
            exact ⟨ret_bool HR.out.symm, below_drewN hA _⟩
        · obtain rfl : k = K.dens.length := by omega
          have HR := Lib.hid (show sameK K L = true by
            have hd := gi_ext HQ3.out hno.out
            simp only [sameK, sameL, decide_eq_true HQ1.out, decide_eq_true HC.out, decide_eq_true hd]; rfl)
          clear hno
          go_wp2_with fail
          go_ret
          exact ⟨ret_bool HR.out.symm, hA⟩
end Go.Proofs.Ytgcbmnohhbcfiaa
