/- The small functions of package ratio, walked: check. -/
import Derived.Test.YtgcbmnohhbcfiaaRtA
import Derived.Deep.RegionHeld3
import Derived.Deep.DrawnRows
namespace Go.Proofs.Ytgcbmnohhbcfiaa
open Go.RowKit
set_option linter.unusedVariables false
set_option linter.unusedSimpArgs false

def orL : List Int → Int
  | [] => 0
  | x :: l => if x ≠ 0 then x else orL l
theorem orL_at {l : List Int} {k : Nat} (hk : k < l.length) (h : ∀ j, j < k → gi l j = 0) (h0 : gi l k ≠ 0) : orL l = gi l k := by
  induction l generalizing k with
  | nil => simp at hk
  | cons x l ih =>
    cases k with
    | zero =>
      have : gi (x :: l) 0 = x := rfl
      rw [this] at h0 ⊢; rw [orL, if_pos h0]
    | succ k =>
      have e : gi (x :: l) (k + 1) = gi l k := by simp [gi]
      have e0 : x = 0 := h 0 (by omega)
      rw [e] at h0 ⊢
      rw [orL, if_neg (by simpa using e0)]
      exact ih (by simpa using hk) (fun j hj => by have := h (j + 1) (by omega); simpa [gi] using this) h0
theorem orL_end {l : List Int} (h : ∀ j, j < l.length → gi l j = 0) : orL l = 0 := by
  induction l with
  | nil => rfl
  | cons x l ih =>
    have e0 : x = 0 := h 0 (by simp)
    rw [orL, if_neg (by simpa using e0)]
    exact ih (fun j hj => by have := h (j + 1) (by simpa using hj); simpa [gi] using this)

set_option maxHeartbeats 1000000 in
theorem or_any (A : Option Addr) (c : Nat) (xs : List Int) (w : World) (hx : Ints w.heap.size w A xs) (hm : xs.length ≤ maxLen) :
    Calls Try.prog 121 #[.slice A xs.length c] w fun e w' => e = .returned (.int .i64 (orL xs)) ∧ w = w' := by
  unfold maxLen at hm
  go_enter Try.func121, Try.ntmps121
  go_wp2
  go_loop [8] (fun i => ∃ k : Nat, k ≤ xs.length ∧ i = .int .i64 k ∧ Hid (∀ j, j < k → gi xs j = 0)) (fun i => xs.length - (intOf i).toNat)
  case atStart => exact ⟨0, Nat.zero_le _, rfl, Lib.hid fun j hj => by omega⟩
  case round =>
    obtain ⟨k, hk, rfl, hno⟩ := hrel
    by_cases hlt : k < xs.length
    · obtain ⟨ad, rfl, hb, hc⟩ := hx.at_ hlt
      by_cases h0 : gi xs k = 0
      · have HN := Lib.hid (show ∀ j, j < k + 1 → gi xs j = 0 from fun j hj => by
          by_cases e : j = k
          · subst e; exact h0
          · exact hno.out j (by omega))
        rw [h0] at hc
        clear h0 hno
        go_wp2
        go_round
        case rel => exact ⟨k + 1, by omega, by go_num, HN⟩
        case measure => simp [intOf]; omega
      · have HO := Lib.hid (orL_at hlt hno.out h0)
        have q : (gi xs k != 0) = true := by simpa using h0
        clear h0 hno
        go_wp2
        go_ret
        exact ⟨ret_int HO.out.symm, rfl⟩
    · obtain rfl : k = xs.length := by omega
      have HO := Lib.hid (orL_end hno.out)
      clear hno
      go_wp2
      go_ret
      exact ⟨ret_int HO.out.symm, rfl⟩

theorem ints_lit2 (w : World) (x y : Int) (t : TypeId) : Ints (w.alloc (.cells #[.int .i64 x, .int .i64 y] t)).heap.size (w.alloc (.cells #[.int .i64 x, .int .i64 y] t)) (some ⟨w.heap.size, 0, none⟩) [x, y] := fun _ => by
  refine ⟨_, rfl, by simp, fun k hk => ?_⟩
  have h := cell_of_row _ _ k _ _ _ (heap_alloc_new w (.cells #[.int .i64 x, .int .i64 y] t))
  rw [add_mk, Nat.zero_add, h]
  match k, hk with
  | 0, _ => rfl
  | 1, _ => rfl

set_option maxRecDepth 100000 in
set_option maxHeartbeats 2000000 in
theorem rcheck2_any (a b : Rt) (h : a.wf) (k : b.wf) (w : World) :
    Calls Try.prog 97 #[rV a, rV b] w fun e w' => e = .returned (.int .i64 (code2 a b)) ∧ Below w.heap.size w w' := by
  have HA := Lib.hid (fun (W : World) => rcheck_any a h W)
  have HB := Lib.hid (fun (W : World) => rcheck_any b k W)
  have HO := Lib.hid (fun (W : World) (c : Nat) => or_any (some ⟨W.heap.size, 0, none⟩) c [a.code, b.code] _ (ints_lit2 W a.code b.code 27) (by unfold maxLen; simp))
  have HC := Lib.hid (show orL [a.code, b.code] = code2 a b by
    unfold code2; simp only [orL]
    split
    · rfl
    · split
      · rfl
      · omega)
  rw [HC.out] at HO
  have hb1 : ((w.alloc (rB a)).alloc (rB b)).heap[w.heap.size]? = some (rB a) := heap_old (heap_new rfl)
  have hb2 : ((w.alloc (rB a)).alloc (rB b)).heap[w.heap.size + 1]? = some (rB b) := heap_new (by simp)
  have hBe : Below w.heap.size w ((w.alloc (rB a)).alloc (rB b)) := (one_alloc w (rB a)).alloc (by simp) _
  clear h k
  go_enter Try.func97, Try.ntmps97
  go_wp2_with fail
  generalize (w.alloc _).alloc _ = w2 at hb1 hb2 hBe ⊢
  have z1 := lt_some hb1
  have z2 := lt_some hb2
  have c1 := fun j => cell_of_row _ _ j _ _ _ hb1
  have c2 := fun j => cell_of_row _ _ j _ _ _ hb2
  clear hb1 hb2
  have HK := Lib.hid (fun (W : World) (hb : Below w2.heap.size w2 W) => show W.cell? ⟨w.heap.size, 0, none⟩ = some (.int .i64 a.n) ∧ W.cell? ⟨w.heap.size, 1, none⟩ = some (.int .i64 a.d) ∧ W.cell? ⟨w.heap.size + 1, 0, none⟩ = some (.int .i64 b.n) ∧ W.cell? ⟨w.heap.size + 1, 1, none⟩ = some (.int .i64 b.d) from
    ⟨(hb.cell (p := ⟨w.heap.size, 0, none⟩) z1).trans (c1 0), (hb.cell (p := ⟨w.heap.size, 1, none⟩) z1).trans (c1 1), (hb.cell (p := ⟨w.heap.size + 1, 0, none⟩) z2).trans (c2 0), (hb.cell (p := ⟨w.heap.size + 1, 1, none⟩) z2).trans (c2 1)⟩)
  have HL0 := Lib.hid ((Below.refl w2.heap.size w2).drew)
  clear c1 c2
  go_region_held3 (fun W => W.cell? ⟨w.heap.size, 0, none⟩ = some (.int .i64 a.n) ∧ W.cell? ⟨w.heap.size, 1, none⟩ = some (.int .i64 a.d) ∧ W.cell? ⟨w.heap.size + 1, 0, none⟩ = some (.int .i64 b.n) ∧ W.cell? ⟨w.heap.size + 1, 1, none⟩ = some (.int .i64 b.d))
    (first
      | exact HK.out _ HL2.out
      | exact HK.out _ (HL2.out.alloc HL2.out.size _)
      | exact HK.out _ HL1.out
      | exact HK.out _ HL0.out)
    (first
      | (go_at_call 89; (with_reducible refine (HA.out _).mono ?_); rintro e w5 ⟨rfl, hb5⟩; first | have HL2 := Lib.hid (bcall HL1.out HL1.out.size hb5) | have HL1 := Lib.hid (bcall HL0.out HL0.out.size hb5))
      | (go_at_call 89; (with_reducible refine (HB.out _).mono ?_); rintro e w5 ⟨rfl, hb5⟩; first | have HL2 := Lib.hid (bcall HL1.out HL1.out.size hb5) | have HL1 := Lib.hid (bcall HL0.out HL0.out.size hb5))
      | (go_at_call 121; refine (HO.out _ _).mono ?_; rintro e w5 ⟨rfl, rfl⟩))
  all_goals
    go_wp2_with fail
    go_ret
    exact ⟨rfl, bcall hBe hBe.size (HL2.out.alloc HL2.out.size _)⟩
end Go.Proofs.Ytgcbmnohhbcfiaa
