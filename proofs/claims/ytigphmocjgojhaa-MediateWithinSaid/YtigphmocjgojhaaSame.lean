/- Lists of offers in memory, and Same, which compares two. -/
import Derived.Test.YtigphmocjgojhaaRunC
namespace Go.Proofs.Ytigphmocjgojhaa
open Go.RowKit
set_option linter.unusedVariables false
set_option linter.unusedSimpArgs false

@[go_sem] theorem eq49 (x1 x2 y1 y2 : Int) (w : World) : (Op.equalIn 10000 49 (.agg #[.int .u8 x1, .int .i64 x2]) (.agg #[.int .u8 y1, .int .i64 y2])).run Try.prog w = .ok (decide (x1 = y1) && decide (x2 = y2)) w := by
  rw [show (10000 : Nat) = 9999 + 1 from rfl, run_equalIn_agg _ _ _ _ _ (by kernel_rfl) (by kernel_rfl)]
  simp only [Program.fieldsOf, Try.underlying49]
  simp [go_sem, Op.eqFields]
  by_cases h1 : x1 = y1 <;> by_cases h2 : x2 = y2 <;> simp [h1, h2]
@[go_sem] theorem guard49 (op : BinOp) (x y : Operand) (xs ys : Array Value) (w : World) : (eqGuard op 49 x y (.agg xs) (.agg ys)).run Try.prog w = .ok () w := run_eqGuard_agg w op 49 x y xs ys (by kernel_rfl)

/-- The value v is a slice that holds the offers L in w. -/
def OffR (w : World) (v : Value) (L : List (Int × Int)) : Prop :=
  L.length ≤ 1000 ∧ ((L = [] ∧ ∃ A cap, v = .slice A 0 cap) ∨ (0 < L.length ∧ ∃ g o cap, v = .slice (some ⟨g, o, none⟩) L.length cap ∧ L.length ≤ cap ∧ g < w.heap.size ∧
    ∀ i x, L[i]? = some x → w.cell? ⟨g, o + i * 2, none⟩ = some (.int .u8 x.1) ∧ w.cell? ⟨g, o + i * 2 + 1, none⟩ = some (.int .i64 x.2)))

def offL (b : Bg) (k : Nat) : List (Int × Int) := (List.range k).map fun i => (((i % 2 : Nat) : Int), pr b i)

theorem offL_length (b : Bg) (k : Nat) : (offL b k).length = k := by simp [offL]
theorem offL_get (b : Bg) (k i : Nat) (h : i < k) : (offL b k)[i]? = some (((i % 2 : Nat) : Int), pr b i) := by simp [offL, h]

theorem offR_of_row {w : World} {base : Nat} {v : Value} {b : Bg} {k : Nat} (h : w.ownsRow base 49 2 v k (offCells b k)) (hk : k ≤ 1000) : OffR w v (offL b k) := by
  refine ⟨by rw [offL_length]; exact hk, ?_⟩
  rcases h.2 with ⟨rfl, rfl⟩ | ⟨g, cap, cur, rfl, _, hh, hc, _⟩
  · exact Or.inl ⟨rfl, _, _, rfl⟩
  · by_cases h0 : k = 0
    · subst h0; exact Or.inl ⟨rfl, _, _, rfl⟩
    · refine Or.inr ⟨by rw [offL_length]; omega, g, 0, cap, by rw [offL_length], by rw [offL_length]; exact hc, lt_some hh, fun i x hx => ?_⟩
      have hi : i < k := by
        rcases Nat.lt_or_ge i k with h' | h'
        · exact h'
        · rw [List.getElem?_eq_none (by rw [offL_length]; exact h')] at hx; simp at hx
      rw [offL_get b k i hi] at hx
      simp only [Option.some.injEq] at hx
      subst hx
      have := offCells_get b k i hi
      rw [Nat.zero_add, h.cellAt _ (by omega), h.cellAt _ (by omega)]
      exact this

theorem OffR.ext {w w1 : World} {v : Value} {L : List (Int × Int)} (h : OffR w v L) (hb : Below w.heap.size w w1) : OffR w1 v L := by
  obtain ⟨h1, h2⟩ := h
  refine ⟨h1, ?_⟩
  rcases h2 with h2 | ⟨h0, g, o, cap, hv, hc, hg, hcell⟩
  · exact Or.inl h2
  · exact Or.inr ⟨h0, g, o, cap, hv, hc, Nat.lt_of_lt_of_le hg hb.size, fun i x hx => ⟨(hb.cell (p := ⟨g, _, none⟩) hg).trans (hcell i x hx).1, (hb.cell (p := ⟨g, _, none⟩) hg).trans (hcell i x hx).2⟩⟩

theorem same_ne {L M : List (Int × Int)} {k : Nat} {x y : Int × Int} (hx : L[k]? = some x) (hy : M[k]? = some y) (h : x ≠ y) : decide (L = M) = false := by
  simp only [decide_eq_false_iff_not]
  intro e; subst e; rw [hx] at hy; exact h (by simpa using hy)
theorem same_all {L M : List (Int × Int)} (hl : L.length = M.length) (h : ∀ j, j < L.length → L[j]? = M[j]?) : decide (L = M) = true := by
  simp only [decide_eq_true_eq]
  apply List.ext_getElem?
  intro j
  by_cases hj : j < L.length
  · exact h j hj
  · rw [List.getElem?_eq_none (by omega), List.getElem?_eq_none (by omega)]

set_option maxHeartbeats 1000000 in
theorem same_any (u v : Value) (L M : List (Int × Int)) (w : World) (hu : OffR w u L) (hv : OffR w v M) :
    Calls Try.prog 20 #[u, v] w fun e w' => e = .returned (.bool (decide (L = M))) ∧ Below w.heap.size w w' := by
  obtain ⟨hL, hu⟩ := hu
  obtain ⟨hM, hv⟩ := hv
  by_cases hne : L.length = M.length
  · by_cases h0 : L.length = 0
    · have e1 : L = [] := List.eq_nil_of_length_eq_zero h0
      have e2 : M = [] := List.eq_nil_of_length_eq_zero (by omega)
      subst e1 e2
      rcases hu with ⟨_, A, c, rfl⟩ | ⟨h, _⟩
      · rcases hv with ⟨_, A', c', rfl⟩ | ⟨h, _⟩
        · clear hL hM hne h0
          go_enter Try.func20, Try.ntmps20
          go_wp2_with fail
          refine wp_loop_rounds 1 ?_
          rw [rounds_succ]
          go_wp2
          go_ret
          exact ⟨rfl, Below.refl _ _⟩
        · simp at h
      · simp at h
    · rcases hu with ⟨e, _⟩ | ⟨_, g, o, cap, rfl, hc, hg, hcell⟩
      · subst e; simp at h0
      rcases hv with ⟨e, _⟩ | ⟨_, g', o', cap', rfl, hc', hg', hcell'⟩
      · subst e; simp at hne; subst hne; simp at h0
      have HN := Lib.hid hne
      rw [← hne] at hc' ⊢
      generalize hn : L.length = n at *
      have HL := Lib.hid hn
      have hnz : 0 < n := by omega
      clear hne hn h0 hM hc hc'
      go_enter Try.func20, Try.ntmps20
      go_wp2_with fail
      go_loopw [5] (fun i wr => ∃ k : Nat, k ≤ n ∧ i = .int .i64 k ∧ (∀ j, j < k → L[j]? = M[j]?) ∧ Below w.heap.size w wr) (fun i _ => n - (intOf i).toNat)
      case atStart => exact ⟨0, by omega, rfl, fun j hj => by omega, Below.refl _ _⟩
      case round =>
        obtain ⟨k, hk, rfl, hall, hb⟩ := hrel
        have HA := Lib.hid hall
        clear hall
        by_cases hlt : k < n
        · obtain ⟨⟨x1, x2⟩, hx⟩ : ∃ x, L[k]? = some x := ⟨L[k]'(by rw [HL.out]; exact hlt), by simp⟩
          obtain ⟨⟨y1, y2⟩, hy⟩ : ∃ x, M[k]? = some x := ⟨M[k]'(by rw [← HN.out]; exact hlt), by simp⟩
          obtain ⟨cx1, cx2⟩ := hcell k _ hx
          obtain ⟨cy1, cy2⟩ := hcell' k _ hy
          have cx1 := (hb.cell (p := ⟨g, _, none⟩) hg).trans cx1
          have cx2 := (hb.cell (p := ⟨g, _, none⟩) hg).trans cx2
          have cy1 := (hb.cell (p := ⟨g', _, none⟩) hg').trans cy1
          have cy2 := (hb.cell (p := ⟨g', _, none⟩) hg').trans cy2
          have HX := Lib.hid hx
          have HY := Lib.hid hy
          clear hx hy hcell hcell'
          by_cases h1 : x1 = y1
          · subst h1
            by_cases h2 : x2 = y2
            · subst h2
              go_wp2_with fail
              go_quiet (fail)
              go_wp2_with fail
              go_roundw
              case rel => exact ⟨k + 1, by omega, by go_num, fun j hj => by
                by_cases hj' : j < k
                · exact HA.out j hj'
                · obtain rfl : j = k := by omega
                  rw [HX.out, HY.out], below_drewN hb _⟩
              case measure => go_light; simp [intOf]; omega
            · have HD := Lib.hid (same_ne HX.out HY.out (fun h => h2 (by simpa using congrArg Prod.snd h)))
              go_wp2_with fail
              go_quiet (fail)
              go_wp2_with fail
              go_ret
              exact ⟨ret_bool HD.out.symm, below_drewN hb _⟩
          · have HD := Lib.hid (same_ne HX.out HY.out (fun h => h1 (by simpa using congrArg Prod.fst h)))
            go_wp2_with fail
            go_quiet (fail)
            go_wp2_with fail
            go_ret
            exact ⟨ret_bool HD.out.symm, below_drewN hb _⟩
        · have HD := Lib.hid (same_all (L := L) (M := M) (by rw [HL.out, HN.out]) (fun j hj => HA.out j (by have := HL.out; omega)))
          go_wp2_with fail
          go_ret
          exact ⟨ret_bool HD.out.symm, hb⟩
  · have HD := Lib.hid (show decide (L = M) = false by simp; intro h; exact hne (by rw [h]))
    have hlen : ((L.length : Int) != (M.length : Int)) = true := by rw [bne_iff_ne]; omega
    rcases hu with ⟨rfl, A, c, rfl⟩ | ⟨_, g, o, cap, rfl, _⟩ <;> rcases hv with ⟨rfl, A', c', rfl⟩ | ⟨_, g', o', cap', rfl, _⟩
    all_goals first
      | (exact absurd rfl hne)
      | (clear hne hL hM
         (try simp only [List.length_nil] at hlen)
         go_enter Try.func20, Try.ntmps20
         go_wp2
         go_ret
         exact ⟨ret_bool HD.out.symm, Below.refl _ _⟩)

end Go.Proofs.Ytigphmocjgojhaa
