/- MediateTurns returns true for every bargain. -/
import Derived.Test.YtigphmocjgojhaaAlive
import Derived.Test.YtigphmocjgojhaaLaws
namespace Go.Proofs.Ytigphmocjgojhaa
open Go.RowKit
set_option linter.unusedVariables false
set_option linter.unusedSimpArgs false

theorem no_acc {b : Bg} {med : Bool} {k : Nat} (hk : 0 < k) (h : stop b med k = none) : (k % 2 = 1 → pr b k < pr b (k - 1)) ∧ (k % 2 = 0 → pr b (k - 1) < pr b k) := by
  have ha : ¬ accAt b k = true := by
    intro ha
    unfold stop at h
    split at h
    · simp at h
    · split at h
      · simp at h
      · rw [if_pos ⟨hk, ha⟩] at h; simp at h
  simp only [accAt] at ha
  split at ha
  · rename_i hp; exact ⟨fun _ => by simpa using ha, fun h => by omega⟩
  · rename_i hp; exact ⟨fun h => by omega, fun _ => by simpa using ha⟩

theorem pr_mono {b : Bg} (hc : b.code = 0) {k : Nat} (hk : 2 ≤ k) : (k % 2 = 0 → pr b k ≤ pr b (k - 2)) ∧ (k % 2 = 1 → pr b (k - 2) ≤ pr b k) := by
  obtain ⟨n, rfl⟩ : ∃ n, k = n + 2 := ⟨k - 2, by omega⟩
  obtain ⟨h1, h2, _⟩ := (code_iff b).1 hc
  rw [show n + 2 - 2 = n by omega]
  refine ⟨fun h => ?_, fun h => ?_⟩
  · have p := (pr_bd hc n).1 (by omega)
    have := nxt_down (p := pr b n) h1 p.1
    simp only [pr, if_pos (show n % 2 = 0 by omega)]; omega
  · have p := (pr_bd hc n).2 (by omega)
    have := nxt_up (p := pr b n) h2 p.2
    simp only [pr, if_neg (show ¬ n % 2 = 0 by omega)]; omega

theorem next_pr {b : Bg} (hc : b.code = 0) {k : Nat} (hk : 2 ≤ k) : nextV (sta b k) (pr b (k - 2)) = pr b k ∧ nextC (sta b k) (pr b (k - 2)) = 0 := by
  obtain ⟨n, rfl⟩ : ∃ n, k = n + 2 := ⟨k - 2, by omega⟩
  rw [show n + 2 - 2 = n by omega, show sta b (n + 2) = sta b n by simp [sta]]
  have := pr_next hc n
  exact ⟨this.2.1, this.2.2.1⟩

theorem endN_pos {b : Bg} {med : Bool} (h : 1 ≤ b.o) : 0 < endN b med := by
  obtain ⟨i1, i2, i3⟩ := endN_spec b med (by omega)
  rcases Nat.eq_zero_or_pos (endN b med) with h0 | h0
  · rw [h0] at i3
    have : stop b med 0 = none := by
      unfold stop; rw [if_neg (by omega), if_neg (by omega), if_neg (by omega)]
    rw [this] at i3; simp at i3
  · exact h0

/-- A row of offers that is not empty: where it lies, and what is in it. -/
theorem row_at {w : World} {base : Nat} {v : Value} {b : Bg} {k : Nat} (h : w.ownsRow base 49 2 v k (offCells b k)) (hk : 0 < k) :
    ∃ g cap, v = .slice (some ⟨g, 0, none⟩) k cap ∧ g < w.heap.size ∧ k ≤ cap ∧ ∀ i, i < k → w.cell? ⟨g, i * 2, none⟩ = some (.int .u8 ((i % 2 : Nat) : Int)) ∧ w.cell? ⟨g, i * 2 + 1, none⟩ = some (.int .i64 (pr b i)) := by
  rcases h.2 with ⟨_, h0⟩ | ⟨g, cap, cur, rfl, _, hh, hc, _⟩
  · omega
  · refine ⟨g, cap, rfl, lt_some hh, hc, fun i hi => ?_⟩
    rw [h.cellAt _ (by omega), h.cellAt _ (by omega)]
    exact offCells_get b k i hi

set_option maxRecDepth 100000 in
set_option maxHeartbeats 4000000 in
theorem turns_walk (b : Bg) (w : World) :
    Calls Try.prog 5 #[b.v] w fun e w' => e = .returned (.bool true) ∧ Below w.heap.size w w' := by
  by_cases hc : b.code = 0
  · have HC := Lib.hid hc
    have hce : (b.code != 0) = false := by simpa using hc
    obtain ⟨_, _, _, _, h5, h6⟩ := (code_iff b).1 hc
    clear hc
    go_enter Try.func5, Try.ntmps5
    go_wp2_with fail
    refine (alive_any _).mono ?_
    rintro e w1 ⟨rfl, hb1⟩
    have hB1 := heap_ext (heap_new rfl) hb1
    have D1 := bcall ((Below.refl _ w).alloc (Nat.le_refl _) _) (by simp) hb1
    have cB1 := fun j => cell_of_row w1 _ j _ _ _ hB1
    go_wp2_with fail
    refine (check_ref b _).mono ?_
    rintro e w2 ⟨rfl, hb2⟩
    have hB2 := heap_ext hB1 hb2
    have D2 := bcall D1 D1.size hb2
    have cB2 := fun j => cell_of_row w2 _ j _ _ _ hB2
    clear hB1 cB1 D1 hb1 hb2
    go_wp2_with fail
    refine (Run_any b _).mono ?_
    rintro e w3 ⟨v3, he, hr3, hb3⟩
    simp only [Deal.v] at he
    rw [HC.out] at he
    rw [show lenC b false = endN b false by simp [lenC, HC.out]] at hr3
    obtain ⟨hNo, hNS, _⟩ := endN_spec b false (by omega)
    have hN0 := endN_pos (b := b) (med := false) h5
    have HNS := Lib.hid hNS
    clear hNS
    obtain ⟨g, cap, rfl, hg, hcap, cL⟩ := row_at hr3 hN0
    generalize endN b false = n at *
    subst he
    have hB3 := heap_ext hB2 hb3
    have D3 := bcall D2 D2.size hb3
    have cB3 := fun j => cell_of_row w3 _ j _ _ _ hB3
    have zB := lt_some hB3
    have zBn : ¬ w.heap.size = w3.heap.size := by omega
    clear hB2 cB2 D2 hb3 hr3 hB3
    go_wp2_with fail
    go_loopw [7] (fun i wr => ∃ k : Nat, k ≤ n ∧ i = .int .i64 k ∧ Below w3.heap.size w3 wr) (fun i _ => n - (intOf i).toNat)
    case atStart => exact ⟨0, by omega, rfl, (Below.refl _ _).alloc (Nat.le_refl _) _⟩
    case round =>
      obtain ⟨k, hk, rfl, hb⟩ := hrel
      by_cases hlt : k < n
      · by_cases hk2 : 2 ≤ k
        · by_cases hpar : (k : Int) % 2 = 0
          · have hpN : k % 2 = 0 := by omega
            have c0 : wr.cell? ⟨g, k * 2, none⟩ = some (.int .u8 0) := by have := (hb.cell (p := ⟨g, k * 2, none⟩) hg).trans (cL k hlt).1; rwa [hpN] at this
            have c1 : wr.cell? ⟨g, k * 2 + 1, none⟩ = some (.int .i64 (pr b k)) := (hb.cell (p := ⟨g, k * 2 + 1, none⟩) hg).trans (cL k hlt).2
            have c2 : wr.cell? ⟨g, (k - 1) * 2 + 1, none⟩ = some (.int .i64 (pr b (k - 1))) := (hb.cell (p := ⟨g, (k - 1) * 2 + 1, none⟩) hg).trans (cL (k - 1) (by omega)).2
            have c3 : wr.cell? ⟨g, (k - 2) * 2 + 1, none⟩ = some (.int .i64 (pr b (k - 2))) := (hb.cell (p := ⟨g, (k - 2) * 2 + 1, none⟩) hg).trans (cL (k - 2) (by omega)).2
            have hna : pr b (k - 1) < pr b k := (no_acc (by omega) (HNS.out k hlt)).2 hpN
            have hmo : pr b k ≤ pr b (k - 2) := (pr_mono HC.out (by omega)).1 hpN
            have HN := Lib.hid (next_pr HC.out (k := k) (by omega))
            rw [show sta b k = b.s by simp [sta, hpN]] at HN
            clear hpN
            have hgn : ¬ g = wr.heap.size := by have := hb.size; omega
            have hgw : g < wr.heap.size := by have := hb.size; omega
            have cB := fun j => (hb.cell (p := ⟨w.heap.size, j, none⟩) zB).trans (cB3 j)
            have zw : w.heap.size < wr.heap.size := by have := hb.size; omega
            have zn : ¬ w.heap.size = wr.heap.size := by omega
            clear cL cB3
            go_wp2_with fail
            refine wp_region_ext (by kernel_rfl) (by kernel_rfl) ?_
            repeat (first | go_big_quiet_step ((go_at_call 12; exact calls_ext (next_any b.s _ _))) | quiet_step ((go_at_call 12; exact calls_ext (next_any b.s _ _))))
            refine wpQuiet_nil ?_
            rintro w5 ⟨⟨_, hb5⟩, rfl⟩
            rw [HN.out.1, HN.out.2]
            have c0' := (hb5.cell (p := ⟨g, k * 2, none⟩) (by simp; omega)).trans ((((Below.refl wr.heap.size wr).alloc (Nat.le_refl _) _).cell (p := ⟨g, k * 2, none⟩) hgw).trans c0)
            have c1' := (hb5.cell (p := ⟨g, k * 2 + 1, none⟩) (by simp; omega)).trans ((((Below.refl wr.heap.size wr).alloc (Nat.le_refl _) _).cell (p := ⟨g, k * 2 + 1, none⟩) hgw).trans c1)
            have c2' := (hb5.cell (p := ⟨g, (k - 1) * 2 + 1, none⟩) (by simp; omega)).trans ((((Below.refl wr.heap.size wr).alloc (Nat.le_refl _) _).cell (p := ⟨g, (k - 1) * 2 + 1, none⟩) hgw).trans c2)
            have c3' := (hb5.cell (p := ⟨g, (k - 2) * 2 + 1, none⟩) (by simp; omega)).trans ((((Below.refl wr.heap.size wr).alloc (Nat.le_refl _) _).cell (p := ⟨g, (k - 2) * 2 + 1, none⟩) hgw).trans c3)
            have hb6 := bcall (bcall hb hb.size ((Below.refl wr.heap.size wr).alloc (Nat.le_refl _) _)) (by simp; have := hb.size; omega) hb5
            clear c0 c1 c2 c3 cB hb5 hb hgn hgw zw zn
            go_wp2_with fail
            go_roundw
            case rel => exact ⟨k + 1, by omega, by go_num, hb6⟩
            case measure => go_light; simp [intOf]; try omega
          · have hpar2 : (k : Int) % 2 = 1 := by omega
            clear hpar
            have hpN : k % 2 = 1 := by omega
            have c0 : wr.cell? ⟨g, k * 2, none⟩ = some (.int .u8 1) := by have := (hb.cell (p := ⟨g, k * 2, none⟩) hg).trans (cL k hlt).1; rwa [hpN] at this
            have c1 : wr.cell? ⟨g, k * 2 + 1, none⟩ = some (.int .i64 (pr b k)) := (hb.cell (p := ⟨g, k * 2 + 1, none⟩) hg).trans (cL k hlt).2
            have c2 : wr.cell? ⟨g, (k - 1) * 2 + 1, none⟩ = some (.int .i64 (pr b (k - 1))) := (hb.cell (p := ⟨g, (k - 1) * 2 + 1, none⟩) hg).trans (cL (k - 1) (by omega)).2
            have c3 : wr.cell? ⟨g, (k - 2) * 2 + 1, none⟩ = some (.int .i64 (pr b (k - 2))) := (hb.cell (p := ⟨g, (k - 2) * 2 + 1, none⟩) hg).trans (cL (k - 2) (by omega)).2
            have hna : pr b k < pr b (k - 1) := (no_acc (by omega) (HNS.out k hlt)).1 hpN
            have hmo : pr b (k - 2) ≤ pr b k := (pr_mono HC.out (by omega)).2 hpN
            have HN := Lib.hid (next_pr HC.out (k := k) (by omega))
            rw [show sta b k = b.b by simp [sta, hpN]] at HN
            clear hpN
            have hgn : ¬ g = wr.heap.size := by have := hb.size; omega
            have hgw : g < wr.heap.size := by have := hb.size; omega
            have cB := fun j => (hb.cell (p := ⟨w.heap.size, j, none⟩) zB).trans (cB3 j)
            have zw : w.heap.size < wr.heap.size := by have := hb.size; omega
            have zn : ¬ w.heap.size = wr.heap.size := by omega
            clear cL cB3
            go_wp2_with fail
            refine wp_region_ext (by kernel_rfl) (by kernel_rfl) ?_
            repeat (first | go_big_quiet_step ((go_at_call 12; exact calls_ext (next_any b.b _ _))) | quiet_step ((go_at_call 12; exact calls_ext (next_any b.b _ _))))
            refine wpQuiet_nil ?_
            rintro w5 ⟨⟨_, hb5⟩, rfl⟩
            rw [HN.out.1, HN.out.2]
            have c0' := (hb5.cell (p := ⟨g, k * 2, none⟩) (by simp; omega)).trans ((((Below.refl wr.heap.size wr).alloc (Nat.le_refl _) _).cell (p := ⟨g, k * 2, none⟩) hgw).trans c0)
            have c1' := (hb5.cell (p := ⟨g, k * 2 + 1, none⟩) (by simp; omega)).trans ((((Below.refl wr.heap.size wr).alloc (Nat.le_refl _) _).cell (p := ⟨g, k * 2 + 1, none⟩) hgw).trans c1)
            have c2' := (hb5.cell (p := ⟨g, (k - 1) * 2 + 1, none⟩) (by simp; omega)).trans ((((Below.refl wr.heap.size wr).alloc (Nat.le_refl _) _).cell (p := ⟨g, (k - 1) * 2 + 1, none⟩) hgw).trans c2)
            have c3' := (hb5.cell (p := ⟨g, (k - 2) * 2 + 1, none⟩) (by simp; omega)).trans ((((Below.refl wr.heap.size wr).alloc (Nat.le_refl _) _).cell (p := ⟨g, (k - 2) * 2 + 1, none⟩) hgw).trans c3)
            have hb6 := bcall (bcall hb hb.size ((Below.refl wr.heap.size wr).alloc (Nat.le_refl _) _)) (by simp; have := hb.size; omega) hb5
            clear c0 c1 c2 c3 cB hb5 hb hgn hgw zw zn
            go_wp2_with fail
            go_roundw
            case rel => exact ⟨k + 1, by omega, by go_num, hb6⟩
            case measure => go_light; simp [intOf]; try omega
        · by_cases hk0 : k = 0
          · subst hk0
            clear hk2
            have c0 : wr.cell? ⟨g, 0, none⟩ = some (.int .u8 0) := by have := (hb.cell (p := ⟨g, 0 * 2, none⟩) hg).trans (cL 0 hlt).1; simpa using this
            have c1 : wr.cell? ⟨g, 1, none⟩ = some (.int .i64 b.s.f) := by have := (hb.cell (p := ⟨g, 0 * 2 + 1, none⟩) hg).trans (cL 0 hlt).2; simpa [pr] using this
            have hgn : ¬ g = wr.heap.size := by have := hb.size; omega
            have hgw : g < wr.heap.size := by have := hb.size; omega
            have cB := fun j => (hb.cell (p := ⟨w.heap.size, j, none⟩) zB).trans (cB3 j)
            have zw : w.heap.size < wr.heap.size := by have := hb.size; omega
            have zn : ¬ w.heap.size = wr.heap.size := by omega
            clear cL cB3
            go_wp2_with fail
            go_roundw
            case rel => exact ⟨0 + 1, by omega, by go_num, hb.alloc hb.size _⟩
            case measure => go_light; simp [intOf]; try omega
          · obtain rfl : k = 1 := by omega
            clear hk2 hk0
            have c0 : wr.cell? ⟨g, 2, none⟩ = some (.int .u8 1) := by have := (hb.cell (p := ⟨g, 1 * 2, none⟩) hg).trans (cL 1 hlt).1; simpa using this
            have c1 : wr.cell? ⟨g, 3, none⟩ = some (.int .i64 b.b.f) := by have := (hb.cell (p := ⟨g, 1 * 2 + 1, none⟩) hg).trans (cL 1 hlt).2; simpa [pr] using this
            have c2 : wr.cell? ⟨g, 1, none⟩ = some (.int .i64 b.s.f) := by have := (hb.cell (p := ⟨g, 0 * 2 + 1, none⟩) hg).trans (cL 0 (by omega)).2; simpa [pr] using this
            have hna : b.b.f < b.s.f := (no_acc (by omega) (HNS.out 1 hlt)).1 rfl
            have hgn : ¬ g = wr.heap.size := by have := hb.size; omega
            have hgw : g < wr.heap.size := by have := hb.size; omega
            have cB := fun j => (hb.cell (p := ⟨w.heap.size, j, none⟩) zB).trans (cB3 j)
            have zw : w.heap.size < wr.heap.size := by have := hb.size; omega
            have zn : ¬ w.heap.size = wr.heap.size := by omega
            clear cL cB3
            go_wp2_with fail
            go_roundw
            case rel => exact ⟨1 + 1, by omega, by go_num, hb.alloc hb.size _⟩
            case measure => go_light; simp [intOf]; try omega
      · go_wp2_with fail
        go_ret
        exact ⟨rfl, bcall D3 D3.size hb⟩
  · have HC := Lib.hid hc
    have hce : (b.code != 0) = true := by simpa using hc
    clear hc
    go_enter Try.func5, Try.ntmps5
    go_wp2_with fail
    refine (alive_any _).mono ?_
    rintro e w1 ⟨rfl, hb1⟩
    have hB1 := heap_ext (heap_new rfl) hb1
    have D1 := bcall ((Below.refl _ w).alloc (Nat.le_refl _) _) (by simp) hb1
    have cB1 := fun j => cell_of_row w1 _ j _ _ _ hB1
    go_wp2_with fail
    refine (check_ref b _).mono ?_
    rintro e w2 ⟨rfl, hb2⟩
    have D2 := bcall D1 D1.size hb2
    go_wp2_with fail
    go_ret
    exact ⟨rfl, D2⟩

end Go.Proofs.Ytigphmocjgojhaa
