/- The loop that makes the offers of a bargain, walked: without a mediator. -/
import Derived.Test.YtigphmocjgojhaaRunC
namespace Go.Proofs.Ytigphmocjgojhaa
open Go.RowKit
set_option linter.unusedVariables false
set_option linter.unusedSimpArgs false

set_option maxRecDepth 100000 in
set_option maxHeartbeats 4000000 in
theorem run_none (b : Bg) (w : World) (hc : b.code = 0) :
    Calls Try.prog 27 #[b.v, fvNone b] w (RunPost b false w) := by
  obtain ⟨h1, h2, h3, h4, h5, h6⟩ := (code_iff b).1 hc
  have HC := Lib.hid hc
  clear hc h1 h2 h3 h4
  obtain ⟨i0, hi, hz0, hz1, hz2⟩ := info_parts info49
  go_enter Try.func27, Try.ntmps27
  go_wp2_with fail
  go_loopw [7, 31] (fun v i wr => ∃ k : Nat, (k : Int) ≤ b.o ∧ i = .int .i64 k ∧ (∀ j, j < k → stop b false j = none) ∧ RunW b w.heap.size (pr b (k + k % 2)) (pr b (k + 1 - k % 2)) k v w wr) (fun _ i _ => (b.o + 1 - intOf i).toNat)
  case atStart => exact ⟨0, by omega, rfl, fun j hj => by omega, start_w b w⟩
  case round =>
    obtain ⟨k, hk, rfl, hns, hW⟩ := hrel
    have HNS := Lib.hid hns
    clear hns
    by_cases hk0 : k = 0
    · have hv := hW.nil.2 hk0
      subst hv hk0
      rw [show 0 + 0 % 2 = 0 from rfl, show 0 + 1 - 0 % 2 = 0 + 1 from rfl] at hW
      obtain ⟨z, cO, cR, fR, cA0, cA1, cP0, cP1, fP0, fP1⟩ := hW.facts
      · have hko : ¬ ((0 : Nat) : Int) = b.o := by omega
        have hkb : ((0 : Int) == b.o) = false := by simp; omega
        have hko2 : (0 : Int) < b.o := by omega
        have HS := Lib.hid (stop_not (b := b) (k := 0) (med := false) (by simp) hko (fun h => by omega))
        clear hko
        go_wp2_with (first | (go_at_call 33; refine (offer_any (w.heap.size + 1 + 1) 0 (pr b 0) b.s _ (by omega) (cP0 0) (cP0 1) (cP0 2) (cP0 3) (cP0 4) (cP0 5) fP0).mono ?_; rintro e w2 ⟨rfl, hb2⟩; have hW2 := hW.offer0 hb2) | (at_builtin; refine wpList_append_own _ rfl (.tmp 98) (.tmp 101) 38 rfl (w.heap.size + 1 + 1 + 1 + 1 + 1) 49 i0 (.agg #[.int .u8 0, .int .i64 0]) 2 16 Try.underlying38 hi hz0 hz1 hz2 rfl (by decide) _ _ _ rfl (hW2.row.alloc _) ⟨w2.heap.size, 0, none⟩ 1 1 [.int .u8 0, .int .i64 (pr b 0)] rfl rfl ?czero1 ?czero2 ?czero3 ?czero4 ?czero5 ?_))
        case czero1 => exact two_new _ _ _ _
        case czero2 => intro u hu; simp at hu; rcases hu with rfl | rfl <;> rfl
        case czero3 => unfold maxLen; omega
        case czero4 => omega
        case czero5 => have := lt_some hW2.ar; simp; omega
        intro v' w3 hown' hgrow hnil
        have hW3 := step_even HC.out (by omega) hW2 hown' hgrow (by simpa using hnil)
        clear hW2 hown' hgrow hnil
        go_wp2
        go_roundw
        case rel => exact ⟨0 + 1, by omega, by go_num, ns_step HNS.out HS.out, hW3⟩
        case measure => go_light; simp [intOf]; omega
    · obtain ⟨g, cap, rfl, hg, hcap, cL⟩ := hW.offer_at (by omega)
      have hkp : 0 < (k : Int) := by omega
      have cL1 := cL (k - 1) (by omega)
      have cL2 : k % 2 = 0 → wr.cell? ⟨g, (k - 2) * 2 + 1, none⟩ = some (.int .i64 (pr b (k - 2))) := fun h => cL (k - 2) (by omega)
      clear cL
      by_cases hpar : (k : Int) % 2 = 0
      · rw [show k + k % 2 = k from by omega, show k + 1 - k % 2 = k + 1 from by omega] at hW
        have cL3 := cL2 (by omega)
        clear cL2 hk0
        obtain ⟨z, cO, cR, fR, cA0, cA1, cP0, cP1, fP0, fP1⟩ := hW.facts
        go_wp2_with fail
        refine wp_region_ext (by kernel_rfl) (by kernel_rfl) ?_
        repeat (first | go_big_quiet_step ((go_at_call 28; exact calls_ext (none_any b _ _ _))) | quiet_step ((go_at_call 28; exact calls_ext (none_any b _ _ _))))
        refine wpQuiet_nil ?_
        rintro w1 ⟨⟨_, hb1⟩, rfl⟩
        have hW1 := hW.ext hb1
        have cL4 := (hb1.cell (p := ⟨g, (k - 1) * 2 + 1, none⟩) hg).trans cL1
        have hg1 : g < w1.heap.size := Nat.lt_of_lt_of_le hg hb1.size
        clear hW z cO cR fR cA0 cA1 cP0 cP1 fP0 fP1 cL1 cL3 hb1 hg
        obtain ⟨z, cO, cR, fR, cA0, cA1, cP0, cP1, fP0, fP1⟩ := hW1.facts
        by_cases hko : (k : Int) = b.o
        · have HS := Lib.hid (stop_end (med := false) (by simp) hko)
          have hkb : ((k : Int) == b.o) = true := by simpa using hko
          clear hko
          go_wp2_with fail
          exact bodyPost_ret (v := .tuple #[.slice (some ⟨g, 0, none⟩) k cap, .agg #[.bool false, .int .i64 0, .int .i64 0, .int .u8 0]]) (by simp [results, Try.results27, go_sem, cR]) rfl (fin_some (d := ⟨false, 0, 0, 0⟩) hk HNS.out HS.out (hW1.res _ _ _ _).1 (by omega) (hW1.res _ _ _ _).2)
        · have hkb : ((k : Int) == b.o) = false := by simpa using hko
          have hko2 : (k : Int) < b.o := by omega
          have HA := Lib.hid (show accB 0 (pr b (k - 1)) (pr b k) = accAt b k by simp [accB, accAt, show k % 2 = 0 by omega])
          have cA : w1.cell? ⟨w.heap.size + 1 + 1, 5, none⟩ = some (.int .i64 (pr b k)) := cP0 5
          have cB : w1.cell? ⟨w.heap.size + 1 + 1, 0, none⟩ = some (.int .u8 0) := cP0 0
          by_cases hac : accB 0 (pr b (k - 1)) (pr b k) = true
          · have HS := Lib.hid (stop_acc (med := false) (by simp) hko (by omega) (by rw [← HA.out]; exact hac))
            clear hko
            go_wp2_with (go_at_call 32; refine (accepts_any _ _ _ _ _ cB cA).mono ?_; rintro e w' ⟨rfl, rfl⟩; rw [hac])
            go_region
            go_wp2_with fail
            exact bodyPost_ret (v := .tuple #[.slice (some ⟨g, 0, none⟩) k cap, .agg #[.bool true, .int .i64 (pr b (k - 1)), .int .i64 k, .int .u8 0]]) (by simp [results, Try.results27, go_sem, cR]) rfl (fin_some (d := ⟨true, pr b (k - 1), k, 0⟩) hk HNS.out (by rw [HS.out, show k % 2 = 0 by omega]; rfl) (hW1.res _ _ _ _).1.drew (by omega) (hW1.res _ _ _ _).2.drew)
          · have HS := Lib.hid (stop_not (med := false) (by simp) hko (fun h => hac (by rw [HA.out]; exact h.2)))
            clear hko
            go_wp2_with (first | (go_at_call 32; refine (accepts_any _ _ _ _ _ cB cA).mono ?_; rintro e w' ⟨rfl, rfl⟩; rw [Bool.eq_false_iff.2 hac]) | (go_at_call 33; refine (offer_any (w.heap.size + 1 + 1) 0 (pr b k) b.s _ (by omega) (cP0 0) (cP0 1) (cP0 2) (cP0 3) (cP0 4) (cP0 5) fP0).mono ?_; rintro e w2 ⟨rfl, hb2⟩; have hW2 := hW1.offer0 hb2) | (at_builtin; refine wpList_append_own _ rfl (.tmp 98) (.tmp 101) 38 rfl (w.heap.size + 1 + 1 + 1 + 1 + 1) 49 i0 (.agg #[.int .u8 0, .int .i64 0]) 2 16 Try.underlying38 hi hz0 hz1 hz2 rfl (by decide) _ _ _ rfl (hW2.row.alloc _) ⟨w2.heap.size, 0, none⟩ 1 1 [.int .u8 0, .int .i64 (pr b k)] rfl rfl ?ceven1 ?ceven2 ?ceven3 ?ceven4 ?ceven5 ?_))
            case ceven1 => exact two_new _ _ _ _
            case ceven2 => intro u hu; simp at hu; rcases hu with rfl | rfl <;> rfl
            case ceven3 => unfold maxLen; omega
            case ceven4 => omega
            case ceven5 => have := lt_some hW2.ar; simp; omega
            intro v' w3 hown' hgrow hnil
            have hW3 := step_even HC.out (by omega) hW2 hown' hgrow (by simpa using hnil)
            clear hW2 hown' hgrow hnil
            go_wp2
            go_roundw
            case rel => exact ⟨k + 1, by omega, by go_num, ns_step HNS.out HS.out, hW3⟩
            case measure => go_light; simp [intOf]; omega
      · rw [show k + k % 2 = k + 1 from by omega, show k + 1 - k % 2 = k from by omega] at hW
        have hpar2 : (k : Int) % 2 = 1 := by omega
        clear cL2 hk0 hpar
        obtain ⟨z, cO, cR, fR, cA0, cA1, cP0, cP1, fP0, fP1⟩ := hW.facts
        by_cases hko : (k : Int) = b.o
        · have HS := Lib.hid (stop_end (med := false) (by simp) hko)
          have hkb : ((k : Int) == b.o) = true := by simpa using hko
          clear hko
          go_wp2_with fail
          exact bodyPost_ret (v := .tuple #[.slice (some ⟨g, 0, none⟩) k cap, .agg #[.bool false, .int .i64 0, .int .i64 0, .int .u8 0]]) (by simp [results, Try.results27, go_sem, cR]) rfl (fin_some (d := ⟨false, 0, 0, 0⟩) hk HNS.out HS.out (hW.res _ _ _ _).1 (by omega) (hW.res _ _ _ _).2)
        · have hkb : ((k : Int) == b.o) = false := by simpa using hko
          have hko2 : (k : Int) < b.o := by omega
          have HA := Lib.hid (show accB 1 (pr b (k - 1)) (pr b k) = accAt b k by simp [accB, accAt, show k % 2 = 1 by omega])
          have cA : wr.cell? ⟨w.heap.size + 1 + 1 + 1, 5, none⟩ = some (.int .i64 (pr b k)) := cP1 5
          have cB : wr.cell? ⟨w.heap.size + 1 + 1 + 1, 0, none⟩ = some (.int .u8 1) := cP1 0
          by_cases hac : accB 1 (pr b (k - 1)) (pr b k) = true
          · have HS := Lib.hid (stop_acc (med := false) (by simp) hko (by omega) (by rw [← HA.out]; exact hac))
            clear hko
            go_wp2_with (go_at_call 32; refine (accepts_any _ _ _ _ _ cB cA).mono ?_; rintro e w' ⟨rfl, rfl⟩; rw [hac])
            go_region
            go_wp2_with fail
            exact bodyPost_ret (v := .tuple #[.slice (some ⟨g, 0, none⟩) k cap, .agg #[.bool true, .int .i64 (pr b (k - 1)), .int .i64 k, .int .u8 1]]) (by simp [results, Try.results27, go_sem, cR]) rfl (fin_some (d := ⟨true, pr b (k - 1), k, 1⟩) hk HNS.out (by rw [HS.out, show k % 2 = 1 by omega]; rfl) (hW.res _ _ _ _).1.drew (by omega) (hW.res _ _ _ _).2.drew)
          · have HS := Lib.hid (stop_not (med := false) (by simp) hko (fun h => hac (by rw [HA.out]; exact h.2)))
            clear hko
            go_wp2_with (first | (go_at_call 32; refine (accepts_any _ _ _ _ _ cB cA).mono ?_; rintro e w' ⟨rfl, rfl⟩; rw [Bool.eq_false_iff.2 hac]) | (go_at_call 33; refine (offer_any (w.heap.size + 1 + 1 + 1) 1 (pr b k) b.b _ (by omega) (cP1 0) (cP1 1) (cP1 2) (cP1 3) (cP1 4) (cP1 5) fP1).mono ?_; rintro e w2 ⟨rfl, hb2⟩; have hW2 := hW.offer1 hb2) | (at_builtin; refine wpList_append_own _ rfl (.tmp 98) (.tmp 101) 38 rfl (w.heap.size + 1 + 1 + 1 + 1 + 1) 49 i0 (.agg #[.int .u8 0, .int .i64 0]) 2 16 Try.underlying38 hi hz0 hz1 hz2 rfl (by decide) _ _ _ rfl (hW2.row.alloc _) ⟨w2.heap.size, 0, none⟩ 1 1 [.int .u8 1, .int .i64 (pr b k)] rfl rfl ?codd1 ?codd2 ?codd3 ?codd4 ?codd5 ?_))
            case codd1 => exact two_new _ _ _ _
            case codd2 => intro u hu; simp at hu; rcases hu with rfl | rfl <;> rfl
            case codd3 => unfold maxLen; omega
            case codd4 => omega
            case codd5 => have := lt_some hW2.ar; simp; omega
            intro v' w3 hown' hgrow hnil
            have hW3 := step_odd HC.out (by omega) hW2 hown' hgrow (by simpa using hnil)
            clear hW2 hown' hgrow hnil
            go_wp2
            go_roundw
            case rel => exact ⟨k + 1, by omega, by go_num, ns_step HNS.out HS.out, hW3⟩
            case measure => go_light; simp [intOf]; omega

end Go.Proofs.Ytigphmocjgojhaa
