/- The reference's loop, walked: without a mediator. -/
import Derived.Test.YtigphmocjgojhaaRefA
namespace Go.Proofs.Ytigphmocjgojhaa
open Go.RowKit
set_option linter.unusedVariables false
set_option linter.unusedSimpArgs false

set_option maxRecDepth 100000 in
set_option maxHeartbeats 4000000 in
theorem refrun_plain (b : Bg) (w : World) (hc : b.code = 0) :
    Calls Try.prog 29 #[b.v, .bool false] w (RunPost b false w) := by
  obtain ⟨h1, h2, h3, h4, h5, h6⟩ := (code_iff b).1 hc
  have HC := Lib.hid hc
  have HOS := Lib.hid h1
  have HOB := Lib.hid h2
  clear hc h1 h2 h3 h4
  obtain ⟨i0, hi, hz0, hz1, hz2⟩ := info_parts info49
  go_enter Try.func29, Try.ntmps29
  go_wp2_with fail
  go_loopw [6] (fun v wr => ∃ k : Nat, (k : Int) ≤ b.o ∧ (∀ j, j < k → stop b false j = none) ∧ RefW b w.heap.size k v w wr) (fun v _ => b.o.toNat + 1 - lenOf v)
  case atStart => exact ⟨0, by omega, fun j hj => by omega, startref b w⟩
  case round =>
    obtain ⟨k, hk, hns, hW⟩ := hrel
    have HNS := Lib.hid hns
    clear hns
    by_cases hk0 : k = 0
    · have hv := hW.nil.2 hk0
      subst hv hk0
      obtain ⟨⟨z0, z, zn, zm⟩, cX, cR, fR⟩ := hW.facts
      · have hko : ¬ ((0 : Nat) : Int) = b.o := by omega
        have hkb : ((0 : Int) == b.o) = false := by simp; omega
        have hko2 : (0 : Int) < b.o := by omega
        have hW1 := hW.ext ((Below.refl _ _).alloc (Nat.le_refl _) (.cells #[.int .i64 b.s.f, .int .i64 b.s.l, .int .i64 b.s.n, .int .i64 b.s.d] 23))
        have HS := Lib.hid (stop_not (b := b) (k := 0) (med := false) (by simp) hko (fun h => by omega))
        clear hko
        go_wp2_with (first | (at_builtin; refine wpList_append_own _ rfl (.tmp 119) (.tmp 123) 38 rfl (w.heap.size + 1 + 1) 49 i0 (.agg #[.int .u8 0, .int .i64 0]) 2 16 Try.underlying38 hi hz0 hz1 hz2 rfl (by decide) _ _ _ rfl (hW1.row.alloc _) ⟨wr.heap.size + 1, 0, none⟩ 1 1 [.int .u8 0, .int .i64 b.s.f] rfl rfl ?czero1 ?czero2 ?czero3 ?czero4 ?czero5 ?_))
        case czero1 => exact two_new' (by simp) _ _ _
        case czero2 => intro u hu; simp at hu; rcases hu with rfl | rfl <;> rfl
        case czero3 => unfold maxLen; omega
        case czero4 => omega
        case czero5 => have := lt_some hW1.rs; simp; (try simp at this); omega
        intro v' w3 hown' hgrow hnil
        have hW3 := hW1.append (k := 0) (x := 0) (by omega) hown' hgrow (by simpa using hnil)
        clear hW hW1 hown' hgrow hnil
        obtain ⟨g', cap', rfl, _⟩ := hW3.offer_at (by omega)
        go_wp2
        go_roundw
        case rel => exact ⟨0 + 1, by omega, ns_step HNS.out HS.out, hW3⟩
        case measure => go_light; simp [lenOf]; try omega
    · obtain ⟨g, cap, rfl, hg, hcap, cL⟩ := hW.offer_at (by omega)
      have hkp : 0 < (k : Int) := by omega
      have hlen : (k : Int) ≤ 1000 := by omega
      have cL1 := cL (k - 1) (by omega)
      have cL2 : 2 ≤ k → wr.cell? ⟨g, (k - 2) * 2 + 1, none⟩ = some (.int .i64 (pr b (k - 2))) := fun h => cL (k - 2) (by omega)
      clear cL
      obtain ⟨r1, r2⟩ := pr_rng HC.out (k - 1)
      obtain ⟨r3, r4⟩ := pr_rng HC.out (k - 2)
      obtain ⟨⟨z0, z, zn, zm⟩, cX, cR, fR⟩ := hW.facts
      by_cases hpar : (k : Int) % 2 = 0
      · have cL3 := cL2 (by omega)
        have hk2 : 2 ≤ (k : Int) := by omega
        clear cL2 hk0
        have cL2 := cL3
        clear cL3
        by_cases hko : (k : Int) = b.o
        · have HS := Lib.hid (stop_end (med := false) (by simp) hko)
          have hkb : ((k : Int) == b.o) = true := by simpa using hko
          clear hko
          go_wp2_with fail
          exact bodyPost_ret (v := .tuple #[.slice (some ⟨g, 0, none⟩) k cap, .agg #[.bool false, .int .i64 0, .int .i64 0, .int .u8 0]]) (by simp [results, Try.results29, go_sem, cR]) rfl (fin_some (d := ⟨false, 0, 0, 0⟩) hk HNS.out HS.out ((hW.res _ _ _ _).1) (by omega) ((hW.res _ _ _ _).2))
        · have hkb : ((k : Int) == b.o) = false := by simpa using hko
          have hko2 : (k : Int) < b.o := by omega
          have hW1 := hW.ext ((Below.refl _ _).alloc (Nat.le_refl _) (.cells #[.int .i64 b.s.f, .int .i64 b.s.l, .int .i64 b.s.n, .int .i64 b.s.d] 23))
          have HP := Lib.hid (show nxt b.s (pr b (k - 2)) = pr b k by have := nxt_pr (b := b) (k := k) (by omega); rwa [show sta b k = b.s by simp [sta, show k % 2 = 0 by omega]] at this)
          go_wp2_with fail
          refine wp_region_ext (by kernel_rfl) (by kernel_rfl) ?_
          repeat (first | go_big_quiet_step ((go_at_call 26; exact calls_ext (refnext_any b.s _ _ HOS.out (pr_rng HC.out _).1 (pr_rng HC.out _).2))) | quiet_step ((go_at_call 26; exact calls_ext (refnext_any b.s _ _ HOS.out (pr_rng HC.out _).1 (pr_rng HC.out _).2))))
          refine wpQuiet_nil ?_
          rintro w1 ⟨⟨_, hb1⟩, rfl⟩
          rw [HP.out]
          have hW2 := hW1.ext hb1
          have cL5 := (hb1.cell (p := ⟨g, (k - 1) * 2 + 1, none⟩) (by simp; omega)).trans ((((Below.refl _ _).alloc (Nat.le_refl _) _).cell (p := ⟨g, (k - 1) * 2 + 1, none⟩) hg).trans cL1)
          have hg1 : g < w1.heap.size := Nat.lt_of_lt_of_le hg (by have := hb1.size; simp at this; omega)
          clear hW hW1 z0 z zn zm cX cR fR cL1 cL2 hb1
          obtain ⟨⟨z0, z, zn, zm⟩, cX, cR, fR⟩ := hW2.facts
          by_cases hac : pr b k ≤ pr b (k - 1)
          · have HA := Lib.hid (show accAt b k = true by simp only [accAt, show k % 2 = 0 by omega]; simpa using hac)
            have HS := Lib.hid (stop_acc (med := false) (by simp) hko (by omega) HA.out)
            clear hko
            go_wp2_with fail
            go_region
            go_wp2_with fail
            exact bodyPost_ret (v := .tuple #[.slice (some ⟨g, 0, none⟩) k cap, .agg #[.bool true, .int .i64 (pr b (k - 1)), .int .i64 k, .int .u8 0]]) (by simp [results, Try.results29, go_sem, cR]) rfl (fin_some (d := ⟨true, pr b (k - 1), k, 0⟩) hk HNS.out (by rw [HS.out, show k % 2 = 0 by omega]; rfl) (hW2.res _ _ _ _).1.drew (by omega) (hW2.res _ _ _ _).2.drew)
          · have hac2 : pr b (k - 1) < pr b k := by omega
            have HA := Lib.hid (show ¬ accAt b k = true by simp only [accAt, show k % 2 = 0 by omega]; simpa using hac)
            have HS := Lib.hid (stop_not (med := false) (by simp) hko (fun h => HA.out h.2))
            clear hac
            clear hko
            go_wp2_with (first | (at_builtin; refine wpList_append_own _ rfl (.tmp 119) (.tmp 123) 38 rfl (w.heap.size + 1 + 1) 49 i0 (.agg #[.int .u8 0, .int .i64 0]) 2 16 Try.underlying38 hi hz0 hz1 hz2 rfl (by decide) _ _ _ rfl (hW2.row.alloc _) ⟨w1.heap.size, 0, none⟩ 1 1 [.int .u8 0, .int .i64 (pr b k)] rfl rfl ?ceven1 ?ceven2 ?ceven3 ?ceven4 ?ceven5 ?_))
            case ceven1 => exact two_new' (by simp) _ _ _
            case ceven2 => intro u hu; simp at hu; rcases hu with rfl | rfl <;> rfl
            case ceven3 => unfold maxLen; omega
            case ceven4 => omega
            case ceven5 => have := lt_some hW2.rs; simp; (try simp at this); omega
            intro v' w3 hown' hgrow hnil
            have hW3 := hW2.append (k := k) (x := 0) (by omega) hown' hgrow (by simpa using hnil)
            clear hW2 hown' hgrow hnil
            obtain ⟨g', cap', rfl, _⟩ := hW3.offer_at (by omega)
            go_wp2
            go_roundw
            case rel => exact ⟨k + 1, by omega, ns_step HNS.out HS.out, hW3⟩
            case measure => go_light; simp [lenOf]; try omega
      · have hpar2 : (k : Int) % 2 = 1 := by omega
        clear hpar hk0
        by_cases hk1 : k = 1
        · have hk2 : (k : Int) < 2 := by omega
          have HK1 := Lib.hid hk1
          have hgn : ¬ g = wr.heap.size := by omega
          clear hk1 cL2
          by_cases hko : (k : Int) = b.o
          · have HS := Lib.hid (stop_end (med := false) (by simp) hko)
            have hkb : ((k : Int) == b.o) = true := by simpa using hko
            clear hko
            go_wp2_with fail
            exact bodyPost_ret (v := .tuple #[.slice (some ⟨g, 0, none⟩) k cap, .agg #[.bool false, .int .i64 0, .int .i64 0, .int .u8 0]]) (by simp [results, Try.results29, go_sem, cR]) rfl (fin_some (d := ⟨false, 0, 0, 0⟩) hk HNS.out HS.out ((hW.res _ _ _ _).1) (by omega) ((hW.res _ _ _ _).2))
          · have hkb : ((k : Int) == b.o) = false := by simpa using hko
            have hko2 : (k : Int) < b.o := by omega
            have hW1 := hW.ext ((Below.refl _ _).alloc (Nat.le_refl _) (.cells #[.int .i64 b.b.f, .int .i64 b.b.l, .int .i64 b.b.n, .int .i64 b.b.d] 23))
            have cL5 := (((Below.refl _ _).alloc (Nat.le_refl _) (.cells #[.int .i64 b.b.f, .int .i64 b.b.l, .int .i64 b.b.n, .int .i64 b.b.d] 23)).cell (p := ⟨g, (k - 1) * 2 + 1, none⟩) hg).trans cL1
            have HP := Lib.hid (show b.b.f = pr b k by rw [HK1.out]; rfl)
            by_cases hac : pr b (k - 1) ≤ b.b.f
            · have HA := Lib.hid (show accAt b k = true by simp only [accAt, show k % 2 = 1 by omega]; simpa [← HP.out] using hac)
              have HS := Lib.hid (stop_acc (med := false) (by simp) hko (by omega) HA.out)
              clear hko
              go_wp2_with fail
              go_region
              go_wp2_with fail
              exact bodyPost_ret (v := .tuple #[.slice (some ⟨g, 0, none⟩) k cap, .agg #[.bool true, .int .i64 (pr b (k - 1)), .int .i64 k, .int .u8 1]]) (by simp [results, Try.results29, go_sem, cR, z, zm]) rfl (fin_some (d := ⟨true, pr b (k - 1), k, 1⟩) hk HNS.out (by rw [HS.out, show k % 2 = 1 by omega]; rfl) ((hW.res _ _ _ _).1.alloc _).drew (by omega) ((hW.res _ _ _ _).2.alloc (by simp; omega) _).drew)
            · have hac2 : b.b.f < pr b (k - 1) := by omega
              have HA := Lib.hid (show ¬ accAt b k = true by simp only [accAt, show k % 2 = 1 by omega]; simpa [← HP.out] using hac)
              have HS := Lib.hid (stop_not (med := false) (by simp) hko (fun h => HA.out h.2))
              clear hac
              clear hko
              go_wp2_with (first | (at_builtin; refine wpList_append_own _ rfl (.tmp 119) (.tmp 123) 38 rfl (w.heap.size + 1 + 1) 49 i0 (.agg #[.int .u8 0, .int .i64 0]) 2 16 Try.underlying38 hi hz0 hz1 hz2 rfl (by decide) _ _ _ rfl (hW1.row.alloc _) ⟨wr.heap.size + 1, 0, none⟩ 1 1 [.int .u8 1, .int .i64 b.b.f] rfl rfl ?cone1 ?cone2 ?cone3 ?cone4 ?cone5 ?_))
              case cone1 => exact two_new' (by simp) _ _ _
              case cone2 => intro u hu; simp at hu; rcases hu with rfl | rfl <;> rfl
              case cone3 => unfold maxLen; omega
              case cone4 => omega
              case cone5 => have := lt_some hW1.rs; simp; (try simp at this); omega
              intro v' w3 hown' hgrow hnil
              rw [HP.out] at hown'
              have hW3 := hW1.append (k := k) (x := 1) (by omega) hown' hgrow (by simpa using hnil)
              clear hW hW1 hown' hgrow hnil
              obtain ⟨g', cap', rfl, _⟩ := hW3.offer_at (by omega)
              go_wp2
              go_roundw
              case rel => exact ⟨k + 1, by omega, ns_step HNS.out HS.out, hW3⟩
              case measure => go_light; simp [lenOf]; try omega
        · have hk2 : 2 ≤ (k : Int) := by omega
          have cL3 := cL2 (by omega)
          clear cL2 hk1
          have cL2 := cL3
          clear cL3
          by_cases hko : (k : Int) = b.o
          · have HS := Lib.hid (stop_end (med := false) (by simp) hko)
            have hkb : ((k : Int) == b.o) = true := by simpa using hko
            clear hko
            go_wp2_with fail
            exact bodyPost_ret (v := .tuple #[.slice (some ⟨g, 0, none⟩) k cap, .agg #[.bool false, .int .i64 0, .int .i64 0, .int .u8 0]]) (by simp [results, Try.results29, go_sem, cR]) rfl (fin_some (d := ⟨false, 0, 0, 0⟩) hk HNS.out HS.out ((hW.res _ _ _ _).1) (by omega) ((hW.res _ _ _ _).2))
          · have hkb : ((k : Int) == b.o) = false := by simpa using hko
            have hko2 : (k : Int) < b.o := by omega
            have hW1 := hW.ext ((Below.refl _ _).alloc (Nat.le_refl _) (.cells #[.int .i64 b.b.f, .int .i64 b.b.l, .int .i64 b.b.n, .int .i64 b.b.d] 23))
            have HP := Lib.hid (show nxt b.b (pr b (k - 2)) = pr b k by have := nxt_pr (b := b) (k := k) (by omega); rwa [show sta b k = b.b by simp [sta, show k % 2 = 1 by omega]] at this)
            go_wp2_with fail
            refine wp_region_ext (by kernel_rfl) (by kernel_rfl) ?_
            repeat (first | go_big_quiet_step ((go_at_call 26; exact calls_ext (refnext_any b.b _ _ HOB.out (pr_rng HC.out _).1 (pr_rng HC.out _).2))) | quiet_step ((go_at_call 26; exact calls_ext (refnext_any b.b _ _ HOB.out (pr_rng HC.out _).1 (pr_rng HC.out _).2))))
            refine wpQuiet_nil ?_
            rintro w1 ⟨⟨_, hb1⟩, rfl⟩
            rw [HP.out]
            have hW2 := hW1.ext hb1
            have cL5 := (hb1.cell (p := ⟨g, (k - 1) * 2 + 1, none⟩) (by simp; omega)).trans ((((Below.refl _ _).alloc (Nat.le_refl _) _).cell (p := ⟨g, (k - 1) * 2 + 1, none⟩) hg).trans cL1)
            have hg1 : g < w1.heap.size := Nat.lt_of_lt_of_le hg (by have := hb1.size; simp at this; omega)
            clear hW hW1 z0 z zn zm cX cR fR cL1 cL2 hb1
            obtain ⟨⟨z0, z, zn, zm⟩, cX, cR, fR⟩ := hW2.facts
            by_cases hac : pr b (k - 1) ≤ pr b k
            · have HA := Lib.hid (show accAt b k = true by simp only [accAt, show k % 2 = 1 by omega]; simpa using hac)
              have HS := Lib.hid (stop_acc (med := false) (by simp) hko (by omega) HA.out)
              clear hko
              go_wp2_with fail
              go_region
              go_wp2_with fail
              exact bodyPost_ret (v := .tuple #[.slice (some ⟨g, 0, none⟩) k cap, .agg #[.bool true, .int .i64 (pr b (k - 1)), .int .i64 k, .int .u8 1]]) (by simp [results, Try.results29, go_sem, cR]) rfl (fin_some (d := ⟨true, pr b (k - 1), k, 1⟩) hk HNS.out (by rw [HS.out, show k % 2 = 1 by omega]; rfl) (hW2.res _ _ _ _).1.drew (by omega) (hW2.res _ _ _ _).2.drew)
            · have hac2 : pr b k < pr b (k - 1) := by omega
              have HA := Lib.hid (show ¬ accAt b k = true by simp only [accAt, show k % 2 = 1 by omega]; simpa using hac)
              have HS := Lib.hid (stop_not (med := false) (by simp) hko (fun h => HA.out h.2))
              clear hac
              clear hko
              go_wp2_with (first | (at_builtin; refine wpList_append_own _ rfl (.tmp 119) (.tmp 123) 38 rfl (w.heap.size + 1 + 1) 49 i0 (.agg #[.int .u8 0, .int .i64 0]) 2 16 Try.underlying38 hi hz0 hz1 hz2 rfl (by decide) _ _ _ rfl (hW2.row.alloc _) ⟨w1.heap.size, 0, none⟩ 1 1 [.int .u8 1, .int .i64 (pr b k)] rfl rfl ?codd1 ?codd2 ?codd3 ?codd4 ?codd5 ?_))
              case codd1 => exact two_new' (by simp) _ _ _
              case codd2 => intro u hu; simp at hu; rcases hu with rfl | rfl <;> rfl
              case codd3 => unfold maxLen; omega
              case codd4 => omega
              case codd5 => have := lt_some hW2.rs; simp; (try simp at this); omega
              intro v' w3 hown' hgrow hnil
              have hW3 := hW2.append (k := k) (x := 1) (by omega) hown' hgrow (by simpa using hnil)
              clear hW2 hown' hgrow hnil
              obtain ⟨g', cap', rfl, _⟩ := hW3.offer_at (by omega)
              go_wp2
              go_roundw
              case rel => exact ⟨k + 1, by omega, ns_step HNS.out HS.out, hW3⟩
              case measure => go_light; simp [lenOf]; try omega

end Go.Proofs.Ytigphmocjgojhaa
