/- Copies of lists of lists, and their comparison. -/
import Derived.Test.YtcjfcfgkejoeeaaRowsV
import Derived.Test.YtcjfcfgkejoeeaaAdK
namespace Go.Proofs.Ytcjfcfgkejoeeaa
open Go.RowKit Go.Deep
set_option linter.unusedVariables false
set_option linter.unusedSimpArgs false

def TwinRes (bs : List (List Int)) (w : World) (e : Ending) (w' : World) : Prop := ∃ v xs b, e = .returned v ∧ RowsV w.heap.size w' v bs xs b ∧ Below w.heap.size w w'
set_option maxRecDepth 100000 in
set_option maxHeartbeats 4000000 in
theorem twin_any (bs : List (List Int)) (A : Option Addr) (c : Nat) (w : World) (h : IntRows w.heap.size w A bs) (hl : bs.length ≤ 100) (hr : ∀ i, i < bs.length → (gr bs i).length ≤ 100) :
    Calls Try.prog 14 #[.slice A bs.length c] w (TwinRes bs w) := by
  obtain ⟨i0, hi0, hz0, hz1, hz2⟩ := info_parts info3
  obtain ⟨j0, hj0, lz0, lz1, lz2⟩ := info_parts infoLI
  go_enter Try.func14, Try.ntmps14
  go_wp2_with fail
  go_loopw [3, 4] (fun s3 i wr => ∃ (k : Nat) (v : Value) (xs : List Value) (b : Nat → Nat), k ≤ bs.length ∧ i = .int .i64 k ∧ v = s3 ∧ RowsV w.heap.size wr v (bs.take k) xs b ∧ Below w.heap.size w wr) (fun _ i _ => bs.length - (intOf i).toNat)
  case atStart => exact ⟨0, _, _, _, Nat.zero_le _, rfl, rfl, by simpa using RowsV.start (Nat.le_refl _), Below.refl _ _⟩
  case round =>
    obtain ⟨k, v, xs, bf, hk, rfl, rfl, hS, hB⟩ := hrel
    by_cases hlt : k < bs.length
    · obtain ⟨ad, R, rc, rfl, hb0, hc0, hl0, hm0, hi0_⟩ := (h.below hB).at_ hlt
      have hlen : (bs.take k).length = k := by rw [List.length_take]; omega
      have h100 := hr k hlt
      have hown := hS.own
      rw [hlen] at hown
      have HOWN := Lib.hid (fun (W : World) (hW : Below wr.heap.size wr W) => ownsRow_ext hown hW)
      have HS := Lib.hid hS
      have HB := Lib.hid hB
      have HI := Lib.hid (hi0_.more hB.size)
      have HLEN := Lib.hid hlen
      have hBs := hB.size
      have hcA : (wr.alloc (.cells #[] 3)).cell? (ad.add k) = some (.slice R (gr bs k).length rc) := (World.cell?_alloc_lt wr _ (ad.add k) (by rw [block_add]; omega)).trans hc0
      have HTK := Lib.hid (show bs.take (k + 1) = bs.take k ++ [gr bs k] by rw [List.take_succ_eq_append_getElem hlt, gr_get hlt])
      have i1 : (k : Int) < (bs.length : Int) := by omega
      have i2 : (0 : Int) ≤ (k : Int) := by omega
      clear hS hB hi0_ hl0 hm0 hlen hown
      go_wp2_with (first
        | (at_builtin; refine wpList_append_any _ rfl (.tmp 12) (.tmp 16) 25 rfl wr.heap.size 3 i0 (.int .i64 0) 1 8 Try.underlying25 hi0 hz0 hz1 hz2 rfl (by omega) (.slice (some ⟨wr.heap.size, 0, none⟩) 0 0) 0 [] rfl (World.ownsRow_lit wr #[] 0 (Nat.le_refl _) (by unfold maxLen; omega) rfl) wr.heap.size R (gr bs k).length rc (intsV (gr bs k)) rfl (HI.out.reads.alloc (Nat.le_refl _) _) (one_cells _) (by unfold maxLen; omega) (by omega) (by simp) ?_; intro v1 w5 hown5 hg5 hat5; replace hown5 := own_zero hown5; obtain ⟨A1, d1', rfl⟩ := own_slice hown5; have HB5 := Lib.hid (fresh_below' hg5 rfl); have HO5 := Lib.hid hown5; clear hown5 hg5 hat5)
        | (at_builtin; refine wpList_append_lies _ rfl (.tmp 11) (.tmp 18) 22 rfl w.heap.size 25 j0 (.slice none 0 0) 1 24 Try.underlying22 hj0 lz0 lz1 lz2 rfl (by omega) v k xs rfl ((HOWN.out _ HB5.out).alloc _) ⟨w5.heap.size, 0, none⟩ 1 1 [.slice A1 (gr bs k).length d1'] rfl rfl (one_new _ _ _) (one_slice _ _ _) (by omega) (by unfold maxLen; omega) (by omega) (by have := HB5.out.size; simp; omega) (w5.heap.size + 1) (by simp) ?_; intro g cap w8 hown' hgrow hat hlt'))
      have HZ := Lib.hid (HS.out.step (l := gr bs k) (HB5.out.alloc HB5.out.size (.cells #[.slice A1 (gr bs k).length d1'] 25)) (HO5.out.alloc _) hgrow (by rw [HLEN.out]; exact hown') (by rcases hat with h | h; exact Or.inl h.symm; exact Or.inr (by rw [h]; simp [Value.ownBlock])))
      have HB8 := Lib.hid ((bcall HB.out HB.out.size (HB5.out.alloc HB5.out.size (.cells #[.slice A1 (gr bs k).length d1'] 25))).grown hgrow (by have := HB5.out.size; simp; omega) (fun g e => (own_ge (HOWN.out _ (Below.refl _ _)) g e).1))
      rw [← HTK.out] at HZ
      clear hown' hgrow hat hlt' HS HB5 HO5 HOWN HB
      go_roundw
      case rel => exact ⟨k + 1, _, _, _, by omega, by go_num, rfl, HZ.out, HB8.out⟩
      case measure => simp [intOf]; omega
    · obtain rfl : k = bs.length := by omega
      rw [List.take_length] at hS
      have HS := Lib.hid hS
      clear hS
      go_wp2_with fail
      go_ret
      exact ⟨_, _, _, rfl, HS.out, hB⟩
end Go.Proofs.Ytcjfcfgkejoeeaa
