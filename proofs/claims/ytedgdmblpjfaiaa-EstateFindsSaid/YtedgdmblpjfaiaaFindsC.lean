/- The reference's Owners and Claims, walked. -/
import Derived.Test.YtedgdmblpjfaiaaFindsB
namespace Go.Proofs.Ytedgdmblpjfaiaa
open Go.RowKit Go.Deep
set_option linter.unusedVariables false
set_option linter.unusedSimpArgs false

theorem mapL_succ (k : Nat) (f : Nat → Int) : cellsL (mapL (k + 1) f) = cellsL (mapL k f) ++ [.int .i64 (f k)] := by simp [mapL, List.range_succ]

/-- An estate in its box, and a list of own numbers that grows. -/
structure OutW (w : World) (E : Est) (A : Option Addr) (c : Nat) (R : Option Addr) (d : Nat) (f : Nat → Int) (k : Nat) (v : Value) (wr : World) : Prop where
  e : EstIn w E A c R d wr
  out : wr.ownsRow (w.heap.size + 1) 3 1 v k (cellsL (mapL k f))
theorem OutW.next {w : World} {E : Est} {A : Option Addr} {c : Nat} {R : Option Addr} {d : Nat} {f : Nat → Int} {k : Nat} {v : Value} {wr w1 : World} (h : OutW w E A c R d f k v wr) (hb : Below wr.heap.size wr w1) : OutW w E A c R d f k v w1 :=
  ⟨h.e.next hb, ownsRow_ext h.out hb⟩
theorem OutW.start {w : World} {E : Est} {A : Option Addr} {c : Nat} {R : Option Addr} {d : Nat} {wr : World} (h : EstIn w E A c R d wr) (f : Nat → Int) : OutW w E A c R d f 0 (.slice none 0 0) wr :=
  ⟨h, World.ownsRow_nil _ _ _ _⟩
theorem OutW.step {w : World} {E : Est} {A : Option Addr} {c : Nat} {R : Option Addr} {d : Nat} {f : Nat → Int} {k : Nat} {v v' : Value} {wr w1 : World} {o : Obj} (h0 : EIn w.heap.size w A c R d E) (h : OutW w E A c R d f k v wr)
    (ho : w1.ownsRow (w.heap.size + 1) 3 1 v' (k + 1) (cellsL (mapL k f) ++ [.int .i64 (f k)])) (hg : (wr.alloc o).grownBy w1 v.ownBlock) : OutW w E A c R d f (k + 1) v' w1 := by
  have hz := lt_some h.e.bx
  have hb : Below w.heap.size w w1 := (h.e.below.alloc h.e.below.size o).grown hg (by simp; omega) (fun g e => by have := own_ge h.out g e; omega)
  refine ⟨⟨hb, ?_, h0.next hb⟩, by rw [mapL_succ]; exact ho⟩
  rw [grown_keep h.out hg _ (by omega) hz]
  exact h.e.bx
theorem OutW.end_ {w : World} {E : Est} {A : Option Addr} {c : Nat} {R : Option Addr} {d : Nat} {f : Nat → Int} {k : Nat} {v : Value} {wr : World} (h : OutW w E A c R d f k v wr) : ∃ O oc, v = .slice O k oc ∧ Ints wr.heap.size wr O (mapL k f) := by
  have q := h.out
  have e : k = (mapL k f).length := (mapL_length k f).symm
  obtain ⟨O, oc, rfl, _, _, hi⟩ := Ints.of_row (xs := mapL k f) (show wr.ownsRow (w.heap.size + 1) 3 1 v (mapL k f).length (cellsL (mapL k f)) by rw [← e]; exact q)
  exact ⟨O, oc, by rw [mapL_length], hi⟩

set_option maxRecDepth 100000 in
set_option maxHeartbeats 4000000 in
theorem ownersref_any (E : Est) (A : Option Addr) (c : Nat) (R : Option Addr) (d : Nat) (w : World) (h : EIn w.heap.size w A c R d E) :
    Calls Try.prog 14 #[eV A c R d E] w (ListRes w (ownersR E) E.code) := by
  have hW0 := EstIn.start h
  have H0 := Lib.hid h
  clear h
  obtain ⟨i0, hi0, hz0, hz1, hz2⟩ := info_parts info3
  go_enter Try.func14, Try.ntmps14
  go_wp2_with fail
  refine (check_ref E A c R d _ hW0.e).mono ?_
  rintro e w2 ⟨rfl, hb2⟩
  have hW := hW0.next hb2
  have cbx := fun j => cell_of_row w2 _ j _ _ _ hW.bx
  clear hb2 hW0
  by_cases hc : E.code = 0
  rotate_left
  · have q1 : (E.code != 0) = true := by simpa using hc
    have HN := Lib.hid hc
    clear hc
    go_wp2_with fail
    refine (check_ref E A c R d _ hW.e).mono ?_
    rintro e w3 ⟨rfl, hb3⟩
    have hW3 := hW.next hb3
    go_wp2_with fail
    go_ret2
    exact ListRes.nil (by rw [ownersR, if_neg HN.out]) hW3.below
  have hE := Est.ok_of_code hc
  have HC := Lib.hid hc
  have HE := Lib.hid hE
  have q1 : (E.code != 0) = false := by simpa using hc
  have hbl : 0 < E.bd.length := by have := hE.rows; have := hE.n1; omega
  have hm30 := hE.m30
  have hn10 : E.sh.length ≤ 10 := hE.n10
  clear hc hE
  go_wp2_with fail
  clear cbx
  go_loopw [4, 5] (fun v i wr => ∃ k : Nat, k ≤ (gr E.bd 0).length ∧ i = .int .i64 k ∧ OutW w E A c R d (fun k => (E.own k : Int)) k v wr) (fun _ i _ => (gr E.bd 0).length - (intOf i).toNat)
  case atStart => exact ⟨0, Nat.zero_le _, rfl, OutW.start hW _⟩
  case round =>
    clear hW
    obtain ⟨k, hk, rfl, hW⟩ := hrel
    obtain ⟨v, rfl⟩ : ∃ v : Value, v = u4 := ⟨_, rfl⟩
    have cbx := fun j => cell_of_row wr _ j _ _ _ hW.e.bx
    obtain ⟨bd, R0, c0, rfl, _, hc0, _, hcm0, _⟩ := hW.e.e.bd.at_ hbl
    have hc0' : wr.cell? bd = some (.slice R0 (gr E.bd 0).length c0) := by simpa [Addr.add] using hc0
    have i0' : (0 : Int) < (E.bd.length : Int) := by omega
    have hm30' : (gr E.bd 0).length ≤ 30 := hm30
    by_cases hlt : k < (gr E.bd 0).length
    · have HQ := Lib.hid (owner_any E HE.out A c (some bd) d k hlt wr hW.e.e)
      go_wp2_with fail
      refine HQ.out.mono ?_
      rintro e w3 ⟨rfl, hb3⟩
      have hW3 := hW.next hb3
      clear hb3 hW cbx HQ
      go_wp2_with (at_builtin; refine wpList_append_lies _ rfl (.tmp 20) (.tmp 24) 22 rfl (w.heap.size + 1) 3 i0 (.int .i64 0) 1 8 Try.underlying22 hi0 hz0 hz1 hz2 rfl (by omega) v k (cellsL (mapL k (fun k => (E.own k : Int)))) rfl (hW3.out.alloc _) ⟨w3.heap.size, 0, none⟩ 1 1 [.int .i64 (E.own k : Nat)] rfl rfl (one_new _ _ _) (one_one _) (by omega) (by unfold maxLen; omega) (by omega) (by have := lt_some hW3.e.bx; simp; omega) (w3.heap.size + 1) (by simp) ?_; intro g cap w4 hown' hgrow hat hlt'; have HW4 := Lib.hid (hW3.step H0.out hown' hgrow); clear hown' hgrow hat hlt')
      go_roundw
      case rel => exact ⟨k + 1, by omega, by go_num, HW4.out⟩
      case measure => simp [intOf]; omega
    · obtain rfl : k = (gr E.bd 0).length := by omega
      obtain ⟨O, oc, rfl, hO⟩ := hW.end_
      go_wp2_with fail
      go_ret2
      exact ⟨O, oc, ret_two (by rw [ownersR, if_pos HC.out, ownersL_length]; rfl) (vint HC.out.symm), by rw [ownersR, if_pos HC.out]; exact hO, hW.e.below⟩

set_option maxRecDepth 100000 in
set_option maxHeartbeats 4000000 in
theorem claimsref_any (E : Est) (A : Option Addr) (c : Nat) (R : Option Addr) (d : Nat) (w : World) (h : EIn w.heap.size w A c R d E) :
    Calls Try.prog 16 #[eV A c R d E] w (ListRes w (claimsR E) E.code) := by
  have hW0 := EstIn.start h
  have H0 := Lib.hid h
  clear h
  obtain ⟨i0, hi0, hz0, hz1, hz2⟩ := info_parts info3
  go_enter Try.func16, Try.ntmps16
  go_wp2_with fail
  refine (check_ref E A c R d _ hW0.e).mono ?_
  rintro e w2 ⟨rfl, hb2⟩
  have hW := hW0.next hb2
  have cbx := fun j => cell_of_row w2 _ j _ _ _ hW.bx
  clear hb2 hW0
  by_cases hc : E.code = 0
  rotate_left
  · have q1 : (E.code != 0) = true := by simpa using hc
    have HN := Lib.hid hc
    clear hc
    go_wp2_with fail
    refine (check_ref E A c R d _ hW.e).mono ?_
    rintro e w3 ⟨rfl, hb3⟩
    have hW3 := hW.next hb3
    go_wp2_with fail
    go_ret2
    exact ListRes.nil (by rw [claimsR, if_neg HN.out]) hW3.below
  have hE := Est.ok_of_code hc
  have HC := Lib.hid hc
  have HE := Lib.hid hE
  have q1 : (E.code != 0) = false := by simpa using hc
  have hbl : 0 < E.bd.length := by have := hE.rows; have := hE.n1; omega
  have hm30 := hE.m30
  have hn10 : E.sh.length ≤ 10 := hE.n10
  clear hc hE
  go_wp2_with fail
  clear cbx
  go_loopw [4, 5] (fun v i wr => ∃ k : Nat, k ≤ E.sh.length ∧ i = .int .i64 k ∧ OutW w E A c R d E.claim k v wr) (fun _ i _ => E.sh.length - (intOf i).toNat)
  case atStart => exact ⟨0, Nat.zero_le _, rfl, OutW.start hW _⟩
  case round =>
    clear hW
    obtain ⟨k, hk, rfl, hW⟩ := hrel
    obtain ⟨v, rfl⟩ : ∃ v : Value, v = u4 := ⟨_, rfl⟩
    have cbx := fun j => cell_of_row wr _ j _ _ _ hW.e.bx
    by_cases hlt : k < E.sh.length
    · have HQ := Lib.hid (claim_any E HE.out A c R d k hlt wr hW.e.e)
      go_wp2_with fail
      refine HQ.out.mono ?_
      rintro e w3 ⟨rfl, hb3⟩
      have hW3 := hW.next hb3
      clear hb3 hW cbx HQ
      go_wp2_with (at_builtin; refine wpList_append_lies _ rfl (.tmp 18) (.tmp 22) 22 rfl (w.heap.size + 1) 3 i0 (.int .i64 0) 1 8 Try.underlying22 hi0 hz0 hz1 hz2 rfl (by omega) v k (cellsL (mapL k E.claim)) rfl (hW3.out.alloc _) ⟨w3.heap.size, 0, none⟩ 1 1 [.int .i64 (E.claim k)] rfl rfl (one_new _ _ _) (one_one _) (by omega) (by unfold maxLen; omega) (by omega) (by have := lt_some hW3.e.bx; simp; omega) (w3.heap.size + 1) (by simp) ?_; intro g cap w4 hown' hgrow hat hlt'; have HW4 := Lib.hid (hW3.step H0.out hown' hgrow); clear hown' hgrow hat hlt')
      go_roundw
      case rel => exact ⟨k + 1, by omega, by go_num, HW4.out⟩
      case measure => simp [intOf]; omega
    · obtain rfl : k = E.sh.length := by omega
      obtain ⟨O, oc, rfl, hO⟩ := hW.end_
      go_wp2_with fail
      go_ret2
      exact ⟨O, oc, ret_two (by rw [claimsR, if_pos HC.out, claimsL_length]; rfl) (vint HC.out.symm), by rw [claimsR, if_pos HC.out]; exact hO, hW.e.below⟩
end Go.Proofs.Ytedgdmblpjfaiaa
