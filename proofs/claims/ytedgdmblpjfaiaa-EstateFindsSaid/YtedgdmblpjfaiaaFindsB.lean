/- Owners, Claims, Pool and Exact of estate: what each call returns. -/
import Derived.Test.YtedgdmblpjfaiaaFindsA
namespace Go.Proofs.Ytedgdmblpjfaiaa
open Go.RowKit Go.Deep
set_option linter.unusedVariables false
set_option linter.unusedSimpArgs false

/-- A call that returns a list of integers and a code. -/
def ListRes (w : World) (l : List Int) (code : Int) (e : Ending) (w' : World) : Prop :=
  ∃ A c, e = .returned (.tuple #[.slice A l.length c, .int .i64 code]) ∧ Ints w'.heap.size w' A l ∧ Below w.heap.size w w'
def ownersR (E : Est) : List Int := if E.code = 0 then ownersL E E.m else []
def claimsR (E : Est) : List Int := if E.code = 0 then claimsL E E.sh.length else []
def exactL (E : Est) : List Int := mapL E.sh.length E.exact
def exactR (E : Est) : List Int := if E.code = 0 then exactL E else []
def poolR (E : Est) : Int := if E.code = 0 then E.pool else 0

theorem ListRes.nil {w w' : World} {l : List Int} {code : Int} (h : l = []) (hb : Below w.heap.size w w') : ListRes w l code (.returned (.tuple #[.slice none 0 0, .int .i64 code])) w' := by
  subst h; exact ⟨none, 0, rfl, Ints.nil_, hb⟩

/-- What the walks of estate's functions keep. -/
structure EstIn (w : World) (E : Est) (A : Option Addr) (c : Nat) (R : Option Addr) (d : Nat) (wr : World) : Prop where
  below : Below w.heap.size w wr
  bx : wr.heap[w.heap.size]? = some (bxOf A c R d E)
  e : EIn wr.heap.size wr A c R d E
theorem EstIn.next {w : World} {E : Est} {A : Option Addr} {c : Nat} {R : Option Addr} {d : Nat} {wr w1 : World} (h : EstIn w E A c R d wr) (hb : Below wr.heap.size wr w1) : EstIn w E A c R d w1 :=
  ⟨bcall h.below h.below.size hb, heap_ext h.bx hb, h.e.next hb⟩
theorem EstIn.start {w : World} {E : Est} {A : Option Addr} {c : Nat} {R : Option Addr} {d : Nat} (h : EIn w.heap.size w A c R d E) : EstIn w E A c R d (w.alloc (bxOf A c R d E)) :=
  ⟨one_alloc _ _, heap_new rfl, h.next (one_alloc _ _)⟩

set_option maxRecDepth 100000 in
set_option maxHeartbeats 4000000 in
theorem owners_any (E : Est) (A : Option Addr) (c : Nat) (R : Option Addr) (d : Nat) (w : World) (h : EIn w.heap.size w A c R d E) :
    Calls Try.prog 13 #[eV A c R d E] w (ListRes w (ownersR E) E.code) := by
  have hW0 := EstIn.start h
  clear h
  go_enter Try.func13, Try.ntmps13
  go_wp2_with fail
  refine (check_any E A c R d _ hW0.e).mono ?_
  rintro e w2 ⟨rfl, hb2⟩
  have hW := hW0.next hb2
  have cbx := fun j => cell_of_row w2 _ j _ _ _ hW.bx
  clear hb2 hW0
  by_cases hc : E.code = 0
  rotate_left
  · have q1 : (E.code != 0) = true := by simpa using hc
    have HN := Lib.hid hc
    clear hc
    go_wp2_with fail
    go_ret2
    exact ListRes.nil (by rw [ownersR, if_neg HN.out]) hW.below
  have hE := Est.ok_of_code hc
  have HC := Lib.hid hc
  have HE := Lib.hid hE
  have q1 : (E.code != 0) = false := by simpa using hc
  clear hc hE
  go_wp2_with fail
  refine (reckon_any E HE.out A c R d _ hW.e).mono ?_
  intro e w3 hrk
  obtain ⟨g, O, oc, W, wc, C, cc, rfl, hR, hb3⟩ := Reck.of hrk
  have hW3 := hW.next hb3
  have cg := fun j => cell_of_row w3 _ j _ _ _ hR.g
  have zg := lt_some hR.g
  clear hrk hb3 cbx hW
  go_wp2_with fail
  go_ret2
  exact ⟨O, oc, ret_two (by rw [ownersR, if_pos HC.out, ownersL_length]; rfl) (vint HC.out.symm), by rw [ownersR, if_pos HC.out]; exact hR.ow, hW3.below⟩

set_option maxRecDepth 100000 in
set_option maxHeartbeats 4000000 in
theorem claims_any (E : Est) (A : Option Addr) (c : Nat) (R : Option Addr) (d : Nat) (w : World) (h : EIn w.heap.size w A c R d E) :
    Calls Try.prog 15 #[eV A c R d E] w (ListRes w (claimsR E) E.code) := by
  have hW0 := EstIn.start h
  clear h
  go_enter Try.func15, Try.ntmps15
  go_wp2_with fail
  refine (check_any E A c R d _ hW0.e).mono ?_
  rintro e w2 ⟨rfl, hb2⟩
  have hW := hW0.next hb2
  have cbx := fun j => cell_of_row w2 _ j _ _ _ hW.bx
  clear hb2 hW0
  by_cases hc : E.code = 0
  rotate_left
  · have q1 : (E.code != 0) = true := by simpa using hc
    have HN := Lib.hid hc
    clear hc
    go_wp2_with fail
    go_ret2
    exact ListRes.nil (by rw [claimsR, if_neg HN.out]) hW.below
  have hE := Est.ok_of_code hc
  have HC := Lib.hid hc
  have HE := Lib.hid hE
  have q1 : (E.code != 0) = false := by simpa using hc
  clear hc hE
  go_wp2_with fail
  refine (reckon_any E HE.out A c R d _ hW.e).mono ?_
  intro e w3 hrk
  obtain ⟨g, O, oc, W, wc, C, cc, rfl, hR, hb3⟩ := Reck.of hrk
  have hW3 := hW.next hb3
  have cg := fun j => cell_of_row w3 _ j _ _ _ hR.g
  have zg := lt_some hR.g
  clear hrk hb3 cbx hW
  go_wp2_with fail
  go_ret2
  exact ⟨C, cc, ret_two (by rw [claimsR, if_pos HC.out, claimsL_length]; rfl) (vint HC.out.symm), by rw [claimsR, if_pos HC.out]; exact hR.cl, hW3.below⟩

set_option maxRecDepth 100000 in
set_option maxHeartbeats 4000000 in
theorem pool_any (E : Est) (A : Option Addr) (c : Nat) (R : Option Addr) (d : Nat) (w : World) (h : EIn w.heap.size w A c R d E) :
    Calls Try.prog 17 #[eV A c R d E] w fun e w' => e = .returned (.tuple #[.int .i64 (poolR E), .int .i64 E.code]) ∧ Below w.heap.size w w' := by
  have hW0 := EstIn.start h
  clear h
  go_enter Try.func17, Try.ntmps17
  go_wp2_with fail
  refine (check_any E A c R d _ hW0.e).mono ?_
  rintro e w2 ⟨rfl, hb2⟩
  have hW := hW0.next hb2
  have cbx := fun j => cell_of_row w2 _ j _ _ _ hW.bx
  clear hb2 hW0
  by_cases hc : E.code = 0
  rotate_left
  · have q1 : (E.code != 0) = true := by simpa using hc
    have HN := Lib.hid hc
    clear hc
    go_wp2_with fail
    go_ret2
    exact ⟨ret_two (vint (by rw [poolR, if_neg HN.out])) rfl, hW.below⟩
  have hE := Est.ok_of_code hc
  have HC := Lib.hid hc
  have HE := Lib.hid hE
  have q1 : (E.code != 0) = false := by simpa using hc
  clear hc hE
  go_wp2_with fail
  refine (reckon_any E HE.out A c R d _ hW.e).mono ?_
  intro e w3 hrk
  obtain ⟨g, O, oc, W, wc, C, cc, rfl, hR, hb3⟩ := Reck.of hrk
  have hW3 := hW.next hb3
  have cg := fun j => cell_of_row w3 _ j _ _ _ hR.g
  have zg := lt_some hR.g
  clear hrk hb3 cbx hW
  go_wp2_with fail
  refine (poolm_any E HE.out g A c R d O oc W wc C cc _ hR).mono ?_
  rintro e w4 ⟨rfl, hb4⟩
  have hW4 := hW3.next hb4
  go_wp2_with fail
  go_ret2
  exact ⟨ret_two (vint (by rw [poolR, if_pos HC.out])) (vint HC.out.symm), hW4.below⟩

/-- The exact payments before k. -/
def exTo (E : Est) (k : Nat) : List Int := mapL E.sh.length fun i => if i < k then E.exact i else 0
theorem exTo_zero (E : Est) : mapL E.sh.length (fun _ => 0) = exTo E 0 := mapL_congr fun i _ => by simp
theorem exTo_all (E : Est) : exTo E E.sh.length = exactL E := mapL_congr fun i h => by simp [h]
theorem exTo_succ (E : Est) (k : Nat) : (cellsL (exTo E k)).set k (.int .i64 (E.exact k)) = cellsL (exTo E (k + 1)) := by
  rw [exTo, mapL_set]; congr 1
  refine mapL_congr fun i _ => ?_
  by_cases e : i = k
  · subst e; simp
  · rw [if_neg e]; by_cases h : i < k
    · rw [if_pos h, if_pos (by omega)]
    · rw [if_neg h, if_neg (by omega)]

set_option maxRecDepth 100000 in
set_option maxHeartbeats 4000000 in
theorem exact_any (E : Est) (A : Option Addr) (c : Nat) (R : Option Addr) (d : Nat) (w : World) (h : EIn w.heap.size w A c R d E) :
    Calls Try.prog 19 #[eV A c R d E] w (ListRes w (exactR E) E.code) := by
  have hW0 := EstIn.start h
  clear h
  go_enter Try.func19, Try.ntmps19
  go_wp2_with fail
  refine (check_any E A c R d _ hW0.e).mono ?_
  rintro e w2 ⟨rfl, hb2⟩
  have hW := hW0.next hb2
  have cbx := fun j => cell_of_row w2 _ j _ _ _ hW.bx
  clear hb2 hW0
  by_cases hc : E.code = 0
  rotate_left
  · have q1 : (E.code != 0) = true := by simpa using hc
    have HN := Lib.hid hc
    clear hc
    go_wp2_with fail
    go_ret2
    exact ListRes.nil (by rw [exactR, if_neg HN.out]) hW.below
  have hE := Est.ok_of_code hc
  have HC := Lib.hid hc
  have HE := Lib.hid hE
  have q1 : (E.code != 0) = false := by simpa using hc
  clear hc hE
  go_wp2_with fail
  refine (reckon_any E HE.out A c R d _ hW.e).mono ?_
  intro e w3 hrk
  obtain ⟨g, O, oc, W, wc, C, cc, rfl, hR, hb3⟩ := Reck.of hrk
  have hW3 := hW.next hb3
  have cg := fun j => cell_of_row w3 _ j _ _ _ hR.g
  have zg := lt_some hR.g
  clear hrk hb3 cbx hW
  have hn10 : E.sh.length ≤ 10 := HE.out.n10
  have hmk := run_make_row' (P := Try.prog) 22 3 (.int .i64 0) 8 Try.underlying22 info3 rfl .i64 .i64 E.sh.length (by omega) (by omega)
  have cbx := fun j => cell_of_row w3 _ j _ _ _ hW3.bx
  have zbx := lt_some hW3.bx
  go_wp2_with fail
  have hO := made_own (base := w3.heap.size) w3 E.sh.length (Nat.le_refl _) (by unfold maxLen; omega)
  rw [exTo_zero] at hO
  have hB0 := one_alloc w3 (.cells (madeCells #[.int .i64 0] E.sh.length) 3)
  clear hmk cbx cg
  go_loopw [21] (fun i wr => ∃ k : Nat, k ≤ E.sh.length ∧ i = .int .i64 k ∧ Below w3.heap.size w3 wr ∧ wr.ownsRow w3.heap.size 3 1 (.slice (some ⟨w3.heap.size, 0, none⟩) E.sh.length E.sh.length) E.sh.length (cellsL (exTo E k))) (fun i _ => E.sh.length - (intOf i).toNat)
  case atStart => exact ⟨0, Nat.zero_le _, rfl, hB0, hO⟩
  case round =>
    clear hB0 hO
    obtain ⟨k, hk, rfl, hB, hO⟩ := hrel
    by_cases hlt : k < E.sh.length
    · have HX := Lib.hid (exactm_any E HE.out g A c R d O oc W wc C cc k hlt wr (hR.next hB) (hW3.e.next hB))
      have i1 : (k : Int) < (E.sh.length : Int) := by omega
      go_wp2_with (go_at_call 38; refine HX.out.mono ?_; rintro e w5 ⟨rfl, hb5⟩; have hO5 := ownsRow_ext hO hb5; have cO := hO5.cellAt k (by omega); rw [List.getElem?_map, List.getElem?_eq_getElem (by rw [exTo, mapL_length]; exact hlt), ← gi_get] at cO; have cO' : w5.cell? ⟨w3.heap.size, k, none⟩ = some (.int .i64 (gi (exTo E k) k)) := cO; have fO := hO5.frozenAt k; have hst := hO5.stored k (.int .i64 (E.exact k)); rw [exTo_succ] at hst; have HST := Lib.hid hst.1; have HB5 := Lib.hid (bcall hB hB.size hb5); clear hst cO)
      go_roundw
      case rel => exact ⟨k + 1, by omega, by go_num, HB5.out.setCell (by first | (simp; done) | (simp; omega)) _, HST.out⟩
      case measure => simp [intOf]; omega
    · obtain rfl : k = E.sh.length := by omega
      rw [exTo_all] at hO
      have hl : (exactL E).length = E.sh.length := mapL_length _ _
      have HI := Lib.hid (Ints.of_own hO).1
      have HB := Lib.hid (bcall hW3.below hW3.below.size hB)
      have HL := Lib.hid hl
      clear hO hB hl
      go_wp2_with fail
      go_ret2
      exact ⟨_, _, ret_two (by rw [exactR, if_pos HC.out, HL.out]; rfl) (vint HC.out.symm), by rw [exactR, if_pos HC.out]; exact HI.out, HB.out⟩

end Go.Proofs.Ytedgdmblpjfaiaa
