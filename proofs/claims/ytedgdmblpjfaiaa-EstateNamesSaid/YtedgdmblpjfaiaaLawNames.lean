/- EstateNames returns true. -/
import Derived.Test.YtedgdmblpjfaiaaNamesW
namespace Go.Proofs.Ytedgdmblpjfaiaa
open Go.RowKit Go.Deep
set_option linter.unusedVariables false
set_option linter.unusedSimpArgs false

theorem _root_.Go.RowKit.Below.al {w w1 : World} (h : Below w.heap.size w w1) (o : Obj) : Below w.heap.size w (w1.alloc o) := h.alloc h.size o
theorem EstIn.at_ {b : Nat} {w : World} {E : Est} {A : Option Addr} {c : Nat} {R : Option Addr} {d : Nat} {wr : World} (h : EstIn w E A c R d wr) (hz : w.heap.size = b) :
    ∀ j, wr.cell? ⟨b, j, none⟩ = (#[.slice A E.sh.length c, .slice R E.bd.length d] : Array Value)[j]? := hz ▸ fun j => cell_of_row wr _ j _ _ _ h.bx
theorem info22 : (Try.prog.info? 22).map (fun i => (i.zero, i.size, i.bytes)) = some (some (.slice none 0 0), 1, 24) := by kernel_rfl

theorem lit2' (w : World) (x y : Int) {b : Nat} (h : w.heap.size = b) : Ints (w.alloc (.cells #[.int .i64 x, .int .i64 y] 3)).heap.size (w.alloc (.cells #[.int .i64 x, .int .i64 y] 3)) (some ⟨b, 0, none⟩) [x, y] := h ▸ lit2 w x y
theorem lit3' (w : World) (x y z : Int) {b : Nat} (h : w.heap.size = b) : Ints (w.alloc (.cells #[.int .i64 x, .int .i64 y, .int .i64 z] 3)).heap.size (w.alloc (.cells #[.int .i64 x, .int .i64 y, .int .i64 z] 3)) (some ⟨b, 0, none⟩) [x, y, z] := h ▸ lit3 w x y z

/-- Three lists of one hundred, and their list: what is made ahead of the estate's box. -/
abbrev W5 (w : World) : World := ((((w.alloc (.cells #[.int .i64 1, .int .i64 1, .int .i64 1] 3)).alloc (.cells #[.int .i64 100] 3)).alloc (.cells #[.int .i64 100] 3)).alloc (.cells #[.int .i64 100] 3)).alloc (.cells #[.slice (some ⟨w.heap.size + 1, 0, none⟩) 1 1, .slice (some ⟨w.heap.size + 1 + 1, 0, none⟩) 1 1, .slice (some ⟨w.heap.size + 1 + 1 + 1, 0, none⟩) 1 1] 22)
theorem W5_size (w : World) : (W5 w).heap.size = w.heap.size + 1 + 1 + 1 + 1 + 1 := by simp [W5]
theorem W5_below (w : World) : Below w.heap.size w (W5 w) := (((((Below.refl w.heap.size w).al _).al _).al _).al _).al _
theorem x3_in (w : World) : EIn (W5 w).heap.size (W5 w) (some ⟨w.heap.size, 0, none⟩) 3 (some ⟨w.heap.size + 1 + 1 + 1 + 1, 0, none⟩) 3 X3 := by
  have hz := W5_size w
  have h0 : (W5 w).heap[w.heap.size]? = some (.cells #[.int .i64 1, .int .i64 1, .int .i64 1] 3 (0, 0)) := heap_old (heap_old (heap_old (heap_old (heap_new rfl))))
  have h1 : (W5 w).heap[w.heap.size + 1]? = some (.cells #[.int .i64 100] 3 (0, 0)) := heap_old (heap_old (heap_old (heap_new (by simp))))
  have h2 : (W5 w).heap[w.heap.size + 1 + 1]? = some (.cells #[.int .i64 100] 3 (0, 0)) := heap_old (heap_old (heap_new (by simp)))
  have h3 : (W5 w).heap[w.heap.size + 1 + 1 + 1]? = some (.cells #[.int .i64 100] 3 (0, 0)) := heap_old (heap_new (by simp))
  have h4 : (W5 w).heap[w.heap.size + 1 + 1 + 1 + 1]? = some (.cells #[.slice (some ⟨w.heap.size + 1, 0, none⟩) 1 1, .slice (some ⟨w.heap.size + 1 + 1, 0, none⟩) 1 1, .slice (some ⟨w.heap.size + 1 + 1 + 1, 0, none⟩) 1 1] 22 (0, 0)) := heap_new (by simp)
  refine ein_lit (Ints.of_lit h0 (by omega) rfl) (IntRows.of_block h4 (by omega) ?_) (by decide) (by decide) (by omega) (by omega)
  intro i hi
  match i, hi with
  | 0, _ => exact some_row rfl rfl rfl (by omega) (Ints.of_lit h1 (by omega) rfl)
  | 1, _ => exact some_row rfl rfl rfl (by omega) (Ints.of_lit h2 (by omega) rfl)
  | 2, _ => exact some_row rfl rfl rfl (by omega) (Ints.of_lit h3 (by omega) rfl)

theorem c1_in (w : World) : EIn (w.alloc (.cells (madeCells #[.int .i64 0] 11) 3)).heap.size (w.alloc (.cells (madeCells #[.int .i64 0] 11) 3)) (some ⟨w.heap.size, 0, none⟩) 11 none 0 C1 :=
  ein_lit (Ints.of_lit (heap_new rfl) (by simp) (by rw [made_list]; rfl)) IntRows.nil_ (by decide) (by decide) (by omega) (by omega)
abbrev WC2 (w : World) : World := ((w.alloc (.cells #[.int .i64 1] 3)).alloc (.cells (madeCells #[.int .i64 0] 31) 3)).alloc (.cells #[.slice (some ⟨w.heap.size + 1, 0, none⟩) 31 31] 22)
theorem c2_in (w : World) : EIn (WC2 w).heap.size (WC2 w) (some ⟨w.heap.size, 0, none⟩) 1 (some ⟨w.heap.size + 1 + 1, 0, none⟩) 1 C2 := by
  have hz : (WC2 w).heap.size = w.heap.size + 1 + 1 + 1 := by simp [WC2]
  have h1 : (WC2 w).heap[w.heap.size + 1]? = some (.cells (madeCells #[.int .i64 0] 31) 3 (0, 0)) := heap_old (heap_new (by simp))
  have h2 : (WC2 w).heap[w.heap.size + 1 + 1]? = some (.cells #[.slice (some ⟨w.heap.size + 1, 0, none⟩) 31 31] 22 (0, 0)) := heap_new (by simp)
  refine ein_lit (Ints.of_lit (heap_old (heap_old (heap_new rfl))) (by omega) rfl) (IntRows.of_block h2 (by omega) ?_) (by decide) (by decide) (by omega) (by omega)
  intro i hi
  match i, hi with
  | 0, _ => exact some_row rfl rfl rfl (by omega) (Ints.of_lit h1 (by omega) (by rw [made_list]; rfl))
theorem c3_in (w : World) : EIn (w.alloc (.cells (madeCells #[.slice none 0 0] 11) 22)).heap.size (w.alloc (.cells (madeCells #[.slice none 0 0] 11) 22)) none 0 (some ⟨w.heap.size, 0, none⟩) 11 C3 := by
  refine ein_lit Ints.nil_ (IntRows.of_block (heap_new rfl) (by simp) ?_) (by decide) (by decide) (by omega) (by omega)
  intro i hi
  match i, hi with
  | 0, _ | 1, _ | 2, _ | 3, _ | 4, _ | 5, _ | 6, _ | 7, _ | 8, _ | 9, _ | 10, _ => exact none_row (by simp [madeCells]) rfl
abbrev WP2 (w : World) : World := (w.alloc (.cells #[.int .i64 1, .int .i64 999] 3)).alloc (.cells #[.slice none 0 0, .slice none 0 0] 22)
theorem p2_in (w : World) : EIn (WP2 w).heap.size (WP2 w) (some ⟨w.heap.size, 0, none⟩) 2 (some ⟨w.heap.size + 1, 0, none⟩) 2 P2 := by
  have hz : (WP2 w).heap.size = w.heap.size + 1 + 1 := by simp [WP2]
  refine ein_lit (Ints.of_lit (heap_old (heap_new rfl)) (by omega) rfl) (IntRows.of_block (heap_new (by simp)) (by omega) ?_) (by decide) (by decide) (by omega) (by omega)
  intro i hi
  match i, hi with
  | 0, _ | 1, _ => exact none_row rfl rfl

set_option maxRecDepth 100000 in
set_option maxHeartbeats 8000000 in
theorem names_walk (w : World) : Calls Try.prog 8 #[] w fun e w' => e = .returned (.bool true) ∧ Below w.heap.size w w' := by
  go_enter Try.func8, Try.ntmps8
  try dsimp only [List.append]
  go_wp2_with fail
  go_loopw [2] (fun i wr => ∃ k : Nat, k ≤ 8 ∧ i = .int .i64 k ∧ BadIn w wr) (fun i _ => 8 - (intOf i).toNat)
  case atStart => exact ⟨0, Nat.zero_le _, rfl, bad_start w⟩
  case round =>
    obtain ⟨k, hk, rfl, hB⟩ := hrel
    by_cases hlt : k < 8
    · obtain ⟨A, c, R, d, c0, c1, hE⟩ := hB.es.2 k hlt
      have HG := Lib.hid hB.es.1
      have hc := bad_code k hlt
      generalize ge Bad k = E at hc hE c0 c1 ⊢
      have i1 : (k : Int) < (8 : Int) := by omega
      have hp : payR E = [] := by rw [payR, if_neg (by omega)]
      go_wp2_with fail
      refine (pay_is hp hc hE).mono ?_
      rintro e w1 ⟨P, pc, rfl, _, hb1⟩
      have hE1 := hE.next hb1
      have hB1 := hB.next hb1
      have d0 : w1.cell? ⟨w.heap.size + 16, k * 2, none⟩ = some (.slice A E.sh.length c) := (hb1.cell (p := ⟨w.heap.size + 16, k * 2, none⟩) HG.out).trans c0
      have d1 : w1.cell? ⟨w.heap.size + 16, k * 2 + 1, none⟩ = some (.slice R E.bd.length d) := (hb1.cell (p := ⟨w.heap.size + 16, k * 2 + 1, none⟩) HG.out).trans c1
      clear hb1 hB c0 c1 hE HG
      go_wp2_with fail
      refine (check_is hc hE1).mono ?_
      rintro e w2 ⟨rfl, hb2⟩
      have hB2 := hB1.next hb2
      clear hb2 hB1 d0 d1 hE1
      go_wp2_with fail
      go_roundw
      case rel => exact ⟨k + 1, by omega, by go_num, hB2⟩
      case measure => simp [intOf]; omega
    · obtain rfl : k = 8 := by omega
      have D0 := hB.below
      have hm1 : ∀ w, Sem.run Try.prog (Instr.makeSlice 22 (.int .i64 11) (.int .i64 11)) w = .ok (.slice (some ⟨w.heap.size, 0, none⟩) 11 11) (w.alloc (.cells (madeCells #[.int .i64 0] 11) 3)) := run_make_row' (P := Try.prog) 22 3 (.int .i64 0) 8 Try.underlying22 info3 rfl .i64 .i64 11 (by omega) (by omega)
      have hm2 : ∀ w, Sem.run Try.prog (Instr.makeSlice 22 (.int .i64 31) (.int .i64 31)) w = .ok (.slice (some ⟨w.heap.size, 0, none⟩) 31 31) (w.alloc (.cells (madeCells #[.int .i64 0] 31) 3)) := run_make_row' (P := Try.prog) 22 3 (.int .i64 0) 8 Try.underlying22 info3 rfl .i64 .i64 31 (by omega) (by omega)
      have hm3 : ∀ w, Sem.run Try.prog (Instr.makeSlice 23 (.int .i64 11) (.int .i64 11)) w = .ok (.slice (some ⟨w.heap.size, 0, none⟩) 11 11) (w.alloc (.cells (madeCells #[.slice none 0 0] 11) 22)) := run_make_row' (P := Try.prog) 23 22 (.slice none 0 0) 24 Try.underlying23 info22 rfl .i64 .i64 11 (by omega) (by omega)
      clear hB
      go_wp2_with fail
      refine (check_is c1_code (c1_in wr)).mono ?_
      rintro e w1 ⟨rfl, hb1⟩
      have D1 := bcall (D0.al _) (D0.al _).size hb1
      clear hb1 D0 hm1
      go_wp2_with fail
      refine (check_is c2_code (c2_in w1)).mono ?_
      rintro e w2 ⟨rfl, hb2⟩
      have D2 := bcall (((D1.al _).al _).al _) (((D1.al _).al _).al _).size hb2
      clear hb2 D1 hm2
      go_wp2_with fail
      refine (check_is c3_code (c3_in w2)).mono ?_
      rintro e w3 ⟨rfl, hb3⟩
      have D3 := bcall (D2.al _) (D2.al _).size hb3
      clear hb3 D2 hm3
      go_wp2_with fail
      refine (pay_is p2_pay p2_code (p2_in w3)).mono ?_
      rintro e w4 ⟨P, pc, rfl, hP4, hb4⟩
      have D4 := bcall ((D3.al _).al _) ((D3.al _).al _).size hb4
      clear hb4 D3
      have hX0 := EstIn.start (x3_in w4)
      have hz := W5_size w4
      go_wp2_with fail
      refine (owners_is x3_owners x3_code hX0.e).mono ?_
      rintro e w5 ⟨O, oc, rfl, hO5, hb5⟩
      have B5 := (W5_below w4).al (bxOf (some ⟨w4.heap.size, 0, none⟩) 3 (some ⟨w4.heap.size + 1 + 1 + 1 + 1, 0, none⟩) 3 X3)
      have D5 := bcall (bcall D4 D4.size B5) (bcall D4 D4.size B5).size hb5
      have hP5 := hP4.next (bcall B5 B5.size hb5)
      have hX5 := hX0.next hb5
      clear hb5 D4 B5 hP4 hX0
      have cbx := hX5.at_ hz
      go_wp2_with fail
      refine (pay_is x3_pay x3_code hX5.e).mono ?_
      rintro e w6 ⟨Q, qc, rfl, hQ6, hb6⟩
      have D6 := bcall D5 D5.size hb6
      have hP6 := hP5.next hb6
      have hO6 := hO5.next hb6
      have hX6 := hX5.next hb6
      clear hb6 D5 hP5 hO5 hX5 cbx
      have cbx := hX6.at_ hz
      have HA := Lib.hid (accept_is (pc := 1) (qc := 3) (Q := some ⟨w6.heap.size + 1, 0, none⟩) (w := (w6.alloc (.cells #[.int .i64 1] 3)).alloc (.cells #[.int .i64 33, .int .i64 (-66), .int .i64 33] 3)) x3_a1 x3_code (hX6.next ((one_alloc _ _).al _)).e ((lit1 w6 1).next (one_alloc _ _)) (lit3' (w6.alloc (.cells #[.int .i64 1] 3)) (33) (-66) (33) (by simp)) (by decide) (by decide))
      go_wp2_with fail
      refine HA.out.mono ?_
      rintro e w7 ⟨rfl, hb7⟩
      have B7 := bcall ((one_alloc w6 _).al _) ((one_alloc w6 _).al _).size hb7
      have D7 := bcall D6 D6.size B7
      have hP7 := hP6.next B7
      have hO7 := hO6.next B7
      have hQ7 := hQ6.next B7
      have hX7 := hX6.next B7
      clear HA hb7 D6 hP6 hO6 hQ6 hX6 cbx B7
      have cbx := hX7.at_ hz
      have HA := Lib.hid (accept_is (pc := 1) (qc := 3) (Q := some ⟨w7.heap.size + 1, 0, none⟩) (w := (w7.alloc (.cells #[.int .i64 0] 3)).alloc (.cells #[.int .i64 (-67), .int .i64 33, .int .i64 35] 3)) x3_a2 x3_code (hX7.next ((one_alloc _ _).al _)).e ((lit1 w7 0).next (one_alloc _ _)) (lit3' (w7.alloc (.cells #[.int .i64 0] 3)) (-67) (33) (35) (by simp)) (by decide) (by decide))
      go_wp2_with fail
      refine HA.out.mono ?_
      rintro e w8 ⟨rfl, hb8⟩
      have B8 := bcall ((one_alloc w7 _).al _) ((one_alloc w7 _).al _).size hb8
      have D8 := bcall D7 D7.size B8
      have hP8 := hP7.next B8
      have hO8 := hO7.next B8
      have hQ8 := hQ7.next B8
      have hX8 := hX7.next B8
      clear HA hb8 D7 hP7 hO7 hQ7 hX7 cbx B8
      have cbx := hX8.at_ hz
      have HA := Lib.hid (accept_is (pc := 1) (qc := 3) (Q := some ⟨w8.heap.size + 1, 0, none⟩) (w := (w8.alloc (.cells #[.int .i64 0] 3)).alloc (.cells #[.int .i64 (-68), .int .i64 34, .int .i64 34] 3)) x3_a3 x3_code (hX8.next ((one_alloc _ _).al _)).e ((lit1 w8 0).next (one_alloc _ _)) (lit3' (w8.alloc (.cells #[.int .i64 0] 3)) (-68) (34) (34) (by simp)) (by decide) (by decide))
      go_wp2_with fail
      refine HA.out.mono ?_
      rintro e w9 ⟨rfl, hb9⟩
      have B9 := bcall ((one_alloc w8 _).al _) ((one_alloc w8 _).al _).size hb9
      have D9 := bcall D8 D8.size B9
      have hP9 := hP8.next B9
      have hO9 := hO8.next B9
      have hQ9 := hQ8.next B9
      have hX9 := hX8.next B9
      clear HA hb9 D8 hP8 hO8 hQ8 hX8 cbx B9
      have cbx := hX9.at_ hz
      have HA := Lib.hid (accept_is (pc := 1) (qc := 3) (Q := some ⟨w9.heap.size + 1, 0, none⟩) (w := (w9.alloc (.cells #[.int .i64 3] 3)).alloc (.cells #[.int .i64 0, .int .i64 0, .int .i64 0] 3)) x3_a4 x3_code (hX9.next ((one_alloc _ _).al _)).e ((lit1 w9 3).next (one_alloc _ _)) (lit3' (w9.alloc (.cells #[.int .i64 3] 3)) (0) (0) (0) (by simp)) (by decide) (by decide))
      go_wp2_with fail
      refine HA.out.mono ?_
      rintro e wa ⟨rfl, hba⟩
      have Ba := bcall ((one_alloc w9 _).al _) ((one_alloc w9 _).al _).size hba
      have Da := bcall D9 D9.size Ba
      have hPa := hP9.next Ba
      have hOa := hO9.next Ba
      have hQa := hQ9.next Ba
      have hXa := hX9.next Ba
      clear HA hba D9 hP9 hO9 hQ9 hX9 cbx Ba
      have cbx := hXa.at_ hz
      have HA := Lib.hid (accept_is (pc := 1) (qc := 2) (Q := some ⟨wa.heap.size + 1, 0, none⟩) (w := (wa.alloc (.cells #[.int .i64 0] 3)).alloc (.cells #[.int .i64 (-66), .int .i64 33] 3)) x3_a5 x3_code (hXa.next ((one_alloc _ _).al _)).e ((lit1 wa 0).next (one_alloc _ _)) (lit2' (wa.alloc (.cells #[.int .i64 0] 3)) (-66) (33) (by simp)) (by decide) (by decide))
      go_wp2_with fail
      refine HA.out.mono ?_
      rintro e wb ⟨rfl, hbb⟩
      have Bb := bcall ((one_alloc wa _).al _) ((one_alloc wa _).al _).size hbb
      have Db := bcall Da Da.size Bb
      have hPb := hPa.next Bb
      have hOb := hOa.next Bb
      have hQb := hQa.next Bb
      have hXb := hXa.next Bb
      clear HA hbb Da hPa hOa hQa hXa cbx Bb
      clear hXb hz
      go_wp2_with fail
      refine (example_any _).mono ?_
      rintro e wc ⟨A1, c1, R1, d1, rfl, h1, hbc⟩
      have Dc := bcall Db Db.size hbc
      have hPc := hPb.next hbc
      have hOc := hOb.next hbc
      have hQc := hQb.next hbc
      clear hbc Db hPb hOb hQb
      have HA := Lib.hid (accept_is (pc := 1) (qc := 2) (Q := some ⟨wc.heap.size + 1, 0, none⟩) (w := (wc.alloc (.cells #[.int .i64 1] 3)).alloc (.cells #[.int .i64 40, .int .i64 (-40)] 3)) ex_a6 ex_code (h1.next ((one_alloc _ _).al _)) ((lit1 wc 1).next (one_alloc _ _)) (lit2' (wc.alloc (.cells #[.int .i64 1] 3)) 40 (-40) (by simp)) (by decide) (by decide))
      go_wp2_with fail
      refine HA.out.mono ?_
      rintro e wd ⟨rfl, hbd⟩
      have Bd := bcall ((one_alloc wc _).al _) ((one_alloc wc _).al _).size hbd
      have Dd := bcall Dc Dc.size Bd
      have hPd := hPc.next Bd
      have hOd := hOc.next Bd
      have hQd := hQc.next Bd
      clear hbd Dc hPc hOc hQc h1 Bd
      go_wp2_with fail
      refine (alive_any _).mono ?_
      rintro e wf ⟨rfl, hbf⟩
      have Df := bcall Dd Dd.size hbf
      have hPf := hPd.next hbf
      have hOf := hOd.next hbf
      have hQf := hQd.next hbf
      clear hbf Dd hPd hOd hQd
      go_wp2_with fail
      refine (same_any P (some ⟨wf.heap.size, 0, none⟩) pc 2 [0, 0] [0, 0] _ (hPf.next (one_alloc _ _)) (lit2 wf 0 0) (by decide) (by decide)).mono ?_
      rintro e wg ⟨rfl, hbg⟩
      rw [show sameL [0, 0] [0, 0] = true from rfl]
      have Bg := bcall (one_alloc wf _) (by simp) hbg
      have Dg := bcall Df Df.size Bg
      have hOg := hOf.next Bg
      have hQg := hQf.next Bg
      clear hbg Df hPf hOf hQf Bg
      go_wp2_with fail
      refine (same_any O (some ⟨wg.heap.size, 0, none⟩) oc 1 [0] [0] _ (hOg.next (one_alloc _ _)) (lit1 wg 0) (by decide) (by decide)).mono ?_
      rintro e wh ⟨rfl, hbh⟩
      rw [show sameL [0] [0] = true from rfl]
      have Bh := bcall (one_alloc wg _) (by simp) hbh
      have Dh := bcall Dg Dg.size Bh
      have hQh := hQg.next Bh
      clear hbh Dg hOg hQg Bh
      go_wp2_with fail
      refine (same_any Q (some ⟨wh.heap.size, 0, none⟩) qc 3 [-66, 33, 33] [-66, 33, 33] _ (hQh.next (one_alloc _ _)) (lit3 wh (-66) 33 33) (by decide) (by decide)).mono ?_
      rintro e wi ⟨rfl, hbi⟩
      rw [show sameL [-66, 33, 33] [-66, 33, 33] = true from rfl]
      have Bi := bcall (one_alloc wh _) (by simp) hbi
      have Di := bcall Dh Dh.size Bi
      clear hbi Dh hQh Bi
      go_wp2_with fail
      go_ret
      exact ⟨rfl, Di⟩
end Go.Proofs.Ytedgdmblpjfaiaa
