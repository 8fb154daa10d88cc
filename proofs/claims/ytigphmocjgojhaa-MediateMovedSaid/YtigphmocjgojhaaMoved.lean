/- MediateMoved returns true for every bargain and every amount. -/
import Derived.Test.YtigphmocjgojhaaTurns
import Derived.BigGuardPart
namespace Go.Proofs.Ytigphmocjgojhaa
open Go.RowKit
set_option linter.unusedVariables false
set_option linter.unusedSimpArgs false

theorem deal_rng {b : Bg} (hc : b.code = 0) {med : Bool} (h : (deal b med).made = true) : 0 ≤ (deal b med).price ∧ (deal b med).price ≤ 1000000000 := by
  have := deal_zone hc h
  obtain ⟨h1, h2, _⟩ := (code_iff b).1 hc
  have a := (ok_iff b.s).1 h1
  have c := (ok_iff b.b).1 h2
  omega

/-- The first n offers of b lie from cell 0 of block g on. -/
def RowC (w : World) (g n : Nat) (b : Bg) : Prop := g < w.heap.size ∧ ∀ i, i < n → w.cell? ⟨g, i * 2, none⟩ = some (.int .u8 ((i % 2 : Nat) : Int)) ∧ w.cell? ⟨g, i * 2 + 1, none⟩ = some (.int .i64 (pr b i))
theorem RowC.ext {w w1 : World} {g n : Nat} {b : Bg} (h : RowC w g n b) (hb : Below w.heap.size w w1) : RowC w1 g n b :=
  ⟨Nat.lt_of_lt_of_le h.1 hb.size, fun i hi => ⟨(hb.cell (p := ⟨g, _, none⟩) h.1).trans (h.2 i hi).1, (hb.cell (p := ⟨g, _, none⟩) h.1).trans (h.2 i hi).2⟩⟩

set_option maxRecDepth 100000 in
set_option maxHeartbeats 8000000 in
theorem moved_main (b : Bg) (x : Int) (w : World) (hc : b.code = 0) (hx0 : 0 ≤ x) (hx1 : x ≤ 1000000000) (hm : (b.mv x).code = 0) :
    Calls Try.prog 7 #[b.v, .int .i64 x] w fun e w' => e = .returned (.bool true) ∧ Below w.heap.size w w' := by
  obtain ⟨p1, p2, -, -, h5, h6⟩ := (code_iff b).1 hc
  obtain ⟨⟨p3, p4⟩, ⟨p5, p6⟩, -⟩ := (ok_iff b.s).1 p1
  obtain ⟨⟨p7, p8⟩, ⟨p9, p10⟩, -⟩ := (ok_iff b.b).1 p2
  have HC := Lib.hid hc
  have HCM := Lib.hid hm
  have hce : (b.code != 0) = false := by simpa using hc
  have hcm : ((b.mv x).code != 0) = false := by simpa using hm
  have gm1 : decide (x < 0) = false := by simp; omega
  have gm2 : decide (1000000000 < x) = false := by simp; omega
  have q1 := endN_pos (b := b) (med := false) h5
  have q2 := endN_pos (b := b) (med := true) h5
  have q3 := (endN_spec b false (by omega)).1
  have q4 := (endN_spec b true (by omega)).1
  have e1 := mv_end b false x (by omega)
  have e2 := mv_end b true x (by omega)
  have r1 := mv_deal b false x (by omega)
  have r2 := mv_deal b true x (by omega)
  have k1 := @deal_rng b hc false
  have k2 := @deal_rng b hc true
  have Nc := Lib.hid (show lenC b false = endN b false by simp [lenC, hc])
  have Nu := Lib.hid (show lenC b true = endN b true by simp [lenC, hc])
  have Nd := Lib.hid (show lenC (b.mv x) false = endN b false by simp [lenC, hm, e1])
  have Nv := Lib.hid (show lenC (b.mv x) true = endN b true by simp [lenC, hm, e2])
  clear e1 e2
  generalize endN b false = n1 at *
  generalize endN b true = n2 at *
  obtain ⟨⟨c0, c1, c2, c3⟩, hdc⟩ : ∃ d, d = deal b false := ⟨_, rfl⟩
  obtain ⟨⟨d0, d1, d2, d3⟩, hdd⟩ : ∃ d, d = deal (b.mv x) false := ⟨_, rfl⟩
  obtain ⟨⟨u0, u1, u2, u3⟩, hdu⟩ : ∃ d, d = deal b true := ⟨_, rfl⟩
  obtain ⟨⟨v0, v1, v2, v3⟩, hdv⟩ : ∃ d, d = deal (b.mv x) true := ⟨_, rfl⟩
  rw [← hdc] at r1 k1
  rw [← hdd] at r1
  rw [← hdu] at r2 k2
  rw [← hdv] at r2
  have Ec := Lib.hid (show dealC b false = ⟨c0, c1, c2, c3⟩ by rw [hdc]; simp [dealC, hc])
  have Eu := Lib.hid (show dealC b true = ⟨u0, u1, u2, u3⟩ by rw [hdu]; simp [dealC, hc])
  have Ed := Lib.hid (show dealC (b.mv x) false = ⟨d0, d1, d2, d3⟩ by rw [hdd]; simp [dealC, hm])
  have Ev := Lib.hid (show dealC (b.mv x) true = ⟨v0, v1, v2, v3⟩ by rw [hdv]; simp [dealC, hm])
  have R1 := Lib.hid r1
  have R2 := Lib.hid r2
  have K1 := Lib.hid k1
  have K2 := Lib.hid k2
  clear hdc hdd hdu hdv r1 r2 k1 k2 hc hm p1 p2
  go_enter Try.func7, Try.ntmps7
  try dsimp only [List.append]
  go_wp2_with fail
  refine (alive_any _).mono ?_
  rintro e w1 ⟨rfl, hb1⟩
  have hB1 := heap_ext (heap_new rfl) hb1
  have yB := lt_some hB1
  have D1 := bcall ((Below.refl w.heap.size w).alloc (by first | omega | (simp; done) | (simp; omega)) _) (by first | omega | (simp; done) | (simp; omega)) hb1
  have sz1 := D1.size
  clear hb1
  have cB1 := fun j => cell_of_row w1 _ j _ _ _ hB1
  have zB1 := lt_some hB1
  have nB1 : ¬ w.heap.size = w1.heap.size := by omega
  go_wp2_with fail
  refine (check_ref b _).mono ?_
  rintro e w2 ⟨rfl, hb2⟩
  have hB2 := heap_ext hB1 hb2
  have D2 := bcall D1 (by first | omega | (simp; done) | (simp; omega)) hb2
  have sz2 := D2.size
  clear hB1 D1 hb2 cB1 zB1 nB1
  have cB2 := fun j => cell_of_row w2 _ j _ _ _ hB2
  have zB2 := lt_some hB2
  have nB2 : ¬ w.heap.size = w2.heap.size := by omega
  go_wp2_with fail
  refine (check_ref (b.mv x) _).mono ?_
  rintro e w3 ⟨rfl, hb3⟩
  have hB3 := heap_ext (heap_old hB2) hb3
  have hM3 := heap_ext (heap_new rfl) hb3
  have yM := lt_some hM3
  have D3 := bcall (D2.alloc (by first | omega | (simp; done) | (simp; omega)) _) (by first | omega | (simp; done) | (simp; omega)) hb3
  have sz3 := D3.size
  clear hB2 D2 hb3 cB2 zB2 nB2
  have cB3 := fun j => cell_of_row w3 _ j _ _ _ hB3
  have zB3 := lt_some hB3
  have nB3 : ¬ w.heap.size = w3.heap.size := by omega
  have cM3 := fun j => cell_of_row w3 _ j _ _ _ hM3
  have zM3 := lt_some hM3
  have nM3 : ¬ w2.heap.size = w3.heap.size := by omega
  go_wp2_with fail
  refine (Run_any b _).mono ?_
  rintro e w4 ⟨sc, he, hr, hb4⟩
  rw [Ec.out, HC.out] at he
  simp only [Deal.v] at he
  subst he
  rw [Nc.out] at hr
  obtain ⟨gc, capc, hvc, hgc, hcapc, hLc⟩ := row_at hr (by omega)
  subst hvc
  clear hr
  have hB4 := heap_ext hB3 hb4
  have hM4 := heap_ext hM3 hb4
  have D4 := bcall D3 (by first | omega | (simp; done) | (simp; omega)) hb4
  have sz4 := D4.size
  have oc4 := (show RowC w4 gc n1 b from ⟨hgc, hLc⟩)
  clear hB3 hM3 D3 hb4 cB3 zB3 nB3 cM3 zM3 nM3
  clear hgc hLc
  have cB4 := fun j => cell_of_row w4 _ j _ _ _ hB4
  have zB4 := lt_some hB4
  have nB4 : ¬ w.heap.size = w4.heap.size := by omega
  have cM4 := fun j => cell_of_row w4 _ j _ _ _ hM4
  have zM4 := lt_some hM4
  have nM4 : ¬ w2.heap.size = w4.heap.size := by omega
  go_wp2_with fail
  refine (Run_any (b.mv x) _).mono ?_
  rintro e w5 ⟨sd, he, hr, hb5⟩
  rw [Ed.out, HCM.out] at he
  simp only [Deal.v] at he
  subst he
  rw [Nd.out] at hr
  obtain ⟨gd, capd, hvd, hgd, hcapd, hLd⟩ := row_at hr (by omega)
  subst hvd
  clear hr
  have hB5 := heap_ext (heap_old hB4) hb5
  have hM5 := heap_ext (heap_old hM4) hb5
  have hC5 := heap_ext (heap_new rfl) hb5
  have yC := lt_some hC5
  have oc5 := (oc4.ext ((Below.refl w4.heap.size w4).alloc (by first | omega | (simp; done) | (simp; omega)) _)).ext hb5
  have D5 := bcall (D4.alloc (by first | omega | (simp; done) | (simp; omega)) _) (by first | omega | (simp; done) | (simp; omega)) hb5
  have sz5 := D5.size
  have od5 := (show RowC w5 gd n1 (b.mv x) from ⟨hgd, hLd⟩)
  clear hB4 hM4 oc4 D4 hb5 cB4 zB4 nB4 cM4 zM4 nM4
  clear hgd hLd
  have cB5 := fun j => cell_of_row w5 _ j _ _ _ hB5
  have zB5 := lt_some hB5
  have nB5 : ¬ w.heap.size = w5.heap.size := by omega
  have cM5 := fun j => cell_of_row w5 _ j _ _ _ hM5
  have zM5 := lt_some hM5
  have nM5 : ¬ w2.heap.size = w5.heap.size := by omega
  go_wp2_with fail
  refine (Mediate_any b _).mono ?_
  rintro e w6 ⟨su, he, hr, hb6⟩
  rw [Eu.out, HC.out] at he
  simp only [Deal.v] at he
  subst he
  rw [Nu.out] at hr
  obtain ⟨gu, capu, hvu, hgu, hcapu, hLu⟩ := row_at hr (by omega)
  subst hvu
  clear hr
  have hB6 := heap_ext (heap_old hB5) hb6
  have hM6 := heap_ext (heap_old hM5) hb6
  have hC6 := heap_ext (heap_old hC5) hb6
  have hE6 := heap_ext (heap_new rfl) hb6
  have yE := lt_some hE6
  have oc6 := (oc5.ext ((Below.refl w5.heap.size w5).alloc (by first | omega | (simp; done) | (simp; omega)) _)).ext hb6
  have od6 := (od5.ext ((Below.refl w5.heap.size w5).alloc (by first | omega | (simp; done) | (simp; omega)) _)).ext hb6
  have D6 := bcall (D5.alloc (by first | omega | (simp; done) | (simp; omega)) _) (by first | omega | (simp; done) | (simp; omega)) hb6
  have sz6 := D6.size
  clear hB5 hM5 hC5 oc5 od5 D5 hb6 cB5 zB5 nB5 cM5 zM5 nM5
  clear hgu hLu
  have cB6 := fun j => cell_of_row w6 _ j _ _ _ hB6
  have zB6 := lt_some hB6
  have nB6 : ¬ w.heap.size = w6.heap.size := by omega
  have cM6 := fun j => cell_of_row w6 _ j _ _ _ hM6
  have zM6 := lt_some hM6
  have nM6 : ¬ w2.heap.size = w6.heap.size := by omega
  go_wp2_with fail
  refine (Mediate_any (b.mv x) _).mono ?_
  rintro e w7 ⟨sv, he, hr, hb7⟩
  rw [Ev.out, HCM.out] at he
  simp only [Deal.v] at he
  subst he
  rw [Nv.out] at hr
  obtain ⟨gv, capv, hvv, hgv, hcapv, hLv⟩ := row_at hr (by omega)
  subst hvv
  clear hr
  have hB7 := heap_ext (heap_old hB6) hb7
  have hM7 := heap_ext (heap_old hM6) hb7
  have hC7 := heap_ext (heap_old hC6) hb7
  have hE7 := heap_ext (heap_old hE6) hb7
  have hU7 := heap_ext (heap_new rfl) hb7
  have yU := lt_some hU7
  have oc7 := (oc6.ext ((Below.refl w6.heap.size w6).alloc (by first | omega | (simp; done) | (simp; omega)) _)).ext hb7
  have od7 := (od6.ext ((Below.refl w6.heap.size w6).alloc (by first | omega | (simp; done) | (simp; omega)) _)).ext hb7
  have D7 := bcall (D6.alloc (by first | omega | (simp; done) | (simp; omega)) _) (by first | omega | (simp; done) | (simp; omega)) hb7
  have sz7 := D7.size
  clear hB6 hM6 hC6 hE6 oc6 od6 D6 hb7 cB6 zB6 nB6 cM6 zM6 nM6
  clear hgv hLv
  go_wp2_with fail
  have hb0 := (Below.refl w7.heap.size w7).alloc (Nat.le_refl _) (.cells #[.bool v0, .int .i64 v1, .int .i64 v2, .int .u8 v3] 40)
  have hV0 := heap_new (w := w7) (g := w7.heap.size) (o := .cells #[.bool v0, .int .i64 v1, .int .i64 v2, .int .u8 v3] 40) rfl
  go_loopw [19] (fun i wr => ∃ k : Nat, k ≤ n1 ∧ i = .int .i64 k ∧ Below w7.heap.size w7 wr ∧ wr.heap[w7.heap.size]? = some (.cells #[.bool v0, .int .i64 v1, .int .i64 v2, .int .u8 v3] 40 (0, 0))) (fun i _ => n1 - (intOf i).toNat)
  case atStart => exact ⟨0, by omega, rfl, hb0, hV0⟩
  case round =>
    obtain ⟨k, hk, rfl, hb, hV⟩ := hrel
    clear hb0 hV0
    by_cases hlt : k < n1
    · obtain ⟨hgC, hcC⟩ := oc7.ext hb
      obtain ⟨hgD, hcD⟩ := od7.ext hb
      obtain ⟨l1, l2⟩ := hcC k hlt
      obtain ⟨l3, l4⟩ := hcD k hlt
      rw [mv_pr] at l4
      obtain ⟨rr1, rr2⟩ := pr_rng HC.out k
      clear hcC hcD
      go_wp2_with fail
      go_quiet (fail)
      go_wp2_with fail
      go_roundw
      case rel => exact ⟨k + 1, by omega, by go_num, below_drewN hb _, hV⟩
      case measure => go_light; simp [intOf]; try omega
    · have xC := heap_ext hC7 hb
      have xE := heap_ext hE7 hb
      have xU := heap_ext hU7 hb
      have cC := fun j => cell_of_row wr _ j _ _ _ xC
      have cE := fun j => cell_of_row wr _ j _ _ _ xE
      have cU := fun j => cell_of_row wr _ j _ _ _ xU
      have cV := fun j => cell_of_row wr _ j _ _ _ hV
      have fC := fun j => frozen_of_row wr _ j _ _ xC
      have fU := fun j => frozen_of_row wr _ j _ _ xU
      have zr := hb.size
      have m1 : ¬ w4.heap.size = w5.heap.size := by omega
      have m2 : ¬ w4.heap.size = w6.heap.size := by omega
      have m3 : ¬ w4.heap.size = w7.heap.size := by omega
      have m4 : ¬ w6.heap.size = w7.heap.size := by omega
      have m5 : ¬ w6.heap.size = w5.heap.size := by omega
      have m6 : ¬ w6.heap.size = w4.heap.size := by omega
      have HD := bcall D7 D7.size hb
      have wC : w.heap.size ≤ w4.heap.size := by omega
      have wU : w.heap.size ≤ w6.heap.size := by omega
      have r1 := R1.out
      have r2 := R2.out
      have k1 := K1.out
      have k2 := K2.out
      clear R1 R2 K1 K2 HC HCM Nc Nu Nd Nv Ec Ed Eu Ev hce hcm gm1 gm2 q1 q2 q3 q4
      cases c0 <;> cases u0
      · obtain ⟨rfl, rfl, rfl, rfl⟩ := Deal.mk.inj (show (⟨d0, d1, d2, d3⟩ : Deal) = ⟨false, c1, c2, c3⟩ from r1)
        obtain ⟨rfl, rfl, rfl, rfl⟩ := Deal.mk.inj (show (⟨v0, v1, v2, v3⟩ : Deal) = ⟨false, u1, u2, u3⟩ from r2)
        clear r1 r2 k1 k2
        go_wp2_with fail
        go_ret
        exact ⟨rfl, HD⟩
      · obtain ⟨rfl, rfl, rfl, rfl⟩ := Deal.mk.inj (show (⟨d0, d1, d2, d3⟩ : Deal) = ⟨false, c1, c2, c3⟩ from r1)
        obtain ⟨rfl, rfl, rfl, rfl⟩ := Deal.mk.inj (show (⟨v0, v1, v2, v3⟩ : Deal) = ⟨true, u1 + x, u2, u3⟩ from r2)
        obtain ⟨b1, b2⟩ : 0 ≤ u1 ∧ u1 ≤ 1000000000 := k2 rfl
        clear r1 r2 k1 k2
        go_wp2_with fail
        go_ret
        exact ⟨rfl, HD.setCell wU _⟩
      · obtain ⟨rfl, rfl, rfl, rfl⟩ := Deal.mk.inj (show (⟨d0, d1, d2, d3⟩ : Deal) = ⟨true, c1 + x, c2, c3⟩ from r1)
        obtain ⟨rfl, rfl, rfl, rfl⟩ := Deal.mk.inj (show (⟨v0, v1, v2, v3⟩ : Deal) = ⟨false, u1, u2, u3⟩ from r2)
        obtain ⟨b1, b2⟩ : 0 ≤ c1 ∧ c1 ≤ 1000000000 := k1 rfl
        clear r1 r2 k1 k2
        go_wp2_with fail
        go_ret
        exact ⟨rfl, HD.setCell wC _⟩
      · obtain ⟨rfl, rfl, rfl, rfl⟩ := Deal.mk.inj (show (⟨d0, d1, d2, d3⟩ : Deal) = ⟨true, c1 + x, c2, c3⟩ from r1)
        obtain ⟨rfl, rfl, rfl, rfl⟩ := Deal.mk.inj (show (⟨v0, v1, v2, v3⟩ : Deal) = ⟨true, u1 + x, u2, u3⟩ from r2)
        obtain ⟨b1, b2⟩ : 0 ≤ c1 ∧ c1 ≤ 1000000000 := k1 rfl
        obtain ⟨b3, b4⟩ : 0 ≤ u1 ∧ u1 ≤ 1000000000 := k2 rfl
        clear r1 r2 k1 k2
        go_wp2_with fail
        go_ret
        exact ⟨rfl, (HD.setCell wC _).setCell wU _⟩

set_option maxRecDepth 100000 in
set_option maxHeartbeats 4000000 in
theorem moved_walk (b : Bg) (x : Int) (w : World) :
    Calls Try.prog 7 #[b.v, .int .i64 x] w fun e w' => e = .returned (.bool true) ∧ Below w.heap.size w w' := by
  by_cases hc : b.code = 0
  · by_cases hx0 : x < 0
    · have hce : (b.code != 0) = false := by simpa using hc
      have g1 : decide (x < 0) = true := by simpa using hx0
      clear hc

      go_enter Try.func7, Try.ntmps7
      try dsimp only [List.append]
      go_wp2_with fail
      refine (alive_any _).mono ?_
      rintro e w1 ⟨rfl, hb1⟩
      have hB1 := heap_ext (heap_new rfl) hb1
      have D1 := bcall ((Below.refl _ w).alloc (Nat.le_refl _) _) (by simp) hb1
      have cB1 := fun j => cell_of_row w1 _ j _ _ _ hB1
      go_wp2_with fail
      refine (check_ref b _).mono ?_
      rintro e w2 ⟨rfl, hb2⟩
      have hB2 := heap_ext hB1 hb2
      have cB2 := fun j => cell_of_row w2 _ j _ _ _ hB2
      have D2 := bcall D1 D1.size hb2
      go_wp2_with fail
      go_ret
      exact ⟨rfl, D2⟩

    · by_cases hx1 : 1000000000 < x
      · have hce : (b.code != 0) = false := by simpa using hc
        have g1 : decide (x < 0) = false := by simpa using hx0
        have g2 : decide (1000000000 < x) = true := by simpa using hx1
        clear hc

        go_enter Try.func7, Try.ntmps7
        try dsimp only [List.append]
        go_wp2_with fail
        refine (alive_any _).mono ?_
        rintro e w1 ⟨rfl, hb1⟩
        have hB1 := heap_ext (heap_new rfl) hb1
        have D1 := bcall ((Below.refl _ w).alloc (Nat.le_refl _) _) (by simp) hb1
        have cB1 := fun j => cell_of_row w1 _ j _ _ _ hB1
        go_wp2_with fail
        refine (check_ref b _).mono ?_
        rintro e w2 ⟨rfl, hb2⟩
        have hB2 := heap_ext hB1 hb2
        have cB2 := fun j => cell_of_row w2 _ j _ _ _ hB2
        have D2 := bcall D1 D1.size hb2
        go_wp2_with fail
        go_ret
        exact ⟨rfl, D2⟩

      · by_cases hm : (b.mv x).code = 0
        · exact moved_main b x w hc (by omega) (by omega) hm
        · obtain ⟨p1, p2, -, -, h5, h6⟩ := (code_iff b).1 hc
          obtain ⟨⟨p3, p4⟩, ⟨p5, p6⟩, -⟩ := (ok_iff b.s).1 p1
          obtain ⟨⟨p7, p8⟩, ⟨p9, p10⟩, -⟩ := (ok_iff b.b).1 p2
          have hce : (b.code != 0) = false := by simpa using hc
          have g1 : decide (x < 0) = false := by simpa using hx0
          have g2 : decide (1000000000 < x) = false := by simpa using hx1
          have hcm : ((b.mv x).code != 0) = true := by simpa using hm
          clear hc hm p1 p2

          go_enter Try.func7, Try.ntmps7
          try dsimp only [List.append]
          go_wp2_with fail
          refine (alive_any _).mono ?_
          rintro e w1 ⟨rfl, hb1⟩
          have hB1 := heap_ext (heap_new rfl) hb1
          have D1 := bcall ((Below.refl _ w).alloc (Nat.le_refl _) _) (by simp) hb1
          have cB1 := fun j => cell_of_row w1 _ j _ _ _ hB1
          go_wp2_with fail
          refine (check_ref b _).mono ?_
          rintro e w2 ⟨rfl, hb2⟩
          have hB2 := heap_ext hB1 hb2
          have cB2 := fun j => cell_of_row w2 _ j _ _ _ hB2
          have D2 := bcall D1 D1.size hb2
          go_wp2_with fail
          refine (check_ref (b.mv x) _).mono ?_
          rintro e w3 ⟨rfl, hb3⟩
          have D3 := bcall (D2.alloc D2.size _) (by simp; have := D2.size; omega) hb3
          go_wp2_with fail
          go_ret
          exact ⟨rfl, D3⟩

  · have hce : (b.code != 0) = true := by simpa using hc
    clear hc

    go_enter Try.func7, Try.ntmps7
    try dsimp only [List.append]
    go_wp2_with fail
    refine (alive_any _).mono ?_
    rintro e w1 ⟨rfl, hb1⟩
    have hB1 := heap_ext (heap_new rfl) hb1
    have D1 := bcall ((Below.refl _ w).alloc (Nat.le_refl _) _) (by simp) hb1
    have cB1 := fun j => cell_of_row w1 _ j _ _ _ hB1
    go_wp2_with fail
    refine (check_ref b _).mono ?_
    rintro e w2 ⟨rfl, hb2⟩
    have hB2 := heap_ext hB1 hb2
    have cB2 := fun j => cell_of_row w2 _ j _ _ _ hB2
    have D2 := bcall D1 D1.size hb2
    go_wp2_with fail
    go_ret
    exact ⟨rfl, D2⟩

end Go.Proofs.Ytigphmocjgojhaa
