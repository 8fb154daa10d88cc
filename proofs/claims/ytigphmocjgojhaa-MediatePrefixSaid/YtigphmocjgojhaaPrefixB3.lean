/- MediatePrefix returns true for every bargain and every number of offers: case 3. -/
import Derived.Test.YtigphmocjgojhaaPrefixA
import Derived.BigGuardPart
namespace Go.Proofs.Ytigphmocjgojhaa
open Go.RowKit
set_option linter.unusedVariables false
set_option linter.unusedSimpArgs false

set_option maxRecDepth 100000 in
set_option maxHeartbeats 8000000 in
theorem prefix_ll (b : Bg) (m : Nat) (w : World) (hc : b.code = 0) (hm1 : 1 ≤ m) (hmo : (m : Int) ≤ b.o)
    (hA : m ≤ endN b false) (hB : m ≤ endN b true) :
    Calls Try.prog 6 #[b.v, .int .i64 m] w fun e w' => e = .returned (.bool true) ∧ Below w.heap.size w w' := by
  obtain ⟨-, -, -, -, h5, h6⟩ := (code_iff b).1 hc
  have HC := Lib.hid hc
  have HCF := Lib.hid (few_code (m := m) hc (by omega) hmo)
  have hce : (b.code != 0) = false := by simpa using hc
  have a1 := endN_pos (b := b) (med := false) h5
  have a2 := endN_pos (b := b) (med := true) h5
  have a3 := (endN_spec b false (by omega)).1
  have a4 := (endN_spec b true (by omega)).1
  have e1 := few_end (b := b) (med := false) (m := m) (by omega) hmo
  have e2 := few_end (b := b) (med := true) (m := m) (by omega) hmo
  have r1 := few_run (b := b) (m := m) (by omega) hmo
  have r2 := few_med (b := b) (m := m) (by omega) hmo
  rw [Nat.min_eq_left (by omega)] at e1
  rw [Nat.min_eq_left (by omega)] at e2
  have Nc := Lib.hid (show lenC b false = endN b false by simp [lenC, hc])
  have Nu := Lib.hid (show lenC b true = endN b true by simp [lenC, hc])
  have Nd := Lib.hid (show lenC (b.few m) false = m by simp [lenC, HCF.out, e1])
  have Nv := Lib.hid (show lenC (b.few m) true = m by simp [lenC, HCF.out, e2])
  clear e1 e2
  generalize endN b false = n1 at *
  generalize endN b true = n2 at *
  obtain ⟨⟨c0, c1, c2, c3⟩, hdc⟩ : ∃ d, d = deal b false := ⟨_, rfl⟩
  obtain ⟨⟨d0, d1, d2, d3⟩, hdd⟩ : ∃ d, d = deal (b.few m) false := ⟨_, rfl⟩
  obtain ⟨⟨u0, u1, u2, u3⟩, hdu⟩ : ∃ d, d = deal b true := ⟨_, rfl⟩
  obtain ⟨⟨v0, v1, v2, v3⟩, hdv⟩ : ∃ d, d = deal (b.few m) true := ⟨_, rfl⟩
  rw [← hdc, ← hdd] at r1
  rw [← hdu, ← hdv] at r2
  have Ec := Lib.hid (show dealC b false = ⟨c0, c1, c2, c3⟩ by rw [hdc]; simp [dealC, hc])
  have Eu := Lib.hid (show dealC b true = ⟨u0, u1, u2, u3⟩ by rw [hdu]; simp [dealC, hc])
  have Ed := Lib.hid (show dealC (b.few m) false = ⟨d0, d1, d2, d3⟩ by rw [hdd]; simp [dealC, HCF.out])
  have Ev := Lib.hid (show dealC (b.few m) true = ⟨v0, v1, v2, v3⟩ by rw [hdv]; simp [dealC, HCF.out])
  have R1 := Lib.hid r1
  have R2 := Lib.hid r2
  clear hdc hdd hdu hdv r1 r2 hc
  have gm1 : decide ((m : Int) < 1) = false := by simp; omega
  have gm2 : decide (b.o < (m : Int)) = false := by simp; omega
  go_enter Try.func6, Try.ntmps6
  dsimp only [List.append]
  go_wp2_with fail
  refine (alive_any _).mono ?_
  rintro e w1 ⟨rfl, hb1⟩
  have hB1 := heap_ext (heap_new rfl) hb1
  have D1 := bcall ((Below.refl w.heap.size w).alloc (by first | omega | (simp; done) | (simp; omega)) _) (by first | omega | (simp; done) | (simp; omega)) hb1
  have sz1 := D1.size
  clear hb1
  have cB1 := fun j => cell_of_row w1 _ j _ _ _ hB1
  have zB1 := lt_some hB1
  have nB1 : ¬ w.heap.size = w1.heap.size := by omega
  go_wp2_with fail
  refine (check_ref b _).mono ?_
  rintro e w2 ⟨rfl, hb2⟩
  have hB2 := heap_ext hB1 hb2
  have D2 := bcall D1 (by first | omega | (simp; done) | (simp; omega)) hb2
  have sz2 := D2.size
  clear hB1 D1 hb2 cB1 zB1 nB1
  have cB2 := fun j => cell_of_row w2 _ j _ _ _ hB2
  have zB2 := lt_some hB2
  have nB2 : ¬ w.heap.size = w2.heap.size := by omega
  go_wp2_with fail
  refine (Run_any b _).mono ?_
  rintro e w3 ⟨sc, he, hr, hb3⟩
  rw [Ec.out, HC.out] at he
  simp only [Deal.v] at he
  subst he
  rw [Nc.out] at hr
  obtain ⟨gc, capc, hvc, -, hcapc, -⟩ := row_at hr (by omega)
  subst hvc
  have hB3 := heap_ext (heap_old hB2) hb3
  have hF3 := heap_ext (heap_new rfl) hb3
  have D3 := bcall (D2.alloc (by first | omega | (simp; done) | (simp; omega)) _) (by first | omega | (simp; done) | (simp; omega)) hb3
  have sz3 := D3.size
  have oc3 := offR_take hr (k := m) (by omega) (by omega)
  clear hB2 D2 hb3 cB2 zB2 nB2
  clear hr
  have cB3 := fun j => cell_of_row w3 _ j _ _ _ hB3
  have zB3 := lt_some hB3
  have nB3 : ¬ w.heap.size = w3.heap.size := by omega
  have cF3 := fun j => cell_of_row w3 _ j _ _ _ hF3
  have zF3 := lt_some hF3
  have nF3 : ¬ w2.heap.size = w3.heap.size := by omega
  go_wp2_with fail
  refine (Run_any (b.few m) _).mono ?_
  rintro e w4 ⟨sd, he, hr, hb4⟩
  rw [Ed.out, HCF.out] at he
  simp only [Deal.v] at he
  subst he
  rw [Nd.out] at hr
  obtain ⟨gd, capd, hvd, -, hcapd, -⟩ := row_at hr (by omega)
  subst hvd
  have hB4 := heap_ext (heap_old hB3) hb4
  have hF4 := heap_ext (heap_old hF3) hb4
  have hC4 := heap_ext (heap_new rfl) hb4
  have oc4 := (oc3.ext ((Below.refl w3.heap.size w3).alloc (by first | omega | (simp; done) | (simp; omega)) _)).ext hb4
  have D4 := bcall (D3.alloc (by first | omega | (simp; done) | (simp; omega)) _) (by first | omega | (simp; done) | (simp; omega)) hb4
  have sz4 := D4.size
  have od4 := offR_take hr (k := m) (by omega) (by omega)
  clear hB3 hF3 oc3 D3 hb4 cB3 zB3 nB3 cF3 zF3 nF3
  clear hr
  have cB4 := fun j => cell_of_row w4 _ j _ _ _ hB4
  have zB4 := lt_some hB4
  have nB4 : ¬ w.heap.size = w4.heap.size := by omega
  have cF4 := fun j => cell_of_row w4 _ j _ _ _ hF4
  have zF4 := lt_some hF4
  have nF4 : ¬ w2.heap.size = w4.heap.size := by omega
  go_wp2_with fail
  refine (Mediate_any b _).mono ?_
  rintro e w5 ⟨su, he, hr, hb5⟩
  rw [Eu.out, HC.out] at he
  simp only [Deal.v] at he
  subst he
  rw [Nu.out] at hr
  obtain ⟨gu, capu, hvu, -, hcapu, -⟩ := row_at hr (by omega)
  subst hvu
  have hB5 := heap_ext (heap_old hB4) hb5
  have hF5 := heap_ext (heap_old hF4) hb5
  have hC5 := heap_ext (heap_old hC4) hb5
  have hE5 := heap_ext (heap_new rfl) hb5
  have oc5 := (oc4.ext ((Below.refl w4.heap.size w4).alloc (by first | omega | (simp; done) | (simp; omega)) _)).ext hb5
  have od5 := (od4.ext ((Below.refl w4.heap.size w4).alloc (by first | omega | (simp; done) | (simp; omega)) _)).ext hb5
  have D5 := bcall (D4.alloc (by first | omega | (simp; done) | (simp; omega)) _) (by first | omega | (simp; done) | (simp; omega)) hb5
  have sz5 := D5.size
  have ou5 := offR_take hr (k := m) (by omega) (by omega)
  clear hB4 hF4 hC4 oc4 od4 D4 hb5 cB4 zB4 nB4 cF4 zF4 nF4
  clear hr
  have cB5 := fun j => cell_of_row w5 _ j _ _ _ hB5
  have zB5 := lt_some hB5
  have nB5 : ¬ w.heap.size = w5.heap.size := by omega
  have cF5 := fun j => cell_of_row w5 _ j _ _ _ hF5
  have zF5 := lt_some hF5
  have nF5 : ¬ w2.heap.size = w5.heap.size := by omega
  go_wp2_with fail
  refine (Mediate_any (b.few m) _).mono ?_
  rintro e w6 ⟨sv, he, hr, hb6⟩
  rw [Ev.out, HCF.out] at he
  simp only [Deal.v] at he
  subst he
  rw [Nv.out] at hr
  obtain ⟨gv, capv, hvv, -, hcapv, -⟩ := row_at hr (by omega)
  subst hvv
  have hB6 := heap_ext (heap_old hB5) hb6
  have hF6 := heap_ext (heap_old hF5) hb6
  have hC6 := heap_ext (heap_old hC5) hb6
  have hE6 := heap_ext (heap_old hE5) hb6
  have hU6 := heap_ext (heap_new rfl) hb6
  have oc6 := (oc5.ext ((Below.refl w5.heap.size w5).alloc (by first | omega | (simp; done) | (simp; omega)) _)).ext hb6
  have od6 := (od5.ext ((Below.refl w5.heap.size w5).alloc (by first | omega | (simp; done) | (simp; omega)) _)).ext hb6
  have ou6 := (ou5.ext ((Below.refl w5.heap.size w5).alloc (by first | omega | (simp; done) | (simp; omega)) _)).ext hb6
  have D6 := bcall (D5.alloc (by first | omega | (simp; done) | (simp; omega)) _) (by first | omega | (simp; done) | (simp; omega)) hb6
  have sz6 := D6.size
  have ov6 := offR_take hr (k := m) (by omega) (by omega)
  clear hB5 hF5 hC5 hE5 oc5 od5 ou5 D5 hb6 cB5 zB5 nB5 cF5 zF5 nF5
  clear hr
  go_wp2_with fail
  refine (same_true _ _ (offL b m) _ (oc6.ext ((Below.refl w6.heap.size w6).alloc (by first | omega | (simp; done) | (simp; omega)) _)) ((few_off od6).ext ((Below.refl w6.heap.size w6).alloc (by first | omega | (simp; done) | (simp; omega)) _))).mono ?_
  rintro e w7 ⟨rfl, hb7⟩
  have hB7 := heap_ext (heap_old hB6) hb7
  have hF7 := heap_ext (heap_old hF6) hb7
  have hC7 := heap_ext (heap_old hC6) hb7
  have hE7 := heap_ext (heap_old hE6) hb7
  have hU7 := heap_ext (heap_old hU6) hb7
  have hV7 := heap_ext (heap_new rfl) hb7
  have oc7 := (oc6.ext ((Below.refl w6.heap.size w6).alloc (by first | omega | (simp; done) | (simp; omega)) _)).ext hb7
  have od7 := (od6.ext ((Below.refl w6.heap.size w6).alloc (by first | omega | (simp; done) | (simp; omega)) _)).ext hb7
  have ou7 := (ou6.ext ((Below.refl w6.heap.size w6).alloc (by first | omega | (simp; done) | (simp; omega)) _)).ext hb7
  have ov7 := (ov6.ext ((Below.refl w6.heap.size w6).alloc (by first | omega | (simp; done) | (simp; omega)) _)).ext hb7
  have D7 := bcall (D6.alloc (by first | omega | (simp; done) | (simp; omega)) _) (by first | omega | (simp; done) | (simp; omega)) hb7
  have sz7 := D7.size
  clear hB6 hF6 hC6 hE6 hU6 oc6 od6 ou6 ov6 D6 hb7
  go_wp2_with fail
  refine (same_true _ _ (offL b m) _ ou7 (few_off ov7)).mono ?_
  rintro e w8 ⟨rfl, hb8⟩
  have hB8 := heap_ext hB7 hb8
  have hF8 := heap_ext hF7 hb8
  have hC8 := heap_ext hC7 hb8
  have hE8 := heap_ext hE7 hb8
  have hU8 := heap_ext hU7 hb8
  have hV8 := heap_ext hV7 hb8
  have oc8 := oc7.ext hb8
  have od8 := od7.ext hb8
  have ou8 := ou7.ext hb8
  have ov8 := ov7.ext hb8
  have D8 := bcall D7 (by first | omega | (simp; done) | (simp; omega)) hb8
  have sz8 := D8.size
  clear hB7 hF7 hC7 hE7 hU7 hV7 oc7 od7 ou7 ov7 D7 hb8
  have cC8 := fun j => cell_of_row w8 _ j _ _ _ hC8
  have zC8 := lt_some hC8
  have nC8 : ¬ w3.heap.size = w8.heap.size := by omega
  have cE8 := fun j => cell_of_row w8 _ j _ _ _ hE8
  have zE8 := lt_some hE8
  have nE8 : ¬ w4.heap.size = w8.heap.size := by omega
  have cU8 := fun j => cell_of_row w8 _ j _ _ _ hU8
  have zU8 := lt_some hU8
  have nU8 : ¬ w5.heap.size = w8.heap.size := by omega
  have cV8 := fun j => cell_of_row w8 _ j _ _ _ hV8
  have zV8 := lt_some hV8
  have nV8 : ¬ w6.heap.size = w8.heap.size := by omega
  have hD := D8
  clear D8
  have r1 := R1.out
  have r2 := R2.out
  clear R1 R2 HC HCF Nc Nd Nu Nv Ec Ed Eu Ev hce h5 h6 a1 a2 a3 a4 hA hB hm1 hmo
  rcases r1 with q1 | ⟨rfl, q1⟩ <;> rcases r2 with q2 | ⟨rfl, q2⟩
  · obtain ⟨rfl, rfl, rfl, rfl⟩ := Deal.mk.inj q1
    obtain ⟨rfl, rfl, rfl, rfl⟩ := Deal.mk.inj q2
    clear q1 q2
    cases d0 <;> cases v0 <;> (go_wp2; all_goals (go_ret; exact ⟨rfl, hD⟩))
  · obtain ⟨rfl, rfl, rfl, rfl⟩ := Deal.mk.inj q1
    clear q1
    cases d0 <;> cases u0
    · clear q2; (go_wp2; all_goals (go_ret; exact ⟨rfl, hD⟩))
    · rcases q2 with q2 | q2 | ⟨q2, q3⟩
      · simp at q2
      · (go_wp2; all_goals (go_ret; exact ⟨rfl, hD⟩))
      · subst q2; (go_wp2; all_goals (go_ret; exact ⟨rfl, hD⟩))
    · clear q2; (go_wp2; all_goals (go_ret; exact ⟨rfl, hD⟩))
    · rcases q2 with q2 | q2 | ⟨q2, q3⟩
      · simp at q2
      · (go_wp2; all_goals (go_ret; exact ⟨rfl, hD⟩))
      · subst q2; (go_wp2; all_goals (go_ret; exact ⟨rfl, hD⟩))
  · obtain ⟨rfl, rfl, rfl, rfl⟩ := Deal.mk.inj q2
    clear q2
    cases c0 <;> cases v0
    · clear q1; (go_wp2; all_goals (go_ret; exact ⟨rfl, hD⟩))
    · clear q1; (go_wp2; all_goals (go_ret; exact ⟨rfl, hD⟩))
    · have q1 := q1.resolve_left (by simp); (go_wp2; all_goals (go_ret; exact ⟨rfl, hD⟩))
    · have q1 := q1.resolve_left (by simp); (go_wp2; all_goals (go_ret; exact ⟨rfl, hD⟩))
  · cases c0 <;> cases u0
    · clear q1 q2; (go_wp2; all_goals (go_ret; exact ⟨rfl, hD⟩))
    · clear q1
      rcases q2 with q2 | q2 | ⟨q2, q3⟩
      · simp at q2
      · (go_wp2; all_goals (go_ret; exact ⟨rfl, hD⟩))
      · subst q2; (go_wp2; all_goals (go_ret; exact ⟨rfl, hD⟩))
    · clear q2
      have q1 := q1.resolve_left (by simp); (go_wp2; all_goals (go_ret; exact ⟨rfl, hD⟩))
    · have q1 := q1.resolve_left (by simp)
      rcases q2 with q2 | q2 | ⟨q2, q3⟩
      · simp at q2
      · (go_wp2; all_goals (go_ret; exact ⟨rfl, hD⟩))
      · subst q2; (go_wp2; all_goals (go_ret; exact ⟨rfl, hD⟩))

end Go.Proofs.Ytigphmocjgojhaa
