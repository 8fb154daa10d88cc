/- CakeParts returns true. -/
import Derived.Test.YtgcbmnohhbcfiaaCkFn
import Derived.Test.YtgcbmnohhbcfiaaCkFp
import Derived.Test.YtgcbmnohhbcfiaaCkS
namespace Go.Proofs.Ytgcbmnohhbcfiaa
open Go.RowKit Go.Deep
set_option linter.unusedVariables false
set_option linter.unusedSimpArgs false

/-- An element of a row is written. -/
theorem Mx.setRow {w W : World} {L : List (Nat × Obj)} {R : List Rw} {g n cap size : Nat} {e : TypeId} {xs : List Value} (h : Mx w L R W) (i : Nat) (hi : R[i]? = some ⟨.slice (some ⟨g, 0, none⟩) n cap, e, size, n, xs⟩) (j : Nat) (u : Value) :
    Mx w L (R.set i ⟨.slice (some ⟨g, 0, none⟩) n cap, e, size, n, xs.set j u⟩) (W.setCell ⟨g, j, none⟩ u) :=
  have s := (h.row i hi).stored j u
  h.grow i hi s.2 s.1 (Or.inl rfl)
theorem own_some {B : Nat} {w : World} {e : TypeId} {A : Option Addr} {c n size : Nat} {xs : List Value} (h : w.ownsRow B e size (.slice A n c) n xs) (hn : 0 < n) : ∃ g, A = some ⟨g, 0, none⟩ := by
  rcases h.2 with ⟨e, _⟩ | ⟨g, cap, cur, e, _⟩
  · obtain ⟨_, rfl, _⟩ := Value.slice.inj e; omega
  · obtain ⟨rfl, _, _⟩ := Value.slice.inj e; exact ⟨g, rfl⟩
theorem KRes.split3 {N : Ck} {x : Int} {w w' : World} {e : Ending} (h : KRes N x w e w') : ∃ A c R d, e = .returned (.tuple #[cV A c R d N, .int .i64 x]) ∧ CIn w'.heap.size w' A c R d N ∧ Below w.heap.size w w' ∧ w'.ownsRow w.heap.size 3 1 (.slice A N.cuts.length c) N.cuts.length (intsV N.cuts) ∧ w'.ownsRow w.heap.size 3 1 (.slice R N.dens.length d) N.dens.length (intsV N.dens) := by
  obtain ⟨u, v, rfl, hk, hb⟩ := h
  obtain ⟨A, c, R, d, rfl, rfl⟩ := hk.shape
  exact ⟨A, c, R, d, rfl, hk.fresh.here, hb, hk.cu, hk.de⟩
set_option maxRecDepth 100000 in
set_option maxHeartbeats 16000000 in
theorem parts_walk (K : Ck) (A : Option Addr) (c : Nat) (R : Option Addr) (d : Nat) (f t : Int) (hf0 : -9223372036854775808 ≤ f) (hf1 : f ≤ 9223372036854775807) (ht0 : -9223372036854775808 ≤ t) (ht1 : t ≤ 9223372036854775807) (w : World) (h : CIn w.heap.size w A c R d K) :
    Calls Try.prog 3 #[cV A c R d K, .int .i64 f, .int .i64 t] w fun e w' => e = .returned (.bool true) ∧ Below w.heap.size w w' := by
  have hB0 : Bx w [(w.heap.size, cB A c R d K)] (w.alloc (cB A c R d K)) := (Bx.start w).new rfl _
  have HH := Lib.hid h
  have G1 := Lib.hid (fun (W : World) => cgreat_any K A c R d (Nat.le_trans h.lc h.mc) (Nat.le_trans h.ld h.md) W)
  have HT := Lib.hid (fun (hm : K.big = false) (W : World) (hW : Below w.heap.size w W) => ctwin_any K A c R d W (h.next hW) hm)
  have HN1 := Lib.hid (fun (W : World) (hW : Below w.heap.size w W) => cnormal_any K A c R d W (h.next hW))
  have HN2 := Lib.hid (fun (W : World) (hW : Below w.heap.size w W) => fnormal_any K A c R d W (h.next hW))
  have HP1 := Lib.hid (fun (W : World) (hW : Below w.heap.size w W) => cpart_any K A c R d f t hf0 hf1 ht0 ht1 W (h.next hW))
  have HP2 := Lib.hid (fun (W : World) (hW : Below w.heap.size w W) => fpart_any K A c R d f t hf0 hf1 ht0 ht1 W (h.next hW))
  clear h hf0 hf1 ht0 ht1
  generalize K.norm? = N at *
  generalize K.code = kc at *
  generalize K.part? f t = P at *
  generalize K.partC f t = pc at *
  obtain ⟨kb, hkb⟩ : ∃ b, b = K.big := ⟨_, rfl⟩
  rw [← hkb] at G1
  have HKB := Lib.hid hkb
  clear hkb
  go_enter Try.func3, Try.ntmps3
  try dsimp only [List.append]
  have c_K := fun j => cell_of_row _ _ j _ _ _ (hB0.get 0 rfl)
  have z_K := hB0.lt 0 rfl
  go_wp2_with fail
  refine (G1.out _).mono ?_
  rintro e w1 ⟨rfl, hb⟩
  have hB1 := hB0.next hb
  clear c_K z_K hb hB0
  cases kb with
  | true =>
    have HE := Lib.hid hB1.below
    clear hB1
    go_wp2_with fail
    go_ret
    exact ⟨rfl, HE.out⟩
  | false =>
  have c_K := fun j => cell_of_row _ _ j _ _ _ (hB1.get 0 rfl)
  have z_K := hB1.lt 0 rfl
  go_wp2_with fail
  refine Calls.mono (HT.out HKB.out.symm _ hB1.below) ?_
  rintro e w2 ⟨u0, v0, rfl, hko, hb⟩
  obtain ⟨A0, c0, R0, d0, rfl, rfl⟩ := hko.shape
  have hWas := hko.fresh.here
  have hB2 := hB1.next hb
  clear hko hb hB1
  clear c_K z_K
  go_upto_region 4 with fail
  have hB3 := hB2.new rfl (cB A0 c0 R0 d0 K)
  have hWas3 := hWas.next (one_alloc w2 (cB A0 c0 R0 d0 K))
  clear hWas hB2
  generalize w2.heap.size = gW at *
  generalize w2.alloc _ = w3 at *
  have HB3 := Lib.hid hB3.below
  have HK3 := Lib.hid (hB3.get 1 rfl)
  have HW3 := Lib.hid (hB3.get 0 rfl)
  have HWC := Lib.hid hWas3
  clear hB3 hWas3 HT G1
  have hM0 : Mx w3 [] [] w3 := Mx.of_bx (Bx.start w3)
  have c_K := fun j => cell_of_row _ _ j _ _ _ (heap_ext HK3.out hM0.below)
  have z_K := lt_some (heap_ext HK3.out hM0.below)
  go_wp2_with fail
  refine Calls.mono (HN1.out _ (bcall HB3.out HB3.out.size hM0.below)) ?_
  intro e w11 hkr
  obtain ⟨A1, c1, R1, d1, rfl, hN1, hb, hcu, hde⟩ := hkr.split3
  have hB11m := hM0.addI hb hcu
  clear c_K z_K hb hkr hcu hde hM0
  go_upto_region 5 with fail
  have hB11 := hB11m.new rfl (cB A1 c1 R1 d1 N)
  have hN1 := hN1.next (one_alloc w11 (cB A1 c1 R1 d1 N))
  clear hB11m
  generalize w11.heap.size = ga at *
  generalize w11.alloc _ = w11b at *
  have c_K := fun j => cell_of_row _ _ j _ _ _ (heap_ext HK3.out hB11.below)
  have z_K := lt_some (heap_ext HK3.out hB11.below)
  go_wp2_with fail
  refine Calls.mono (HN2.out _ (bcall HB3.out HB3.out.size hB11.below)) ?_
  intro e w12 hkr
  obtain ⟨A2, c2, R2, d2, rfl, hN2, hb, hcu, hde⟩ := hkr.split3
  have hB12m := hB11.next hb
  have hN1 := hN1.next hb
  clear c_K z_K hb hkr hcu hde hB11
  go_upto_region 6 with fail
  have hB12 := hB12m.new rfl (cB A2 c2 R2 d2 N)
  have hN2 := hN2.next (one_alloc w12 (cB A2 c2 R2 d2 N))
  have hN1 := hN1.next (one_alloc w12 (cB A2 c2 R2 d2 N))
  clear hB12m
  generalize w12.heap.size = gb at *
  generalize w12.alloc _ = w12b at *
  have c_K := fun j => cell_of_row _ _ j _ _ _ (heap_ext HK3.out hB12.below)
  have z_K := lt_some (heap_ext HK3.out hB12.below)
  go_wp2_with fail
  refine Calls.mono (HP1.out _ (bcall HB3.out HB3.out.size hB12.below)) ?_
  intro e w13 hkr
  obtain ⟨A3, c3, R3, d3, rfl, hP1, hb, hcu, hde⟩ := hkr.split3
  have hB13m := hB12.addI hb hde
  have hN1 := hN1.next hb
  have hN2 := hN2.next hb
  clear c_K z_K hb hkr hcu hde hB12
  go_upto_region 7 with fail
  have hB13 := hB13m.new rfl (cB A3 c3 R3 d3 P)
  have hP1 := hP1.next (one_alloc w13 (cB A3 c3 R3 d3 P))
  have hN1 := hN1.next (one_alloc w13 (cB A3 c3 R3 d3 P))
  have hN2 := hN2.next (one_alloc w13 (cB A3 c3 R3 d3 P))
  clear hB13m
  generalize w13.heap.size = gd at *
  generalize w13.alloc _ = w13b at *
  have c_K := fun j => cell_of_row _ _ j _ _ _ (heap_ext HK3.out hB13.below)
  have z_K := lt_some (heap_ext HK3.out hB13.below)
  go_wp2_with fail
  refine Calls.mono (HP2.out _ (bcall HB3.out HB3.out.size hB13.below)) ?_
  intro e w14 hkr
  obtain ⟨A4, c4, R4, d4, rfl, hP2, hb, hcu, hde⟩ := hkr.split3
  have hB14m := hB13.next hb
  have hN1 := hN1.next hb
  have hN2 := hN2.next hb
  have hP1 := hP1.next hb
  clear c_K z_K hb hkr hcu hde hB13
  go_upto_region 8 with fail
  have hB14 := hB14m.new rfl (cB A4 c4 R4 d4 P)
  have hP2 := hP2.next (one_alloc w14 (cB A4 c4 R4 d4 P))
  have hN1 := hN1.next (one_alloc w14 (cB A4 c4 R4 d4 P))
  have hN2 := hN2.next (one_alloc w14 (cB A4 c4 R4 d4 P))
  have hP1 := hP1.next (one_alloc w14 (cB A4 c4 R4 d4 P))
  clear hB14m
  generalize w14.heap.size = gh at *
  generalize w14.alloc _ = w14b at *
  have t1 : (kc != kc) = false := by simp
  have t2 : (pc != pc) = false := by simp
  have S1 := fsame_any N N A1 c1 R1 d1 A2 c2 R2 d2 _ hN1 hN2
  have S2 := Lib.hid (fun (W : World) (hW : Below w14b.heap.size w14b W) => fsame_any P P A3 c3 R3 d3 A4 c4 R4 d4 W (hP1.next hW) (hP2.next hW))
  rw [sameK_self] at S1 S2
  clear hN1 hN2 hP1 hP2 HN1 HN2 HP1 HP2
  have c_h := fun j => cell_of_row _ _ j _ _ _ (hB14.get 0 rfl)
  have z_h := hB14.lt 0 rfl
  have c_d := fun j => cell_of_row _ _ j _ _ _ (hB14.get 1 rfl)
  have z_d := hB14.lt 1 rfl
  have c_b := fun j => cell_of_row _ _ j _ _ _ (hB14.get 2 rfl)
  have z_b := hB14.lt 2 rfl
  have c_a := fun j => cell_of_row _ _ j _ _ _ (hB14.get 3 rfl)
  have z_a := hB14.lt 3 rfl
  go_wp2_with fail
  refine S1.mono ?_
  rintro e ws1 ⟨rfl, hb⟩
  have s2 := S2.out _ hb
  have hB15 := hB14.next hb
  clear c_h z_h c_d z_d c_b z_b c_a z_a hb S1 S2 hB14
  have c_h := fun j => cell_of_row _ _ j _ _ _ (hB15.get 0 rfl)
  have z_h := hB15.lt 0 rfl
  have c_d := fun j => cell_of_row _ _ j _ _ _ (hB15.get 1 rfl)
  have z_d := hB15.lt 1 rfl
  have c_b := fun j => cell_of_row _ _ j _ _ _ (hB15.get 2 rfl)
  have z_b := hB15.lt 2 rfl
  have c_a := fun j => cell_of_row _ _ j _ _ _ (hB15.get 3 rfl)
  have z_a := hB15.lt 3 rfl
  go_wp2_with fail
  refine s2.mono ?_
  rintro e ws2 ⟨rfl, hb⟩
  have hB16 := hB15.next hb
  clear c_h z_h c_d z_d c_b z_b c_a z_a hb s2 hB15
  have c_d := fun j => cell_of_row _ _ j _ _ _ (hB16.get 1 rfl)
  have z_d := hB16.lt 1 rfl
  go_wp2_with fail
  clear c_d z_d
  have HM5 := Lib.hid hB16
  clear hB16 t1 t2
  go_loopw [16] (fun s16 wr => ∃ (k : Nat) (l m : List Int), k ≤ P.dens.length ∧ l.length = P.dens.length ∧ m.length = N.cuts.length ∧ s16 = .int .i64 k ∧ Mx w3 [(gh, cB A4 c4 R4 d4 P), (gd, cB A3 c3 R3 d3 P), (gb, cB A2 c2 R2 d2 N), (ga, cB A1 c1 R1 d1 N)] [⟨.slice R3 P.dens.length d3, 3, 1, P.dens.length, intsV l⟩, ⟨.slice A1 N.cuts.length c1, 3, 1, N.cuts.length, intsV m⟩] wr) (fun s16 _ => P.dens.length - (intOf s16).toNat)
  case atStart => exact ⟨0, _, _, Nat.zero_le _, rfl, rfl, rfl, HM5.out⟩
  case round =>
    as_aux_lemma =>
    obtain ⟨k, l, m, hk, hl, hm, rfl, hM6⟩ := hrel
    clear HM5
    by_cases hlt : k < P.dens.length
    · have c_d := fun j => cell_of_row _ _ j _ _ _ (hM6.get 1 rfl)
      have z_d := hM6.lt 1 rfl
      obtain ⟨g, rfl⟩ := own_some (hM6.row 0 rfl) (show 0 < P.dens.length by omega)
      have z1 : (k : Int) < (P.dens.length : Int) := by omega
      have z3 : (0 : Int) ≤ (k : Int) := by omega
      have HBD := Lib.hid (show k + 1 ≤ 9223372036854775807 by have := (hM6.row 0 rfl); have h2 := (own_nil_len this); obtain ⟨_, _, _, q1, q2⟩ := h2; have q1 : P.dens.length ≤ _ := q1; unfold maxLen at q2; omega)
      have y1 : IntKind.i64.wrap ((k : Int) + 1) = (k : Int) + 1 := IntWalk.i64_in _ (by have := HBD.out; omega)
      have y1' : wrap64 ((k : Int) + 1) = (k : Int) + 1 := IntWalk.wrap64_in _ (by have := HBD.out; omega)
      have HME := Lib.hid (And.intro (Nat.succ_le_of_lt hlt) (Nat.sub_lt_sub_left hlt (Nat.lt_succ_self k)))
      have ce : wr.cell? ⟨g, k, none⟩ = some (.int .i64 (gi l k)) := by
        have := (hM6.row 0 rfl).cellAt k (by show k < P.dens.length * 1; omega)
        rw [this]; exact intsV_at (by omega)
      have cf : ∀ j, wr.frozen? ⟨g, j, none⟩ = false := fun j => (hM6.row 0 rfl).frozenAt j
      have zg := (own_ge' (hM6.row 0 rfl) g rfl).2
      have hN := hM6.setRow 0 rfl k (.int .i64 (-1))
      simp only [intsV_set] at hN
      have HZ := Lib.hid hN
      have HLL := Lib.hid (show (l.set k (-1)).length = P.dens.length by simp; omega)
      clear hM6 hN hlt
      go_wp2_with fail
      exact ⟨⟨k + 1, l.set k (-1), m, HME.out.1, HLL.out, hm, by go_num, HZ.out⟩, by simpa [intOf] using HME.out.2⟩
    obtain rfl : k = P.dens.length := by omega
    clear hlt hk
    have c_d := fun j => cell_of_row _ _ j _ _ _ (hM6.get 1 rfl)
    have z_d := hM6.lt 1 rfl
    have c_a := fun j => cell_of_row _ _ j _ _ _ (hM6.get 3 rfl)
    have z_a := hM6.lt 3 rfl
    go_wp2_with fail
    clear c_d z_d c_a z_a
    have HM6 := Lib.hid hM6
    clear hM6
    go_loopw [17] (fun s17 wr => ∃ (k : Nat) (m : List Int), k ≤ N.cuts.length ∧ m.length = N.cuts.length ∧ s17 = .int .i64 k ∧ Mx w3 [(gh, cB A4 c4 R4 d4 P), (gd, cB A3 c3 R3 d3 P), (gb, cB A2 c2 R2 d2 N), (ga, cB A1 c1 R1 d1 N)] [⟨.slice R3 P.dens.length d3, 3, 1, P.dens.length, intsV l⟩, ⟨.slice A1 N.cuts.length c1, 3, 1, N.cuts.length, intsV m⟩] wr) (fun s17 _ => N.cuts.length - (intOf s17).toNat)
    case atStart => exact ⟨0, m, Nat.zero_le _, hm, rfl, HM6.out⟩
    case round =>
      as_aux_lemma =>
      clear hm HM6
      obtain ⟨k, m, hk, hm, rfl, hM7⟩ := hrel
      by_cases hlt : k < N.cuts.length
      · have c_a := fun j => cell_of_row _ _ j _ _ _ (hM7.get 3 rfl)
        have z_a := hM7.lt 3 rfl
        obtain ⟨g, rfl⟩ := own_some (hM7.row 1 rfl) (show 0 < N.cuts.length by omega)
        have z1 : (k : Int) < (N.cuts.length : Int) := by omega
        have z3 : (0 : Int) ≤ (k : Int) := by omega
        have HBD := Lib.hid (show k + 1 ≤ 9223372036854775807 by have := (hM7.row 1 rfl); have h2 := (own_nil_len this); obtain ⟨_, _, _, q1, q2⟩ := h2; have q1 : N.cuts.length ≤ _ := q1; unfold maxLen at q2; omega)
        have y1 : IntKind.i64.wrap ((k : Int) + 1) = (k : Int) + 1 := IntWalk.i64_in _ (by have := HBD.out; omega)
        have y1' : wrap64 ((k : Int) + 1) = (k : Int) + 1 := IntWalk.wrap64_in _ (by have := HBD.out; omega)
        have HME := Lib.hid (And.intro (Nat.succ_le_of_lt hlt) (Nat.sub_lt_sub_left hlt (Nat.lt_succ_self k)))
        have ce : wr.cell? ⟨g, k, none⟩ = some (.int .i64 (gi m k)) := by
          have := (hM7.row 1 rfl).cellAt k (by show k < N.cuts.length * 1; omega)
          rw [this]; exact intsV_at (by omega)
        have cf : ∀ j, wr.frozen? ⟨g, j, none⟩ = false := fun j => (hM7.row 1 rfl).frozenAt j
        have zg := (own_ge' (hM7.row 1 rfl) g rfl).2
        have hN := hM7.setRow 1 rfl k (.int .i64 (-1))
        simp only [intsV_set] at hN
        have HZ := Lib.hid hN
        have HLL := Lib.hid (show (m.set k (-1)).length = N.cuts.length by simp; omega)
        clear hM7 hN hlt
        go_wp2_with fail
        exact ⟨⟨k + 1, m.set k (-1), HME.out.1, HLL.out, by go_num, HZ.out⟩, by simpa [intOf] using HME.out.2⟩
      obtain rfl : k = N.cuts.length := by omega
      clear hlt hk
      have c_a := fun j => cell_of_row _ _ j _ _ _ (hM7.get 3 rfl)
      have z_a := hM7.lt 3 rfl
      have c_K := fun j => cell_of_row _ _ j _ _ _ (heap_ext HK3.out hM7.below)
      have z_K := lt_some (heap_ext HK3.out hM7.below)
      have c_W := fun j => cell_of_row _ _ j _ _ _ (heap_ext HW3.out hM7.below)
      have z_W := lt_some (heap_ext HW3.out hM7.below)
      have SW := fsame_any K K A c R d A0 c0 R0 d0 _ (HH.out.next (bcall HB3.out HB3.out.size hM7.below)) (HWC.out.next hM7.below)
      rw [sameK_self] at SW
      go_wp2_with fail
      refine SW.mono ?_
      rintro e we ⟨rfl, hb⟩
      have HE := Lib.hid (bcall (bcall HB3.out HB3.out.size hM7.below) (bcall HB3.out HB3.out.size hM7.below).size hb)
      clear hb hM7 SW
      clear c_a z_a c_K z_K c_W z_W
      go_wp2_with fail
      go_ret
      exact ⟨rfl, HE.out⟩
end Go.Proofs.Ytgcbmnohhbcfiaa
