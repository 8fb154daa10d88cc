/- Meetings are compared; the actors of the examples. -/
import Derived.Test.YtgcbmnohhbcfiaaAgH
import Derived.Test.YtgcbmnohhbcfiaaCn1
namespace Go.Proofs.Ytgcbmnohhbcfiaa
open Go.RowKit Go.Deep
set_option linter.unusedVariables false
set_option linter.unusedSimpArgs false

theorem Mx.put8 {w W : World} {L : List (Nat × Obj)} {R : List Rw} (h : Mx w L R W) (i : Nat) {g : Nat} {x0 x1 x2 x3 x4 x5 x6 x7 : Value} {t : TypeId} (hi : L[i]? = some (g, .cells #[x0, x1, x2, x3, x4, x5, x6, x7] t)) (u0 u1 u2 u3 u4 u5 u6 u7 : Value) :
    Mx w (L.set i (g, .cells #[u0, u1, u2, u3, u4, u5, u6, u7] t)) R ((((((((W.setCell ⟨g, 0, none⟩ u0).setCell ⟨g, 1, none⟩ u1).setCell ⟨g, 2, none⟩ u2).setCell ⟨g, 3, none⟩ u3).setCell ⟨g, 4, none⟩ u4).setCell ⟨g, 5, none⟩ u5).setCell ⟨g, 6, none⟩ u6).setCell ⟨g, 7, none⟩ u7) := by
  have hlt := set_lt hi
  have k0 : Mx w (L.set i (g, .cells #[u0, x1, x2, x3, x4, x5, x6, x7] t)) R _ := h.set i hi 0 u0
  have k1_ := k0.set i (List.getElem?_set_self hlt) 1 u1
  rw [List.set_set] at k1_
  have k1 : Mx w (L.set i (g, .cells #[u0, u1, x2, x3, x4, x5, x6, x7] t)) R _ := k1_
  have k2_ := k1.set i (List.getElem?_set_self hlt) 2 u2
  rw [List.set_set] at k2_
  have k2 : Mx w (L.set i (g, .cells #[u0, u1, u2, x3, x4, x5, x6, x7] t)) R _ := k2_
  have k3_ := k2.set i (List.getElem?_set_self hlt) 3 u3
  rw [List.set_set] at k3_
  have k3 : Mx w (L.set i (g, .cells #[u0, u1, u2, u3, x4, x5, x6, x7] t)) R _ := k3_
  have k4_ := k3.set i (List.getElem?_set_self hlt) 4 u4
  rw [List.set_set] at k4_
  have k4 : Mx w (L.set i (g, .cells #[u0, u1, u2, u3, u4, x5, x6, x7] t)) R _ := k4_
  have k5_ := k4.set i (List.getElem?_set_self hlt) 5 u5
  rw [List.set_set] at k5_
  have k5 : Mx w (L.set i (g, .cells #[u0, u1, u2, u3, u4, u5, x6, x7] t)) R _ := k5_
  have k6_ := k5.set i (List.getElem?_set_self hlt) 6 u6
  rw [List.set_set] at k6_
  have k6 : Mx w (L.set i (g, .cells #[u0, u1, u2, u3, u4, u5, u6, x7] t)) R _ := k6_
  have k7_ := k6.set i (List.getElem?_set_self hlt) 7 u7
  rw [List.set_set] at k7_
  have k7 : Mx w (L.set i (g, .cells #[u0, u1, u2, u3, u4, u5, u6, u7] t)) R _ := k7_
  exact k7
theorem Ms.put8 {F : World → Prop} {w W : World} {L : List (Nat × Obj)} {R : List Rw} (h : Ms F w L R W) (i : Nat) {g : Nat} {x0 x1 x2 x3 x4 x5 x6 x7 : Value} {t : TypeId} (hi : L[i]? = some (g, .cells #[x0, x1, x2, x3, x4, x5, x6, x7] t)) (u0 u1 u2 u3 u4 u5 u6 u7 : Value) :
    Ms F w (L.set i (g, .cells #[u0, u1, u2, u3, u4, u5, u6, u7] t)) R ((((((((W.setCell ⟨g, 0, none⟩ u0).setCell ⟨g, 1, none⟩ u1).setCell ⟨g, 2, none⟩ u2).setCell ⟨g, 3, none⟩ u3).setCell ⟨g, 4, none⟩ u4).setCell ⟨g, 5, none⟩ u5).setCell ⟨g, 6, none⟩ u6).setCell ⟨g, 7, none⟩ u7) := by
  have hlt := set_lt hi
  have k0 : Ms F w (L.set i (g, .cells #[u0, x1, x2, x3, x4, x5, x6, x7] t)) R _ := h.set i hi 0 u0
  have k1_ := k0.set i (List.getElem?_set_self hlt) 1 u1
  rw [List.set_set] at k1_
  have k1 : Ms F w (L.set i (g, .cells #[u0, u1, x2, x3, x4, x5, x6, x7] t)) R _ := k1_
  have k2_ := k1.set i (List.getElem?_set_self hlt) 2 u2
  rw [List.set_set] at k2_
  have k2 : Ms F w (L.set i (g, .cells #[u0, u1, u2, x3, x4, x5, x6, x7] t)) R _ := k2_
  have k3_ := k2.set i (List.getElem?_set_self hlt) 3 u3
  rw [List.set_set] at k3_
  have k3 : Ms F w (L.set i (g, .cells #[u0, u1, u2, u3, x4, x5, x6, x7] t)) R _ := k3_
  have k4_ := k3.set i (List.getElem?_set_self hlt) 4 u4
  rw [List.set_set] at k4_
  have k4 : Ms F w (L.set i (g, .cells #[u0, u1, u2, u3, u4, x5, x6, x7] t)) R _ := k4_
  have k5_ := k4.set i (List.getElem?_set_self hlt) 5 u5
  rw [List.set_set] at k5_
  have k5 : Ms F w (L.set i (g, .cells #[u0, u1, u2, u3, u4, u5, x6, x7] t)) R _ := k5_
  have k6_ := k5.set i (List.getElem?_set_self hlt) 6 u6
  rw [List.set_set] at k6_
  have k6 : Ms F w (L.set i (g, .cells #[u0, u1, u2, u3, u4, u5, u6, x7] t)) R _ := k6_
  have k7_ := k6.set i (List.getElem?_set_self hlt) 7 u7
  rw [List.set_set] at k7_
  have k7 : Ms F w (L.set i (g, .cells #[u0, u1, u2, u3, u4, u5, u6, u7] t)) R _ := k7_
  exact k7
theorem run_eql_rt6 (p q : Rt) (w : World) : (binOp .eql 37 (rV p) (rV q)).run Try.prog w = .ok (.bool (decide (p = q))) w := by
  rw [rt_eq_bool]
  cases h1 : p.n == q.n with
  | false => go_simp
  | true =>
  cases h2 : p.d == q.d with
  | false => go_simp
  | true => go_simp
attribute [go_sem 2000] run_eql_rt6
set_option maxRecDepth 100000 in
set_option maxHeartbeats 8000000 in
theorem samebools_any (a : List Bool) (A : Option Addr) (c : Nat) (B : Option Addr) (d : Nat) (w : World) (ha : RIn kBl w.heap.size w A c a) (hb : RIn kBl w.heap.size w B d a) :
    Calls Try.prog 71 #[.slice A a.length c, .slice B a.length d] w fun e w' => e = .returned (.bool true) ∧ Below w.heap.size w w' := by
  have hm := Nat.le_trans ha.len ha.cap
  unfold maxLen at hm
  have HA := Lib.hid (fun (W : World) (hW : Below w.heap.size w W) => ha.next hW)
  have HB := Lib.hid (fun (W : World) (hW : Below w.heap.size w W) => hb.next hW)
  clear ha hb
  go_enter Try.func71, Try.ntmps71
  go_wp2_with fail
  go_loopw [5] (fun s5 wr => ∃ k : Nat, k ≤ a.length ∧ s5 = .int .i64 k ∧ Below w.heap.size w wr) (fun s5 _ => a.length - (intOf s5).toNat)
  case atStart => exact ⟨0, Nat.zero_le _, rfl, Below.refl _ _⟩
  case round =>
    obtain ⟨k, hk, rfl, hB⟩ := hrel
    by_cases hlt : k < a.length
    rotate_left
    · obtain rfl : k = a.length := by omega
      have HBw := Lib.hid hB
      clear hB hk hlt HA HB
      go_wp2_with fail
      go_ret
      exact ⟨rfl, HBw.out⟩
    obtain ⟨x, hx⟩ : ∃ x, a[k]? = some x := ⟨_, List.getElem?_eq_getElem hlt⟩
    obtain ⟨ad, rfl, hb1, c1⟩ := (HA.out _ hB).bool hx
    obtain ⟨ae, rfl, hb2, c2⟩ := (HB.out _ hB).bool hx
    obtain ⟨z1, z2, z3, z4⟩ := idx_facts hlt hm
    have HLE := Lib.hid (And.intro (Nat.succ_le_of_lt hlt) (Nat.sub_lt_sub_left hlt (Nat.lt_succ_self k)))
    have HBw := Lib.hid hB
    have f1 : (ad.add k).block < wr.heap.size := by rw [block_add]; exact hb1
    have f2 : (ae.add k).block < wr.heap.size := by rw [block_add]; exact hb2
    clear hB hk hlt hx HA HB
    cases x <;> (
      go_wp2_with fail
      refine wp_region_ext (by kernel_rfl) (by kernel_rfl) ?_
      repeat (first | go_big_quiet_step (fail) | quiet_step (fail))
      refine wpQuiet_nil ?_
      rintro w2 ⟨⟨wx_, hb3⟩, rfl⟩
      have HB2 := Lib.hid (bcall HBw.out HBw.out.size hb3)
      clear hb3 HBw c1 c2 f1 f2 hb1 hb2
      go_wp2_with fail
      exact ⟨⟨k + 1, HLE.out.1, by go_num, HB2.out⟩, by simpa [intOf] using HLE.out.2⟩)
set_option maxRecDepth 100000 in
set_option maxHeartbeats 32000000 in
theorem fmsame_any (acs : List Ac) (l : List Qy) (S1 : Option Addr) (s1 : Nat) (B1 : Option Addr) (d1 : Nat) (S2 : Option Addr) (s2 : Nat) (B2 : Option Addr) (d2 : Nat) (w : World) (h1 : AsIn w.heap.size w S1 s1 acs) (k1 : LgIn w.heap.size w B1 d1 l) (h2 : AsIn w.heap.size w S2 s2 acs) (k2 : LgIn w.heap.size w B2 d2 l) :
    Calls Try.prog 41 #[mV S1 s1 acs B1 d1 l, mV S2 s2 acs B2 d2 l] w fun e w' => e = .returned (.bool true) ∧ Below w.heap.size w w' := by
  have hm := Nat.le_trans h1.len h1.cap
  unfold maxLen at hm
  have H1 := Lib.hid (fun (W : World) (hW : Below w.heap.size w W) => h1.next hW)
  have H2 := Lib.hid (fun (W : World) (hW : Below w.heap.size w W) => h2.next hW)
  have HSL := Lib.hid (fun (W : World) (hW : Below w.heap.size w W) => show Calls Try.prog 42 #[.slice B1 l.length d1, .slice B2 l.length d2] W fun e w' => e = .returned (.bool true) ∧ Below W.heap.size W w' by
    have := fsamelogs_any l l B1 d1 B2 d2 W (k1.next hW) (k2.next hW)
    rwa [show sameQ l l = true from decide_eq_true rfl] at this)
  have hM0 : Mx w [(w.heap.size + 1, mB S2 s2 acs B2 d2 l), (w.heap.size, mB S1 s1 acs B1 d1 l)] [] ((w.alloc (mB S1 s1 acs B1 d1 l)).alloc (mB S2 s2 acs B2 d2 l)) := ((Mx.of_bx (Bx.start w)).new rfl _).new (by simp) _
  clear h1 h2 k1 k2
  go_enter Try.func41, Try.ntmps41
  go_upto_region 1 with fail
  generalize hw0 : (w.alloc (mB S1 s1 acs B1 d1 l)).alloc (mB S2 s2 acs B2 d2 l) = w0 at *
  clear hw0
  generalize w.heap.size + 1 = gM2 at *
  have c_m := fun j => cell_of_row _ _ j _ _ _ (hM0.get 1 rfl)
  have z_m := hM0.lt 1 rfl
  have c_n := fun j => cell_of_row _ _ j _ _ _ (hM0.get 0 rfl)
  have z_n := hM0.lt 0 rfl
  go_wp2_with fail
  refine (HSL.out _ hM0.below).mono ?_
  rintro e w1 ⟨rfl, hb⟩
  have hM1 := hM0.next hb
  clear hb hM0 c_m z_m c_n z_n HSL
  go_wp2_with fail
  have HM1 := Lib.hid hM1
  clear hM1
  go_loopw [5] (fun s5 wr => ∃ k : Nat, k ≤ acs.length ∧ s5 = .int .i64 k ∧ Mx w [(gM2, mB S2 s2 acs B2 d2 l), (w.heap.size, mB S1 s1 acs B1 d1 l)] [] wr) (fun s5 _ => acs.length - (intOf s5).toNat)
  case atStart => exact ⟨0, Nat.zero_le _, rfl, HM1.out⟩
  case round =>
    clear HM1
    obtain ⟨k, hk, rfl, hMr⟩ := hrel
    have c_m := fun j => cell_of_row _ _ j _ _ _ (hMr.get 1 rfl)
    have z_m := hMr.lt 1 rfl
    by_cases hlt : k < acs.length
    rotate_left
    · obtain rfl : k = acs.length := by omega
      have HBw := Lib.hid hMr.below
      clear hMr hk hlt H1 H2
      go_wp2_with fail
      go_ret
      exact ⟨rfl, HBw.out⟩
    obtain ⟨a, ha⟩ : ∃ a, acs[k]? = some a := ⟨_, List.getElem?_eq_getElem hlt⟩
    obtain ⟨ad, A1, c1_, R1, d1_, A1', c1', R1', d1', rfl, hb1, hC1, hC1', _, hat1⟩ := (H1.out _ (Below.refl _ _)).actor ha
    obtain ⟨ae, A2, c2_, R2, d2_, A2', c2', R2', d2', rfl, hb2, hC2, hC2', _, hat2⟩ := (H2.out _ (Below.refl _ _)).actor ha
    obtain ⟨z1, z2, z3, z4⟩ := idx_facts hlt hm
    have HLE := Lib.hid (And.intro (Nat.succ_le_of_lt hlt) (Nat.sub_lt_sub_left hlt (Nat.lt_succ_self k)))
    have HF := Lib.hid (fun (W : World) (hW : Below w.heap.size w W) => show (AcAt W ad k a A1 c1_ R1 d1_ A1' c1' R1' d1' ∧ (ad.add (k * 8)).block < W.heap.size) ∧ (AcAt W ae k a A2 c2_ R2 d2_ A2' c2' R2' d2' ∧ (ae.add (k * 8)).block < W.heap.size) from ⟨⟨hat1.next hb1 hW, by rw [block_add]; exact Nat.lt_of_lt_of_le hb1 hW.size⟩, ⟨hat2.next hb2 hW, by rw [block_add]; exact Nat.lt_of_lt_of_le hb2 hW.size⟩⟩)
    have HS := Lib.hid (fun (W : World) (hW : Below w.heap.size w W) => show Calls Try.prog 21 #[cV A1 c1_ R1 d1_ a.own, cV A2 c2_ R2 d2_ a.own] W fun e w' => e = .returned (.bool true) ∧ Below W.heap.size W w' by
      have := fsame_any a.own a.own A1 c1_ R1 d1_ A2 c2_ R2 d2_ W (hC1.next hW) (hC2.next hW)
      rwa [sameK_self] at this)
    have HS' := Lib.hid (fun (W : World) (hW : Below w.heap.size w W) => show Calls Try.prog 21 #[cV A1' c1' R1' d1' a.told, cV A2' c2' R2' d2' a.told] W fun e w' => e = .returned (.bool true) ∧ Below W.heap.size W w' by
      have := fsame_any a.told a.told A1' c1' R1' d1' A2' c2' R2' d2' W (hC1'.next hW) (hC2'.next hW)
      rwa [sameK_self] at this)
    clear hk hlt ha hb1 hC1 hC1' hat1 hb2 hC2 hC2' hat2 H1 H2
    go_upto_region 6 with fail
    clear c_m z_m
    go_cut [6, 7] (fun s6 s7 wx => ∃ g6 g7 : Nat, s6 = .pointer (some ⟨g6, 0, none⟩) ∧ s7 = .pointer (some ⟨g7, 0, none⟩) ∧ Mx w [(g7, acB a A2 c2_ R2 d2_ A2' c2' R2' d2'), (g6, acB a A1 c1_ R1 d1_ A1' c1' R1' d1'), (gM2, mB (some ae) s2 acs B2 d2 l), (w.heap.size, mB (some ad) s1 acs B1 d1 l)] [] wx)
    case first =>
      go_wp2_with fail
      refine wp_region_T (Bx w [(gM2, mB (some ae) s2 acs B2 d2 l), (w.heap.size, mB (some ad) s1 acs B1 d1 l)]) 14 (by kernel_rfl) (by rfl) ((hMr.keep (List.Sublist.cons_cons _ (List.Sublist.cons_cons _ (List.nil_sublist _)))).drew) (fun wq1 hbq => ?_)
      have hB11 := hMr.next hbq
      clear hMr hbq
      refine wpAnyT_go (Bx.grows _ _) (hB11.keep (List.Sublist.cons_cons _ (List.Sublist.cons_cons _ (List.nil_sublist _)))) [0, 1, 2, 3, 4, 5, 6, 7, 8, 9] 4 (by kernel_rfl) ?_
      apply Exists.intro
      refine ⟨fun G hG hN => ?_, ?_⟩
      · have c_n := fun (e : GE (Bx w [(gM2, mB (some ae) s2 acs B2 d2 l), (w.heap.size, mB (some ad) s1 acs B1 d1 l)]) G) j => cell_of_row e.w _ j _ _ _ ((GE.h e).get 0 rfl)
        have z_n := fun (e : GE (Bx w [(gM2, mB (some ae) s2 acs B2 d2 l), (w.heap.size, mB (some ad) s1 acs B1 d1 l)]) G) => (GE.h e).lt 0 rfl
        have c_m := fun (e : GE (Bx w [(gM2, mB (some ae) s2 acs B2 d2 l), (w.heap.size, mB (some ad) s1 acs B1 d1 l)]) G) j => cell_of_row e.w _ j _ _ _ ((GE.h e).get 1 rfl)
        have z_m := fun (e : GE (Bx w [(gM2, mB (some ae) s2 acs B2 d2 l), (w.heap.size, mB (some ad) s1 acs B1 d1 l)]) G) => (GE.h e).lt 1 rfl
        have q1_0 := fun (e : GE (Bx w [(gM2, mB (some ae) s2 acs B2 d2 l), (w.heap.size, mB (some ad) s1 acs B1 d1 l)]) G) => (HF.out e.w (GE.h e).below).1.1.c0
        have q1_1 := fun (e : GE (Bx w [(gM2, mB (some ae) s2 acs B2 d2 l), (w.heap.size, mB (some ad) s1 acs B1 d1 l)]) G) => (HF.out e.w (GE.h e).below).1.1.c1
        have q1_2 := fun (e : GE (Bx w [(gM2, mB (some ae) s2 acs B2 d2 l), (w.heap.size, mB (some ad) s1 acs B1 d1 l)]) G) => (HF.out e.w (GE.h e).below).1.1.c2
        have q1_3 := fun (e : GE (Bx w [(gM2, mB (some ae) s2 acs B2 d2 l), (w.heap.size, mB (some ad) s1 acs B1 d1 l)]) G) => (HF.out e.w (GE.h e).below).1.1.c3
        have q1_4 := fun (e : GE (Bx w [(gM2, mB (some ae) s2 acs B2 d2 l), (w.heap.size, mB (some ad) s1 acs B1 d1 l)]) G) => (HF.out e.w (GE.h e).below).1.1.c4
        have q1_5 := fun (e : GE (Bx w [(gM2, mB (some ae) s2 acs B2 d2 l), (w.heap.size, mB (some ad) s1 acs B1 d1 l)]) G) => (HF.out e.w (GE.h e).below).1.1.c5
        have q1_6 := fun (e : GE (Bx w [(gM2, mB (some ae) s2 acs B2 d2 l), (w.heap.size, mB (some ad) s1 acs B1 d1 l)]) G) => (HF.out e.w (GE.h e).below).1.1.c6
        have q1_7 := fun (e : GE (Bx w [(gM2, mB (some ae) s2 acs B2 d2 l), (w.heap.size, mB (some ad) s1 acs B1 d1 l)]) G) => (HF.out e.w (GE.h e).below).1.1.c7
        have q2_0 := fun (e : GE (Bx w [(gM2, mB (some ae) s2 acs B2 d2 l), (w.heap.size, mB (some ad) s1 acs B1 d1 l)]) G) => (HF.out e.w (GE.h e).below).2.1.c0
        have q2_1 := fun (e : GE (Bx w [(gM2, mB (some ae) s2 acs B2 d2 l), (w.heap.size, mB (some ad) s1 acs B1 d1 l)]) G) => (HF.out e.w (GE.h e).below).2.1.c1
        have q2_2 := fun (e : GE (Bx w [(gM2, mB (some ae) s2 acs B2 d2 l), (w.heap.size, mB (some ad) s1 acs B1 d1 l)]) G) => (HF.out e.w (GE.h e).below).2.1.c2
        have q2_3 := fun (e : GE (Bx w [(gM2, mB (some ae) s2 acs B2 d2 l), (w.heap.size, mB (some ad) s1 acs B1 d1 l)]) G) => (HF.out e.w (GE.h e).below).2.1.c3
        have q2_4 := fun (e : GE (Bx w [(gM2, mB (some ae) s2 acs B2 d2 l), (w.heap.size, mB (some ad) s1 acs B1 d1 l)]) G) => (HF.out e.w (GE.h e).below).2.1.c4
        have q2_5 := fun (e : GE (Bx w [(gM2, mB (some ae) s2 acs B2 d2 l), (w.heap.size, mB (some ad) s1 acs B1 d1 l)]) G) => (HF.out e.w (GE.h e).below).2.1.c5
        have q2_6 := fun (e : GE (Bx w [(gM2, mB (some ae) s2 acs B2 d2 l), (w.heap.size, mB (some ad) s1 acs B1 d1 l)]) G) => (HF.out e.w (GE.h e).below).2.1.c6
        have q2_7 := fun (e : GE (Bx w [(gM2, mB (some ae) s2 acs B2 d2 l), (w.heap.size, mB (some ad) s1 acs B1 d1 l)]) G) => (HF.out e.w (GE.h e).below).2.1.c7
        have q1_b := fun (e : GE (Bx w [(gM2, mB (some ae) s2 acs B2 d2 l), (w.heap.size, mB (some ad) s1 acs B1 d1 l)]) G) => (HF.out e.w (GE.h e).below).1.2
        have q2_b := fun (e : GE (Bx w [(gM2, mB (some ae) s2 acs B2 d2 l), (w.heap.size, mB (some ad) s1 acs B1 d1 l)]) G) => (HF.out e.w (GE.h e).below).2.2
        simp only [pickOps, List.getElem?_toArray, List.getElem?_cons_zero, List.getElem?_cons_succ]
        repeat (first | go_big_quiet_step (fail) | quiet_step (fail))
        exact wpQuiet_nil rfl
      refine wpAnyT_two (i := 10) (j := 11) (oi := (.cells #[.int .i64 0, .slice none 0 0, .slice none 0 0, .int .i64 0, .slice none 0 0, .slice none 0 0, .int .i64 0, .int .i64 0] 116)) (oj := (.cells #[.int .i64 0, .slice none 0 0, .slice none 0 0, .int .i64 0, .slice none 0 0, .slice none 0 0, .int .i64 0, .int .i64 0] 116)) hB11 (fun _ k => k.keep (List.Sublist.cons_cons _ (List.Sublist.cons_cons _ (List.nil_sublist _)))) (by kernel_rfl) ?_
      apply Exists.intro
      apply Exists.intro
      apply Exists.intro
      refine ⟨?_, ?_, ?_, ?_, ?_⟩
      · intro g W K hg hK
        try dsimp only
        refine wpOp_step rfl (fun Kc hKc => ?_)
        go_simp
        try rw [hg]
        exact hKc _ _ hK
      · intro g0 g W K hg hK
        try dsimp only
        refine wpOp_step rfl (fun Kc hKc => ?_)
        go_simp
        try rw [hg]
        exact hKc _ _ hK
      · intro g W K hg hK
        try dsimp only
        refine wpOp_step rfl (fun Kc hKc => ?_)
        go_simp
        try rw [hg]
        exact hKc _ _ hK
      · intro g0 g W K hg hK
        try dsimp only
        refine wpOp_step rfl (fun Kc hKc => ?_)
        go_simp
        try rw [hg]
        exact hKc _ _ hK
      intro g6 g7 wt2 hB12
      try dsimp only
      refine wpAnyT_all (rs := [12]) (by kernel_rfl) (by simp) (fun wa3 hwa3 hRwa3 i hi => ?_)
      have hB13 := hB12.next hwa3
      clear hB12 hwa3 hRwa3
      obtain rfl := List.mem_singleton.1 hi
      refine wpOp_step rfl (fun Kc hKc => ?_)
      have c_a6 := fun j => cell_of_row _ _ j _ _ _ (hB13.get 1 rfl)
      have z_a6 := hB13.lt 1 rfl
      have f_a6 := fun j => frozen_of_row _ _ j _ _ (hB13.get 1 rfl)
      go_simp
      have hB14 := hB13.put8 1 rfl (.int .i64 a.own.len) (.slice A1 a.own.cuts.length c1_) (.slice R1 a.own.dens.length d1_) (.int .i64 a.told.len) (.slice A1' a.told.cuts.length c1') (.slice R1' a.told.dens.length d1') (.int .i64 a.after) (.int .i64 a.asked)
      refine hKc _ _ ⟨(hB14.keep (List.Sublist.cons _ (List.Sublist.cons _ (List.Sublist.cons_cons _ (List.Sublist.cons_cons _ (List.nil_sublist _)))))), ?_⟩
      clear c_a6 z_a6 f_a6 hKc Kc hB13
      generalize ((((((((wa3.setCell _ _).setCell _ _).setCell _ _).setCell _ _).setCell _ _).setCell _ _).setCell _ _).setCell _ _) = wb4 at *
      refine wpAnyT_all (rs := [13]) (by kernel_rfl) (by simp) (fun wa5 hwa5 hRwa5 i hi => ?_)
      have hB15 := hB14.next hwa5
      clear hB14 hwa5 hRwa5
      obtain rfl := List.mem_singleton.1 hi
      refine wpOp_step rfl (fun Kc hKc => ?_)
      have c_a7 := fun j => cell_of_row _ _ j _ _ _ (hB15.get 0 rfl)
      have z_a7 := hB15.lt 0 rfl
      have f_a7 := fun j => frozen_of_row _ _ j _ _ (hB15.get 0 rfl)
      go_simp
      have hB16 := hB15.put8 0 rfl (.int .i64 a.own.len) (.slice A2 a.own.cuts.length c2_) (.slice R2 a.own.dens.length d2_) (.int .i64 a.told.len) (.slice A2' a.told.cuts.length c2') (.slice R2' a.told.dens.length d2') (.int .i64 a.after) (.int .i64 a.asked)
      refine hKc _ _ ⟨(hB16.keep (List.Sublist.cons _ (List.Sublist.cons _ (List.Sublist.cons_cons _ (List.Sublist.cons_cons _ (List.nil_sublist _)))))), ?_⟩
      clear c_a7 z_a7 f_a7 hKc Kc hB15
      generalize ((((((((wa5.setCell _ _).setCell _ _).setCell _ _).setCell _ _).setCell _ _).setCell _ _).setCell _ _).setCell _ _) = wb6 at *
      refine wpAnyT_done (by kernel_rfl) (fun wd7 hwd7 hRwd7 => ?_) _
      refine NoPanic.normal ?_
      have hB17 := hB16.next hwd7
      clear hB16 hwd7 hRwd7
      have HM := Lib.hid hB17
      clear hB17
      go_wp2_with fail
      go_meet
      exact ⟨g6, g7, rfl, rfl, HM.out⟩
    case rest =>
      obtain ⟨g6, g7, rfl, rfl, hMc⟩ := hcut
      generalize wc = wc at *
      clear hMr HF
      have c_a7 := fun j => cell_of_row _ _ j _ _ _ (hMc.get 0 rfl)
      have z_a7 := hMc.lt 0 rfl
      have c_a6 := fun j => cell_of_row _ _ j _ _ _ (hMc.get 1 rfl)
      have z_a6 := hMc.lt 1 rfl
      go_wp2_with fail
      refine (HS.out _ hMc.below).mono ?_
      rintro e w41 ⟨rfl, hb⟩
      have hB41 := hMc.next hb
      clear c_a7 z_a7 c_a6 z_a6 hb hMc
      have c_a7 := fun j => cell_of_row _ _ j _ _ _ (hB41.get 0 rfl)
      have z_a7 := hB41.lt 0 rfl
      have c_a6 := fun j => cell_of_row _ _ j _ _ _ (hB41.get 1 rfl)
      have z_a6 := hB41.lt 1 rfl
      go_wp2_with fail
      refine (HS'.out _ hB41.below).mono ?_
      rintro e w42 ⟨rfl, hb⟩
      have hB42 := hB41.next hb
      clear c_a7 z_a7 c_a6 z_a6 hb hB41
      have HM := Lib.hid hB42.drop.drop
      clear hB42 HS HS'
      go_wp2_with fail
      exact ⟨⟨k + 1, HLE.out.1, by go_num, HM.out⟩, by simpa [intOf] using HLE.out.2⟩
def flatK (d : Int) : Ck := ⟨2, [0, 2], [d]⟩
set_option maxHeartbeats 1000000 in
theorem flat_any (n : Int) (w : World) : Calls Try.prog 76 #[.int .i64 n] w (CkRes (flatK n) w) := by
  have h1 : (((w.alloc (cB (some ⟨w.heap.size + 1, 0, none⟩) 2 (some ⟨w.heap.size + 1 + 1, 0, none⟩) 1 (flatK n))).alloc (.cells #[.int .i64 0, .int .i64 2] 3)).alloc (.cells #[.int .i64 n] 3)).heap[w.heap.size + 1]? = some (.cells #[.int .i64 0, .int .i64 2] 3) := heap_old (heap_new (by simp))
  have h2 : (((w.alloc (cB (some ⟨w.heap.size + 1, 0, none⟩) 2 (some ⟨w.heap.size + 1 + 1, 0, none⟩) 1 (flatK n))).alloc (.cells #[.int .i64 0, .int .i64 2] 3)).alloc (.cells #[.int .i64 n] 3)).heap[w.heap.size + 1 + 1]? = some (.cells #[.int .i64 n] 3) := heap_new (by simp)
  have hb : Below w.heap.size w (((w.alloc (cB (some ⟨w.heap.size + 1, 0, none⟩) 2 (some ⟨w.heap.size + 1 + 1, 0, none⟩) 1 (flatK n))).alloc (.cells #[.int .i64 0, .int .i64 2] 3)).alloc (.cells #[.int .i64 n] 3)) := ((one_alloc w _).alloc (by simp) _).alloc (by simp; omega) _
  have HF := Lib.hid (ck_lit (B0 := w.heap.size) (K := flatK n) (by omega) (by omega) h1 h2 rfl rfl rfl rfl (by show (2 : Nat) ≤ 1000; decide) (by show (1 : Nat) ≤ 1000; decide) (by show (-1000000 : Int) ≤ 2; decide) (by show (2 : Int) ≤ 1000000; decide))
  have HB := Lib.hid hb
  clear h1 h2 hb
  go_enter Try.func76, Try.ntmps76
  go_wp2_with fail
  refine bodyPost_ret (v := cV (some ⟨w.heap.size + 1, 0, none⟩) 2 (some ⟨w.heap.size + 1 + 1, 0, none⟩) 1 (flatK n)) (by simp [results, Try.results76, go_sem, flatK]) rfl ⟨_, _, _, _, rfl, HF.out, HB.out⟩
theorem flat_any' (n : Int) (w : World) : Calls Try.prog 76 #[.int .i64 n] w (fun e w' => ∃ (A : Option Addr) (c : Nat) (R : Option Addr) (d : Nat), e = .returned (.agg #[.int .i64 2, .slice A 2 c, .slice R 1 d]) ∧ Fresh w.heap.size w' (fun W => CIn W.heap.size W A c R d (flatK n)) ∧ Below w.heap.size w w') := flat_any n w
def givenA : Ac := ⟨flatK 1, flatK 3, 1, 0⟩
/-- An actor of the call's own. -/
def AcRes (a : Ac) (w : World) (e : Ending) (w' : World) : Prop := ∃ (A : Option Addr) (c : Nat) (R : Option Addr) (d : Nat) (A' : Option Addr) (c' : Nat) (R' : Option Addr) (d' : Nat), e = .returned (.agg #[.int .i64 a.own.len, .slice A a.own.cuts.length c, .slice R a.own.dens.length d, .int .i64 a.told.len, .slice A' a.told.cuts.length c', .slice R' a.told.dens.length d', .int .i64 a.after, .int .i64 a.asked]) ∧ Fresh w.heap.size w' (fun V => kAc.El V a (acL a A c R d A' c' R' d')) ∧ Below w.heap.size w w'
set_option maxRecDepth 100000 in
set_option maxHeartbeats 4000000 in
theorem agiven_any (w : World) : Calls Try.prog 74 #[] w (AcRes givenA w) := by
  have hM0 : Ms (fun _ => True) w [(w.heap.size, .cells #[.int .i64 0, .slice none 0 0, .slice none 0 0, .int .i64 0, .slice none 0 0, .slice none 0 0, .int .i64 0, .int .i64 0] 116)] [] (w.alloc (.cells #[.int .i64 0, .slice none 0 0, .slice none 0 0, .int .i64 0, .slice none 0 0, .slice none 0 0, .int .i64 0, .int .i64 0] 116)) := Ms.of_mx ((Mx.of_bx (Bx.start w)).new rfl _) (fun _ => trivial)
  go_enter Try.func74, Try.ntmps74
  go_upto_region 1 with fail
  generalize w.alloc (.cells #[.int .i64 0, .slice none 0 0, .slice none 0 0, .int .i64 0, .slice none 0 0, .slice none 0 0, .int .i64 0, .int .i64 0] 116) = w0 at *
  go_wp2_with fail
  refine (flat_any' 1 w0).mono ?_
  rintro e w1 ⟨A, c, R, d, rfl, hF, hb⟩
  have hM1 := hM0.call hb hF
  clear hb hF hM0
  go_wp2_with fail
  refine (flat_any' 3 w1).mono ?_
  rintro e w2 ⟨A', c', R', d', rfl, hF, hb⟩
  have hM2 := hM1.call hb hF
  clear hb hF hM1
  have c_r := fun j => cell_of_row _ _ j _ _ _ (hM2.get 0 rfl)
  have z_r := hM2.lt 0 rfl
  have f_r := fun j => frozen_of_row _ _ j _ _ (hM2.get 0 rfl)
  go_wp2_with fail
  have hE0 := hM2.put8 0 rfl (.int .i64 2) (.slice A 2 c) (.slice R 1 d) (.int .i64 2) (.slice A' 2 c') (.slice R' 1 d') (.int .i64 1) (.int .i64 0)
  clear c_r z_r f_r hM2
  generalize (((((((World.setCell w2 _ _).setCell _ _).setCell _ _).setCell _ _).setCell _ _).setCell _ _).setCell _ _).setCell _ _ = wE at *
  have c_r := fun j => cell_of_row _ _ j _ _ _ (hE0.get 0 rfl)
  have z_r := hE0.lt 0 rfl
  refine bodyPost_ret (v := .agg #[.int .i64 2, .slice A 2 c, .slice R 1 d, .int .i64 2, .slice A' 2 c', .slice R' 1 d', .int .i64 1, .int .i64 0]) (by simp [results, Try.results74, go_sem, c_r, z_r]) rfl ?_
  refine ⟨A, c, R, d, A', c', R', d', rfl, fun V h1 h2 => ?_, hE0.below⟩
  obtain ⟨⟨_, k1⟩, k2⟩ := hE0.sep V h1 (fun g a b _ => h2 g a b)
  exact ⟨A, c, R, d, A', c', R', d', rfl, k1, k2, ⟨by decide, by decide, by decide, by decide⟩⟩
/-- A list of one actor that is written out. -/
theorem as_one {g : Nat} {W : World} {t : TypeId} {fr : Nat × Nat} {a : Ac} {A : Option Addr} {c : Nat} {R : Option Addr} {d : Nat} {A' : Option Addr} {c' : Nat} {R' : Option Addr} {d' : Nat} {cs : Array Value} (h : W.heap[g]? = some (.cells cs t fr)) (hc : cs.toList = acL a A c R d A' c' R' d') (hE : kAc.El W a (acL a A c R d A' c' R' d')) : AsIn W.heap.size W (some ⟨g, 0, none⟩) 1 [a] := by
  refine ⟨fun i b hi => ?_, Nat.le_refl _, by unfold maxLen; omega⟩
  have h0 : i = 0 := by
    rcases Nat.eq_zero_or_pos i with q | q
    · exact q
    · rw [List.getElem?_eq_none (by simp; omega)] at hi; cases hi
  subst h0
  obtain rfl : a = b := by simpa using hi
  refine ⟨_, _, rfl, lt_some h, hE, fun j u hu => ?_⟩
  rw [add_mk, Nat.zero_add, cell_of_row _ _ _ _ _ _ h, ← Array.getElem?_toList, hc, Nat.zero_mul, Nat.zero_add]; exact hu
end Go.Proofs.Ytgcbmnohhbcfiaa
