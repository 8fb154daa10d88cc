/- The reference's shares. -/
import Derived.Test.YtpijllobpohpgaaMa9
import Derived.Test.YtpijllobpohpgaaMa10
import Derived.Test.YtpijllobpohpgaaRfM
import Derived.Test.YtpijllobpohpgaaMa5
import Derived.Test.YtpijllobpohpgaaRfG
namespace Go.Proofs.Ytpijllobpohpgaa
open Go.RowKit Go.Deep
set_option linter.unusedVariables false
set_option linter.unusedSimpArgs false

theorem Ints.next_ {w W : World} {A : Option Addr} {xs : List Int} (h : Ints w.heap.size w A xs) (hb : Below w.heap.size w W) : Ints W.heap.size W A xs := h.next hb
set_option maxRecDepth 100000 in
set_option maxHeartbeats 16000000 in
theorem fsplit_any (a b : List Int) (n : Nat) (O : Option Addr) (oc t : Nat) (x : Rt) (w : World) (hO : Ints w.heap.size w O (mordI a b n)) (hn : n ≤ 10) :
    Calls Try.prog 81 #[.slice O n oc, .int .i64 t, rV x] w fun e w' => ∃ g, e = .returned (.slice (some ⟨g, 0, none⟩) n n) ∧ w'.ownsRow w.heap.size 36 2 (.slice (some ⟨g, 0, none⟩) n n) n (ratV (splitR a b n t x)) ∧ Below w.heap.size w w' := by
  have HO := Lib.hid hO
  have HN := Lib.hid hn
  have hB0 : Bx w [(w.heap.size, rB x)] (w.alloc (rB x)) := (Bx.start w).new rfl _
  have hmk := make_rats n (by omega)
  have HL := Lib.hid (mordI_len a b n)
  clear hO hn
  go_enter Try.func81, Try.ntmps81
  try dsimp only [List.append]
  go_upto_region 1 with fail
  generalize hw0 : w.alloc (rB x) = w0 at *
  clear hw0
  generalize hgx : w.heap.size = gX at hB0 ⊢
  have HGX := Lib.hid hgx
  clear hgx
  go_upto_region 2 with fail
  have hM0 := (Mx.of_bx hB0).lit (madeCells #[.int .i64 0, .int .i64 0] (n * 2)) 36 2 n (by have := HN.out; unfold maxLen; omega) (by simp [madeCells])
  rw [madeR] at hM0
  clear hmk hB0
  generalize w0.heap.size = g at *
  generalize w0.alloc _ = w1 at *
  have HM := Lib.hid hM0
  clear hM0
  go_wp2_with fail
  go_loopw [8] (fun s wr => ∃ (k : Nat) (l : List Rt), k ≤ n ∧ s = .int .i64 k ∧ l.length = n ∧ (∀ j, j < k → gR l (mo a b n j) = if j < t then ⟨1, 1⟩ else if j = t then x else ⟨0, 1⟩) ∧ Mx w [(gX, rB x)] [⟨.slice (some ⟨g, 0, none⟩) n n, 36, 2, n, ratV l⟩] wr) (fun s _ => n - (intOf s).toNat)
  case atStart => exact ⟨0, List.replicate n ⟨0, 0⟩, Nat.zero_le _, rfl, by simp, fun j hj => by omega, HM.out⟩
  case round =>
    as_aux_lemma =>
      obtain ⟨k, l, hk, rfl, hll, hlv, hMr⟩ := hrel
      clear HM
      by_cases hlt : k < n
      rotate_left
      · obtain rfl : k = n := by omega
        have HQ := Lib.hid (show l = splitR a b k t x from splitR_of hll hlv)
        have HZ := Lib.hid (hMr.row 0 rfl)
        have HE := Lib.hid hMr.below
        clear hMr hlv hll hk hlt
        go_wp2_with fail
        go_ret
        exact ⟨g, rfl, by rw [← HQ.out]; exact HZ.out, HE.out⟩
      have lt := mo_lt (a := a) (b := b) hlt
      obtain ⟨od, rfl, ob, oc_⟩ := HO.out (by rw [HL.out]; omega)
      have HOC := Lib.hid (fun (W : World) (hW : Below w.heap.size w W) => show W.cell? (od.add k) = some (.int .i64 (mo a b n k : Int)) ∧ (od.add k).block < W.heap.size from by
        have q := oc_ k (by rw [HL.out]; exact hlt)
        rw [mordI_at hlt] at q
        have bl : (od.add k).block < w.heap.size := by rw [block_add]; exact ob
        exact ⟨(hW.cell bl).trans q, Nat.lt_of_lt_of_le bl hW.size⟩)
      have HLL := Lib.hid hll
      have HLT := Lib.hid lt
      have HME := Lib.hid (And.intro (Nat.succ_le_of_lt hlt) (Nat.sub_lt_sub_left hlt (Nat.lt_succ_self k)))
      have HNX := Lib.hid (fun (v : Rt) (hv : v = if k < t then ⟨1, 1⟩ else if k = t then x else ⟨0, 1⟩) => show (l.set (mo a b n k) v).length = n ∧ ∀ j, j < k + 1 → gR (l.set (mo a b n k) v) (mo a b n j) = if j < t then ⟨1, 1⟩ else if j = t then x else ⟨0, 1⟩ from ⟨by rw [List.length_set]; exact hll, fun j hj => by
        rw [gR_set (by rw [hll]; exact lt)]
        by_cases e : j = k
        · subst e; rw [if_pos rfl, hv]
        · rw [if_neg (fun q => e (mo_inj (show j < n by omega) hlt q)), hlv j (by omega)]⟩)
      have HYY := Lib.hid (show IntKind.i64.wrap ((k : Int) + 1) = (k : Int) + 1 ∧ wrap64 ((k : Int) + 1) = (k : Int) + 1 from ⟨IntWalk.i64_in _ (by have := HN.out; omega), IntWalk.wrap64_in _ (by have := HN.out; omega)⟩)
      have z1 : (k : Int) < (n : Int) := by omega
      have z2 : (mo a b n k : Int) < (n : Int) := by omega
      have z3 : (0 : Int) ≤ (k : Int) := by omega
      have z4 : (0 : Int) ≤ (mo a b n k : Int) := by omega
      have y1 := HYY.out.1
      have y2 := HYY.out.2
      clear lt oc_ ob hll hlv hk hlt HYY HL
      generalize hmk : mo a b n k = mk at *
      clear hmk
      by_cases h1 : k < t
      · have q1 : decide (k < t) = true := decide_eq_true h1
        have q1i : decide ((k : Int) < (t : Int)) = true := decide_eq_true (by omega)
        have HC := Lib.hid h1
        clear h1
        go_upto_region 7 with fail
        refine wp_region_R (Bx w []) 8 (by kernel_rfl) (by rfl) ((hMr.keep (List.nil_sublist _)).drew) (fun wq1 hbq => ?_)
        have hB41 := hMr.next hbq
        clear hMr hbq
        refine wpAnyE_goR (Bx.grows _ _) (hB41.keep (List.nil_sublist _)) [0, 1, 2, 3, 4, 5, 6] 1 (by kernel_rfl) ?_
        apply Exists.intro
        refine ⟨fun G hG hN => ?_, ?_⟩
        · have o0 := fun (e : GE (Bx w []) G) => (HOC.out e.w (GE.h e).below).1
          have o1 := fun (e : GE (Bx w []) G) => (HOC.out e.w (GE.h e).below).2
          simp only [pickOps, List.getElem?_toArray, List.getElem?_cons_zero, List.getElem?_cons_succ]
          repeat (first | go_big_quiet_step ((first | (go_at_call 57; exact calls_ge (Bx.grows _ _) hG (of_any _ _)))) | quiet_step ((first | (go_at_call 57; exact calls_ge (Bx.grows _ _) hG (of_any _ _)))))
          exact wpQuiet_nil rfl
        refine wpAnyE_all (rs := [7]) (by kernel_rfl) (by simp) (fun wa2 hwa2 hRwa2 i hi => ?_)
        have hB42 := hB41.next hwa2
        clear hB41 hwa2 hRwa2
        obtain rfl := List.mem_singleton.1 hi
        refine wpOp_step rfl (fun Kc hKc => ?_)
        have rq := hB42.rowQ 0 rfl (k := mk) HLT.out HLL.out.symm
        have s0 := rq.1
        have s1 := rq.2.1
        have sf := rq.2.2.1
        have sg := rq.2.2.2
        clear rq
        go_simp
        have hB43 := hB42.setQ 0 rfl (mk) (⟨1, 1⟩)
        refine hKc _ _ ⟨(hB43.keep (List.nil_sublist _)), ?_⟩
        clear hKc Kc hB42 s0 s1 sf sg
        generalize (wa2.setCell _ _).setCell _ _ = wb3 at *
        refine wpAnyE_done (by kernel_rfl) (fun wd4 hwd4 hRwd4 => ?_) _
        refine NoPanic.normal ?_
        have hB44 := hB43.next hwd4
        clear hB43 hwd4 hRwd4
        have HW := Lib.hid (HNX.out ⟨1, 1⟩ (by rw [if_pos HC.out]))
        have HZ := Lib.hid hB44
        clear hB44 HNX
        go_wp2_with fail
        exact ⟨⟨k + 1, _, HME.out.1, by go_num, HW.out.1, HW.out.2, HZ.out⟩, by simpa [intOf] using HME.out.2⟩
      by_cases h2 : k = t
      · have q1 : decide (k < t) = false := decide_eq_false h1
        have q1i : decide ((k : Int) < (t : Int)) = false := decide_eq_false (by omega)
        have q2 : ((k : Int) == (t : Int)) = true := by rw [h2]; simp
        have q3 : (k == t) = true := by simpa using h2
        have HC := Lib.hid (And.intro h1 h2)
        clear h1 h2
        go_upto_region 9 with fail
        refine wp_region_R (Bx w [(gX, rB x)]) 8 (by kernel_rfl) (by rfl) ((hMr.keep (List.Sublist.cons_cons _ (List.nil_sublist _))).drew) (fun wq5 hbq => ?_)
        have hB41 := hMr.next hbq
        clear hMr hbq
        refine wpAnyE_goR (Bx.grows _ _) (hB41.keep (List.Sublist.cons_cons _ (List.nil_sublist _))) [0, 1, 2, 3, 4, 5, 6] 1 (by kernel_rfl) ?_
        apply Exists.intro
        refine ⟨fun G hG hN => ?_, ?_⟩
        · have c_x := fun (e : GE (Bx w [(gX, rB x)]) G) j => cell_of_row e.w _ j _ _ _ ((GE.h e).get 0 rfl)
          have z_x := fun (e : GE (Bx w [(gX, rB x)]) G) => (GE.h e).lt 0 rfl
          have o0 := fun (e : GE (Bx w [(gX, rB x)]) G) => (HOC.out e.w (GE.h e).below).1
          have o1 := fun (e : GE (Bx w [(gX, rB x)]) G) => (HOC.out e.w (GE.h e).below).2
          simp only [pickOps, List.getElem?_toArray, List.getElem?_cons_zero, List.getElem?_cons_succ]
          repeat (first | go_big_quiet_step (fail) | quiet_step (fail))
          exact wpQuiet_nil rfl
        refine wpAnyE_all (rs := [7]) (by kernel_rfl) (by simp) (fun wa6 hwa6 hRwa6 i hi => ?_)
        have hB42 := hB41.next hwa6
        clear hB41 hwa6 hRwa6
        obtain rfl := List.mem_singleton.1 hi
        refine wpOp_step rfl (fun Kc hKc => ?_)
        have rq := hB42.rowQ 0 rfl (k := mk) HLT.out HLL.out.symm
        have s0 := rq.1
        have s1 := rq.2.1
        have sf := rq.2.2.1
        have sg := rq.2.2.2
        clear rq
        go_simp
        have hB43 := hB42.setQ 0 rfl (mk) (x)
        refine hKc _ _ ⟨(hB43.keep (List.Sublist.cons_cons _ (List.nil_sublist _))), ?_⟩
        clear hKc Kc hB42 s0 s1 sf sg
        generalize (wa6.setCell _ _).setCell _ _ = wb7 at *
        refine wpAnyE_done (by kernel_rfl) (fun wd8 hwd8 hRwd8 => ?_) _
        refine NoPanic.normal ?_
        have hB44 := hB43.next hwd8
        clear hB43 hwd8 hRwd8
        have HW := Lib.hid (HNX.out x (by rw [if_neg HC.out.1, if_pos HC.out.2]))
        have HZ := Lib.hid hB44
        clear hB44 HNX
        go_wp2_with fail
        exact ⟨⟨k + 1, _, HME.out.1, by go_num, HW.out.1, HW.out.2, HZ.out⟩, by simpa [intOf] using HME.out.2⟩
      have q1 : decide (k < t) = false := decide_eq_false h1
      have q1i : decide ((k : Int) < (t : Int)) = false := decide_eq_false (by omega)
      have q2 : ((k : Int) == (t : Int)) = false := by simp; omega
      have q3 : (k == t) = false := by simpa using h2
      have HC := Lib.hid (And.intro h1 h2)
      clear h1 h2
      go_upto_region 5 with fail
      refine wp_region_R (Bx w []) 8 (by kernel_rfl) (by rfl) ((hMr.keep (List.nil_sublist _)).drew) (fun wq9 hbq => ?_)
      have hB41 := hMr.next hbq
      clear hMr hbq
      refine wpAnyE_goR (Bx.grows _ _) (hB41.keep (List.nil_sublist _)) [0, 1, 2, 3, 4, 5, 6] 1 (by kernel_rfl) ?_
      apply Exists.intro
      refine ⟨fun G hG hN => ?_, ?_⟩
      · have o0 := fun (e : GE (Bx w []) G) => (HOC.out e.w (GE.h e).below).1
        have o1 := fun (e : GE (Bx w []) G) => (HOC.out e.w (GE.h e).below).2
        simp only [pickOps, List.getElem?_toArray, List.getElem?_cons_zero, List.getElem?_cons_succ]
        repeat (first | go_big_quiet_step ((first | (go_at_call 57; exact calls_ge (Bx.grows _ _) hG (of_any _ _)))) | quiet_step ((first | (go_at_call 57; exact calls_ge (Bx.grows _ _) hG (of_any _ _)))))
        exact wpQuiet_nil rfl
      refine wpAnyE_all (rs := [7]) (by kernel_rfl) (by simp) (fun wa10 hwa10 hRwa10 i hi => ?_)
      have hB42 := hB41.next hwa10
      clear hB41 hwa10 hRwa10
      obtain rfl := List.mem_singleton.1 hi
      refine wpOp_step rfl (fun Kc hKc => ?_)
      have rq := hB42.rowQ 0 rfl (k := mk) HLT.out HLL.out.symm
      have s0 := rq.1
      have s1 := rq.2.1
      have sf := rq.2.2.1
      have sg := rq.2.2.2
      clear rq
      go_simp
      have hB43 := hB42.setQ 0 rfl (mk) (⟨0, 1⟩)
      refine hKc _ _ ⟨(hB43.keep (List.nil_sublist _)), ?_⟩
      clear hKc Kc hB42 s0 s1 sf sg
      generalize (wa10.setCell _ _).setCell _ _ = wb11 at *
      refine wpAnyE_done (by kernel_rfl) (fun wd12 hwd12 hRwd12 => ?_) _
      refine NoPanic.normal ?_
      have hB44 := hB43.next hwd12
      clear hB43 hwd12 hRwd12
      have HW := Lib.hid (HNX.out ⟨0, 1⟩ (by rw [if_neg HC.out.1, if_neg HC.out.2]))
      have HZ := Lib.hid hB44
      clear hB44 HNX
      go_wp2_with fail
      exact ⟨⟨k + 1, _, HME.out.1, by go_num, HW.out.1, HW.out.2, HZ.out⟩, by simpa [intOf] using HME.out.2⟩

theorem okB_first {A B : Nat → Int} {n t : Nat} (h : Desc A B n) (ht : t ≤ n) (hok : okB A B n t) (hno : ∀ j, j < t → ¬ okB A B n j) : nK A B n (mT A B n) ≤ 0 ∧ t = mT A B n := by
  obtain ⟨lt, c, _⟩ := h.t_spec
  have hn : nK A B n (mT A B n) ≤ 0 := by
    rcases Int.lt_or_le 0 (nK A B n (mT A B n)) with q | q
    · exact absurd hok (h.ok_none q ht)
    · exact q
  refine ⟨hn, ?_⟩
  rcases Nat.lt_trichotomy t (mT A B n) with q | q | q
  · exact absurd hok (h.ok_before (t := t) (by omega) (c t q))
  · exact q
  · exact absurd (h.ok_stop hn) (hno _ q)
def okK (A B : Nat → Int) (n t k : Nat) : Bool := decide (0 < mM A t) && decide (0 < mY B n t) && (List.range k).all (stB A B n t)
theorem okK_zero (A B : Nat → Int) (n t : Nat) : okK A B n t 0 = (decide (0 < mM A t) && decide (0 < mY B n t)) := by unfold okK; simp
theorem okK_succ {A B : Nat → Int} {n t k : Nat} (h : okK A B n t k = true) : okK A B n t (k + 1) = stB A B n t k := by
  unfold okK at h ⊢
  simp only [Bool.and_eq_true] at h
  rw [List.range_succ, List.all_append, h.1.1, h.1.2, h.2]; simp
theorem okK_end {A B : Nat → Int} {n t : Nat} (ht : t ≤ n) : okK A B n t n = true ↔ okB A B n t := by
  rw [okB_iff ht]
  unfold okK
  simp only [Bool.and_eq_true, decide_eq_true_eq, List.all_eq_true, List.mem_range]
  constructor
  · rintro ⟨⟨a, b⟩, c⟩; exact ⟨a, b, c⟩
  · rintro ⟨a, b, c⟩; exact ⟨⟨a, b⟩, c⟩
theorem okK_stop {A B : Nat → Int} {n t k : Nat} (hk : k ≤ n) (h : okK A B n t k = false) (ht : t ≤ n) : ¬ okB A B n t := fun q => by
  obtain ⟨a, b, c⟩ := (okB_iff ht).1 q
  have : okK A B n t k = true := by
    unfold okK
    simp only [Bool.and_eq_true, decide_eq_true_eq, List.all_eq_true, List.mem_range]
    exact ⟨⟨a, b⟩, fun j hj => c j (by omega)⟩
  rw [this] at h; cases h
theorem st_lt {A B : Nat → Int} {n t k : Nat} (h : k < t) : stB A B n t k = decide (B k * mM A t ≤ A k * mY B n t) := by
  unfold stB; rw [decide_eq_true h, decide_eq_false (show ¬ t ≤ k by omega)]; simp
theorem st_ge {A B : Nat → Int} {n t k : Nat} (h : ¬ k < t) : stB A B n t k = decide (A k * mY B n t ≤ B k * mM A t) := by
  unfold stB; rw [decide_eq_false h, decide_eq_true (show t ≤ k by omega)]; simp
set_option maxRecDepth 100000 in
set_option maxHeartbeats 32000000 in
theorem fshares_any (bs : List (List Int)) (A : Option Addr) (c : Nat) (w : World) (hG : GIn w.heap.size w A c bs) (hok : mkCode bs = 0) :
    Calls Try.prog 55 #[gV A c bs] w fun e w' => ∃ g, e = .returned (.slice (some ⟨g, 0, none⟩) (gr bs 0).length (gr bs 0).length) ∧ w'.ownsRow w.heap.size 36 2 (.slice (some ⟨g, 0, none⟩) (gr bs 0).length (gr bs 0).length) (gr bs 0).length (ratV (mSh (gr bs 0) (gr bs 1) (gr bs 0).length)) ∧ Below w.heap.size w w' := by
  have hB0 : Bx w [(w.heap.size, gB A c bs)] (w.alloc (gB A c bs)) := (Bx.start w).new rfl _
  have HC := Lib.hid hok
  have HG := Lib.hid hG
  have HMO := Lib.hid (mk_ok hok).2
  have H22 := Lib.hid (mk_ok hok).1
  have HN := Lib.hid (show (gr bs 0).length ≤ 10 from (mk_ok hok).2.n10)
  have HD := Lib.hid (mk_ok hok).2.desc
  have HOR := Lib.hid (fun (W : World) (hW : Below w.heap.size w W) => forder_any bs A c W (hG.next hW) hok)
  obtain ⟨ad, R0, c0, R1, c1, xa, ya, rfl, hvl⟩ := hG.vals hok
  have HVL := Lib.hid (fun (V : World) (hB : Below w.heap.size w V) => hvl.next hB)
  obtain rfl := hvl.e0
  obtain rfl := hvl.e1
  clear hvl hG hok
  go_enter Try.func55, Try.ntmps55
  try dsimp only [List.append]
  go_upto_region 1 with fail
  generalize w.alloc (gB (some ad) c bs) = w0 at *
  have c_G := fun j => cell_of_row _ _ j _ _ _ (hB0.get 0 rfl)
  have z_G := hB0.lt 0 rfl
  go_wp2_with fail
  refine (HOR.out _ hB0.below).mono ?_
  rintro e2 w1 ⟨O, oc, rfl, hO, _, _, hb⟩
  have hB1 := hB0.next hb
  have HO := Lib.hid (fun (V : World) (hV : Below w1.heap.size w1 V) => hO.next hV)
  have HB1 := Lib.hid hB1
  clear hO hb HOR c_G z_G hB0 hB1
  have HSU := Lib.hid (fun (t : Nat) (ht : t ≤ (gr bs 0).length) (V : World) (hV : Below w1.heap.size w1 V) (hB : Below w.heap.size w V) => sums_any bs (some ad) c O oc t t V (HG.out.next hB) HC.out (HO.out V hV) ht ht)
  have HPA := Lib.hid (fun (k : Nat) (hk : k < (gr bs 0).length) (V : World) (hV : Below w1.heap.size w1 V) (hB : Below w.heap.size w V) => fpart_any bs (some ad) c O oc k V (HG.out.next hB) HC.out (HO.out V hV) hk)
  have HSP := Lib.hid (fun (t : Nat) (x : Rt) (V : World) (hV : Below w1.heap.size w1 V) => fsplit_any (gr bs 0) (gr bs 1) (gr bs 0).length O oc t x V (HO.out V hV) HN.out)
  have HOC := Lib.hid (fun (k : Nat) (hk : k < (gr bs 0).length) => show ∃ od : Addr, O = some od ∧ ∀ V, Below w1.heap.size w1 V → V.cell? (od.add k) = some (.int .i64 (mo (gr bs 0) (gr bs 1) (gr bs 0).length k : Int)) ∧ (od.add k).block < V.heap.size from by
    obtain ⟨od, e, ob, oc_⟩ := (HO.out _ (Below.refl _ _)) (by rw [mordI_len]; omega)
    refine ⟨od, e, fun V hV => ?_⟩
    have q := oc_ k (by rw [mordI_len]; exact hk)
    rw [mordI_at hk] at q
    have bl : (od.add k).block < w1.heap.size := by rw [block_add]; exact ob
    exact ⟨(hV.cell bl).trans q, Nat.lt_of_lt_of_le bl hV.size⟩)
  clear HG
  obtain ⟨nn, hnn⟩ : ∃ x : Nat, x = (gr bs 0).length := ⟨_, rfl⟩
  have HNN := Lib.hid hnn
  clear hnn
  go_wp2_with fail
  go_loopw [4] (fun s wr => ∃ t : Nat, t ≤ (gr bs 0).length + 1 ∧ s = .int .i64 t ∧ (∀ j, j < t → ¬ okB (mA (gr bs 0) (gr bs 1) (gr bs 0).length) (mB (gr bs 0) (gr bs 1) (gr bs 0).length) (gr bs 0).length j) ∧ Bx w [(w.heap.size, gB (some ad) c bs)] wr ∧ Below w1.heap.size w1 wr) (fun s _ => (gr bs 0).length + 1 - (intOf s).toNat)
  case atStart => exact ⟨0, Nat.zero_le _, rfl, fun j hj => by omega, HB1.out, Below.refl _ _⟩
  case round =>
    as_aux_lemma =>
      obtain ⟨t, ht, rfl, hno, hBr, hbw⟩ := hrel
      clear HB1
      by_cases hle : t ≤ (gr bs 0).length
      rotate_left
      · have HP := Lib.hid (show 0 < nK (mA (gr bs 0) (gr bs 1) (gr bs 0).length) (mB (gr bs 0) (gr bs 1) (gr bs 0).length) (gr bs 0).length (mtt (gr bs 0) (gr bs 1) (gr bs 0).length) by
          rcases Int.lt_or_le 0 (nK (mA (gr bs 0) (gr bs 1) (gr bs 0).length) (mB (gr bs 0) (gr bs 1) (gr bs 0).length) (gr bs 0).length (mtt (gr bs 0) (gr bs 1) (gr bs 0).length)) with q | q
          · exact q
          · exact absurd (HD.out.ok_stop q) (hno _ (by have := HD.out.t_spec.1; omega)))
        have q : decide ((t : Int) ≤ ((gr bs 0).length : Int)) = false := decide_eq_false (by omega)
        have q2 : decide (t ≤ (gr bs 0).length) = false := decide_eq_false hle
        have HB1 := Lib.hid hBr
        have HBW := Lib.hid hbw
        clear hno hBr hbw hle ht HSU HOC
        go_wp2_with fail
        go_loopw [11] (fun s wr => ∃ k : Nat, k ≤ mtt (gr bs 0) (gr bs 1) (gr bs 0).length ∧ s = .int .i64 k ∧ Bx w [(w.heap.size, gB (some ad) c bs)] wr ∧ Below w1.heap.size w1 wr) (fun s _ => (gr bs 0).length - (intOf s).toNat)
        case atStart => exact ⟨0, Nat.zero_le _, rfl, HB1.out, HBW.out⟩
        case round =>
          as_aux_lemma =>
            obtain ⟨k, hk, rfl, hBr, hbw⟩ := hrel
            clear HB1 HBW q q2
            have tl := HD.out.t_spec.1
            have hkn : k < (gr bs 0).length := by
              have hk' : k ≤ mT (mA (gr bs 0) (gr bs 1) (gr bs 0).length) (mB (gr bs 0) (gr bs 1) (gr bs 0).length) (gr bs 0).length := hk
              omega
            have HDK := Lib.hid (HMO.out.dK_le hkn)
            have HNB := Lib.hid (show -10000000 ≤ nK (mA (gr bs 0) (gr bs 1) (gr bs 0).length) (mB (gr bs 0) (gr bs 1) (gr bs 0).length) (gr bs 0).length k ∧ nK (mA (gr bs 0) (gr bs 1) (gr bs 0).length) (mB (gr bs 0) (gr bs 1) (gr bs 0).length) (gr bs 0).length k ≤ 10000000 by
              have va := HMO.out.a0 _ (mo_lt (a := gr bs 0) (b := gr bs 1) hkn)
              have vb := HMO.out.b0 _ (mo_lt (a := gr bs 0) (b := gr bs 1) hkn)
              have m1 := HMO.out.m_bd (k := k) (by omega)
              have y0 := HMO.out.desc.y0 (k := k) (by omega)
              have m0 := HMO.out.desc.m0 (k := k) (by omega)
              have p1 := prod_le (p := 1000) (q := 10000) va.1 va.2 y0 m1.2
              have p2 := prod_le (p := 1000) (q := 10000) vb.1 vb.2 m0 m1.1
              have e : nK (mA (gr bs 0) (gr bs 1) (gr bs 0).length) (mB (gr bs 0) (gr bs 1) (gr bs 0).length) (gr bs 0).length k = gi (gr bs 0) (mo (gr bs 0) (gr bs 1) (gr bs 0).length k) * mY (mB (gr bs 0) (gr bs 1) (gr bs 0).length) (gr bs 0).length k - gi (gr bs 1) (mo (gr bs 0) (gr bs 1) (gr bs 0).length k) * mM (mA (gr bs 0) (gr bs 1) (gr bs 0).length) k := rfl
              omega)
            have HPK := Lib.hid (fun V hV hB => HPA.out k hkn V hV hB)
            have HCS := Lib.hid (show (k < mtt (gr bs 0) (gr bs 1) (gr bs 0).length → ¬ (0 < dK (mA (gr bs 0) (gr bs 1) (gr bs 0).length) (mB (gr bs 0) (gr bs 1) (gr bs 0).length) k ∧ 0 < nK (mA (gr bs 0) (gr bs 1) (gr bs 0).length) (mB (gr bs 0) (gr bs 1) (gr bs 0).length) (gr bs 0).length k ∧ nK (mA (gr bs 0) (gr bs 1) (gr bs 0).length) (mB (gr bs 0) (gr bs 1) (gr bs 0).length) (gr bs 0).length k < dK (mA (gr bs 0) (gr bs 1) (gr bs 0).length) (mB (gr bs 0) (gr bs 1) (gr bs 0).length) k)) ∧ (k = mtt (gr bs 0) (gr bs 1) (gr bs 0).length → 0 < dK (mA (gr bs 0) (gr bs 1) (gr bs 0).length) (mB (gr bs 0) (gr bs 1) (gr bs 0).length) k ∧ 0 < nK (mA (gr bs 0) (gr bs 1) (gr bs 0).length) (mB (gr bs 0) (gr bs 1) (gr bs 0).length) (gr bs 0).length k ∧ nK (mA (gr bs 0) (gr bs 1) (gr bs 0).length) (mB (gr bs 0) (gr bs 1) (gr bs 0).length) (gr bs 0).length k < dK (mA (gr bs 0) (gr bs 1) (gr bs 0).length) (mB (gr bs 0) (gr bs 1) (gr bs 0).length) k) from ⟨fun h => by
                have := (go_spec (HD.out.t_spec.2.1 k h)).2; omega, fun h => by
                have tp := HD.out.t_part HP.out
                have e : k = mT (mA (gr bs 0) (gr bs 1) (gr bs 0).length) (mB (gr bs 0) (gr bs 1) (gr bs 0).length) (gr bs 0).length := h
                have h0 := HP.out
                have e2 : mtt (gr bs 0) (gr bs 1) (gr bs 0).length = mT (mA (gr bs 0) (gr bs 1) (gr bs 0).length) (mB (gr bs 0) (gr bs 1) (gr bs 0).length) (gr bs 0).length := rfl
                rw [e2] at h0
                rw [← e] at tp h0
                exact ⟨by omega, h0, tp.2.2⟩⟩)
            have HX := Lib.hid (fun (e : k = mtt (gr bs 0) (gr bs 1) (gr bs 0).length) => show splitR (gr bs 0) (gr bs 1) (gr bs 0).length k (makeR (nK (mA (gr bs 0) (gr bs 1) (gr bs 0).length) (mB (gr bs 0) (gr bs 1) (gr bs 0).length) (gr bs 0).length k) (dK (mA (gr bs 0) (gr bs 1) (gr bs 0).length) (mB (gr bs 0) (gr bs 1) (gr bs 0).length) k)) = (mSh (gr bs 0) (gr bs 1) (gr bs 0).length) by
              have e : k = mT (mA (gr bs 0) (gr bs 1) (gr bs 0).length) (mB (gr bs 0) (gr bs 1) (gr bs 0).length) (gr bs 0).length := e
              have h0 := HP.out
              have e2 : mtt (gr bs 0) (gr bs 1) (gr bs 0).length = mT (mA (gr bs 0) (gr bs 1) (gr bs 0).length) (mB (gr bs 0) (gr bs 1) (gr bs 0).length) (gr bs 0).length := rfl
              rw [e2] at h0
              unfold mSh mX
              rw [if_neg (by omega), ← e])
            have q : decide ((k : Int) < ((gr bs 0).length : Int)) = true := decide_eq_true (by omega)
            have q2 : decide (k < (gr bs 0).length) = true := decide_eq_true hkn
            have HME := Lib.hid (fun (h : k < mtt (gr bs 0) (gr bs 1) (gr bs 0).length) => show k + 1 ≤ mtt (gr bs 0) (gr bs 1) (gr bs 0).length ∧ (gr bs 0).length - (k + 1) < (gr bs 0).length - k by omega)
            have HKK := Lib.hid hk
            have HKB := Lib.hid (show (k : Int) ≤ 10 by have := HN.out; omega)
            clear tl hkn hk HPA
            generalize hnk : nK (mA (gr bs 0) (gr bs 1) (gr bs 0).length) (mB (gr bs 0) (gr bs 1) (gr bs 0).length) (gr bs 0).length k = N at *
            generalize hdk : dK (mA (gr bs 0) (gr bs 1) (gr bs 0).length) (mB (gr bs 0) (gr bs 1) (gr bs 0).length) k = D at *
            clear hnk hdk
            have c_G := fun j => cell_of_row _ _ j _ _ _ (hBr.get 0 rfl)
            have z_G := hBr.lt 0 rfl
            go_wp2_with fail
            refine (HPK.out _ hbw hBr.below).mono ?_
            rintro e w71 ⟨rfl, hb⟩
            have hB71 := hBr.next hb
            have hbw := bcall hbw hbw.size hb
            clear c_G z_G hb hBr HPK q q2
            by_cases he : k = mtt (gr bs 0) (gr bs 1) (gr bs 0).length
            · obtain ⟨d0, n0, nd⟩ := HCS.out.2 he
              have q1 : decide (0 < D) = true := decide_eq_true d0
              have q2 : decide (0 < N) = true := decide_eq_true n0
              have q3 : decide (N < D) = true := decide_eq_true nd
              have HSX := Lib.hid (fun (V : World) (hV : Below w1.heap.size w1 V) => HSP.out k (makeR N D) V hV)
              have HXX := Lib.hid (HX.out he)
              have HMK := Lib.hid (fun V => fmake_any N D (by have := HNB.out; omega) (by have := HNB.out; omega) (by have := HDK.out; omega) (by have := HDK.out; omega) V)
              clear d0 n0 nd he HCS HX HME
              generalize makeR N D = xr at *
              generalize makeC N D = xc at *
              go_wp2_with fail
              refine (HMK.out _).mono ?_
              rintro e w72 ⟨rfl, hb⟩
              have hB72 := hB71.next hb
              have hbw := bcall hbw hbw.size hb
              have hbw := hbw.alloc hbw.size (rB xr)
              clear hb hB71 HMK q1 q2 q3
              go_upto_region 20 with fail
              have hB73 := hB72.new rfl (rB xr)
              clear hB72
              generalize w72.heap.size = gX at *
              generalize w72.alloc _ = w73 at *
              have c_x := fun j => cell_of_row _ _ j _ _ _ (hB73.get 0 rfl)
              have z_x := hB73.lt 0 rfl
              go_wp2_with fail
              refine (HSX.out _ hbw).mono ?_
              rintro e wz ⟨gz, rfl, ho, hb⟩
              have HE := Lib.hid (bcall hB73.below hB73.below.size hb)
              have HOW := Lib.hid (own_base hB73.below ho)
              clear c_x z_x ho hb hbw hB73
              go_wp2_with fail
              go_ret
              exact ⟨gz, rfl, by rw [← HXX.out]; exact HOW.out, HE.out⟩
            have hl : k < mtt (gr bs 0) (gr bs 1) (gr bs 0).length := by have := HKK.out; omega
            have HM1 := Lib.hid (HME.out hl)
            have HNC := Lib.hid (HCS.out.1 hl)
            have HYY := Lib.hid (show IntKind.i64.wrap ((k : Int) + 1) = (k : Int) + 1 ∧ wrap64 ((k : Int) + 1) = (k : Int) + 1 from ⟨IntWalk.i64_in _ (by have := HKB.out; omega), IntWalk.wrap64_in _ (by have := HKB.out; omega)⟩)
            clear hl he HCS HX HME
            have HZ := Lib.hid hB71
            have HZB := Lib.hid hbw
            clear hB71 hbw
            by_cases h1 : 0 < D
            rotate_left
            · have q1 : decide (0 < D) = false := decide_eq_false h1
              clear h1
              obtain ⟨y1, y2⟩ := HYY.out
              go_wp2_with fail
              exact ⟨⟨k + 1, HM1.out.1, by go_num, HZ.out, HZB.out⟩, by simpa [intOf] using HM1.out.2⟩
            have q1 : decide (0 < D) = true := decide_eq_true h1
            by_cases h2 : 0 < N
            rotate_left
            · have q2 : decide (0 < N) = false := decide_eq_false h2
              clear h1 h2
              obtain ⟨y1, y2⟩ := HYY.out
              go_wp2_with fail
              exact ⟨⟨k + 1, HM1.out.1, by go_num, HZ.out, HZB.out⟩, by simpa [intOf] using HM1.out.2⟩
            have q2 : decide (0 < N) = true := decide_eq_true h2
            have q3 : decide (N < D) = false := decide_eq_false (fun h3 => HNC.out ⟨h1, h2, h3⟩)
            clear h1 h2
            obtain ⟨y1, y2⟩ := HYY.out
            go_wp2_with fail
            exact ⟨⟨k + 1, HM1.out.1, by go_num, HZ.out, HZB.out⟩, by simpa [intOf] using HM1.out.2⟩
      have q : decide ((t : Int) ≤ ((gr bs 0).length : Int)) = true := decide_eq_true (by omega)
      have q2 : decide (t ≤ (gr bs 0).length) = true := decide_eq_true hle
      have HTL := Lib.hid hle
      have HNO := Lib.hid hno
      have HSK := Lib.hid (fun V hV hB => HSU.out t hle V hV hB)
      have HST := Lib.hid (fun (h : okB (mA (gr bs 0) (gr bs 1) (gr bs 0).length) (mB (gr bs 0) (gr bs 1) (gr bs 0).length) (gr bs 0).length t) => show splitR (gr bs 0) (gr bs 1) (gr bs 0).length t ⟨0, 1⟩ = (mSh (gr bs 0) (gr bs 1) (gr bs 0).length) by
        obtain ⟨e1, e2⟩ := okB_first HD.out HTL.out h HNO.out
        unfold mSh mX
        rw [if_pos e1, ← e2])
      have HNX := Lib.hid (fun (h : ¬ okB (mA (gr bs 0) (gr bs 1) (gr bs 0).length) (mB (gr bs 0) (gr bs 1) (gr bs 0).length) (gr bs 0).length t) => show ∀ j, j < t + 1 → ¬ okB (mA (gr bs 0) (gr bs 1) (gr bs 0).length) (mB (gr bs 0) (gr bs 1) (gr bs 0).length) (gr bs 0).length j from fun j hj => by
        by_cases e : j = t
        · rw [e]; exact h
        · exact HNO.out j (by omega))
      have HMB := Lib.hid (show 0 ≤ mM (mA (gr bs 0) (gr bs 1) (gr bs 0).length) t ∧ mM (mA (gr bs 0) (gr bs 1) (gr bs 0).length) t ≤ 10000 ∧ 0 ≤ mY (mB (gr bs 0) (gr bs 1) (gr bs 0).length) (gr bs 0).length t ∧ mY (mB (gr bs 0) (gr bs 1) (gr bs 0).length) (gr bs 0).length t ≤ 10000 from ⟨HD.out.m0 hle, (HMO.out.m_bd hle).1, HD.out.y0 hle, (HMO.out.m_bd hle).2⟩)
      have HSX := Lib.hid (fun (V : World) (hV : Below w1.heap.size w1 V) => HSP.out t ⟨0, 1⟩ V hV)
      have HTB := Lib.hid (show (t : Int) ≤ 10 by have := HN.out; omega)
      have HMT := Lib.hid (show t + 1 ≤ (gr bs 0).length + 1 ∧ (gr bs 0).length + 1 - (t + 1) < (gr bs 0).length + 1 - t by omega)
      clear hle hno ht HSU HPA HSP
      have c_G := fun j => cell_of_row _ _ j _ _ _ (hBr.get 0 rfl)
      have z_G := hBr.lt 0 rfl
      go_wp2_with fail
      refine (HSK.out _ hbw hBr.below).mono ?_
      rintro e w41 ⟨rfl, hb⟩
      have hB41 := hBr.next hb
      have hbw := bcall hbw hbw.size hb
      clear c_G z_G hb hBr HSK q q2
      have HB2 := Lib.hid hB41
      have HBW2 := Lib.hid hbw
      clear hB41 hbw
      have HK0 := Lib.hid (okK_zero (mA (gr bs 0) (gr bs 1) (gr bs 0).length) (mB (gr bs 0) (gr bs 1) (gr bs 0).length) (gr bs 0).length t)
      go_upto_region 6 with fail
      go_cut [7] (fun o wx => o = .bool (okK (mA (gr bs 0) (gr bs 1) (gr bs 0).length) (mB (gr bs 0) (gr bs 1) (gr bs 0).length) (gr bs 0).length t 0) ∧ w41 = wx)
      case first =>
        by_cases h0 : 0 < mM (mA (gr bs 0) (gr bs 1) (gr bs 0).length) t
        · have q0 : decide (0 < mM (mA (gr bs 0) (gr bs 1) (gr bs 0).length) t) = true := decide_eq_true h0
          by_cases h1 : 0 < mY (mB (gr bs 0) (gr bs 1) (gr bs 0).length) (gr bs 0).length t
          · have q1 : decide (0 < mY (mB (gr bs 0) (gr bs 1) (gr bs 0).length) (gr bs 0).length t) = true := decide_eq_true h1
            have HR := Lib.hid (show okK (mA (gr bs 0) (gr bs 1) (gr bs 0).length) (mB (gr bs 0) (gr bs 1) (gr bs 0).length) (gr bs 0).length t 0 = true by rw [HK0.out, q0, q1]; rfl)
            clear h0 h1
            go_wp2_with fail
            go_meet
            exact ⟨by rw [HR.out], rfl⟩
          · have q1 : decide (0 < mY (mB (gr bs 0) (gr bs 1) (gr bs 0).length) (gr bs 0).length t) = false := decide_eq_false h1
            have HR := Lib.hid (show okK (mA (gr bs 0) (gr bs 1) (gr bs 0).length) (mB (gr bs 0) (gr bs 1) (gr bs 0).length) (gr bs 0).length t 0 = false by rw [HK0.out, q0, q1]; rfl)
            clear h0 h1
            go_wp2_with fail
            go_meet
            exact ⟨by rw [HR.out], rfl⟩
        · have q0 : decide (0 < mM (mA (gr bs 0) (gr bs 1) (gr bs 0).length) t) = false := decide_eq_false h0
          have HR := Lib.hid (show okK (mA (gr bs 0) (gr bs 1) (gr bs 0).length) (mB (gr bs 0) (gr bs 1) (gr bs 0).length) (gr bs 0).length t 0 = false by rw [HK0.out, q0]; rfl)
          clear h0
          go_wp2_with fail
          go_meet
          exact ⟨by rw [HR.out], rfl⟩
      case rest =>
        obtain ⟨rfl, rfl⟩ := hcut
        clear HK0
        generalize hb0 : okK (mA (gr bs 0) (gr bs 1) (gr bs 0).length) (mB (gr bs 0) (gr bs 1) (gr bs 0).length) (gr bs 0).length t 0 = o0 at *
        have HO0 := Lib.hid hb0
        clear hb0
        go_wp2_with fail
        go_loopw [7, 8] (fun a s wq => ∃ k : Nat, k ≤ (gr bs 0).length ∧ a = .bool (okK (mA (gr bs 0) (gr bs 1) (gr bs 0).length) (mB (gr bs 0) (gr bs 1) (gr bs 0).length) (gr bs 0).length t k) ∧ s = .int .i64 k ∧ Bx w [(w.heap.size, gB (some ad) c bs)] wq ∧ Below w1.heap.size w1 wq) (fun _ s _ => (gr bs 0).length - (intOf s).toNat)
        case atStart => exact ⟨0, Nat.zero_le _, by rw [HO0.out], rfl, HB2.out, HBW2.out⟩
        case round =>
          clear HO0
          obtain ⟨k, hk, rfl, rfl, hBr, hbw⟩ := hrel
          clear HB2 HBW2
          have HVW := Lib.hid (HVL.out _ hBr.below)
          cases hkk : okK (mA (gr bs 0) (gr bs 1) (gr bs 0).length) (mB (gr bs 0) (gr bs 1) (gr bs 0).length) (gr bs 0).length t k
          · have HNX2 := Lib.hid (HNX.out (okK_stop hk hkk HTL.out))
            have HZ := Lib.hid hBr
            have HZB := Lib.hid hbw
            clear hBr hbw HNX HST HSX HVW hkk
            have HYY := Lib.hid (show IntKind.i64.wrap ((t : Int) + 1) = (t : Int) + 1 ∧ wrap64 ((t : Int) + 1) = (t : Int) + 1 from ⟨IntWalk.i64_in _ (by have := HTB.out; omega), IntWalk.wrap64_in _ (by have := HTB.out; omega)⟩)
            obtain ⟨y1, y2⟩ := HYY.out
            by_cases hlt : k < (gr bs 0).length
            · have p1 : decide ((k : Int) < ((gr bs 0).length : Int)) = true := decide_eq_true (by omega)
              have p2 : decide (k < (gr bs 0).length) = true := decide_eq_true hlt
              clear hlt hk HYY
              go_wp2_with fail
              exact ⟨⟨t + 1, HMT.out.1, by go_num, HNX2.out, HZ.out, HZB.out⟩, by simpa [intOf] using HMT.out.2⟩
            · have p1 : decide ((k : Int) < ((gr bs 0).length : Int)) = false := decide_eq_false (by omega)
              have p2 : decide (k < (gr bs 0).length) = false := decide_eq_false hlt
              clear hlt hk HYY
              go_wp2_with fail
              exact ⟨⟨t + 1, HMT.out.1, by go_num, HNX2.out, HZ.out, HZB.out⟩, by simpa [intOf] using HMT.out.2⟩
          · by_cases hlt : k < (gr bs 0).length
            rotate_left
            · obtain rfl : k = (gr bs 0).length := by omega
              have HOK := Lib.hid ((okK_end HTL.out).1 hkk)
              have HXX := Lib.hid (HST.out HOK.out)
              have p1 : decide (((gr bs 0).length : Int) < ((gr bs 0).length : Int)) = false := decide_eq_false (by omega)
              have p2 : decide ((gr bs 0).length < (gr bs 0).length) = false := decide_eq_false (by omega)
              clear hkk hlt hk HST HNX HOK HVW
              go_wp2_with fail
              refine (of_any 0 _).mono ?_
              rintro e wy ⟨rfl, hb⟩
              have hBy := hBr.next hb
              have hbw := bcall hbw hbw.size hb
              clear hb hBr p1 p2
              go_wp2_with fail
              refine (HSX.out _ hbw).mono ?_
              rintro e wz ⟨gz, rfl, ho, hb⟩
              have HE := Lib.hid (bcall hBy.below hBy.below.size hb)
              have HOW := Lib.hid (own_base hBy.below ho)
              clear ho hb hbw hBy
              go_wp2_with fail
              go_ret
              exact ⟨gz, rfl, by rw [← HXX.out]; exact HOW.out, HE.out⟩
            obtain ⟨od, rfl, ocf⟩ := HOC.out k hlt
            have lt := mo_lt (a := gr bs 0) (b := gr bs 1) hlt
            have HKN := Lib.hid (okK_succ hkk)
            have va := HMO.out.a0 _ lt
            have vb := HMO.out.b0 _ lt
            have HP1 := Lib.hid (prod_le (p := 1000) (q := 10000) va.1 va.2 HMB.out.2.2.1 HMB.out.2.2.2)
            have HP2 := Lib.hid (prod_le (p := 1000) (q := 10000) vb.1 vb.2 HMB.out.1 HMB.out.2.1)
            have LB := HMO.out.lb
            have HSL := Lib.hid (And.intro (st_lt (A := (mA (gr bs 0) (gr bs 1) (gr bs 0).length)) (B := (mB (gr bs 0) (gr bs 1) (gr bs 0).length)) (n := (gr bs 0).length) (t := t) (k := k)) (st_ge (A := (mA (gr bs 0) (gr bs 1) (gr bs 0).length)) (B := (mB (gr bs 0) (gr bs 1) (gr bs 0).length)) (n := (gr bs 0).length) (t := t) (k := k)))
            have HME := Lib.hid (And.intro (Nat.succ_le_of_lt hlt) (Nat.sub_lt_sub_left hlt (Nat.lt_succ_self k)))
            have p1 : decide ((k : Int) < ((gr bs 0).length : Int)) = true := decide_eq_true (by omega)
            have p2 : decide (k < (gr bs 0).length) = true := decide_eq_true hlt
            have z1 : (k : Int) < ((gr bs 0).length : Int) := by omega
            have z2 : (mo (gr bs 0) (gr bs 1) (gr bs 0).length k : Int) < ((gr bs 0).length : Int) := by omega
            have z2b : (mo (gr bs 0) (gr bs 1) (gr bs 0).length k : Int) < ((gr bs 1).length : Int) := by omega
            have z3 : (0 : Int) ≤ (k : Int) := by omega
            have z4 : (0 : Int) ≤ (mo (gr bs 0) (gr bs 1) (gr bs 0).length k : Int) := by omega
            have z5 : (0 : Int) < (bs.length : Int) := by rw [H22.out]; decide
            have z6 : (1 : Int) < (bs.length : Int) := by rw [H22.out]; decide
            have o0 := (ocf _ hbw).1
            have o1 := (ocf _ hbw).2
            have r0 := HVW.out.two.r0
            have r1 := HVW.out.two.r1
            have rb := HVW.out.two.bl
            have v0 := (HVW.out.r0 _ lt).1
            have w0 := (HVW.out.r0 _ lt).2
            have v1 := (HVW.out.r1 _ (show mo (gr bs 0) (gr bs 1) (gr bs 0).length k < (gr bs 1).length by omega)).1
            have w1 := (HVW.out.r1 _ (show mo (gr bs 0) (gr bs 1) (gr bs 0).length k < (gr bs 1).length by omega)).2
            have HKB := Lib.hid (show (k : Int) ≤ 10 by have := HN.out; omega)
            clear lt va vb LB ocf hlt hk hkk HOC
            have eA : (mA (gr bs 0) (gr bs 1) (gr bs 0).length) k = gi (gr bs 0) (mo (gr bs 0) (gr bs 1) (gr bs 0).length k) := rfl
            have eB : (mB (gr bs 0) (gr bs 1) (gr bs 0).length) k = gi (gr bs 1) (mo (gr bs 0) (gr bs 1) (gr bs 0).length k) := rfl
            rw [eA, eB] at HSL
            clear eA eB
            generalize gi (gr bs 0) (mo (gr bs 0) (gr bs 1) (gr bs 0).length k) = p at *
            generalize gi (gr bs 1) (mo (gr bs 0) (gr bs 1) (gr bs 0).length k) = q at *
            generalize hmk : mo (gr bs 0) (gr bs 1) (gr bs 0).length k = mk at *
            clear hmk
            generalize hbb : mY (mB (gr bs 0) (gr bs 1) (gr bs 0).length) (gr bs 0).length t = b at *
            generalize haa : mM (mA (gr bs 0) (gr bs 1) (gr bs 0).length) t = a at *
            clear hbb haa
            have HYW := Lib.hid (show (wrap64 (p * b) = p * b ∧ IntKind.i64.wrap (p * b) = p * b) ∧ (wrap64 (q * a) = q * a ∧ IntKind.i64.wrap (q * a) = q * a) ∧ (wrap64 ((k : Int) + 1) = (k : Int) + 1 ∧ IntKind.i64.wrap ((k : Int) + 1) = (k : Int) + 1) from ⟨⟨IntWalk.wrap64_in _ (by have := HP1.out; omega), IntWalk.i64_in _ (by have := HP1.out; omega)⟩, ⟨IntWalk.wrap64_in _ (by have := HP2.out; omega), IntWalk.i64_in _ (by have := HP2.out; omega)⟩, ⟨IntWalk.wrap64_in _ (by have := HKB.out; omega), IntWalk.i64_in _ (by have := HKB.out; omega)⟩⟩)
            obtain ⟨⟨a1, a2⟩, ⟨a3, a4⟩, ⟨a5, a6⟩⟩ := HYW.out
            clear HYW
            have c_G := fun j => cell_of_row _ _ j _ _ _ (hBr.get 0 rfl)
            have z_G := hBr.lt 0 rfl
            go_upto_region 10 with fail
            refine wp_region_ext (by kernel_rfl) (by kernel_rfl) ?_
            repeat (first | go_big_quiet_step (fail) | quiet_step (fail))
            refine wpQuiet_nil ?_
            rintro wx ⟨⟨_, hbx⟩, rfl⟩
            have HZ := Lib.hid (hBr.next hbx)
            have HZB := Lib.hid (bcall hbw hbw.size hbx)
            clear c_G z_G hbx hBr hbw o0 o1 r0 r1 rb v0 w0 v1 w1 a1 a2 a3 a4
            go_upto_region 11 with fail
            by_cases h0 : k < t
            · have HS := Lib.hid (HSL.out.1 h0)
              have q0 : decide ((k : Int) < (t : Int)) = true := decide_eq_true (by omega)
              have q0n : decide (k < t) = true := decide_eq_true h0
              by_cases h1 : q * a ≤ p * b
              · have q1 : decide (q * a ≤ p * b) = true := decide_eq_true h1
                clear h0 h1
                go_wp2_with fail
                exact ⟨⟨k + 1, HME.out.1, by rw [HKN.out, HS.out, q1], by go_num, HZ.out, HZB.out⟩, by simpa [intOf] using HME.out.2⟩
              · have q1 : decide (q * a ≤ p * b) = false := decide_eq_false h1
                have q2 : decide ((t : Int) ≤ (k : Int)) = false := decide_eq_false (by omega)
                have q2n : decide (t ≤ k) = false := decide_eq_false (by omega)
                clear h0 h1
                go_wp2_with fail
                exact ⟨⟨k + 1, HME.out.1, by rw [HKN.out, HS.out, q1], by go_num, HZ.out, HZB.out⟩, by simpa [intOf] using HME.out.2⟩
            · have HS := Lib.hid (HSL.out.2 h0)
              have q0 : decide ((k : Int) < (t : Int)) = false := decide_eq_false (by omega)
              have q0n : decide (k < t) = false := decide_eq_false h0
              have q2 : decide ((t : Int) ≤ (k : Int)) = true := decide_eq_true (by omega)
              have q2n : decide (t ≤ k) = true := decide_eq_true (by omega)
              by_cases h1 : p * b ≤ q * a
              · have q1 : decide (p * b ≤ q * a) = true := decide_eq_true h1
                clear h0 h1
                go_wp2_with fail
                exact ⟨⟨k + 1, HME.out.1, by rw [HKN.out, HS.out, q1], by go_num, HZ.out, HZB.out⟩, by simpa [intOf] using HME.out.2⟩
              · have q1 : decide (p * b ≤ q * a) = false := decide_eq_false h1
                clear h0 h1
                go_wp2_with fail
                exact ⟨⟨k + 1, HME.out.1, by rw [HKN.out, HS.out, q1], by go_num, HZ.out, HZB.out⟩, by simpa [intOf] using HME.out.2⟩
end Go.Proofs.Ytpijllobpohpgaa

namespace Go.Proofs.Ytpijllobpohpgaa
open Go.RowKit Go.Deep
set_option linter.unusedVariables false
set_option linter.unusedSimpArgs false

theorem clears_own' {bs : List (List Int)} (k : Nat) : ((mOwn (gr bs 0) (gr bs 1) (gr bs 0).length k) = 0 ∧ 0 < (gR (mSh (gr bs 0) (gr bs 1) (gr bs 0).length) k).n) ∨ ((mOwn (gr bs 0) (gr bs 1) (gr bs 0).length k) = 1 ∧ ¬ 0 < (gR (mSh (gr bs 0) (gr bs 1) (gr bs 0).length) k).n) := by
  unfold mOwn
  by_cases c : 0 < (gR (mSh (gr bs 0) (gr bs 1) (gr bs 0).length) k).n
  · left; rw [if_pos c]; exact ⟨rfl, c⟩
  · right; rw [if_neg c]; exact ⟨rfl, c⟩
theorem fshares_q (bs : List (List Int)) (A : Option Addr) (c : Nat) (w : World) (hG : GIn w.heap.size w A c bs) (hok : mkCode bs = 0) :
    Calls Try.prog 55 #[gV A c bs] w fun e w' => ∃ bd, e = .returned (.slice (some bd) (gr bs 0).length (gr bs 0).length) ∧ QIn w'.heap.size w' (some bd) (gr bs 0).length (mSh (gr bs 0) (gr bs 1) (gr bs 0).length) ∧ Below w.heap.size w w' := by
  refine (fshares_any bs A c w hG hok).mono ?_
  rintro e w' ⟨g, rfl, ho, hb⟩
  exact ⟨_, rfl, QIn.of_own (by rw [sh_len]; exact ho) (sh_wf hok), hb⟩
/-- The rate of an agent, the reference's. -/
theorem frate_any (bs : List (List Int)) (A : Option Addr) (c : Nat) (bd : Addr) (i : Nat) (hi : i < 2) (w : World) (hG : GIn w.heap.size w A c bs) (hok : mkCode bs = 0) (hq : QIn w.heap.size w (some bd) (gr bs 0).length (mSh (gr bs 0) (gr bs 1) (gr bs 0).length)) :
    Calls Try.prog 54 #[gV A c bs, .slice (some bd) (gr bs 0).length (gr bs 0).length, .int .i64 i] w fun e w' => e = .returned (.tuple #[rV (mkR (mU (gr bs 0) (gr bs 1) (gr bs 0).length i)), .int .i64 0]) ∧ Below w.heap.size w w' := by
  have h2 := (mk_ok hok).1
  have n0 := (mk_ok hok).2.n0
  have n10 := (mk_ok hok).2.n10
  have rb := row_bd hok hi
  have h := fworth_any bs A c (mSh (gr bs 0) (gr bs 1) (gr bs 0).length) (some bd) (gr bs 0).length i _ w hG (by omega) hi hq (by rw [sh_len]; exact rb.1.symm) (by rw [sh_len]; exact n0) (by rw [sh_len]; omega) (fun g hg => by
    rw [sh_len] at hg
    have := rb.2 g hg; omega) (sh_worth hok hi)
  rw [sh_len] at h
  exact h
set_option maxRecDepth 100000 in
set_option maxHeartbeats 32000000 in
theorem ffind_any (bs : List (List Int)) (A : Option Addr) (c : Nat) (w : World) (h : GIn w.heap.size w A c bs) :
    Calls Try.prog 26 #[gV A c bs] w fun e w' => ∃ P cp B cb, e = .returned (.tuple #[.slice P (findP bs).length cp, .slice B (findS bs).length cb, .int .i64 (mkCode bs)]) ∧ QIn w'.heap.size w' P cp (findP bs) ∧ QIn w'.heap.size w' B cb (findS bs) ∧ Below w.heap.size w w' := by
  obtain ⟨iq, hiq, hq0, hq1, hq2⟩ := info_parts infoQ
  have hB0 : Bx w [(w.heap.size, gB A c bs)] (w.alloc (gB A c bs)) := (Bx.start w).new rfl _
  have HC := Lib.hid (fun (W : World) (hW : Below w.heap.size w W) => fmcheck_any bs A c W (h.next hW))
  have HG := Lib.hid h
  clear h
  go_enter Try.func26, Try.ntmps26
  try dsimp only [List.append]
  go_upto_region 1 with fail
  generalize w.alloc (gB A c bs) = w0 at *
  have c_G := fun j => cell_of_row _ _ j _ _ _ (hB0.get 0 rfl)
  have z_G := hB0.lt 0 rfl
  by_cases hc : mkCode bs = 0
  rotate_left
  · have q : (mkCode bs != 0) = true := bneT hc
    have HPS := Lib.hid (show findP bs = [] ∧ findS bs = [] by unfold findP findS; rw [if_neg hc, if_neg hc]; exact ⟨rfl, rfl⟩)
    obtain ⟨code, hco⟩ : ∃ x, x = mkCode bs := ⟨_, rfl⟩
    rw [← hco] at HC q
    have HCO := Lib.hid hco
    clear hc hco
    go_wp2_with fail
    refine (HC.out _ hB0.below).mono ?_
    rintro e w1 ⟨rfl, hb⟩
    have hB1 := hB0.next hb
    clear c_G z_G hb hB0
    have c_G := fun j => cell_of_row _ _ j _ _ _ (hB1.get 0 rfl)
    have z_G := hB1.lt 0 rfl
    go_wp2_with fail
    refine (HC.out _ hB1.below).mono ?_
    rintro e w2 ⟨rfl, hb⟩
    have hB2 := hB1.next hb
    clear c_G z_G hb hB1
    have HE := Lib.hid hB2.below
    clear HC hB2
    go_wp2_with fail
    refine bodyPost_ret (v := .tuple #[.slice none 0 0, .slice none 0 0, .int .i64 code]) (by simp [results, Try.results26, go_sem]) rfl ⟨none, 0, none, 0, ?_, ?_, ?_, HE.out⟩
    · rw [HPS.out.1, HPS.out.2, ← HCO.out]; rfl
    · rw [HPS.out.1]; exact QIn.nil _
    · rw [HPS.out.2]; exact QIn.nil _
  have q : (mkCode bs != 0) = false := bneF hc
  have HCO := Lib.hid hc
  obtain ⟨ad, R0, c0, R1, c1, xa, ya, rfl, hvl⟩ := HG.out.vals hc
  have HVL := Lib.hid (fun (V : World) (hB : Below w.heap.size w V) => hvl.next hB)
  obtain rfl := hvl.e0
  obtain rfl := hvl.e1
  have hmo := (mk_ok hc).2
  have HN := Lib.hid (show (gr bs 0).length ≤ 10 ∧ 0 < (gr bs 0).length by have := hmo.n10; have := hmo.n0; omega)
  rw [hc] at HC q
  clear hc hvl hmo
  go_wp2_with fail
  refine (HC.out _ hB0.below).mono ?_
  rintro e w1 ⟨rfl, hb⟩
  have hB1 := hB0.next hb
  clear c_G z_G hb hB0
  clear HC
  have c_G := fun j => cell_of_row _ _ j _ _ _ (hB1.get 0 rfl)
  have z_G := hB1.lt 0 rfl
  have hsq := fshares_q bs (some ad) c w1 (HG.out.next hB1.below) HCO.out
  go_wp2_with fail
  refine hsq.mono ?_
  rintro e3 w2 ⟨bd, rfl, hq, hb⟩
  have hB2 := hB1.next hb
  clear c_G z_G hb hB1 hsq q
  have HQ := Lib.hid hq
  have HGC := Lib.hid (fun (W : World) (hW : Below w2.heap.size w2 W) => heap_ext (hB2.get 0 rfl) hW)
  have HB3 := Lib.hid hB2.below
  have HG3 := Lib.hid (HG.out.next hB2.below)
  have HVL3 := Lib.hid (HVL.out _ hB2.below)
  clear hq hB2 HG HVL
  have HRA := Lib.hid (fun (i : Nat) (hi : i < 2) (V : World) (hW : Below w2.heap.size w2 V) => frate_any bs (some ad) c bd i hi V (HG3.out.next hW) HCO.out (HQ.out.next hW))
  have HM5 := Lib.hid ((Mx.of_bx (Bx.start w2)).nil 36 2)
  obtain ⟨ps, hps⟩ : ∃ x, x = (mPs (gr bs 0) (gr bs 1) (gr bs 0).length) := ⟨_, rfl⟩
  obtain ⟨nn, hnn⟩ : ∃ x : Nat, x = (gr bs 0).length := ⟨_, rfl⟩
  have HPS := Lib.hid hps
  have HNN := Lib.hid hnn
  have HPL := Lib.hid (show ps.length = nn by rw [hps, hnn]; exact ps_len)
  have HWF := Lib.hid (fun k (hk : k < nn) => show (gR ps k).wf by rw [hps, ps_at (by omega)]; exact divR_wf _ _)
  have HTK := Lib.hid (fun k (hk : k < nn) => show ps.take (k + 1) = ps.take k ++ [gR ps k] by rw [List.take_succ_eq_append_getElem (by rw [HPL.out]; exact hk), gR_get (by rw [HPL.out]; exact hk)])
  have HAT := Lib.hid (fun k (hk : k < nn) => show gR ps k = mPr (gr bs 0) (gr bs 1) (gr bs 0).length k by rw [hps]; exact ps_at (by omega))
  rw [← hnn]
  clear hps hnn
  go_wp2_with fail
  go_loopw [6, 7] (fun v s wr => ∃ k : Nat, k ≤ nn ∧ s = .int .i64 k ∧ Mx w2 [] [qR v (ps.take k)] wr) (fun _ s _ => nn - (intOf s).toNat)
  case atStart => exact ⟨0, Nat.zero_le _, rfl, HM5.out⟩
  case round =>
    as_aux_lemma =>
      obtain ⟨k, hk, rfl, hMr⟩ := hrel
      clear HM5
      by_cases hlt : k < nn
      rotate_left
      · obtain rfl : k = nn := by omega
        rw [List.take_of_length_le (show ps.length ≤ k by rw [HPL.out]; exact Nat.le_refl _)] at hMr
        have hrow : wr.ownsRow w2.heap.size 36 2 _ ps.length (ratV ps) := hMr.row 0 rfl
        obtain ⟨A, c2, rfl, _, _⟩ := own_nil_len hrow
        have HQP := Lib.hid (QIn.of_own (l := ps) (B := w2.heap.size) (w := wr) (A := A) (c := c2) hrow (fun g hg => HWF.out g (by rw [← HPL.out]; exact hg)))
        have HE := Lib.hid (below_below HB3.out hMr.below)
        have HQS := Lib.hid (HQ.out.next hMr.below)
        have HFS := Lib.hid (show findP bs = ps ∧ findS bs = (mSh (gr bs 0) (gr bs 1) (gr bs 0).length) by unfold findP findS; rw [if_pos HCO.out, if_pos HCO.out, HPS.out]; exact ⟨rfl, rfl⟩)
        have HQS' := Lib.hid (show QIn wr.heap.size wr (some bd) k (mSh (gr bs 0) (gr bs 1) (gr bs 0).length) by rw [HNN.out]; exact HQS.out)
        have HLL := Lib.hid (show ps.length = k ∧ (mSh (gr bs 0) (gr bs 1) (gr bs 0).length).length = k by rw [HPL.out, sh_len, HNN.out]; exact ⟨rfl, rfl⟩)
        clear hMr hrow hlt hk HQ HTK HAT HPS HVL3 HG3 HGC HRA
        go_wp2_with fail
        refine bodyPost_ret (v := .tuple #[.slice A ps.length c2, .slice (some bd) k k, .int .i64 0]) (by simp [results, Try.results26, go_sem]) rfl ⟨A, c2, some bd, k, ?_, ?_, ?_, HE.out⟩
        · rw [HFS.out.1, HFS.out.2, HLL.out.1, HLL.out.2, HCO.out]
        · rw [HFS.out.1]; exact HQP.out
        · rw [HFS.out.2]; exact HQS'.out
      obtain ⟨bd', ebd, bb, bc⟩ := (HQ.out.next hMr.below).at_ (k := k) (by rw [sh_len, ← HNN.out]; exact hlt)
      obtain rfl : bd = bd' := by simpa using ebd
      obtain ⟨f0, f1, f2⟩ := cell2 bc (show k < (mSh (gr bs 0) (gr bs 1) (gr bs 0).length).length by rw [sh_len, ← HNN.out]; exact hlt)
      have how := clears_own' (bs := bs) k
      have HOL := Lib.hid (mOwn_lt (gr bs 0) (gr bs 1) (gr bs 0).length k)
      have HPK := Lib.hid (show gR ps k = divR ⟨gi (gr bs (mOwn (gr bs 0) (gr bs 1) (gr bs 0).length k)) k, 1⟩ (mkR (mU (gr bs 0) (gr bs 1) (gr bs 0).length (mOwn (gr bs 0) (gr bs 1) (gr bs 0).length k))) by
        rw [HAT.out k hlt]
        unfold mPr mVal mOwn
        split <;> rfl)
      have HKN := Lib.hid (show k < (gr bs 0).length by rw [← HNN.out]; exact hlt)
      have HKB := Lib.hid (show k ≤ 9 by have := HN.out.1; have := HNN.out; omega)
      have HTKK := Lib.hid (HTK.out k hlt)
      have HWK := Lib.hid (HWF.out k hlt)
      have HTL := Lib.hid (show (ps.take k).length = k by rw [List.length_take, HPL.out]; omega)
      have HKM := Lib.hid (show k + 1 ≤ maxLen ∧ (k + 1) * 16 ≤ 140737488355328 by have := HKB.out; unfold maxLen; omega)
      have HME := Lib.hid (And.intro (Nat.succ_le_of_lt hlt) (Nat.sub_lt_sub_left hlt (Nat.lt_succ_self k)))
      have HRAK := Lib.hid (fun (V : World) (hW : Below w2.heap.size w2 V) => show Calls Try.prog 54 #[gV (some ad) c bs, .slice (some bd) nn nn, .int .i64 (((mOwn (gr bs 0) (gr bs 1) (gr bs 0).length k) : Nat) : Int)] V fun e w' => e = .returned (.tuple #[rV (mkR (mU (gr bs 0) (gr bs 1) (gr bs 0).length (mOwn (gr bs 0) (gr bs 1) (gr bs 0).length k))), .int .i64 0]) ∧ Below V.heap.size V w' by rw [HNN.out]; exact HRA.out (mOwn (gr bs 0) (gr bs 1) (gr bs 0).length k) HOL.out V hW)
      have HUW := Lib.hid (mkR_wf (mU (gr bs 0) (gr bs 1) (gr bs 0).length (mOwn (gr bs 0) (gr bs 1) (gr bs 0).length k)))
      have z1 : (k : Int) < (nn : Int) := by omega
      have z3 : (0 : Int) ≤ (k : Int) := by omega
      have HYY := Lib.hid (show IntKind.i64.wrap ((k : Int) + 1) = (k : Int) + 1 ∧ wrap64 ((k : Int) + 1) = (k : Int) + 1 from ⟨IntWalk.i64_in _ (by have := HKB.out; omega), IntWalk.wrap64_in _ (by have := HKB.out; omega)⟩)
      have y1 := HYY.out.1
      have y2 := HYY.out.2
      clear ebd bb bc hk hlt HTK HAT HWF HYY HRA
      generalize gR (mSh (gr bs 0) (gr bs 1) (gr bs 0).length) k = el at *
      generalize mkR (mU (gr bs 0) (gr bs 1) (gr bs 0).length (mOwn (gr bs 0) (gr bs 1) (gr bs 0).length k)) = ur at *
      generalize (mOwn (gr bs 0) (gr bs 1) (gr bs 0).length k) = ow at *
      generalize ps.take k = pk at *
      generalize gR ps k = pv at *
      rcases how with ⟨rfl, hn⟩ | ⟨rfl, hn⟩
      · have p1 : decide (0 < el.n) = true := decide_eq_true hn
        have HRB := row_bd HCO.out (show 0 < 2 by omega)
        have HLT := Lib.hid (show k < (gr bs 0).length by rw [HRB.1]; exact HKN.out)
        have HDV := Lib.hid (fun (W : World) => show Calls Try.prog 56 #[rV ⟨gi (gr bs 0) k, 1⟩, rV ur] W fun e w' => e = .returned (.tuple #[rV pv, .int .i64 (divC ⟨gi (gr bs 0) k, 1⟩ ur)]) ∧ Below W.heap.size W w' by
          have q := fdiv_any ⟨gi (gr bs 0) k, 1⟩ ur (whole_ok (by have := HRB.2 k HKN.out; omega) (by have := HRB.2 k HKN.out; omega)).wf HUW.out W
          rw [show divR ⟨gi (gr bs 0) k, 1⟩ ur = pv from HPK.out.symm] at q
          exact q)
        have u0 : (k : Int) < ((gr bs 0).length : Int) := by have := HLT.out; omega
        have u1 : (0 : Int) < (bs.length : Int) := by rw [(mk_ok HCO.out).1]; decide
        have c_G := fun j => cell_of_row _ _ j _ _ _ (HGC.out _ hMr.below)
        have z_G := lt_some (HGC.out _ hMr.below)
        clear HOL HPK HRB hn
        go_wp2_with fail
        refine (HRAK.out _ hMr.below).mono ?_
        rintro e w81 ⟨rfl, hb⟩
        have hB81 := hMr.next hb
        clear hb hMr
        go_upto_region 12 with fail
        have hB82 := hB81.new rfl (rB ur)
        clear hB81
        generalize w81.heap.size = gU at *
        generalize w81.alloc _ = w82 at *
        clear f0 f1 f2 c_G z_G p1 HRAK
        refine wp_region_R (Bx w2 [(gU, rB ur)]) 17 (by kernel_rfl) (by rfl) ((hB82.keep (List.Sublist.cons_cons _ (List.nil_sublist _))).drew) (fun wq1 hbq => ?_)
        have hB83 := hB82.next hbq
        clear hB82 hbq
        refine wpAnyE_goR (Bx.grows _ _) (hB83.keep (List.Sublist.cons_cons _ (List.nil_sublist _))) [0, 1, 2, 3, 4, 5, 6, 7, 8, 9, 10, 11, 12, 13] 3 (by kernel_rfl) ?_
        apply Exists.intro
        refine ⟨fun G hG hN => ?_, ?_⟩
        · have c_u := fun (e : GE (Bx w2 [(gU, rB ur)]) G) j => cell_of_row e.w _ j _ _ _ ((GE.h e).get 0 rfl)
          have z_u := fun (e : GE (Bx w2 [(gU, rB ur)]) G) => (GE.h e).lt 0 rfl
          have c_G := fun (e : GE (Bx w2 [(gU, rB ur)]) G) j => cell_of_row e.w _ j _ _ _ (HGC.out e.w (GE.h e).below)
          have z_G := fun (e : GE (Bx w2 [(gU, rB ur)]) G) => lt_some (HGC.out e.w (GE.h e).below)
          have t_r := fun (e : GE (Bx w2 [(gU, rB ur)]) G) => (HVL3.out.next (GE.h e).below).two.r0
          have t_b := fun (e : GE (Bx w2 [(gU, rB ur)]) G) => Nat.lt_of_lt_of_le (HVL3.out.next (GE.h e).below).two.bl (Nat.le_refl _)
          have t_v := fun (e : GE (Bx w2 [(gU, rB ur)]) G) => ((HVL3.out.next (GE.h e).below).r0 k HLT.out).1
          have t_w := fun (e : GE (Bx w2 [(gU, rB ur)]) G) => ((HVL3.out.next (GE.h e).below).r0 k HLT.out).2
          simp only [pickOps, List.getElem?_toArray, List.getElem?_cons_zero, List.getElem?_cons_succ]
          repeat (first | go_big_quiet_step ((first | (go_at_call 57; exact calls_ge (Bx.grows _ _) hG (of_any _ _)) | (go_at_call 56; exact calls_ge (Bx.grows _ _) hG (HDV.out _)))) | quiet_step ((first | (go_at_call 57; exact calls_ge (Bx.grows _ _) hG (of_any _ _)) | (go_at_call 56; exact calls_ge (Bx.grows _ _) hG (HDV.out _)))))
          exact wpQuiet_nil rfl
        refine wpAnyE_all (rs := [14]) (by kernel_rfl) (by simp) (fun wa2 hwa2 hRwa2 i hi => ?_)
        have hB84 := hB83.next hwa2
        clear hB83 hwa2 hRwa2
        obtain rfl := List.mem_singleton.1 hi
        refine wpOp_step rfl (fun Kc hKc => ?_)
        go_simp
        have hB85 := hB84.new (g := wa2.heap.size) rfl (rB ⟨0, 0⟩)
        refine hKc _ _ ⟨(hB85.keep (List.Sublist.cons _ (List.Sublist.cons_cons _ (List.nil_sublist _)))), ?_⟩
        clear hKc Kc hB84
        generalize wa2.heap.size = gP at *
        generalize wa2.alloc _ = wb3 at *
        refine wpAnyE_all (rs := [15]) (by kernel_rfl) (by simp) (fun wa4 hwa4 hRwa4 i hi => ?_)
        have hB86 := hB85.next hwa4
        clear hB85 hwa4 hRwa4
        obtain rfl := List.mem_singleton.1 hi
        refine wpOp_step rfl (fun Kc hKc => ?_)
        have c_p := fun j => cell_of_row _ _ j _ _ _ (hB86.get 0 rfl)
        have z_p := hB86.lt 0 rfl
        have f_p := fun j => frozen_of_row _ _ j _ _ (hB86.get 0 rfl)
        go_simp
        have hB87 := hB86.put 0 rfl (pv)
        refine hKc _ _ ⟨(hB87.keep (List.Sublist.cons _ (List.Sublist.cons_cons _ (List.nil_sublist _)))), ?_⟩
        clear c_p z_p f_p hKc Kc hB86
        generalize (wa4.setCell _ _).setCell _ _ = wb5 at *
        refine wpAnyE_goR (Bx.grows _ _) (hB87.keep (List.Sublist.cons _ (List.Sublist.cons_cons _ (List.nil_sublist _)))) [16] 0 (by kernel_rfl) ?_
        apply Exists.intro
        refine ⟨fun G hG hN => ?_, ?_⟩
        · have c_u := fun (e : GE (Bx w2 [(gU, rB ur)]) G) j => cell_of_row e.w _ j _ _ _ ((GE.h e).get 0 rfl)
          have z_u := fun (e : GE (Bx w2 [(gU, rB ur)]) G) => (GE.h e).lt 0 rfl
          have c_G := fun (e : GE (Bx w2 [(gU, rB ur)]) G) j => cell_of_row e.w _ j _ _ _ (HGC.out e.w (GE.h e).below)
          have z_G := fun (e : GE (Bx w2 [(gU, rB ur)]) G) => lt_some (HGC.out e.w (GE.h e).below)
          have t_r := fun (e : GE (Bx w2 [(gU, rB ur)]) G) => (HVL3.out.next (GE.h e).below).two.r0
          have t_b := fun (e : GE (Bx w2 [(gU, rB ur)]) G) => Nat.lt_of_lt_of_le (HVL3.out.next (GE.h e).below).two.bl (Nat.le_refl _)
          have t_v := fun (e : GE (Bx w2 [(gU, rB ur)]) G) => ((HVL3.out.next (GE.h e).below).r0 k HLT.out).1
          have t_w := fun (e : GE (Bx w2 [(gU, rB ur)]) G) => ((HVL3.out.next (GE.h e).below).r0 k HLT.out).2
          simp only [pickOps, List.getElem?_toArray, List.getElem?_cons_zero, List.getElem?_cons_succ]
          repeat (first | go_big_quiet_step ((first | (go_at_call 57; exact calls_ge (Bx.grows _ _) hG (of_any _ _)) | (go_at_call 56; exact calls_ge (Bx.grows _ _) hG (HDV.out _)))) | quiet_step ((first | (go_at_call 57; exact calls_ge (Bx.grows _ _) hG (of_any _ _)) | (go_at_call 56; exact calls_ge (Bx.grows _ _) hG (HDV.out _)))))
          exact wpQuiet_nil rfl
        refine wpAnyE_done (by kernel_rfl) (fun wd6 hwd6 hRwd6 => ?_) _
        refine NoPanic.normal ?_
        have hB88 := hB87.next hwd6
        clear hB87 hwd6 hRwd6
        have c_p := fun j => cell_of_row _ _ j _ _ _ (hB88.get 0 rfl)
        have z_p := hB88.lt 0 rfl
        have hn := hB88.new rfl (rB pv)
        clear hB88
        go_wp2_with (at_builtin; refine wpList_append_any _ rfl (.tmp 53) (.tmp 55) 27 rfl w2.heap.size 36 iq (.agg #[.int .i64 0, .int .i64 0]) 2 16 Try.underlying27 hiq hq0 hq1 hq2 rfl (by omega) _ pk.length (ratV pk) rfl (hn.row 0 rfl) _ (some ⟨wd6.heap.size, 0, none⟩) 1 1 [.int .i64 pv.n, .int .i64 pv.d] rfl (reads_two (hn.get 0 rfl)) (one_two _ _) (by rw [HTL.out]; exact HKM.out.1) (by rw [HTL.out]; exact HKM.out.2) hn.below.size ?_; intro v2 wq hown hgr hat; have hg := hn.grow 0 rfl hgr hown hat; clear hown hgr hat)
        refine ⟨⟨k + 1, HME.out.1, by go_num, ?_⟩, by simpa [intOf] using HME.out.2⟩
        rw [HTKK.out]
        have hz := hg.drop.drop.drop
        have e2 : qR v2 (pk ++ [pv]) = ⟨v2, 36, 2, pk.length + 1, ratV pk ++ [.int .i64 pv.n, .int .i64 pv.d]⟩ := by simp only [qR, ratV_append, List.length_append, List.length_singleton]
        rw [e2]; exact hz
      · have p1 : decide (0 < el.n) = false := decide_eq_false (by omega)
        have HRB := row_bd HCO.out (show 1 < 2 by omega)
        have HLT := Lib.hid (show k < (gr bs 1).length by rw [HRB.1]; exact HKN.out)
        have HDV := Lib.hid (fun (W : World) => show Calls Try.prog 56 #[rV ⟨gi (gr bs 1) k, 1⟩, rV ur] W fun e w' => e = .returned (.tuple #[rV pv, .int .i64 (divC ⟨gi (gr bs 1) k, 1⟩ ur)]) ∧ Below W.heap.size W w' by
          have q := fdiv_any ⟨gi (gr bs 1) k, 1⟩ ur (whole_ok (by have := HRB.2 k HKN.out; omega) (by have := HRB.2 k HKN.out; omega)).wf HUW.out W
          rw [show divR ⟨gi (gr bs 1) k, 1⟩ ur = pv from HPK.out.symm] at q
          exact q)
        have u0 : (k : Int) < ((gr bs 1).length : Int) := by have := HLT.out; omega
        have u1 : (1 : Int) < (bs.length : Int) := by rw [(mk_ok HCO.out).1]; decide
        have c_G := fun j => cell_of_row _ _ j _ _ _ (HGC.out _ hMr.below)
        have z_G := lt_some (HGC.out _ hMr.below)
        clear HOL HPK HRB hn
        go_wp2_with fail
        refine (HRAK.out _ hMr.below).mono ?_
        rintro e w81 ⟨rfl, hb⟩
        have hB81 := hMr.next hb
        clear hb hMr
        go_upto_region 12 with fail
        have hB82 := hB81.new rfl (rB ur)
        clear hB81
        generalize w81.heap.size = gU at *
        generalize w81.alloc _ = w82 at *
        clear f0 f1 f2 c_G z_G p1 HRAK
        refine wp_region_R (Bx w2 [(gU, rB ur)]) 17 (by kernel_rfl) (by rfl) ((hB82.keep (List.Sublist.cons_cons _ (List.nil_sublist _))).drew) (fun wq7 hbq => ?_)
        have hB83 := hB82.next hbq
        clear hB82 hbq
        refine wpAnyE_goR (Bx.grows _ _) (hB83.keep (List.Sublist.cons_cons _ (List.nil_sublist _))) [0, 1, 2, 3, 4, 5, 6, 7, 8, 9, 10, 11, 12, 13] 3 (by kernel_rfl) ?_
        apply Exists.intro
        refine ⟨fun G hG hN => ?_, ?_⟩
        · have c_u := fun (e : GE (Bx w2 [(gU, rB ur)]) G) j => cell_of_row e.w _ j _ _ _ ((GE.h e).get 0 rfl)
          have z_u := fun (e : GE (Bx w2 [(gU, rB ur)]) G) => (GE.h e).lt 0 rfl
          have c_G := fun (e : GE (Bx w2 [(gU, rB ur)]) G) j => cell_of_row e.w _ j _ _ _ (HGC.out e.w (GE.h e).below)
          have z_G := fun (e : GE (Bx w2 [(gU, rB ur)]) G) => lt_some (HGC.out e.w (GE.h e).below)
          have t_r := fun (e : GE (Bx w2 [(gU, rB ur)]) G) => (HVL3.out.next (GE.h e).below).two.r1
          have t_b := fun (e : GE (Bx w2 [(gU, rB ur)]) G) => Nat.lt_of_lt_of_le (HVL3.out.next (GE.h e).below).two.bl (Nat.le_refl _)
          have t_v := fun (e : GE (Bx w2 [(gU, rB ur)]) G) => ((HVL3.out.next (GE.h e).below).r1 k HLT.out).1
          have t_w := fun (e : GE (Bx w2 [(gU, rB ur)]) G) => ((HVL3.out.next (GE.h e).below).r1 k HLT.out).2
          simp only [pickOps, List.getElem?_toArray, List.getElem?_cons_zero, List.getElem?_cons_succ]
          repeat (first | go_big_quiet_step ((first | (go_at_call 57; exact calls_ge (Bx.grows _ _) hG (of_any _ _)) | (go_at_call 56; exact calls_ge (Bx.grows _ _) hG (HDV.out _)))) | quiet_step ((first | (go_at_call 57; exact calls_ge (Bx.grows _ _) hG (of_any _ _)) | (go_at_call 56; exact calls_ge (Bx.grows _ _) hG (HDV.out _)))))
          exact wpQuiet_nil rfl
        refine wpAnyE_all (rs := [14]) (by kernel_rfl) (by simp) (fun wa8 hwa8 hRwa8 i hi => ?_)
        have hB84 := hB83.next hwa8
        clear hB83 hwa8 hRwa8
        obtain rfl := List.mem_singleton.1 hi
        refine wpOp_step rfl (fun Kc hKc => ?_)
        go_simp
        have hB85 := hB84.new (g := wa8.heap.size) rfl (rB ⟨0, 0⟩)
        refine hKc _ _ ⟨(hB85.keep (List.Sublist.cons _ (List.Sublist.cons_cons _ (List.nil_sublist _)))), ?_⟩
        clear hKc Kc hB84
        generalize wa8.heap.size = gP at *
        generalize wa8.alloc _ = wb9 at *
        refine wpAnyE_all (rs := [15]) (by kernel_rfl) (by simp) (fun wa10 hwa10 hRwa10 i hi => ?_)
        have hB86 := hB85.next hwa10
        clear hB85 hwa10 hRwa10
        obtain rfl := List.mem_singleton.1 hi
        refine wpOp_step rfl (fun Kc hKc => ?_)
        have c_p := fun j => cell_of_row _ _ j _ _ _ (hB86.get 0 rfl)
        have z_p := hB86.lt 0 rfl
        have f_p := fun j => frozen_of_row _ _ j _ _ (hB86.get 0 rfl)
        go_simp
        have hB87 := hB86.put 0 rfl (pv)
        refine hKc _ _ ⟨(hB87.keep (List.Sublist.cons _ (List.Sublist.cons_cons _ (List.nil_sublist _)))), ?_⟩
        clear c_p z_p f_p hKc Kc hB86
        generalize (wa10.setCell _ _).setCell _ _ = wb11 at *
        refine wpAnyE_goR (Bx.grows _ _) (hB87.keep (List.Sublist.cons _ (List.Sublist.cons_cons _ (List.nil_sublist _)))) [16] 0 (by kernel_rfl) ?_
        apply Exists.intro
        refine ⟨fun G hG hN => ?_, ?_⟩
        · have c_u := fun (e : GE (Bx w2 [(gU, rB ur)]) G) j => cell_of_row e.w _ j _ _ _ ((GE.h e).get 0 rfl)
          have z_u := fun (e : GE (Bx w2 [(gU, rB ur)]) G) => (GE.h e).lt 0 rfl
          have c_G := fun (e : GE (Bx w2 [(gU, rB ur)]) G) j => cell_of_row e.w _ j _ _ _ (HGC.out e.w (GE.h e).below)
          have z_G := fun (e : GE (Bx w2 [(gU, rB ur)]) G) => lt_some (HGC.out e.w (GE.h e).below)
          have t_r := fun (e : GE (Bx w2 [(gU, rB ur)]) G) => (HVL3.out.next (GE.h e).below).two.r1
          have t_b := fun (e : GE (Bx w2 [(gU, rB ur)]) G) => Nat.lt_of_lt_of_le (HVL3.out.next (GE.h e).below).two.bl (Nat.le_refl _)
          have t_v := fun (e : GE (Bx w2 [(gU, rB ur)]) G) => ((HVL3.out.next (GE.h e).below).r1 k HLT.out).1
          have t_w := fun (e : GE (Bx w2 [(gU, rB ur)]) G) => ((HVL3.out.next (GE.h e).below).r1 k HLT.out).2
          simp only [pickOps, List.getElem?_toArray, List.getElem?_cons_zero, List.getElem?_cons_succ]
          repeat (first | go_big_quiet_step ((first | (go_at_call 57; exact calls_ge (Bx.grows _ _) hG (of_any _ _)) | (go_at_call 56; exact calls_ge (Bx.grows _ _) hG (HDV.out _)))) | quiet_step ((first | (go_at_call 57; exact calls_ge (Bx.grows _ _) hG (of_any _ _)) | (go_at_call 56; exact calls_ge (Bx.grows _ _) hG (HDV.out _)))))
          exact wpQuiet_nil rfl
        refine wpAnyE_done (by kernel_rfl) (fun wd12 hwd12 hRwd12 => ?_) _
        refine NoPanic.normal ?_
        have hB88 := hB87.next hwd12
        clear hB87 hwd12 hRwd12
        have c_p := fun j => cell_of_row _ _ j _ _ _ (hB88.get 0 rfl)
        have z_p := hB88.lt 0 rfl
        have hn := hB88.new rfl (rB pv)
        clear hB88
        go_wp2_with (at_builtin; refine wpList_append_any _ rfl (.tmp 53) (.tmp 55) 27 rfl w2.heap.size 36 iq (.agg #[.int .i64 0, .int .i64 0]) 2 16 Try.underlying27 hiq hq0 hq1 hq2 rfl (by omega) _ pk.length (ratV pk) rfl (hn.row 0 rfl) _ (some ⟨wd12.heap.size, 0, none⟩) 1 1 [.int .i64 pv.n, .int .i64 pv.d] rfl (reads_two (hn.get 0 rfl)) (one_two _ _) (by rw [HTL.out]; exact HKM.out.1) (by rw [HTL.out]; exact HKM.out.2) hn.below.size ?_; intro v2 wq hown hgr hat; have hg := hn.grow 0 rfl hgr hown hat; clear hown hgr hat)
        refine ⟨⟨k + 1, HME.out.1, by go_num, ?_⟩, by simpa [intOf] using HME.out.2⟩
        rw [HTKK.out]
        have hz := hg.drop.drop.drop
        have e2 : qR v2 (pk ++ [pv]) = ⟨v2, 36, 2, pk.length + 1, ratV pk ++ [.int .i64 pv.n, .int .i64 pv.d]⟩ := by simp only [qR, ratV_append, List.length_append, List.length_singleton]
        rw [e2]; exact hz

set_option maxRecDepth 100000 in
set_option maxHeartbeats 16000000 in
theorem fwhy_any (bs : List (List Int)) (A : Option Addr) (c : Nat) (i : Int) (w : World) (h : GIn w.heap.size w A c bs) :
    Calls Try.prog 27 #[gV A c bs, .int .i64 i] w fun e w' => e = .returned (.tuple #[.int .i64 (whyA bs i), rV (whyR bs i), .int .i64 (whyC bs i)]) ∧ Below w.heap.size w w' := by
  have hB0 : Bx w [(w.heap.size + 1, rB ⟨0, 0⟩), (w.heap.size, gB A c bs)] ((w.alloc (gB A c bs)).alloc (rB ⟨0, 0⟩)) := ((Bx.start w).new rfl _).new (by simp) _
  have HC := Lib.hid (fun (W : World) (hW : Below w.heap.size w W) => fmcheck_any bs A c W (h.next hW))
  have HG := Lib.hid h
  clear h
  go_enter Try.func27, Try.ntmps27
  try dsimp only [List.append]
  go_upto_region 1 with fail
  generalize hw0 : (w.alloc (gB A c bs)).alloc (rB ⟨0, 0⟩) = w0 at *
  clear hw0
  generalize w.heap.size + 1 = gO at *
  have c_G := fun j => cell_of_row _ _ j _ _ _ (hB0.get 1 rfl)
  have z_G := hB0.lt 1 rfl
  by_cases hc : mkCode bs = 0
  rotate_left
  · have q : (mkCode bs != 0) = true := bneT hc
    have HR0 := why_code (bs := bs) (g := i) hc
    obtain ⟨code, hco⟩ : ∃ x, x = mkCode bs := ⟨_, rfl⟩
    rw [← hco] at HC q HR0
    have HR := Lib.hid HR0
    have HNZ := Lib.hid (show code ≠ 0 by rw [hco]; exact hc)
    clear hc hco HR0
    go_wp2_with fail
    refine (HC.out _ hB0.below).mono ?_
    rintro e w1 ⟨rfl, hb⟩
    have hB1 := hB0.next hb
    clear c_G z_G hb hB0
    have c_G := fun j => cell_of_row _ _ j _ _ _ (hB1.get 1 rfl)
    have z_G := hB1.lt 1 rfl
    go_wp2_with fail
    refine (HC.out _ hB1.below).mono ?_
    rintro e w2 ⟨rfl, hb⟩
    have hB2 := hB1.next hb
    clear c_G z_G hb hB1
    have c_o := fun j => cell_of_row _ _ j _ _ _ (hB2.get 0 rfl)
    have z_o := hB2.lt 0 rfl
    have f_o := fun j => frozen_of_row _ _ j _ _ (hB2.get 0 rfl)
    have HZ := Lib.hid (why_no (bs := bs) (g := i) (by rw [HR.out]; exact HNZ.out))
    have HE := Lib.hid (hB2.put 0 rfl ⟨0, 0⟩).below
    clear hB2
    go_wp2_with fail
    refine bodyPost_ret (v := .tuple #[.int .i64 0, rV ⟨0, 0⟩, .int .i64 (code)]) (by simp [results, Try.results27, go_sem, c_o, f_o, z_o]) rfl ⟨by rw [HZ.out.1, HZ.out.2, HR.out], HE.out⟩
  have q : (mkCode bs != 0) = false := bneF hc
  have HCO := Lib.hid hc
  obtain ⟨ad, R0, c0, R1, c1, xa, ya, rfl, hvl⟩ := HG.out.vals hc
  have HVL := Lib.hid hvl
  have H2 := Lib.hid (mk_ok hc).1
  have q20 : (0 : Int) < (bs.length : Int) := by have := H2.out; omega
  rw [hc] at HC q
  clear hc hvl
  go_wp2_with fail
  refine (HC.out _ hB0.below).mono ?_
  rintro e w1 ⟨rfl, hb⟩
  have hB1 := hB0.next hb
  clear c_G z_G hb hB0
  clear HC q
  by_cases hi : i < 0 ∨ ((gr bs 0).length : Int) ≤ i
  · have c_G := fun j => cell_of_row _ _ j _ _ _ (hB1.get 1 rfl)
    have z_G := hB1.lt 1 rfl
    have t0 := (HVL.out.next hB1.below).two.r0
    have HR := Lib.hid (why_arg HCO.out hi)
    have HNZ := Lib.hid (show (2 : Int) ≠ 0 by decide)
    rcases hi with hi | hi
    · have q1 : decide (i < 0) = true := decide_eq_true hi
      clear hi
      have c_o := fun j => cell_of_row _ _ j _ _ _ (hB1.get 0 rfl)
      have z_o := hB1.lt 0 rfl
      have f_o := fun j => frozen_of_row _ _ j _ _ (hB1.get 0 rfl)
      have HZ := Lib.hid (why_no (bs := bs) (g := i) (by rw [HR.out]; exact HNZ.out))
      have HE := Lib.hid (hB1.put 0 rfl ⟨0, 0⟩).below
      clear hB1
      go_wp2_with fail
      refine bodyPost_ret (v := .tuple #[.int .i64 0, rV ⟨0, 0⟩, .int .i64 (2)]) (by simp [results, Try.results27, go_sem, c_o, f_o, z_o]) rfl ⟨by rw [HZ.out.1, HZ.out.2, HR.out], HE.out⟩
    · have q1 : decide (i < 0) = false := decide_eq_false (by omega)
      have q2 : decide (((gr bs 0).length : Int) ≤ i) = true := decide_eq_true hi
      clear hi
      have c_o := fun j => cell_of_row _ _ j _ _ _ (hB1.get 0 rfl)
      have z_o := hB1.lt 0 rfl
      have f_o := fun j => frozen_of_row _ _ j _ _ (hB1.get 0 rfl)
      have HZ := Lib.hid (why_no (bs := bs) (g := i) (by rw [HR.out]; exact HNZ.out))
      have HE := Lib.hid (hB1.put 0 rfl ⟨0, 0⟩).below
      clear hB1
      go_wp2_with fail
      refine bodyPost_ret (v := .tuple #[.int .i64 0, rV ⟨0, 0⟩, .int .i64 (2)]) (by simp [results, Try.results27, go_sem, c_o, f_o, z_o]) rfl ⟨by rw [HZ.out.1, HZ.out.2, HR.out], HE.out⟩
  obtain ⟨k, rfl⟩ : ∃ k : Nat, i = k := ⟨i.toNat, by omega⟩
  have hk : k < (gr bs 0).length := by omega
  have HK := Lib.hid hk
  have q1 : decide ((k : Int) < 0) = false := decide_eq_false (by omega)
  have q2 : decide (((gr bs 0).length : Int) ≤ (k : Int)) = false := decide_eq_false (by omega)
  have q3 : decide ((gr bs 0).length ≤ k) = false := decide_eq_false (by omega)
  have z1 : (k : Int) < ((gr bs 0).length : Int) := by omega
  have z3 : (0 : Int) ≤ (k : Int) := by omega
  clear hi hk
  have HSQ := Lib.hid (fun (W : World) (hW : Below w.heap.size w W) => fshares_q bs (some ad) c W (HG.out.next hW) HCO.out)
  have c_G := fun j => cell_of_row _ _ j _ _ _ (hB1.get 1 rfl)
  have z_G := hB1.lt 1 rfl
  have t0 := (HVL.out.next hB1.below).two.r0
  go_wp2_with fail
  refine (HSQ.out _ hB1.below).mono ?_
  rintro e3 w2 ⟨bd, rfl, hq, hb⟩
  have hB2 := hB1.next hb
  clear c_G z_G t0 hb hB1 HSQ q1 q2 q3
  have HQ := Lib.hid hq
  obtain ⟨bd', ebd, bb, bc⟩ := hq.at_ (k := k) (by rw [sh_len]; exact HK.out)
  obtain rfl : bd = bd' := by simpa using ebd
  obtain ⟨f0, f1, f2⟩ := cell2 bc (show k < (mSh (gr bs 0) (gr bs 1) (gr bs 0).length).length by rw [sh_len]; exact HK.out)
  have how := clears_own' (bs := bs) k
  have HOL := Lib.hid (mOwn_lt (gr bs 0) (gr bs 1) (gr bs 0).length k)
  have HWO := Lib.hid (why_ok HCO.out HK.out)
  have HRA := Lib.hid (fun (V : World) (hB : Below w.heap.size w V) (hV : Below w2.heap.size w2 V) => frate_any bs (some ad) c bd (mOwn (gr bs 0) (gr bs 1) (gr bs 0).length k) HOL.out V (HG.out.next hB) HCO.out (HQ.out.next hV))
  clear hq ebd bb bc
  generalize gR (mSh (gr bs 0) (gr bs 1) (gr bs 0).length) k = el at *
  generalize mkR (mU (gr bs 0) (gr bs 1) (gr bs 0).length (mOwn (gr bs 0) (gr bs 1) (gr bs 0).length k)) = v at *
  generalize (mOwn (gr bs 0) (gr bs 1) (gr bs 0).length k) = ow at *
  rcases how with ⟨rfl, hn⟩ | ⟨rfl, hn⟩
  · have p1 : decide (0 < el.n) = true := decide_eq_true hn
    clear hn HOL
    have c_G := fun j => cell_of_row _ _ j _ _ _ (hB2.get 1 rfl)
    have z_G := hB2.lt 1 rfl
    go_wp2_with fail
    refine (HRA.out _ hB2.below (Below.refl _ _)).mono ?_
    rintro e w3 ⟨rfl, hb⟩
    have hB3 := hB2.next hb
    clear c_G z_G hb hB2
    go_upto_region 10 with fail
    have hB4 := hB3.new rfl (rB v)
    clear hB3
    generalize w3.heap.size = gU at *
    generalize w3.alloc _ = w4 at *
    clear p1 f0 f1 f2 HRA
    have hMb := Mx.of_bx hB4
    clear hB4
    refine wp_region_R (Bx w [(gU, rB v)]) 5 (by kernel_rfl) (by rfl) ((hMb.keep (List.Sublist.cons_cons _ (List.nil_sublist _))).drew) (fun wq13 hbq => ?_)
    have hB91 := hMb.next hbq
    clear hMb hbq
    refine wpAnyE_goR (Bx.grows _ _) (hB91.keep (List.Sublist.cons_cons _ (List.nil_sublist _))) [0, 1, 2] 2 (by kernel_rfl) ?_
    apply Exists.intro
    refine ⟨fun G hG hN => ?_, ?_⟩
    · have c_u := fun (e : GE (Bx w [(gU, rB v)]) G) j => cell_of_row e.w _ j _ _ _ ((GE.h e).get 0 rfl)
      have z_u := fun (e : GE (Bx w [(gU, rB v)]) G) => (GE.h e).lt 0 rfl
      simp only [pickOps, List.getElem?_toArray, List.getElem?_cons_zero, List.getElem?_cons_succ]
      repeat (first | go_big_quiet_step (fail) | quiet_step (fail))
      exact wpQuiet_nil rfl
    refine wpAnyE_all (rs := [3]) (by kernel_rfl) (by simp) (fun wa14 hwa14 hRwa14 i hi => ?_)
    have hB92 := hB91.next hwa14
    clear hB91 hwa14 hRwa14
    obtain rfl := List.mem_singleton.1 hi
    refine wpOp_step rfl (fun Kc hKc => ?_)
    have c_o := fun j => cell_of_row _ _ j _ _ _ (hB92.get 1 rfl)
    have z_o := hB92.lt 1 rfl
    have f_o := fun j => frozen_of_row _ _ j _ _ (hB92.get 1 rfl)
    go_simp
    have hB93 := hB92.put 1 rfl (v)
    refine hKc _ _ ⟨(hB93.keep (List.Sublist.cons_cons _ (List.nil_sublist _))), ?_⟩
    clear c_o z_o f_o hKc Kc hB92
    generalize (wa14.setCell _ _).setCell _ _ = wb15 at *
    refine wpAnyE_goR (Bx.grows _ _) (hB93.keep (List.Sublist.cons_cons _ (List.nil_sublist _))) [4] 0 (by kernel_rfl) ?_
    apply Exists.intro
    refine ⟨fun G hG hN => ?_, ?_⟩
    · have c_u := fun (e : GE (Bx w [(gU, rB v)]) G) j => cell_of_row e.w _ j _ _ _ ((GE.h e).get 0 rfl)
      have z_u := fun (e : GE (Bx w [(gU, rB v)]) G) => (GE.h e).lt 0 rfl
      simp only [pickOps, List.getElem?_toArray, List.getElem?_cons_zero, List.getElem?_cons_succ]
      repeat (first | go_big_quiet_step (fail) | quiet_step (fail))
      exact wpQuiet_nil rfl
    refine wpAnyE_done (by kernel_rfl) (fun wd16 hwd16 hRwd16 => ?_) _
    refine NoPanic.normal ?_
    have hB94 := hB93.next hwd16
    clear hB93 hwd16 hRwd16
    have c_o := fun j => cell_of_row _ _ j _ _ _ (hB94.get 1 rfl)
    have z_o := hB94.lt 1 rfl
    have f_o := fun j => frozen_of_row _ _ j _ _ (hB94.get 1 rfl)
    have HE := Lib.hid hB94.below
    clear hB94
    go_wp2_with fail
    refine bodyPost_ret (v := .tuple #[.int .i64 0, rV v, .int .i64 0]) (by simp [results, Try.results27, go_sem, c_o, f_o, z_o]) rfl ⟨by rw [HWO.out.1, HWO.out.2.1, HWO.out.2.2]; rfl, HE.out⟩
  · have p1 : decide (0 < el.n) = false := decide_eq_false (by omega)
    clear hn HOL
    have c_G := fun j => cell_of_row _ _ j _ _ _ (hB2.get 1 rfl)
    have z_G := hB2.lt 1 rfl
    go_wp2_with fail
    refine (HRA.out _ hB2.below (Below.refl _ _)).mono ?_
    rintro e w3 ⟨rfl, hb⟩
    have hB3 := hB2.next hb
    clear c_G z_G hb hB2
    go_upto_region 10 with fail
    have hB4 := hB3.new rfl (rB v)
    clear hB3
    generalize w3.heap.size = gU at *
    generalize w3.alloc _ = w4 at *
    clear p1 f0 f1 f2 HRA
    have hMb := Mx.of_bx hB4
    clear hB4
    refine wp_region_R (Bx w [(gU, rB v)]) 5 (by kernel_rfl) (by rfl) ((hMb.keep (List.Sublist.cons_cons _ (List.nil_sublist _))).drew) (fun wq17 hbq => ?_)
    have hB111 := hMb.next hbq
    clear hMb hbq
    refine wpAnyE_goR (Bx.grows _ _) (hB111.keep (List.Sublist.cons_cons _ (List.nil_sublist _))) [0, 1, 2] 2 (by kernel_rfl) ?_
    apply Exists.intro
    refine ⟨fun G hG hN => ?_, ?_⟩
    · have c_u := fun (e : GE (Bx w [(gU, rB v)]) G) j => cell_of_row e.w _ j _ _ _ ((GE.h e).get 0 rfl)
      have z_u := fun (e : GE (Bx w [(gU, rB v)]) G) => (GE.h e).lt 0 rfl
      simp only [pickOps, List.getElem?_toArray, List.getElem?_cons_zero, List.getElem?_cons_succ]
      repeat (first | go_big_quiet_step (fail) | quiet_step (fail))
      exact wpQuiet_nil rfl
    refine wpAnyE_all (rs := [3]) (by kernel_rfl) (by simp) (fun wa18 hwa18 hRwa18 i hi => ?_)
    have hB112 := hB111.next hwa18
    clear hB111 hwa18 hRwa18
    obtain rfl := List.mem_singleton.1 hi
    refine wpOp_step rfl (fun Kc hKc => ?_)
    have c_o := fun j => cell_of_row _ _ j _ _ _ (hB112.get 1 rfl)
    have z_o := hB112.lt 1 rfl
    have f_o := fun j => frozen_of_row _ _ j _ _ (hB112.get 1 rfl)
    go_simp
    have hB113 := hB112.put 1 rfl (v)
    refine hKc _ _ ⟨(hB113.keep (List.Sublist.cons_cons _ (List.nil_sublist _))), ?_⟩
    clear c_o z_o f_o hKc Kc hB112
    generalize (wa18.setCell _ _).setCell _ _ = wb19 at *
    refine wpAnyE_goR (Bx.grows _ _) (hB113.keep (List.Sublist.cons_cons _ (List.nil_sublist _))) [4] 0 (by kernel_rfl) ?_
    apply Exists.intro
    refine ⟨fun G hG hN => ?_, ?_⟩
    · have c_u := fun (e : GE (Bx w [(gU, rB v)]) G) j => cell_of_row e.w _ j _ _ _ ((GE.h e).get 0 rfl)
      have z_u := fun (e : GE (Bx w [(gU, rB v)]) G) => (GE.h e).lt 0 rfl
      simp only [pickOps, List.getElem?_toArray, List.getElem?_cons_zero, List.getElem?_cons_succ]
      repeat (first | go_big_quiet_step (fail) | quiet_step (fail))
      exact wpQuiet_nil rfl
    refine wpAnyE_done (by kernel_rfl) (fun wd20 hwd20 hRwd20 => ?_) _
    refine NoPanic.normal ?_
    have hB114 := hB113.next hwd20
    clear hB113 hwd20 hRwd20
    have c_o := fun j => cell_of_row _ _ j _ _ _ (hB114.get 1 rfl)
    have z_o := hB114.lt 1 rfl
    have f_o := fun j => frozen_of_row _ _ j _ _ (hB114.get 1 rfl)
    have HE := Lib.hid hB114.below
    clear hB114
    go_wp2_with fail
    refine bodyPost_ret (v := .tuple #[.int .i64 1, rV v, .int .i64 0]) (by simp [results, Try.results27, go_sem, c_o, f_o, z_o]) rfl ⟨by rw [HWO.out.1, HWO.out.2.1, HWO.out.2.2]; rfl, HE.out⟩
end Go.Proofs.Ytpijllobpohpgaa
