/- A meeting is asked. -/
import Derived.Test.YtgcbmnohhbcfiaaAgT
import Derived.Test.YtgcbmnohhbcfiaaCkX
import Derived.Test.YtgcbmnohhbcfiaaCm12
namespace Go.Proofs.Ytgcbmnohhbcfiaa
open Go.RowKit Go.Deep
set_option linter.unusedVariables false
set_option linter.unusedSimpArgs false

/-- The cells of an actor of a row. -/
def AcXs (xs : List Value) (i : Nat) (a : Ac) (A : Option Addr) (c : Nat) (R : Option Addr) (d : Nat) (A' : Option Addr) (c' : Nat) (R' : Option Addr) (d' : Nat) : Prop := ∀ j u, (acL a A c R d A' c' R' d')[j]? = some u → xs[i * 8 + j]? = some u
theorem AcXs.inj {xs : List Value} {i : Nat} {a : Ac} {A R A' R' S T S' T' : Option Addr} {c d c' d' s t s' t' : Nat} (h : AcXs xs i a A c R d A' c' R' d') (k : AcXs xs i a S s T t S' s' T' t') : A = S ∧ c = s ∧ R = T ∧ d = t ∧ A' = S' ∧ c' = s' ∧ R' = T' ∧ d' = t' := by
  have e1 := (h 1 _ rfl).symm.trans (k 1 _ rfl)
  have e2 := (h 2 _ rfl).symm.trans (k 2 _ rfl)
  have e4 := (h 4 _ rfl).symm.trans (k 4 _ rfl)
  have e5 := (h 5 _ rfl).symm.trans (k 5 _ rfl)
  obtain ⟨a1, _, a2⟩ := Value.slice.inj (Option.some.inj e1)
  obtain ⟨b1, _, b2⟩ := Value.slice.inj (Option.some.inj e2)
  obtain ⟨c1, _, c2⟩ := Value.slice.inj (Option.some.inj e4)
  obtain ⟨d1, _, d2⟩ := Value.slice.inj (Option.some.inj e5)
  exact ⟨a1, a2, b1, b2, c1, c2, d1, d2⟩
/-- The two cakes of an actor of a row. -/
def AcCk (a : Ac) (A : Option Addr) (c : Nat) (R : Option Addr) (d : Nat) (A' : Option Addr) (c' : Nat) (R' : Option Addr) (d' : Nat) (V : World) : Prop := CIn V.heap.size V A c R d a.own ∧ CIn V.heap.size V A' c' R' d' a.told
theorem Lay.actor {V : World} {acs : List Ac} {xs : List Value} {i : Nat} {a : Ac} (h : Lay kAc V acs xs) (hi : acs[i]? = some a) : a.wf ∧ ∃ A c R d A' c' R' d', AcXs xs i a A c R d A' c' R' d' ∧ AcCk a A c R d A' c' R' d' V := by
  obtain ⟨vs, ⟨A, c, R, d, A', c', R', d', rfl, hC, hC', hw⟩, hv⟩ := h i a hi
  exact ⟨hw, A, c, R, d, A', c', R', d', hv, hC, hC'⟩
theorem Lay.cakes {V : World} {acs : List Ac} {xs : List Value} {i : Nat} {a : Ac} {A R A' R' : Option Addr} {c d c' d' : Nat} (h : Lay kAc V acs xs) (hi : acs[i]? = some a) (hx : AcXs xs i a A c R d A' c' R' d') : AcCk a A c R d A' c' R' d' V := by
  obtain ⟨_, S, s, T, t, S', s', T', t', k1, k2⟩ := h.actor hi
  obtain ⟨rfl, rfl, rfl, rfl, rfl, rfl, rfl, rfl⟩ := hx.inj k1
  exact k2
theorem addr_row {g i j : Nat} (hj : 0 < j) : (⟨((⟨g, 0, none⟩ : Addr).add (i * 8)).block, ((⟨g, 0, none⟩ : Addr).add (i * 8)).off + j, none⟩ : Addr) = ⟨g, i * 8 + j, none⟩ := by rw [add_mk, Nat.zero_add]
theorem Ms.acAt {F : World → Prop} {w W : World} {L : List (Nat × Obj)} {R0 : List Rw} {g n cap : Nat} {xs : List Value} (h : Ms F w L R0 W) (k : Nat) (hk : R0[k]? = some ⟨.slice (some ⟨g, 0, none⟩) n cap, 116, 8, n, xs⟩) {i : Nat} (hi : i < n) {a : Ac} {A R A' R' : Option Addr} {c d c' d' : Nat} (hx : AcXs xs i a A c R d A' c' R' d') :
    AcAt W ⟨g, 0, none⟩ i a A c R d A' c' R' d' ∧ g < W.heap.size := by
  obtain ⟨r1, r2, r3⟩ := h.rowAt k hk
  have hb : (i + 1) * 8 ≤ n * 8 := Nat.mul_le_mul_right _ hi
  have q := fun (j : Nat) (hj : j < 8) (u : Value) (hu : (acL a A c R d A' c' R' d')[j]? = some u) => r1 (i * 8 + j) u (by omega) (hx j u hu)
  have e0 : (⟨g, 0, none⟩ : Addr).add (i * 8) = ⟨g, i * 8, none⟩ := by rw [add_mk, Nat.zero_add]
  refine ⟨⟨?_, ?_, ?_, ?_, ?_, ?_, ?_, ?_⟩, r3⟩
  · rw [e0]; exact q 0 (by decide) _ rfl
  · rw [e0]; exact q 1 (by decide) _ rfl
  · rw [e0]; exact q 2 (by decide) _ rfl
  · rw [e0]; exact q 3 (by decide) _ rfl
  · rw [e0]; exact q 4 (by decide) _ rfl
  · rw [e0]; exact q 5 (by decide) _ rfl
  · rw [e0]; exact q 6 (by decide) _ rfl
  · rw [e0]; exact q 7 (by decide) _ rfl
/-- What asking leaves. -/
def MaskRes (m : Mt) (q : Qy) (w : World) (g : Nat) (e : Ending) (W' : World) : Prop := ∃ va vl, e = .returned (.tuple #[rV (m.res q), .int .i64 (m.err q)]) ∧ MtOwn w va vl (m.next q) [(g, .cells #[va, vl] 147)] W'
theorem MaskRes.no {m : Mt} {q : Qy} {w W' : World} {g : Nat} {va vl : Value} {x : Int} (h : m.err q = x) (hx : x ≠ 0) (k : MtOwn w va vl m [(g, .cells #[va, vl] 147)] W') : MaskRes m q w g (.returned (.tuple #[rV ⟨0, 0⟩, .int .i64 x])) W' := by
  have e : m.err q ≠ 0 := by rw [h]; exact hx
  refine ⟨va, vl, ?_, ?_⟩
  · rw [show m.res q = ⟨0, 0⟩ from if_neg e, h]
  · rw [show m.next q = m from if_neg e]; exact k
theorem MaskRes.yes {m : Mt} {q : Qy} {w W' : World} {g : Nat} {va vl : Value} {r : Rt} (h : m.err q = 0) (hr : m.ans q = r) (k : MtOwn w va vl (m.step q) [(g, .cells #[va, vl] 147)] W') : MaskRes m q w g (.returned (.tuple #[rV r, .int .i64 0])) W' := by
  refine ⟨va, vl, ?_, ?_⟩
  · rw [show m.res q = m.ans q from if_pos h, h, hr]
  · rw [show m.next q = m.step q from if_pos h]; exact k
theorem Ac.now_told {a : Ac} (h1 : (a.after != -1) = true) (h2 : decide (a.after ≤ a.asked) = true) : a.now = a.told := if_pos ⟨by simpa using h1, by simpa using h2⟩
theorem Ac.now_own1 {a : Ac} (h1 : (a.after != -1) = false) : a.now = a.own := if_neg (fun h => by simp at h1; exact h.1 h1)
theorem Ac.now_own2 {a : Ac} (h2 : decide (a.after ≤ a.asked) = false) : a.now = a.own := if_neg (fun h => by simp at h2; omega)
theorem qy_wf {q : Qy} {r : Rt} (h : q.wf) (hr : r.wf) : ({ q with ans := r } : Qy).wf := ⟨h.g0, h.g1, h.k0, h.k1, h.a, h.b, hr⟩
set_option maxRecDepth 100000 in
set_option maxHeartbeats 64000000 in
theorem mask_any (m : Mt) (q : Qy) (hq : q.wf) (hok : MtOk m) (w : World) (g : Nat) (va vl : Value) (W : World) (h : MtOwn w va vl m [(g, .cells #[va, vl] 147)] W) :
    Calls Try.prog 108 #[.pointer (some ⟨g, 0, none⟩), qV q] W (MaskRes m q w g) := by
  obtain ⟨j0, hj0, hy0, hy1, hy2⟩ := info_parts infoQy
  have HQ := Lib.hid hq
  have HOK := Lib.hid hok
  have HWF := Lib.hid h.wf
  obtain ⟨⟨xs, hms⟩, _⟩ := h
  have hM0 : Ms (fun V => Lay kAcU V m.acs xs) w [(W.heap.size + 1, rB ⟨0, 0⟩), (W.heap.size, qB q), (g, .cells #[va, vl] 147)] [⟨va, 116, 8, m.acs.length, xs⟩, ⟨vl, 84, 8, m.log.length, lgV m.log⟩] ((W.alloc (qB q)).alloc (rB ⟨0, 0⟩)) := (hms.new rfl _).new (by simp) _
  have ho := hms.row 0 rfl
  obtain ⟨P, cp, rfl, _, _⟩ := own_nil_len (v := va) (n := m.acs.length) ho
  obtain ⟨gA, hgA⟩ := own_someA ho hok.pos
  obtain ⟨ad, had⟩ : ∃ x, x = (⟨gA, 0, none⟩ : Addr) := ⟨_, rfl⟩
  rw [← had] at hgA
  subst hgA
  have HAD := Lib.hid had
  obtain ⟨S, cs, rfl, _, _⟩ := own_nil_len (v := vl) (n := m.log.length) (hms.row 1 rfl)
  have hm6 := hok.m
  have hn2 := hok.q
  clear hq hok hms ho had
  go_enter Try.func108, Try.ntmps108
  go_upto_region 1 with fail
  generalize hw0 : (W.alloc (qB q)).alloc (rB ⟨0, 0⟩) = w0 at *
  clear hw0
  generalize W.heap.size + 1 = gR at *
  generalize W.heap.size = gQ at *
  by_cases hneg : q.agent < 0
  · have b1 : decide (q.agent < 0) = true := decide_eq_true hneg
    have HX := Lib.hid (Mt.err_has (m := m) (q := q) (by unfold hasB; rw [decide_eq_false (by omega)]; rfl))
    clear hneg
    have c_q := fun j => cell_of_row _ _ j _ _ _ (hM0.get 1 rfl)
    have z_q := hM0.lt 1 rfl
    have c_g := fun j => cell_of_row _ _ j _ _ _ (hM0.get 2 rfl)
    have z_g := hM0.lt 2 rfl
    go_wp2_with fail
    refine wp_region_ext (by kernel_rfl) (by kernel_rfl) ?_
    repeat (first | go_big_quiet_step (fail) | quiet_step (fail))
    refine wpQuiet_nil ?_
    rintro w1 ⟨⟨wx_, hb⟩, rfl⟩
    have hB1 := hM0.next hb
    clear c_q z_q c_g z_g hb hM0
    have c_r := fun j => cell_of_row _ _ j _ _ _ (hB1.get 0 rfl)
    have z_r := hB1.lt 0 rfl
    have f_r := fun j => frozen_of_row _ _ j _ _ (hB1.get 0 rfl)
    go_wp2_with fail
    have hE := hB1.put 0 rfl ⟨0, 0⟩
    clear c_r z_r f_r hB1
    generalize (w1.setCell _ _).setCell _ _ = wE at *
    have c_r := fun j => cell_of_row _ _ j _ _ _ (hE.get 0 rfl)
    have z_r := hE.lt 0 rfl
    refine bodyPost_ret (v := .tuple #[rV ⟨0, 0⟩, .int .i64 2]) (by simp [results, Try.results108, go_sem, c_r, z_r]) rfl ?_
    exact MaskRes.no HX.out (by decide) ⟨⟨xs, (hE.imp (fun V q => q)).subl (List.Sublist.cons _ (List.Sublist.cons _ (List.Sublist.cons_cons _ (List.nil_sublist _))))⟩, HWF.out⟩
  by_cases hbig : (m.acs.length : Int) ≤ q.agent
  · have b1 : decide (q.agent < 0) = false := decide_eq_false hneg
    have b2 : decide ((m.acs.length : Int) ≤ q.agent) = true := decide_eq_true hbig
    have HX := Lib.hid (Mt.err_has (m := m) (q := q) (by unfold hasB; rw [decide_eq_false (show ¬ q.agent < (m.acs.length : Int) by omega), Bool.and_false]))
    clear hneg hbig
    have c_q := fun j => cell_of_row _ _ j _ _ _ (hM0.get 1 rfl)
    have z_q := hM0.lt 1 rfl
    have c_g := fun j => cell_of_row _ _ j _ _ _ (hM0.get 2 rfl)
    have z_g := hM0.lt 2 rfl
    go_wp2_with fail
    refine wp_region_ext (by kernel_rfl) (by kernel_rfl) ?_
    repeat (first | go_big_quiet_step (fail) | quiet_step (fail))
    refine wpQuiet_nil ?_
    rintro w1 ⟨⟨wx_, hb⟩, rfl⟩
    have hB1 := hM0.next hb
    clear c_q z_q c_g z_g hb hM0
    have c_r := fun j => cell_of_row _ _ j _ _ _ (hB1.get 0 rfl)
    have z_r := hB1.lt 0 rfl
    have f_r := fun j => frozen_of_row _ _ j _ _ (hB1.get 0 rfl)
    go_wp2_with fail
    have hE := hB1.put 0 rfl ⟨0, 0⟩
    clear c_r z_r f_r hB1
    generalize (w1.setCell _ _).setCell _ _ = wE at *
    have c_r := fun j => cell_of_row _ _ j _ _ _ (hE.get 0 rfl)
    have z_r := hE.lt 0 rfl
    refine bodyPost_ret (v := .tuple #[rV ⟨0, 0⟩, .int .i64 2]) (by simp [results, Try.results108, go_sem, c_r, z_r]) rfl ?_
    exact MaskRes.no HX.out (by decide) ⟨⟨xs, (hE.imp (fun V q => q)).subl (List.Sublist.cons _ (List.Sublist.cons _ (List.Sublist.cons_cons _ (List.nil_sublist _))))⟩, HWF.out⟩
  obtain ⟨i, hi, hil⟩ : ∃ i : Nat, q.agent = (i : Int) ∧ i < m.acs.length := ⟨q.agent.toNat, by omega, by omega⟩
  obtain ⟨a, ha⟩ : ∃ a, m.acs[i]? = some a := ⟨_, List.getElem?_eq_getElem hil⟩
  have HHAS := Lib.hid (show hasB m.acs.length q.agent = true by rw [hi]; exact hasB_nat hil)
  have HAT := Lib.hid (show acAt m.acs q.agent = a by rw [hi]; exact acAt_of ha)
  obtain ⟨hwf, A, c, R, d, A', c', R', d', hxs, _⟩ := hM0.here.plain.actor ha
  have HXS := Lib.hid hxs
  have HAW := Lib.hid hwf
  have HAI := Lib.hid ha
  have HIL := Lib.hid hil
  have hM1 : Ms (fun V => Lay kAcU V m.acs xs ∧ AcCk a A c R d A' c' R' d' V) w [(gR, rB ⟨0, 0⟩), (gQ, qB q), (g, .cells #[.slice (some ad) m.acs.length cp, .slice S m.log.length cs] 147)] [⟨.slice (some ad) m.acs.length cp, 116, 8, m.acs.length, xs⟩, ⟨.slice S m.log.length cs, 84, 8, m.log.length, lgV m.log⟩] w0 := hM0.imp (fun V k => ⟨k, k.plain.cakes ha hxs⟩)
  have HAC := Lib.hid (fun (F : World → Prop) (L : List (Nat × Obj)) (r : Rw) (V : World) (k : Ms F w L [⟨.slice (some ad) m.acs.length cp, 116, 8, m.acs.length, xs⟩, r] V) => show AcAt V ad i a A c R d A' c' R' d' ∧ ad.block < V.heap.size ∧ V.frozen? ⟨(ad.add (i * 8)).block, (ad.add (i * 8)).off + 7, none⟩ = false by
    have had := HAD.out
    subst had
    obtain ⟨k1, k2⟩ := k.acAt 0 rfl hil hxs
    refine ⟨k1, k2, ?_⟩
    rw [addr_row (by decide)]
    exact (k.rowAt 0 rfl).2.1 _)
  have b1 : decide (q.agent < 0) = false := decide_eq_false hneg
  have b2 : decide ((m.acs.length : Int) ≤ q.agent) = false := decide_eq_false hbig
  have z1 : q.agent < (m.acs.length : Int) := by omega
  have z2 : (0 : Int) ≤ q.agent := by omega
  have HQI := Lib.hid (show q.agent.toNat = i by omega)
  clear hM0 hneg hbig hxs hwf ha hil hi
  have c_q := fun j => cell_of_row _ _ j _ _ _ (hM1.get 1 rfl)
  have z_q := hM1.lt 1 rfl
  have c_g := fun j => cell_of_row _ _ j _ _ _ (hM1.get 2 rfl)
  have z_g := hM1.lt 2 rfl
  go_wp2_with fail
  refine wp_region_ext (by kernel_rfl) (by kernel_rfl) ?_
  repeat (first | go_big_quiet_step (fail) | quiet_step (fail))
  refine wpQuiet_nil ?_
  rintro w1 ⟨⟨wx_, hb⟩, rfl⟩
  have hB1 := hM1.next hb
  clear c_q z_q c_g z_g hb hM1
  have t0 := HQI.out
  have c_q := fun j => cell_of_row _ _ j _ _ _ (hB1.get 1 rfl)
  have z_q := hB1.lt 1 rfl
  have c_g := fun j => cell_of_row _ _ j _ _ _ (hB1.get 2 rfl)
  have z_g := hB1.lt 2 rfl
  go_wp2_with fail
  refine wp_region_ext (by kernel_rfl) (by kernel_rfl) ?_
  repeat (first | go_big_quiet_step (fail) | quiet_step (fail))
  refine wpQuiet_nil ?_
  rintro w2 ⟨⟨wx_, hb⟩, rfl⟩
  have hB2 := hB1.next hb
  clear c_q z_q c_g z_g hb hB1 z1 z2 t0 b1 b2
  obtain ⟨⟨c0, c1, c2, c3, c4, c5, c6, c7⟩, hbA, fA⟩ := HAC.out _ _ _ _ hB2
  have f1 : (ad.add (i * 8)).block < w2.heap.size := by rw [block_add]; exact hbA
  go_upto_region 5 with fail
  have hB3 := hB2.new rfl (cB A c R d a.own)
  clear hB2 c0 c1 c2 c3 c4 c5 c6 c7 hbA fA f1
  generalize w2.heap.size = gC at *
  generalize w2.alloc _ = w3 at *
  obtain ⟨b, hb_⟩ : ∃ x, x = ((a.after != -1) && decide (a.after ≤ a.asked)) := ⟨_, rfl⟩
  have HNOW := Lib.hid (show a.now = (if b = true then a.told else a.own) by
    rw [hb_]
    cases d1 : (a.after != -1) with
    | false => exact Ac.now_own1 d1
    | true =>
      cases d2 : decide (a.after ≤ a.asked) with
      | true => exact Ac.now_told d1 d2
      | false => exact Ac.now_own2 d2)
  go_cut [52] (fun s52 wx => s52 = .bool b ∧ Ms (fun V => Lay kAcU V m.acs xs ∧ AcCk a A c R d A' c' R' d' V) w [(gC, cB A c R d a.own), (gR, rB ⟨0, 0⟩), (gQ, qB q), (g, .cells #[.slice (some ad) m.acs.length cp, .slice S m.log.length cs] 147)] [⟨.slice (some ad) m.acs.length cp, 116, 8, m.acs.length, xs⟩, ⟨.slice S m.log.length cs, 84, 8, m.log.length, lgV m.log⟩] wx)
  case first =>
    cases d1 : (a.after != -1) with
    | false =>
      have HD1 := Lib.hid d1
      obtain ⟨⟨c0, c1, c2, c3, c4, c5, c6, c7⟩, hbA, fA⟩ := HAC.out _ _ _ _ hB3
      have f1 : (ad.add (i * 8)).block < w3.heap.size := by rw [block_add]; exact hbA
      have HB_ := Lib.hid hb_
      clear hb_
      go_wp2_with fail
      refine wp_region_ext (by kernel_rfl) (by kernel_rfl) ?_
      repeat (first | go_big_quiet_step (fail) | quiet_step (fail))
      refine wpQuiet_nil ?_
      rintro w4 ⟨⟨wx_, hb⟩, rfl⟩
      have hB4 := hB3.next hb
      clear hb hB3 c0 c1 c2 c3 c4 c5 c6 c7 hbA fA f1
      have HM := Lib.hid hB4
      clear hB4
      go_wp2_with fail
      go_meet
      exact ⟨by rw [HB_.out, HD1.out]; rfl, HM.out⟩
    | true =>
      have HD1 := Lib.hid d1
      cases d2 : decide (a.after ≤ a.asked) with
      | true =>
        have HD2 := Lib.hid d2
        obtain ⟨⟨c0, c1, c2, c3, c4, c5, c6, c7⟩, hbA, fA⟩ := HAC.out _ _ _ _ hB3
        have f1 : (ad.add (i * 8)).block < w3.heap.size := by rw [block_add]; exact hbA
        have HB_ := Lib.hid hb_
        clear hb_
        go_wp2_with fail
        refine wp_region_ext (by kernel_rfl) (by kernel_rfl) ?_
        repeat (first | go_big_quiet_step (fail) | quiet_step (fail))
        refine wpQuiet_nil ?_
        rintro w4 ⟨⟨wx_, hb⟩, rfl⟩
        have hB4 := hB3.next hb
        clear hb hB3 c0 c1 c2 c3 c4 c5 c6 c7 hbA fA f1
        have HM := Lib.hid hB4
        clear hB4
        go_wp2_with fail
        go_meet
        exact ⟨by rw [HB_.out, HD1.out, HD2.out]; rfl, HM.out⟩
      | false =>
        have HD2 := Lib.hid d2
        obtain ⟨⟨c0, c1, c2, c3, c4, c5, c6, c7⟩, hbA, fA⟩ := HAC.out _ _ _ _ hB3
        have f1 : (ad.add (i * 8)).block < w3.heap.size := by rw [block_add]; exact hbA
        have HB_ := Lib.hid hb_
        clear hb_
        go_wp2_with fail
        refine wp_region_ext (by kernel_rfl) (by kernel_rfl) ?_
        repeat (first | go_big_quiet_step (fail) | quiet_step (fail))
        refine wpQuiet_nil ?_
        rintro w4 ⟨⟨wx_, hb⟩, rfl⟩
        have hB4 := hB3.next hb
        clear hb hB3 c0 c1 c2 c3 c4 c5 c6 c7 hbA fA f1
        have HM := Lib.hid hB4
        clear hB4
        go_wp2_with fail
        go_meet
        exact ⟨by rw [HB_.out, HD1.out, HD2.out]; rfl, HM.out⟩
  case rest =>
    obtain ⟨rfl, hMc⟩ := hcut
    generalize wc = wc at *
    clear hb_ hB3
    cases b with
    | true =>
      obtain ⟨⟨c0, c1, c2, c3, c4, c5, c6, c7⟩, hbA, fA⟩ := HAC.out _ _ _ _ hMc
      have f1 : (ad.add (i * 8)).block < wc.heap.size := by rw [block_add]; exact hbA
      have c_c := fun j => cell_of_row _ _ j _ _ _ (hMc.get 0 rfl)
      have z_c := hMc.lt 0 rfl
      have f_c := fun j => frozen_of_row _ _ j _ _ (hMc.get 0 rfl)
      go_upto_region 7 with fail
      have hB4 : Ms (fun V => Lay kAcU V m.acs xs ∧ AcCk a A c R d A' c' R' d' V) w [(gC, cB A' c' R' d' a.told), (gR, rB ⟨0, 0⟩), (gQ, qB q), (g, .cells #[.slice (some ad) m.acs.length cp, .slice S m.log.length cs] 147)] [⟨.slice (some ad) m.acs.length cp, 116, 8, m.acs.length, xs⟩, ⟨.slice S m.log.length cs, 84, 8, m.log.length, lgV m.log⟩] _ := hMc.put3 0 rfl 0 (.int .i64 a.told.len) (.slice A' a.told.cuts.length c') (.slice R' a.told.dens.length d')
      clear c_c z_c f_c hMc c0 c1 c2 c3 c4 c5 c6 c7 hbA fA f1
      generalize ((wc.setCell _ _).setCell _ _).setCell _ _ = w4 at *
      have HNK := Lib.hid (show a.now = a.told from HNOW.out.trans (if_pos rfl))
      clear HNOW
      go_upto_region 8 with fail
      have hB5 := hB4.new rfl (rB ⟨0, 0⟩)
      clear hB4
      generalize w4.heap.size = gV at *
      generalize w4.alloc _ = w5 at *
      by_cases e : q.kind = 1
      · have HE := Lib.hid e
        have b3 : (q.kind == 1) = true := by rw [e]; rfl

        obtain ⟨vv, hvv⟩ : ∃ x, x = a.told.val q.a q.b := ⟨_, rfl⟩
        obtain ⟨vc, hvc⟩ : ∃ x, x = a.told.valC q.a q.b := ⟨_, rfl⟩
        have HCV := Lib.hid (fun (V : World) (hV : CIn V.heap.size V A' c' R' d' a.told) => show Calls Try.prog 33 #[cV A' c' R' d' a.told, rV q.a, rV q.b] V fun e w' => e = .returned (.tuple #[rV vv, .int .i64 vc]) ∧ Below V.heap.size V w' by
          rw [hvv, hvc]; exact cvalue_any a.told A' c' R' d' q.a q.b HQ.out.a HQ.out.b V hV)
        have HVC := Lib.hid (show ansC a.now q.kind q.a q.b = vc by rw [HNK.out, hvc, e]; rfl)
        have HVV := Lib.hid (show ansR a.now q.kind q.a q.b = vv by rw [HNK.out, hvv, e]; rfl)
        have HKD := Lib.hid (show q.kind = 1 ∨ q.kind = 2 from Or.inl e)
        clear e hvv hvc
        have c_v := fun j => cell_of_row _ _ j _ _ _ (hB5.get 0 rfl)
        have z_v := hB5.lt 0 rfl
        have c_c := fun j => cell_of_row _ _ j _ _ _ (hB5.get 1 rfl)
        have z_c := hB5.lt 1 rfl
        have c_q := fun j => cell_of_row _ _ j _ _ _ (hB5.get 3 rfl)
        have z_q := hB5.lt 3 rfl
        go_wp2_with fail
        refine (HCV.out _ hB5.here.2.2).mono ?_
        rintro e w6 ⟨rfl, hb⟩
        have hB6 := hB5.next hb
        clear c_v z_v c_c z_c c_q z_q hb hB5 HCV b3
        have c_v := fun j => cell_of_row _ _ j _ _ _ (hB6.get 0 rfl)
        have z_v := hB6.lt 0 rfl
        have f_v := fun j => frozen_of_row _ _ j _ _ (hB6.get 0 rfl)
        go_upto_region 15 with fail
        have hB7 := hB6.put 0 rfl vv
        clear c_v z_v f_v hB6
        generalize (w6.setCell _ _).setCell _ _ = w7 at *
        by_cases ec : vc = 0
        rotate_left
        · have b5 : (vc != 0) = true := by simpa using ec
          have HX := Lib.hid (Mt.err_ans (m := m) HHAS.out HKD.out HAT.out (by rw [HVC.out]; exact ec))
          rw [HVC.out] at HX
          have HEC := Lib.hid ec
          clear ec
          have c_r := fun j => cell_of_row _ _ j _ _ _ (hB7.get 2 rfl)
          have z_r := hB7.lt 2 rfl
          have f_r := fun j => frozen_of_row _ _ j _ _ (hB7.get 2 rfl)
          go_wp2_with fail
          have hE := hB7.put 2 rfl ⟨0, 0⟩
          clear c_r z_r f_r hB7
          generalize (w7.setCell _ _).setCell _ _ = wE at *
          have c_r := fun j => cell_of_row _ _ j _ _ _ (hE.get 2 rfl)
          have z_r := hE.lt 2 rfl
          refine bodyPost_ret (v := .tuple #[rV ⟨0, 0⟩, .int .i64 vc]) (by simp [results, Try.results108, go_sem, c_r, z_r]) rfl ?_
          exact MaskRes.no HX.out HEC.out ⟨⟨xs, (hE.imp (fun V q => q.1)).subl (List.Sublist.cons _ (List.Sublist.cons _ (List.Sublist.cons _ (List.Sublist.cons _ (List.Sublist.cons_cons _ (List.nil_sublist _))))))⟩, HWF.out⟩
        subst ec
        by_cases hfull : 2000 ≤ m.log.length
        · have b6 : decide ((2000 : Int) ≤ (m.log.length : Int)) = true := decide_eq_true (by omega)
          have HX := Lib.hid (Mt.err_many (m := m) HHAS.out HKD.out HAT.out HVC.out hfull)
          clear hfull
          have c_g := fun j => cell_of_row _ _ j _ _ _ (hB7.get 4 rfl)
          have z_g := hB7.lt 4 rfl
          have c_r := fun j => cell_of_row _ _ j _ _ _ (hB7.get 2 rfl)
          have z_r := hB7.lt 2 rfl
          have f_r := fun j => frozen_of_row _ _ j _ _ (hB7.get 2 rfl)
          go_wp2_with fail
          have hE := hB7.put 2 rfl ⟨0, 0⟩
          clear c_g z_g c_r z_r f_r hB7
          generalize (w7.setCell _ _).setCell _ _ = wE at *
          have c_r := fun j => cell_of_row _ _ j _ _ _ (hE.get 2 rfl)
          have z_r := hE.lt 2 rfl
          refine bodyPost_ret (v := .tuple #[rV ⟨0, 0⟩, .int .i64 4]) (by simp [results, Try.results108, go_sem, c_r, z_r]) rfl ?_
          exact MaskRes.no HX.out (by decide) ⟨⟨xs, (hE.imp (fun V q => q.1)).subl (List.Sublist.cons _ (List.Sublist.cons _ (List.Sublist.cons _ (List.Sublist.cons _ (List.Sublist.cons_cons _ (List.nil_sublist _))))))⟩, HWF.out⟩
        have b6 : decide ((2000 : Int) ≤ (m.log.length : Int)) = false := decide_eq_false (by omega)
        have HERR := Lib.hid (Mt.err_ok (m := m) HHAS.out HKD.out HAT.out HVC.out hfull)
        have HANS := Lib.hid (show m.ans q = vv by unfold Mt.ans; rw [HAT.out]; exact HVV.out)
        have HSTEP := Lib.hid (show m.step q = ⟨m.acs.set i a.more, m.log ++ [{ q with ans := vv }]⟩ by unfold Mt.step; rw [HAT.out, HQI.out, HANS.out])
        have HVW := Lib.hid (show vv.wf by rw [← HVV.out]; exact ansR_wf _ _ _)
        have HAS := (HOK.out.fit i a HAI.out).asked
        have HAS2 := ofL_le m.log (i : Int)
        have HW1 := Lib.hid (show a.asked + 1 ≤ 9223372036854775807 by omega)
        have HWR := Lib.hid (show IntKind.i64.wrap (a.asked + 1) = a.asked + 1 ∧ wrap64 (a.asked + 1) = a.asked + 1 from ⟨IntWalk.i64_in _ (by omega), IntWalk.wrap64_in _ (by omega)⟩)
        clear hfull HAS HAS2
        have HXL := Lib.hid (hB7.row 0 rfl).1
        have c_g := fun j => cell_of_row _ _ j _ _ _ (hB7.get 4 rfl)
        have z_g := hB7.lt 4 rfl
        have c_v := fun j => cell_of_row _ _ j _ _ _ (hB7.get 0 rfl)
        have z_v := hB7.lt 0 rfl
        have c_q := fun j => cell_of_row _ _ j _ _ _ (hB7.get 3 rfl)
        have z_q := hB7.lt 3 rfl
        have f_q := fun j => frozen_of_row _ _ j _ _ (hB7.get 3 rfl)
        go_upto_region 20 with fail
        have hB8 : Ms (fun V => Lay kAcU V m.acs xs ∧ AcCk a A c R d A' c' R' d' V) w [(gV, rB vv), (gC, cB A' c' R' d' a.told), (gR, rB ⟨0, 0⟩), (gQ, qB { q with ans := vv }), (g, .cells #[.slice (some ad) m.acs.length cp, .slice S m.log.length cs] 147)] [⟨.slice (some ad) m.acs.length cp, 116, 8, m.acs.length, xs⟩, ⟨.slice S m.log.length cs, 84, 8, m.log.length, lgV m.log⟩] ((w7.setCell ⟨gQ, 6, none⟩ (.int .i64 vv.n)).setCell ⟨gQ, 7, none⟩ (.int .i64 vv.d)) := (hB7.set 3 rfl 6 (.int .i64 vv.n)).set 3 rfl 7 (.int .i64 vv.d)
        clear c_g z_g c_v z_v c_q z_q f_q hB7
        generalize (w7.setCell _ _).setCell _ _ = w8 at *
        go_wp2_with fail
        refine wp_region_T (Bx w [(gQ, qB { q with ans := vv })]) 13 (by kernel_rfl) (by rfl) ((hB8.keep (List.Sublist.cons _ (List.Sublist.cons _ (List.Sublist.cons _ (List.Sublist.cons_cons _ (List.nil_sublist _)))))).drew) (fun wq1 hbq => ?_)
        have hB9 := hB8.next hbq
        clear hB8 hbq
        refine wpAnyT_go (Bx.grows _ _) (hB9.keep (List.Sublist.cons _ (List.Sublist.cons _ (List.Sublist.cons _ (List.Sublist.cons_cons _ (List.nil_sublist _)))))) [0, 1, 2, 3, 4, 6] 7 (by kernel_rfl) ?_
        apply Exists.intro
        refine ⟨fun G hG hN => ?_, ?_⟩
        · have c_q := fun (e : GE (Bx w [(gQ, qB { q with ans := vv })]) G) j => cell_of_row e.w _ j _ _ _ ((GE.h e).get 0 rfl)
          have z_q := fun (e : GE (Bx w [(gQ, qB { q with ans := vv })]) G) => (GE.h e).lt 0 rfl
          simp only [pickOps, List.getElem?_toArray, List.getElem?_cons_zero, List.getElem?_cons_succ]
          repeat (first | go_big_quiet_step (fail) | quiet_step (fail))
          exact wpQuiet_nil rfl
        refine wpAnyT_all (rs := [5, 7]) (by kernel_rfl) (by simp) (fun wa2 hwa2 hRwa2 i hi => ?_)
        have hB10 := hB9.next hwa2
        clear hB9 hwa2 hRwa2
        rcases List.mem_cons.1 hi with rfl | hi
        · refine wpOp_step rfl (fun Kc hKc => ?_)
          have c_g := fun j => cell_of_row _ _ j _ _ _ (hB10.get 4 rfl)
          have z_g := hB10.lt 4 rfl
          go_simp
          refine hKc _ _ ⟨(hB10.keep (List.Sublist.cons _ (List.Sublist.cons _ (List.Sublist.cons _ (List.Sublist.cons_cons _ (List.nil_sublist _)))))), ?_⟩
          clear hKc Kc
          clear c_g z_g
          refine wpAnyT_all (rs := [7]) (by kernel_rfl) (by simp) (fun wa3 hwa3 hRwa3 i hi => ?_)
          have hB11 := hB10.next hwa3
          clear hB10 hwa3 hRwa3
          obtain rfl := List.mem_singleton.1 hi
          refine wpOp_step rfl (fun Kc hKc => ?_)
          go_simp
          have hB12 := hB11.new (g := wa3.heap.size) rfl (.cells #[.int .i64 q.agent, .int .u8 q.kind, .int .i64 q.a.n, .int .i64 q.a.d, .int .i64 q.b.n, .int .i64 q.b.d, .int .i64 vv.n, .int .i64 vv.d] 84)
          refine hKc _ _ ⟨(hB12.keep (List.Sublist.cons _ (List.Sublist.cons _ (List.Sublist.cons _ (List.Sublist.cons _ (List.Sublist.cons_cons _ (List.nil_sublist _))))))), ?_⟩
          clear hKc Kc hB11
          generalize wa3.heap.size = gL at *
          generalize wa3.alloc _ = wb4 at *
          refine wpAnyT_all (rs := [8]) (by kernel_rfl) (by simp) (fun wa5 hwa5 hRwa5 i hi => ?_)
          have hB13 := hB12.next hwa5
          clear hB12 hwa5 hRwa5
          obtain rfl := List.mem_singleton.1 hi
          refine wpOp_step rfl (fun Kc hKc => ?_)
          refine step_append_any _ rfl (.tmp 100) (.tmp 102) 59 rfl w.heap.size 84 j0 (.agg #[.int .i64 0, .int .u8 0, .int .i64 0, .int .i64 0, .int .i64 0, .int .i64 0, .int .i64 0, .int .i64 0]) 8 64 Try.underlying59 hj0 hy0 hy1 hy2 rfl (by omega) (.slice S m.log.length cs) m.log.length (lgV m.log) rfl (hB13.row 1 rfl) _ (some ⟨gL, 0, none⟩) 1 1 [.int .i64 q.agent, .int .u8 q.kind, .int .i64 q.a.n, .int .i64 q.a.d, .int .i64 q.b.n, .int .i64 q.b.d, .int .i64 vv.n, .int .i64 vv.d] rfl (reads_lit (n := 1) (s := 8) (hB13.get 0 rfl) rfl) (by intro u hu; simp at hu; rcases hu with rfl | rfl | rfl | rfl | rfl | rfl | rfl | rfl <;> rfl) (by unfold maxLen; omega) (by omega) hB13.below.size ?_
          intro v8 wb6 hown hgr hat
          obtain ⟨S2, cs2, rfl, _, _⟩ := own_nil_len hown
          have hB14 := hB13.grow 1 rfl hgr hown hat
          refine hKc _ _ ⟨(hB14.keep (List.Sublist.cons _ (List.Sublist.cons _ (List.Sublist.cons _ (List.Sublist.cons _ (List.Sublist.cons_cons _ (List.nil_sublist _))))))), ?_⟩
          clear hKc Kc hB13 hown hgr hat
          refine wpAnyT_go (Bx.grows _ _) (hB14.keep (List.Sublist.cons _ (List.Sublist.cons _ (List.Sublist.cons _ (List.Sublist.cons _ (List.Sublist.cons_cons _ (List.nil_sublist _))))))) [9, 10, 11] 1 (by kernel_rfl) ?_
          apply Exists.intro
          refine ⟨fun G hG hN => ?_, ?_⟩
          · have c_q := fun (e : GE (Bx w [(gQ, qB { q with ans := vv })]) G) j => cell_of_row e.w _ j _ _ _ ((GE.h e).get 0 rfl)
            have z_q := fun (e : GE (Bx w [(gQ, qB { q with ans := vv })]) G) => (GE.h e).lt 0 rfl
            simp only [pickOps, List.getElem?_toArray, List.getElem?_cons_zero, List.getElem?_cons_succ]
            repeat (first | go_big_quiet_step (fail) | quiet_step (fail))
            exact wpQuiet_nil rfl
          refine wpAnyT_all (rs := [12]) (by kernel_rfl) (by simp) (fun wa7 hwa7 hRwa7 i hi => ?_)
          have hB15 := hB14.next hwa7
          clear hB14 hwa7 hRwa7
          obtain rfl := List.mem_singleton.1 hi
          refine wpOp_step rfl (fun Kc hKc => ?_)
          have c_g := fun j => cell_of_row _ _ j _ _ _ (hB15.get 5 rfl)
          have z_g := hB15.lt 5 rfl
          have f_g := fun j => frozen_of_row _ _ j _ _ (hB15.get 5 rfl)
          go_simp
          have hB16 := hB15.set 5 rfl 1 (.slice S2 (m.log.length + 1) cs2)
          refine hKc _ _ ⟨(hB16.keep (List.Sublist.cons _ (List.Sublist.cons _ (List.Sublist.cons _ (List.Sublist.cons _ (List.Sublist.cons_cons _ (List.nil_sublist _))))))), ?_⟩
          clear c_g z_g f_g hKc Kc hB15
          generalize wa7.setCell _ _ = wb8 at *
          refine wpAnyT_done (by kernel_rfl) (fun wd9 hwd9 hRwd9 => ?_) _
          refine NoPanic.normal ?_
          have hB17 := hB16.next hwd9
          clear hB16 hwd9 hRwd9
          obtain ⟨⟨c0, c1, c2, c3, c4, c5, c6, c7⟩, hbA, fA⟩ := HAC.out _ _ _ _ hB17
          have f1 : (ad.add (i * 8)).block < wd9.heap.size := by rw [block_add]; exact hbA
          have wr1 := HWR.out.1
          have wr2 := HWR.out.2
          go_upto_region 22 with fail
          obtain rfl := HAD.out
          rw [addr_row (g := gA) (i := i) (j := 7) (by decide)]
          have hB18 := hB17.setRow 0 rfl (i * 8 + 7) (.int .i64 (a.asked + 1))
          clear hB17 c0 c1 c2 c3 c4 c5 c6 c7 hbA fA f1 wr1 wr2
          generalize wd9.setCell _ _ = w18 at *
          have c_v := fun j => cell_of_row _ _ j _ _ _ (hB18.get 1 rfl)
          have z_v := hB18.lt 1 rfl
          have c_r := fun j => cell_of_row _ _ j _ _ _ (hB18.get 3 rfl)
          have z_r := hB18.lt 3 rfl
          have f_r := fun j => frozen_of_row _ _ j _ _ (hB18.get 3 rfl)
          have n_vr := hB18.mx.ne 1 3 rfl rfl (by decide)
          simp only at n_vr
          go_wp2_with fail
          have hE := hB18.put 3 rfl vv
          clear c_v z_v c_r z_r f_r hB18 n_vr
          generalize (w18.setCell _ _).setCell _ _ = wE at *
          have c_r := fun j => cell_of_row _ _ j _ _ _ (hE.get 3 rfl)
          have z_r := hE.lt 3 rfl
          refine bodyPost_ret (v := .tuple #[rV vv, .int .i64 0]) (by simp [results, Try.results108, go_sem, c_r, z_r]) rfl ?_
          have hF : Ms (fun V => Lay kAcU V (m.acs.set i a.more) (xs.set (i * 8 + 7) (.int .i64 (a.asked + 1)))) w [(g, .cells #[.slice (some ⟨gA, 0, none⟩) m.acs.length cp, .slice S2 (m.log.length + 1) cs2] 147)] [⟨.slice (some ⟨gA, 0, none⟩) m.acs.length cp, 116, 8, m.acs.length, xs.set (i * 8 + 7) (.int .i64 (a.asked + 1))⟩, ⟨.slice S2 (m.log.length + 1) cs2, 84, 8, m.log.length + 1, lgV m.log ++ [.int .i64 q.agent, .int .u8 q.kind, .int .i64 q.a.n, .int .i64 q.a.d, .int .i64 q.b.n, .int .i64 q.b.d, .int .i64 vv.n, .int .i64 vv.d]⟩] wE := (hE.imp (fun V k => k.1.more HXL.out HAI.out HW1.out)).subl (List.Sublist.cons _ (List.Sublist.cons _ (List.Sublist.cons _ (List.Sublist.cons _ (List.Sublist.cons _ (List.Sublist.cons_cons _ (List.nil_sublist _)))))))
          refine MaskRes.yes HERR.out HANS.out (va := .slice (some ⟨gA, 0, none⟩) m.acs.length cp) (vl := .slice S2 (m.log.length + 1) cs2) ?_
          rw [HSTEP.out]
          refine ⟨⟨xs.set (i * 8 + 7) (.int .i64 (a.asked + 1)), ?_⟩, fun p hp => ?_⟩
          · show Ms _ w _ [⟨.slice (some ⟨gA, 0, none⟩) m.acs.length cp, 116, 8, (m.acs.set i a.more).length, _⟩, ⟨.slice S2 (m.log.length + 1) cs2, 84, 8, (m.log ++ [{ q with ans := vv }]).length, lgV (m.log ++ [{ q with ans := vv }])⟩] wE
            rw [List.length_set, List.length_append, ← lgV_push]
            exact hF
          · rcases List.mem_append.1 hp with u | u
            · exact HWF.out p u
            · obtain rfl := List.mem_singleton.1 u
              exact qy_wf HQ.out HVW.out
        · obtain rfl := List.mem_singleton.1 hi
          refine wpOp_step rfl (fun Kc hKc => ?_)
          go_simp
          have hB11 := hB10.new (g := wa2.heap.size) rfl (.cells #[.int .i64 q.agent, .int .u8 q.kind, .int .i64 q.a.n, .int .i64 q.a.d, .int .i64 q.b.n, .int .i64 q.b.d, .int .i64 vv.n, .int .i64 vv.d] 84)
          refine hKc _ _ ⟨(hB11.keep (List.Sublist.cons _ (List.Sublist.cons _ (List.Sublist.cons _ (List.Sublist.cons _ (List.Sublist.cons_cons _ (List.nil_sublist _))))))), ?_⟩
          clear hKc Kc hB10
          generalize wa2.heap.size = gL at *
          generalize wa2.alloc _ = wb10 at *
          refine wpAnyT_all (rs := [5]) (by kernel_rfl) (by simp) (fun wa11 hwa11 hRwa11 i hi => ?_)
          have hB12 := hB11.next hwa11
          clear hB11 hwa11 hRwa11
          obtain rfl := List.mem_singleton.1 hi
          refine wpOp_step rfl (fun Kc hKc => ?_)
          have c_g := fun j => cell_of_row _ _ j _ _ _ (hB12.get 5 rfl)
          have z_g := hB12.lt 5 rfl
          go_simp
          refine hKc _ _ ⟨(hB12.keep (List.Sublist.cons _ (List.Sublist.cons _ (List.Sublist.cons _ (List.Sublist.cons _ (List.Sublist.cons_cons _ (List.nil_sublist _))))))), ?_⟩
          clear hKc Kc
          clear c_g z_g
          refine wpAnyT_all (rs := [8]) (by kernel_rfl) (by simp) (fun wa12 hwa12 hRwa12 i hi => ?_)
          have hB13 := hB12.next hwa12
          clear hB12 hwa12 hRwa12
          obtain rfl := List.mem_singleton.1 hi
          refine wpOp_step rfl (fun Kc hKc => ?_)
          refine step_append_any _ rfl (.tmp 100) (.tmp 102) 59 rfl w.heap.size 84 j0 (.agg #[.int .i64 0, .int .u8 0, .int .i64 0, .int .i64 0, .int .i64 0, .int .i64 0, .int .i64 0, .int .i64 0]) 8 64 Try.underlying59 hj0 hy0 hy1 hy2 rfl (by omega) (.slice S m.log.length cs) m.log.length (lgV m.log) rfl (hB13.row 1 rfl) _ (some ⟨gL, 0, none⟩) 1 1 [.int .i64 q.agent, .int .u8 q.kind, .int .i64 q.a.n, .int .i64 q.a.d, .int .i64 q.b.n, .int .i64 q.b.d, .int .i64 vv.n, .int .i64 vv.d] rfl (reads_lit (n := 1) (s := 8) (hB13.get 0 rfl) rfl) (by intro u hu; simp at hu; rcases hu with rfl | rfl | rfl | rfl | rfl | rfl | rfl | rfl <;> rfl) (by unfold maxLen; omega) (by omega) hB13.below.size ?_
          intro v8 wb13 hown hgr hat
          obtain ⟨S2, cs2, rfl, _, _⟩ := own_nil_len hown
          have hB14 := hB13.grow 1 rfl hgr hown hat
          refine hKc _ _ ⟨(hB14.keep (List.Sublist.cons _ (List.Sublist.cons _ (List.Sublist.cons _ (List.Sublist.cons _ (List.Sublist.cons_cons _ (List.nil_sublist _))))))), ?_⟩
          clear hKc Kc hB13 hown hgr hat
          refine wpAnyT_go (Bx.grows _ _) (hB14.keep (List.Sublist.cons _ (List.Sublist.cons _ (List.Sublist.cons _ (List.Sublist.cons _ (List.Sublist.cons_cons _ (List.nil_sublist _))))))) [9, 10, 11] 1 (by kernel_rfl) ?_
          apply Exists.intro
          refine ⟨fun G hG hN => ?_, ?_⟩
          · have c_q := fun (e : GE (Bx w [(gQ, qB { q with ans := vv })]) G) j => cell_of_row e.w _ j _ _ _ ((GE.h e).get 0 rfl)
            have z_q := fun (e : GE (Bx w [(gQ, qB { q with ans := vv })]) G) => (GE.h e).lt 0 rfl
            simp only [pickOps, List.getElem?_toArray, List.getElem?_cons_zero, List.getElem?_cons_succ]
            repeat (first | go_big_quiet_step (fail) | quiet_step (fail))
            exact wpQuiet_nil rfl
          refine wpAnyT_all (rs := [12]) (by kernel_rfl) (by simp) (fun wa14 hwa14 hRwa14 i hi => ?_)
          have hB15 := hB14.next hwa14
          clear hB14 hwa14 hRwa14
          obtain rfl := List.mem_singleton.1 hi
          refine wpOp_step rfl (fun Kc hKc => ?_)
          have c_g := fun j => cell_of_row _ _ j _ _ _ (hB15.get 5 rfl)
          have z_g := hB15.lt 5 rfl
          have f_g := fun j => frozen_of_row _ _ j _ _ (hB15.get 5 rfl)
          go_simp
          have hB16 := hB15.set 5 rfl 1 (.slice S2 (m.log.length + 1) cs2)
          refine hKc _ _ ⟨(hB16.keep (List.Sublist.cons _ (List.Sublist.cons _ (List.Sublist.cons _ (List.Sublist.cons _ (List.Sublist.cons_cons _ (List.nil_sublist _))))))), ?_⟩
          clear c_g z_g f_g hKc Kc hB15
          generalize wa14.setCell _ _ = wb15 at *
          refine wpAnyT_done (by kernel_rfl) (fun wd16 hwd16 hRwd16 => ?_) _
          refine NoPanic.normal ?_
          have hB17 := hB16.next hwd16
          clear hB16 hwd16 hRwd16
          obtain ⟨⟨c0, c1, c2, c3, c4, c5, c6, c7⟩, hbA, fA⟩ := HAC.out _ _ _ _ hB17
          have f1 : (ad.add (i * 8)).block < wd16.heap.size := by rw [block_add]; exact hbA
          have wr1 := HWR.out.1
          have wr2 := HWR.out.2
          go_upto_region 22 with fail
          obtain rfl := HAD.out
          rw [addr_row (g := gA) (i := i) (j := 7) (by decide)]
          have hB18 := hB17.setRow 0 rfl (i * 8 + 7) (.int .i64 (a.asked + 1))
          clear hB17 c0 c1 c2 c3 c4 c5 c6 c7 hbA fA f1 wr1 wr2
          generalize wd16.setCell _ _ = w18 at *
          have c_v := fun j => cell_of_row _ _ j _ _ _ (hB18.get 1 rfl)
          have z_v := hB18.lt 1 rfl
          have c_r := fun j => cell_of_row _ _ j _ _ _ (hB18.get 3 rfl)
          have z_r := hB18.lt 3 rfl
          have f_r := fun j => frozen_of_row _ _ j _ _ (hB18.get 3 rfl)
          have n_vr := hB18.mx.ne 1 3 rfl rfl (by decide)
          simp only at n_vr
          go_wp2_with fail
          have hE := hB18.put 3 rfl vv
          clear c_v z_v c_r z_r f_r hB18 n_vr
          generalize (w18.setCell _ _).setCell _ _ = wE at *
          have c_r := fun j => cell_of_row _ _ j _ _ _ (hE.get 3 rfl)
          have z_r := hE.lt 3 rfl
          refine bodyPost_ret (v := .tuple #[rV vv, .int .i64 0]) (by simp [results, Try.results108, go_sem, c_r, z_r]) rfl ?_
          have hF : Ms (fun V => Lay kAcU V (m.acs.set i a.more) (xs.set (i * 8 + 7) (.int .i64 (a.asked + 1)))) w [(g, .cells #[.slice (some ⟨gA, 0, none⟩) m.acs.length cp, .slice S2 (m.log.length + 1) cs2] 147)] [⟨.slice (some ⟨gA, 0, none⟩) m.acs.length cp, 116, 8, m.acs.length, xs.set (i * 8 + 7) (.int .i64 (a.asked + 1))⟩, ⟨.slice S2 (m.log.length + 1) cs2, 84, 8, m.log.length + 1, lgV m.log ++ [.int .i64 q.agent, .int .u8 q.kind, .int .i64 q.a.n, .int .i64 q.a.d, .int .i64 q.b.n, .int .i64 q.b.d, .int .i64 vv.n, .int .i64 vv.d]⟩] wE := (hE.imp (fun V k => k.1.more HXL.out HAI.out HW1.out)).subl (List.Sublist.cons _ (List.Sublist.cons _ (List.Sublist.cons _ (List.Sublist.cons _ (List.Sublist.cons _ (List.Sublist.cons_cons _ (List.nil_sublist _)))))))
          refine MaskRes.yes HERR.out HANS.out (va := .slice (some ⟨gA, 0, none⟩) m.acs.length cp) (vl := .slice S2 (m.log.length + 1) cs2) ?_
          rw [HSTEP.out]
          refine ⟨⟨xs.set (i * 8 + 7) (.int .i64 (a.asked + 1)), ?_⟩, fun p hp => ?_⟩
          · show Ms _ w _ [⟨.slice (some ⟨gA, 0, none⟩) m.acs.length cp, 116, 8, (m.acs.set i a.more).length, _⟩, ⟨.slice S2 (m.log.length + 1) cs2, 84, 8, (m.log ++ [{ q with ans := vv }]).length, lgV (m.log ++ [{ q with ans := vv }])⟩] wE
            rw [List.length_set, List.length_append, ← lgV_push]
            exact hF
          · rcases List.mem_append.1 hp with u | u
            · exact HWF.out p u
            · obtain rfl := List.mem_singleton.1 u
              exact qy_wf HQ.out HVW.out
      by_cases e2 : q.kind = 2
      · have b3_ := e
        clear e
        have e := e2
        clear e2 b3_
        have HE := Lib.hid e
        have b3 : (q.kind == 1) = false := by rw [e]; rfl
        have b4 : (q.kind == 2) = true := by rw [e]; rfl
        obtain ⟨vv, hvv⟩ : ∃ x, x = a.told.mark q.a q.b := ⟨_, rfl⟩
        obtain ⟨vc, hvc⟩ : ∃ x, x = a.told.markC q.a q.b := ⟨_, rfl⟩
        have HCV := Lib.hid (fun (V : World) (hV : CIn V.heap.size V A' c' R' d' a.told) => show Calls Try.prog 32 #[cV A' c' R' d' a.told, rV q.a, rV q.b] V fun e w' => e = .returned (.tuple #[rV vv, .int .i64 vc]) ∧ Below V.heap.size V w' by
          rw [hvv, hvc]; exact cmark_any a.told A' c' R' d' q.a q.b HQ.out.a HQ.out.b V hV)
        have HVC := Lib.hid (show ansC a.now q.kind q.a q.b = vc by rw [HNK.out, hvc, e]; rfl)
        have HVV := Lib.hid (show ansR a.now q.kind q.a q.b = vv by rw [HNK.out, hvv, e]; rfl)
        have HKD := Lib.hid (show q.kind = 1 ∨ q.kind = 2 from Or.inr e)
        clear e hvv hvc
        have c_v := fun j => cell_of_row _ _ j _ _ _ (hB5.get 0 rfl)
        have z_v := hB5.lt 0 rfl
        have c_c := fun j => cell_of_row _ _ j _ _ _ (hB5.get 1 rfl)
        have z_c := hB5.lt 1 rfl
        have c_q := fun j => cell_of_row _ _ j _ _ _ (hB5.get 3 rfl)
        have z_q := hB5.lt 3 rfl
        go_wp2_with fail
        refine (HCV.out _ hB5.here.2.2).mono ?_
        rintro e w6 ⟨rfl, hb⟩
        have hB6 := hB5.next hb
        clear c_v z_v c_c z_c c_q z_q hb hB5 HCV b3 b4
        have c_v := fun j => cell_of_row _ _ j _ _ _ (hB6.get 0 rfl)
        have z_v := hB6.lt 0 rfl
        have f_v := fun j => frozen_of_row _ _ j _ _ (hB6.get 0 rfl)
        go_upto_region 15 with fail
        have hB7 := hB6.put 0 rfl vv
        clear c_v z_v f_v hB6
        generalize (w6.setCell _ _).setCell _ _ = w7 at *
        by_cases ec : vc = 0
        rotate_left
        · have b5 : (vc != 0) = true := by simpa using ec
          have HX := Lib.hid (Mt.err_ans (m := m) HHAS.out HKD.out HAT.out (by rw [HVC.out]; exact ec))
          rw [HVC.out] at HX
          have HEC := Lib.hid ec
          clear ec
          have c_r := fun j => cell_of_row _ _ j _ _ _ (hB7.get 2 rfl)
          have z_r := hB7.lt 2 rfl
          have f_r := fun j => frozen_of_row _ _ j _ _ (hB7.get 2 rfl)
          go_wp2_with fail
          have hE := hB7.put 2 rfl ⟨0, 0⟩
          clear c_r z_r f_r hB7
          generalize (w7.setCell _ _).setCell _ _ = wE at *
          have c_r := fun j => cell_of_row _ _ j _ _ _ (hE.get 2 rfl)
          have z_r := hE.lt 2 rfl
          refine bodyPost_ret (v := .tuple #[rV ⟨0, 0⟩, .int .i64 vc]) (by simp [results, Try.results108, go_sem, c_r, z_r]) rfl ?_
          exact MaskRes.no HX.out HEC.out ⟨⟨xs, (hE.imp (fun V q => q.1)).subl (List.Sublist.cons _ (List.Sublist.cons _ (List.Sublist.cons _ (List.Sublist.cons _ (List.Sublist.cons_cons _ (List.nil_sublist _))))))⟩, HWF.out⟩
        subst ec
        by_cases hfull : 2000 ≤ m.log.length
        · have b6 : decide ((2000 : Int) ≤ (m.log.length : Int)) = true := decide_eq_true (by omega)
          have HX := Lib.hid (Mt.err_many (m := m) HHAS.out HKD.out HAT.out HVC.out hfull)
          clear hfull
          have c_g := fun j => cell_of_row _ _ j _ _ _ (hB7.get 4 rfl)
          have z_g := hB7.lt 4 rfl
          have c_r := fun j => cell_of_row _ _ j _ _ _ (hB7.get 2 rfl)
          have z_r := hB7.lt 2 rfl
          have f_r := fun j => frozen_of_row _ _ j _ _ (hB7.get 2 rfl)
          go_wp2_with fail
          have hE := hB7.put 2 rfl ⟨0, 0⟩
          clear c_g z_g c_r z_r f_r hB7
          generalize (w7.setCell _ _).setCell _ _ = wE at *
          have c_r := fun j => cell_of_row _ _ j _ _ _ (hE.get 2 rfl)
          have z_r := hE.lt 2 rfl
          refine bodyPost_ret (v := .tuple #[rV ⟨0, 0⟩, .int .i64 4]) (by simp [results, Try.results108, go_sem, c_r, z_r]) rfl ?_
          exact MaskRes.no HX.out (by decide) ⟨⟨xs, (hE.imp (fun V q => q.1)).subl (List.Sublist.cons _ (List.Sublist.cons _ (List.Sublist.cons _ (List.Sublist.cons _ (List.Sublist.cons_cons _ (List.nil_sublist _))))))⟩, HWF.out⟩
        have b6 : decide ((2000 : Int) ≤ (m.log.length : Int)) = false := decide_eq_false (by omega)
        have HERR := Lib.hid (Mt.err_ok (m := m) HHAS.out HKD.out HAT.out HVC.out hfull)
        have HANS := Lib.hid (show m.ans q = vv by unfold Mt.ans; rw [HAT.out]; exact HVV.out)
        have HSTEP := Lib.hid (show m.step q = ⟨m.acs.set i a.more, m.log ++ [{ q with ans := vv }]⟩ by unfold Mt.step; rw [HAT.out, HQI.out, HANS.out])
        have HVW := Lib.hid (show vv.wf by rw [← HVV.out]; exact ansR_wf _ _ _)
        have HAS := (HOK.out.fit i a HAI.out).asked
        have HAS2 := ofL_le m.log (i : Int)
        have HW1 := Lib.hid (show a.asked + 1 ≤ 9223372036854775807 by omega)
        have HWR := Lib.hid (show IntKind.i64.wrap (a.asked + 1) = a.asked + 1 ∧ wrap64 (a.asked + 1) = a.asked + 1 from ⟨IntWalk.i64_in _ (by omega), IntWalk.wrap64_in _ (by omega)⟩)
        clear hfull HAS HAS2
        have HXL := Lib.hid (hB7.row 0 rfl).1
        have c_g := fun j => cell_of_row _ _ j _ _ _ (hB7.get 4 rfl)
        have z_g := hB7.lt 4 rfl
        have c_v := fun j => cell_of_row _ _ j _ _ _ (hB7.get 0 rfl)
        have z_v := hB7.lt 0 rfl
        have c_q := fun j => cell_of_row _ _ j _ _ _ (hB7.get 3 rfl)
        have z_q := hB7.lt 3 rfl
        have f_q := fun j => frozen_of_row _ _ j _ _ (hB7.get 3 rfl)
        go_upto_region 20 with fail
        have hB8 : Ms (fun V => Lay kAcU V m.acs xs ∧ AcCk a A c R d A' c' R' d' V) w [(gV, rB vv), (gC, cB A' c' R' d' a.told), (gR, rB ⟨0, 0⟩), (gQ, qB { q with ans := vv }), (g, .cells #[.slice (some ad) m.acs.length cp, .slice S m.log.length cs] 147)] [⟨.slice (some ad) m.acs.length cp, 116, 8, m.acs.length, xs⟩, ⟨.slice S m.log.length cs, 84, 8, m.log.length, lgV m.log⟩] ((w7.setCell ⟨gQ, 6, none⟩ (.int .i64 vv.n)).setCell ⟨gQ, 7, none⟩ (.int .i64 vv.d)) := (hB7.set 3 rfl 6 (.int .i64 vv.n)).set 3 rfl 7 (.int .i64 vv.d)
        clear c_g z_g c_v z_v c_q z_q f_q hB7
        generalize (w7.setCell _ _).setCell _ _ = w8 at *
        go_wp2_with fail
        refine wp_region_T (Bx w [(gQ, qB { q with ans := vv })]) 13 (by kernel_rfl) (by rfl) ((hB8.keep (List.Sublist.cons _ (List.Sublist.cons _ (List.Sublist.cons _ (List.Sublist.cons_cons _ (List.nil_sublist _)))))).drew) (fun wq17 hbq => ?_)
        have hB9 := hB8.next hbq
        clear hB8 hbq
        refine wpAnyT_go (Bx.grows _ _) (hB9.keep (List.Sublist.cons _ (List.Sublist.cons _ (List.Sublist.cons _ (List.Sublist.cons_cons _ (List.nil_sublist _)))))) [0, 1, 2, 3, 4, 6] 7 (by kernel_rfl) ?_
        apply Exists.intro
        refine ⟨fun G hG hN => ?_, ?_⟩
        · have c_q := fun (e : GE (Bx w [(gQ, qB { q with ans := vv })]) G) j => cell_of_row e.w _ j _ _ _ ((GE.h e).get 0 rfl)
          have z_q := fun (e : GE (Bx w [(gQ, qB { q with ans := vv })]) G) => (GE.h e).lt 0 rfl
          simp only [pickOps, List.getElem?_toArray, List.getElem?_cons_zero, List.getElem?_cons_succ]
          repeat (first | go_big_quiet_step (fail) | quiet_step (fail))
          exact wpQuiet_nil rfl
        refine wpAnyT_all (rs := [5, 7]) (by kernel_rfl) (by simp) (fun wa18 hwa18 hRwa18 i hi => ?_)
        have hB10 := hB9.next hwa18
        clear hB9 hwa18 hRwa18
        rcases List.mem_cons.1 hi with rfl | hi
        · refine wpOp_step rfl (fun Kc hKc => ?_)
          have c_g := fun j => cell_of_row _ _ j _ _ _ (hB10.get 4 rfl)
          have z_g := hB10.lt 4 rfl
          go_simp
          refine hKc _ _ ⟨(hB10.keep (List.Sublist.cons _ (List.Sublist.cons _ (List.Sublist.cons _ (List.Sublist.cons_cons _ (List.nil_sublist _)))))), ?_⟩
          clear hKc Kc
          clear c_g z_g
          refine wpAnyT_all (rs := [7]) (by kernel_rfl) (by simp) (fun wa19 hwa19 hRwa19 i hi => ?_)
          have hB11 := hB10.next hwa19
          clear hB10 hwa19 hRwa19
          obtain rfl := List.mem_singleton.1 hi
          refine wpOp_step rfl (fun Kc hKc => ?_)
          go_simp
          have hB12 := hB11.new (g := wa19.heap.size) rfl (.cells #[.int .i64 q.agent, .int .u8 q.kind, .int .i64 q.a.n, .int .i64 q.a.d, .int .i64 q.b.n, .int .i64 q.b.d, .int .i64 vv.n, .int .i64 vv.d] 84)
          refine hKc _ _ ⟨(hB12.keep (List.Sublist.cons _ (List.Sublist.cons _ (List.Sublist.cons _ (List.Sublist.cons _ (List.Sublist.cons_cons _ (List.nil_sublist _))))))), ?_⟩
          clear hKc Kc hB11
          generalize wa19.heap.size = gL at *
          generalize wa19.alloc _ = wb20 at *
          refine wpAnyT_all (rs := [8]) (by kernel_rfl) (by simp) (fun wa21 hwa21 hRwa21 i hi => ?_)
          have hB13 := hB12.next hwa21
          clear hB12 hwa21 hRwa21
          obtain rfl := List.mem_singleton.1 hi
          refine wpOp_step rfl (fun Kc hKc => ?_)
          refine step_append_any _ rfl (.tmp 100) (.tmp 102) 59 rfl w.heap.size 84 j0 (.agg #[.int .i64 0, .int .u8 0, .int .i64 0, .int .i64 0, .int .i64 0, .int .i64 0, .int .i64 0, .int .i64 0]) 8 64 Try.underlying59 hj0 hy0 hy1 hy2 rfl (by omega) (.slice S m.log.length cs) m.log.length (lgV m.log) rfl (hB13.row 1 rfl) _ (some ⟨gL, 0, none⟩) 1 1 [.int .i64 q.agent, .int .u8 q.kind, .int .i64 q.a.n, .int .i64 q.a.d, .int .i64 q.b.n, .int .i64 q.b.d, .int .i64 vv.n, .int .i64 vv.d] rfl (reads_lit (n := 1) (s := 8) (hB13.get 0 rfl) rfl) (by intro u hu; simp at hu; rcases hu with rfl | rfl | rfl | rfl | rfl | rfl | rfl | rfl <;> rfl) (by unfold maxLen; omega) (by omega) hB13.below.size ?_
          intro v8 wb22 hown hgr hat
          obtain ⟨S2, cs2, rfl, _, _⟩ := own_nil_len hown
          have hB14 := hB13.grow 1 rfl hgr hown hat
          refine hKc _ _ ⟨(hB14.keep (List.Sublist.cons _ (List.Sublist.cons _ (List.Sublist.cons _ (List.Sublist.cons _ (List.Sublist.cons_cons _ (List.nil_sublist _))))))), ?_⟩
          clear hKc Kc hB13 hown hgr hat
          refine wpAnyT_go (Bx.grows _ _) (hB14.keep (List.Sublist.cons _ (List.Sublist.cons _ (List.Sublist.cons _ (List.Sublist.cons _ (List.Sublist.cons_cons _ (List.nil_sublist _))))))) [9, 10, 11] 1 (by kernel_rfl) ?_
          apply Exists.intro
          refine ⟨fun G hG hN => ?_, ?_⟩
          · have c_q := fun (e : GE (Bx w [(gQ, qB { q with ans := vv })]) G) j => cell_of_row e.w _ j _ _ _ ((GE.h e).get 0 rfl)
            have z_q := fun (e : GE (Bx w [(gQ, qB { q with ans := vv })]) G) => (GE.h e).lt 0 rfl
            simp only [pickOps, List.getElem?_toArray, List.getElem?_cons_zero, List.getElem?_cons_succ]
            repeat (first | go_big_quiet_step (fail) | quiet_step (fail))
            exact wpQuiet_nil rfl
          refine wpAnyT_all (rs := [12]) (by kernel_rfl) (by simp) (fun wa23 hwa23 hRwa23 i hi => ?_)
          have hB15 := hB14.next hwa23
          clear hB14 hwa23 hRwa23
          obtain rfl := List.mem_singleton.1 hi
          refine wpOp_step rfl (fun Kc hKc => ?_)
          have c_g := fun j => cell_of_row _ _ j _ _ _ (hB15.get 5 rfl)
          have z_g := hB15.lt 5 rfl
          have f_g := fun j => frozen_of_row _ _ j _ _ (hB15.get 5 rfl)
          go_simp
          have hB16 := hB15.set 5 rfl 1 (.slice S2 (m.log.length + 1) cs2)
          refine hKc _ _ ⟨(hB16.keep (List.Sublist.cons _ (List.Sublist.cons _ (List.Sublist.cons _ (List.Sublist.cons _ (List.Sublist.cons_cons _ (List.nil_sublist _))))))), ?_⟩
          clear c_g z_g f_g hKc Kc hB15
          generalize wa23.setCell _ _ = wb24 at *
          refine wpAnyT_done (by kernel_rfl) (fun wd25 hwd25 hRwd25 => ?_) _
          refine NoPanic.normal ?_
          have hB17 := hB16.next hwd25
          clear hB16 hwd25 hRwd25
          obtain ⟨⟨c0, c1, c2, c3, c4, c5, c6, c7⟩, hbA, fA⟩ := HAC.out _ _ _ _ hB17
          have f1 : (ad.add (i * 8)).block < wd25.heap.size := by rw [block_add]; exact hbA
          have wr1 := HWR.out.1
          have wr2 := HWR.out.2
          go_upto_region 22 with fail
          obtain rfl := HAD.out
          rw [addr_row (g := gA) (i := i) (j := 7) (by decide)]
          have hB18 := hB17.setRow 0 rfl (i * 8 + 7) (.int .i64 (a.asked + 1))
          clear hB17 c0 c1 c2 c3 c4 c5 c6 c7 hbA fA f1 wr1 wr2
          generalize wd25.setCell _ _ = w18 at *
          have c_v := fun j => cell_of_row _ _ j _ _ _ (hB18.get 1 rfl)
          have z_v := hB18.lt 1 rfl
          have c_r := fun j => cell_of_row _ _ j _ _ _ (hB18.get 3 rfl)
          have z_r := hB18.lt 3 rfl
          have f_r := fun j => frozen_of_row _ _ j _ _ (hB18.get 3 rfl)
          have n_vr := hB18.mx.ne 1 3 rfl rfl (by decide)
          simp only at n_vr
          go_wp2_with fail
          have hE := hB18.put 3 rfl vv
          clear c_v z_v c_r z_r f_r hB18 n_vr
          generalize (w18.setCell _ _).setCell _ _ = wE at *
          have c_r := fun j => cell_of_row _ _ j _ _ _ (hE.get 3 rfl)
          have z_r := hE.lt 3 rfl
          refine bodyPost_ret (v := .tuple #[rV vv, .int .i64 0]) (by simp [results, Try.results108, go_sem, c_r, z_r]) rfl ?_
          have hF : Ms (fun V => Lay kAcU V (m.acs.set i a.more) (xs.set (i * 8 + 7) (.int .i64 (a.asked + 1)))) w [(g, .cells #[.slice (some ⟨gA, 0, none⟩) m.acs.length cp, .slice S2 (m.log.length + 1) cs2] 147)] [⟨.slice (some ⟨gA, 0, none⟩) m.acs.length cp, 116, 8, m.acs.length, xs.set (i * 8 + 7) (.int .i64 (a.asked + 1))⟩, ⟨.slice S2 (m.log.length + 1) cs2, 84, 8, m.log.length + 1, lgV m.log ++ [.int .i64 q.agent, .int .u8 q.kind, .int .i64 q.a.n, .int .i64 q.a.d, .int .i64 q.b.n, .int .i64 q.b.d, .int .i64 vv.n, .int .i64 vv.d]⟩] wE := (hE.imp (fun V k => k.1.more HXL.out HAI.out HW1.out)).subl (List.Sublist.cons _ (List.Sublist.cons _ (List.Sublist.cons _ (List.Sublist.cons _ (List.Sublist.cons _ (List.Sublist.cons_cons _ (List.nil_sublist _)))))))
          refine MaskRes.yes HERR.out HANS.out (va := .slice (some ⟨gA, 0, none⟩) m.acs.length cp) (vl := .slice S2 (m.log.length + 1) cs2) ?_
          rw [HSTEP.out]
          refine ⟨⟨xs.set (i * 8 + 7) (.int .i64 (a.asked + 1)), ?_⟩, fun p hp => ?_⟩
          · show Ms _ w _ [⟨.slice (some ⟨gA, 0, none⟩) m.acs.length cp, 116, 8, (m.acs.set i a.more).length, _⟩, ⟨.slice S2 (m.log.length + 1) cs2, 84, 8, (m.log ++ [{ q with ans := vv }]).length, lgV (m.log ++ [{ q with ans := vv }])⟩] wE
            rw [List.length_set, List.length_append, ← lgV_push]
            exact hF
          · rcases List.mem_append.1 hp with u | u
            · exact HWF.out p u
            · obtain rfl := List.mem_singleton.1 u
              exact qy_wf HQ.out HVW.out
        · obtain rfl := List.mem_singleton.1 hi
          refine wpOp_step rfl (fun Kc hKc => ?_)
          go_simp
          have hB11 := hB10.new (g := wa18.heap.size) rfl (.cells #[.int .i64 q.agent, .int .u8 q.kind, .int .i64 q.a.n, .int .i64 q.a.d, .int .i64 q.b.n, .int .i64 q.b.d, .int .i64 vv.n, .int .i64 vv.d] 84)
          refine hKc _ _ ⟨(hB11.keep (List.Sublist.cons _ (List.Sublist.cons _ (List.Sublist.cons _ (List.Sublist.cons _ (List.Sublist.cons_cons _ (List.nil_sublist _))))))), ?_⟩
          clear hKc Kc hB10
          generalize wa18.heap.size = gL at *
          generalize wa18.alloc _ = wb26 at *
          refine wpAnyT_all (rs := [5]) (by kernel_rfl) (by simp) (fun wa27 hwa27 hRwa27 i hi => ?_)
          have hB12 := hB11.next hwa27
          clear hB11 hwa27 hRwa27
          obtain rfl := List.mem_singleton.1 hi
          refine wpOp_step rfl (fun Kc hKc => ?_)
          have c_g := fun j => cell_of_row _ _ j _ _ _ (hB12.get 5 rfl)
          have z_g := hB12.lt 5 rfl
          go_simp
          refine hKc _ _ ⟨(hB12.keep (List.Sublist.cons _ (List.Sublist.cons _ (List.Sublist.cons _ (List.Sublist.cons _ (List.Sublist.cons_cons _ (List.nil_sublist _))))))), ?_⟩
          clear hKc Kc
          clear c_g z_g
          refine wpAnyT_all (rs := [8]) (by kernel_rfl) (by simp) (fun wa28 hwa28 hRwa28 i hi => ?_)
          have hB13 := hB12.next hwa28
          clear hB12 hwa28 hRwa28
          obtain rfl := List.mem_singleton.1 hi
          refine wpOp_step rfl (fun Kc hKc => ?_)
          refine step_append_any _ rfl (.tmp 100) (.tmp 102) 59 rfl w.heap.size 84 j0 (.agg #[.int .i64 0, .int .u8 0, .int .i64 0, .int .i64 0, .int .i64 0, .int .i64 0, .int .i64 0, .int .i64 0]) 8 64 Try.underlying59 hj0 hy0 hy1 hy2 rfl (by omega) (.slice S m.log.length cs) m.log.length (lgV m.log) rfl (hB13.row 1 rfl) _ (some ⟨gL, 0, none⟩) 1 1 [.int .i64 q.agent, .int .u8 q.kind, .int .i64 q.a.n, .int .i64 q.a.d, .int .i64 q.b.n, .int .i64 q.b.d, .int .i64 vv.n, .int .i64 vv.d] rfl (reads_lit (n := 1) (s := 8) (hB13.get 0 rfl) rfl) (by intro u hu; simp at hu; rcases hu with rfl | rfl | rfl | rfl | rfl | rfl | rfl | rfl <;> rfl) (by unfold maxLen; omega) (by omega) hB13.below.size ?_
          intro v8 wb29 hown hgr hat
          obtain ⟨S2, cs2, rfl, _, _⟩ := own_nil_len hown
          have hB14 := hB13.grow 1 rfl hgr hown hat
          refine hKc _ _ ⟨(hB14.keep (List.Sublist.cons _ (List.Sublist.cons _ (List.Sublist.cons _ (List.Sublist.cons _ (List.Sublist.cons_cons _ (List.nil_sublist _))))))), ?_⟩
          clear hKc Kc hB13 hown hgr hat
          refine wpAnyT_go (Bx.grows _ _) (hB14.keep (List.Sublist.cons _ (List.Sublist.cons _ (List.Sublist.cons _ (List.Sublist.cons _ (List.Sublist.cons_cons _ (List.nil_sublist _))))))) [9, 10, 11] 1 (by kernel_rfl) ?_
          apply Exists.intro
          refine ⟨fun G hG hN => ?_, ?_⟩
          · have c_q := fun (e : GE (Bx w [(gQ, qB { q with ans := vv })]) G) j => cell_of_row e.w _ j _ _ _ ((GE.h e).get 0 rfl)
            have z_q := fun (e : GE (Bx w [(gQ, qB { q with ans := vv })]) G) => (GE.h e).lt 0 rfl
            simp only [pickOps, List.getElem?_toArray, List.getElem?_cons_zero, List.getElem?_cons_succ]
            repeat (first | go_big_quiet_step (fail) | quiet_step (fail))
            exact wpQuiet_nil rfl
          refine wpAnyT_all (rs := [12]) (by kernel_rfl) (by simp) (fun wa30 hwa30 hRwa30 i hi => ?_)
          have hB15 := hB14.next hwa30
          clear hB14 hwa30 hRwa30
          obtain rfl := List.mem_singleton.1 hi
          refine wpOp_step rfl (fun Kc hKc => ?_)
          have c_g := fun j => cell_of_row _ _ j _ _ _ (hB15.get 5 rfl)
          have z_g := hB15.lt 5 rfl
          have f_g := fun j => frozen_of_row _ _ j _ _ (hB15.get 5 rfl)
          go_simp
          have hB16 := hB15.set 5 rfl 1 (.slice S2 (m.log.length + 1) cs2)
          refine hKc _ _ ⟨(hB16.keep (List.Sublist.cons _ (List.Sublist.cons _ (List.Sublist.cons _ (List.Sublist.cons _ (List.Sublist.cons_cons _ (List.nil_sublist _))))))), ?_⟩
          clear c_g z_g f_g hKc Kc hB15
          generalize wa30.setCell _ _ = wb31 at *
          refine wpAnyT_done (by kernel_rfl) (fun wd32 hwd32 hRwd32 => ?_) _
          refine NoPanic.normal ?_
          have hB17 := hB16.next hwd32
          clear hB16 hwd32 hRwd32
          obtain ⟨⟨c0, c1, c2, c3, c4, c5, c6, c7⟩, hbA, fA⟩ := HAC.out _ _ _ _ hB17
          have f1 : (ad.add (i * 8)).block < wd32.heap.size := by rw [block_add]; exact hbA
          have wr1 := HWR.out.1
          have wr2 := HWR.out.2
          go_upto_region 22 with fail
          obtain rfl := HAD.out
          rw [addr_row (g := gA) (i := i) (j := 7) (by decide)]
          have hB18 := hB17.setRow 0 rfl (i * 8 + 7) (.int .i64 (a.asked + 1))
          clear hB17 c0 c1 c2 c3 c4 c5 c6 c7 hbA fA f1 wr1 wr2
          generalize wd32.setCell _ _ = w18 at *
          have c_v := fun j => cell_of_row _ _ j _ _ _ (hB18.get 1 rfl)
          have z_v := hB18.lt 1 rfl
          have c_r := fun j => cell_of_row _ _ j _ _ _ (hB18.get 3 rfl)
          have z_r := hB18.lt 3 rfl
          have f_r := fun j => frozen_of_row _ _ j _ _ (hB18.get 3 rfl)
          have n_vr := hB18.mx.ne 1 3 rfl rfl (by decide)
          simp only at n_vr
          go_wp2_with fail
          have hE := hB18.put 3 rfl vv
          clear c_v z_v c_r z_r f_r hB18 n_vr
          generalize (w18.setCell _ _).setCell _ _ = wE at *
          have c_r := fun j => cell_of_row _ _ j _ _ _ (hE.get 3 rfl)
          have z_r := hE.lt 3 rfl
          refine bodyPost_ret (v := .tuple #[rV vv, .int .i64 0]) (by simp [results, Try.results108, go_sem, c_r, z_r]) rfl ?_
          have hF : Ms (fun V => Lay kAcU V (m.acs.set i a.more) (xs.set (i * 8 + 7) (.int .i64 (a.asked + 1)))) w [(g, .cells #[.slice (some ⟨gA, 0, none⟩) m.acs.length cp, .slice S2 (m.log.length + 1) cs2] 147)] [⟨.slice (some ⟨gA, 0, none⟩) m.acs.length cp, 116, 8, m.acs.length, xs.set (i * 8 + 7) (.int .i64 (a.asked + 1))⟩, ⟨.slice S2 (m.log.length + 1) cs2, 84, 8, m.log.length + 1, lgV m.log ++ [.int .i64 q.agent, .int .u8 q.kind, .int .i64 q.a.n, .int .i64 q.a.d, .int .i64 q.b.n, .int .i64 q.b.d, .int .i64 vv.n, .int .i64 vv.d]⟩] wE := (hE.imp (fun V k => k.1.more HXL.out HAI.out HW1.out)).subl (List.Sublist.cons _ (List.Sublist.cons _ (List.Sublist.cons _ (List.Sublist.cons _ (List.Sublist.cons _ (List.Sublist.cons_cons _ (List.nil_sublist _)))))))
          refine MaskRes.yes HERR.out HANS.out (va := .slice (some ⟨gA, 0, none⟩) m.acs.length cp) (vl := .slice S2 (m.log.length + 1) cs2) ?_
          rw [HSTEP.out]
          refine ⟨⟨xs.set (i * 8 + 7) (.int .i64 (a.asked + 1)), ?_⟩, fun p hp => ?_⟩
          · show Ms _ w _ [⟨.slice (some ⟨gA, 0, none⟩) m.acs.length cp, 116, 8, (m.acs.set i a.more).length, _⟩, ⟨.slice S2 (m.log.length + 1) cs2, 84, 8, (m.log ++ [{ q with ans := vv }]).length, lgV (m.log ++ [{ q with ans := vv }])⟩] wE
            rw [List.length_set, List.length_append, ← lgV_push]
            exact hF
          · rcases List.mem_append.1 hp with u | u
            · exact HWF.out p u
            · obtain rfl := List.mem_singleton.1 u
              exact qy_wf HQ.out HVW.out
      have b3 : (q.kind == 1) = false := by simpa using e
      have b4 : (q.kind == 2) = false := by simpa using e2
      have HX := Lib.hid (Mt.err_kind (m := m) e e2)
      clear e e2
      have c_q := fun j => cell_of_row _ _ j _ _ _ (hB5.get 3 rfl)
      have z_q := hB5.lt 3 rfl
      have c_r := fun j => cell_of_row _ _ j _ _ _ (hB5.get 2 rfl)
      have z_r := hB5.lt 2 rfl
      have f_r := fun j => frozen_of_row _ _ j _ _ (hB5.get 2 rfl)
      go_wp2_with fail
      have hE := hB5.put 2 rfl ⟨0, 0⟩
      clear c_q z_q c_r z_r f_r hB5
      generalize (w5.setCell _ _).setCell _ _ = wE at *
      have c_r := fun j => cell_of_row _ _ j _ _ _ (hE.get 2 rfl)
      have z_r := hE.lt 2 rfl
      refine bodyPost_ret (v := .tuple #[rV ⟨0, 0⟩, .int .i64 2]) (by simp [results, Try.results108, go_sem, c_r, z_r]) rfl ?_
      exact MaskRes.no HX.out (by decide) ⟨⟨xs, (hE.imp (fun V q => q.1)).subl (List.Sublist.cons _ (List.Sublist.cons _ (List.Sublist.cons _ (List.Sublist.cons _ (List.Sublist.cons_cons _ (List.nil_sublist _))))))⟩, HWF.out⟩
    | false =>
      have HNK := Lib.hid (show a.now = a.own from HNOW.out.trans (if_neg (by decide)))
      clear HNOW
      go_upto_region 8 with fail
      have hB4 := hMc.new rfl (rB ⟨0, 0⟩)
      clear hMc
      generalize wc.heap.size = gV at *
      generalize wc.alloc _ = w4 at *
      by_cases e : q.kind = 1
      · have HE := Lib.hid e
        have b3 : (q.kind == 1) = true := by rw [e]; rfl

        obtain ⟨vv, hvv⟩ : ∃ x, x = a.own.val q.a q.b := ⟨_, rfl⟩
        obtain ⟨vc, hvc⟩ : ∃ x, x = a.own.valC q.a q.b := ⟨_, rfl⟩
        have HCV := Lib.hid (fun (V : World) (hV : CIn V.heap.size V A c R d a.own) => show Calls Try.prog 33 #[cV A c R d a.own, rV q.a, rV q.b] V fun e w' => e = .returned (.tuple #[rV vv, .int .i64 vc]) ∧ Below V.heap.size V w' by
          rw [hvv, hvc]; exact cvalue_any a.own A c R d q.a q.b HQ.out.a HQ.out.b V hV)
        have HVC := Lib.hid (show ansC a.now q.kind q.a q.b = vc by rw [HNK.out, hvc, e]; rfl)
        have HVV := Lib.hid (show ansR a.now q.kind q.a q.b = vv by rw [HNK.out, hvv, e]; rfl)
        have HKD := Lib.hid (show q.kind = 1 ∨ q.kind = 2 from Or.inl e)
        clear e hvv hvc
        have c_v := fun j => cell_of_row _ _ j _ _ _ (hB4.get 0 rfl)
        have z_v := hB4.lt 0 rfl
        have c_c := fun j => cell_of_row _ _ j _ _ _ (hB4.get 1 rfl)
        have z_c := hB4.lt 1 rfl
        have c_q := fun j => cell_of_row _ _ j _ _ _ (hB4.get 3 rfl)
        have z_q := hB4.lt 3 rfl
        go_wp2_with fail
        refine (HCV.out _ hB4.here.2.1).mono ?_
        rintro e w5 ⟨rfl, hb⟩
        have hB5 := hB4.next hb
        clear c_v z_v c_c z_c c_q z_q hb hB4 HCV b3
        have c_v := fun j => cell_of_row _ _ j _ _ _ (hB5.get 0 rfl)
        have z_v := hB5.lt 0 rfl
        have f_v := fun j => frozen_of_row _ _ j _ _ (hB5.get 0 rfl)
        go_upto_region 15 with fail
        have hB6 := hB5.put 0 rfl vv
        clear c_v z_v f_v hB5
        generalize (w5.setCell _ _).setCell _ _ = w6 at *
        by_cases ec : vc = 0
        rotate_left
        · have b5 : (vc != 0) = true := by simpa using ec
          have HX := Lib.hid (Mt.err_ans (m := m) HHAS.out HKD.out HAT.out (by rw [HVC.out]; exact ec))
          rw [HVC.out] at HX
          have HEC := Lib.hid ec
          clear ec
          have c_r := fun j => cell_of_row _ _ j _ _ _ (hB6.get 2 rfl)
          have z_r := hB6.lt 2 rfl
          have f_r := fun j => frozen_of_row _ _ j _ _ (hB6.get 2 rfl)
          go_wp2_with fail
          have hE := hB6.put 2 rfl ⟨0, 0⟩
          clear c_r z_r f_r hB6
          generalize (w6.setCell _ _).setCell _ _ = wE at *
          have c_r := fun j => cell_of_row _ _ j _ _ _ (hE.get 2 rfl)
          have z_r := hE.lt 2 rfl
          refine bodyPost_ret (v := .tuple #[rV ⟨0, 0⟩, .int .i64 vc]) (by simp [results, Try.results108, go_sem, c_r, z_r]) rfl ?_
          exact MaskRes.no HX.out HEC.out ⟨⟨xs, (hE.imp (fun V q => q.1)).subl (List.Sublist.cons _ (List.Sublist.cons _ (List.Sublist.cons _ (List.Sublist.cons _ (List.Sublist.cons_cons _ (List.nil_sublist _))))))⟩, HWF.out⟩
        subst ec
        by_cases hfull : 2000 ≤ m.log.length
        · have b6 : decide ((2000 : Int) ≤ (m.log.length : Int)) = true := decide_eq_true (by omega)
          have HX := Lib.hid (Mt.err_many (m := m) HHAS.out HKD.out HAT.out HVC.out hfull)
          clear hfull
          have c_g := fun j => cell_of_row _ _ j _ _ _ (hB6.get 4 rfl)
          have z_g := hB6.lt 4 rfl
          have c_r := fun j => cell_of_row _ _ j _ _ _ (hB6.get 2 rfl)
          have z_r := hB6.lt 2 rfl
          have f_r := fun j => frozen_of_row _ _ j _ _ (hB6.get 2 rfl)
          go_wp2_with fail
          have hE := hB6.put 2 rfl ⟨0, 0⟩
          clear c_g z_g c_r z_r f_r hB6
          generalize (w6.setCell _ _).setCell _ _ = wE at *
          have c_r := fun j => cell_of_row _ _ j _ _ _ (hE.get 2 rfl)
          have z_r := hE.lt 2 rfl
          refine bodyPost_ret (v := .tuple #[rV ⟨0, 0⟩, .int .i64 4]) (by simp [results, Try.results108, go_sem, c_r, z_r]) rfl ?_
          exact MaskRes.no HX.out (by decide) ⟨⟨xs, (hE.imp (fun V q => q.1)).subl (List.Sublist.cons _ (List.Sublist.cons _ (List.Sublist.cons _ (List.Sublist.cons _ (List.Sublist.cons_cons _ (List.nil_sublist _))))))⟩, HWF.out⟩
        have b6 : decide ((2000 : Int) ≤ (m.log.length : Int)) = false := decide_eq_false (by omega)
        have HERR := Lib.hid (Mt.err_ok (m := m) HHAS.out HKD.out HAT.out HVC.out hfull)
        have HANS := Lib.hid (show m.ans q = vv by unfold Mt.ans; rw [HAT.out]; exact HVV.out)
        have HSTEP := Lib.hid (show m.step q = ⟨m.acs.set i a.more, m.log ++ [{ q with ans := vv }]⟩ by unfold Mt.step; rw [HAT.out, HQI.out, HANS.out])
        have HVW := Lib.hid (show vv.wf by rw [← HVV.out]; exact ansR_wf _ _ _)
        have HAS := (HOK.out.fit i a HAI.out).asked
        have HAS2 := ofL_le m.log (i : Int)
        have HW1 := Lib.hid (show a.asked + 1 ≤ 9223372036854775807 by omega)
        have HWR := Lib.hid (show IntKind.i64.wrap (a.asked + 1) = a.asked + 1 ∧ wrap64 (a.asked + 1) = a.asked + 1 from ⟨IntWalk.i64_in _ (by omega), IntWalk.wrap64_in _ (by omega)⟩)
        clear hfull HAS HAS2
        have HXL := Lib.hid (hB6.row 0 rfl).1
        have c_g := fun j => cell_of_row _ _ j _ _ _ (hB6.get 4 rfl)
        have z_g := hB6.lt 4 rfl
        have c_v := fun j => cell_of_row _ _ j _ _ _ (hB6.get 0 rfl)
        have z_v := hB6.lt 0 rfl
        have c_q := fun j => cell_of_row _ _ j _ _ _ (hB6.get 3 rfl)
        have z_q := hB6.lt 3 rfl
        have f_q := fun j => frozen_of_row _ _ j _ _ (hB6.get 3 rfl)
        go_upto_region 20 with fail
        have hB7 : Ms (fun V => Lay kAcU V m.acs xs ∧ AcCk a A c R d A' c' R' d' V) w [(gV, rB vv), (gC, cB A c R d a.own), (gR, rB ⟨0, 0⟩), (gQ, qB { q with ans := vv }), (g, .cells #[.slice (some ad) m.acs.length cp, .slice S m.log.length cs] 147)] [⟨.slice (some ad) m.acs.length cp, 116, 8, m.acs.length, xs⟩, ⟨.slice S m.log.length cs, 84, 8, m.log.length, lgV m.log⟩] ((w6.setCell ⟨gQ, 6, none⟩ (.int .i64 vv.n)).setCell ⟨gQ, 7, none⟩ (.int .i64 vv.d)) := (hB6.set 3 rfl 6 (.int .i64 vv.n)).set 3 rfl 7 (.int .i64 vv.d)
        clear c_g z_g c_v z_v c_q z_q f_q hB6
        generalize (w6.setCell _ _).setCell _ _ = w7 at *
        go_wp2_with fail
        refine wp_region_T (Bx w [(gQ, qB { q with ans := vv })]) 13 (by kernel_rfl) (by rfl) ((hB7.keep (List.Sublist.cons _ (List.Sublist.cons _ (List.Sublist.cons _ (List.Sublist.cons_cons _ (List.nil_sublist _)))))).drew) (fun wq33 hbq => ?_)
        have hB8 := hB7.next hbq
        clear hB7 hbq
        refine wpAnyT_go (Bx.grows _ _) (hB8.keep (List.Sublist.cons _ (List.Sublist.cons _ (List.Sublist.cons _ (List.Sublist.cons_cons _ (List.nil_sublist _)))))) [0, 1, 2, 3, 4, 6] 7 (by kernel_rfl) ?_
        apply Exists.intro
        refine ⟨fun G hG hN => ?_, ?_⟩
        · have c_q := fun (e : GE (Bx w [(gQ, qB { q with ans := vv })]) G) j => cell_of_row e.w _ j _ _ _ ((GE.h e).get 0 rfl)
          have z_q := fun (e : GE (Bx w [(gQ, qB { q with ans := vv })]) G) => (GE.h e).lt 0 rfl
          simp only [pickOps, List.getElem?_toArray, List.getElem?_cons_zero, List.getElem?_cons_succ]
          repeat (first | go_big_quiet_step (fail) | quiet_step (fail))
          exact wpQuiet_nil rfl
        refine wpAnyT_all (rs := [5, 7]) (by kernel_rfl) (by simp) (fun wa34 hwa34 hRwa34 i hi => ?_)
        have hB9 := hB8.next hwa34
        clear hB8 hwa34 hRwa34
        rcases List.mem_cons.1 hi with rfl | hi
        · refine wpOp_step rfl (fun Kc hKc => ?_)
          have c_g := fun j => cell_of_row _ _ j _ _ _ (hB9.get 4 rfl)
          have z_g := hB9.lt 4 rfl
          go_simp
          refine hKc _ _ ⟨(hB9.keep (List.Sublist.cons _ (List.Sublist.cons _ (List.Sublist.cons _ (List.Sublist.cons_cons _ (List.nil_sublist _)))))), ?_⟩
          clear hKc Kc
          clear c_g z_g
          refine wpAnyT_all (rs := [7]) (by kernel_rfl) (by simp) (fun wa35 hwa35 hRwa35 i hi => ?_)
          have hB10 := hB9.next hwa35
          clear hB9 hwa35 hRwa35
          obtain rfl := List.mem_singleton.1 hi
          refine wpOp_step rfl (fun Kc hKc => ?_)
          go_simp
          have hB11 := hB10.new (g := wa35.heap.size) rfl (.cells #[.int .i64 q.agent, .int .u8 q.kind, .int .i64 q.a.n, .int .i64 q.a.d, .int .i64 q.b.n, .int .i64 q.b.d, .int .i64 vv.n, .int .i64 vv.d] 84)
          refine hKc _ _ ⟨(hB11.keep (List.Sublist.cons _ (List.Sublist.cons _ (List.Sublist.cons _ (List.Sublist.cons _ (List.Sublist.cons_cons _ (List.nil_sublist _))))))), ?_⟩
          clear hKc Kc hB10
          generalize wa35.heap.size = gL at *
          generalize wa35.alloc _ = wb36 at *
          refine wpAnyT_all (rs := [8]) (by kernel_rfl) (by simp) (fun wa37 hwa37 hRwa37 i hi => ?_)
          have hB12 := hB11.next hwa37
          clear hB11 hwa37 hRwa37
          obtain rfl := List.mem_singleton.1 hi
          refine wpOp_step rfl (fun Kc hKc => ?_)
          refine step_append_any _ rfl (.tmp 100) (.tmp 102) 59 rfl w.heap.size 84 j0 (.agg #[.int .i64 0, .int .u8 0, .int .i64 0, .int .i64 0, .int .i64 0, .int .i64 0, .int .i64 0, .int .i64 0]) 8 64 Try.underlying59 hj0 hy0 hy1 hy2 rfl (by omega) (.slice S m.log.length cs) m.log.length (lgV m.log) rfl (hB12.row 1 rfl) _ (some ⟨gL, 0, none⟩) 1 1 [.int .i64 q.agent, .int .u8 q.kind, .int .i64 q.a.n, .int .i64 q.a.d, .int .i64 q.b.n, .int .i64 q.b.d, .int .i64 vv.n, .int .i64 vv.d] rfl (reads_lit (n := 1) (s := 8) (hB12.get 0 rfl) rfl) (by intro u hu; simp at hu; rcases hu with rfl | rfl | rfl | rfl | rfl | rfl | rfl | rfl <;> rfl) (by unfold maxLen; omega) (by omega) hB12.below.size ?_
          intro v8 wb38 hown hgr hat
          obtain ⟨S2, cs2, rfl, _, _⟩ := own_nil_len hown
          have hB13 := hB12.grow 1 rfl hgr hown hat
          refine hKc _ _ ⟨(hB13.keep (List.Sublist.cons _ (List.Sublist.cons _ (List.Sublist.cons _ (List.Sublist.cons _ (List.Sublist.cons_cons _ (List.nil_sublist _))))))), ?_⟩
          clear hKc Kc hB12 hown hgr hat
          refine wpAnyT_go (Bx.grows _ _) (hB13.keep (List.Sublist.cons _ (List.Sublist.cons _ (List.Sublist.cons _ (List.Sublist.cons _ (List.Sublist.cons_cons _ (List.nil_sublist _))))))) [9, 10, 11] 1 (by kernel_rfl) ?_
          apply Exists.intro
          refine ⟨fun G hG hN => ?_, ?_⟩
          · have c_q := fun (e : GE (Bx w [(gQ, qB { q with ans := vv })]) G) j => cell_of_row e.w _ j _ _ _ ((GE.h e).get 0 rfl)
            have z_q := fun (e : GE (Bx w [(gQ, qB { q with ans := vv })]) G) => (GE.h e).lt 0 rfl
            simp only [pickOps, List.getElem?_toArray, List.getElem?_cons_zero, List.getElem?_cons_succ]
            repeat (first | go_big_quiet_step (fail) | quiet_step (fail))
            exact wpQuiet_nil rfl
          refine wpAnyT_all (rs := [12]) (by kernel_rfl) (by simp) (fun wa39 hwa39 hRwa39 i hi => ?_)
          have hB14 := hB13.next hwa39
          clear hB13 hwa39 hRwa39
          obtain rfl := List.mem_singleton.1 hi
          refine wpOp_step rfl (fun Kc hKc => ?_)
          have c_g := fun j => cell_of_row _ _ j _ _ _ (hB14.get 5 rfl)
          have z_g := hB14.lt 5 rfl
          have f_g := fun j => frozen_of_row _ _ j _ _ (hB14.get 5 rfl)
          go_simp
          have hB15 := hB14.set 5 rfl 1 (.slice S2 (m.log.length + 1) cs2)
          refine hKc _ _ ⟨(hB15.keep (List.Sublist.cons _ (List.Sublist.cons _ (List.Sublist.cons _ (List.Sublist.cons _ (List.Sublist.cons_cons _ (List.nil_sublist _))))))), ?_⟩
          clear c_g z_g f_g hKc Kc hB14
          generalize wa39.setCell _ _ = wb40 at *
          refine wpAnyT_done (by kernel_rfl) (fun wd41 hwd41 hRwd41 => ?_) _
          refine NoPanic.normal ?_
          have hB16 := hB15.next hwd41
          clear hB15 hwd41 hRwd41
          obtain ⟨⟨c0, c1, c2, c3, c4, c5, c6, c7⟩, hbA, fA⟩ := HAC.out _ _ _ _ hB16
          have f1 : (ad.add (i * 8)).block < wd41.heap.size := by rw [block_add]; exact hbA
          have wr1 := HWR.out.1
          have wr2 := HWR.out.2
          go_upto_region 22 with fail
          obtain rfl := HAD.out
          rw [addr_row (g := gA) (i := i) (j := 7) (by decide)]
          have hB17 := hB16.setRow 0 rfl (i * 8 + 7) (.int .i64 (a.asked + 1))
          clear hB16 c0 c1 c2 c3 c4 c5 c6 c7 hbA fA f1 wr1 wr2
          generalize wd41.setCell _ _ = w17 at *
          have c_v := fun j => cell_of_row _ _ j _ _ _ (hB17.get 1 rfl)
          have z_v := hB17.lt 1 rfl
          have c_r := fun j => cell_of_row _ _ j _ _ _ (hB17.get 3 rfl)
          have z_r := hB17.lt 3 rfl
          have f_r := fun j => frozen_of_row _ _ j _ _ (hB17.get 3 rfl)
          have n_vr := hB17.mx.ne 1 3 rfl rfl (by decide)
          simp only at n_vr
          go_wp2_with fail
          have hE := hB17.put 3 rfl vv
          clear c_v z_v c_r z_r f_r hB17 n_vr
          generalize (w17.setCell _ _).setCell _ _ = wE at *
          have c_r := fun j => cell_of_row _ _ j _ _ _ (hE.get 3 rfl)
          have z_r := hE.lt 3 rfl
          refine bodyPost_ret (v := .tuple #[rV vv, .int .i64 0]) (by simp [results, Try.results108, go_sem, c_r, z_r]) rfl ?_
          have hF : Ms (fun V => Lay kAcU V (m.acs.set i a.more) (xs.set (i * 8 + 7) (.int .i64 (a.asked + 1)))) w [(g, .cells #[.slice (some ⟨gA, 0, none⟩) m.acs.length cp, .slice S2 (m.log.length + 1) cs2] 147)] [⟨.slice (some ⟨gA, 0, none⟩) m.acs.length cp, 116, 8, m.acs.length, xs.set (i * 8 + 7) (.int .i64 (a.asked + 1))⟩, ⟨.slice S2 (m.log.length + 1) cs2, 84, 8, m.log.length + 1, lgV m.log ++ [.int .i64 q.agent, .int .u8 q.kind, .int .i64 q.a.n, .int .i64 q.a.d, .int .i64 q.b.n, .int .i64 q.b.d, .int .i64 vv.n, .int .i64 vv.d]⟩] wE := (hE.imp (fun V k => k.1.more HXL.out HAI.out HW1.out)).subl (List.Sublist.cons _ (List.Sublist.cons _ (List.Sublist.cons _ (List.Sublist.cons _ (List.Sublist.cons _ (List.Sublist.cons_cons _ (List.nil_sublist _)))))))
          refine MaskRes.yes HERR.out HANS.out (va := .slice (some ⟨gA, 0, none⟩) m.acs.length cp) (vl := .slice S2 (m.log.length + 1) cs2) ?_
          rw [HSTEP.out]
          refine ⟨⟨xs.set (i * 8 + 7) (.int .i64 (a.asked + 1)), ?_⟩, fun p hp => ?_⟩
          · show Ms _ w _ [⟨.slice (some ⟨gA, 0, none⟩) m.acs.length cp, 116, 8, (m.acs.set i a.more).length, _⟩, ⟨.slice S2 (m.log.length + 1) cs2, 84, 8, (m.log ++ [{ q with ans := vv }]).length, lgV (m.log ++ [{ q with ans := vv }])⟩] wE
            rw [List.length_set, List.length_append, ← lgV_push]
            exact hF
          · rcases List.mem_append.1 hp with u | u
            · exact HWF.out p u
            · obtain rfl := List.mem_singleton.1 u
              exact qy_wf HQ.out HVW.out
        · obtain rfl := List.mem_singleton.1 hi
          refine wpOp_step rfl (fun Kc hKc => ?_)
          go_simp
          have hB10 := hB9.new (g := wa34.heap.size) rfl (.cells #[.int .i64 q.agent, .int .u8 q.kind, .int .i64 q.a.n, .int .i64 q.a.d, .int .i64 q.b.n, .int .i64 q.b.d, .int .i64 vv.n, .int .i64 vv.d] 84)
          refine hKc _ _ ⟨(hB10.keep (List.Sublist.cons _ (List.Sublist.cons _ (List.Sublist.cons _ (List.Sublist.cons _ (List.Sublist.cons_cons _ (List.nil_sublist _))))))), ?_⟩
          clear hKc Kc hB9
          generalize wa34.heap.size = gL at *
          generalize wa34.alloc _ = wb42 at *
          refine wpAnyT_all (rs := [5]) (by kernel_rfl) (by simp) (fun wa43 hwa43 hRwa43 i hi => ?_)
          have hB11 := hB10.next hwa43
          clear hB10 hwa43 hRwa43
          obtain rfl := List.mem_singleton.1 hi
          refine wpOp_step rfl (fun Kc hKc => ?_)
          have c_g := fun j => cell_of_row _ _ j _ _ _ (hB11.get 5 rfl)
          have z_g := hB11.lt 5 rfl
          go_simp
          refine hKc _ _ ⟨(hB11.keep (List.Sublist.cons _ (List.Sublist.cons _ (List.Sublist.cons _ (List.Sublist.cons _ (List.Sublist.cons_cons _ (List.nil_sublist _))))))), ?_⟩
          clear hKc Kc
          clear c_g z_g
          refine wpAnyT_all (rs := [8]) (by kernel_rfl) (by simp) (fun wa44 hwa44 hRwa44 i hi => ?_)
          have hB12 := hB11.next hwa44
          clear hB11 hwa44 hRwa44
          obtain rfl := List.mem_singleton.1 hi
          refine wpOp_step rfl (fun Kc hKc => ?_)
          refine step_append_any _ rfl (.tmp 100) (.tmp 102) 59 rfl w.heap.size 84 j0 (.agg #[.int .i64 0, .int .u8 0, .int .i64 0, .int .i64 0, .int .i64 0, .int .i64 0, .int .i64 0, .int .i64 0]) 8 64 Try.underlying59 hj0 hy0 hy1 hy2 rfl (by omega) (.slice S m.log.length cs) m.log.length (lgV m.log) rfl (hB12.row 1 rfl) _ (some ⟨gL, 0, none⟩) 1 1 [.int .i64 q.agent, .int .u8 q.kind, .int .i64 q.a.n, .int .i64 q.a.d, .int .i64 q.b.n, .int .i64 q.b.d, .int .i64 vv.n, .int .i64 vv.d] rfl (reads_lit (n := 1) (s := 8) (hB12.get 0 rfl) rfl) (by intro u hu; simp at hu; rcases hu with rfl | rfl | rfl | rfl | rfl | rfl | rfl | rfl <;> rfl) (by unfold maxLen; omega) (by omega) hB12.below.size ?_
          intro v8 wb45 hown hgr hat
          obtain ⟨S2, cs2, rfl, _, _⟩ := own_nil_len hown
          have hB13 := hB12.grow 1 rfl hgr hown hat
          refine hKc _ _ ⟨(hB13.keep (List.Sublist.cons _ (List.Sublist.cons _ (List.Sublist.cons _ (List.Sublist.cons _ (List.Sublist.cons_cons _ (List.nil_sublist _))))))), ?_⟩
          clear hKc Kc hB12 hown hgr hat
          refine wpAnyT_go (Bx.grows _ _) (hB13.keep (List.Sublist.cons _ (List.Sublist.cons _ (List.Sublist.cons _ (List.Sublist.cons _ (List.Sublist.cons_cons _ (List.nil_sublist _))))))) [9, 10, 11] 1 (by kernel_rfl) ?_
          apply Exists.intro
          refine ⟨fun G hG hN => ?_, ?_⟩
          · have c_q := fun (e : GE (Bx w [(gQ, qB { q with ans := vv })]) G) j => cell_of_row e.w _ j _ _ _ ((GE.h e).get 0 rfl)
            have z_q := fun (e : GE (Bx w [(gQ, qB { q with ans := vv })]) G) => (GE.h e).lt 0 rfl
            simp only [pickOps, List.getElem?_toArray, List.getElem?_cons_zero, List.getElem?_cons_succ]
            repeat (first | go_big_quiet_step (fail) | quiet_step (fail))
            exact wpQuiet_nil rfl
          refine wpAnyT_all (rs := [12]) (by kernel_rfl) (by simp) (fun wa46 hwa46 hRwa46 i hi => ?_)
          have hB14 := hB13.next hwa46
          clear hB13 hwa46 hRwa46
          obtain rfl := List.mem_singleton.1 hi
          refine wpOp_step rfl (fun Kc hKc => ?_)
          have c_g := fun j => cell_of_row _ _ j _ _ _ (hB14.get 5 rfl)
          have z_g := hB14.lt 5 rfl
          have f_g := fun j => frozen_of_row _ _ j _ _ (hB14.get 5 rfl)
          go_simp
          have hB15 := hB14.set 5 rfl 1 (.slice S2 (m.log.length + 1) cs2)
          refine hKc _ _ ⟨(hB15.keep (List.Sublist.cons _ (List.Sublist.cons _ (List.Sublist.cons _ (List.Sublist.cons _ (List.Sublist.cons_cons _ (List.nil_sublist _))))))), ?_⟩
          clear c_g z_g f_g hKc Kc hB14
          generalize wa46.setCell _ _ = wb47 at *
          refine wpAnyT_done (by kernel_rfl) (fun wd48 hwd48 hRwd48 => ?_) _
          refine NoPanic.normal ?_
          have hB16 := hB15.next hwd48
          clear hB15 hwd48 hRwd48
          obtain ⟨⟨c0, c1, c2, c3, c4, c5, c6, c7⟩, hbA, fA⟩ := HAC.out _ _ _ _ hB16
          have f1 : (ad.add (i * 8)).block < wd48.heap.size := by rw [block_add]; exact hbA
          have wr1 := HWR.out.1
          have wr2 := HWR.out.2
          go_upto_region 22 with fail
          obtain rfl := HAD.out
          rw [addr_row (g := gA) (i := i) (j := 7) (by decide)]
          have hB17 := hB16.setRow 0 rfl (i * 8 + 7) (.int .i64 (a.asked + 1))
          clear hB16 c0 c1 c2 c3 c4 c5 c6 c7 hbA fA f1 wr1 wr2
          generalize wd48.setCell _ _ = w17 at *
          have c_v := fun j => cell_of_row _ _ j _ _ _ (hB17.get 1 rfl)
          have z_v := hB17.lt 1 rfl
          have c_r := fun j => cell_of_row _ _ j _ _ _ (hB17.get 3 rfl)
          have z_r := hB17.lt 3 rfl
          have f_r := fun j => frozen_of_row _ _ j _ _ (hB17.get 3 rfl)
          have n_vr := hB17.mx.ne 1 3 rfl rfl (by decide)
          simp only at n_vr
          go_wp2_with fail
          have hE := hB17.put 3 rfl vv
          clear c_v z_v c_r z_r f_r hB17 n_vr
          generalize (w17.setCell _ _).setCell _ _ = wE at *
          have c_r := fun j => cell_of_row _ _ j _ _ _ (hE.get 3 rfl)
          have z_r := hE.lt 3 rfl
          refine bodyPost_ret (v := .tuple #[rV vv, .int .i64 0]) (by simp [results, Try.results108, go_sem, c_r, z_r]) rfl ?_
          have hF : Ms (fun V => Lay kAcU V (m.acs.set i a.more) (xs.set (i * 8 + 7) (.int .i64 (a.asked + 1)))) w [(g, .cells #[.slice (some ⟨gA, 0, none⟩) m.acs.length cp, .slice S2 (m.log.length + 1) cs2] 147)] [⟨.slice (some ⟨gA, 0, none⟩) m.acs.length cp, 116, 8, m.acs.length, xs.set (i * 8 + 7) (.int .i64 (a.asked + 1))⟩, ⟨.slice S2 (m.log.length + 1) cs2, 84, 8, m.log.length + 1, lgV m.log ++ [.int .i64 q.agent, .int .u8 q.kind, .int .i64 q.a.n, .int .i64 q.a.d, .int .i64 q.b.n, .int .i64 q.b.d, .int .i64 vv.n, .int .i64 vv.d]⟩] wE := (hE.imp (fun V k => k.1.more HXL.out HAI.out HW1.out)).subl (List.Sublist.cons _ (List.Sublist.cons _ (List.Sublist.cons _ (List.Sublist.cons _ (List.Sublist.cons _ (List.Sublist.cons_cons _ (List.nil_sublist _)))))))
          refine MaskRes.yes HERR.out HANS.out (va := .slice (some ⟨gA, 0, none⟩) m.acs.length cp) (vl := .slice S2 (m.log.length + 1) cs2) ?_
          rw [HSTEP.out]
          refine ⟨⟨xs.set (i * 8 + 7) (.int .i64 (a.asked + 1)), ?_⟩, fun p hp => ?_⟩
          · show Ms _ w _ [⟨.slice (some ⟨gA, 0, none⟩) m.acs.length cp, 116, 8, (m.acs.set i a.more).length, _⟩, ⟨.slice S2 (m.log.length + 1) cs2, 84, 8, (m.log ++ [{ q with ans := vv }]).length, lgV (m.log ++ [{ q with ans := vv }])⟩] wE
            rw [List.length_set, List.length_append, ← lgV_push]
            exact hF
          · rcases List.mem_append.1 hp with u | u
            · exact HWF.out p u
            · obtain rfl := List.mem_singleton.1 u
              exact qy_wf HQ.out HVW.out
      by_cases e2 : q.kind = 2
      · have b3_ := e
        clear e
        have e := e2
        clear e2 b3_
        have HE := Lib.hid e
        have b3 : (q.kind == 1) = false := by rw [e]; rfl
        have b4 : (q.kind == 2) = true := by rw [e]; rfl
        obtain ⟨vv, hvv⟩ : ∃ x, x = a.own.mark q.a q.b := ⟨_, rfl⟩
        obtain ⟨vc, hvc⟩ : ∃ x, x = a.own.markC q.a q.b := ⟨_, rfl⟩
        have HCV := Lib.hid (fun (V : World) (hV : CIn V.heap.size V A c R d a.own) => show Calls Try.prog 32 #[cV A c R d a.own, rV q.a, rV q.b] V fun e w' => e = .returned (.tuple #[rV vv, .int .i64 vc]) ∧ Below V.heap.size V w' by
          rw [hvv, hvc]; exact cmark_any a.own A c R d q.a q.b HQ.out.a HQ.out.b V hV)
        have HVC := Lib.hid (show ansC a.now q.kind q.a q.b = vc by rw [HNK.out, hvc, e]; rfl)
        have HVV := Lib.hid (show ansR a.now q.kind q.a q.b = vv by rw [HNK.out, hvv, e]; rfl)
        have HKD := Lib.hid (show q.kind = 1 ∨ q.kind = 2 from Or.inr e)
        clear e hvv hvc
        have c_v := fun j => cell_of_row _ _ j _ _ _ (hB4.get 0 rfl)
        have z_v := hB4.lt 0 rfl
        have c_c := fun j => cell_of_row _ _ j _ _ _ (hB4.get 1 rfl)
        have z_c := hB4.lt 1 rfl
        have c_q := fun j => cell_of_row _ _ j _ _ _ (hB4.get 3 rfl)
        have z_q := hB4.lt 3 rfl
        go_wp2_with fail
        refine (HCV.out _ hB4.here.2.1).mono ?_
        rintro e w5 ⟨rfl, hb⟩
        have hB5 := hB4.next hb
        clear c_v z_v c_c z_c c_q z_q hb hB4 HCV b3 b4
        have c_v := fun j => cell_of_row _ _ j _ _ _ (hB5.get 0 rfl)
        have z_v := hB5.lt 0 rfl
        have f_v := fun j => frozen_of_row _ _ j _ _ (hB5.get 0 rfl)
        go_upto_region 15 with fail
        have hB6 := hB5.put 0 rfl vv
        clear c_v z_v f_v hB5
        generalize (w5.setCell _ _).setCell _ _ = w6 at *
        by_cases ec : vc = 0
        rotate_left
        · have b5 : (vc != 0) = true := by simpa using ec
          have HX := Lib.hid (Mt.err_ans (m := m) HHAS.out HKD.out HAT.out (by rw [HVC.out]; exact ec))
          rw [HVC.out] at HX
          have HEC := Lib.hid ec
          clear ec
          have c_r := fun j => cell_of_row _ _ j _ _ _ (hB6.get 2 rfl)
          have z_r := hB6.lt 2 rfl
          have f_r := fun j => frozen_of_row _ _ j _ _ (hB6.get 2 rfl)
          go_wp2_with fail
          have hE := hB6.put 2 rfl ⟨0, 0⟩
          clear c_r z_r f_r hB6
          generalize (w6.setCell _ _).setCell _ _ = wE at *
          have c_r := fun j => cell_of_row _ _ j _ _ _ (hE.get 2 rfl)
          have z_r := hE.lt 2 rfl
          refine bodyPost_ret (v := .tuple #[rV ⟨0, 0⟩, .int .i64 vc]) (by simp [results, Try.results108, go_sem, c_r, z_r]) rfl ?_
          exact MaskRes.no HX.out HEC.out ⟨⟨xs, (hE.imp (fun V q => q.1)).subl (List.Sublist.cons _ (List.Sublist.cons _ (List.Sublist.cons _ (List.Sublist.cons _ (List.Sublist.cons_cons _ (List.nil_sublist _))))))⟩, HWF.out⟩
        subst ec
        by_cases hfull : 2000 ≤ m.log.length
        · have b6 : decide ((2000 : Int) ≤ (m.log.length : Int)) = true := decide_eq_true (by omega)
          have HX := Lib.hid (Mt.err_many (m := m) HHAS.out HKD.out HAT.out HVC.out hfull)
          clear hfull
          have c_g := fun j => cell_of_row _ _ j _ _ _ (hB6.get 4 rfl)
          have z_g := hB6.lt 4 rfl
          have c_r := fun j => cell_of_row _ _ j _ _ _ (hB6.get 2 rfl)
          have z_r := hB6.lt 2 rfl
          have f_r := fun j => frozen_of_row _ _ j _ _ (hB6.get 2 rfl)
          go_wp2_with fail
          have hE := hB6.put 2 rfl ⟨0, 0⟩
          clear c_g z_g c_r z_r f_r hB6
          generalize (w6.setCell _ _).setCell _ _ = wE at *
          have c_r := fun j => cell_of_row _ _ j _ _ _ (hE.get 2 rfl)
          have z_r := hE.lt 2 rfl
          refine bodyPost_ret (v := .tuple #[rV ⟨0, 0⟩, .int .i64 4]) (by simp [results, Try.results108, go_sem, c_r, z_r]) rfl ?_
          exact MaskRes.no HX.out (by decide) ⟨⟨xs, (hE.imp (fun V q => q.1)).subl (List.Sublist.cons _ (List.Sublist.cons _ (List.Sublist.cons _ (List.Sublist.cons _ (List.Sublist.cons_cons _ (List.nil_sublist _))))))⟩, HWF.out⟩
        have b6 : decide ((2000 : Int) ≤ (m.log.length : Int)) = false := decide_eq_false (by omega)
        have HERR := Lib.hid (Mt.err_ok (m := m) HHAS.out HKD.out HAT.out HVC.out hfull)
        have HANS := Lib.hid (show m.ans q = vv by unfold Mt.ans; rw [HAT.out]; exact HVV.out)
        have HSTEP := Lib.hid (show m.step q = ⟨m.acs.set i a.more, m.log ++ [{ q with ans := vv }]⟩ by unfold Mt.step; rw [HAT.out, HQI.out, HANS.out])
        have HVW := Lib.hid (show vv.wf by rw [← HVV.out]; exact ansR_wf _ _ _)
        have HAS := (HOK.out.fit i a HAI.out).asked
        have HAS2 := ofL_le m.log (i : Int)
        have HW1 := Lib.hid (show a.asked + 1 ≤ 9223372036854775807 by omega)
        have HWR := Lib.hid (show IntKind.i64.wrap (a.asked + 1) = a.asked + 1 ∧ wrap64 (a.asked + 1) = a.asked + 1 from ⟨IntWalk.i64_in _ (by omega), IntWalk.wrap64_in _ (by omega)⟩)
        clear hfull HAS HAS2
        have HXL := Lib.hid (hB6.row 0 rfl).1
        have c_g := fun j => cell_of_row _ _ j _ _ _ (hB6.get 4 rfl)
        have z_g := hB6.lt 4 rfl
        have c_v := fun j => cell_of_row _ _ j _ _ _ (hB6.get 0 rfl)
        have z_v := hB6.lt 0 rfl
        have c_q := fun j => cell_of_row _ _ j _ _ _ (hB6.get 3 rfl)
        have z_q := hB6.lt 3 rfl
        have f_q := fun j => frozen_of_row _ _ j _ _ (hB6.get 3 rfl)
        go_upto_region 20 with fail
        have hB7 : Ms (fun V => Lay kAcU V m.acs xs ∧ AcCk a A c R d A' c' R' d' V) w [(gV, rB vv), (gC, cB A c R d a.own), (gR, rB ⟨0, 0⟩), (gQ, qB { q with ans := vv }), (g, .cells #[.slice (some ad) m.acs.length cp, .slice S m.log.length cs] 147)] [⟨.slice (some ad) m.acs.length cp, 116, 8, m.acs.length, xs⟩, ⟨.slice S m.log.length cs, 84, 8, m.log.length, lgV m.log⟩] ((w6.setCell ⟨gQ, 6, none⟩ (.int .i64 vv.n)).setCell ⟨gQ, 7, none⟩ (.int .i64 vv.d)) := (hB6.set 3 rfl 6 (.int .i64 vv.n)).set 3 rfl 7 (.int .i64 vv.d)
        clear c_g z_g c_v z_v c_q z_q f_q hB6
        generalize (w6.setCell _ _).setCell _ _ = w7 at *
        go_wp2_with fail
        refine wp_region_T (Bx w [(gQ, qB { q with ans := vv })]) 13 (by kernel_rfl) (by rfl) ((hB7.keep (List.Sublist.cons _ (List.Sublist.cons _ (List.Sublist.cons _ (List.Sublist.cons_cons _ (List.nil_sublist _)))))).drew) (fun wq49 hbq => ?_)
        have hB8 := hB7.next hbq
        clear hB7 hbq
        refine wpAnyT_go (Bx.grows _ _) (hB8.keep (List.Sublist.cons _ (List.Sublist.cons _ (List.Sublist.cons _ (List.Sublist.cons_cons _ (List.nil_sublist _)))))) [0, 1, 2, 3, 4, 6] 7 (by kernel_rfl) ?_
        apply Exists.intro
        refine ⟨fun G hG hN => ?_, ?_⟩
        · have c_q := fun (e : GE (Bx w [(gQ, qB { q with ans := vv })]) G) j => cell_of_row e.w _ j _ _ _ ((GE.h e).get 0 rfl)
          have z_q := fun (e : GE (Bx w [(gQ, qB { q with ans := vv })]) G) => (GE.h e).lt 0 rfl
          simp only [pickOps, List.getElem?_toArray, List.getElem?_cons_zero, List.getElem?_cons_succ]
          repeat (first | go_big_quiet_step (fail) | quiet_step (fail))
          exact wpQuiet_nil rfl
        refine wpAnyT_all (rs := [5, 7]) (by kernel_rfl) (by simp) (fun wa50 hwa50 hRwa50 i hi => ?_)
        have hB9 := hB8.next hwa50
        clear hB8 hwa50 hRwa50
        rcases List.mem_cons.1 hi with rfl | hi
        · refine wpOp_step rfl (fun Kc hKc => ?_)
          have c_g := fun j => cell_of_row _ _ j _ _ _ (hB9.get 4 rfl)
          have z_g := hB9.lt 4 rfl
          go_simp
          refine hKc _ _ ⟨(hB9.keep (List.Sublist.cons _ (List.Sublist.cons _ (List.Sublist.cons _ (List.Sublist.cons_cons _ (List.nil_sublist _)))))), ?_⟩
          clear hKc Kc
          clear c_g z_g
          refine wpAnyT_all (rs := [7]) (by kernel_rfl) (by simp) (fun wa51 hwa51 hRwa51 i hi => ?_)
          have hB10 := hB9.next hwa51
          clear hB9 hwa51 hRwa51
          obtain rfl := List.mem_singleton.1 hi
          refine wpOp_step rfl (fun Kc hKc => ?_)
          go_simp
          have hB11 := hB10.new (g := wa51.heap.size) rfl (.cells #[.int .i64 q.agent, .int .u8 q.kind, .int .i64 q.a.n, .int .i64 q.a.d, .int .i64 q.b.n, .int .i64 q.b.d, .int .i64 vv.n, .int .i64 vv.d] 84)
          refine hKc _ _ ⟨(hB11.keep (List.Sublist.cons _ (List.Sublist.cons _ (List.Sublist.cons _ (List.Sublist.cons _ (List.Sublist.cons_cons _ (List.nil_sublist _))))))), ?_⟩
          clear hKc Kc hB10
          generalize wa51.heap.size = gL at *
          generalize wa51.alloc _ = wb52 at *
          refine wpAnyT_all (rs := [8]) (by kernel_rfl) (by simp) (fun wa53 hwa53 hRwa53 i hi => ?_)
          have hB12 := hB11.next hwa53
          clear hB11 hwa53 hRwa53
          obtain rfl := List.mem_singleton.1 hi
          refine wpOp_step rfl (fun Kc hKc => ?_)
          refine step_append_any _ rfl (.tmp 100) (.tmp 102) 59 rfl w.heap.size 84 j0 (.agg #[.int .i64 0, .int .u8 0, .int .i64 0, .int .i64 0, .int .i64 0, .int .i64 0, .int .i64 0, .int .i64 0]) 8 64 Try.underlying59 hj0 hy0 hy1 hy2 rfl (by omega) (.slice S m.log.length cs) m.log.length (lgV m.log) rfl (hB12.row 1 rfl) _ (some ⟨gL, 0, none⟩) 1 1 [.int .i64 q.agent, .int .u8 q.kind, .int .i64 q.a.n, .int .i64 q.a.d, .int .i64 q.b.n, .int .i64 q.b.d, .int .i64 vv.n, .int .i64 vv.d] rfl (reads_lit (n := 1) (s := 8) (hB12.get 0 rfl) rfl) (by intro u hu; simp at hu; rcases hu with rfl | rfl | rfl | rfl | rfl | rfl | rfl | rfl <;> rfl) (by unfold maxLen; omega) (by omega) hB12.below.size ?_
          intro v8 wb54 hown hgr hat
          obtain ⟨S2, cs2, rfl, _, _⟩ := own_nil_len hown
          have hB13 := hB12.grow 1 rfl hgr hown hat
          refine hKc _ _ ⟨(hB13.keep (List.Sublist.cons _ (List.Sublist.cons _ (List.Sublist.cons _ (List.Sublist.cons _ (List.Sublist.cons_cons _ (List.nil_sublist _))))))), ?_⟩
          clear hKc Kc hB12 hown hgr hat
          refine wpAnyT_go (Bx.grows _ _) (hB13.keep (List.Sublist.cons _ (List.Sublist.cons _ (List.Sublist.cons _ (List.Sublist.cons _ (List.Sublist.cons_cons _ (List.nil_sublist _))))))) [9, 10, 11] 1 (by kernel_rfl) ?_
          apply Exists.intro
          refine ⟨fun G hG hN => ?_, ?_⟩
          · have c_q := fun (e : GE (Bx w [(gQ, qB { q with ans := vv })]) G) j => cell_of_row e.w _ j _ _ _ ((GE.h e).get 0 rfl)
            have z_q := fun (e : GE (Bx w [(gQ, qB { q with ans := vv })]) G) => (GE.h e).lt 0 rfl
            simp only [pickOps, List.getElem?_toArray, List.getElem?_cons_zero, List.getElem?_cons_succ]
            repeat (first | go_big_quiet_step (fail) | quiet_step (fail))
            exact wpQuiet_nil rfl
          refine wpAnyT_all (rs := [12]) (by kernel_rfl) (by simp) (fun wa55 hwa55 hRwa55 i hi => ?_)
          have hB14 := hB13.next hwa55
          clear hB13 hwa55 hRwa55
          obtain rfl := List.mem_singleton.1 hi
          refine wpOp_step rfl (fun Kc hKc => ?_)
          have c_g := fun j => cell_of_row _ _ j _ _ _ (hB14.get 5 rfl)
          have z_g := hB14.lt 5 rfl
          have f_g := fun j => frozen_of_row _ _ j _ _ (hB14.get 5 rfl)
          go_simp
          have hB15 := hB14.set 5 rfl 1 (.slice S2 (m.log.length + 1) cs2)
          refine hKc _ _ ⟨(hB15.keep (List.Sublist.cons _ (List.Sublist.cons _ (List.Sublist.cons _ (List.Sublist.cons _ (List.Sublist.cons_cons _ (List.nil_sublist _))))))), ?_⟩
          clear c_g z_g f_g hKc Kc hB14
          generalize wa55.setCell _ _ = wb56 at *
          refine wpAnyT_done (by kernel_rfl) (fun wd57 hwd57 hRwd57 => ?_) _
          refine NoPanic.normal ?_
          have hB16 := hB15.next hwd57
          clear hB15 hwd57 hRwd57
          obtain ⟨⟨c0, c1, c2, c3, c4, c5, c6, c7⟩, hbA, fA⟩ := HAC.out _ _ _ _ hB16
          have f1 : (ad.add (i * 8)).block < wd57.heap.size := by rw [block_add]; exact hbA
          have wr1 := HWR.out.1
          have wr2 := HWR.out.2
          go_upto_region 22 with fail
          obtain rfl := HAD.out
          rw [addr_row (g := gA) (i := i) (j := 7) (by decide)]
          have hB17 := hB16.setRow 0 rfl (i * 8 + 7) (.int .i64 (a.asked + 1))
          clear hB16 c0 c1 c2 c3 c4 c5 c6 c7 hbA fA f1 wr1 wr2
          generalize wd57.setCell _ _ = w17 at *
          have c_v := fun j => cell_of_row _ _ j _ _ _ (hB17.get 1 rfl)
          have z_v := hB17.lt 1 rfl
          have c_r := fun j => cell_of_row _ _ j _ _ _ (hB17.get 3 rfl)
          have z_r := hB17.lt 3 rfl
          have f_r := fun j => frozen_of_row _ _ j _ _ (hB17.get 3 rfl)
          have n_vr := hB17.mx.ne 1 3 rfl rfl (by decide)
          simp only at n_vr
          go_wp2_with fail
          have hE := hB17.put 3 rfl vv
          clear c_v z_v c_r z_r f_r hB17 n_vr
          generalize (w17.setCell _ _).setCell _ _ = wE at *
          have c_r := fun j => cell_of_row _ _ j _ _ _ (hE.get 3 rfl)
          have z_r := hE.lt 3 rfl
          refine bodyPost_ret (v := .tuple #[rV vv, .int .i64 0]) (by simp [results, Try.results108, go_sem, c_r, z_r]) rfl ?_
          have hF : Ms (fun V => Lay kAcU V (m.acs.set i a.more) (xs.set (i * 8 + 7) (.int .i64 (a.asked + 1)))) w [(g, .cells #[.slice (some ⟨gA, 0, none⟩) m.acs.length cp, .slice S2 (m.log.length + 1) cs2] 147)] [⟨.slice (some ⟨gA, 0, none⟩) m.acs.length cp, 116, 8, m.acs.length, xs.set (i * 8 + 7) (.int .i64 (a.asked + 1))⟩, ⟨.slice S2 (m.log.length + 1) cs2, 84, 8, m.log.length + 1, lgV m.log ++ [.int .i64 q.agent, .int .u8 q.kind, .int .i64 q.a.n, .int .i64 q.a.d, .int .i64 q.b.n, .int .i64 q.b.d, .int .i64 vv.n, .int .i64 vv.d]⟩] wE := (hE.imp (fun V k => k.1.more HXL.out HAI.out HW1.out)).subl (List.Sublist.cons _ (List.Sublist.cons _ (List.Sublist.cons _ (List.Sublist.cons _ (List.Sublist.cons _ (List.Sublist.cons_cons _ (List.nil_sublist _)))))))
          refine MaskRes.yes HERR.out HANS.out (va := .slice (some ⟨gA, 0, none⟩) m.acs.length cp) (vl := .slice S2 (m.log.length + 1) cs2) ?_
          rw [HSTEP.out]
          refine ⟨⟨xs.set (i * 8 + 7) (.int .i64 (a.asked + 1)), ?_⟩, fun p hp => ?_⟩
          · show Ms _ w _ [⟨.slice (some ⟨gA, 0, none⟩) m.acs.length cp, 116, 8, (m.acs.set i a.more).length, _⟩, ⟨.slice S2 (m.log.length + 1) cs2, 84, 8, (m.log ++ [{ q with ans := vv }]).length, lgV (m.log ++ [{ q with ans := vv }])⟩] wE
            rw [List.length_set, List.length_append, ← lgV_push]
            exact hF
          · rcases List.mem_append.1 hp with u | u
            · exact HWF.out p u
            · obtain rfl := List.mem_singleton.1 u
              exact qy_wf HQ.out HVW.out
        · obtain rfl := List.mem_singleton.1 hi
          refine wpOp_step rfl (fun Kc hKc => ?_)
          go_simp
          have hB10 := hB9.new (g := wa50.heap.size) rfl (.cells #[.int .i64 q.agent, .int .u8 q.kind, .int .i64 q.a.n, .int .i64 q.a.d, .int .i64 q.b.n, .int .i64 q.b.d, .int .i64 vv.n, .int .i64 vv.d] 84)
          refine hKc _ _ ⟨(hB10.keep (List.Sublist.cons _ (List.Sublist.cons _ (List.Sublist.cons _ (List.Sublist.cons _ (List.Sublist.cons_cons _ (List.nil_sublist _))))))), ?_⟩
          clear hKc Kc hB9
          generalize wa50.heap.size = gL at *
          generalize wa50.alloc _ = wb58 at *
          refine wpAnyT_all (rs := [5]) (by kernel_rfl) (by simp) (fun wa59 hwa59 hRwa59 i hi => ?_)
          have hB11 := hB10.next hwa59
          clear hB10 hwa59 hRwa59
          obtain rfl := List.mem_singleton.1 hi
          refine wpOp_step rfl (fun Kc hKc => ?_)
          have c_g := fun j => cell_of_row _ _ j _ _ _ (hB11.get 5 rfl)
          have z_g := hB11.lt 5 rfl
          go_simp
          refine hKc _ _ ⟨(hB11.keep (List.Sublist.cons _ (List.Sublist.cons _ (List.Sublist.cons _ (List.Sublist.cons _ (List.Sublist.cons_cons _ (List.nil_sublist _))))))), ?_⟩
          clear hKc Kc
          clear c_g z_g
          refine wpAnyT_all (rs := [8]) (by kernel_rfl) (by simp) (fun wa60 hwa60 hRwa60 i hi => ?_)
          have hB12 := hB11.next hwa60
          clear hB11 hwa60 hRwa60
          obtain rfl := List.mem_singleton.1 hi
          refine wpOp_step rfl (fun Kc hKc => ?_)
          refine step_append_any _ rfl (.tmp 100) (.tmp 102) 59 rfl w.heap.size 84 j0 (.agg #[.int .i64 0, .int .u8 0, .int .i64 0, .int .i64 0, .int .i64 0, .int .i64 0, .int .i64 0, .int .i64 0]) 8 64 Try.underlying59 hj0 hy0 hy1 hy2 rfl (by omega) (.slice S m.log.length cs) m.log.length (lgV m.log) rfl (hB12.row 1 rfl) _ (some ⟨gL, 0, none⟩) 1 1 [.int .i64 q.agent, .int .u8 q.kind, .int .i64 q.a.n, .int .i64 q.a.d, .int .i64 q.b.n, .int .i64 q.b.d, .int .i64 vv.n, .int .i64 vv.d] rfl (reads_lit (n := 1) (s := 8) (hB12.get 0 rfl) rfl) (by intro u hu; simp at hu; rcases hu with rfl | rfl | rfl | rfl | rfl | rfl | rfl | rfl <;> rfl) (by unfold maxLen; omega) (by omega) hB12.below.size ?_
          intro v8 wb61 hown hgr hat
          obtain ⟨S2, cs2, rfl, _, _⟩ := own_nil_len hown
          have hB13 := hB12.grow 1 rfl hgr hown hat
          refine hKc _ _ ⟨(hB13.keep (List.Sublist.cons _ (List.Sublist.cons _ (List.Sublist.cons _ (List.Sublist.cons _ (List.Sublist.cons_cons _ (List.nil_sublist _))))))), ?_⟩
          clear hKc Kc hB12 hown hgr hat
          refine wpAnyT_go (Bx.grows _ _) (hB13.keep (List.Sublist.cons _ (List.Sublist.cons _ (List.Sublist.cons _ (List.Sublist.cons _ (List.Sublist.cons_cons _ (List.nil_sublist _))))))) [9, 10, 11] 1 (by kernel_rfl) ?_
          apply Exists.intro
          refine ⟨fun G hG hN => ?_, ?_⟩
          · have c_q := fun (e : GE (Bx w [(gQ, qB { q with ans := vv })]) G) j => cell_of_row e.w _ j _ _ _ ((GE.h e).get 0 rfl)
            have z_q := fun (e : GE (Bx w [(gQ, qB { q with ans := vv })]) G) => (GE.h e).lt 0 rfl
            simp only [pickOps, List.getElem?_toArray, List.getElem?_cons_zero, List.getElem?_cons_succ]
            repeat (first | go_big_quiet_step (fail) | quiet_step (fail))
            exact wpQuiet_nil rfl
          refine wpAnyT_all (rs := [12]) (by kernel_rfl) (by simp) (fun wa62 hwa62 hRwa62 i hi => ?_)
          have hB14 := hB13.next hwa62
          clear hB13 hwa62 hRwa62
          obtain rfl := List.mem_singleton.1 hi
          refine wpOp_step rfl (fun Kc hKc => ?_)
          have c_g := fun j => cell_of_row _ _ j _ _ _ (hB14.get 5 rfl)
          have z_g := hB14.lt 5 rfl
          have f_g := fun j => frozen_of_row _ _ j _ _ (hB14.get 5 rfl)
          go_simp
          have hB15 := hB14.set 5 rfl 1 (.slice S2 (m.log.length + 1) cs2)
          refine hKc _ _ ⟨(hB15.keep (List.Sublist.cons _ (List.Sublist.cons _ (List.Sublist.cons _ (List.Sublist.cons _ (List.Sublist.cons_cons _ (List.nil_sublist _))))))), ?_⟩
          clear c_g z_g f_g hKc Kc hB14
          generalize wa62.setCell _ _ = wb63 at *
          refine wpAnyT_done (by kernel_rfl) (fun wd64 hwd64 hRwd64 => ?_) _
          refine NoPanic.normal ?_
          have hB16 := hB15.next hwd64
          clear hB15 hwd64 hRwd64
          obtain ⟨⟨c0, c1, c2, c3, c4, c5, c6, c7⟩, hbA, fA⟩ := HAC.out _ _ _ _ hB16
          have f1 : (ad.add (i * 8)).block < wd64.heap.size := by rw [block_add]; exact hbA
          have wr1 := HWR.out.1
          have wr2 := HWR.out.2
          go_upto_region 22 with fail
          obtain rfl := HAD.out
          rw [addr_row (g := gA) (i := i) (j := 7) (by decide)]
          have hB17 := hB16.setRow 0 rfl (i * 8 + 7) (.int .i64 (a.asked + 1))
          clear hB16 c0 c1 c2 c3 c4 c5 c6 c7 hbA fA f1 wr1 wr2
          generalize wd64.setCell _ _ = w17 at *
          have c_v := fun j => cell_of_row _ _ j _ _ _ (hB17.get 1 rfl)
          have z_v := hB17.lt 1 rfl
          have c_r := fun j => cell_of_row _ _ j _ _ _ (hB17.get 3 rfl)
          have z_r := hB17.lt 3 rfl
          have f_r := fun j => frozen_of_row _ _ j _ _ (hB17.get 3 rfl)
          have n_vr := hB17.mx.ne 1 3 rfl rfl (by decide)
          simp only at n_vr
          go_wp2_with fail
          have hE := hB17.put 3 rfl vv
          clear c_v z_v c_r z_r f_r hB17 n_vr
          generalize (w17.setCell _ _).setCell _ _ = wE at *
          have c_r := fun j => cell_of_row _ _ j _ _ _ (hE.get 3 rfl)
          have z_r := hE.lt 3 rfl
          refine bodyPost_ret (v := .tuple #[rV vv, .int .i64 0]) (by simp [results, Try.results108, go_sem, c_r, z_r]) rfl ?_
          have hF : Ms (fun V => Lay kAcU V (m.acs.set i a.more) (xs.set (i * 8 + 7) (.int .i64 (a.asked + 1)))) w [(g, .cells #[.slice (some ⟨gA, 0, none⟩) m.acs.length cp, .slice S2 (m.log.length + 1) cs2] 147)] [⟨.slice (some ⟨gA, 0, none⟩) m.acs.length cp, 116, 8, m.acs.length, xs.set (i * 8 + 7) (.int .i64 (a.asked + 1))⟩, ⟨.slice S2 (m.log.length + 1) cs2, 84, 8, m.log.length + 1, lgV m.log ++ [.int .i64 q.agent, .int .u8 q.kind, .int .i64 q.a.n, .int .i64 q.a.d, .int .i64 q.b.n, .int .i64 q.b.d, .int .i64 vv.n, .int .i64 vv.d]⟩] wE := (hE.imp (fun V k => k.1.more HXL.out HAI.out HW1.out)).subl (List.Sublist.cons _ (List.Sublist.cons _ (List.Sublist.cons _ (List.Sublist.cons _ (List.Sublist.cons _ (List.Sublist.cons_cons _ (List.nil_sublist _)))))))
          refine MaskRes.yes HERR.out HANS.out (va := .slice (some ⟨gA, 0, none⟩) m.acs.length cp) (vl := .slice S2 (m.log.length + 1) cs2) ?_
          rw [HSTEP.out]
          refine ⟨⟨xs.set (i * 8 + 7) (.int .i64 (a.asked + 1)), ?_⟩, fun p hp => ?_⟩
          · show Ms _ w _ [⟨.slice (some ⟨gA, 0, none⟩) m.acs.length cp, 116, 8, (m.acs.set i a.more).length, _⟩, ⟨.slice S2 (m.log.length + 1) cs2, 84, 8, (m.log ++ [{ q with ans := vv }]).length, lgV (m.log ++ [{ q with ans := vv }])⟩] wE
            rw [List.length_set, List.length_append, ← lgV_push]
            exact hF
          · rcases List.mem_append.1 hp with u | u
            · exact HWF.out p u
            · obtain rfl := List.mem_singleton.1 u
              exact qy_wf HQ.out HVW.out
      have b3 : (q.kind == 1) = false := by simpa using e
      have b4 : (q.kind == 2) = false := by simpa using e2
      have HX := Lib.hid (Mt.err_kind (m := m) e e2)
      clear e e2
      have c_q := fun j => cell_of_row _ _ j _ _ _ (hB4.get 3 rfl)
      have z_q := hB4.lt 3 rfl
      have c_r := fun j => cell_of_row _ _ j _ _ _ (hB4.get 2 rfl)
      have z_r := hB4.lt 2 rfl
      have f_r := fun j => frozen_of_row _ _ j _ _ (hB4.get 2 rfl)
      go_wp2_with fail
      have hE := hB4.put 2 rfl ⟨0, 0⟩
      clear c_q z_q c_r z_r f_r hB4
      generalize (w4.setCell _ _).setCell _ _ = wE at *
      have c_r := fun j => cell_of_row _ _ j _ _ _ (hE.get 2 rfl)
      have z_r := hE.lt 2 rfl
      refine bodyPost_ret (v := .tuple #[rV ⟨0, 0⟩, .int .i64 2]) (by simp [results, Try.results108, go_sem, c_r, z_r]) rfl ?_
      exact MaskRes.no HX.out (by decide) ⟨⟨xs, (hE.imp (fun V q => q.1)).subl (List.Sublist.cons _ (List.Sublist.cons _ (List.Sublist.cons _ (List.Sublist.cons _ (List.Sublist.cons_cons _ (List.nil_sublist _))))))⟩, HWF.out⟩
end Go.Proofs.Ytgcbmnohhbcfiaa
