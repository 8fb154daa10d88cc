/- The small functions of the laws of cakes. -/
import Derived.Test.YtgcbmnohhbcfiaaCkM
import Derived.Test.YtgcbmnohhbcfiaaCkT
import Derived.Test.YtgcbmnohhbcfiaaCkD
namespace Go.Proofs.Ytgcbmnohhbcfiaa
open Go.RowKit Go.Deep
set_option linter.unusedVariables false
set_option linter.unusedSimpArgs false

/-- What hangs on nothing but what was made since. -/
def Fresh (B0 : Nat) (w : World) (F : World → Prop) : Prop := ∀ W : World, w.heap.size ≤ W.heap.size → (∀ g, B0 ≤ g → g < w.heap.size → W.heap[g]? = w.heap[g]?) → F W
theorem Fresh.here {B0 : Nat} {w : World} {F : World → Prop} (h : Fresh B0 w F) : F w := h w (Nat.le_refl _) (fun _ _ _ => rfl)
theorem Fresh.ext {B0 : Nat} {w W : World} {F : World → Prop} (h : Fresh B0 w F) (hb : Below w.heap.size w W) : F W := h W hb.size (fun g _ hg => hb.block g hg)
theorem Fresh.rk {B0 : Nat} {w0 w1 W : World} {X : List Nat} {F : World → Prop} (h : Fresh B0 w1 F) (k : RK w0 w1 X W) (hX : ∀ g, g ∈ X → g < B0 ∨ w1.heap.size ≤ g) : F W :=
  h W k.s (fun g h1 h2 => k.k g h2 (fun hm => (hX g hm).elim (fun q => by omega) (fun q => by omega)))
theorem Ints.of_lit {B g : Nat} {w : World} {cs : Array Value} {t : TypeId} {fr : Nat × Nat} {xs : List Int} (h : w.heap[g]? = some (.cells cs t fr)) (hB : g < B) (hc : cs.toList = xs.map (Value.int .i64)) : Ints B w (some ⟨g, 0, none⟩) xs :=
  fun h0 => ⟨_, rfl, hB, fun k hk => by
    rw [add_mk, Nat.zero_add, cell_of_row w g k cs t fr h, ← Array.getElem?_toList, hc, List.getElem?_map, List.getElem?_eq_getElem hk, gi_get hk]; rfl⟩
/-- A cake of the call's own. -/
def CkRes (K : Ck) (w : World) (e : Ending) (w' : World) : Prop := ∃ (A : Option Addr) (c : Nat) (R : Option Addr) (d : Nat), e = .returned (cV A c R d K) ∧ Fresh w.heap.size w' (fun W => CIn W.heap.size W A c R d K) ∧ Below w.heap.size w w'
/-- A cake that is written out. -/
theorem ck_lit {B0 g1 g2 : Nat} {w : World} {cs0 cs1 : Array Value} {t u : TypeId} {K : Ck} (hg1 : B0 ≤ g1) (hg2 : B0 ≤ g2) (h1 : w.heap[g1]? = some (.cells cs0 t)) (h2 : w.heap[g2]? = some (.cells cs1 u))
    (c0 : cs0.toList = K.cuts.map (Value.int .i64)) (c1 : cs1.toList = K.dens.map (Value.int .i64)) {c d : Nat} (lc : K.cuts.length = c) (ld : K.dens.length = d) (mc : c ≤ 1000) (md : d ≤ 1000) (w0 : -1000000 ≤ K.len) (w1 : K.len ≤ 1000000) :
    Fresh B0 w (fun W => CIn W.heap.size W (some ⟨g1, 0, none⟩) c (some ⟨g2, 0, none⟩) d K) := by
  intro W hs hk
  have z1 := lt_some h1
  have z2 := lt_some h2
  exact ⟨Ints.of_lit ((hk g1 hg1 z1).trans h1) (by omega) c0, Ints.of_lit ((hk g2 hg2 z2).trans h2) (by omega) c1, by omega, by unfold maxLen; omega, by omega, by unfold maxLen; omega, by omega, by omega⟩
def givenK : Ck := ⟨10, [0, 4, 6, 10], [2, 0, 3]⟩
set_option maxHeartbeats 1000000 in
theorem given_any (w : World) : Calls Try.prog 45 #[] w (CkRes givenK w) := by
  have h1 : (((w.alloc (cB (some ⟨w.heap.size + 1, 0, none⟩) 4 (some ⟨w.heap.size + 1 + 1, 0, none⟩) 3 givenK)).alloc (.cells #[.int .i64 0, .int .i64 4, .int .i64 6, .int .i64 10] 3)).alloc (.cells #[.int .i64 2, .int .i64 0, .int .i64 3] 3)).heap[w.heap.size + 1]? = some (.cells #[.int .i64 0, .int .i64 4, .int .i64 6, .int .i64 10] 3) := heap_old (heap_new (by simp))
  have h2 : (((w.alloc (cB (some ⟨w.heap.size + 1, 0, none⟩) 4 (some ⟨w.heap.size + 1 + 1, 0, none⟩) 3 givenK)).alloc (.cells #[.int .i64 0, .int .i64 4, .int .i64 6, .int .i64 10] 3)).alloc (.cells #[.int .i64 2, .int .i64 0, .int .i64 3] 3)).heap[w.heap.size + 1 + 1]? = some (.cells #[.int .i64 2, .int .i64 0, .int .i64 3] 3) := heap_new (by simp)
  have hb : Below w.heap.size w (((w.alloc (cB (some ⟨w.heap.size + 1, 0, none⟩) 4 (some ⟨w.heap.size + 1 + 1, 0, none⟩) 3 givenK)).alloc (.cells #[.int .i64 0, .int .i64 4, .int .i64 6, .int .i64 10] 3)).alloc (.cells #[.int .i64 2, .int .i64 0, .int .i64 3] 3)) := ((one_alloc w _).alloc (by simp) _).alloc (by simp; omega) _
  have HF := Lib.hid (ck_lit (B0 := w.heap.size) (K := givenK) (by omega) (by omega) h1 h2 rfl rfl rfl rfl (by decide) (by decide) (by decide) (by decide))
  have HB := Lib.hid hb
  clear h1 h2 hb
  go_enter Try.func45, Try.ntmps45
  go_wp2_with fail
  refine bodyPost_ret (v := cV (some ⟨w.heap.size + 1, 0, none⟩) 4 (some ⟨w.heap.size + 1 + 1, 0, none⟩) 3 givenK) (by simp [results, Try.results45, go_sem, givenK]) rfl ⟨_, _, _, _, rfl, HF.out, HB.out⟩
theorem lof_any (n : Int) (w : World) : Calls Try.prog 36 #[.int .i64 n] w fun e w' => e = .returned (rV ⟨n, 1⟩) ∧ Below w.heap.size w w' := by
  go_enter Try.func36, Try.ntmps36
  go_wp2_with fail
  refine bodyPost_ret (v := rV ⟨n, 1⟩) (by simp [results, Try.results36, go_sem]) rfl ⟨rfl, ?_⟩
  exact one_alloc _ _
/-- A valid cake, and two points in order. -/
def validB (K : Ck) (a b : Rt) : Bool := !K.big && decide (K.code = 0) && pointB K.len a && pointB K.len b && !ltB b a
set_option maxRecDepth 100000 in
set_option maxHeartbeats 8000000 in
theorem valid_any (K : Ck) (A : Option Addr) (c : Nat) (R : Option Addr) (d : Nat) (a b : Rt) (ha : a.wf) (hb : b.wf) (w : World) (h : CIn w.heap.size w A c R d K) :
    Calls Try.prog 29 #[cV A c R d K, rV a, rV b] w fun e w' => e = .returned (.bool (validB K a b)) ∧ Below w.heap.size w w' := by
  have hB0 : Bx w [(w.heap.size + 1 + 1, rB b), (w.heap.size + 1, rB a), (w.heap.size, cB A c R d K)] (((w.alloc (cB A c R d K)).alloc (rB a)).alloc (rB b)) :=
    (((Bx.start w).new rfl _).new (by simp) _).new (by simp) _
  have HG := Lib.hid (fun (W : World) => cgreat_any K A c R d (Nat.le_trans h.lc h.mc) (Nat.le_trans h.ld h.md) W)
  have HC := Lib.hid (fun (W : World) (hW : Below w.heap.size w W) => fckcheck_any K A c R d W (h.next hW))
  have HPA := Lib.hid (fun (h0 : 0 ≤ K.len) (h1 : K.len ≤ 1000) (W : World) => fpoint_any K.len a ha h0 h1 W)
  have HPB := Lib.hid (fun (h0 : 0 ≤ K.len) (h1 : K.len ≤ 1000) (W : World) => fpoint_any K.len b hb h0 h1 W)
  have HV := Lib.hid (show validB K a b = (!K.big && decide (K.code = 0) && pointB K.len a && pointB K.len b && !ltB b a) from rfl)
  clear h ha hb
  go_enter Try.func29, Try.ntmps29
  go_upto_region 1 with fail
  generalize hw0 : ((w.alloc (cB A c R d K)).alloc (rB a)).alloc (rB b) = w0 at *
  clear hw0
  generalize w.heap.size + 1 + 1 = gB at *
  generalize w.heap.size + 1 = gA at *
  have c_K := fun j => cell_of_row _ _ j _ _ _ (hB0.get 2 rfl)
  have z_K := hB0.lt 2 rfl
  obtain ⟨kb, hkb⟩ : ∃ x, x = K.big := ⟨_, rfl⟩
  rw [← hkb] at HG HV
  clear hkb
  cases kb with
  | true =>
    go_wp2_with fail
    refine (HG.out _).mono ?_
    rintro e w1 ⟨rfl, hb⟩
    have hB1 := hB0.next hb
    clear c_K z_K hb hB0
    have HE := Lib.hid hB1.below
    clear hB1
    go_wp2_with fail
    go_ret
    exact ⟨ret_bool (by rw [HV.out]; rfl), HE.out⟩
  | false =>
  go_wp2_with fail
  refine (HG.out _).mono ?_
  rintro e w1 ⟨rfl, hb⟩
  have hB1 := hB0.next hb
  clear c_K z_K hb hB0
  have c_K := fun j => cell_of_row _ _ j _ _ _ (hB1.get 2 rfl)
  have z_K := hB1.lt 2 rfl
  by_cases hc : K.code = 0
  rotate_left
  · have q : (K.code == 0) = false := by simpa using hc
    rw [decide_eq_false hc] at HV
    clear hc
    generalize K.code = kc at *
    go_wp2_with fail
    refine (HC.out _ hB1.below).mono ?_
    rintro e w2 ⟨rfl, hb⟩
    have hB2 := hB1.next hb
    clear c_K z_K hb hB1
    have HE := Lib.hid hB2.below
    clear hB2
    go_wp2_with fail
    go_ret
    exact ⟨ret_bool (by rw [HV.out]; rfl), HE.out⟩
  have HK := Lib.hid (Ck.ok_code hc)
  rw [decide_eq_true hc] at HV
  rw [hc] at HC
  clear hc
  have l1 := HK.out.l1
  have l2 := HK.out.l2
  have HPA := Lib.hid (HPA.out (by omega) l2)
  have HPB := Lib.hid (HPB.out (by omega) l2)
  have HQA := Lib.hid (fun (h : pointB K.len a = true) => (point_q (by omega) l2).1 h)
  have HQB := Lib.hid (fun (h : pointB K.len b = true) => (point_q (by omega) l2).1 h)
  clear l1 l2
  go_wp2_with fail
  refine (HC.out _ hB1.below).mono ?_
  rintro e w2 ⟨rfl, hb⟩
  have hB2 := hB1.next hb
  clear c_K z_K hb hB1
  have c_b := fun j => cell_of_row _ _ j _ _ _ (hB2.get 0 rfl)
  have z_b := hB2.lt 0 rfl
  have c_a := fun j => cell_of_row _ _ j _ _ _ (hB2.get 1 rfl)
  have z_a := hB2.lt 1 rfl
  have c_K := fun j => cell_of_row _ _ j _ _ _ (hB2.get 2 rfl)
  have z_K := hB2.lt 2 rfl
  cases hp : pointB K.len a with
  | false =>
    rw [hp] at HPA HV
    clear hp
    go_wp2_with fail
    refine (HPA.out _).mono ?_
    rintro e w3 ⟨rfl, hb⟩
    have hB3 := hB2.next hb
    clear c_b z_b c_a z_a c_K z_K hb hB2
    have HE := Lib.hid hB3.below
    clear hB3
    go_wp2_with fail
    go_ret
    exact ⟨ret_bool (by rw [HV.out]; first | rfl | simp), HE.out⟩
  | true =>
  have HPa := Lib.hid hp
  rw [hp] at HPA HV
  clear hp
  go_wp2_with fail
  refine (HPA.out _).mono ?_
  rintro e w3 ⟨rfl, hb⟩
  have hB3 := hB2.next hb
  clear c_b z_b c_a z_a c_K z_K hb hB2
  have c_b := fun j => cell_of_row _ _ j _ _ _ (hB3.get 0 rfl)
  have z_b := hB3.lt 0 rfl
  have c_a := fun j => cell_of_row _ _ j _ _ _ (hB3.get 1 rfl)
  have z_a := hB3.lt 1 rfl
  have c_K := fun j => cell_of_row _ _ j _ _ _ (hB3.get 2 rfl)
  have z_K := hB3.lt 2 rfl
  cases hp : pointB K.len b with
  | false =>
    rw [hp] at HPB HV
    clear hp
    go_wp2_with fail
    refine (HPB.out _).mono ?_
    rintro e w4 ⟨rfl, hb⟩
    have hB4 := hB3.next hb
    clear c_b z_b c_a z_a c_K z_K hb hB3
    have HE := Lib.hid hB4.below
    clear hB4
    go_wp2_with fail
    go_ret
    exact ⟨ret_bool (by rw [HV.out]; first | rfl | simp), HE.out⟩
  | true =>
  have HPb := Lib.hid hp
  rw [hp] at HPB HV
  clear hp
  go_wp2_with fail
  refine (HPB.out _).mono ?_
  rintro e w4 ⟨rfl, hb⟩
  have hB4 := hB3.next hb
  clear c_b z_b c_a z_a c_K z_K hb hB3
  have HLT := Lib.hid (fun (W : World) => flt_any b a (HQB.out HPb.out).1 (HQA.out HPa.out).1 W)
  generalize ltB b a = lb at *
  have c_b := fun j => cell_of_row _ _ j _ _ _ (hB4.get 0 rfl)
  have z_b := hB4.lt 0 rfl
  have c_a := fun j => cell_of_row _ _ j _ _ _ (hB4.get 1 rfl)
  have z_a := hB4.lt 1 rfl
  go_wp2_with fail
  refine (HLT.out _).mono ?_
  rintro e w5 ⟨rfl, hb⟩
  have hB5 := hB4.next hb
  clear c_b z_b c_a z_a hb hB4
  have HE := Lib.hid hB5.below
  clear hB5
  go_wp2_with fail
  go_ret
  exact ⟨ret_bool (by rw [HV.out]; cases lb <;> rfl), HE.out⟩
theorem dec_val1 : givenK.valC ⟨1, 1⟩ ⟨7, 1⟩ = 0 ∧ givenK.val ⟨1, 1⟩ ⟨7, 1⟩ = ⟨9, 1⟩ := by decide +kernel
theorem dec_m1 : givenK.markC ⟨0, 1⟩ ⟨8, 1⟩ = 0 ∧ givenK.mark ⟨0, 1⟩ ⟨8, 1⟩ = ⟨4, 1⟩ := by decide +kernel
theorem dec_m2 : givenK.markC ⟨0, 1⟩ ⟨9, 1⟩ = 0 ∧ givenK.mark ⟨0, 1⟩ ⟨9, 1⟩ = ⟨19, 3⟩ := by decide +kernel
theorem dec_m3 : givenK.markC ⟨0, 1⟩ ⟨21, 1⟩ = 6 ∧ givenK.mark ⟨0, 1⟩ ⟨21, 1⟩ = ⟨0, 0⟩ := by decide +kernel
theorem dec_m4 : givenK.markC ⟨5, 1⟩ ⟨0, 1⟩ = 0 ∧ givenK.mark ⟨5, 1⟩ ⟨0, 1⟩ = ⟨5, 1⟩ := by decide +kernel
theorem dec_tot : givenK.code = 0 ∧ givenK.tot = 20 := by decide +kernel
theorem rt_wf {n d : Int} (h0 : -1000000 ≤ n := by decide) (h1 : n ≤ 1000000 := by decide) (h2 : -1000000 ≤ d := by decide) (h3 : d ≤ 1000000 := by decide) : Rt.wf ⟨n, d⟩ := ⟨by simp only; omega, by simp only; omega, by simp only; omega, by simp only; omega⟩
set_option maxRecDepth 100000 in
set_option maxHeartbeats 8000000 in
theorem alive_any (w : World) : Calls Try.prog 31 #[] w fun e w' => e = .returned (.bool true) ∧ Below w.heap.size w w' := by
  have hB0 : Bx w [] w := Bx.start w
  have HG := Lib.hid given_any
  go_enter Try.func31, Try.ntmps31
  go_wp2_with fail
  refine (given_any _).mono ?_
  rintro e w1 ⟨A, c, R, d, rfl, hF, hb⟩
  have hB1 := hB0.next hb
  have hK := hF.here
  clear hb hF hB0
  have HQ := ctotal_any givenK A c R d _ hK
  rw [dec_tot.1, dec_tot.2] at HQ
  go_wp2_with fail
  refine HQ.mono ?_
  rintro e w2 ⟨rfl, hb⟩
  have hB2 := hB1.next hb
  clear hb hK HQ hB1
  go_wp2_with fail
  refine (given_any _).mono ?_
  rintro e w3 ⟨A, c, R, d, rfl, hF, hb⟩
  have hB3 := hB2.next hb
  have hK := hF.here
  clear hb hF hB2
  go_wp2_with fail
  refine (lof_any 1 _).mono ?_
  rintro e w4 ⟨rfl, hb⟩
  have hB4 := hB3.next hb
  have hK := hK.next hb
  clear hb hB3
  go_wp2_with fail
  refine (lof_any 7 _).mono ?_
  rintro e w5 ⟨rfl, hb⟩
  have hB5 := hB4.next hb
  have hK := hK.next hb
  clear hb hB4
  have HQ := cvalue_any givenK A c R d ⟨1, 1⟩ ⟨7, 1⟩ rt_wf rt_wf _ hK
  rw [dec_val1.1, dec_val1.2] at HQ
  go_wp2_with fail
  refine HQ.mono ?_
  rintro e w6 ⟨rfl, hb⟩
  have hB6 := hB5.next hb
  clear hb hK HQ hB5
  go_upto_region 3 with fail
  have hB7 := hB6.new rfl (rB ⟨9, 1⟩)
  clear hB6
  generalize w6.heap.size = gV at *
  generalize w6.alloc _ = w7 at *
  go_wp2_with fail
  refine (given_any _).mono ?_
  rintro e w8 ⟨A, c, R, d, rfl, hF, hb⟩
  have hB8 := hB7.next hb
  have hK := hF.here
  clear hb hF hB7
  go_wp2_with fail
  refine (lof_any 0 _).mono ?_
  rintro e w9 ⟨rfl, hb⟩
  have hB9 := hB8.next hb
  have hK := hK.next hb
  clear hb hB8
  go_wp2_with fail
  refine (lof_any 8 _).mono ?_
  rintro e w10 ⟨rfl, hb⟩
  have hB10 := hB9.next hb
  have hK := hK.next hb
  clear hb hB9
  have HQ := cmark_any givenK A c R d ⟨0, 1⟩ ⟨8, 1⟩ rt_wf rt_wf _ hK
  rw [dec_m1.1, dec_m1.2] at HQ
  go_wp2_with fail
  refine HQ.mono ?_
  rintro e w11 ⟨rfl, hb⟩
  have hB11 := hB10.next hb
  clear hb hK HQ hB10
  go_upto_region 4 with fail
  have hB12 := hB11.new rfl (rB ⟨4, 1⟩)
  clear hB11
  generalize w11.heap.size = gA at *
  generalize w11.alloc _ = w12 at *
  go_wp2_with fail
  refine (given_any _).mono ?_
  rintro e w13 ⟨A, c, R, d, rfl, hF, hb⟩
  have hB13 := hB12.next hb
  have hK := hF.here
  clear hb hF hB12
  go_wp2_with fail
  refine (lof_any 0 _).mono ?_
  rintro e w14 ⟨rfl, hb⟩
  have hB14 := hB13.next hb
  have hK := hK.next hb
  clear hb hB13
  go_wp2_with fail
  refine (lof_any 9 _).mono ?_
  rintro e w15 ⟨rfl, hb⟩
  have hB15 := hB14.next hb
  have hK := hK.next hb
  clear hb hB14
  have HQ := cmark_any givenK A c R d ⟨0, 1⟩ ⟨9, 1⟩ rt_wf rt_wf _ hK
  rw [dec_m2.1, dec_m2.2] at HQ
  go_wp2_with fail
  refine HQ.mono ?_
  rintro e w16 ⟨rfl, hb⟩
  have hB16 := hB15.next hb
  clear hb hK HQ hB15
  go_upto_region 5 with fail
  have hB17 := hB16.new rfl (rB ⟨19, 3⟩)
  clear hB16
  generalize w16.heap.size = gB at *
  generalize w16.alloc _ = w17 at *
  go_wp2_with fail
  refine (given_any _).mono ?_
  rintro e w18 ⟨A, c, R, d, rfl, hF, hb⟩
  have hB18 := hB17.next hb
  have hK := hF.here
  clear hb hF hB17
  go_wp2_with fail
  refine (lof_any 0 _).mono ?_
  rintro e w19 ⟨rfl, hb⟩
  have hB19 := hB18.next hb
  have hK := hK.next hb
  clear hb hB18
  go_wp2_with fail
  refine (lof_any 21 _).mono ?_
  rintro e w20 ⟨rfl, hb⟩
  have hB20 := hB19.next hb
  have hK := hK.next hb
  clear hb hB19
  have HQ := cmark_any givenK A c R d ⟨0, 1⟩ ⟨21, 1⟩ rt_wf rt_wf _ hK
  rw [dec_m3.1, dec_m3.2] at HQ
  go_wp2_with fail
  refine HQ.mono ?_
  rintro e w21 ⟨rfl, hb⟩
  have hB21 := hB20.next hb
  clear hb hK HQ hB20
  go_upto_region 6 with fail
  have hB22 := hB21.new rfl (rB ⟨0, 0⟩)
  clear hB21
  generalize w21.heap.size = gN at *
  generalize w21.alloc _ = w22 at *
  go_wp2_with fail
  refine (given_any _).mono ?_
  rintro e w23 ⟨A, c, R, d, rfl, hF, hb⟩
  have hB23 := hB22.next hb
  have hK := hF.here
  clear hb hF hB22
  go_wp2_with fail
  refine (lof_any 5 _).mono ?_
  rintro e w24 ⟨rfl, hb⟩
  have hB24 := hB23.next hb
  have hK := hK.next hb
  clear hb hB23
  go_wp2_with fail
  refine (lof_any 0 _).mono ?_
  rintro e w25 ⟨rfl, hb⟩
  have hB25 := hB24.next hb
  have hK := hK.next hb
  clear hb hB24
  have HQ := cmark_any givenK A c R d ⟨5, 1⟩ ⟨0, 1⟩ rt_wf rt_wf _ hK
  rw [dec_m4.1, dec_m4.2] at HQ
  go_wp2_with fail
  refine HQ.mono ?_
  rintro e w26 ⟨rfl, hb⟩
  have hB26 := hB25.next hb
  clear hb hK HQ hB25
  go_upto_region 7 with fail
  have hB27 := hB26.new rfl (rB ⟨5, 1⟩)
  clear hB26
  generalize w26.heap.size = gC at *
  generalize w26.alloc _ = w27 at *
  have c_c := fun j => cell_of_row _ _ j _ _ _ (hB27.get 0 rfl)
  have z_c := hB27.lt 0 rfl
  have c_b := fun j => cell_of_row _ _ j _ _ _ (hB27.get 2 rfl)
  have z_b := hB27.lt 2 rfl
  have c_a := fun j => cell_of_row _ _ j _ _ _ (hB27.get 3 rfl)
  have z_a := hB27.lt 3 rfl
  have c_v := fun j => cell_of_row _ _ j _ _ _ (hB27.get 4 rfl)
  have z_v := hB27.lt 4 rfl
  go_wp2_with fail
  refine wp_region_ext (by kernel_rfl) (by kernel_rfl) ?_
  repeat (first | go_big_quiet_step ((first | (go_at_call 36; exact calls_ext (lof_any _ _)))) | quiet_step ((first | (go_at_call 36; exact calls_ext (lof_any _ _)))))
  refine wpQuiet_nil ?_
  rintro _ ⟨⟨w28, hb⟩, rfl⟩
  have hB28 := hB27.next hb
  clear c_c z_c c_b z_b c_a z_a c_v z_v hb hB27
  have HE := Lib.hid hB28.below
  clear hB28
  go_wp2_with fail
  go_ret
  exact ⟨rfl, HE.out⟩
end Go.Proofs.Ytgcbmnohhbcfiaa
