/- The small functions of the laws of cakes. -/
import Derived.Test.YtgcbmnohhbcfiaaCm12
import Derived.Test.YtgcbmnohhbcfiaaCm9
import Derived.Test.YtgcbmnohhbcfiaaCm5
import Derived.Lib.SlicesCompact
import Derived.Test.YtgcbmnohhbcfiaaCm10
import Derived.Test.YtgcbmnohhbcfiaaCm11
namespace Go.Proofs.Ytgcbmnohhbcfiaa
open Go.RowKit Go.Deep
set_option linter.unusedVariables false
set_option linter.unusedSimpArgs false

/-- What hangs on nothing but what was made since. -/
def Fresh (B0 : Nat) (w : World) (F : World → Prop) : Prop := ∀ W : World, w.heap.size ≤ W.heap.size → (∀ g, B0 ≤ g → g < w.heap.size → W.heap[g]? = w.heap[g]?) → F W
theorem Fresh.here {B0 : Nat} {w : World} {F : World → Prop} (h : Fresh B0 w F) : F w := h w (Nat.le_refl _) (fun _ _ _ => rfl)
theorem Fresh.ext {B0 : Nat} {w W : World} {F : World → Prop} (h : Fresh B0 w F) (hb : Below w.heap.size w W) : F W := h W hb.size (fun g _ hg => hb.block g hg)
theorem Fresh.rk {B0 : Nat} {w0 w1 W : World} {X : List Nat} {F : World → Prop} (h : Fresh B0 w1 F) (k : RK w0 w1 X W) (hX : ∀ g, g ∈ X → g < B0 ∨ w1.heap.size ≤ g) : F W :=
  h W k.s (fun g h1 h2 => k.k g h2 (fun hm => (hX g hm).elim (fun q => by omega) (fun q => by omega)))
theorem Ints.of_lit {B g : Nat} {w : World} {cs : Array Value} {t : TypeId} {fr : Nat × Nat} {xs : List Int} (h : w.heap[g]? = some (.cells cs t fr)) (hB : g < B) (hc : cs.toList = xs.map (Value.int .i64)) : Ints B w (some ⟨g, 0, none⟩) xs :=
  fun h0 => ⟨_, rfl, hB, fun k hk => by
    rw [add_mk, Nat.zero_add, cell_of_row w g k cs t fr h, ← Array.getElem?_toList, hc, List.getElem?_map, List.getElem?_eq_getElem hk, gi_get hk]; rfl⟩
/-- A cake of the call's own. -/
def CkRes (K : Ck) (w : World) (e : Ending) (w' : World) : Prop := ∃ (A : Option Addr) (c : Nat) (R : Option Addr) (d : Nat), e = .returned (cV A c R d K) ∧ Fresh w.heap.size w' (fun W => CIn W.heap.size W A c R d K) ∧ Below w.heap.size w w'
/-- A cake that is written out. -/
theorem ck_lit {B0 g1 g2 : Nat} {w : World} {cs0 cs1 : Array Value} {t u : TypeId} {K : Ck} (hg1 : B0 ≤ g1) (hg2 : B0 ≤ g2) (h1 : w.heap[g1]? = some (.cells cs0 t)) (h2 : w.heap[g2]? = some (.cells cs1 u))
    (c0 : cs0.toList = K.cuts.map (Value.int .i64)) (c1 : cs1.toList = K.dens.map (Value.int .i64)) {c d : Nat} (lc : K.cuts.length = c) (ld : K.dens.length = d) (mc : c ≤ 1000) (md : d ≤ 1000) (w0 : -1000000 ≤ K.len) (w1 : K.len ≤ 1000000) :
    Fresh B0 w (fun W => CIn W.heap.size W (some ⟨g1, 0, none⟩) c (some ⟨g2, 0, none⟩) d K) := by
  intro W hs hk
  have z1 := lt_some h1
  have z2 := lt_some h2
  exact ⟨Ints.of_lit ((hk g1 hg1 z1).trans h1) (by omega) c0, Ints.of_lit ((hk g2 hg2 z2).trans h2) (by omega) c1, by omega, by unfold maxLen; omega, by omega, by unfold maxLen; omega, by omega, by omega⟩
def givenK : Ck := ⟨10, [0, 4, 6, 10], [2, 0, 3]⟩
set_option maxHeartbeats 1000000 in
theorem given_any (w : World) : Calls Try.prog 45 #[] w (CkRes givenK w) := by
  have h1 : (((w.alloc (cB (some ⟨w.heap.size + 1, 0, none⟩) 4 (some ⟨w.heap.size + 1 + 1, 0, none⟩) 3 givenK)).alloc (.cells #[.int .i64 0, .int .i64 4, .int .i64 6, .int .i64 10] 3)).alloc (.cells #[.int .i64 2, .int .i64 0, .int .i64 3] 3)).heap[w.heap.size + 1]? = some (.cells #[.int .i64 0, .int .i64 4, .int .i64 6, .int .i64 10] 3) := heap_old (heap_new (by simp))
  have h2 : (((w.alloc (cB (some ⟨w.heap.size + 1, 0, none⟩) 4 (some ⟨w.heap.size + 1 + 1, 0, none⟩) 3 givenK)).alloc (.cells #[.int .i64 0, .int .i64 4, .int .i64 6, .int .i64 10] 3)).alloc (.cells #[.int .i64 2, .int .i64 0, .int .i64 3] 3)).heap[w.heap.size + 1 + 1]? = some (.cells #[.int .i64 2, .int .i64 0, .int .i64 3] 3) := heap_new (by simp)
  have hb : Below w.heap.size w (((w.alloc (cB (some ⟨w.heap.size + 1, 0, none⟩) 4 (some ⟨w.heap.size + 1 + 1, 0, none⟩) 3 givenK)).alloc (.cells #[.int .i64 0, .int .i64 4, .int .i64 6, .int .i64 10] 3)).alloc (.cells #[.int .i64 2, .int .i64 0, .int .i64 3] 3)) := ((one_alloc w _).alloc (by simp) _).alloc (by simp; omega) _
  have HF := Lib.hid (ck_lit (B0 := w.heap.size) (K := givenK) (by omega) (by omega) h1 h2 rfl rfl rfl rfl (by decide) (by decide) (by decide) (by decide))
  have HB := Lib.hid hb
  clear h1 h2 hb
  go_enter Try.func45, Try.ntmps45
  go_wp2_with fail
  refine bodyPost_ret (v := cV (some ⟨w.heap.size + 1, 0, none⟩) 4 (some ⟨w.heap.size + 1 + 1, 0, none⟩) 3 givenK) (by simp [results, Try.results45, go_sem, givenK]) rfl ⟨_, _, _, _, rfl, HF.out, HB.out⟩
theorem lof_any (n : Int) (w : World) : Calls Try.prog 36 #[.int .i64 n] w fun e w' => e = .returned (rV ⟨n, 1⟩) ∧ Below w.heap.size w w' := by
  go_enter Try.func36, Try.ntmps36
  go_wp2_with fail
  refine bodyPost_ret (v := rV ⟨n, 1⟩) (by simp [results, Try.results36, go_sem]) rfl ⟨rfl, ?_⟩
  exact one_alloc _ _
/-- A valid cake, and two points in order. -/
def validB (K : Ck) (a b : Rt) : Bool := !K.big && decide (K.code = 0) && pointB K.len a && pointB K.len b && !ltB b a
set_option maxRecDepth 100000 in
set_option maxHeartbeats 8000000 in
theorem valid_any (K : Ck) (A : Option Addr) (c : Nat) (R : Option Addr) (d : Nat) (a b : Rt) (ha : a.wf) (hb : b.wf) (w : World) (h : CIn w.heap.size w A c R d K) :
    Calls Try.prog 29 #[cV A c R d K, rV a, rV b] w fun e w' => e = .returned (.bool (validB K a b)) ∧ Below w.heap.size w w' := by
  have hB0 : Bx w [(w.heap.size + 1 + 1, rB b), (w.heap.size + 1, rB a), (w.heap.size, cB A c R d K)] (((w.alloc (cB A c R d K)).alloc (rB a)).alloc (rB b)) :=
    (((Bx.start w).new rfl _).new (by simp) _).new (by simp) _
  have HG := Lib.hid (fun (W : World) => cgreat_any K A c R d (Nat.le_trans h.lc h.mc) (Nat.le_trans h.ld h.md) W)
  have HC := Lib.hid (fun (W : World) (hW : Below w.heap.size w W) => fckcheck_any K A c R d W (h.next hW))
  have HPA := Lib.hid (fun (h0 : 0 ≤ K.len) (h1 : K.len ≤ 1000) (W : World) => fpoint_any K.len a ha h0 h1 W)
  have HPB := Lib.hid (fun (h0 : 0 ≤ K.len) (h1 : K.len ≤ 1000) (W : World) => fpoint_any K.len b hb h0 h1 W)
  have HV := Lib.hid (show validB K a b = (!K.big && decide (K.code = 0) && pointB K.len a && pointB K.len b && !ltB b a) from rfl)
  clear h ha hb
  go_enter Try.func29, Try.ntmps29
  go_upto_region 1 with fail
  generalize hw0 : ((w.alloc (cB A c R d K)).alloc (rB a)).alloc (rB b) = w0 at *
  clear hw0
  generalize w.heap.size + 1 + 1 = gB at *
  generalize w.heap.size + 1 = gA at *
  have c_K := fun j => cell_of_row _ _ j _ _ _ (hB0.get 2 rfl)
  have z_K := hB0.lt 2 rfl
  obtain ⟨kb, hkb⟩ : ∃ x, x = K.big := ⟨_, rfl⟩
  rw [← hkb] at HG HV
  clear hkb
  cases kb with
  | true =>
    go_wp2_with fail
    refine (HG.out _).mono ?_
    rintro e w1 ⟨rfl, hb⟩
    have hB1 := hB0.next hb
    clear c_K z_K hb hB0
    have HE := Lib.hid hB1.below
    clear hB1
    go_wp2_with fail
    go_ret
    exact ⟨ret_bool (by rw [HV.out]; rfl), HE.out⟩
  | false =>
  go_wp2_with fail
  refine (HG.out _).mono ?_
  rintro e w1 ⟨rfl, hb⟩
  have hB1 := hB0.next hb
  clear c_K z_K hb hB0
  have c_K := fun j => cell_of_row _ _ j _ _ _ (hB1.get 2 rfl)
  have z_K := hB1.lt 2 rfl
  by_cases hc : K.code = 0
  rotate_left
  · have q : (K.code == 0) = false := by simpa using hc
    rw [decide_eq_false hc] at HV
    clear hc
    generalize K.code = kc at *
    go_wp2_with fail
    refine (HC.out _ hB1.below).mono ?_
    rintro e w2 ⟨rfl, hb⟩
    have hB2 := hB1.next hb
    clear c_K z_K hb hB1
    have HE := Lib.hid hB2.below
    clear hB2
    go_wp2_with fail
    go_ret
    exact ⟨ret_bool (by rw [HV.out]; rfl), HE.out⟩
  have HK := Lib.hid (Ck.ok_code hc)
  rw [decide_eq_true hc] at HV
  rw [hc] at HC
  clear hc
  have l1 := HK.out.l1
  have l2 := HK.out.l2
  have HPA := Lib.hid (HPA.out (by omega) l2)
  have HPB := Lib.hid (HPB.out (by omega) l2)
  have HQA := Lib.hid (fun (h : pointB K.len a = true) => (point_q (by omega) l2).1 h)
  have HQB := Lib.hid (fun (h : pointB K.len b = true) => (point_q (by omega) l2).1 h)
  clear l1 l2
  go_wp2_with fail
  refine (HC.out _ hB1.below).mono ?_
  rintro e w2 ⟨rfl, hb⟩
  have hB2 := hB1.next hb
  clear c_K z_K hb hB1
  have c_b := fun j => cell_of_row _ _ j _ _ _ (hB2.get 0 rfl)
  have z_b := hB2.lt 0 rfl
  have c_a := fun j => cell_of_row _ _ j _ _ _ (hB2.get 1 rfl)
  have z_a := hB2.lt 1 rfl
  have c_K := fun j => cell_of_row _ _ j _ _ _ (hB2.get 2 rfl)
  have z_K := hB2.lt 2 rfl
  cases hp : pointB K.len a with
  | false =>
    rw [hp] at HPA HV
    clear hp
    go_wp2_with fail
    refine (HPA.out _).mono ?_
    rintro e w3 ⟨rfl, hb⟩
    have hB3 := hB2.next hb
    clear c_b z_b c_a z_a c_K z_K hb hB2
    have HE := Lib.hid hB3.below
    clear hB3
    go_wp2_with fail
    go_ret
    exact ⟨ret_bool (by rw [HV.out]; first | rfl | simp), HE.out⟩
  | true =>
  have HPa := Lib.hid hp
  rw [hp] at HPA HV
  clear hp
  go_wp2_with fail
  refine (HPA.out _).mono ?_
  rintro e w3 ⟨rfl, hb⟩
  have hB3 := hB2.next hb
  clear c_b z_b c_a z_a c_K z_K hb hB2
  have c_b := fun j => cell_of_row _ _ j _ _ _ (hB3.get 0 rfl)
  have z_b := hB3.lt 0 rfl
  have c_a := fun j => cell_of_row _ _ j _ _ _ (hB3.get 1 rfl)
  have z_a := hB3.lt 1 rfl
  have c_K := fun j => cell_of_row _ _ j _ _ _ (hB3.get 2 rfl)
  have z_K := hB3.lt 2 rfl
  cases hp : pointB K.len b with
  | false =>
    rw [hp] at HPB HV
    clear hp
    go_wp2_with fail
    refine (HPB.out _).mono ?_
    rintro e w4 ⟨rfl, hb⟩
    have hB4 := hB3.next hb
    clear c_b z_b c_a z_a c_K z_K hb hB3
    have HE := Lib.hid hB4.below
    clear hB4
    go_wp2_with fail
    go_ret
    exact ⟨ret_bool (by rw [HV.out]; first | rfl | simp), HE.out⟩
  | true =>
  have HPb := Lib.hid hp
  rw [hp] at HPB HV
  clear hp
  go_wp2_with fail
  refine (HPB.out _).mono ?_
  rintro e w4 ⟨rfl, hb⟩
  have hB4 := hB3.next hb
  clear c_b z_b c_a z_a c_K z_K hb hB3
  have HLT := Lib.hid (fun (W : World) => flt_any b a (HQB.out HPb.out).1 (HQA.out HPa.out).1 W)
  generalize ltB b a = lb at *
  have c_b := fun j => cell_of_row _ _ j _ _ _ (hB4.get 0 rfl)
  have z_b := hB4.lt 0 rfl
  have c_a := fun j => cell_of_row _ _ j _ _ _ (hB4.get 1 rfl)
  have z_a := hB4.lt 1 rfl
  go_wp2_with fail
  refine (HLT.out _).mono ?_
  rintro e w5 ⟨rfl, hb⟩
  have hB5 := hB4.next hb
  clear c_b z_b c_a z_a hb hB4
  have HE := Lib.hid hB5.below
  clear hB5
  go_wp2_with fail
  go_ret
  exact ⟨ret_bool (by rw [HV.out]; cases lb <;> rfl), HE.out⟩
theorem dec_val1 : givenK.valC ⟨1, 1⟩ ⟨7, 1⟩ = 0 ∧ givenK.val ⟨1, 1⟩ ⟨7, 1⟩ = ⟨9, 1⟩ := by decide +kernel
theorem dec_m1 : givenK.markC ⟨0, 1⟩ ⟨8, 1⟩ = 0 ∧ givenK.mark ⟨0, 1⟩ ⟨8, 1⟩ = ⟨4, 1⟩ := by decide +kernel
theorem dec_m2 : givenK.markC ⟨0, 1⟩ ⟨9, 1⟩ = 0 ∧ givenK.mark ⟨0, 1⟩ ⟨9, 1⟩ = ⟨19, 3⟩ := by decide +kernel
theorem dec_m3 : givenK.markC ⟨0, 1⟩ ⟨21, 1⟩ = 6 ∧ givenK.mark ⟨0, 1⟩ ⟨21, 1⟩ = ⟨0, 0⟩ := by decide +kernel
theorem dec_m4 : givenK.markC ⟨5, 1⟩ ⟨0, 1⟩ = 0 ∧ givenK.mark ⟨5, 1⟩ ⟨0, 1⟩ = ⟨5, 1⟩ := by decide +kernel
theorem dec_tot : givenK.code = 0 ∧ givenK.tot = 20 := by decide +kernel
theorem rt_wf {n d : Int} (h0 : -1000000 ≤ n := by decide) (h1 : n ≤ 1000000 := by decide) (h2 : -1000000 ≤ d := by decide) (h3 : d ≤ 1000000 := by decide) : Rt.wf ⟨n, d⟩ := ⟨by simp only; omega, by simp only; omega, by simp only; omega, by simp only; omega⟩
set_option maxRecDepth 100000 in
set_option maxHeartbeats 8000000 in
theorem alive_any (w : World) : Calls Try.prog 31 #[] w fun e w' => e = .returned (.bool true) ∧ Below w.heap.size w w' := by
  have hB0 : Bx w [] w := Bx.start w
  have HG := Lib.hid given_any
  go_enter Try.func31, Try.ntmps31
  go_wp2_with fail
  refine (given_any _).mono ?_
  rintro e w1 ⟨A, c, R, d, rfl, hF, hb⟩
  have hB1 := hB0.next hb
  have hK := hF.here
  clear hb hF hB0
  have HQ := ctotal_any givenK A c R d _ hK
  rw [dec_tot.1, dec_tot.2] at HQ
  go_wp2_with fail
  refine HQ.mono ?_
  rintro e w2 ⟨rfl, hb⟩
  have hB2 := hB1.next hb
  clear hb hK HQ hB1
  go_wp2_with fail
  refine (given_any _).mono ?_
  rintro e w3 ⟨A, c, R, d, rfl, hF, hb⟩
  have hB3 := hB2.next hb
  have hK := hF.here
  clear hb hF hB2
  go_wp2_with fail
  refine (lof_any 1 _).mono ?_
  rintro e w4 ⟨rfl, hb⟩
  have hB4 := hB3.next hb
  have hK := hK.next hb
  clear hb hB3
  go_wp2_with fail
  refine (lof_any 7 _).mono ?_
  rintro e w5 ⟨rfl, hb⟩
  have hB5 := hB4.next hb
  have hK := hK.next hb
  clear hb hB4
  have HQ := cvalue_any givenK A c R d ⟨1, 1⟩ ⟨7, 1⟩ rt_wf rt_wf _ hK
  rw [dec_val1.1, dec_val1.2] at HQ
  go_wp2_with fail
  refine HQ.mono ?_
  rintro e w6 ⟨rfl, hb⟩
  have hB6 := hB5.next hb
  clear hb hK HQ hB5
  go_upto_region 3 with fail
  have hB7 := hB6.new rfl (rB ⟨9, 1⟩)
  clear hB6
  generalize w6.heap.size = gV at *
  generalize w6.alloc _ = w7 at *
  go_wp2_with fail
  refine (given_any _).mono ?_
  rintro e w8 ⟨A, c, R, d, rfl, hF, hb⟩
  have hB8 := hB7.next hb
  have hK := hF.here
  clear hb hF hB7
  go_wp2_with fail
  refine (lof_any 0 _).mono ?_
  rintro e w9 ⟨rfl, hb⟩
  have hB9 := hB8.next hb
  have hK := hK.next hb
  clear hb hB8
  go_wp2_with fail
  refine (lof_any 8 _).mono ?_
  rintro e w10 ⟨rfl, hb⟩
  have hB10 := hB9.next hb
  have hK := hK.next hb
  clear hb hB9
  have HQ := cmark_any givenK A c R d ⟨0, 1⟩ ⟨8, 1⟩ rt_wf rt_wf _ hK
  rw [dec_m1.1, dec_m1.2] at HQ
  go_wp2_with fail
  refine HQ.mono ?_
  rintro e w11 ⟨rfl, hb⟩
  have hB11 := hB10.next hb
  clear hb hK HQ hB10
  go_upto_region 4 with fail
  have hB12 := hB11.new rfl (rB ⟨4, 1⟩)
  clear hB11
  generalize w11.heap.size = gA at *
  generalize w11.alloc _ = w12 at *
  go_wp2_with fail
  refine (given_any _).mono ?_
  rintro e w13 ⟨A, c, R, d, rfl, hF, hb⟩
  have hB13 := hB12.next hb
  have hK := hF.here
  clear hb hF hB12
  go_wp2_with fail
  refine (lof_any 0 _).mono ?_
  rintro e w14 ⟨rfl, hb⟩
  have hB14 := hB13.next hb
  have hK := hK.next hb
  clear hb hB13
  go_wp2_with fail
  refine (lof_any 9 _).mono ?_
  rintro e w15 ⟨rfl, hb⟩
  have hB15 := hB14.next hb
  have hK := hK.next hb
  clear hb hB14
  have HQ := cmark_any givenK A c R d ⟨0, 1⟩ ⟨9, 1⟩ rt_wf rt_wf _ hK
  rw [dec_m2.1, dec_m2.2] at HQ
  go_wp2_with fail
  refine HQ.mono ?_
  rintro e w16 ⟨rfl, hb⟩
  have hB16 := hB15.next hb
  clear hb hK HQ hB15
  go_upto_region 5 with fail
  have hB17 := hB16.new rfl (rB ⟨19, 3⟩)
  clear hB16
  generalize w16.heap.size = gB at *
  generalize w16.alloc _ = w17 at *
  go_wp2_with fail
  refine (given_any _).mono ?_
  rintro e w18 ⟨A, c, R, d, rfl, hF, hb⟩
  have hB18 := hB17.next hb
  have hK := hF.here
  clear hb hF hB17
  go_wp2_with fail
  refine (lof_any 0 _).mono ?_
  rintro e w19 ⟨rfl, hb⟩
  have hB19 := hB18.next hb
  have hK := hK.next hb
  clear hb hB18
  go_wp2_with fail
  refine (lof_any 21 _).mono ?_
  rintro e w20 ⟨rfl, hb⟩
  have hB20 := hB19.next hb
  have hK := hK.next hb
  clear hb hB19
  have HQ := cmark_any givenK A c R d ⟨0, 1⟩ ⟨21, 1⟩ rt_wf rt_wf _ hK
  rw [dec_m3.1, dec_m3.2] at HQ
  go_wp2_with fail
  refine HQ.mono ?_
  rintro e w21 ⟨rfl, hb⟩
  have hB21 := hB20.next hb
  clear hb hK HQ hB20
  go_upto_region 6 with fail
  have hB22 := hB21.new rfl (rB ⟨0, 0⟩)
  clear hB21
  generalize w21.heap.size = gN at *
  generalize w21.alloc _ = w22 at *
  go_wp2_with fail
  refine (given_any _).mono ?_
  rintro e w23 ⟨A, c, R, d, rfl, hF, hb⟩
  have hB23 := hB22.next hb
  have hK := hF.here
  clear hb hF hB22
  go_wp2_with fail
  refine (lof_any 5 _).mono ?_
  rintro e w24 ⟨rfl, hb⟩
  have hB24 := hB23.next hb
  have hK := hK.next hb
  clear hb hB23
  go_wp2_with fail
  refine (lof_any 0 _).mono ?_
  rintro e w25 ⟨rfl, hb⟩
  have hB25 := hB24.next hb
  have hK := hK.next hb
  clear hb hB24
  have HQ := cmark_any givenK A c R d ⟨5, 1⟩ ⟨0, 1⟩ rt_wf rt_wf _ hK
  rw [dec_m4.1, dec_m4.2] at HQ
  go_wp2_with fail
  refine HQ.mono ?_
  rintro e w26 ⟨rfl, hb⟩
  have hB26 := hB25.next hb
  clear hb hK HQ hB25
  go_upto_region 7 with fail
  have hB27 := hB26.new rfl (rB ⟨5, 1⟩)
  clear hB26
  generalize w26.heap.size = gC at *
  generalize w26.alloc _ = w27 at *
  have c_c := fun j => cell_of_row _ _ j _ _ _ (hB27.get 0 rfl)
  have z_c := hB27.lt 0 rfl
  have c_b := fun j => cell_of_row _ _ j _ _ _ (hB27.get 2 rfl)
  have z_b := hB27.lt 2 rfl
  have c_a := fun j => cell_of_row _ _ j _ _ _ (hB27.get 3 rfl)
  have z_a := hB27.lt 3 rfl
  have c_v := fun j => cell_of_row _ _ j _ _ _ (hB27.get 4 rfl)
  have z_v := hB27.lt 4 rfl
  go_wp2_with fail
  refine wp_region_ext (by kernel_rfl) (by kernel_rfl) ?_
  repeat (first | go_big_quiet_step ((first | (go_at_call 36; exact calls_ext (lof_any _ _)))) | quiet_step ((first | (go_at_call 36; exact calls_ext (lof_any _ _)))))
  refine wpQuiet_nil ?_
  rintro _ ⟨⟨w28, hb⟩, rfl⟩
  have hB28 := hB27.next hb
  clear c_c z_c c_b z_b c_a z_a c_v z_v hb hB27
  have HE := Lib.hid hB28.below
  clear hB28
  go_wp2_with fail
  go_ret
  exact ⟨rfl, HE.out⟩
end Go.Proofs.Ytgcbmnohhbcfiaa

namespace Go.Proofs.Ytgcbmnohhbcfiaa
set_option linter.unusedVariables false
set_option linter.unusedSimpArgs false

theorem gi_app_lt {l m : List Int} {i : Nat} (h : i < l.length) : gi (l ++ m) i = gi l i := by simp [gi, List.getD_eq_getElem?_getD, List.getElem?_append_left h]
theorem gi_app_at (l : List Int) (x : Int) : gi (l ++ [x]) l.length = x := by simp [gi, List.getD_eq_getElem?_getD]
theorem gi_app_at' {l : List Int} {x : Int} {n : Nat} (h : n = l.length) : gi (l ++ [x]) n = x := by subst h; exact gi_app_at l x
def keepI (ds : List Int) (i : Nat) : Bool := decide (i = 0 ∨ gi ds i ≠ gi ds (i - 1))
/-- The cuts, and the densities, at which the first k intervals differ. -/
def nCuts (K : Ck) : Nat → List Int
  | 0 => []
  | k + 1 => if keepI K.dens k = true then nCuts K k ++ [gi K.cuts k] else nCuts K k
def nDens (K : Ck) : Nat → List Int
  | 0 => []
  | k + 1 => if keepI K.dens k = true then nDens K k ++ [gi K.dens k] else nDens K k
def Ck.norm (K : Ck) : Ck := ⟨K.len, nCuts K K.dens.length ++ [K.len], nDens K K.dens.length⟩
def Ck.zero : Ck := ⟨0, [], []⟩
def Ck.norm? (K : Ck) : Ck := if K.code = 0 then K.norm else Ck.zero
theorem nCuts_yes {K : Ck} {k : Nat} (h : keepI K.dens k = true) : nCuts K (k + 1) = nCuts K k ++ [gi K.cuts k] := by rw [nCuts, if_pos h]
theorem nCuts_no {K : Ck} {k : Nat} (h : keepI K.dens k = false) : nCuts K (k + 1) = nCuts K k := by rw [nCuts, if_neg (by rw [h]; decide)]
theorem nDens_yes {K : Ck} {k : Nat} (h : keepI K.dens k = true) : nDens K (k + 1) = nDens K k ++ [gi K.dens k] := by rw [nDens, if_pos h]
theorem nDens_no {K : Ck} {k : Nat} (h : keepI K.dens k = false) : nDens K (k + 1) = nDens K k := by rw [nDens, if_neg (by rw [h]; decide)]
theorem compact_dens (K : Ck) : Lib.compact K.dens = nDens K K.dens.length := by
  have key : ∀ k, k ≤ K.dens.length → Lib.compactUpTo K.dens.toArray k = nDens K k := by
    intro k
    induction k with
    | zero => intro _; rfl
    | succ k ih =>
      intro hk
      rw [Lib.compactUpTo_succ, ih (by omega)]
      have e1 : K.dens.toArray[k]! = gi K.dens k := by simp [gi, List.getD_eq_getElem?_getD, Array.getElem!_eq_getD, Array.getD]; split <;> simp_all
      have e2 : K.dens.toArray[k - 1]! = gi K.dens (k - 1) := by simp [gi, List.getD_eq_getElem?_getD, Array.getElem!_eq_getD, Array.getD]; split <;> simp_all
      have e3 : Lib.keeps K.dens.toArray k = keepI K.dens k := by unfold Lib.keeps keepI; rw [e1, e2]
      rw [e3]
      cases h : keepI K.dens k with
      | true => rw [nDens_yes h, if_pos rfl, e1]
      | false => rw [nDens_no h, if_neg (by decide)]; simp
  exact key _ (Nat.le_refl _)
theorem nLen (K : Ck) : ∀ k, (nCuts K k).length = (nDens K k).length
  | 0 => rfl
  | k + 1 => by
    cases h : keepI K.dens k with
    | true => rw [nCuts_yes h, nDens_yes h]; simp [nLen K k]
    | false => rw [nCuts_no h, nDens_no h]; exact nLen K k
theorem nLen_le (K : Ck) : ∀ k, (nDens K k).length ≤ k
  | 0 => Nat.le_refl _
  | k + 1 => by
    have := nLen_le K k
    cases h : keepI K.dens k with
    | true => rw [nDens_yes h]; simp; omega
    | false => rw [nDens_no h]; omega
theorem nLen_pos (K : Ck) : ∀ k, 0 < k → 0 < (nDens K k).length
  | 0, h => by omega
  | k + 1, _ => by
    cases h : keepI K.dens k with
    | true => rw [nDens_yes h]; simp
    | false =>
      rw [nDens_no h]
      rcases Nat.eq_zero_or_pos k with e | e
      · subst e; simp [keepI] at h
      · exact nLen_pos K k e
/-- The densities without the last one: what the reference has at hand. -/
def rDens (K : Ck) : Nat → List Int
  | 0 => []
  | k + 1 => if keepI K.dens k = true ∧ 0 < k then rDens K k ++ [gi K.dens (k - 1)] else rDens K k
theorem rDens_last (K : Ck) : ∀ k, 0 < k → nDens K k = rDens K k ++ [gi K.dens (k - 1)]
  | 0, h => by omega
  | k + 1, _ => by
    rcases Nat.eq_zero_or_pos k with e | e
    · subst e; rfl
    · have ih := rDens_last K k e
      cases h : keepI K.dens k with
      | true => rw [nDens_yes h, ih, rDens, if_pos ⟨h, e⟩]; simp
      | false =>
        rw [nDens_no h, ih, rDens, if_neg (by rw [h]; simp)]
        have : gi K.dens k = gi K.dens (k - 1) := by
          simp only [keepI, decide_eq_false_iff_not, not_or, ne_eq, Decidable.not_not] at h
          exact h.2
        simp [this]
/-- The value, of cuts and densities. -/
def Vl (cs ds : List Int) (x : Rat) : Rat := sumQ (fun i => (gi ds i : Rat) * (min x (gi cs (i + 1) : Rat) - min x (gi cs i : Rat))) ds.length
theorem Vl_snoc {cs ds : List Int} (h : cs.length = ds.length + 1) (y d : Int) (x : Rat) : Vl (cs ++ [y]) (ds ++ [d]) x = Vl cs ds x + (d : Rat) * (min x (y : Rat) - min x (gi cs ds.length : Rat)) := by
  unfold Vl
  rw [List.length_append, List.length_singleton, sumQ]
  rw [gi_app_at, gi_app_at' (by omega), gi_app_lt (by omega)]
  congr 1
  refine sumQ_congr fun i hi => ?_
  rw [gi_app_lt hi, gi_app_lt (by omega), gi_app_lt (by omega)]
theorem V_eq_Vl (K : Ck) : K.V = Vl K.cuts K.dens := rfl
theorem Ck.Ok.norm_part {K : Ck} (h : K.Ok) (x : Rat) : ∀ k, k ≤ K.dens.length → Vl (nCuts K k ++ [gi K.cuts k]) (nDens K k) x = sumQ (fun i => (gi K.dens i : Rat) * (min x (gi K.cuts (i + 1) : Rat) - min x (gi K.cuts i : Rat))) k
  | 0, _ => rfl
  | k + 1, hk => by
    have ih := h.norm_part x k (by omega)
    rw [sumQ, ← ih]
    have L := nLen K k
    cases e : keepI K.dens k with
    | true =>
      rw [nCuts_yes e, nDens_yes e, Vl_snoc (by simp; omega), gi_app_at' (by omega)]
    | false =>
      have k0 : 0 < k := by
        rcases Nat.eq_zero_or_pos k with z | z
        · subst z; simp [keepI] at e
        · exact z
      have ed : gi K.dens k = gi K.dens (k - 1) := by
        simp only [keepI, decide_eq_false_iff_not, not_or, ne_eq, Decidable.not_not] at e
        exact e.2
      rw [nCuts_no e, nDens_no e]
      have R := rDens_last K k k0
      obtain ⟨cs, c, hc⟩ : ∃ cs c, nCuts K k = cs ++ [c] := by
        have : nCuts K k ≠ [] := fun z => by have := nLen_pos K k k0; rw [z] at L; simp at L; omega
        exact ⟨_, _, (List.dropLast_concat_getLast this).symm⟩
      rw [R, hc] at L ⊢
      have L' : cs.length = (rDens K k).length := by simp at L; omega
      rw [Vl_snoc (by simp; omega), Vl_snoc (by simp; omega), gi_app_at' (by omega), ed]
      grind
theorem Ck.Ok.norm_V {K : Ck} (h : K.Ok) (x : Rat) : K.norm.V x = K.V x := by
  rw [V_eq_Vl]
  show Vl (nCuts K K.dens.length ++ [K.len]) (nDens K K.dens.length) x = _
  rw [← h.cn, h.norm_part x _ (Nat.le_refl _)]; rfl
/-- The kept cuts rise, and are below what comes. -/
theorem Ck.Ok.norm_rise {K : Ck} (h : K.Ok) : ∀ k, k ≤ K.dens.length → (∀ i, i + 1 < (nCuts K k).length → gi (nCuts K k) i < gi (nCuts K k) (i + 1)) ∧ (∀ i, i < (nCuts K k).length → gi (nCuts K k) i < gi K.cuts k) ∧ (0 < k → gi (nCuts K k) 0 = 0)
  | 0, _ => ⟨fun i hi => by simp [nCuts] at hi, fun i hi => by simp [nCuts] at hi, fun x => by omega⟩
  | k + 1, hk => by
    obtain ⟨i1, i2, i3⟩ := h.norm_rise k (by omega)
    have r := h.rise k (by omega)
    cases e : keepI K.dens k with
    | true =>
      rw [nCuts_yes e]
      refine ⟨fun i hi => ?_, fun i hi => ?_, fun _ => ?_⟩
      · simp at hi
        rw [gi_app_lt (by omega)]
        by_cases c : i + 1 = (nCuts K k).length
        · rw [gi_app_at' c]; exact i2 i (by omega)
        · rw [gi_app_lt (by omega)]; exact i1 i (by omega)
      · simp at hi
        by_cases c : i = (nCuts K k).length
        · rw [gi_app_at' c]; exact r
        · rw [gi_app_lt (by omega)]; have := i2 i (by omega); omega
      · rcases Nat.eq_zero_or_pos k with z | z
        · subst z; simp [nCuts, gi]; exact h.c0
        · have := nLen_pos K k z
          rw [gi_app_lt (by rw [nLen]; exact this)]; exact i3 z
    | false =>
      rw [nCuts_no e]
      refine ⟨i1, fun i hi => by have := i2 i hi; omega, fun _ => ?_⟩
      rcases Nat.eq_zero_or_pos k with z | z
      · subst z; simp [keepI] at e
      · exact i3 z
theorem nDens_fit {K : Ck} (h : K.Ok) : ∀ k, k ≤ K.dens.length → ∀ x, x ∈ nDens K k → 0 ≤ x ∧ x ≤ 12
  | 0, _, x, hx => by simp [nDens] at hx
  | k + 1, hk, x, hx => by
    cases e : keepI K.dens k with
    | true =>
      rw [nDens_yes e, List.mem_append, List.mem_singleton] at hx
      rcases hx with hx | rfl
      · exact nDens_fit h k (by omega) x hx
      · exact h.fit k (by omega)
    | false => rw [nDens_no e] at hx; exact nDens_fit h k (by omega) x hx
theorem nDens_some {K : Ck} : ∀ k i, i < k → gi K.dens i ∈ nDens K k
  | 0, i, hi => by omega
  | k + 1, i, hi => by
    cases e : keepI K.dens k with
    | true =>
      rw [nDens_yes e, List.mem_append, List.mem_singleton]
      by_cases c : i = k
      · subst c; exact Or.inr rfl
      · exact Or.inl (nDens_some k i (by omega))
    | false =>
      rw [nDens_no e]
      by_cases c : i = k
      · subst c
        simp only [keepI, decide_eq_false_iff_not, not_or, ne_eq, Decidable.not_not] at e
        rw [e.2]; exact nDens_some i (i - 1) (by omega)
      · exact nDens_some k i (by omega)
/-- Neighbours differ. -/
theorem nDens_apart {K : Ck} : ∀ k i, i + 1 < (nDens K k).length → gi (nDens K k) i ≠ gi (nDens K k) (i + 1)
  | 0, i, hi => by simp [nDens] at hi
  | k + 1, i, hi => by
    cases e : keepI K.dens k with
    | true =>
      rw [nDens_yes e] at hi ⊢
      simp at hi
      rw [gi_app_lt (by omega)]
      by_cases c : i + 1 = (nDens K k).length
      · rw [gi_app_at' c]
        have k0 : 0 < k := by
          rcases Nat.eq_zero_or_pos k with z | z
          · subst z; simp [nDens] at c
          · exact z
        have R := rDens_last K k k0
        have L := congrArg List.length R
        simp at L
        rw [R, gi_app_at' (by omega)]
        simp only [keepI, decide_eq_true_eq] at e
        rcases e with e | e
        · omega
        · exact fun z => e z.symm
      · rw [gi_app_lt (by omega)]; exact nDens_apart k i (by omega)
    | false => rw [nDens_no e] at hi ⊢; exact nDens_apart k i hi
theorem Ck.Ok.norm_ok {K : Ck} (h : K.Ok) : K.norm.Ok := by
  have n1 := h.n1
  have L := nLen K K.dens.length
  have le := nLen_le K K.dens.length
  have lp := nLen_pos K K.dens.length (by omega)
  obtain ⟨r1, r2, r3⟩ := h.norm_rise _ (Nat.le_refl _)
  rw [h.cn] at r2
  refine ⟨h.l1, h.l2, lp, ?_, ?_, ?_, ?_, fun i hi => ?_, fun i hi => ?_, ?_⟩
  · show (nDens K K.dens.length).length ≤ 39; have := h.n2; omega
  · show (nCuts K K.dens.length ++ [K.len]).length = (nDens K K.dens.length).length + 1; simp; omega
  · show gi (nCuts K K.dens.length ++ [K.len]) 0 = 0
    rw [gi_app_lt (by omega)]; exact r3 (by omega)
  · show gi (nCuts K K.dens.length ++ [K.len]) (nDens K K.dens.length).length = K.len
    exact gi_app_at' (by omega)
  · have hi : i < (nDens K K.dens.length).length := hi
    show gi (nCuts K K.dens.length ++ [K.len]) i < gi (nCuts K K.dens.length ++ [K.len]) (i + 1)
    rw [gi_app_lt (by omega)]
    by_cases c : i + 1 = (nCuts K K.dens.length).length
    · rw [gi_app_at' c]; exact r2 i (by omega)
    · rw [gi_app_lt (by omega)]; exact r1 i (by omega)
  · exact nDens_fit h _ (Nat.le_refl _) _ (gi_mem hi)
  · obtain ⟨i, hi, hp⟩ := h.some
    obtain ⟨j, hj, e⟩ := mem_gi (nDens_some (K := K) K.dens.length i hi)
    exact ⟨j, hj, by show 0 < gi (nDens K K.dens.length) j; omega⟩
theorem take_gi_snoc {l : List Int} {k : Nat} (h : k < l.length) : l.take k ++ [gi l k] = l.take (k + 1) := by rw [List.take_succ_eq_append_getElem h, gi_get h]
/-- A cake whose neighbours differ is its own normal form. -/
theorem norm_self {K : Ck} (h : K.Ok) (ha : ∀ i, i + 1 < K.dens.length → gi K.dens i ≠ gi K.dens (i + 1)) : K.norm = K := by
  have nc := h.nc
  have key : ∀ k, k ≤ K.dens.length → nCuts K k = K.cuts.take k ∧ nDens K k = K.dens.take k := by
    intro k
    induction k with
    | zero => intro _; exact ⟨by simp [nCuts], by simp [nDens]⟩
    | succ k ih =>
      intro hk
      obtain ⟨e1, e2⟩ := ih (by omega)
      have e : keepI K.dens k = true := by
        simp only [keepI, decide_eq_true_eq]
        rcases Nat.eq_zero_or_pos k with z | z
        · exact Or.inl z
        · refine Or.inr (fun q => ha (k - 1) (by omega) ?_)
          rw [Nat.sub_add_cancel (by omega)]; exact q.symm
      exact ⟨by rw [nCuts_yes e, e1, take_gi_snoc (by omega)], by rw [nDens_yes e, e2, take_gi_snoc (by omega)]⟩
  obtain ⟨e1, e2⟩ := key _ (Nat.le_refl _)
  refine Ck.ext_ rfl ?_ ?_
  · show nCuts K K.dens.length ++ [K.len] = K.cuts
    rw [e1, ← h.cn, take_gi_snoc (by omega), ← nc, List.take_length]
  · show nDens K K.dens.length = K.dens
    rw [e2, List.take_length]
theorem Ck.Ok.norm_norm {K : Ck} (h : K.Ok) : K.norm.norm = K.norm := norm_self h.norm_ok (fun i hi => nDens_apart _ i hi)
theorem Ck.Ok.norm_ne {K : Ck} (h : K.Ok) {i : Nat} (h0 : 0 < i) (hi : i < K.norm.dens.length) : gi K.norm.dens i ≠ gi K.norm.dens (i - 1) := by
  have := nDens_apart (K := K) K.dens.length (i - 1) (by rw [Nat.sub_add_cancel h0]; exact hi)
  rw [Nat.sub_add_cancel h0] at this
  exact fun e => this e.symm
end Go.Proofs.Ytgcbmnohhbcfiaa

namespace Go.Proofs.Ytgcbmnohhbcfiaa
set_option linter.unusedVariables false
set_option linter.unusedSimpArgs false

section
variable {K : Ck} {f t : Int}
def pIn (K : Ck) (f t : Int) (k : Nat) : Bool := decide (gi K.cuts k < t) && decide (f < gi K.cuts (k + 1))
def pCuts (K : Ck) (f t : Int) : Nat → List Int
  | 0 => [0]
  | k + 1 => if pIn K f t k = true then pCuts K f t k ++ [min t (gi K.cuts (k + 1)) - f] else pCuts K f t k
def pDens (K : Ck) (f t : Int) : Nat → List Int
  | 0 => []
  | k + 1 => if pIn K f t k = true then pDens K f t k ++ [gi K.dens k] else pDens K f t k
def Ck.part (K : Ck) (f t : Int) : Ck := ⟨t - f, pCuts K f t K.dens.length, pDens K f t K.dens.length⟩
def Ck.pArg (K : Ck) (f t : Int) : Prop := f < 0 ∨ K.len < t ∨ t ≤ f
instance (K : Ck) (f t : Int) : Decidable (K.pArg f t) := by unfold Ck.pArg; infer_instance
def Ck.partC (K : Ck) (f t : Int) : Int := if K.code ≠ 0 then K.code else if K.pArg f t then 2 else if (K.part f t).code ≠ 0 then 6 else 0
def Ck.part? (K : Ck) (f t : Int) : Ck := if K.partC f t = 0 then K.part f t else Ck.zero
theorem pCuts_yes {k : Nat} (h : pIn K f t k = true) : pCuts K f t (k + 1) = pCuts K f t k ++ [min t (gi K.cuts (k + 1)) - f] := by rw [pCuts, if_pos h]
theorem pCuts_no {k : Nat} (h : pIn K f t k = false) : pCuts K f t (k + 1) = pCuts K f t k := by rw [pCuts, if_neg (by rw [h]; decide)]
theorem pDens_yes {k : Nat} (h : pIn K f t k = true) : pDens K f t (k + 1) = pDens K f t k ++ [gi K.dens k] := by rw [pDens, if_pos h]
theorem pDens_no {k : Nat} (h : pIn K f t k = false) : pDens K f t (k + 1) = pDens K f t k := by rw [pDens, if_neg (by rw [h]; decide)]
theorem pLen : ∀ k, (pCuts K f t k).length = (pDens K f t k).length + 1
  | 0 => rfl
  | k + 1 => by
    cases h : pIn K f t k with
    | true => rw [pCuts_yes h, pDens_yes h]; simp [pLen k]
    | false => rw [pCuts_no h, pDens_no h]; exact pLen k
theorem pLen_le : ∀ k, (pDens K f t k).length ≤ k
  | 0 => Nat.le_refl _
  | k + 1 => by
    have := pLen_le k
    cases h : pIn K f t k with
    | true => rw [pDens_yes h]; simp; omega
    | false => rw [pDens_no h]; omega
/-- The total of cuts and densities. -/
def Tl (cs ds : List Int) : Int := sumTo (fun i => gi ds i * (gi cs (i + 1) - gi cs i)) ds.length
theorem Tl_snoc {cs ds : List Int} (h : cs.length = ds.length + 1) (y d : Int) : Tl (cs ++ [y]) (ds ++ [d]) = Tl cs ds + d * (y - gi cs ds.length) := by
  unfold Tl
  rw [List.length_append, List.length_singleton, sumTo]
  rw [gi_app_at, gi_app_at' (by omega), gi_app_lt (by omega)]
  congr 1
  refine sumTo_congr fun i hi => ?_
  rw [gi_app_lt hi, gi_app_lt (by omega), gi_app_lt (by omega)]
theorem pLast (h : K.Ok) (hf : f < t) (hf0 : 0 ≤ f) : ∀ k, k ≤ K.dens.length → gi (pCuts K f t k) (pDens K f t k).length = max 0 (min t (gi K.cuts k) - f)
  | 0, _ => by rw [h.c0]; show (0 : Int) = _; omega
  | k + 1, hk => by
    have ih := pLast h hf hf0 k (by omega)
    have r := h.rise k (by omega)
    cases e : pIn K f t k with
    | true =>
      rw [pCuts_yes e, pDens_yes e, gi_app_at' (by rw [pLen]; simp)]
      simp only [pIn, Bool.and_eq_true, decide_eq_true_eq] at e
      omega
    | false =>
      rw [pCuts_no e, pDens_no e, ih]
      simp only [pIn, Bool.and_eq_false_iff, decide_eq_false_iff_not] at e
      omega
theorem part_total (h : K.Ok) (hf : f < t) (hf0 : 0 ≤ f) : ∀ k, k ≤ K.dens.length → ((Tl (pCuts K f t k) (pDens K f t k) : Int) : Rat) = sumQ (fun i => (gi K.dens i : Rat) * (min (t : Rat) (gi K.cuts (i + 1) : Rat) - min (t : Rat) (gi K.cuts i : Rat))) k - sumQ (fun i => (gi K.dens i : Rat) * (min (f : Rat) (gi K.cuts (i + 1) : Rat) - min (f : Rat) (gi K.cuts i : Rat))) k
  | 0, _ => by show ((0 : Int) : Rat) = 0 - 0; rw [show ((0 : Int) : Rat) = 0 from rfl]; grind
  | k + 1, hk => by
    have ih := part_total h hf hf0 k (by omega)
    have l := pLast h hf hf0 k (by omega)
    have r := h.riseQ (i := k) (by omega)
    have hfq : (f : Rat) < (t : Rat) := Rat.intCast_lt_intCast.2 hf
    rw [sumQ, sumQ]
    cases e : pIn K f t k with
    | true =>
      simp only [pIn, Bool.and_eq_true, decide_eq_true_eq] at e
      have e' : pIn K f t k = true := by simp [pIn, e.1, e.2]
      rw [pCuts_yes e', pDens_yes e', Tl_snoc (pLen k), l, Rat.intCast_add, Rat.intCast_mul, ih]
      have e1 : (gi K.cuts k : Rat) < (t : Rat) := Rat.intCast_lt_intCast.2 e.1
      have e2 : (f : Rat) < (gi K.cuts (k + 1) : Rat) := Rat.intCast_lt_intCast.2 e.2
      have key : ((min t (gi K.cuts (k + 1)) - f - max 0 (min t (gi K.cuts k) - f) : Int) : Rat) = (min (t : Rat) (gi K.cuts (k + 1) : Rat) - min (t : Rat) (gi K.cuts k : Rat)) - (min (f : Rat) (gi K.cuts (k + 1) : Rat) - min (f : Rat) (gi K.cuts k : Rat)) := by
        have a1 : min t (gi K.cuts k) = gi K.cuts k := by omega
        have a2 : min (t : Rat) (gi K.cuts k : Rat) = (gi K.cuts k : Rat) := by grind
        have a3 : min (f : Rat) (gi K.cuts (k + 1) : Rat) = (f : Rat) := by grind
        rw [a1, a2, a3]
        rcases Int.lt_or_le t (gi K.cuts (k + 1)) with c | c
        · have b1 : min t (gi K.cuts (k + 1)) = t := by omega
          have b2 : min (t : Rat) (gi K.cuts (k + 1) : Rat) = (t : Rat) := by have := Rat.intCast_lt_intCast.2 c; grind
          rw [b1, b2]
          rcases Int.lt_or_le f (gi K.cuts k) with c2 | c2
          · rw [show max 0 (gi K.cuts k - f) = gi K.cuts k - f by omega, show min (f : Rat) (gi K.cuts k : Rat) = (f : Rat) by have := Rat.intCast_lt_intCast.2 c2; grind]
            simp only [Rat.intCast_sub]; grind
          · rw [show max 0 (gi K.cuts k - f) = 0 by omega, show min (f : Rat) (gi K.cuts k : Rat) = (gi K.cuts k : Rat) by have := Rat.intCast_le_intCast.2 c2; grind]
            simp only [Rat.intCast_sub]; rw [show ((0 : Int) : Rat) = 0 from rfl]; grind
        · have b1 : min t (gi K.cuts (k + 1)) = gi K.cuts (k + 1) := by omega
          have b2 : min (t : Rat) (gi K.cuts (k + 1) : Rat) = (gi K.cuts (k + 1) : Rat) := by have := Rat.intCast_le_intCast.2 c; grind
          rw [b1, b2]
          rcases Int.lt_or_le f (gi K.cuts k) with c2 | c2
          · rw [show max 0 (gi K.cuts k - f) = gi K.cuts k - f by omega, show min (f : Rat) (gi K.cuts k : Rat) = (f : Rat) by have := Rat.intCast_lt_intCast.2 c2; grind]
            simp only [Rat.intCast_sub]; grind
          · rw [show max 0 (gi K.cuts k - f) = 0 by omega, show min (f : Rat) (gi K.cuts k : Rat) = (gi K.cuts k : Rat) by have := Rat.intCast_le_intCast.2 c2; grind]
            simp only [Rat.intCast_sub]; rw [show ((0 : Int) : Rat) = 0 from rfl]; grind
      rw [key]; grind
    | false =>
      rw [pCuts_no e, pDens_no e, ih]
      simp only [pIn, Bool.and_eq_false_iff, decide_eq_false_iff_not, Int.not_lt] at e
      have key : (min (t : Rat) (gi K.cuts (k + 1) : Rat) - min (t : Rat) (gi K.cuts k : Rat)) = (min (f : Rat) (gi K.cuts (k + 1) : Rat) - min (f : Rat) (gi K.cuts k : Rat)) := by
        rcases e with e | e
        · have := Rat.intCast_le_intCast.2 e; grind
        · have := Rat.intCast_le_intCast.2 e; grind
      rw [key]; grind
/-- The total of a part is the value there. -/
theorem Ck.Ok.part_V (h : K.Ok) (hf : f < t) (hf0 : 0 ≤ f) : ((K.part f t).total : Rat) = K.V (t : Rat) - K.V (f : Rat) := part_total h hf hf0 _ (Nat.le_refl _)

/-- The program's way: where the part begins and where it ends. -/
structure PAt (K : Ck) (f t : Int) (i j : Nat) : Prop where
  ij : i ≤ j
  jn : j < K.dens.length
  f0 : gi K.cuts i ≤ f
  f1 : f < gi K.cuts (i + 1)
  t0 : gi K.cuts j < t
  t1 : t ≤ gi K.cuts (j + 1)
def qCuts (K : Ck) (f : Int) (i : Nat) : Nat → List Int
  | 0 => []
  | m + 1 => qCuts K f i m ++ [max (gi K.cuts (i + m)) f - f]
theorem qLen (i : Nat) : ∀ m, (qCuts K f i m).length = m
  | 0 => rfl
  | m + 1 => by rw [qCuts]; simp [qLen i m]
theorem PAt.inB {i j : Nat} (h : K.Ok) (p : PAt K f t i j) {k : Nat} (hk : k < K.dens.length) : pIn K f t k = (decide (i ≤ k) && decide (k ≤ j)) := by
  have := p.ij; have := p.jn; have := p.f0; have := p.f1; have := p.t0; have := p.t1
  rw [Bool.eq_iff_iff]
  simp only [pIn, Bool.and_eq_true, decide_eq_true_eq]
  constructor
  · rintro ⟨a, b⟩
    constructor
    · rcases Nat.lt_or_ge k i with c | c
      · have := h.mono (i := k + 1) (j := i) (by omega) (by omega); omega
      · exact c
    · rcases Nat.lt_or_ge j k with c | c
      · have := h.mono (i := j + 1) (j := k) (by omega) (by omega); omega
      · exact c
  · rintro ⟨a, b⟩
    constructor
    · have := h.mono (i := k) (j := j) b (by omega); omega
    · have := h.mono (i := i + 1) (j := k + 1) (by omega) (by omega); omega
theorem PAt.dens {i j : Nat} (h : K.Ok) (p : PAt K f t i j) : ∀ k, k ≤ K.dens.length → pDens K f t k = (K.dens.take (min k (j + 1))).drop i
  | 0, _ => by simp [pDens]
  | k + 1, hk => by
    have ih := p.dens h k (by omega)
    have e := p.inB h (k := k) (by omega)
    have := p.ij; have := p.jn
    by_cases c : i ≤ k ∧ k ≤ j
    · rw [pDens_yes (by rw [e]; simp [c.1, c.2]), ih, show min (k + 1) (j + 1) = k + 1 by omega, show min k (j + 1) = k by omega, ← take_gi_snoc (show k < K.dens.length by omega), List.drop_append_of_le_length (by simp; omega)]
    · rw [pDens_no (by rw [e]; by_cases a : i ≤ k <;> simp [a] <;> omega), ih]
      rcases Nat.lt_or_ge k i with a | a
      · rw [List.drop_eq_nil_of_le (by simp; omega), List.drop_eq_nil_of_le (by simp; omega)]
      · rw [show min (k + 1) (j + 1) = min k (j + 1) by omega]
theorem PAt.cuts_lo {i j : Nat} (h : K.Ok) (p : PAt K f t i j) : ∀ k, k ≤ i → pCuts K f t k = [0]
  | 0, _ => rfl
  | k + 1, hk => by
    have := p.ij; have := p.jn
    rw [pCuts_no (by rw [p.inB h (by omega)]; simp; omega)]
    exact p.cuts_lo h k (by omega)
theorem PAt.cuts_mid {i j : Nat} (h : K.Ok) (p : PAt K f t i j) : ∀ m, 0 < m → i + m ≤ j + 1 → pCuts K f t (i + m) = qCuts K f i m ++ [min t (gi K.cuts (i + m)) - f]
  | 0, h0, _ => by omega
  | m + 1, _, hm => by
    have := p.ij; have := p.jn; have p0 := p.f0; have p1 := p.f1; have p2 := p.t0
    rw [show i + (m + 1) = i + m + 1 by omega, pCuts_yes (by rw [p.inB h (by omega)]; simp; omega)]
    congr 1
    rcases Nat.eq_zero_or_pos m with e | e
    · subst e
      rw [Nat.add_zero, p.cuts_lo h _ (Nat.le_refl _), qCuts, qCuts, Nat.add_zero]
      simp; omega
    · rw [p.cuts_mid h m e (by omega), qCuts]
      have a := h.mono (i := i + m) (j := j) (by omega) (by omega)
      have b := h.mono (i := i + 1) (j := i + m) (by omega) (by omega)
      rw [show min t (gi K.cuts (i + m)) - f = max (gi K.cuts (i + m)) f - f by omega]
theorem PAt.cuts_hi {i j : Nat} (h : K.Ok) (p : PAt K f t i j) : ∀ k, j + 1 ≤ k → k ≤ K.dens.length → pCuts K f t k = qCuts K f i (j + 1 - i) ++ [t - f]
  | 0, h0, _ => by omega
  | k + 1, h0, hk => by
    have := p.ij; have := p.jn; have := p.t1
    by_cases e : j + 1 = k + 1
    · have := p.cuts_mid h (k + 1 - i) (by omega) (by omega)
      rw [show i + (k + 1 - i) = k + 1 by omega] at this
      rw [this, show j + 1 - i = k + 1 - i by omega]
      have : j = k := by omega
      subst this
      congr 2; omega
    · rw [pCuts_no (by rw [p.inB h (by omega)]; simp; omega)]
      exact p.cuts_hi h k (by omega) (by omega)
theorem PAt.part {i j : Nat} (h : K.Ok) (p : PAt K f t i j) : K.part f t = ⟨t - f, qCuts K f i (j + 1 - i) ++ [t - f], (K.dens.take (j + 1)).drop i⟩ := by
  have := p.jn
  refine Ck.ext_ rfl (p.cuts_hi h _ (by omega) (Nat.le_refl _)) ?_
  show pDens K f t K.dens.length = _
  rw [p.dens h _ (Nat.le_refl _), show min K.dens.length (j + 1) = j + 1 by omega]
theorem pCuts_bd (h : K.Ok) (hf0 : 0 ≤ f) (hft : f < t) (hl : t ≤ K.len) : ∀ k, k ≤ K.dens.length → ∀ x, x ∈ pCuts K f t k → 0 ≤ x ∧ x ≤ 1000
  | 0, _, x, hx => by simp [pCuts] at hx; omega
  | k + 1, hk, x, hx => by
    have := h.cut_bd (i := k + 1) (by omega)
    have := h.l2
    cases e : pIn K f t k with
    | true =>
      rw [pCuts_yes e, List.mem_append, List.mem_singleton] at hx
      rcases hx with hx | rfl
      · exact pCuts_bd h hf0 hft hl k (by omega) x hx
      · simp only [pIn, Bool.and_eq_true, decide_eq_true_eq] at e; omega
    | false => rw [pCuts_no e] at hx; exact pCuts_bd h hf0 hft hl k (by omega) x hx
end
end Go.Proofs.Ytgcbmnohhbcfiaa

namespace Go.Proofs.Ytgcbmnohhbcfiaa
open Go.RowKit Go.Deep
set_option linter.unusedVariables false
set_option linter.unusedSimpArgs false

abbrev kO (n : Int) (u v : Value) : Obj := .cells #[.int .i64 n, u, v] 24
abbrev kV (n : Int) (u v : Value) : Value := .agg #[.int .i64 n, u, v]
abbrev iR (v : Value) (l : List Int) : Rw := ⟨v, 3, 1, l.length, intsV l⟩
/-- The cake of two rows of the call's own. -/
structure KOwn (B : Nat) (w : World) (u v : Value) (K : Ck) : Prop where
  cu : w.ownsRow B 3 1 u K.cuts.length (intsV K.cuts)
  de : w.ownsRow B 3 1 v K.dens.length (intsV K.dens)
  w0 : -9223372036854775808 ≤ K.len
  w1 : K.len ≤ 9223372036854775807
theorem Mx.addI {w W W0 : World} {L : List (Nat × Obj)} {R : List Rw} (h : Mx w L R W0) (hb : Below W0.heap.size W0 W) {v : Value} {l : List Int} (ho : W.ownsRow W0.heap.size 3 1 v l.length (intsV l)) : Mx w L (iR v l :: R) W := h.addR hb (iR v l) ho
theorem own_nil_len {B : Nat} {w : World} {e : TypeId} {v : Value} {n size : Nat} {xs : List Value} (h : w.ownsRow B e size v n xs) : ∃ A c, v = .slice A n c ∧ n ≤ c ∧ c ≤ maxLen := by
  rcases h.2 with ⟨rfl, rfl⟩ | ⟨g, cap, cur, rfl, _, _, h1, h2, _⟩
  · exact ⟨none, 0, rfl, Nat.le_refl _, by unfold maxLen; omega⟩
  · exact ⟨_, cap, rfl, h1, h2⟩
theorem Ints.of_ownB {B : Nat} {w W : World} {A : Option Addr} {c : Nat} {l : List Int} (h : w.ownsRow B 3 1 (.slice A l.length c) l.length (intsV l)) (hs : w.heap.size ≤ W.heap.size) (hk : ∀ g, B ≤ g → g < w.heap.size → W.heap[g]? = w.heap[g]?) : Ints W.heap.size W A l := by
  have hW : W.ownsRow B 3 1 (.slice A l.length c) l.length (intsV l) := ownsRow_block h (fun g e => hk g (own_ge' h g e).1 (own_ge' h g e).2)
  exact (Ints.of_own hW).1
theorem KOwn.fresh {B : Nat} {w : World} {A R : Option Addr} {c d : Nat} {K : Ck} (h : KOwn B w (.slice A K.cuts.length c) (.slice R K.dens.length d) K) : Fresh B w (fun W => CIn W.heap.size W A c R d K) := fun W hs hk => by
  obtain ⟨_, _, e1, a1, a2⟩ := own_nil_len h.cu
  obtain ⟨_, _, e2, b1, b2⟩ := own_nil_len h.de
  obtain ⟨rfl, _, rfl⟩ := Value.slice.inj e1
  obtain ⟨rfl, _, rfl⟩ := Value.slice.inj e2
  exact ⟨Ints.of_ownB h.cu hs hk, Ints.of_ownB h.de hs hk, a1, a2, b1, b2, h.w0, h.w1⟩
theorem KOwn.shape {B : Nat} {w : World} {u v : Value} {K : Ck} (h : KOwn B w u v K) : ∃ A c R d, u = .slice A K.cuts.length c ∧ v = .slice R K.dens.length d := by
  obtain ⟨A, c, e1, _⟩ := own_nil_len h.cu
  obtain ⟨R, d, e2, _⟩ := own_nil_len h.de
  exact ⟨A, c, R, d, e1, e2⟩
set_option maxRecDepth 100000 in
set_option maxHeartbeats 16000000 in
theorem ctwin_any (K : Ck) (A : Option Addr) (c : Nat) (R : Option Addr) (d : Nat) (w : World) (h : CIn w.heap.size w A c R d K) (hm : K.big = false) :
    Calls Try.prog 16 #[cV A c R d K] w fun e w' => ∃ u v, e = .returned (kV K.len u v) ∧ KOwn w.heap.size w' u v K ∧ Below w.heap.size w w' := by
  obtain ⟨i0, hi0, hz0, hz1, hz2⟩ := info_parts info3
  have hb : K.cuts.length ≤ 60 ∧ K.dens.length ≤ 60 := by
    unfold Ck.big at hm; simp at hm; omega
  have l1 := hb.1
  have l2 := hb.2
  have HH := Lib.hid h
  have hM0 : Mx w [(w.heap.size + 1, kO 0 (.slice none 0 0) (.slice none 0 0)), (w.heap.size, cB A c R d K)] [] ((w.alloc (cB A c R d K)).alloc (kO 0 (.slice none 0 0) (.slice none 0 0))) :=
    ((Mx.of_bx (Bx.start w)).new rfl _).new (by simp) _
  clear h hb hm
  go_enter Try.func16, Try.ntmps16
  go_upto_region 1 with fail
  generalize hw0 : (w.alloc (cB A c R d K)).alloc (kO 0 (.slice none 0 0) (.slice none 0 0)) = w0 at *
  clear hw0
  generalize w.heap.size + 1 = gO at *
  go_wp2_with fail
  refine wp_region_R (Bx w [(w.heap.size, cB A c R d K)]) 12 (by kernel_rfl) (by rfl) ((hM0.keep (List.Sublist.cons _ (List.Sublist.cons_cons _ (List.nil_sublist _)))).drew) (fun wq1 hbq => ?_)
  have hB1 := hM0.next hbq
  clear hM0 hbq
  refine wpAnyE_goR (Bx.grows _ _) (hB1.keep (List.Sublist.cons _ (List.Sublist.cons_cons _ (List.nil_sublist _)))) [0, 1, 3, 4, 7, 8] 6 (by kernel_rfl) ?_
  apply Exists.intro
  refine ⟨fun G hG hN => ?_, ?_⟩
  · have c_K := fun (e : GE (Bx w [(w.heap.size, cB A c R d K)]) G) j => cell_of_row e.w _ j _ _ _ ((GE.h e).get 0 rfl)
    have z_K := fun (e : GE (Bx w [(w.heap.size, cB A c R d K)]) G) => (GE.h e).lt 0 rfl
    simp only [pickOps, List.getElem?_toArray, List.getElem?_cons_zero, List.getElem?_cons_succ]
    repeat (first | go_big_quiet_step (fail) | quiet_step (fail))
    exact wpQuiet_nil rfl
  refine wpAnyE_all (rs := [2, 6]) (by kernel_rfl) (by simp) (fun wa2 hwa2 hRwa2 i hi => ?_)
  have hB2 := hB1.next hwa2
  clear hB1 hwa2 hRwa2
  rcases List.mem_cons.1 hi with rfl | hi
  · refine wpOp_step rfl (fun Kc hKc => ?_)
    go_simp
    have hB3 := hB2.addR (one_alloc wa2 (.cells #[] 3)) ⟨.slice (some ⟨wa2.heap.size, 0, none⟩) 0 0, 3, 1, 0, []⟩ (World.ownsRow_lit wa2 #[] 0 (Nat.le_refl _) (by unfold maxLen; omega) rfl)
    refine hKc _ _ ⟨(hB3.keep (List.Sublist.cons _ (List.Sublist.cons_cons _ (List.nil_sublist _)))), ?_⟩
    clear hKc Kc hB2
    generalize wa2.heap.size = g1 at *
    generalize wa2.alloc _ = wb3 at *
    refine wpAnyE_all (rs := [5, 6]) (by kernel_rfl) (by simp) (fun wa4 hwa4 hRwa4 i hi => ?_)
    have hB4 := hB3.next hwa4
    clear hB3 hwa4 hRwa4
    rcases List.mem_cons.1 hi with rfl | hi
    · refine wpOp_step rfl (fun Kc hKc => ?_)
      refine step_append_any _ rfl (.tmp 5) (.tmp 7) 22 rfl w.heap.size 3 i0 (.int .i64 0) 1 8 Try.underlying22 hi0 hz0 hz1 hz2 rfl (by omega) (.slice (some ⟨g1, 0, none⟩) 0 0) 0 [] rfl (hB4.row 0 rfl) _ A K.cuts.length c (intsV K.cuts) rfl (HH.out.next hB4.below).cuts.reads (one_cells _) (by unfold maxLen; omega) (by omega) hB4.below.size ?_
      intro v1 wb5 hown hgr hat
      have hB5 := hB4.grow 0 rfl hgr hown hat
      refine hKc _ _ ⟨(hB5.keep (List.Sublist.cons _ (List.Sublist.cons_cons _ (List.nil_sublist _)))), ?_⟩
      clear hKc Kc hB4 hown hgr hat
      refine wpAnyE_all (rs := [6]) (by kernel_rfl) (by simp) (fun wa6 hwa6 hRwa6 i hi => ?_)
      have hB6 := hB5.next hwa6
      clear hB5 hwa6 hRwa6
      obtain rfl := List.mem_singleton.1 hi
      refine wpOp_step rfl (fun Kc hKc => ?_)
      go_simp
      have hB7 := hB6.addR (one_alloc wa6 (.cells #[] 3)) ⟨.slice (some ⟨wa6.heap.size, 0, none⟩) 0 0, 3, 1, 0, []⟩ (World.ownsRow_lit wa6 #[] 0 (Nat.le_refl _) (by unfold maxLen; omega) rfl)
      refine hKc _ _ ⟨(hB7.keep (List.Sublist.cons _ (List.Sublist.cons_cons _ (List.nil_sublist _)))), ?_⟩
      clear hKc Kc hB6
      generalize wa6.heap.size = g2 at *
      generalize wa6.alloc _ = wb7 at *
      refine wpAnyE_all (rs := [9]) (by kernel_rfl) (by simp) (fun wa8 hwa8 hRwa8 i hi => ?_)
      have hB8 := hB7.next hwa8
      clear hB7 hwa8 hRwa8
      obtain rfl := List.mem_singleton.1 hi
      refine wpOp_step rfl (fun Kc hKc => ?_)
      refine step_append_any _ rfl (.tmp 9) (.tmp 11) 22 rfl w.heap.size 3 i0 (.int .i64 0) 1 8 Try.underlying22 hi0 hz0 hz1 hz2 rfl (by omega) (.slice (some ⟨g2, 0, none⟩) 0 0) 0 [] rfl (hB8.row 0 rfl) _ R K.dens.length d (intsV K.dens) rfl (HH.out.next hB8.below).dens.reads (one_cells _) (by unfold maxLen; omega) (by omega) hB8.below.size ?_
      intro v2 wb9 hown hgr hat
      have hB9 := hB8.grow 0 rfl hgr hown hat
      refine hKc _ _ ⟨(hB9.keep (List.Sublist.cons _ (List.Sublist.cons_cons _ (List.nil_sublist _)))), ?_⟩
      clear hKc Kc hB8 hown hgr hat
      refine wpAnyE_all (rs := [10]) (by kernel_rfl) (by simp) (fun wa10 hwa10 hRwa10 i hi => ?_)
      have hB10 := hB9.next hwa10
      clear hB9 hwa10 hRwa10
      obtain rfl := List.mem_singleton.1 hi
      refine wpOp_step rfl (fun Kc hKc => ?_)
      obtain ⟨A1, c1, e1, _, _⟩ := own_nil_len (hB10.row 1 rfl)
      simp only at e1
      subst e1
      obtain ⟨A2, c2, e2, _, _⟩ := own_nil_len (hB10.row 0 rfl)
      simp only at e2
      subst e2
      go_simp
      refine hKc _ _ ⟨(hB10.keep (List.Sublist.cons _ (List.Sublist.cons_cons _ (List.nil_sublist _)))), ?_⟩
      clear hKc Kc
      refine wpAnyE_all (rs := [11]) (by kernel_rfl) (by simp) (fun wa11 hwa11 hRwa11 i hi => ?_)
      have hB11 := hB10.next hwa11
      clear hB10 hwa11 hRwa11
      obtain rfl := List.mem_singleton.1 hi
      refine wpOp_step rfl (fun Kc hKc => ?_)
      have c_out := fun j => cell_of_row _ _ j _ _ _ (hB11.get 0 rfl)
      have z_out := hB11.lt 0 rfl
      have f_out := fun j => frozen_of_row _ _ j _ _ (hB11.get 0 rfl)
      go_simp
      have hB12 := hB11.put3 0 rfl (.int .i64 K.len) (.slice A1 K.cuts.length c1) (.slice A2 K.dens.length c2)
      refine hKc _ _ ⟨(hB12.keep (List.Sublist.cons _ (List.Sublist.cons_cons _ (List.nil_sublist _)))), ?_⟩
      clear c_out z_out f_out hKc Kc hB11
      generalize ((wa11.setCell _ _).setCell _ _).setCell _ _ = wb12 at *
      refine wpAnyE_done (by kernel_rfl) (fun wd13 hwd13 hRwd13 => ?_) _
      refine NoPanic.normal ?_
      have hB13 := hB12.next hwd13
      clear hB12 hwd13 hRwd13
      have HO1 := hB13.row 1 rfl
      have HO2 := hB13.row 0 rfl
      simp only [Nat.zero_add, List.nil_append] at HO1 HO2
      have HE := Lib.hid (show KOwn w.heap.size _ (.slice A1 K.cuts.length c1) (.slice A2 K.dens.length c2) K from ⟨HO1, HO2, HH.out.w0, HH.out.w1⟩)
      have HBw := Lib.hid hB13.below
      clear HO1 HO2
      have c_out := fun j => cell_of_row _ _ j _ _ _ (hB13.get 0 rfl)
      have z_out := hB13.lt 0 rfl
      have f_out := fun j => frozen_of_row _ _ j _ _ (hB13.get 0 rfl)
      clear hB13
      go_wp2_with fail
      refine bodyPost_ret (v := kV K.len (.slice A1 K.cuts.length c1) (.slice A2 K.dens.length c2)) (by simp [results, Try.results16, go_sem, c_out, f_out, z_out]) rfl ?_
      exact ⟨_, _, rfl, HE.out, HBw.out⟩
    · obtain rfl := List.mem_singleton.1 hi
      refine wpOp_step rfl (fun Kc hKc => ?_)
      go_simp
      have hB5 := hB4.addR (one_alloc wa4 (.cells #[] 3)) ⟨.slice (some ⟨wa4.heap.size, 0, none⟩) 0 0, 3, 1, 0, []⟩ (World.ownsRow_lit wa4 #[] 0 (Nat.le_refl _) (by unfold maxLen; omega) rfl)
      refine hKc _ _ ⟨(hB5.keep (List.Sublist.cons _ (List.Sublist.cons_cons _ (List.nil_sublist _)))), ?_⟩
      clear hKc Kc hB4
      generalize wa4.heap.size = g2 at *
      generalize wa4.alloc _ = wb14 at *
      refine wpAnyE_all (rs := [5]) (by kernel_rfl) (by simp) (fun wa15 hwa15 hRwa15 i hi => ?_)
      have hB6 := hB5.next hwa15
      clear hB5 hwa15 hRwa15
      obtain rfl := List.mem_singleton.1 hi
      refine wpOp_step rfl (fun Kc hKc => ?_)
      refine step_append_any _ rfl (.tmp 5) (.tmp 7) 22 rfl w.heap.size 3 i0 (.int .i64 0) 1 8 Try.underlying22 hi0 hz0 hz1 hz2 rfl (by omega) (.slice (some ⟨g1, 0, none⟩) 0 0) 0 [] rfl (hB6.row 1 rfl) _ A K.cuts.length c (intsV K.cuts) rfl (HH.out.next hB6.below).cuts.reads (one_cells _) (by unfold maxLen; omega) (by omega) hB6.below.size ?_
      intro v1 wb16 hown hgr hat
      have hB7 := hB6.grow 1 rfl hgr hown hat
      refine hKc _ _ ⟨(hB7.keep (List.Sublist.cons _ (List.Sublist.cons_cons _ (List.nil_sublist _)))), ?_⟩
      clear hKc Kc hB6 hown hgr hat
      refine wpAnyE_all (rs := [9]) (by kernel_rfl) (by simp) (fun wa17 hwa17 hRwa17 i hi => ?_)
      have hB8 := hB7.next hwa17
      clear hB7 hwa17 hRwa17
      obtain rfl := List.mem_singleton.1 hi
      refine wpOp_step rfl (fun Kc hKc => ?_)
      refine step_append_any _ rfl (.tmp 9) (.tmp 11) 22 rfl w.heap.size 3 i0 (.int .i64 0) 1 8 Try.underlying22 hi0 hz0 hz1 hz2 rfl (by omega) (.slice (some ⟨g2, 0, none⟩) 0 0) 0 [] rfl (hB8.row 0 rfl) _ R K.dens.length d (intsV K.dens) rfl (HH.out.next hB8.below).dens.reads (one_cells _) (by unfold maxLen; omega) (by omega) hB8.below.size ?_
      intro v2 wb18 hown hgr hat
      have hB9 := hB8.grow 0 rfl hgr hown hat
      refine hKc _ _ ⟨(hB9.keep (List.Sublist.cons _ (List.Sublist.cons_cons _ (List.nil_sublist _)))), ?_⟩
      clear hKc Kc hB8 hown hgr hat
      refine wpAnyE_all (rs := [10]) (by kernel_rfl) (by simp) (fun wa19 hwa19 hRwa19 i hi => ?_)
      have hB10 := hB9.next hwa19
      clear hB9 hwa19 hRwa19
      obtain rfl := List.mem_singleton.1 hi
      refine wpOp_step rfl (fun Kc hKc => ?_)
      obtain ⟨A1, c1, e1, _, _⟩ := own_nil_len (hB10.row 1 rfl)
      simp only at e1
      subst e1
      obtain ⟨A2, c2, e2, _, _⟩ := own_nil_len (hB10.row 0 rfl)
      simp only at e2
      subst e2
      go_simp
      refine hKc _ _ ⟨(hB10.keep (List.Sublist.cons _ (List.Sublist.cons_cons _ (List.nil_sublist _)))), ?_⟩
      clear hKc Kc
      refine wpAnyE_all (rs := [11]) (by kernel_rfl) (by simp) (fun wa20 hwa20 hRwa20 i hi => ?_)
      have hB11 := hB10.next hwa20
      clear hB10 hwa20 hRwa20
      obtain rfl := List.mem_singleton.1 hi
      refine wpOp_step rfl (fun Kc hKc => ?_)
      have c_out := fun j => cell_of_row _ _ j _ _ _ (hB11.get 0 rfl)
      have z_out := hB11.lt 0 rfl
      have f_out := fun j => frozen_of_row _ _ j _ _ (hB11.get 0 rfl)
      go_simp
      have hB12 := hB11.put3 0 rfl (.int .i64 K.len) (.slice A1 K.cuts.length c1) (.slice A2 K.dens.length c2)
      refine hKc _ _ ⟨(hB12.keep (List.Sublist.cons _ (List.Sublist.cons_cons _ (List.nil_sublist _)))), ?_⟩
      clear c_out z_out f_out hKc Kc hB11
      generalize ((wa20.setCell _ _).setCell _ _).setCell _ _ = wb21 at *
      refine wpAnyE_done (by kernel_rfl) (fun wd22 hwd22 hRwd22 => ?_) _
      refine NoPanic.normal ?_
      have hB13 := hB12.next hwd22
      clear hB12 hwd22 hRwd22
      have HO1 := hB13.row 1 rfl
      have HO2 := hB13.row 0 rfl
      simp only [Nat.zero_add, List.nil_append] at HO1 HO2
      have HE := Lib.hid (show KOwn w.heap.size _ (.slice A1 K.cuts.length c1) (.slice A2 K.dens.length c2) K from ⟨HO1, HO2, HH.out.w0, HH.out.w1⟩)
      have HBw := Lib.hid hB13.below
      clear HO1 HO2
      have c_out := fun j => cell_of_row _ _ j _ _ _ (hB13.get 0 rfl)
      have z_out := hB13.lt 0 rfl
      have f_out := fun j => frozen_of_row _ _ j _ _ (hB13.get 0 rfl)
      clear hB13
      go_wp2_with fail
      refine bodyPost_ret (v := kV K.len (.slice A1 K.cuts.length c1) (.slice A2 K.dens.length c2)) (by simp [results, Try.results16, go_sem, c_out, f_out, z_out]) rfl ?_
      exact ⟨_, _, rfl, HE.out, HBw.out⟩
  · obtain rfl := List.mem_singleton.1 hi
    refine wpOp_step rfl (fun Kc hKc => ?_)
    go_simp
    have hB3 := hB2.addR (one_alloc wa2 (.cells #[] 3)) ⟨.slice (some ⟨wa2.heap.size, 0, none⟩) 0 0, 3, 1, 0, []⟩ (World.ownsRow_lit wa2 #[] 0 (Nat.le_refl _) (by unfold maxLen; omega) rfl)
    refine hKc _ _ ⟨(hB3.keep (List.Sublist.cons _ (List.Sublist.cons_cons _ (List.nil_sublist _)))), ?_⟩
    clear hKc Kc hB2
    generalize wa2.heap.size = g2 at *
    generalize wa2.alloc _ = wb23 at *
    refine wpAnyE_all (rs := [2]) (by kernel_rfl) (by simp) (fun wa24 hwa24 hRwa24 i hi => ?_)
    have hB4 := hB3.next hwa24
    clear hB3 hwa24 hRwa24
    obtain rfl := List.mem_singleton.1 hi
    refine wpOp_step rfl (fun Kc hKc => ?_)
    go_simp
    have hB5 := hB4.addR (one_alloc wa24 (.cells #[] 3)) ⟨.slice (some ⟨wa24.heap.size, 0, none⟩) 0 0, 3, 1, 0, []⟩ (World.ownsRow_lit wa24 #[] 0 (Nat.le_refl _) (by unfold maxLen; omega) rfl)
    refine hKc _ _ ⟨(hB5.keep (List.Sublist.cons _ (List.Sublist.cons_cons _ (List.nil_sublist _)))), ?_⟩
    clear hKc Kc hB4
    generalize wa24.heap.size = g1 at *
    generalize wa24.alloc _ = wb25 at *
    refine wpAnyE_all (rs := [5]) (by kernel_rfl) (by simp) (fun wa26 hwa26 hRwa26 i hi => ?_)
    have hB6 := hB5.next hwa26
    clear hB5 hwa26 hRwa26
    obtain rfl := List.mem_singleton.1 hi
    refine wpOp_step rfl (fun Kc hKc => ?_)
    refine step_append_any _ rfl (.tmp 5) (.tmp 7) 22 rfl w.heap.size 3 i0 (.int .i64 0) 1 8 Try.underlying22 hi0 hz0 hz1 hz2 rfl (by omega) (.slice (some ⟨g1, 0, none⟩) 0 0) 0 [] rfl (hB6.row 0 rfl) _ A K.cuts.length c (intsV K.cuts) rfl (HH.out.next hB6.below).cuts.reads (one_cells _) (by unfold maxLen; omega) (by omega) hB6.below.size ?_
    intro v1 wb27 hown hgr hat
    have hB7 := hB6.grow 0 rfl hgr hown hat
    refine hKc _ _ ⟨(hB7.keep (List.Sublist.cons _ (List.Sublist.cons_cons _ (List.nil_sublist _)))), ?_⟩
    clear hKc Kc hB6 hown hgr hat
    refine wpAnyE_all (rs := [9]) (by kernel_rfl) (by simp) (fun wa28 hwa28 hRwa28 i hi => ?_)
    have hB8 := hB7.next hwa28
    clear hB7 hwa28 hRwa28
    obtain rfl := List.mem_singleton.1 hi
    refine wpOp_step rfl (fun Kc hKc => ?_)
    refine step_append_any _ rfl (.tmp 9) (.tmp 11) 22 rfl w.heap.size 3 i0 (.int .i64 0) 1 8 Try.underlying22 hi0 hz0 hz1 hz2 rfl (by omega) (.slice (some ⟨g2, 0, none⟩) 0 0) 0 [] rfl (hB8.row 1 rfl) _ R K.dens.length d (intsV K.dens) rfl (HH.out.next hB8.below).dens.reads (one_cells _) (by unfold maxLen; omega) (by omega) hB8.below.size ?_
    intro v2 wb29 hown hgr hat
    have hB9 := hB8.grow 1 rfl hgr hown hat
    refine hKc _ _ ⟨(hB9.keep (List.Sublist.cons _ (List.Sublist.cons_cons _ (List.nil_sublist _)))), ?_⟩
    clear hKc Kc hB8 hown hgr hat
    refine wpAnyE_all (rs := [10]) (by kernel_rfl) (by simp) (fun wa30 hwa30 hRwa30 i hi => ?_)
    have hB10 := hB9.next hwa30
    clear hB9 hwa30 hRwa30
    obtain rfl := List.mem_singleton.1 hi
    refine wpOp_step rfl (fun Kc hKc => ?_)
    obtain ⟨A1, c1, e1, _, _⟩ := own_nil_len (hB10.row 0 rfl)
    simp only at e1
    subst e1
    obtain ⟨A2, c2, e2, _, _⟩ := own_nil_len (hB10.row 1 rfl)
    simp only at e2
    subst e2
    go_simp
    refine hKc _ _ ⟨(hB10.keep (List.Sublist.cons _ (List.Sublist.cons_cons _ (List.nil_sublist _)))), ?_⟩
    clear hKc Kc
    refine wpAnyE_all (rs := [11]) (by kernel_rfl) (by simp) (fun wa31 hwa31 hRwa31 i hi => ?_)
    have hB11 := hB10.next hwa31
    clear hB10 hwa31 hRwa31
    obtain rfl := List.mem_singleton.1 hi
    refine wpOp_step rfl (fun Kc hKc => ?_)
    have c_out := fun j => cell_of_row _ _ j _ _ _ (hB11.get 0 rfl)
    have z_out := hB11.lt 0 rfl
    have f_out := fun j => frozen_of_row _ _ j _ _ (hB11.get 0 rfl)
    go_simp
    have hB12 := hB11.put3 0 rfl (.int .i64 K.len) (.slice A1 K.cuts.length c1) (.slice A2 K.dens.length c2)
    refine hKc _ _ ⟨(hB12.keep (List.Sublist.cons _ (List.Sublist.cons_cons _ (List.nil_sublist _)))), ?_⟩
    clear c_out z_out f_out hKc Kc hB11
    generalize ((wa31.setCell _ _).setCell _ _).setCell _ _ = wb32 at *
    refine wpAnyE_done (by kernel_rfl) (fun wd33 hwd33 hRwd33 => ?_) _
    refine NoPanic.normal ?_
    have hB13 := hB12.next hwd33
    clear hB12 hwd33 hRwd33
    have HO1 := hB13.row 0 rfl
    have HO2 := hB13.row 1 rfl
    simp only [Nat.zero_add, List.nil_append] at HO1 HO2
    have HE := Lib.hid (show KOwn w.heap.size _ (.slice A1 K.cuts.length c1) (.slice A2 K.dens.length c2) K from ⟨HO1, HO2, HH.out.w0, HH.out.w1⟩)
    have HBw := Lib.hid hB13.below
    clear HO1 HO2
    have c_out := fun j => cell_of_row _ _ j _ _ _ (hB13.get 0 rfl)
    have z_out := hB13.lt 0 rfl
    have f_out := fun j => frozen_of_row _ _ j _ _ (hB13.get 0 rfl)
    clear hB13
    go_wp2_with fail
    refine bodyPost_ret (v := kV K.len (.slice A1 K.cuts.length c1) (.slice A2 K.dens.length c2)) (by simp [results, Try.results16, go_sem, c_out, f_out, z_out]) rfl ?_
    exact ⟨_, _, rfl, HE.out, HBw.out⟩
end Go.Proofs.Ytgcbmnohhbcfiaa

namespace Go.Proofs.Ytgcbmnohhbcfiaa
open Go.RowKit Go.Deep
set_option linter.unusedVariables false
set_option linter.unusedSimpArgs false

theorem infoCk : (Try.prog.info? 24).map (fun i => (i.zero, i.size, i.bytes)) = some (some (.agg #[.int .i64 0, .slice none 0 0, .slice none 0 0]), 3, 56) := by kernel_rfl
/-- A list of cakes of the call's own. -/
def CsOwn (B : Nat) (w : World) (v : Value) (ks : List Ck) : Prop := ∃ xs, w.ownsRow B 24 3 v ks.length xs ∧ Els kCk B w v.ownBlock.toList ks xs
theorem CsOwn.in_ {B : Nat} {w : World} {v : Value} {ks : List Ck} (h : CsOwn B w v ks) : ∃ A c, v = .slice A ks.length c ∧ CsIn w.heap.size w A c ks := by
  obtain ⟨xs, h1, h2⟩ := h
  exact Els.in_ (k := kCk) h2 h1
theorem CsOwn.next {B : Nat} {w W : World} {v : Value} {ks : List Ck} (h : CsOwn B w v ks) (hb : Below w.heap.size w W) : CsOwn B W v ks := by
  obtain ⟨xs, h1, h2⟩ := h
  exact ⟨xs, own_next h1 hb, h2.next hb⟩
/-- It hangs on nothing but what was made since. -/
theorem CsOwn.fresh {B : Nat} {w : World} {v : Value} {ks : List Ck} (h : CsOwn B w v ks) : ∃ A c, v = .slice A ks.length c ∧ Fresh B w (fun W => CsIn W.heap.size W A c ks) := by
  obtain ⟨A, c, rfl, _⟩ := h.in_
  refine ⟨A, c, rfl, fun W hs hk => ?_⟩
  obtain ⟨xs, h1, h2⟩ := h
  have h3 : W.ownsRow B 24 3 (.slice A ks.length c) ks.length xs := ownsRow_block h1 (fun g e => hk g (own_ge' h1 g e).1 (own_ge' h1 g e).2)
  have h4 : Els kCk B W (Value.slice A ks.length c).ownBlock.toList ks xs := h2.step hs (fun g hB hg _ => hk g hB hg) (fun g hg => Or.inl hg)
  obtain ⟨A', c', e, r⟩ := Els.in_ (k := kCk) h4 h3
  obtain ⟨rfl, _, rfl⟩ := Value.slice.inj e
  exact r
theorem CsOwn.nil (B : Nat) (w : World) : CsOwn B w (.slice none 0 0) [] := ⟨[], World.ownsRow_nil _ _ _ _, Els.nil _ _ _ _⟩
theorem CsOwn.mono {B B' : Nat} {w : World} {v : Value} {ks : List Ck} (h : CsOwn B w v ks) (hB : B' ≤ B) : CsOwn B' w v ks := by
  obtain ⟨xs, h1, h2⟩ := h
  exact ⟨xs, ⟨h1.1, h1.2.imp id (fun ⟨g, cap, cur, e, hg, r⟩ => ⟨g, cap, cur, e, Nat.le_trans hB hg, r⟩)⟩, fun i a hi => by obtain ⟨vs, p1, p2⟩ := h2 i a hi; exact ⟨vs, p1, p2.mono hB⟩⟩
theorem CsOwn.push {B : Nat} {wr w1 W1 : World} {v v' : Value} {ks : List Ck} {xs : List Value} {K : Ck} {A R : Option Addr} {c d : Nat} {o : Obj} (hw : wr.ownsRow B 24 3 v ks.length xs) (hB : B ≤ wr.heap.size) (hE : Els kCk B wr v.ownBlock.toList ks xs) (hb : Below wr.heap.size wr w1)
    (hk : KOwn wr.heap.size w1 (.slice A K.cuts.length c) (.slice R K.dens.length d) K) (hg : (w1.alloc o).grownBy W1 v.ownBlock) (ho : W1.ownsRow B 24 3 v' (ks.length + 1) (xs ++ [.int .i64 K.len, .slice A K.cuts.length c, .slice R K.dens.length d]))
    (hat : v'.ownBlock = v.ownBlock ∨ v'.ownBlock = some (w1.alloc o).heap.size) : CsOwn B W1 v' (ks ++ [K]) := by
  refine ⟨_, by rw [List.length_append]; exact ho, (hE.next hb).push hw.1 ((Fresh_sep (B0 := wr.heap.size) (fun W h1 h2 => ⟨A, c, R, d, rfl, hk.fresh W h1 h2⟩) (fun g hm => ?_)).mono hB) hg hat⟩
  left
  exact (own_ge' hw g (by simpa using hm)).2
theorem take_next {α : Type} {l : List α} {k : Nat} {a : α} (h : l[k]? = some a) : l.take (k + 1) = l.take k ++ [a] := by rw [List.take_add_one, h]; rfl
theorem one3 (n : Int) (A R : Option Addr) (a b c d : Nat) : ∀ u ∈ [Value.int .i64 n, .slice A a c, .slice R b d], u.oneCell' = true := by intro u hu; simp at hu; rcases hu with rfl | rfl | rfl <;> rfl
set_option maxRecDepth 100000 in
set_option maxHeartbeats 8000000 in
theorem ftwins_any (ks : List Ck) (A : Option Addr) (c : Nat) (w : World) (h : CsIn w.heap.size w A c ks) (hn : ks.length ≤ 1000) (hs : ∀ (i : Nat) (K : Ck), ks[i]? = some K → K.big = false) :
    Calls Try.prog 61 #[.slice A ks.length c] w fun e w' => ∃ v, e = .returned v ∧ CsOwn w.heap.size w' v ks ∧ Below w.heap.size w w' := by
  obtain ⟨i0, hi0, hz0, hz1, hz2⟩ := info_parts infoCk
  have HH := Lib.hid (fun (W : World) (hW : Below w.heap.size w W) => h.next hW)
  have HS := Lib.hid hs
  clear h hs
  go_enter Try.func61, Try.ntmps61
  go_wp2_with fail
  go_loopw [3, 4] (fun s3 s4 wr => ∃ (k : Nat) (v : Value), k ≤ ks.length ∧ v = s3 ∧ s4 = .int .i64 k ∧ CsOwn w.heap.size wr v (ks.take k) ∧ Below w.heap.size w wr) (fun _ s4 _ => ks.length - (intOf s4).toNat)
  case atStart => exact ⟨0, _, Nat.zero_le _, rfl, rfl, CsOwn.nil _ _, Below.refl _ _⟩
  case round =>
    obtain ⟨k, v, hk, rfl, rfl, ho, hB⟩ := hrel
    by_cases hlt : k < ks.length
    rotate_left
    · obtain rfl : k = ks.length := by omega
      rw [List.take_length] at ho
      have HO := Lib.hid ho
      have HBw := Lib.hid hB
      clear ho hB hk hlt HH HS
      go_wp2_with fail
      go_ret
      exact ⟨_, rfl, HO.out, HBw.out⟩
    obtain ⟨K, hK⟩ : ∃ K, ks[k]? = some K := ⟨_, List.getElem?_eq_getElem hlt⟩
    obtain ⟨ad, P, p, R, r, rfl, hb, hC, c0, c1, c2⟩ := (HH.out _ hB).cake hK
    obtain ⟨z1, z2, z3, z4⟩ := idx_facts hlt (by omega)
    have HC := Lib.hid (ctwin_any K P p R r wr hC (HS.out k K hK))
    have HLE := Lib.hid (And.intro (Nat.succ_le_of_lt hlt) (Nat.sub_lt_sub_left hlt (Nat.lt_succ_self k)))
    have HLK := Lib.hid (show (ks.take k).length ≤ 1000 by rw [List.length_take]; omega)
    have HT := Lib.hid (take_next hK)
    have HO := Lib.hid ho
    have HBw := Lib.hid hB
    clear ho hB hk hlt hC hK HH HS
    go_wp2_with fail
    refine HC.out.mono ?_
    rintro e w1 ⟨u, t, rfl, hk, hb1⟩
    obtain ⟨A1, d1, R1, d2, rfl, rfl⟩ := hk.shape
    obtain ⟨xs, ho, hE⟩ := HO.out
    have HK := Lib.hid hk
    have HE := Lib.hid hE
    have HO1 := Lib.hid ho
    have HB1 := Lib.hid hb1
    have hoA := own_next (own_next ho hb1) (one_alloc w1 (.cells #[.int .i64 K.len, .slice A1 K.cuts.length d1, .slice R1 K.dens.length d2] 24))
    have hL : (w1.alloc (.cells #[.int .i64 K.len, .slice A1 K.cuts.length d1, .slice R1 K.dens.length d2] 24)).heap[w1.heap.size]? = some _ := heap_new rfl
    have hbs := Nat.le_trans (Nat.le_trans HBw.out.size hb1.size) (one_alloc w1 (.cells #[.int .i64 K.len, .slice A1 K.cuts.length d1, .slice R1 K.dens.length d2] 24)).size
    clear c0 c1 c2 hb hb1 HC hk hE ho HO
    go_upto_region 4 with (at_builtin; refine wpList_append_any _ rfl (.tmp 11) (.tmp 17) 73 rfl w.heap.size 24 i0 (.agg #[.int .i64 0, .slice none 0 0, .slice none 0 0]) 3 56 Try.underlying73 hi0 hz0 hz1 hz2 rfl (by omega) v (ks.take k).length xs rfl hoA _ (some ⟨w1.heap.size, 0, none⟩) 1 1 [.int .i64 K.len, .slice A1 K.cuts.length d1, .slice R1 K.dens.length d2] rfl (reads_lit (n := 1) (s := 3) hL rfl) (one3 _ _ _ _ _ _ _) (by have := HLK.out; unfold maxLen; omega) (by have := HLK.out; omega) hbs ?_; intro v' W1 hown hgr hat)
    have HN := Lib.hid (show CsOwn w.heap.size W1 v' (ks.take (k + 1)) by rw [HT.out]; exact CsOwn.push HO1.out HBw.out.size HE.out HB1.out HK.out hgr hown hat)
    have HBn := Lib.hid (own_below (bcall HBw.out HBw.out.size HB1.out) (own_next HO1.out HB1.out) hgr (Nat.le_trans HBw.out.size HB1.out.size))
    clear hown hgr hat hoA hL hbs
    go_wp2_with fail
    exact ⟨⟨k + 1, v', HLE.out.1, rfl, by go_num, HN.out, HBn.out⟩, by simpa [intOf] using HLE.out.2⟩
end Go.Proofs.Ytgcbmnohhbcfiaa
