/- Shares and prices: each one, and lists of them; what a good is worth by its price. -/
import Derived.Test.YtpijllobpohpgaaMa3
import Derived.Test.YtpijllobpohpgaaRtG
import Derived.Test.YtpijllobpohpgaaRfD
import Derived.Test.YtpijllobpohpgaaRfE
import Derived.Test.YtpijllobpohpgaaRfF
import Derived.Test.YtpijllobpohpgaaMa1
namespace Go.Proofs.Ytpijllobpohpgaa
open Go.RowKit Go.Deep
set_option linter.unusedVariables false
set_option linter.unusedSimpArgs false

/-- A share of a good. -/
def shB (s : Rt) : Bool := decide (s.code = 0) && decide (0 ≤ s.n) && decide (s.n ≤ s.d)
def wrongB (s : Rt) : Bool := !shB s
def badB (p : Rt) : Bool := !(decide (p.code = 0) && decide (1 ≤ p.n))
def validB (n : Nat) (l : List Rt) : Bool := l.all shB && decide (l.length = n)
theorem mem_gR {l : List Rt} {x : Rt} (h : x ∈ l) : ∃ k, k < l.length ∧ gR l k = x := by
  obtain ⟨i, hi, rfl⟩ := List.mem_iff_getElem.1 h
  exact ⟨i, hi, gR_get hi⟩
theorem gR_mem {l : List Rt} {k : Nat} (h : k < l.length) : gR l k ∈ l := by rw [gR_get h]; exact List.getElem_mem h
theorem anyq_none {p : Rt → Bool} {l : List Rt} (h : ∀ j, j < l.length → p (gR l j) = false) : l.any p = false := by
  rw [List.any_eq_false]
  intro x hx
  obtain ⟨i, hi, rfl⟩ := mem_gR hx
  simpa using h i hi
theorem anyq_some {p : Rt → Bool} {l : List Rt} {k : Nat} (hk : k < l.length) (h : p (gR l k) = true) : l.any p = true := by
  rw [List.any_eq_true]
  exact ⟨_, gR_mem hk, h⟩
theorem all_any {l : List Rt} : l.all shB = !l.any wrongB := by
  induction l with
  | nil => rfl
  | cons x l ih => rw [List.all_cons, List.any_cons, ih]; unfold wrongB; cases shB x <;> simp
theorem valid_ok {n : Nat} {l : List Rt} (h : validB n l = true) : l.length = n ∧ ∀ g, g < n → (gR l g).Ok ∧ 0 ≤ (gR l g).n ∧ (gR l g).n ≤ (gR l g).d := by
  unfold validB at h
  rw [Bool.and_eq_true, decide_eq_true_eq, List.all_eq_true] at h
  refine ⟨h.2, fun g hg => ?_⟩
  have := h.1 _ (gR_mem (show g < l.length by omega))
  unfold shB at this
  simp only [Bool.and_eq_true, decide_eq_true_eq] at this
  exact ⟨Rt.ok_code this.1.1, this.1.2, this.2⟩
theorem prices_ok {l : List Rt} (h : l.any badB = false) : ∀ g, g < l.length → (gR l g).Ok ∧ 1 ≤ (gR l g).n := by
  intro g hg
  have := (List.any_eq_false.1 h) _ (gR_mem hg)
  unfold badB at this
  simp only [Bool.not_eq_true, Bool.not_eq_false', Bool.and_eq_true, decide_eq_true_eq] at this
  exact ⟨Rt.ok_code this.1, this.2⟩

set_option maxHeartbeats 1000000 in
theorem wrong_any (a : Rt) (h : a.wf) (w : World) : Calls Try.prog 70 #[rV a] w fun e w' => e = .returned (.bool (wrongB a)) ∧ Below w.heap.size w w' := by
  have hB0 : Bx w [(w.heap.size, rB a)] (w.alloc (rB a)) := (Bx.start w).new rfl _
  have HC := Lib.hid (fun (W : World) => rcheck_any a h W)
  clear h
  go_enter Try.func70, Try.ntmps70
  go_upto_region 1 with fail
  generalize w.alloc (rB a) = w0 at *
  have c_a := fun j => cell_of_row _ _ j _ _ _ (hB0.get 0 rfl)
  have z_a := hB0.lt 0 rfl
  by_cases hc : a.code = 0
  rotate_left
  · have HR := Lib.hid (show wrongB a = true by unfold wrongB shB; simp [hc])
    have q : (a.code != 0) = true := bneT hc
    generalize a.code = cc at *
    clear hc
    go_wp2_with fail
    refine (HC.out _).mono ?_
    rintro e w1 ⟨rfl, hb⟩
    have hB1 := hB0.next hb
    clear c_a z_a hb hB0
    have c_a := fun j => cell_of_row _ _ j _ _ _ (hB1.get 0 rfl)
    have z_a := hB1.lt 0 rfl
    have HE := Lib.hid hB1.below
    go_wp2_with fail
    go_ret
    exact ⟨ret_bool HR.out.symm, HE.out⟩
  have HCZ := Lib.hid hc
  rw [hc] at HC
  clear hc
  go_wp2_with fail
  refine (HC.out _).mono ?_
  rintro e w1 ⟨rfl, hb⟩
  have hB1 := hB0.next hb
  clear c_a z_a hb hB0
  have c_a := fun j => cell_of_row _ _ j _ _ _ (hB1.get 0 rfl)
  have z_a := hB1.lt 0 rfl
  by_cases h1 : a.n < 0
  · have q1 : decide (a.n < 0) = true := by simpa using h1
    have HR := Lib.hid (show wrongB a = true by unfold wrongB shB; have := HCZ.out; simp; omega)
    have HE := Lib.hid hB1.below
    go_wp2_with fail
    go_ret
    exact ⟨ret_bool HR.out.symm, HE.out⟩
  have q1 : decide (a.n < 0) = false := by simpa using h1
  by_cases h2 : a.d < a.n
  · have q2 : decide (a.d < a.n) = true := by simpa using h2
    have HR := Lib.hid (show wrongB a = true by unfold wrongB shB; have := HCZ.out; simp; omega)
    have HE := Lib.hid hB1.below
    go_wp2_with fail
    go_ret
    exact ⟨ret_bool HR.out.symm, HE.out⟩
  have q2 : decide (a.d < a.n) = false := by simpa using h2
  have HR := Lib.hid (show wrongB a = false by unfold wrongB shB; have := HCZ.out; simp; omega)
  have HE := Lib.hid hB1.below
  go_wp2_with fail
  go_ret
  exact ⟨ret_bool HR.out.symm, HE.out⟩

set_option maxHeartbeats 1000000 in
theorem badp_any (a : Rt) (h : a.wf) (w : World) : Calls Try.prog 35 #[rV a] w fun e w' => e = .returned (.bool (badB a)) ∧ Below w.heap.size w w' := by
  have hB0 : Bx w [(w.heap.size, rB a)] (w.alloc (rB a)) := (Bx.start w).new rfl _
  have HC := Lib.hid (fun (W : World) => rcheck_any a h W)
  clear h
  go_enter Try.func35, Try.ntmps35
  go_upto_region 1 with fail
  generalize w.alloc (rB a) = w0 at *
  have c_a := fun j => cell_of_row _ _ j _ _ _ (hB0.get 0 rfl)
  have z_a := hB0.lt 0 rfl
  by_cases hc : a.code = 0
  rotate_left
  · have HR := Lib.hid (show badB a = true by unfold badB; simp [hc])
    have q : (a.code != 0) = true := bneT hc
    generalize a.code = cc at *
    clear hc
    go_wp2_with fail
    refine (HC.out _).mono ?_
    rintro e w1 ⟨rfl, hb⟩
    have hB1 := hB0.next hb
    clear c_a z_a hb hB0
    have c_a := fun j => cell_of_row _ _ j _ _ _ (hB1.get 0 rfl)
    have z_a := hB1.lt 0 rfl
    have HE := Lib.hid hB1.below
    go_wp2_with fail
    go_ret
    exact ⟨ret_bool HR.out.symm, HE.out⟩
  have HCZ := Lib.hid hc
  rw [hc] at HC
  clear hc
  go_wp2_with fail
  refine (HC.out _).mono ?_
  rintro e w1 ⟨rfl, hb⟩
  have hB1 := hB0.next hb
  clear c_a z_a hb hB0
  have c_a := fun j => cell_of_row _ _ j _ _ _ (hB1.get 0 rfl)
  have z_a := hB1.lt 0 rfl
  by_cases h1 : a.n < 1
  · have q1 : decide (a.n < 1) = true := by simpa using h1
    have HR := Lib.hid (show badB a = true by unfold badB; have := HCZ.out; simp; omega)
    have HE := Lib.hid hB1.below
    go_wp2_with fail
    go_ret
    exact ⟨ret_bool HR.out.symm, HE.out⟩
  have q1 : decide (a.n < 1) = false := by simpa using h1
  have HR := Lib.hid (show badB a = false by unfold badB; have := HCZ.out; simp; omega)
  have HE := Lib.hid hB1.below
  go_wp2_with fail
  go_ret
  exact ⟨ret_bool HR.out.symm, HE.out⟩

set_option maxRecDepth 100000 in
set_option maxHeartbeats 1000000 in
theorem index_wrong (l : List Rt) (A : Option Addr) (c : Nat) (w : World) (h : QIn w.heap.size w A c l) :
    Calls Try.prog 71 #[.slice A l.length c, .func (.func 70) #[] #[]] w fun e w' => ∃ r : Int, e = .returned (.int .i64 r) ∧ decide (0 ≤ r) = l.any wrongB ∧ Below w.heap.size w w' := by
  have hm := Nat.le_trans h.len h.cap
  unfold maxLen at hm
  have HH := Lib.hid h
  clear h
  go_enter Try.func71, Try.ntmps71
  go_wp2_with fail
  go_loopw [8] (fun s wr => ∃ k : Nat, k ≤ l.length ∧ s = .int .i64 k ∧ (∀ j, j < k → wrongB (gR l j) = false) ∧ Below w.heap.size w wr) (fun s _ => l.length - (intOf s).toNat)
  case atStart => exact ⟨0, Nat.zero_le _, rfl, fun j hj => by omega, Below.refl _ _⟩
  case round =>
    obtain ⟨k, hk, rfl, hno, hw⟩ := hrel
    have HNO := Lib.hid hno
    have HW := Lib.hid hw
    by_cases hlt : k < l.length
    rotate_left
    · obtain rfl : k = l.length := by omega
      have HR := Lib.hid (anyq_none hno)
      clear hno hw
      go_wp2_with fail
      go_ret
      exact ⟨-1, rfl, by rw [HR.out]; rfl, HW.out⟩
    obtain ⟨ad, rfl, hb, hc⟩ := HH.out.at_ hlt
    obtain ⟨f0, f1, f2⟩ := cell2 (hc.below hb hw) hlt
    have f3 : wr.cell? ⟨(ad.add (k * 2)).block, (ad.add (k * 2)).off + 1, none⟩ = some (.int .i64 (gR l k).d) := f1
    have z1 : (k : Int) < (l.length : Int) := by omega
    have z3 : (0 : Int) ≤ (k : Int) := by omega
    have y1 : IntKind.i64.wrap ((k : Int) + 1) = (k : Int) + 1 := IntWalk.i64_in _ (by omega)
    have y1' : wrap64 ((k : Int) + 1) = (k : Int) + 1 := IntWalk.wrap64_in _ (by omega)
    have HK := Lib.hid (wrong_any (gR l k) (HH.out.wf k hlt) wr)
    have HME := Lib.hid (And.intro (Nat.succ_le_of_lt hlt) (Nat.sub_lt_sub_left hlt (Nat.lt_succ_self k)))
    have HLT := Lib.hid hlt
    clear hno hw hc hb hk hlt
    go_wp2_with fail
    refine HK.out.mono ?_
    rintro e w2 ⟨rfl, hb2⟩
    have HW2 := Lib.hid (bcall HW.out HW.out.size hb2)
    clear f0 f1 f2 f3 hb2 HK
    cases hp : wrongB (gR l k) with
    | true =>
      have HR := Lib.hid (anyq_some (p := wrongB) HLT.out hp)
      clear hp
      go_wp2_with fail
      go_ret
      exact ⟨k, rfl, by rw [HR.out]; simp, HW2.out⟩
    | false =>
      have HS := Lib.hid (any_step (g := gR l) (p := wrongB) HNO.out hp)
      clear hp
      go_wp2_with fail
      exact ⟨⟨k + 1, HME.out.1, by go_num, HS.out, HW2.out⟩, by simpa [intOf] using HME.out.2⟩
theorem contains_wrong (l : List Rt) (A : Option Addr) (c : Nat) (w : World) (h : QIn w.heap.size w A c l) :
    Calls Try.prog 38 #[.slice A l.length c, .func (.func 70) #[] #[]] w fun e w' => e = .returned (.bool (l.any wrongB)) ∧ Below w.heap.size w w' := by
  have HI := Lib.hid (index_wrong l A c w h)
  clear h
  go_enter Try.func38, Try.ntmps38
  go_wp2_with fail
  refine HI.out.mono ?_
  rintro e w2 ⟨r, rfl, hr, hb⟩
  have HB := Lib.hid hb
  have HR := Lib.hid hr
  clear hb hr
  go_wp2_with fail
  go_ret
  exact ⟨ret_bool (by rw [← HR.out]), HB.out⟩

set_option maxRecDepth 100000 in
set_option maxHeartbeats 1000000 in
theorem index_badp (l : List Rt) (A : Option Addr) (c : Nat) (w : World) (h : QIn w.heap.size w A c l) :
    Calls Try.prog 71 #[.slice A l.length c, .func (.func 35) #[] #[]] w fun e w' => ∃ r : Int, e = .returned (.int .i64 r) ∧ decide (0 ≤ r) = l.any badB ∧ Below w.heap.size w w' := by
  have hm := Nat.le_trans h.len h.cap
  unfold maxLen at hm
  have HH := Lib.hid h
  clear h
  go_enter Try.func71, Try.ntmps71
  go_wp2_with fail
  go_loopw [8] (fun s wr => ∃ k : Nat, k ≤ l.length ∧ s = .int .i64 k ∧ (∀ j, j < k → badB (gR l j) = false) ∧ Below w.heap.size w wr) (fun s _ => l.length - (intOf s).toNat)
  case atStart => exact ⟨0, Nat.zero_le _, rfl, fun j hj => by omega, Below.refl _ _⟩
  case round =>
    obtain ⟨k, hk, rfl, hno, hw⟩ := hrel
    have HNO := Lib.hid hno
    have HW := Lib.hid hw
    by_cases hlt : k < l.length
    rotate_left
    · obtain rfl : k = l.length := by omega
      have HR := Lib.hid (anyq_none hno)
      clear hno hw
      go_wp2_with fail
      go_ret
      exact ⟨-1, rfl, by rw [HR.out]; rfl, HW.out⟩
    obtain ⟨ad, rfl, hb, hc⟩ := HH.out.at_ hlt
    obtain ⟨f0, f1, f2⟩ := cell2 (hc.below hb hw) hlt
    have f3 : wr.cell? ⟨(ad.add (k * 2)).block, (ad.add (k * 2)).off + 1, none⟩ = some (.int .i64 (gR l k).d) := f1
    have z1 : (k : Int) < (l.length : Int) := by omega
    have z3 : (0 : Int) ≤ (k : Int) := by omega
    have y1 : IntKind.i64.wrap ((k : Int) + 1) = (k : Int) + 1 := IntWalk.i64_in _ (by omega)
    have y1' : wrap64 ((k : Int) + 1) = (k : Int) + 1 := IntWalk.wrap64_in _ (by omega)
    have HK := Lib.hid (badp_any (gR l k) (HH.out.wf k hlt) wr)
    have HME := Lib.hid (And.intro (Nat.succ_le_of_lt hlt) (Nat.sub_lt_sub_left hlt (Nat.lt_succ_self k)))
    have HLT := Lib.hid hlt
    clear hno hw hc hb hk hlt
    go_wp2_with fail
    refine HK.out.mono ?_
    rintro e w2 ⟨rfl, hb2⟩
    have HW2 := Lib.hid (bcall HW.out HW.out.size hb2)
    clear f0 f1 f2 f3 hb2 HK
    cases hp : badB (gR l k) with
    | true =>
      have HR := Lib.hid (anyq_some (p := badB) HLT.out hp)
      clear hp
      go_wp2_with fail
      go_ret
      exact ⟨k, rfl, by rw [HR.out]; simp, HW2.out⟩
    | false =>
      have HS := Lib.hid (any_step (g := gR l) (p := badB) HNO.out hp)
      clear hp
      go_wp2_with fail
      exact ⟨⟨k + 1, HME.out.1, by go_num, HS.out, HW2.out⟩, by simpa [intOf] using HME.out.2⟩
theorem contains_badp (l : List Rt) (A : Option Addr) (c : Nat) (w : World) (h : QIn w.heap.size w A c l) :
    Calls Try.prog 38 #[.slice A l.length c, .func (.func 35) #[] #[]] w fun e w' => e = .returned (.bool (l.any badB)) ∧ Below w.heap.size w w' := by
  have HI := Lib.hid (index_badp l A c w h)
  clear h
  go_enter Try.func38, Try.ntmps38
  go_wp2_with fail
  refine HI.out.mono ?_
  rintro e w2 ⟨r, rfl, hr, hb⟩
  have HB := Lib.hid hb
  have HR := Lib.hid hr
  clear hb hr
  go_wp2_with fail
  go_ret
  exact ⟨ret_bool (by rw [← HR.out]), HB.out⟩

set_option maxRecDepth 100000 in
set_option maxHeartbeats 2000000 in
theorem ishares_any (bs : List (List Int)) (A : Option Addr) (c : Nat) (l : List Rt) (B : Option Addr) (d : Nat) (w : World) (h : GIn w.heap.size w A c bs) (h2 : bs.length = 2) (hl : QIn w.heap.size w B d l) :
    Calls Try.prog 37 #[gV A c bs, .slice B l.length d] w fun e w' => e = .returned (.bool (validB (gr bs 0).length l)) ∧ Below w.heap.size w w' := by
  obtain ⟨ad, R0, c0, R1, c1, rfl, hT⟩ := h.two h2
  have HT := Lib.hid hT
  have HL := Lib.hid (fun (W : World) (hW : Below w.heap.size w W) => contains_wrong l B d W (hl.next hW))
  have hB0 : Bx w [(w.heap.size, gB (some ad) c bs)] (w.alloc (gB (some ad) c bs)) := (Bx.start w).new rfl _
  have q20 : (0 : Int) < (bs.length : Int) := by omega
  have HV := Lib.hid (show validB (gr bs 0).length l = (!l.any wrongB && decide (l.length = (gr bs 0).length)) by unfold validB; rw [all_any])
  clear h hT hl h2
  go_enter Try.func37, Try.ntmps37
  go_upto_region 1 with fail
  generalize w.alloc (gB (some ad) c bs) = w0 at *
  have hT := HT.out.next hB0.below
  have t0 := hT.r0
  have tb := hT.bl
  clear hT
  have c_G := fun j => cell_of_row _ _ j _ _ _ (hB0.get 0 rfl)
  have z_G := hB0.lt 0 rfl
  by_cases hq : l.length = (gr bs 0).length
  rotate_left
  · have q : ((l.length : Int) == ((gr bs 0).length : Int)) = false := beqF (by omega)
    have qn : (l.length == (gr bs 0).length) = false := beqFn hq
    have HR := Lib.hid (show validB (gr bs 0).length l = false by rw [HV.out, decide_eq_false hq]; simp)
    have HE := Lib.hid hB0.below
    clear hq
    go_wp2_with fail
    go_ret
    exact ⟨ret_bool HR.out.symm, HE.out⟩
  have q : ((l.length : Int) == ((gr bs 0).length : Int)) = true := beqT (by omega)
  have qn : (l.length == (gr bs 0).length) = true := beqTn hq
  have HR := Lib.hid (show validB (gr bs 0).length l = !l.any wrongB by rw [HV.out, decide_eq_true hq]; simp)
  clear hq
  go_wp2_with fail
  refine (HL.out _ hB0.below).mono ?_
  rintro e w1 ⟨rfl, hb⟩
  have hB1 := hB0.next hb
  clear c_G z_G hb hB0
  have HE := Lib.hid hB1.below
  clear hB1 t0 tb
  go_wp2_with fail
  go_ret
  exact ⟨ret_bool HR.out.symm, HE.out⟩

theorem valid_false {n : Nat} {l : List Rt} {k : Nat} (hk : k < l.length) (h : shB (gR l k) = false) : validB n l = false := by
  unfold validB
  rw [Bool.and_eq_false_iff]
  left
  rw [List.all_eq_false]
  exact ⟨_, gR_mem hk, by rw [h]; simp⟩
theorem valid_all {n : Nat} {l : List Rt} (h : ∀ j, j < l.length → shB (gR l j) = true) : validB n l = decide (l.length = n) := by
  unfold validB
  rw [List.all_eq_true.2 (fun x hx => by obtain ⟨i, hi, rfl⟩ := mem_gR hx; exact h i hi)]; simp
set_option maxRecDepth 100000 in
set_option maxHeartbeats 4000000 in
theorem fvalid_any (bs : List (List Int)) (A : Option Addr) (c : Nat) (l : List Rt) (B : Option Addr) (d : Nat) (w : World) (h : GIn w.heap.size w A c bs) (h2 : bs.length = 2) (hl : QIn w.heap.size w B d l) :
    Calls Try.prog 14 #[gV A c bs, .slice B l.length d] w fun e w' => e = .returned (.bool (validB (gr bs 0).length l)) ∧ Below w.heap.size w w' := by
  obtain ⟨ad, R0, c0, R1, c1, rfl, hT⟩ := h.two h2
  have HT := Lib.hid hT
  have hm := Nat.le_trans hl.len hl.cap
  unfold maxLen at hm
  have HH := Lib.hid hl
  have hB0 : Bx w [(w.heap.size, gB (some ad) c bs)] (w.alloc (gB (some ad) c bs)) := (Bx.start w).new rfl _
  have q20 : (0 : Int) < (bs.length : Int) := by omega
  clear h hT hl h2
  go_enter Try.func14, Try.ntmps14
  go_upto_region 1 with fail
  generalize w.alloc (gB (some ad) c bs) = w0 at *
  have HB0 := Lib.hid hB0
  clear hB0
  go_wp2_with fail
  go_loopw [5] (fun s wr => ∃ k : Nat, k ≤ l.length ∧ s = .int .i64 k ∧ (∀ j, j < k → shB (gR l j) = true) ∧ Bx w [(w.heap.size, gB (some ad) c bs)] wr) (fun s _ => l.length - (intOf s).toNat)
  case atStart => exact ⟨0, Nat.zero_le _, rfl, fun j hj => by omega, HB0.out⟩
  case round =>
    obtain ⟨k, hk, rfl, hno, hBr⟩ := hrel
    have HNO := Lib.hid hno
    clear HB0
    by_cases hlt : k < l.length
    rotate_left
    · obtain rfl : k = l.length := by omega
      have HR := Lib.hid (valid_all (n := (gr bs 0).length) hno)
      clear hno hlt hk
      have hT := HT.out.next hBr.below
      have t0 := hT.r0
      have tb := hT.bl
      clear hT
      have HE := Lib.hid hBr.below
      have c_G := fun j => cell_of_row _ _ j _ _ _ (hBr.get 0 rfl)
      have z_G := hBr.lt 0 rfl
      by_cases hq : l.length = (gr bs 0).length
      · have q : ((l.length : Int) == ((gr bs 0).length : Int)) = true := beqT (by omega)
        have qn : (l.length == (gr bs 0).length) = true := beqTn hq
        rw [decide_eq_true hq] at HR
        clear hq
        go_wp2_with fail
        go_ret
        exact ⟨ret_bool HR.out.symm, HE.out⟩
      have q : ((l.length : Int) == ((gr bs 0).length : Int)) = false := beqF (by omega)
      have qn : (l.length == (gr bs 0).length) = false := beqFn hq
      rw [decide_eq_false hq] at HR
      clear hq
      go_wp2_with fail
      go_ret
      exact ⟨ret_bool HR.out.symm, HE.out⟩
    obtain ⟨bd, rfl, hb, hc⟩ := HH.out.at_ hlt
    obtain ⟨f0, f1, f2⟩ := cell2 (hc.below hb hBr.below) hlt
    have f3 : wr.cell? ⟨(bd.add (k * 2)).block, (bd.add (k * 2)).off + 1, none⟩ = some (.int .i64 (gR l k).d) := f1
    have zs := hBr.below.size
    have za : (bd.add (k * 2)).block < wr.heap.size := by rw [block_add]; omega
    have za' : bd.block < wr.heap.size := by omega
    have z1 : (k : Int) < (l.length : Int) := by omega
    have z3 : (0 : Int) ≤ (k : Int) := by omega
    have y1 : IntKind.i64.wrap ((k : Int) + 1) = (k : Int) + 1 := IntWalk.i64_in _ (by omega)
    have y1' : wrap64 ((k : Int) + 1) = (k : Int) + 1 := IntWalk.wrap64_in _ (by omega)
    have HK := Lib.hid (fun (W : World) => fcheck_any (gR l k) (HH.out.wf k hlt) W)
    have HME := Lib.hid (And.intro (Nat.succ_le_of_lt hlt) (Nat.sub_lt_sub_left hlt (Nat.lt_succ_self k)))
    have HLT := Lib.hid hlt
    clear hno hc hb hk hlt zs
    by_cases hc : (gR l k).code = 0
    rotate_left
    · have HR := Lib.hid (valid_false (n := (gr bs 0).length) HLT.out (show shB (gR l k) = false by unfold shB; simp [hc]))
      have q : ((gR l k).code != 0) = true := bneT hc
      generalize (gR l k).code = cc at *
      clear hc
      go_wp2_with fail
      refine wp_region_ext (by kernel_rfl) (by kernel_rfl) ?_
      repeat (first | go_big_quiet_step ((first | (go_at_call 43; exact calls_ext (HK.out _)))) | quiet_step ((first | (go_at_call 43; exact calls_ext (HK.out _)))))
      refine wpQuiet_nil ?_
      rintro w2 ⟨⟨_, hb2⟩, rfl⟩
      have hB2 := hBr.next hb2
      clear hb2 f0 f1 f2 f3 za za' hBr
      have HE := Lib.hid hB2.below
      clear hB2
      go_wp2_with fail
      go_ret
      exact ⟨ret_bool HR.out.symm, HE.out⟩
    have HCZ := Lib.hid hc
    rw [hc] at HK
    clear hc
    by_cases h1 : (gR l k).n < 0
    · have q1 : decide ((gR l k).n < 0) = true := by simpa using h1
      have HR := Lib.hid (valid_false (n := (gr bs 0).length) HLT.out (show shB (gR l k) = false by unfold shB; simp; omega))
      clear h1
      go_wp2_with fail
      refine wp_region_ext (by kernel_rfl) (by kernel_rfl) ?_
      repeat (first | go_big_quiet_step ((first | (go_at_call 43; exact calls_ext (HK.out _)))) | quiet_step ((first | (go_at_call 43; exact calls_ext (HK.out _)))))
      refine wpQuiet_nil ?_
      rintro w2 ⟨⟨_, hb2⟩, rfl⟩
      have hB2 := hBr.next hb2
      clear hb2 f0 f1 f2 f3 za za' hBr
      have HE := Lib.hid hB2.below
      clear hB2
      go_wp2_with fail
      go_ret
      exact ⟨ret_bool HR.out.symm, HE.out⟩
    have q1 : decide ((gR l k).n < 0) = false := by simpa using h1
    by_cases h2 : (gR l k).d < (gR l k).n
    · have q2 : decide ((gR l k).d < (gR l k).n) = true := by simpa using h2
      have HR := Lib.hid (valid_false (n := (gr bs 0).length) HLT.out (show shB (gR l k) = false by unfold shB; simp; omega))
      clear h1 h2
      go_wp2_with fail
      refine wp_region_ext (by kernel_rfl) (by kernel_rfl) ?_
      repeat (first | go_big_quiet_step ((first | (go_at_call 43; exact calls_ext (HK.out _)))) | quiet_step ((first | (go_at_call 43; exact calls_ext (HK.out _)))))
      refine wpQuiet_nil ?_
      rintro w2 ⟨⟨_, hb2⟩, rfl⟩
      have hB2 := hBr.next hb2
      clear hb2 f0 f1 f2 f3 za za' hBr
      have HE := Lib.hid hB2.below
      clear hB2
      go_wp2_with fail
      go_ret
      exact ⟨ret_bool HR.out.symm, HE.out⟩
    have q2 : decide ((gR l k).d < (gR l k).n) = false := by simpa using h2
    have HS1 := Lib.hid (show shB (gR l k) = true by unfold shB; have := HCZ.out; simp; omega)
    have HS := Lib.hid (fun j (hj : j < k + 1) => show shB (gR l j) = true by
      by_cases e : j = k
      · subst e; exact HS1.out
      · exact HNO.out j (by omega))
    clear h1 h2 HNO
    go_wp2_with fail
    refine wp_region_ext (by kernel_rfl) (by kernel_rfl) ?_
    repeat (first | go_big_quiet_step ((first | (go_at_call 43; exact calls_ext (HK.out _)))) | quiet_step ((first | (go_at_call 43; exact calls_ext (HK.out _)))))
    refine wpQuiet_nil ?_
    rintro w2 ⟨⟨_, hb2⟩, rfl⟩
    have hB2 := hBr.next hb2
    clear hb2 f0 f1 f2 f3 za za' hBr
    have HB2 := Lib.hid hB2
    clear hB2
    go_wp2_with fail
    exact ⟨⟨k + 1, HME.out.1, by go_num, HS.out, HB2.out⟩, by simpa [intOf] using HME.out.2⟩

/-- How many goods are divided. -/
def divB (l : List Rt) (g : Nat) : Int := if 1 < (gR l g).d then 1 else 0
def plainB (l : List Rt) : Bool := l.all (fun s => decide (s.d ≤ 2000000)) && decide (sumTo (divB l) l.length ≤ 1)
theorem plain_false {l : List Rt} {k : Nat} (hk : k < l.length) (h : ¬ (gR l k).d ≤ 2000000) : plainB l = false := by
  unfold plainB
  rw [Bool.and_eq_false_iff]
  left
  rw [List.all_eq_false]
  exact ⟨_, gR_mem hk, by simpa using h⟩
theorem plain_all {l : List Rt} (h : ∀ j, j < l.length → (gR l j).d ≤ 2000000) : plainB l = decide (sumTo (divB l) l.length ≤ 1) := by
  unfold plainB
  rw [List.all_eq_true.2 (fun x hx => by obtain ⟨i, hi, rfl⟩ := mem_gR hx; simpa using h i hi)]; simp
theorem div_bd (l : List Rt) (k : Nat) : 0 ≤ sumTo (divB l) k ∧ sumTo (divB l) k ≤ k := by
  have := sumTo_bd (f := divB l) (lo := 0) (hi := 1) (k := k) (fun i hi => by unfold divB; split <;> omega)
  omega
set_option maxRecDepth 100000 in
set_option maxHeartbeats 4000000 in
theorem fplain_any (l : List Rt) (B : Option Addr) (d : Nat) (w : World) (hl : QIn w.heap.size w B d l) :
    Calls Try.prog 15 #[.slice B l.length d] w fun e w' => e = .returned (.bool (plainB l)) ∧ Below w.heap.size w w' := by
  have hm := Nat.le_trans hl.len hl.cap
  unfold maxLen at hm
  have HH := Lib.hid hl
  clear hl
  go_enter Try.func15, Try.ntmps15
  go_wp2_with fail
  go_loop [3, 4] (fun n s => ∃ k : Nat, k ≤ l.length ∧ s = .int .i64 k ∧ n = .int .i64 (sumTo (divB l) k) ∧ Hid (∀ j, j < k → (gR l j).d ≤ 2000000)) (fun _ s => l.length - (intOf s).toNat)
  case atStart => exact ⟨0, Nat.zero_le _, rfl, rfl, Lib.hid fun j hj => by omega⟩
  case round =>
    obtain ⟨k, hk, rfl, rfl, hno⟩ := hrel
    have HDB := Lib.hid (div_bd l k)
    by_cases hlt : k < l.length
    rotate_left
    · obtain rfl : k = l.length := by omega
      have HR := Lib.hid (plain_all hno.out)
      clear hno HDB hlt hk
      generalize sumTo (divB l) l.length = t at *
      go_wp2_with fail
      go_ret
      exact ⟨ret_bool HR.out.symm, Below.refl _ _⟩
    obtain ⟨bd, rfl, hb, hc⟩ := HH.out.at_ hlt
    obtain ⟨f0, f1, f2⟩ := cell2 hc hlt
    have f3 : w.cell? ⟨(bd.add (k * 2)).block, (bd.add (k * 2)).off + 1, none⟩ = some (.int .i64 (gR l k).d) := f1
    have z1 : (k : Int) < (l.length : Int) := by omega
    have z3 : (0 : Int) ≤ (k : Int) := by omega
    have y1 : IntKind.i64.wrap ((k : Int) + 1) = (k : Int) + 1 := IntWalk.i64_in _ (by omega)
    have y1' : wrap64 ((k : Int) + 1) = (k : Int) + 1 := IntWalk.wrap64_in _ (by omega)
    have HME := Lib.hid (And.intro (Nat.succ_le_of_lt hlt) (Nat.sub_lt_sub_left hlt (Nat.lt_succ_self k)))
    have HSE := Lib.hid (show sumTo (divB l) (k + 1) = sumTo (divB l) k + divB l k from rfl)
    have HLT := Lib.hid hlt
    have HKM := Lib.hid (show k < 9223372036854775807 by omega)
    clear hc hb hk hlt
    by_cases h1 : 2000000 < (gR l k).d
    · have q1 : decide (2000000 < (gR l k).d) = true := by simpa using h1
      have HR := Lib.hid (plain_false HLT.out (show ¬ (gR l k).d ≤ 2000000 by omega))
      clear h1 hno
      go_wp2_with fail
      go_ret
      exact ⟨ret_bool HR.out.symm, Below.refl _ _⟩
    have q1 : decide (2000000 < (gR l k).d) = false := by simpa using h1
    have HS := Lib.hid (fun j (hj : j < k + 1) => show (gR l j).d ≤ 2000000 by
      by_cases e : j = k
      · subst e; omega
      · exact hno.out j (by omega))
    clear h1 hno
    generalize sumTo (divB l) k = t at *
    by_cases h2 : 1 < (gR l k).d
    · have q2 : decide (1 < (gR l k).d) = true := by simpa using h2
      have HDE := Lib.hid (show divB l k = 1 by unfold divB; rw [if_pos h2])
      have y2 : IntKind.i64.wrap (t + 1) = t + 1 := IntWalk.i64_in _ (by have := HDB.out; have := HKM.out; omega)
      have y2' : wrap64 (t + 1) = t + 1 := IntWalk.wrap64_in _ (by have := HDB.out; have := HKM.out; omega)
      clear h2
      go_wp2_with fail
      exact ⟨⟨k + 1, HME.out.1, by go_num, by rw [HSE.out, HDE.out], HS⟩, by simpa [intOf] using HME.out.2⟩
    · have q2 : decide (1 < (gR l k).d) = false := by simpa using h2
      have HDE := Lib.hid (show divB l k = 0 by unfold divB; rw [if_neg h2])
      clear h2
      go_wp2_with fail
      exact ⟨⟨k + 1, HME.out.1, by go_num, by rw [HSE.out, HDE.out, Int.add_zero], HS⟩, by simpa [intOf] using HME.out.2⟩
end Go.Proofs.Ytpijllobpohpgaa

namespace Go.Proofs.Ytpijllobpohpgaa
set_option linter.unusedVariables false
set_option linter.unusedSimpArgs false

theorem zz_wf : Rt.wf ⟨0, 0⟩ := ⟨by decide, by decide, by decide, by decide⟩
theorem mkR_wf (q : Rat) : (mkR q).wf := by
  by_cases h : inR q
  · exact (mkR_ok h).wf
  · rw [(mkR_out h).1]; exact zz_wf
theorem addR_wf (a b : Rt) : (addR a b).wf := by unfold addR; split; exact mkR_wf _; exact zz_wf
theorem subR_wf (a b : Rt) : (subR a b).wf := by unfold subR; split; exact mkR_wf _; exact zz_wf
theorem mulR_wf (a b : Rt) : (mulR a b).wf := by unfold mulR; split; exact mkR_wf _; exact zz_wf
theorem divR_wf (a b : Rt) : (divR a b).wf := by unfold divR; split; (split; exact zz_wf; exact mkR_wf _); exact zz_wf
theorem makeR_wf (n d : Int) : (makeR n d).wf := by unfold makeR; split; exact zz_wf; exact mkR_wf _
/-- The part of an agent. -/
def partR (i : Int) (s : Rt) : Rt := if i = 0 then s else subR ⟨1, 1⟩ s
theorem partR_wf (i : Int) {s : Rt} (h : s.wf) : (partR i s).wf := by unfold partR; split; exact h; exact subR_wf _ _
/-- The sum of products, if all are in range. -/
def totS (f h : Nat → Rt) : Nat → Option Rt
  | 0 => some ⟨0, 1⟩
  | k + 1 => match totS f h k with
    | none => none
    | some s => if mulC (f k) (h k) = 0 ∧ addC s (mulR (f k) (h k)) = 0 then some (addR s (mulR (f k) (h k))) else none
theorem totS_step {f h : Nat → Rt} {k : Nat} {s : Rt} (e : totS f h k = some s) : totS f h (k + 1) = if mulC (f k) (h k) = 0 ∧ addC s (mulR (f k) (h k)) = 0 then some (addR s (mulR (f k) (h k))) else none := by
  rw [totS, e]
theorem totS_none {f h : Nat → Rt} {k n : Nat} (e : totS f h k = none) (hk : k ≤ n) : totS f h n = none := by
  induction n with
  | zero => have : k = 0 := by omega
            subst this; exact e
  | succ n ih =>
    by_cases q : k = n + 1
    · subst q; exact e
    · rw [totS, ih (by omega)]
theorem totS_congr {f h f' h' : Nat → Rt} : ∀ {n : Nat}, (∀ k, k < n → f k = f' k ∧ h k = h' k) → totS f h n = totS f' h' n
  | 0, _ => rfl
  | n + 1, e => by rw [totS, totS, totS_congr (fun k hk => e k (by omega)), (e n (by omega)).1, (e n (by omega)).2]
theorem mul_zero_ok {a b : Rt} (h : mulC a b = 0) : a.Ok ∧ b.Ok ∧ (mulR a b).Ok ∧ (mulR a b).q = a.q * b.q := by
  have c : code2 a b = 0 := by
    rcases Classical.em (code2 a b = 0) with q | q
    · exact q
    · exact absurd ((mul_bad q).2.symm.trans h) q
  obtain ⟨oa, ob⟩ := ok_code2 c
  have k := mul_ok c
  rw [k.2] at h
  have i := mkC_zero h
  exact ⟨oa, ob, by rw [k.1]; exact mkR_ok i, by rw [k.1]; exact q_mkR i⟩
theorem add_zero_ok {a b : Rt} (h : addC a b = 0) : a.Ok ∧ b.Ok ∧ (addR a b).Ok ∧ (addR a b).q = a.q + b.q := by
  have c : code2 a b = 0 := by
    rcases Classical.em (code2 a b = 0) with q | q
    · exact q
    · exact absurd ((add_bad q).2.symm.trans h) q
  obtain ⟨oa, ob⟩ := ok_code2 c
  have k := add_ok c
  rw [k.2] at h
  have i := mkC_zero h
  exact ⟨oa, ob, by rw [k.1]; exact mkR_ok i, by rw [k.1]; exact q_mkR i⟩
theorem mul_in {a b : Rt} (ha : a.Ok) (hb : b.Ok) (h : inR (a.q * b.q)) : mulC a b = 0 ∧ mulR a b = mkR (a.q * b.q) := by
  have k := mul_ok (code2_ok ha hb)
  exact ⟨by rw [k.2]; unfold mkC; rw [if_pos h], k.1⟩
theorem add_in {a b : Rt} (ha : a.Ok) (hb : b.Ok) (h : inR (a.q + b.q)) : addC a b = 0 ∧ addR a b = mkR (a.q + b.q) := by
  have k := add_ok (code2_ok ha hb)
  exact ⟨by rw [k.2]; unfold mkC; rw [if_pos h], k.1⟩
theorem sub_in {a b : Rt} (ha : a.Ok) (hb : b.Ok) (h : inR (a.q - b.q)) : subC a b = 0 ∧ subR a b = mkR (a.q - b.q) := by
  have k := sub_ok (code2_ok ha hb)
  exact ⟨by rw [k.2]; unfold mkC; rw [if_pos h], k.1⟩
/-- What the sum is. -/
theorem totS_q {f h : Nat → Rt} : ∀ {n : Nat} {s : Rt}, totS f h n = some s → s.Ok ∧ s.q = sumQ (fun k => (f k).q * (h k).q) n
  | 0, s, e => by
    obtain rfl : (⟨0, 1⟩ : Rt) = s := by simpa [totS] using e
    exact ⟨ok_zero, by rw [q_zero]; rfl⟩
  | n + 1, s, e => by
    cases c : totS f h n with
    | none => rw [totS, c] at e; cases e
    | some t =>
      rw [totS_step c] at e
      split at e
      · rename_i q
        obtain rfl : addR t (mulR (f n) (h n)) = s := by simpa using e
        obtain ⟨_, _, _, mq⟩ := mul_zero_ok q.1
        obtain ⟨_, _, ao, aq⟩ := add_zero_ok q.2
        have ih := totS_q c
        exact ⟨ao, by rw [aq, ih.2, mq, sumQ_succ]⟩
      · cases e
/-- It is in range if all is. -/
theorem totS_in {f h : Nat → Rt} : ∀ {n : Nat}, (∀ k, k < n → (f k).Ok ∧ (h k).Ok ∧ inR ((f k).q * (h k).q)) → (∀ k, k ≤ n → inR (sumQ (fun k => (f k).q * (h k).q) k)) → totS f h n = some (mkR (sumQ (fun k => (f k).q * (h k).q) n))
  | 0, _, _ => by
    show some (⟨0, 1⟩ : Rt) = some (mkR 0)
    rw [show mkR 0 = ⟨0, 1⟩ from by rw [← q_zero]; exact mkR_q ok_zero]
  | n + 1, h1, h2 => by
    have ih := totS_in (n := n) (fun k hk => h1 k (by omega)) (fun k hk => h2 k (by omega))
    obtain ⟨fo, ho, i⟩ := h1 n (by omega)
    have i2 := h2 (n + 1) (Nat.le_refl _)
    have i1 := h2 n (by omega)
    have m := mul_in fo ho i
    have mo : (mulR (f n) (h n)).Ok := by rw [m.2]; exact mkR_ok i
    have mq : (mulR (f n) (h n)).q = (f n).q * (h n).q := by rw [m.2]; exact q_mkR i
    have a := add_in (mkR_ok i1) mo (by rw [q_mkR i1, mq]; exact i2)
    rw [totS_step ih, if_pos ⟨m.1, a.1⟩, a.2, q_mkR i1, mq]; rfl
end Go.Proofs.Ytpijllobpohpgaa

namespace Go.Proofs.Ytpijllobpohpgaa
open Go.RowKit Go.Deep
set_option linter.unusedVariables false
set_option linter.unusedSimpArgs false

def ownB (s : Rt) : Int := if 0 < s.n then 0 else 1
set_option maxHeartbeats 1000000 in
theorem owner_any (s : Rt) (w : World) : Calls Try.prog 32 #[rV s] w fun e w' => e = .returned (.int .i64 (ownB s)) ∧ Below w.heap.size w w' := by
  have hB0 : Bx w [(w.heap.size, rB s)] (w.alloc (rB s)) := (Bx.start w).new rfl _
  have HE := Lib.hid hB0.below
  go_enter Try.func32, Try.ntmps32
  go_upto_region 1 with fail
  generalize w.alloc (rB s) = w0 at *
  have c_a := fun j => cell_of_row _ _ j _ _ _ (hB0.get 0 rfl)
  have z_a := hB0.lt 0 rfl
  by_cases h : 0 < s.n
  · have q : decide (0 < s.n) = true := by simpa using h
    have HR := Lib.hid (show ownB s = 0 by unfold ownB; rw [if_pos h])
    clear h
    go_wp2_with fail
    go_ret
    exact ⟨ret_int HR.out.symm, HE.out⟩
  · have q : decide (0 < s.n) = false := by simpa using h
    have HR := Lib.hid (show ownB s = 1 by unfold ownB; rw [if_neg h])
    clear h
    go_wp2_with fail
    go_ret
    exact ⟨ret_int HR.out.symm, HE.out⟩
theorem mwhole_any (n : Int) (w : World) : Calls Try.prog 34 #[.int .i64 n] w fun e w' => e = .returned (rV ⟨n, 1⟩) ∧ Below w.heap.size w w' := by
  go_enter Try.func34, Try.ntmps34
  go_wp2_with fail
  refine bodyPost_ret (v := rV ⟨n, 1⟩) (by simp [results, Try.results34, go_sem]) rfl ⟨rfl, ?_⟩
  exact one_alloc _ _

set_option maxRecDepth 100000 in
set_option maxHeartbeats 4000000 in
theorem part_any (s : Rt) (hs : s.wf) (i : Int) (w : World) : Calls Try.prog 41 #[rV s, .int .i64 i] w fun e w' => e = .returned (rV (partR i s)) ∧ Below w.heap.size w w' := by
  have hB0 : Bx w [(w.heap.size + 1, rB ⟨0, 0⟩), (w.heap.size, rB s)] ((w.alloc (rB s)).alloc (rB ⟨0, 0⟩)) := ((Bx.start w).new rfl _).new (by simp) _
  have HS := Lib.hid (fun (W : World) => rsub_any ⟨1, 1⟩ s ok_one.wf hs W)
  clear hs
  go_enter Try.func41, Try.ntmps41
  go_upto_region 1 with fail
  generalize hw0 : (w.alloc (rB s)).alloc (rB ⟨0, 0⟩) = w0 at *
  clear hw0
  generalize w.heap.size + 1 = gO at *
  by_cases h : i = 0
  · have q : (i == 0) = true := by simpa using h
    have HR := Lib.hid (show partR i s = s by unfold partR; rw [if_pos h])
    clear h
    have c_o := fun j => cell_of_row _ _ j _ _ _ (hB0.get 0 rfl)
    have z_o := hB0.lt 0 rfl
    have f_o := fun j => frozen_of_row _ _ j _ _ (hB0.get 0 rfl)
    have c_s := fun j => cell_of_row _ _ j _ _ _ (hB0.get 1 rfl)
    have z_s := hB0.lt 1 rfl
    have HE := Lib.hid (hB0.put 0 rfl s).below
    clear hB0
    go_wp2_with fail
    refine bodyPost_ret (v := rV s) (by simp [results, Try.results41, go_sem, c_o, f_o, z_o]) rfl ⟨by rw [HR.out], HE.out⟩
  have q : (i == 0) = false := by simpa using h
  have HR := Lib.hid (show partR i s = subR ⟨1, 1⟩ s by unfold partR; rw [if_neg h])
  clear h
  go_upto_region 3 with fail
  refine wp_region_flow 9 (by kernel_rfl) (by rfl) (fun wq hbq => ?_)
  have hB1q := hB0.next hbq
  clear hB0
  refine wpAnyE_go (w0 := wq) (w1 := wq) (X := []) (fun _ h => h) (RK.start _) [0, 1, 2, 3, 4, 5] 3 (by kernel_rfl) ?_
  apply Exists.intro
  refine ⟨fun G hG hN => ?_, ?_⟩
  · have c_s := fun (e : GE (RK wq wq []) G) j => cell_of_row e.w _ j _ _ _ ((hB1q.next (RK.b (GE.h e))).get 1 rfl)
    have z_s := fun (e : GE (RK wq wq []) G) => ((hB1q.next (RK.b (GE.h e))).lt 1 rfl)
    simp only [pickOps, List.getElem?_toArray, List.getElem?_cons_zero, List.getElem?_cons_succ]
    repeat (first | go_big_quiet_step ((first | (go_at_call 34; exact calls_ge (RK.grows _ _ _) hG (mwhole_any _ _)) | (go_at_call 73; exact calls_ge (RK.grows _ _ _) hG (HS.out _)))) | quiet_step ((first | (go_at_call 34; exact calls_ge (RK.grows _ _ _) hG (mwhole_any _ _)) | (go_at_call 73; exact calls_ge (RK.grows _ _ _) hG (HS.out _)))))
    exact wpQuiet_nil rfl
  refine wpAnyE_all (rs := [6]) (by kernel_rfl) (by simp) (fun Wa hWa hRWa i hi => ?_)
  obtain rfl := List.mem_singleton.1 hi
  refine wpOp_step rfl (fun K hK => ?_)
  go_simp
  refine hK _ _ ⟨hRWa.grow (one_alloc _ _), ?_⟩
  clear hK K
  have hxa := heap_new (w := Wa) (o := rB ⟨0, 0⟩) rfl
  have hza : wq.heap.size ≤ Wa.heap.size := hRWa.b.size
  refine wpAnyE_all (rs := [7]) (by kernel_rfl) (by simp) (fun Wb hWb hRWb i hi => ?_)
  obtain rfl := List.mem_singleton.1 hi
  have hxb := heap_ext hxa hWb
  have ck := fun j => cell_of_row _ _ j _ _ _ hxb
  have fk := fun j => frozen_of_row _ _ j _ _ hxb
  have zk := lt_some hxb
  refine wpOp_step rfl (fun K hK => ?_)
  go_simp
  refine hK _ _ ⟨(hRWb.set hza (Or.inr hza)).set hza (Or.inr hza), ?_⟩
  clear hK K
  clear ck fk zk
  have hxc := heap_set (j := 1) (u := .int .i64 (subR ⟨1, 1⟩ s).d) (heap_set (j := 0) (u := .int .i64 (subR ⟨1, 1⟩ s).n) hxb)
  have hsc := (hRWb.set hza (Or.inr hza) (j := 0) (u := .int .i64 (subR ⟨1, 1⟩ s).n)).set hza (Or.inr hza) (j := 1) (u := .int .i64 (subR ⟨1, 1⟩ s).d)
  generalize (Wb.setCell _ _).setCell _ _ = Wd at *
  refine wpAnyE_go (w0 := wq) (w1 := Wd) (X := []) (RK.move hsc (by simp)) (RK.here hsc) [8] 0 (by kernel_rfl) ?_
  apply Exists.intro
  refine ⟨fun G hG hN => ?_, ?_⟩
  · simp only [pickOps, List.getElem?_toArray, List.getElem?_cons_zero, List.getElem?_cons_succ]
    repeat (first | go_big_quiet_step (fail) | quiet_step (fail))
    exact wpQuiet_nil rfl
  refine wpAnyE_done (by kernel_rfl) (fun Wc hWc hRWc => ?_) _
  refine NoPanic.normal ?_
  have hB1 : Bx w ((Wa.heap.size, rB (subR ⟨1, 1⟩ s)) :: _) Wc := hB1q.add hRWc.b hza (heap_ext hxc hWc)
  clear hB1q hxa hxb hxc hWb hWc hRWa hRWb hRWc hza hWa hbq
  generalize Wa.heap.size = gR at *
  generalize Wc = w1 at *
  have c_r := fun j => cell_of_row _ _ j _ _ _ (hB1.get 0 rfl)
  have z_r := hB1.lt 0 rfl
  have c_o := fun j => cell_of_row _ _ j _ _ _ (hB1.get 1 rfl)
  have z_o := hB1.lt 1 rfl
  have f_o := fun j => frozen_of_row _ _ j _ _ (hB1.get 1 rfl)
  have HE := Lib.hid (hB1.put 1 rfl (subR ⟨1, 1⟩ s)).below
  clear hB1
  go_wp2_with fail
  refine bodyPost_ret (v := rV (subR ⟨1, 1⟩ s)) (by simp [results, Try.results41, go_sem, c_o, f_o, z_o]) rfl ⟨by rw [HR.out], HE.out⟩

set_option maxRecDepth 100000 in
set_option maxHeartbeats 16000000 in
theorem total_worth (l : List Rt) (B : Option Addr) (d : Nat) (i : Int) (f : Nat → Rt) (c0 c1 : Value) (w : World) (hl : QIn w.heap.size w B d l) (hf : ∀ g, g < l.length → (f g).wf)
    (HN : Hid (∀ (g : Nat) (W : World), g < l.length → Below w.heap.size w W → Calls Try.prog 65 #[.int .i64 g, c0, c1] W fun e w' => e = .returned (rV (f g)) ∧ Below W.heap.size W w')) :
    Calls Try.prog 39 #[.slice B l.length d, .int .i64 i, .func (.func 65) #[] #[c0, c1]] w fun e w' => ∃ s, e = .returned (.tuple #[rV s, .bool (totS f (fun g => partR i (gR l g)) l.length).isSome]) ∧ (∀ t, totS f (fun g => partR i (gR l g)) l.length = some t → s = t) ∧ Below w.heap.size w w' := by
  have hm := Nat.le_trans hl.len hl.cap
  unfold maxLen at hm
  have HL := Lib.hid hl
  have HF := Lib.hid hf
  have hB0 : Bx w [(w.heap.size, rB ⟨0, 0⟩)] (w.alloc (rB ⟨0, 0⟩)) := (Bx.start w).new rfl _
  clear hl hf
  go_enter Try.func39, Try.ntmps39
  try dsimp only [List.append]
  go_upto_region 1 with fail
  generalize w.alloc (rB ⟨0, 0⟩) = w0 at *
  have z_o := hB0.lt 0 rfl
  go_wp2_with fail
  refine (mwhole_any 0 _).mono ?_
  rintro e w1 ⟨rfl, hb⟩
  have hB1 := hB0.next hb
  clear z_o hb hB0
  go_upto_region 2 with fail
  have hB2 := hB1.new rfl (rB ⟨0, 1⟩)
  clear hB1
  generalize w1.heap.size = gS at *
  generalize w1.alloc _ = w2 at *
  go_wp2_with fail
  have HB2 := Lib.hid hB2
  clear hB2
  go_loopw [16] (fun a wr => ∃ (k : Nat) (s : Rt), k ≤ l.length ∧ a = .int .i64 k ∧ totS f (fun g => partR i (gR l g)) k = some s ∧ Bx w [(gS, rB s), (w.heap.size, rB ⟨0, 0⟩)] wr) (fun a _ => l.length - (intOf a).toNat)
  case atStart => exact ⟨0, ⟨0, 1⟩, Nat.zero_le _, rfl, rfl, HB2.out⟩
  case round =>
    as_aux_lemma =>
    obtain ⟨k, s, hk, rfl, hs, hBr⟩ := hrel
    clear HB2
    by_cases hlt : k < l.length
    rotate_left
    · obtain rfl : k = l.length := by omega
      have HS := Lib.hid hs
      clear hs hlt hk
      have c_s := fun j => cell_of_row _ _ j _ _ _ (hBr.get 0 rfl)
      have z_s := hBr.lt 0 rfl
      have c_o := fun j => cell_of_row _ _ j _ _ _ (hBr.get 1 rfl)
      have z_o := hBr.lt 1 rfl
      have f_o := fun j => frozen_of_row _ _ j _ _ (hBr.get 1 rfl)
      have HE := Lib.hid (hBr.put 1 rfl s).below
      clear hBr
      go_wp2_with fail
      refine bodyPost_ret (v := .tuple #[rV s, .bool true]) (by simp [results, Try.results39, go_sem, c_o, f_o, z_o]) rfl ?_
      exact ⟨s, by rw [HS.out]; rfl, fun t ht => by rw [HS.out] at ht; exact Option.some.inj ht, HE.out⟩
    obtain ⟨bd, rfl, hb, hc⟩ := HL.out.at_ hlt
    obtain ⟨f0, f1, f2⟩ := cell2 (hc.below hb hBr.below) hlt
    have f3 : wr.cell? ⟨(bd.add (k * 2)).block, (bd.add (k * 2)).off + 1, none⟩ = some (.int .i64 (gR l k).d) := f1
    have z1 : (k : Int) < (l.length : Int) := by omega
    have z3 : (0 : Int) ≤ (k : Int) := by omega
    have y1 : IntKind.i64.wrap ((k : Int) + 1) = (k : Int) + 1 := IntWalk.i64_in _ (by omega)
    have y1' : wrap64 ((k : Int) + 1) = (k : Int) + 1 := IntWalk.wrap64_in _ (by omega)
    have HP := Lib.hid (fun (W : World) => part_any (gR l k) (HL.out.wf k hlt) i W)
    have HX := Lib.hid (fun (W : World) (hW : Below w.heap.size w W) => HN.out k W hlt hW)
    have HM := Lib.hid (fun (W : World) => rmul_any (f k) (partR i (gR l k)) (HF.out k hlt) (partR_wf i (HL.out.wf k hlt)) W)
    have HST := Lib.hid (totS_step hs)
    have HME := Lib.hid (And.intro (Nat.succ_le_of_lt hlt) (Nat.sub_lt_sub_left hlt (Nat.lt_succ_self k)))
    have HS := Lib.hid hs
    have HSW := Lib.hid (totS_q hs).1.wf
    clear hs hc hb hk hlt
    generalize gR l k = e at *
    go_upto_region 5 with fail
    have hB21 := hBr.new rfl (rB e)
    clear hBr
    generalize wr.heap.size = gE at *
    generalize wr.alloc _ = w21 at *
    clear f0 f1 f2 f3
    refine wp_region_flow 13 (by kernel_rfl) (by rfl) (fun wq hbq => ?_)
    have hB22q := hB21.next hbq
    clear hB21
    refine wpAnyE_go (w0 := wq) (w1 := wq) (X := []) (fun _ h => h) (RK.start _) [0, 1, 2, 3, 4, 5, 6, 7, 8, 9] 3 (by kernel_rfl) ?_
    apply Exists.intro
    refine ⟨fun G hG hN => ?_, ?_⟩
    · have c_e := fun (e : GE (RK wq wq []) G) j => cell_of_row e.w _ j _ _ _ ((hB22q.next (RK.b (GE.h e))).get 0 rfl)
      have z_e := fun (e : GE (RK wq wq []) G) => ((hB22q.next (RK.b (GE.h e))).lt 0 rfl)
      simp only [pickOps, List.getElem?_toArray, List.getElem?_cons_zero, List.getElem?_cons_succ]
      repeat (first | go_big_quiet_step ((first | (go_at_call 65; exact calls_ge (RK.grows _ _ _) hG (HX.out _ ((hB22q.next (RK.b (GE.h _))).below))) | (go_at_call 41; exact calls_ge (RK.grows _ _ _) hG (HP.out _)) | (go_at_call 67; exact calls_ge (RK.grows _ _ _) hG (HM.out _)))) | quiet_step ((first | (go_at_call 65; exact calls_ge (RK.grows _ _ _) hG (HX.out _ ((hB22q.next (RK.b (GE.h _))).below))) | (go_at_call 41; exact calls_ge (RK.grows _ _ _) hG (HP.out _)) | (go_at_call 67; exact calls_ge (RK.grows _ _ _) hG (HM.out _)))))
      exact wpQuiet_nil rfl
    refine wpAnyE_all (rs := [10]) (by kernel_rfl) (by simp) (fun Wa hWa hRWa i hi => ?_)
    obtain rfl := List.mem_singleton.1 hi
    refine wpOp_step rfl (fun K hK => ?_)
    go_simp
    refine hK _ _ ⟨hRWa.grow (one_alloc _ _), ?_⟩
    clear hK K
    have hxa := heap_new (w := Wa) (o := rB ⟨0, 0⟩) rfl
    have hza : wq.heap.size ≤ Wa.heap.size := hRWa.b.size
    refine wpAnyE_all (rs := [11]) (by kernel_rfl) (by simp) (fun Wb hWb hRWb i hi => ?_)
    obtain rfl := List.mem_singleton.1 hi
    have hxb := heap_ext hxa hWb
    have ck := fun j => cell_of_row _ _ j _ _ _ hxb
    have fk := fun j => frozen_of_row _ _ j _ _ hxb
    have zk := lt_some hxb
    refine wpOp_step rfl (fun K hK => ?_)
    go_simp
    refine hK _ _ ⟨(hRWb.set hza (Or.inr hza)).set hza (Or.inr hza), ?_⟩
    clear hK K
    clear ck fk zk
    have hxc := heap_set (j := 1) (u := .int .i64 (mulR (f k) (partR i e)).d) (heap_set (j := 0) (u := .int .i64 (mulR (f k) (partR i e)).n) hxb)
    have hsc := (hRWb.set hza (Or.inr hza) (j := 0) (u := .int .i64 (mulR (f k) (partR i e)).n)).set hza (Or.inr hza) (j := 1) (u := .int .i64 (mulR (f k) (partR i e)).d)
    generalize (Wb.setCell _ _).setCell _ _ = Wd at *
    refine wpAnyE_go (w0 := wq) (w1 := Wd) (X := []) (RK.move hsc (by simp)) (RK.here hsc) [12] 0 (by kernel_rfl) ?_
    apply Exists.intro
    refine ⟨fun G hG hN => ?_, ?_⟩
    · simp only [pickOps, List.getElem?_toArray, List.getElem?_cons_zero, List.getElem?_cons_succ]
      repeat (first | go_big_quiet_step (fail) | quiet_step (fail))
      exact wpQuiet_nil rfl
    refine wpAnyE_done (by kernel_rfl) (fun Wc hWc hRWc => ?_) _
    refine NoPanic.normal ?_
    have hB22 : Bx w ((Wa.heap.size, rB (mulR (f k) (partR i e))) :: _) Wc := hB22q.add hRWc.b hza (heap_ext hxc hWc)
    clear hB22q hxa hxb hxc hWb hWc hRWa hRWb hRWc hza hWa hbq
    generalize Wa.heap.size = gX at *
    generalize Wc = w22 at *
    clear HX HP HM
    by_cases hm0 : mulC (f k) (partR i e) = 0
    rotate_left
    · have q : (mulC (f k) (partR i e) != 0) = true := bneT hm0
      have HW := Lib.hid (show totS f (fun g => partR i (gR l g)) (k + 1) = none by rw [HST.out, if_neg (fun q => hm0 q.1)])
      clear hm0
      generalize mulC (f k) (partR i e) = mc at *
      have c_s := fun j => cell_of_row _ _ j _ _ _ (hB22.get 2 rfl)
      have z_s := hB22.lt 2 rfl
      have c_o := fun j => cell_of_row _ _ j _ _ _ (hB22.get 3 rfl)
      have z_o := hB22.lt 3 rfl
      have f_o := fun j => frozen_of_row _ _ j _ _ (hB22.get 3 rfl)
      have HNO := Lib.hid (totS_none (n := l.length) (HW.out) HME.out.1)
      have HE := Lib.hid (hB22.put 3 rfl s).below
      clear hB22
      go_wp2_with fail
      refine bodyPost_ret (v := .tuple #[rV s, .bool false]) (by simp [results, Try.results39, go_sem, c_o, f_o, z_o]) rfl ?_
      exact ⟨s, by rw [HNO.out]; rfl, fun t ht => (by rw [HNO.out] at ht; cases ht), HE.out⟩
    have q : (mulC (f k) (partR i e) != 0) = false := bneF hm0
    have HM0 := Lib.hid hm0
    have HA := Lib.hid (fun (W : World) => radd_any s (mulR (f k) (partR i e)) HSW.out (mulR_wf _ _) W)
    clear hm0
    generalize mulC (f k) (partR i e) = mc at *
    have c_x := fun j => cell_of_row _ _ j _ _ _ (hB22.get 0 rfl)
    have z_x := hB22.lt 0 rfl
    have c_s := fun j => cell_of_row _ _ j _ _ _ (hB22.get 2 rfl)
    have z_s := hB22.lt 2 rfl
    go_wp2_with fail
    refine (HA.out _).mono ?_
    rintro e w23 ⟨rfl, hb⟩
    have hB23 := hB22.next hb
    clear c_x z_x c_s z_s hb hB22
    clear HA
    have c_s := fun j => cell_of_row _ _ j _ _ _ (hB23.get 2 rfl)
    have z_s := hB23.lt 2 rfl
    have f_s := fun j => frozen_of_row _ _ j _ _ (hB23.get 2 rfl)
    go_upto_region 9 with fail
    have hB24 := hB23.put 2 rfl (addR s (mulR (f k) (partR i e)))
    clear c_s z_s f_s hB23
    generalize (w23.setCell _ _).setCell _ _ = w24 at *
    by_cases ha0 : addC s (mulR (f k) (partR i e)) = 0
    rotate_left
    · have q2 : (addC s (mulR (f k) (partR i e)) != 0) = true := bneT ha0
      have HW := Lib.hid (show totS f (fun g => partR i (gR l g)) (k + 1) = none by rw [HST.out, if_neg (fun q => ha0 q.2)])
      clear ha0
      generalize addC s (mulR (f k) (partR i e)) = ac at *
      have c_s := fun j => cell_of_row _ _ j _ _ _ (hB24.get 2 rfl)
      have z_s := hB24.lt 2 rfl
      have c_o := fun j => cell_of_row _ _ j _ _ _ (hB24.get 3 rfl)
      have z_o := hB24.lt 3 rfl
      have f_o := fun j => frozen_of_row _ _ j _ _ (hB24.get 3 rfl)
      have HNO := Lib.hid (totS_none (n := l.length) (HW.out) HME.out.1)
      have HE := Lib.hid (hB24.put 3 rfl (addR s (mulR (f k) (partR i e)))).below
      clear hB24
      go_wp2_with fail
      refine bodyPost_ret (v := .tuple #[rV (addR s (mulR (f k) (partR i e))), .bool false]) (by simp [results, Try.results39, go_sem, c_o, f_o, z_o]) rfl ?_
      exact ⟨(addR s (mulR (f k) (partR i e))), by rw [HNO.out]; rfl, fun t ht => (by rw [HNO.out] at ht; cases ht), HE.out⟩
    have q2 : (addC s (mulR (f k) (partR i e)) != 0) = false := bneF ha0
    have HW := Lib.hid (show totS f (fun g => partR i (gR l g)) (k + 1) = some (addR s (mulR (f k) (partR i e))) by rw [HST.out, if_pos ⟨HM0.out, ha0⟩])
    clear ha0
    generalize addC s (mulR (f k) (partR i e)) = ac at *
    generalize addR s (mulR (f k) (partR i e)) = s2 at *
    have HZ := Lib.hid (show Bx w [(gS, rB s2), (w.heap.size, rB ⟨0, 0⟩)] _ from hB24.sub (List.Sublist.cons _ (List.Sublist.cons _ (List.Sublist.refl _))))
    clear hB24
    go_wp2_with fail
    exact ⟨⟨k + 1, s2, HME.out.1, by go_num, HW.out, HZ.out⟩, by simpa [intOf] using HME.out.2⟩

set_option maxRecDepth 100000 in
set_option maxHeartbeats 16000000 in
theorem total_price (l : List Rt) (B : Option Addr) (d : Nat) (i : Int) (f : Nat → Rt) (c0 : Value) (w : World) (hl : QIn w.heap.size w B d l) (hf : ∀ g, g < l.length → (f g).wf)
    (HN : Hid (∀ (g : Nat) (W : World), g < l.length → Below w.heap.size w W → Calls Try.prog 40 #[.int .i64 g, c0] W fun e w' => e = .returned (rV (f g)) ∧ Below W.heap.size W w')) :
    Calls Try.prog 39 #[.slice B l.length d, .int .i64 i, .func (.func 40) #[] #[c0]] w fun e w' => ∃ s, e = .returned (.tuple #[rV s, .bool (totS f (fun g => partR i (gR l g)) l.length).isSome]) ∧ (∀ t, totS f (fun g => partR i (gR l g)) l.length = some t → s = t) ∧ Below w.heap.size w w' := by
  have hm := Nat.le_trans hl.len hl.cap
  unfold maxLen at hm
  have HL := Lib.hid hl
  have HF := Lib.hid hf
  have hB0 : Bx w [(w.heap.size, rB ⟨0, 0⟩)] (w.alloc (rB ⟨0, 0⟩)) := (Bx.start w).new rfl _
  clear hl hf
  go_enter Try.func39, Try.ntmps39
  try dsimp only [List.append]
  go_upto_region 1 with fail
  generalize w.alloc (rB ⟨0, 0⟩) = w0 at *
  have z_o := hB0.lt 0 rfl
  go_wp2_with fail
  refine (mwhole_any 0 _).mono ?_
  rintro e w1 ⟨rfl, hb⟩
  have hB1 := hB0.next hb
  clear z_o hb hB0
  go_upto_region 2 with fail
  have hB2 := hB1.new rfl (rB ⟨0, 1⟩)
  clear hB1
  generalize w1.heap.size = gS at *
  generalize w1.alloc _ = w2 at *
  go_wp2_with fail
  have HB2 := Lib.hid hB2
  clear hB2
  go_loopw [16] (fun a wr => ∃ (k : Nat) (s : Rt), k ≤ l.length ∧ a = .int .i64 k ∧ totS f (fun g => partR i (gR l g)) k = some s ∧ Bx w [(gS, rB s), (w.heap.size, rB ⟨0, 0⟩)] wr) (fun a _ => l.length - (intOf a).toNat)
  case atStart => exact ⟨0, ⟨0, 1⟩, Nat.zero_le _, rfl, rfl, HB2.out⟩
  case round =>
    as_aux_lemma =>
    obtain ⟨k, s, hk, rfl, hs, hBr⟩ := hrel
    clear HB2
    by_cases hlt : k < l.length
    rotate_left
    · obtain rfl : k = l.length := by omega
      have HS := Lib.hid hs
      clear hs hlt hk
      have c_s := fun j => cell_of_row _ _ j _ _ _ (hBr.get 0 rfl)
      have z_s := hBr.lt 0 rfl
      have c_o := fun j => cell_of_row _ _ j _ _ _ (hBr.get 1 rfl)
      have z_o := hBr.lt 1 rfl
      have f_o := fun j => frozen_of_row _ _ j _ _ (hBr.get 1 rfl)
      have HE := Lib.hid (hBr.put 1 rfl s).below
      clear hBr
      go_wp2_with fail
      refine bodyPost_ret (v := .tuple #[rV s, .bool true]) (by simp [results, Try.results39, go_sem, c_o, f_o, z_o]) rfl ?_
      exact ⟨s, by rw [HS.out]; rfl, fun t ht => by rw [HS.out] at ht; exact Option.some.inj ht, HE.out⟩
    obtain ⟨bd, rfl, hb, hc⟩ := HL.out.at_ hlt
    obtain ⟨f0, f1, f2⟩ := cell2 (hc.below hb hBr.below) hlt
    have f3 : wr.cell? ⟨(bd.add (k * 2)).block, (bd.add (k * 2)).off + 1, none⟩ = some (.int .i64 (gR l k).d) := f1
    have z1 : (k : Int) < (l.length : Int) := by omega
    have z3 : (0 : Int) ≤ (k : Int) := by omega
    have y1 : IntKind.i64.wrap ((k : Int) + 1) = (k : Int) + 1 := IntWalk.i64_in _ (by omega)
    have y1' : wrap64 ((k : Int) + 1) = (k : Int) + 1 := IntWalk.wrap64_in _ (by omega)
    have HP := Lib.hid (fun (W : World) => part_any (gR l k) (HL.out.wf k hlt) i W)
    have HX := Lib.hid (fun (W : World) (hW : Below w.heap.size w W) => HN.out k W hlt hW)
    have HM := Lib.hid (fun (W : World) => rmul_any (f k) (partR i (gR l k)) (HF.out k hlt) (partR_wf i (HL.out.wf k hlt)) W)
    have HST := Lib.hid (totS_step hs)
    have HME := Lib.hid (And.intro (Nat.succ_le_of_lt hlt) (Nat.sub_lt_sub_left hlt (Nat.lt_succ_self k)))
    have HS := Lib.hid hs
    have HSW := Lib.hid (totS_q hs).1.wf
    clear hs hc hb hk hlt
    generalize gR l k = e at *
    go_upto_region 5 with fail
    have hB21 := hBr.new rfl (rB e)
    clear hBr
    generalize wr.heap.size = gE at *
    generalize wr.alloc _ = w21 at *
    clear f0 f1 f2 f3
    refine wp_region_flow 13 (by kernel_rfl) (by rfl) (fun wq hbq => ?_)
    have hB22q := hB21.next hbq
    clear hB21
    refine wpAnyE_go (w0 := wq) (w1 := wq) (X := []) (fun _ h => h) (RK.start _) [0, 1, 2, 3, 4, 5, 6, 7, 8, 9] 3 (by kernel_rfl) ?_
    apply Exists.intro
    refine ⟨fun G hG hN => ?_, ?_⟩
    · have c_e := fun (e : GE (RK wq wq []) G) j => cell_of_row e.w _ j _ _ _ ((hB22q.next (RK.b (GE.h e))).get 0 rfl)
      have z_e := fun (e : GE (RK wq wq []) G) => ((hB22q.next (RK.b (GE.h e))).lt 0 rfl)
      simp only [pickOps, List.getElem?_toArray, List.getElem?_cons_zero, List.getElem?_cons_succ]
      repeat (first | go_big_quiet_step ((first | (go_at_call 40; exact calls_ge (RK.grows _ _ _) hG (HX.out _ ((hB22q.next (RK.b (GE.h _))).below))) | (go_at_call 41; exact calls_ge (RK.grows _ _ _) hG (HP.out _)) | (go_at_call 67; exact calls_ge (RK.grows _ _ _) hG (HM.out _)))) | quiet_step ((first | (go_at_call 40; exact calls_ge (RK.grows _ _ _) hG (HX.out _ ((hB22q.next (RK.b (GE.h _))).below))) | (go_at_call 41; exact calls_ge (RK.grows _ _ _) hG (HP.out _)) | (go_at_call 67; exact calls_ge (RK.grows _ _ _) hG (HM.out _)))))
      exact wpQuiet_nil rfl
    refine wpAnyE_all (rs := [10]) (by kernel_rfl) (by simp) (fun Wa hWa hRWa i hi => ?_)
    obtain rfl := List.mem_singleton.1 hi
    refine wpOp_step rfl (fun K hK => ?_)
    go_simp
    refine hK _ _ ⟨hRWa.grow (one_alloc _ _), ?_⟩
    clear hK K
    have hxa := heap_new (w := Wa) (o := rB ⟨0, 0⟩) rfl
    have hza : wq.heap.size ≤ Wa.heap.size := hRWa.b.size
    refine wpAnyE_all (rs := [11]) (by kernel_rfl) (by simp) (fun Wb hWb hRWb i hi => ?_)
    obtain rfl := List.mem_singleton.1 hi
    have hxb := heap_ext hxa hWb
    have ck := fun j => cell_of_row _ _ j _ _ _ hxb
    have fk := fun j => frozen_of_row _ _ j _ _ hxb
    have zk := lt_some hxb
    refine wpOp_step rfl (fun K hK => ?_)
    go_simp
    refine hK _ _ ⟨(hRWb.set hza (Or.inr hza)).set hza (Or.inr hza), ?_⟩
    clear hK K
    clear ck fk zk
    have hxc := heap_set (j := 1) (u := .int .i64 (mulR (f k) (partR i e)).d) (heap_set (j := 0) (u := .int .i64 (mulR (f k) (partR i e)).n) hxb)
    have hsc := (hRWb.set hza (Or.inr hza) (j := 0) (u := .int .i64 (mulR (f k) (partR i e)).n)).set hza (Or.inr hza) (j := 1) (u := .int .i64 (mulR (f k) (partR i e)).d)
    generalize (Wb.setCell _ _).setCell _ _ = Wd at *
    refine wpAnyE_go (w0 := wq) (w1 := Wd) (X := []) (RK.move hsc (by simp)) (RK.here hsc) [12] 0 (by kernel_rfl) ?_
    apply Exists.intro
    refine ⟨fun G hG hN => ?_, ?_⟩
    · simp only [pickOps, List.getElem?_toArray, List.getElem?_cons_zero, List.getElem?_cons_succ]
      repeat (first | go_big_quiet_step (fail) | quiet_step (fail))
      exact wpQuiet_nil rfl
    refine wpAnyE_done (by kernel_rfl) (fun Wc hWc hRWc => ?_) _
    refine NoPanic.normal ?_
    have hB22 : Bx w ((Wa.heap.size, rB (mulR (f k) (partR i e))) :: _) Wc := hB22q.add hRWc.b hza (heap_ext hxc hWc)
    clear hB22q hxa hxb hxc hWb hWc hRWa hRWb hRWc hza hWa hbq
    generalize Wa.heap.size = gX at *
    generalize Wc = w22 at *
    clear HX HP HM
    by_cases hm0 : mulC (f k) (partR i e) = 0
    rotate_left
    · have q : (mulC (f k) (partR i e) != 0) = true := bneT hm0
      have HW := Lib.hid (show totS f (fun g => partR i (gR l g)) (k + 1) = none by rw [HST.out, if_neg (fun q => hm0 q.1)])
      clear hm0
      generalize mulC (f k) (partR i e) = mc at *
      have c_s := fun j => cell_of_row _ _ j _ _ _ (hB22.get 2 rfl)
      have z_s := hB22.lt 2 rfl
      have c_o := fun j => cell_of_row _ _ j _ _ _ (hB22.get 3 rfl)
      have z_o := hB22.lt 3 rfl
      have f_o := fun j => frozen_of_row _ _ j _ _ (hB22.get 3 rfl)
      have HNO := Lib.hid (totS_none (n := l.length) (HW.out) HME.out.1)
      have HE := Lib.hid (hB22.put 3 rfl s).below
      clear hB22
      go_wp2_with fail
      refine bodyPost_ret (v := .tuple #[rV s, .bool false]) (by simp [results, Try.results39, go_sem, c_o, f_o, z_o]) rfl ?_
      exact ⟨s, by rw [HNO.out]; rfl, fun t ht => (by rw [HNO.out] at ht; cases ht), HE.out⟩
    have q : (mulC (f k) (partR i e) != 0) = false := bneF hm0
    have HM0 := Lib.hid hm0
    have HA := Lib.hid (fun (W : World) => radd_any s (mulR (f k) (partR i e)) HSW.out (mulR_wf _ _) W)
    clear hm0
    generalize mulC (f k) (partR i e) = mc at *
    have c_x := fun j => cell_of_row _ _ j _ _ _ (hB22.get 0 rfl)
    have z_x := hB22.lt 0 rfl
    have c_s := fun j => cell_of_row _ _ j _ _ _ (hB22.get 2 rfl)
    have z_s := hB22.lt 2 rfl
    go_wp2_with fail
    refine (HA.out _).mono ?_
    rintro e w23 ⟨rfl, hb⟩
    have hB23 := hB22.next hb
    clear c_x z_x c_s z_s hb hB22
    clear HA
    have c_s := fun j => cell_of_row _ _ j _ _ _ (hB23.get 2 rfl)
    have z_s := hB23.lt 2 rfl
    have f_s := fun j => frozen_of_row _ _ j _ _ (hB23.get 2 rfl)
    go_upto_region 9 with fail
    have hB24 := hB23.put 2 rfl (addR s (mulR (f k) (partR i e)))
    clear c_s z_s f_s hB23
    generalize (w23.setCell _ _).setCell _ _ = w24 at *
    by_cases ha0 : addC s (mulR (f k) (partR i e)) = 0
    rotate_left
    · have q2 : (addC s (mulR (f k) (partR i e)) != 0) = true := bneT ha0
      have HW := Lib.hid (show totS f (fun g => partR i (gR l g)) (k + 1) = none by rw [HST.out, if_neg (fun q => ha0 q.2)])
      clear ha0
      generalize addC s (mulR (f k) (partR i e)) = ac at *
      have c_s := fun j => cell_of_row _ _ j _ _ _ (hB24.get 2 rfl)
      have z_s := hB24.lt 2 rfl
      have c_o := fun j => cell_of_row _ _ j _ _ _ (hB24.get 3 rfl)
      have z_o := hB24.lt 3 rfl
      have f_o := fun j => frozen_of_row _ _ j _ _ (hB24.get 3 rfl)
      have HNO := Lib.hid (totS_none (n := l.length) (HW.out) HME.out.1)
      have HE := Lib.hid (hB24.put 3 rfl (addR s (mulR (f k) (partR i e)))).below
      clear hB24
      go_wp2_with fail
      refine bodyPost_ret (v := .tuple #[rV (addR s (mulR (f k) (partR i e))), .bool false]) (by simp [results, Try.results39, go_sem, c_o, f_o, z_o]) rfl ?_
      exact ⟨(addR s (mulR (f k) (partR i e))), by rw [HNO.out]; rfl, fun t ht => (by rw [HNO.out] at ht; cases ht), HE.out⟩
    have q2 : (addC s (mulR (f k) (partR i e)) != 0) = false := bneF ha0
    have HW := Lib.hid (show totS f (fun g => partR i (gR l g)) (k + 1) = some (addR s (mulR (f k) (partR i e))) by rw [HST.out, if_pos ⟨HM0.out, ha0⟩])
    clear ha0
    generalize addC s (mulR (f k) (partR i e)) = ac at *
    generalize addR s (mulR (f k) (partR i e)) = s2 at *
    have HZ := Lib.hid (show Bx w [(gS, rB s2), (w.heap.size, rB ⟨0, 0⟩)] _ from hB24.sub (List.Sublist.cons _ (List.Sublist.cons _ (List.Sublist.refl _))))
    clear hB24
    go_wp2_with fail
    exact ⟨⟨k + 1, s2, HME.out.1, by go_num, HW.out, HZ.out⟩, by simpa [intOf] using HME.out.2⟩
end Go.Proofs.Ytpijllobpohpgaa
