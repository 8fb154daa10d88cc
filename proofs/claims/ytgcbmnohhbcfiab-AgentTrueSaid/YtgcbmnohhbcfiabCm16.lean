/- Value and Mark of a desk. -/
import Derived.Test.YtgcbmnohhbcfiabAsW
import Derived.Test.YtgcbmnohhbcfiabCm11
import Derived.Test.YtgcbmnohhbcfiabCm9
namespace Go.Proofs.Ytgcbmnohhbcfiab
open Go.RowKit Go.Deep
set_option linter.unusedVariables false
set_option linter.unusedSimpArgs false

theorem zero_wf : Rt.wf ⟨0, 0⟩ := ⟨by decide, by decide, by decide, by decide⟩
theorem ask_wf {g kind : Int} {a b : Rt} (g0 : -9223372036854775808 ≤ g) (g1 : g ≤ 9223372036854775807) (k0 : 0 ≤ kind) (k1 : kind ≤ 255) (ha : a.wf) (hb : b.wf) : (⟨g, kind, a, b, ⟨0, 0⟩⟩ : Qy).wf := ⟨g0, g1, k0, k1, ha, hb, zero_wf⟩
end Go.Proofs.Ytgcbmnohhbcfiab

namespace Go.Proofs.Ytgcbmnohhbcfiab
open Go.RowKit Go.Deep
set_option linter.unusedVariables false
set_option linter.unusedSimpArgs false

theorem run_neq_query (p q : Qy) (w : World) : (binOp .neq 53 (qV p) (qV q)).run Try.prog w = .ok (.bool (!decide (p = q))) w := by
  rw [qy_eq_bool]
  cases h0 : p.agent == q.agent with
  | false => go_simp
  | true =>
  cases h1 : p.kind == q.kind with
  | false => go_simp
  | true =>
  cases h2 : p.a.n == q.a.n with
  | false => go_simp
  | true =>
  cases h3 : p.a.d == q.a.d with
  | false => go_simp
  | true =>
  cases h4 : p.b.n == q.b.n with
  | false => go_simp
  | true =>
  cases h5 : p.b.d == q.b.d with
  | false => go_simp
  | true =>
  cases h6 : p.ans.n == q.ans.n with
  | false => go_simp
  | true =>
  cases h7 : p.ans.d == q.ans.d with
  | false => go_simp
  | true =>
  go_simp
attribute [go_sem 2000] run_neq_query
set_option maxRecDepth 100000 in
set_option maxHeartbeats 8000000 in
theorem fsamelogs_any (a b : List Qy) (A : Option Addr) (c : Nat) (B : Option Addr) (d : Nat) (w : World) (ha : LgIn w.heap.size w A c a) (hb : LgIn w.heap.size w B d b) :
    Calls Try.prog 13 #[.slice A a.length c, .slice B b.length d] w fun e w' => e = .returned (.bool (sameQ a b)) ∧ Below w.heap.size w w' := by
  have hm := Nat.le_trans ha.len ha.cap
  unfold maxLen at hm
  by_cases hl : a.length = b.length
  rotate_left
  · have b1 : ((a.length : Int) != (b.length : Int)) = true := by simp; omega
    have HR := Lib.hid (show sameQ a b = false from decide_eq_false (fun e => hl (by rw [e])))
    rw [HR.out]
    clear HR hl ha hb
    go_enter Try.func13, Try.ntmps13
    go_wp2_with fail
    go_ret
    exact ⟨rfl, Below.refl _ _⟩
  have b1 : ((a.length : Int) != (b.length : Int)) = false := by simp; omega
  have HL := Lib.hid hl
  have HA := Lib.hid (fun (W : World) (hW : Below w.heap.size w W) => ha.next hW)
  have HB := Lib.hid (fun (W : World) (hW : Below w.heap.size w W) => hb.next hW)
  clear hl ha hb
  go_enter Try.func13, Try.ntmps13
  go_wp2_with fail
  clear b1
  go_loopw [5] (fun s5 wr => ∃ k : Nat, k ≤ a.length ∧ s5 = .int .i64 k ∧ Hid (∀ (j : Nat) (x y : Qy), j < k → a[j]? = some x → b[j]? = some y → x = y) ∧ Below w.heap.size w wr) (fun s5 _ => a.length - (intOf s5).toNat)
  case atStart => exact ⟨0, Nat.zero_le _, rfl, fun j x y hj => by omega, Below.refl _ _⟩
  case round =>
    obtain ⟨k, hk, rfl, hno, hB⟩ := hrel
    by_cases hlt : k < a.length
    rotate_left
    · obtain rfl : k = a.length := by omega
      have HR := Lib.hid (show sameQ a b = true from decide_eq_true (list_same HL.out (fun j x y hx hy => hno j x y (by rcases Nat.lt_or_ge j a.length with q | q; exact q; rw [List.getElem?_eq_none q] at hx; cases hx) hx hy)))
      have HBw := Lib.hid hB
      clear hno hB hk hlt HA HB HL
      go_wp2_with fail
      go_ret
      exact ⟨ret_bool HR.out.symm, HBw.out⟩
    obtain ⟨p, hp⟩ : ∃ p, a[k]? = some p := ⟨_, List.getElem?_eq_getElem hlt⟩
    obtain ⟨q, hq⟩ : ∃ q, b[k]? = some q := ⟨_, List.getElem?_eq_getElem (by have := HL.out; omega)⟩
    obtain ⟨ad, rfl, hbA, hwp, c0, c1, c2, c3, c4, c5, c6, c7⟩ := (HA.out _ hB).query hp
    obtain ⟨bd, rfl, hbB, hwq, d0, d1, d2, d3, d4, d5, d6, d7⟩ := (HB.out _ hB).query hq
    obtain ⟨z1, z2, z3, z4⟩ := idx_facts hlt hm
    have z1b : (k : Int) < (b.length : Int) := by have := HL.out; omega
    have f1 : (ad.add (k * 8)).block < wr.heap.size := by rw [block_add]; exact hbA
    have g1 : (bd.add (k * 8)).block < wr.heap.size := by rw [block_add]; exact hbB
    have HBw := Lib.hid hB
    have HLE := Lib.hid (And.intro (Nat.succ_le_of_lt hlt) (Nat.sub_lt_sub_left hlt (Nat.lt_succ_self k)))
    by_cases e : p = q
    · have HN := Lib.hid (show Hid (∀ (j : Nat) (x y : Qy), j < k + 1 → a[j]? = some x → b[j]? = some y → x = y) from fun j x y hj hx hy => by
        rcases Nat.lt_or_ge j k with u | u
        · exact hno j x y u hx hy
        · obtain rfl : j = k := by omega
          rw [hp] at hx; rw [hq] at hy
          obtain rfl := Option.some.inj hx
          obtain rfl := Option.some.inj hy
          exact e)
      have hq' : decide (p = q) = true := decide_eq_true e
      clear hno hB hk hlt hp hq hwp hwq HA HB HL
      go_wp2_with fail
      refine wp_region_ext (by kernel_rfl) (by kernel_rfl) ?_
      repeat (first | go_big_quiet_step (fail) | quiet_step (fail))
      refine wpQuiet_nil ?_
      rintro _ ⟨⟨w2, hb2⟩, rfl⟩
      have HW2 := Lib.hid (bcall HBw.out HBw.out.size hb2)
      clear hb2 HBw hbA hbB f1 g1 c0 c1 c2 c3 c4 c5 c6 c7 d0 d1 d2 d3 d4 d5 d6 d7
      go_wp2_with fail
      exact ⟨⟨k + 1, HLE.out.1, by go_num, HN.out, HW2.out⟩, by simpa [intOf] using HLE.out.2⟩
    · have HR := Lib.hid (show sameQ a b = false from decide_eq_false (at_ne hp hq e))
      have hq' := decide_eq_false e
      clear hno hB hk hlt hp hq hwp hwq HA HB HL e
      go_wp2_with fail
      refine wp_region_ext (by kernel_rfl) (by kernel_rfl) ?_
      repeat (first | go_big_quiet_step (fail) | quiet_step (fail))
      refine wpQuiet_nil ?_
      rintro _ ⟨⟨w2, hb2⟩, rfl⟩
      have HW2 := Lib.hid (bcall HBw.out HBw.out.size hb2)
      clear hb2 HBw hbA hbB f1 g1 c0 c1 c2 c3 c4 c5 c6 c7 d0 d1 d2 d3 d4 d5 d6 d7
      go_wp2_with fail
      go_ret
      exact ⟨ret_bool HR.out.symm, HW2.out⟩
def sameC (a b : List Ck) : Bool := decide (a.length = b.length) && (List.range a.length).all (fun i => match a[i]?, b[i]? with | some x, some y => sameK x y | _, _ => true)
theorem sameC_eq {a b : List Ck} (h : sameC a b = true) : a = b := by
  simp only [sameC, Bool.and_eq_true, decide_eq_true_eq, List.all_eq_true, List.mem_range] at h
  refine list_same h.1 (fun j x y hx hy => ?_)
  have hj : j < a.length := by
    rcases Nat.lt_or_ge j a.length with q | q
    · exact q
    · rw [List.getElem?_eq_none q] at hx; cases hx
  have := h.2 j hj
  rw [hx, hy] at this
  exact sameK_eq this
theorem sameC_self (a : List Ck) : sameC a a = true := by
  simp only [sameC, Bool.and_eq_true, decide_eq_true_eq, List.all_eq_true, List.mem_range, true_and]
  intro i hi
  rw [List.getElem?_eq_getElem hi]
  exact sameK_self _
theorem sameC_all {a b : List Ck} (hl : a.length = b.length) (h : ∀ (j : Nat) (x y : Ck), a[j]? = some x → b[j]? = some y → sameK x y = true) : sameC a b = true := by
  have : a = b := list_same hl (fun j x y hx hy => sameK_eq (h j x y hx hy))
  subst this
  exact sameC_self a
theorem sameC_hit {a b : List Ck} {j : Nat} {x y : Ck} (hx : a[j]? = some x) (hy : b[j]? = some y) (h : sameK x y = false) : sameC a b = false := by
  cases e : sameC a b with
  | false => rfl
  | true =>
    have := sameC_eq e
    subst this
    rw [hx] at hy; obtain rfl := Option.some.inj hy
    rw [sameK_self] at h; cases h
theorem sameC_len {a b : List Ck} (hl : a.length ≠ b.length) : sameC a b = false := by unfold sameC; rw [decide_eq_false hl]; rfl
end Go.Proofs.Ytgcbmnohhbcfiab

namespace Go.Proofs.Ytgcbmnohhbcfiab
open Go.RowKit Go.Deep
set_option linter.unusedVariables false
set_option linter.unusedSimpArgs false

theorem rt_eq_bool (p q : Rt) : decide (p = q) = (p.n == q.n && p.d == q.d) := by
  by_cases e : p = q
  · subst e; simp
  · rw [decide_eq_false e]
    symm
    refine Bool.eq_false_iff.2 (fun h => e ?_)
    simp only [Bool.and_eq_true, beq_iff_eq] at h
    exact Rt.ext_ h.1 h.2
theorem run_neq_rt (p q : Rt) (w : World) : (binOp .neq 51 (rV p) (rV q)).run Try.prog w = .ok (.bool (!decide (p = q))) w := by
  rw [rt_eq_bool]
  cases h1 : p.n == q.n with
  | false => go_simp
  | true =>
  cases h2 : p.d == q.d with
  | false => go_simp
  | true => go_simp
attribute [go_sem 2000] run_neq_rt
/-- The cakes of a desk that was opened. -/
def openK (ks : List Ck) : List Ck := if deskC ks 0 = 0 then ks else []
/-- What opening leaves. -/
def OpenRes (ks : List Ck) (w : World) (e : Ending) (w' : World) : Prop := ∃ P cp, e = .returned (.tuple #[dV P cp (openK ks) none 0 [], .int .i64 (deskC ks 0)]) ∧ Fresh w.heap.size w' (fun W => CsIn W.heap.size W P cp (openK ks)) ∧ Below w.heap.size w w'
end Go.Proofs.Ytgcbmnohhbcfiab

namespace Go.Proofs.Ytgcbmnohhbcfiab
open Go.RowKit Go.Deep
set_option linter.unusedVariables false
set_option linter.unusedSimpArgs false

theorem right_no_has {ks : List Ck} {q : Qy} (h : hasB ks.length q.agent = false) : rightB ks q = false := by unfold rightB; rw [h]; rfl
theorem right_no_kind {ks : List Ck} {q : Qy} (h1 : q.kind ≠ 1) (h2 : q.kind ≠ 2) : rightB ks q = false := by unfold rightB; rw [decide_eq_false h1, decide_eq_false h2]; simp
theorem right_no_ans {ks : List Ck} {q : Qy} {K : Ck} (hk : ckAt ks q.agent = K) (h : ansC K q.kind q.a q.b ≠ 0) : rightB ks q = false := by unfold rightB; rw [hk, decide_eq_false h]; simp
theorem right_no_val {ks : List Ck} {q : Qy} {K : Ck} (hk : ckAt ks q.agent = K) (h : ansR K q.kind q.a q.b ≠ q.ans) : rightB ks q = false := by unfold rightB; rw [hk, decide_eq_false h]; simp
theorem right_yes {ks : List Ck} {q : Qy} {K : Ck} (hk : ckAt ks q.agent = K) (h0 : hasB ks.length q.agent = true) (h1 : q.kind = 1 ∨ q.kind = 2) (h2 : ansC K q.kind q.a q.b = 0) (h3 : ansR K q.kind q.a q.b = q.ans) : rightB ks q = true := by
  unfold rightB
  rw [hk, h0, decide_eq_true h2, decide_eq_true h3]
  rcases h1 with e | e <;> rw [e] <;> rfl
set_option maxRecDepth 100000 in
set_option maxHeartbeats 32000000 in
theorem askreplay_any (ks : List Ck) (A : Option Addr) (c : Nat) (l : List Qy) (B : Option Addr) (d : Nat) (w : World) (h : CsIn w.heap.size w A c ks) (hl : LgIn w.heap.size w B d l) :
    Calls Try.prog 19 #[.slice A ks.length c, .slice B l.length d] w fun e w' => e = .returned (.tuple #[.int .i64 (repR ks l), .int .i64 (deskC ks l.length)]) ∧ Below w.heap.size w w' := by
  have hm := Nat.le_trans hl.len hl.cap
  have hB0 : Bx w [(w.heap.size, oB A c ks B d l)] (w.alloc (oB A c ks B d l)) := (Bx.start w).new rfl _
  have HC := Lib.hid (fun (W : World) (hW : Below w.heap.size w W) => dcheck_any ks A c l B d W (h.next hW) hm)
  have HV := Lib.hid (fun (W : World) (hW : Below w.heap.size w W) => h.next hW)
  have HH := Lib.hid (fun (W : World) (hW : Below w.heap.size w W) => hl.next hW)
  unfold maxLen at hm
  have HM := Lib.hid hm
  clear h hl hm
  by_cases hc : deskC ks l.length = 0
  rotate_left
  · have b1 : (deskC ks l.length != 0) = true := by simpa using hc
    have HR := Lib.hid (show repR ks l = 0 from if_neg hc)
    obtain ⟨code, hco⟩ : ∃ x, x = deskC ks l.length := ⟨_, rfl⟩
    obtain ⟨rep, hre⟩ : ∃ x, x = repR ks l := ⟨_, rfl⟩
    rw [← hco] at HC b1
    rw [← hco, ← hre]
    rw [← hre] at HR
    have c_o := fun j => cell_of_row _ _ j _ _ _ (hB0.get 0 rfl)
    have z_o := hB0.lt 0 rfl
    clear hc hco HV HH HM hre
    go_enter Try.func19, Try.ntmps19
    go_wp2_with fail
    refine (HC.out _ hB0.below).mono ?_
    rintro e w1 ⟨rfl, hb⟩
    have hB1 := Lib.hid (hB0.next hb).below
    clear hb hB0 c_o z_o HC
    go_wp2_with fail
    refine bodyPost_ret (v := .tuple #[.int .i64 0, .int .i64 code]) (by simp [results, Try.results19, go_sem]) rfl ?_
    exact ⟨by rw [HR.out], hB1.out⟩
  have HD := Lib.hid hc
  have HK := Lib.hid (deskC_zero.1 hc)
  have HR := Lib.hid (show repR ks l = (repN ks l : Int) from if_pos hc)
  rw [hc] at HC
  obtain ⟨code, hco⟩ : ∃ x, x = deskC ks l.length := ⟨_, rfl⟩
  obtain ⟨rep, hre⟩ : ∃ x, x = repR ks l := ⟨_, rfl⟩
  rw [← hco, ← hre]
  have HCO := Lib.hid (show code = 0 by rw [hco]; exact hc)
  have HRE := Lib.hid (show rep = (repN ks l : Int) by rw [hre]; exact HR.out)
  have c_o := fun j => cell_of_row _ _ j _ _ _ (hB0.get 0 rfl)
  have z_o := hB0.lt 0 rfl
  clear hc hco hre HR
  go_enter Try.func19, Try.ntmps19
  go_wp2_with fail
  refine (HC.out _ hB0.below).mono ?_
  rintro e w1 ⟨rfl, hb⟩
  have hB1 := hB0.next hb
  clear hb hB0 c_o z_o HC
  have c_o := fun j => cell_of_row _ _ j _ _ _ (hB1.get 0 rfl)
  have z_o := hB1.lt 0 rfl
  go_wp2_with fail
  clear c_o z_o
  go_loopw [27] (fun s27 wr => ∃ k : Nat, k ≤ l.length ∧ s27 = .int .i64 k ∧ Hid (∀ (j : Nat) (p : Qy), j < k → l[j]? = some p → rightB ks p = true) ∧ Bx w [(w.heap.size, oB A c ks B d l)] wr) (fun s27 _ => l.length - (intOf s27).toNat)
  case atStart => exact ⟨0, Nat.zero_le _, rfl, fun j p hj => by omega, hB1⟩
  case round =>
    clear hB1
    obtain ⟨k, hk, rfl, hno, hBr⟩ := hrel
    by_cases hlt : k < l.length
    rotate_left
    · obtain rfl : k = l.length := by omega
      have HN := Lib.hid (show rep = (l.length : Int) by rw [HRE.out, repN_all (fun j p hj => hno j p (by rcases Nat.lt_or_ge j l.length with u | u; exact u; rw [List.getElem?_eq_none u] at hj; cases hj) hj)])
      have HBw := Lib.hid hBr.below
      clear hno hk hlt hBr HH HV HD HK
      go_wp2_with fail
      refine bodyPost_ret (v := .tuple #[.int .i64 (l.length : Int), .int .i64 0]) (by simp [results, Try.results19, go_sem]) rfl ?_
      exact ⟨by rw [HN.out, HCO.out], HBw.out⟩
    obtain ⟨q, hq⟩ : ∃ q, l[k]? = some q := ⟨_, List.getElem?_eq_getElem hlt⟩
    obtain ⟨ad, rfl, hb, hwq, c0, c1, c2, c3, c4, c5, c6, c7⟩ := (HH.out _ hBr.below).query hq
    obtain ⟨z1, z2, z3, z4⟩ := idx_facts hlt HM.out
    have HLE := Lib.hid (And.intro (Nat.succ_le_of_lt hlt) (Nat.sub_lt_sub_left hlt (Nat.lt_succ_self k)))
    have HNO := Lib.hid (fun (e : rightB ks q = false) => show rep = (k : Int) by rw [HRE.out, repN_hit (i := k) hno hq e])
    have HN := Lib.hid (fun (e : rightB ks q = true) => show Hid (∀ (j : Nat) (p : Qy), j < k + 1 → l[j]? = some p → rightB ks p = true) from fun j p hj hp => by
      rcases Nat.lt_or_ge j k with u | u
      · exact hno j p u hp
      · obtain rfl : j = k := by omega
        rw [hq] at hp; obtain rfl := Option.some.inj hp
        exact e)
    have c_o := fun j => cell_of_row _ _ j _ _ _ (hBr.get 0 rfl)
    have z_o := hBr.lt 0 rfl
    have HQ := Lib.hid hwq
    have HG := Lib.hid (fun (W : World) => has_any ks (A) c l (some ad) d q.agent W)
    clear hno hk hlt hq hwq HH HM
    go_upto_region 8 with fail
    clear c_o z_o c0 c1 c2 c3 c4 c5 c6 c7 hb
    have hBq := hBr.new rfl (qB q)
    clear hBr
    generalize wr.heap.size = gQ at *
    generalize wr.alloc _ = wq at *
    have c_q := fun j => cell_of_row _ _ j _ _ _ (hBq.get 0 rfl)
    have z_q := hBq.lt 0 rfl
    have c_o := fun j => cell_of_row _ _ j _ _ _ (hBq.get 1 rfl)
    have z_o := hBq.lt 1 rfl
    have hk0 := HQ.out.k0
    have hk1 := HQ.out.k1
    by_cases hh : hasB ks.length q.agent = false
    · have HX := Lib.hid (right_no_has hh)
      by_cases e2 : q.kind = 2
      · have b2 : (q.kind == 2) = true := by simpa using e2
        clear e2 hk0 hk1
        rw [hh] at HG
        clear hh
        go_wp2_with fail
        refine (HG.out _).mono ?_
        rintro e w2 ⟨rfl, hb⟩
        have hB2 := hBq.next hb
        clear c_q z_q c_o z_o hb hBq HG
        have c_q := fun j => cell_of_row _ _ j _ _ _ (hB2.get 0 rfl)
        have z_q := hB2.lt 0 rfl
        have c_o := fun j => cell_of_row _ _ j _ _ _ (hB2.get 1 rfl)
        have z_o := hB2.lt 1 rfl
        have HZ := Lib.hid (HNO.out (HX.out))
        have HBw := Lib.hid hB2.below
        clear hB2
        go_wp2_with fail
        refine bodyPost_ret (v := .tuple #[.int .i64 (k : Int), .int .i64 0]) (by simp [results, Try.results19, go_sem]) rfl ?_
        exact ⟨by rw [HZ.out, HCO.out], HBw.out⟩
      · have b2 : (q.kind == 2) = false := by simpa using e2
        clear e2 hk0 hk1
        rw [hh] at HG
        clear hh
        go_wp2_with fail
        refine (HG.out _).mono ?_
        rintro e w2 ⟨rfl, hb⟩
        have hB2 := hBq.next hb
        clear c_q z_q c_o z_o hb hBq HG
        have c_q := fun j => cell_of_row _ _ j _ _ _ (hB2.get 0 rfl)
        have z_q := hB2.lt 0 rfl
        have c_o := fun j => cell_of_row _ _ j _ _ _ (hB2.get 1 rfl)
        have z_o := hB2.lt 1 rfl
        have HZ := Lib.hid (HNO.out (HX.out))
        have HBw := Lib.hid hB2.below
        clear hB2
        go_wp2_with fail
        refine bodyPost_ret (v := .tuple #[.int .i64 (k : Int), .int .i64 0]) (by simp [results, Try.results19, go_sem]) rfl ?_
        exact ⟨by rw [HZ.out, HCO.out], HBw.out⟩
    have hh : hasB ks.length q.agent = true := by simpa using hh
    have HT := Lib.hid hh
    rw [hh] at HG
    clear hh
    by_cases e : q.kind = 1
    · have b2 : (q.kind == 2) = false := by rw [e]; rfl
      have b3 : decide (q.kind < 1) = false := by rw [e]; rfl
      have b4 : decide (2 < q.kind) = false := by rw [e]; rfl
      obtain ⟨n, K, hgn, hK, hck⟩ := has_of HT.out
      have HCK := Lib.hid hck
      obtain ⟨r, hr⟩ : ∃ x, x = ansR K q.kind q.a q.b := ⟨_, rfl⟩
      obtain ⟨code2, hco2⟩ : ∃ x, x = ansC K q.kind q.a q.b := ⟨_, rfl⟩
      have HA := Lib.hid (fun (W : World) (hW : Below w.heap.size w W) => by have := ans_value.2 ks A c l (some ad) d n K hK q.a q.b HQ.out.a HQ.out.b W (HV.out W hW); rw [← e, ← hr, ← hco2, ← hgn] at this; exact this)
      have HR2 := Lib.hid hr
      have HCO2 := Lib.hid hco2
      have HE := Lib.hid e
      clear hr hco2 hgn hK hck e hk0 hk1
      go_wp2_with fail
      refine (HG.out _).mono ?_
      rintro e w2 ⟨rfl, hb⟩
      have hB2 := hBq.next hb
      clear c_q z_q c_o z_o hb hBq HG
      have c_q := fun j => cell_of_row _ _ j _ _ _ (hB2.get 0 rfl)
      have z_q := hB2.lt 0 rfl
      have c_o := fun j => cell_of_row _ _ j _ _ _ (hB2.get 1 rfl)
      have z_o := hB2.lt 1 rfl
      go_wp2_with fail
      refine (HA.out _ hB2.below).mono ?_
      rintro e w3 ⟨rfl, hb⟩
      have hB3 := hB2.next hb
      clear c_q z_q c_o z_o hb hB2 HA b2 b3 b4
      go_upto_region 14 with fail
      have hB4 := hB3.new rfl (rB r)
      clear hB3
      generalize w3.heap.size = gR at *
      generalize w3.alloc _ = w4 at *
      have c_r := fun j => cell_of_row _ _ j _ _ _ (hB4.get 0 rfl)
      have z_r := hB4.lt 0 rfl
      have c_q := fun j => cell_of_row _ _ j _ _ _ (hB4.get 1 rfl)
      have z_q := hB4.lt 1 rfl
      have c_o := fun j => cell_of_row _ _ j _ _ _ (hB4.get 2 rfl)
      have z_o := hB4.lt 2 rfl
      by_cases e0 : code2 = 0
      rotate_left
      · have b1 : (code2 != 0) = true := by simpa using e0
        have HX := Lib.hid (right_no_ans HCK.out (by rw [← HCO2.out]; exact e0))
        clear e0
        have HZ := Lib.hid (HNO.out (HX.out))
        have HBw := Lib.hid hB4.below
        clear hB4
        go_wp2_with fail
        refine bodyPost_ret (v := .tuple #[.int .i64 (k : Int), .int .i64 0]) (by simp [results, Try.results19, go_sem]) rfl ?_
        exact ⟨by rw [HZ.out, HCO.out], HBw.out⟩
      subst e0
      by_cases e1 : r = q.ans
      rotate_left
      · have b1 : decide (r = q.ans) = false := decide_eq_false e1
        have HX := Lib.hid (right_no_val HCK.out (by rw [← HR2.out]; exact e1))
        clear e1
        have HZ := Lib.hid (HNO.out (HX.out))
        have HBw := Lib.hid hB4.below
        clear hB4
        go_wp2_with fail
        refine bodyPost_ret (v := .tuple #[.int .i64 (k : Int), .int .i64 0]) (by simp [results, Try.results19, go_sem]) rfl ?_
        exact ⟨by rw [HZ.out, HCO.out], HBw.out⟩
      have b1 : decide (r = q.ans) = true := decide_eq_true e1
      have HX := Lib.hid (HN.out (right_yes HCK.out HT.out (Or.inl HE.out) HCO2.out.symm (by rw [← HR2.out]; exact e1)))
      have HB4 := Lib.hid hB4.drop.drop
      clear e1 hB4
      go_wp2_with fail
      exact ⟨⟨k + 1, HLE.out.1, by go_num, HX.out, HB4.out⟩, by simpa [intOf] using HLE.out.2⟩
    by_cases e2 : q.kind = 2
    · have e := e2
      clear e2
      have b2 : (q.kind == 2) = true := by rw [e]; rfl
      have b3 : decide (q.kind < 1) = false := by rw [e]; rfl
      have b4 : decide (2 < q.kind) = false := by rw [e]; rfl
      obtain ⟨n, K, hgn, hK, hck⟩ := has_of HT.out
      have HCK := Lib.hid hck
      obtain ⟨r, hr⟩ : ∃ x, x = ansR K q.kind q.a q.b := ⟨_, rfl⟩
      obtain ⟨code2, hco2⟩ : ∃ x, x = ansC K q.kind q.a q.b := ⟨_, rfl⟩
      have HA := Lib.hid (fun (W : World) (hW : Below w.heap.size w W) => by have := ans_mark.2 ks A c l (some ad) d n K hK q.a q.b HQ.out.a HQ.out.b W (HV.out W hW); rw [← e, ← hr, ← hco2, ← hgn] at this; exact this)
      have HR2 := Lib.hid hr
      have HCO2 := Lib.hid hco2
      have HE := Lib.hid e
      clear hr hco2 hgn hK hck e hk0 hk1
      go_wp2_with fail
      refine (HG.out _).mono ?_
      rintro e w2 ⟨rfl, hb⟩
      have hB2 := hBq.next hb
      clear c_q z_q c_o z_o hb hBq HG
      have c_q := fun j => cell_of_row _ _ j _ _ _ (hB2.get 0 rfl)
      have z_q := hB2.lt 0 rfl
      have c_o := fun j => cell_of_row _ _ j _ _ _ (hB2.get 1 rfl)
      have z_o := hB2.lt 1 rfl
      go_wp2_with fail
      refine (HA.out _ hB2.below).mono ?_
      rintro e w3 ⟨rfl, hb⟩
      have hB3 := hB2.next hb
      clear c_q z_q c_o z_o hb hB2 HA b2 b3 b4
      go_upto_region 14 with fail
      have hB4 := hB3.new rfl (rB r)
      clear hB3
      generalize w3.heap.size = gR at *
      generalize w3.alloc _ = w4 at *
      have c_r := fun j => cell_of_row _ _ j _ _ _ (hB4.get 0 rfl)
      have z_r := hB4.lt 0 rfl
      have c_q := fun j => cell_of_row _ _ j _ _ _ (hB4.get 1 rfl)
      have z_q := hB4.lt 1 rfl
      have c_o := fun j => cell_of_row _ _ j _ _ _ (hB4.get 2 rfl)
      have z_o := hB4.lt 2 rfl
      by_cases e0 : code2 = 0
      rotate_left
      · have b1 : (code2 != 0) = true := by simpa using e0
        have HX := Lib.hid (right_no_ans HCK.out (by rw [← HCO2.out]; exact e0))
        clear e0
        have HZ := Lib.hid (HNO.out (HX.out))
        have HBw := Lib.hid hB4.below
        clear hB4
        go_wp2_with fail
        refine bodyPost_ret (v := .tuple #[.int .i64 (k : Int), .int .i64 0]) (by simp [results, Try.results19, go_sem]) rfl ?_
        exact ⟨by rw [HZ.out, HCO.out], HBw.out⟩
      subst e0
      by_cases e1 : r = q.ans
      rotate_left
      · have b1 : decide (r = q.ans) = false := decide_eq_false e1
        have HX := Lib.hid (right_no_val HCK.out (by rw [← HR2.out]; exact e1))
        clear e1
        have HZ := Lib.hid (HNO.out (HX.out))
        have HBw := Lib.hid hB4.below
        clear hB4
        go_wp2_with fail
        refine bodyPost_ret (v := .tuple #[.int .i64 (k : Int), .int .i64 0]) (by simp [results, Try.results19, go_sem]) rfl ?_
        exact ⟨by rw [HZ.out, HCO.out], HBw.out⟩
      have b1 : decide (r = q.ans) = true := decide_eq_true e1
      have HX := Lib.hid (HN.out (right_yes HCK.out HT.out (Or.inr HE.out) HCO2.out.symm (by rw [← HR2.out]; exact e1)))
      have HB4 := Lib.hid hB4.drop.drop
      clear e1 hB4
      go_wp2_with fail
      exact ⟨⟨k + 1, HLE.out.1, by go_num, HX.out, HB4.out⟩, by simpa [intOf] using HLE.out.2⟩
    have HX := Lib.hid (right_no_kind (ks := ks) e e2)
    have b2 : (q.kind == 2) = false := by simpa using e2
    by_cases e3 : q.kind < 1
    · have b3 : decide (q.kind < 1) = true := decide_eq_true e3
      clear e e2 e3 hk0 hk1
      go_wp2_with fail
      refine (HG.out _).mono ?_
      rintro e w2 ⟨rfl, hb⟩
      have hB2 := hBq.next hb
      clear c_q z_q c_o z_o hb hBq HG
      have c_q := fun j => cell_of_row _ _ j _ _ _ (hB2.get 0 rfl)
      have z_q := hB2.lt 0 rfl
      have c_o := fun j => cell_of_row _ _ j _ _ _ (hB2.get 1 rfl)
      have z_o := hB2.lt 1 rfl
      have HZ := Lib.hid (HNO.out (HX.out))
      have HBw := Lib.hid hB2.below
      clear hB2
      go_wp2_with fail
      refine bodyPost_ret (v := .tuple #[.int .i64 (k : Int), .int .i64 0]) (by simp [results, Try.results19, go_sem]) rfl ?_
      exact ⟨by rw [HZ.out, HCO.out], HBw.out⟩
    have b3 : decide (q.kind < 1) = false := decide_eq_false e3
    have b4 : decide (2 < q.kind) = true := decide_eq_true (by omega)
    clear e e2 e3 hk0 hk1
    go_wp2_with fail
    refine (HG.out _).mono ?_
    rintro e w2 ⟨rfl, hb⟩
    have hB2 := hBq.next hb
    clear c_q z_q c_o z_o hb hBq HG
    have c_q := fun j => cell_of_row _ _ j _ _ _ (hB2.get 0 rfl)
    have z_q := hB2.lt 0 rfl
    have c_o := fun j => cell_of_row _ _ j _ _ _ (hB2.get 1 rfl)
    have z_o := hB2.lt 1 rfl
    have HZ := Lib.hid (HNO.out (HX.out))
    have HBw := Lib.hid hB2.below
    clear hB2
    go_wp2_with fail
    refine bodyPost_ret (v := .tuple #[.int .i64 (k : Int), .int .i64 0]) (by simp [results, Try.results19, go_sem]) rfl ?_
    exact ⟨by rw [HZ.out, HCO.out], HBw.out⟩
end Go.Proofs.Ytgcbmnohhbcfiab

namespace Go.Proofs.Ytgcbmnohhbcfiab
open Go.RowKit Go.Deep
set_option linter.unusedVariables false
set_option linter.unusedSimpArgs false

abbrev twoO (g0 g1 g2 g3 : Nat) : Obj := .cells #[.int .i64 2, .slice (some ⟨g0, 0, none⟩) 2 2, .slice (some ⟨g1, 0, none⟩) 1 1, .int .i64 2, .slice (some ⟨g2, 0, none⟩) 3 3, .slice (some ⟨g3, 0, none⟩) 2 2] 41
abbrev twoL (g0 g1 g2 g3 g4 : Nat) : List (Nat × Obj) := [(g4, twoO g0 g1 g2 g3), (g3, .cells #[.int .i64 3, .int .i64 1] 3), (g2, .cells #[.int .i64 0, .int .i64 1, .int .i64 2] 3), (g1, .cells #[.int .i64 1] 3), (g0, .cells #[.int .i64 0, .int .i64 2] 3)]
def twoK : List Ck := [⟨2, [0, 2], [1]⟩, ⟨2, [0, 1, 2], [3, 1]⟩]
/-- Two cakes in a row. -/
theorem cs_two {g : Nat} {W : World} {t : TypeId} {fr : Nat × Nat} {K0 K1 : Ck} {A0 R0 A1 R1 : Option Addr} {c0 d0 c1 d1 a0 b0 a1 b1 : Nat} {n0 n1 : Int} (h : W.heap[g]? = some (.cells #[.int .i64 n0, .slice A0 a0 c0, .slice R0 b0 d0, .int .i64 n1, .slice A1 a1 c1, .slice R1 b1 d1] t fr))
    (e0 : K0.len = n0 ∧ K0.cuts.length = a0 ∧ K0.dens.length = b0) (e1 : K1.len = n1 ∧ K1.cuts.length = a1 ∧ K1.dens.length = b1) (k0 : CIn W.heap.size W A0 c0 R0 d0 K0) (k1 : CIn W.heap.size W A1 c1 R1 d1 K1) : CsIn W.heap.size W (some ⟨g, 0, none⟩) 2 [K0, K1] := by
  obtain ⟨rfl, rfl, rfl⟩ := e0
  obtain ⟨rfl, rfl, rfl⟩ := e1
  refine ⟨fun i K hi => ?_, by simp, by unfold maxLen; omega⟩
  match i, hi with
  | 0, hi =>
    obtain rfl : K0 = K := by simpa using hi
    refine ⟨_, _, rfl, lt_some h, ⟨A0, c0, R0, d0, rfl, k0⟩, fun j u hu => ?_⟩
    rw [add_mk, cell_of_row _ _ _ _ _ _ h]
    match j, hu with
    | 0, hu => exact hu
    | 1, hu => exact hu
    | 2, hu => exact hu
  | 1, hi =>
    obtain rfl : K1 = K := by simpa using hi
    refine ⟨_, _, rfl, lt_some h, ⟨A1, c1, R1, d1, rfl, k1⟩, fun j u hu => ?_⟩
    rw [add_mk, cell_of_row _ _ _ _ _ _ h]
    match j, hu with
    | 0, hu => exact hu
    | 1, hu => exact hu
    | 2, hu => exact hu
/-- A cake written out, read at once. -/
theorem ck_at4 {g1 g2 : Nat} {w : World} {cs0 cs1 : Array Value} {t u : TypeId} {K : Ck} (h1 : w.heap[g1]? = some (.cells cs0 t)) (h2 : w.heap[g2]? = some (.cells cs1 u))
    (c0 : cs0.toList = K.cuts.map (Value.int .i64)) (c1 : cs1.toList = K.dens.map (Value.int .i64)) {c d : Nat} (lc : K.cuts.length = c) (ld : K.dens.length = d) (mc : c ≤ 1000) (md : d ≤ 1000) (w0 : -1000000 ≤ K.len) (w1 : K.len ≤ 1000000) :
    CIn w.heap.size w (some ⟨g1, 0, none⟩) c (some ⟨g2, 0, none⟩) d K := (ck_lit (B0 := 0) (Nat.zero_le _) (Nat.zero_le _) h1 h2 c0 c1 lc ld mc md w0 w1).here
theorem two_k0 {g0 g1 : Nat} {W : World} (h0 : W.heap[g0]? = some (.cells #[.int .i64 0, .int .i64 2] 3)) (h1 : W.heap[g1]? = some (.cells #[.int .i64 1] 3)) : CIn W.heap.size W (some ⟨g0, 0, none⟩) 2 (some ⟨g1, 0, none⟩) 1 ⟨2, [0, 2], [1]⟩ := ck_at4 (K := ⟨2, [0, 2], [1]⟩) h0 h1 rfl rfl rfl rfl (by decide) (by decide) (by decide) (by decide)
theorem two_k1 {g2 g3 : Nat} {W : World} (h0 : W.heap[g2]? = some (.cells #[.int .i64 0, .int .i64 1, .int .i64 2] 3)) (h1 : W.heap[g3]? = some (.cells #[.int .i64 3, .int .i64 1] 3)) : CIn W.heap.size W (some ⟨g2, 0, none⟩) 3 (some ⟨g3, 0, none⟩) 2 ⟨2, [0, 1, 2], [3, 1]⟩ := ck_at4 (K := ⟨2, [0, 1, 2], [3, 1]⟩) h0 h1 rfl rfl rfl rfl (by decide) (by decide) (by decide) (by decide)
theorem two_in {w W : World} {g0 g1 g2 g3 g4 : Nat} (h : Bx w (twoL g0 g1 g2 g3 g4) W) : CsIn W.heap.size W (some ⟨g4, 0, none⟩) 2 twoK :=
  cs_two (h.get 0 rfl) ⟨rfl, rfl, rfl⟩ ⟨rfl, rfl, rfl⟩ (two_k0 (h.get 4 rfl) (h.get 3 rfl)) (two_k1 (h.get 2 rfl) (h.get 1 rfl))
/-- The total of an agent. -/
def totC (ks : List Ck) (n : Nat) (g : Int) : Int := if deskC ks n ≠ 0 then deskC ks n else if hasB ks.length g = false then 2 else 0
def totR (ks : List Ck) (n : Nat) (g : Int) : Int := if totC ks n g = 0 then (ckAt ks g).tot else 0
end Go.Proofs.Ytgcbmnohhbcfiab
