/- Logs are replayed. -/
import Derived.Test.YtgcbmnohhbcfiaaCm15
import Derived.Test.YtgcbmnohhbcfiaaCn1
import Derived.Test.YtgcbmnohhbcfiaaCkX
import Derived.Test.YtgcbmnohhbcfiaaCm12
namespace Go.Proofs.Ytgcbmnohhbcfiaa
open Go.RowKit Go.Deep
set_option linter.unusedVariables false
set_option linter.unusedSimpArgs false

theorem has_of {ks : List Ck} {g : Int} (h : hasB ks.length g = true) : ∃ (k : Nat) (K : Ck), g = (k : Int) ∧ ks[k]? = some K ∧ ckAt ks g = K := by
  simp only [hasB, Bool.and_eq_true, decide_eq_true_eq] at h
  have hk : g.toNat < ks.length := by omega
  have e : g = (g.toNat : Int) := by omega
  refine ⟨g.toNat, _, e, List.getElem?_eq_getElem hk, ?_⟩
  have := ckAt_of (List.getElem?_eq_getElem hk)
  rwa [← e] at this
/-- One of the two ways to ask an agent. -/
def AnsFn (f : FuncId) (kind : Int) : Prop := (∀ (args : Array Value) (W : World), Sem.run Try.prog (callFunc f args) W = .ok (.enter f args) W) ∧ ∀ (ks : List Ck) (A : Option Addr) (c : Nat) (l : List Qy) (B : Option Addr) (d : Nat) (k : Nat) (K : Ck), ks[k]? = some K → ∀ (a b : Rt), a.wf → b.wf → ∀ (w : World), CsIn w.heap.size w A c ks →
    Calls Try.prog f #[dV A c ks B d l, .int .i64 k, rV a, rV b] w fun e w' => e = .returned (.tuple #[rV (ansR K kind a b), .int .i64 (ansC K kind a b)]) ∧ Below w.heap.size w w'
theorem ans_value : AnsFn 110 1 := ⟨fun args W => by go_simp, fun ks A c l B d k K hK a b ha hb w h => ovalue_any ks A c l B d k K hK a b ha hb w h⟩
theorem ans_mark : AnsFn 111 2 := ⟨fun args W => by go_simp, fun ks A c l B d k K hK a b ha hb w h => omark_any ks A c l B d k K hK a b ha hb w h⟩
theorem rt_eq_bool (p q : Rt) : decide (p = q) = (p.n == q.n && p.d == q.d) := by
  by_cases e : p = q
  · subst e; simp
  · rw [decide_eq_false e]
    symm
    refine Bool.eq_false_iff.2 (fun h => e ?_)
    simp only [Bool.and_eq_true, beq_iff_eq] at h
    exact Rt.ext_ h.1 h.2
theorem run_neq_rt (p q : Rt) (w : World) : (binOp .neq 37 (rV p) (rV q)).run Try.prog w = .ok (.bool (!decide (p = q))) w := by
  rw [rt_eq_bool]
  cases h1 : p.n == q.n with
  | false => go_simp
  | true =>
  cases h2 : p.d == q.d with
  | false => go_simp
  | true => go_simp
attribute [go_sem 2000] run_neq_rt
theorem right_no_has {ks : List Ck} {q : Qy} (h : hasB ks.length q.agent = false) : rightB ks q = false := by unfold rightB; rw [h]; rfl
theorem right_no_kind {ks : List Ck} {q : Qy} (h1 : q.kind ≠ 1) (h2 : q.kind ≠ 2) : rightB ks q = false := by unfold rightB; rw [decide_eq_false h1, decide_eq_false h2]; simp
theorem right_no_ans {ks : List Ck} {q : Qy} {K : Ck} (hk : ckAt ks q.agent = K) (h : ansC K q.kind q.a q.b ≠ 0) : rightB ks q = false := by unfold rightB; rw [hk, decide_eq_false h]; simp
theorem right_no_val {ks : List Ck} {q : Qy} {K : Ck} (hk : ckAt ks q.agent = K) (h : ansR K q.kind q.a q.b ≠ q.ans) : rightB ks q = false := by unfold rightB; rw [hk, decide_eq_false h]; simp
theorem right_yes {ks : List Ck} {q : Qy} {K : Ck} (hk : ckAt ks q.agent = K) (h0 : hasB ks.length q.agent = true) (h1 : q.kind = 1 ∨ q.kind = 2) (h2 : ansC K q.kind q.a q.b = 0) (h3 : ansR K q.kind q.a q.b = q.ans) : rightB ks q = true := by
  unfold rightB
  rw [hk, h0, decide_eq_true h2, decide_eq_true h3]
  rcases h1 with e | e <;> rw [e] <;> rfl
set_option maxRecDepth 100000 in
set_option maxHeartbeats 32000000 in
theorem askreplay_any (ks : List Ck) (A : Option Addr) (c : Nat) (l : List Qy) (B : Option Addr) (d : Nat) (w : World) (h : CsIn w.heap.size w A c ks) (hl : LgIn w.heap.size w B d l) :
    Calls Try.prog 52 #[.slice A ks.length c, .slice B l.length d] w fun e w' => e = .returned (.tuple #[.int .i64 (repR ks l), .int .i64 (deskC ks l.length)]) ∧ Below w.heap.size w w' := by
  have hm := Nat.le_trans hl.len hl.cap
  have hB0 : Bx w [(w.heap.size, oB A c ks B d l)] (w.alloc (oB A c ks B d l)) := (Bx.start w).new rfl _
  have HC := Lib.hid (fun (W : World) (hW : Below w.heap.size w W) => dcheck_any ks A c l B d W (h.next hW) hm)
  have HV := Lib.hid (fun (W : World) (hW : Below w.heap.size w W) => h.next hW)
  have HH := Lib.hid (fun (W : World) (hW : Below w.heap.size w W) => hl.next hW)
  unfold maxLen at hm
  have HM := Lib.hid hm
  clear h hl hm
  by_cases hc : deskC ks l.length = 0
  rotate_left
  · have b1 : (deskC ks l.length != 0) = true := by simpa using hc
    have HR := Lib.hid (show repR ks l = 0 from if_neg hc)
    obtain ⟨code, hco⟩ : ∃ x, x = deskC ks l.length := ⟨_, rfl⟩
    obtain ⟨rep, hre⟩ : ∃ x, x = repR ks l := ⟨_, rfl⟩
    rw [← hco] at HC b1
    rw [← hco, ← hre]
    rw [← hre] at HR
    have c_o := fun j => cell_of_row _ _ j _ _ _ (hB0.get 0 rfl)
    have z_o := hB0.lt 0 rfl
    clear hc hco HV HH HM hre
    go_enter Try.func52, Try.ntmps52
    go_wp2_with fail
    refine (HC.out _ hB0.below).mono ?_
    rintro e w1 ⟨rfl, hb⟩
    have hB1 := Lib.hid (hB0.next hb).below
    clear hb hB0 c_o z_o HC
    go_wp2_with fail
    refine bodyPost_ret (v := .tuple #[.int .i64 0, .int .i64 code]) (by simp [results, Try.results52, go_sem]) rfl ?_
    exact ⟨by rw [HR.out], hB1.out⟩
  have HD := Lib.hid hc
  have HK := Lib.hid (deskC_zero.1 hc)
  have HR := Lib.hid (show repR ks l = (repN ks l : Int) from if_pos hc)
  rw [hc] at HC
  obtain ⟨code, hco⟩ : ∃ x, x = deskC ks l.length := ⟨_, rfl⟩
  obtain ⟨rep, hre⟩ : ∃ x, x = repR ks l := ⟨_, rfl⟩
  rw [← hco, ← hre]
  have HCO := Lib.hid (show code = 0 by rw [hco]; exact hc)
  have HRE := Lib.hid (show rep = (repN ks l : Int) by rw [hre]; exact HR.out)
  have c_o := fun j => cell_of_row _ _ j _ _ _ (hB0.get 0 rfl)
  have z_o := hB0.lt 0 rfl
  clear hc hco hre HR
  go_enter Try.func52, Try.ntmps52
  go_wp2_with fail
  refine (HC.out _ hB0.below).mono ?_
  rintro e w1 ⟨rfl, hb⟩
  have hB1 := hB0.next hb
  clear hb hB0 c_o z_o HC
  have c_o := fun j => cell_of_row _ _ j _ _ _ (hB1.get 0 rfl)
  have z_o := hB1.lt 0 rfl
  go_wp2_with fail
  clear c_o z_o
  go_loopw [27] (fun s27 wr => ∃ k : Nat, k ≤ l.length ∧ s27 = .int .i64 k ∧ Hid (∀ (j : Nat) (p : Qy), j < k → l[j]? = some p → rightB ks p = true) ∧ Bx w [(w.heap.size, oB A c ks B d l)] wr) (fun s27 _ => l.length - (intOf s27).toNat)
  case atStart => exact ⟨0, Nat.zero_le _, rfl, fun j p hj => by omega, hB1⟩
  case round =>
    clear hB1
    obtain ⟨k, hk, rfl, hno, hBr⟩ := hrel
    by_cases hlt : k < l.length
    rotate_left
    · obtain rfl : k = l.length := by omega
      have HN := Lib.hid (show rep = (l.length : Int) by rw [HRE.out, repN_all (fun j p hj => hno j p (by rcases Nat.lt_or_ge j l.length with u | u; exact u; rw [List.getElem?_eq_none u] at hj; cases hj) hj)])
      have HBw := Lib.hid hBr.below
      clear hno hk hlt hBr HH HV HD HK
      go_wp2_with fail
      refine bodyPost_ret (v := .tuple #[.int .i64 (l.length : Int), .int .i64 0]) (by simp [results, Try.results52, go_sem]) rfl ?_
      exact ⟨by rw [HN.out, HCO.out], HBw.out⟩
    obtain ⟨q, hq⟩ : ∃ q, l[k]? = some q := ⟨_, List.getElem?_eq_getElem hlt⟩
    obtain ⟨ad, rfl, hb, hwq, c0, c1, c2, c3, c4, c5, c6, c7⟩ := (HH.out _ hBr.below).query hq
    obtain ⟨z1, z2, z3, z4⟩ := idx_facts hlt HM.out
    have HLE := Lib.hid (And.intro (Nat.succ_le_of_lt hlt) (Nat.sub_lt_sub_left hlt (Nat.lt_succ_self k)))
    have HNO := Lib.hid (fun (e : rightB ks q = false) => show rep = (k : Int) by rw [HRE.out, repN_hit (i := k) hno hq e])
    have HN := Lib.hid (fun (e : rightB ks q = true) => show Hid (∀ (j : Nat) (p : Qy), j < k + 1 → l[j]? = some p → rightB ks p = true) from fun j p hj hp => by
      rcases Nat.lt_or_ge j k with u | u
      · exact hno j p u hp
      · obtain rfl : j = k := by omega
        rw [hq] at hp; obtain rfl := Option.some.inj hp
        exact e)
    have c_o := fun j => cell_of_row _ _ j _ _ _ (hBr.get 0 rfl)
    have z_o := hBr.lt 0 rfl
    have HQ := Lib.hid hwq
    have HG := Lib.hid (fun (W : World) => has_any ks (A) c l (some ad) d q.agent W)
    clear hno hk hlt hq hwq HH HM
    go_upto_region 8 with fail
    clear c_o z_o c0 c1 c2 c3 c4 c5 c6 c7 hb
    have hBq := hBr.new rfl (qB q)
    clear hBr
    generalize wr.heap.size = gQ at *
    generalize wr.alloc _ = wq at *
    have c_q := fun j => cell_of_row _ _ j _ _ _ (hBq.get 0 rfl)
    have z_q := hBq.lt 0 rfl
    have c_o := fun j => cell_of_row _ _ j _ _ _ (hBq.get 1 rfl)
    have z_o := hBq.lt 1 rfl
    have hk0 := HQ.out.k0
    have hk1 := HQ.out.k1
    by_cases hh : hasB ks.length q.agent = false
    · have HX := Lib.hid (right_no_has hh)
      by_cases e2 : q.kind = 2
      · have b2 : (q.kind == 2) = true := by simpa using e2
        clear e2 hk0 hk1
        rw [hh] at HG
        clear hh
        go_wp2_with fail
        refine (HG.out _).mono ?_
        rintro e w2 ⟨rfl, hb⟩
        have hB2 := hBq.next hb
        clear c_q z_q c_o z_o hb hBq HG
        have c_q := fun j => cell_of_row _ _ j _ _ _ (hB2.get 0 rfl)
        have z_q := hB2.lt 0 rfl
        have c_o := fun j => cell_of_row _ _ j _ _ _ (hB2.get 1 rfl)
        have z_o := hB2.lt 1 rfl
        have HZ := Lib.hid (HNO.out (HX.out))
        have HBw := Lib.hid hB2.below
        clear hB2
        go_wp2_with fail
        refine bodyPost_ret (v := .tuple #[.int .i64 (k : Int), .int .i64 0]) (by simp [results, Try.results52, go_sem]) rfl ?_
        exact ⟨by rw [HZ.out, HCO.out], HBw.out⟩
      · have b2 : (q.kind == 2) = false := by simpa using e2
        clear e2 hk0 hk1
        rw [hh] at HG
        clear hh
        go_wp2_with fail
        refine (HG.out _).mono ?_
        rintro e w2 ⟨rfl, hb⟩
        have hB2 := hBq.next hb
        clear c_q z_q c_o z_o hb hBq HG
        have c_q := fun j => cell_of_row _ _ j _ _ _ (hB2.get 0 rfl)
        have z_q := hB2.lt 0 rfl
        have c_o := fun j => cell_of_row _ _ j _ _ _ (hB2.get 1 rfl)
        have z_o := hB2.lt 1 rfl
        have HZ := Lib.hid (HNO.out (HX.out))
        have HBw := Lib.hid hB2.below
        clear hB2
        go_wp2_with fail
        refine bodyPost_ret (v := .tuple #[.int .i64 (k : Int), .int .i64 0]) (by simp [results, Try.results52, go_sem]) rfl ?_
        exact ⟨by rw [HZ.out, HCO.out], HBw.out⟩
    have hh : hasB ks.length q.agent = true := by simpa using hh
    have HT := Lib.hid hh
    rw [hh] at HG
    clear hh
    by_cases e : q.kind = 1
    · have b2 : (q.kind == 2) = false := by rw [e]; rfl
      have b3 : decide (q.kind < 1) = false := by rw [e]; rfl
      have b4 : decide (2 < q.kind) = false := by rw [e]; rfl
      obtain ⟨n, K, hgn, hK, hck⟩ := has_of HT.out
      have HCK := Lib.hid hck
      obtain ⟨r, hr⟩ : ∃ x, x = ansR K q.kind q.a q.b := ⟨_, rfl⟩
      obtain ⟨code2, hco2⟩ : ∃ x, x = ansC K q.kind q.a q.b := ⟨_, rfl⟩
      have HA := Lib.hid (fun (W : World) (hW : Below w.heap.size w W) => by have := ans_value.2 ks A c l (some ad) d n K hK q.a q.b HQ.out.a HQ.out.b W (HV.out W hW); rw [← e, ← hr, ← hco2, ← hgn] at this; exact this)
      have HR2 := Lib.hid hr
      have HCO2 := Lib.hid hco2
      have HE := Lib.hid e
      clear hr hco2 hgn hK hck e hk0 hk1
      go_wp2_with fail
      refine (HG.out _).mono ?_
      rintro e w2 ⟨rfl, hb⟩
      have hB2 := hBq.next hb
      clear c_q z_q c_o z_o hb hBq HG
      have c_q := fun j => cell_of_row _ _ j _ _ _ (hB2.get 0 rfl)
      have z_q := hB2.lt 0 rfl
      have c_o := fun j => cell_of_row _ _ j _ _ _ (hB2.get 1 rfl)
      have z_o := hB2.lt 1 rfl
      go_wp2_with fail
      refine (HA.out _ hB2.below).mono ?_
      rintro e w3 ⟨rfl, hb⟩
      have hB3 := hB2.next hb
      clear c_q z_q c_o z_o hb hB2 HA b2 b3 b4
      go_upto_region 14 with fail
      have hB4 := hB3.new rfl (rB r)
      clear hB3
      generalize w3.heap.size = gR at *
      generalize w3.alloc _ = w4 at *
      have c_r := fun j => cell_of_row _ _ j _ _ _ (hB4.get 0 rfl)
      have z_r := hB4.lt 0 rfl
      have c_q := fun j => cell_of_row _ _ j _ _ _ (hB4.get 1 rfl)
      have z_q := hB4.lt 1 rfl
      have c_o := fun j => cell_of_row _ _ j _ _ _ (hB4.get 2 rfl)
      have z_o := hB4.lt 2 rfl
      by_cases e0 : code2 = 0
      rotate_left
      · have b1 : (code2 != 0) = true := by simpa using e0
        have HX := Lib.hid (right_no_ans HCK.out (by rw [← HCO2.out]; exact e0))
        clear e0
        have HZ := Lib.hid (HNO.out (HX.out))
        have HBw := Lib.hid hB4.below
        clear hB4
        go_wp2_with fail
        refine bodyPost_ret (v := .tuple #[.int .i64 (k : Int), .int .i64 0]) (by simp [results, Try.results52, go_sem]) rfl ?_
        exact ⟨by rw [HZ.out, HCO.out], HBw.out⟩
      subst e0
      by_cases e1 : r = q.ans
      rotate_left
      · have b1 : decide (r = q.ans) = false := decide_eq_false e1
        have HX := Lib.hid (right_no_val HCK.out (by rw [← HR2.out]; exact e1))
        clear e1
        have HZ := Lib.hid (HNO.out (HX.out))
        have HBw := Lib.hid hB4.below
        clear hB4
        go_wp2_with fail
        refine bodyPost_ret (v := .tuple #[.int .i64 (k : Int), .int .i64 0]) (by simp [results, Try.results52, go_sem]) rfl ?_
        exact ⟨by rw [HZ.out, HCO.out], HBw.out⟩
      have b1 : decide (r = q.ans) = true := decide_eq_true e1
      have HX := Lib.hid (HN.out (right_yes HCK.out HT.out (Or.inl HE.out) HCO2.out.symm (by rw [← HR2.out]; exact e1)))
      have HB4 := Lib.hid hB4.drop.drop
      clear e1 hB4
      go_wp2_with fail
      exact ⟨⟨k + 1, HLE.out.1, by go_num, HX.out, HB4.out⟩, by simpa [intOf] using HLE.out.2⟩
    by_cases e2 : q.kind = 2
    · have e := e2
      clear e2
      have b2 : (q.kind == 2) = true := by rw [e]; rfl
      have b3 : decide (q.kind < 1) = false := by rw [e]; rfl
      have b4 : decide (2 < q.kind) = false := by rw [e]; rfl
      obtain ⟨n, K, hgn, hK, hck⟩ := has_of HT.out
      have HCK := Lib.hid hck
      obtain ⟨r, hr⟩ : ∃ x, x = ansR K q.kind q.a q.b := ⟨_, rfl⟩
      obtain ⟨code2, hco2⟩ : ∃ x, x = ansC K q.kind q.a q.b := ⟨_, rfl⟩
      have HA := Lib.hid (fun (W : World) (hW : Below w.heap.size w W) => by have := ans_mark.2 ks A c l (some ad) d n K hK q.a q.b HQ.out.a HQ.out.b W (HV.out W hW); rw [← e, ← hr, ← hco2, ← hgn] at this; exact this)
      have HR2 := Lib.hid hr
      have HCO2 := Lib.hid hco2
      have HE := Lib.hid e
      clear hr hco2 hgn hK hck e hk0 hk1
      go_wp2_with fail
      refine (HG.out _).mono ?_
      rintro e w2 ⟨rfl, hb⟩
      have hB2 := hBq.next hb
      clear c_q z_q c_o z_o hb hBq HG
      have c_q := fun j => cell_of_row _ _ j _ _ _ (hB2.get 0 rfl)
      have z_q := hB2.lt 0 rfl
      have c_o := fun j => cell_of_row _ _ j _ _ _ (hB2.get 1 rfl)
      have z_o := hB2.lt 1 rfl
      go_wp2_with fail
      refine (HA.out _ hB2.below).mono ?_
      rintro e w3 ⟨rfl, hb⟩
      have hB3 := hB2.next hb
      clear c_q z_q c_o z_o hb hB2 HA b2 b3 b4
      go_upto_region 14 with fail
      have hB4 := hB3.new rfl (rB r)
      clear hB3
      generalize w3.heap.size = gR at *
      generalize w3.alloc _ = w4 at *
      have c_r := fun j => cell_of_row _ _ j _ _ _ (hB4.get 0 rfl)
      have z_r := hB4.lt 0 rfl
      have c_q := fun j => cell_of_row _ _ j _ _ _ (hB4.get 1 rfl)
      have z_q := hB4.lt 1 rfl
      have c_o := fun j => cell_of_row _ _ j _ _ _ (hB4.get 2 rfl)
      have z_o := hB4.lt 2 rfl
      by_cases e0 : code2 = 0
      rotate_left
      · have b1 : (code2 != 0) = true := by simpa using e0
        have HX := Lib.hid (right_no_ans HCK.out (by rw [← HCO2.out]; exact e0))
        clear e0
        have HZ := Lib.hid (HNO.out (HX.out))
        have HBw := Lib.hid hB4.below
        clear hB4
        go_wp2_with fail
        refine bodyPost_ret (v := .tuple #[.int .i64 (k : Int), .int .i64 0]) (by simp [results, Try.results52, go_sem]) rfl ?_
        exact ⟨by rw [HZ.out, HCO.out], HBw.out⟩
      subst e0
      by_cases e1 : r = q.ans
      rotate_left
      · have b1 : decide (r = q.ans) = false := decide_eq_false e1
        have HX := Lib.hid (right_no_val HCK.out (by rw [← HR2.out]; exact e1))
        clear e1
        have HZ := Lib.hid (HNO.out (HX.out))
        have HBw := Lib.hid hB4.below
        clear hB4
        go_wp2_with fail
        refine bodyPost_ret (v := .tuple #[.int .i64 (k : Int), .int .i64 0]) (by simp [results, Try.results52, go_sem]) rfl ?_
        exact ⟨by rw [HZ.out, HCO.out], HBw.out⟩
      have b1 : decide (r = q.ans) = true := decide_eq_true e1
      have HX := Lib.hid (HN.out (right_yes HCK.out HT.out (Or.inr HE.out) HCO2.out.symm (by rw [← HR2.out]; exact e1)))
      have HB4 := Lib.hid hB4.drop.drop
      clear e1 hB4
      go_wp2_with fail
      exact ⟨⟨k + 1, HLE.out.1, by go_num, HX.out, HB4.out⟩, by simpa [intOf] using HLE.out.2⟩
    have HX := Lib.hid (right_no_kind (ks := ks) e e2)
    have b2 : (q.kind == 2) = false := by simpa using e2
    by_cases e3 : q.kind < 1
    · have b3 : decide (q.kind < 1) = true := decide_eq_true e3
      clear e e2 e3 hk0 hk1
      go_wp2_with fail
      refine (HG.out _).mono ?_
      rintro e w2 ⟨rfl, hb⟩
      have hB2 := hBq.next hb
      clear c_q z_q c_o z_o hb hBq HG
      have c_q := fun j => cell_of_row _ _ j _ _ _ (hB2.get 0 rfl)
      have z_q := hB2.lt 0 rfl
      have c_o := fun j => cell_of_row _ _ j _ _ _ (hB2.get 1 rfl)
      have z_o := hB2.lt 1 rfl
      have HZ := Lib.hid (HNO.out (HX.out))
      have HBw := Lib.hid hB2.below
      clear hB2
      go_wp2_with fail
      refine bodyPost_ret (v := .tuple #[.int .i64 (k : Int), .int .i64 0]) (by simp [results, Try.results52, go_sem]) rfl ?_
      exact ⟨by rw [HZ.out, HCO.out], HBw.out⟩
    have b3 : decide (q.kind < 1) = false := decide_eq_false e3
    have b4 : decide (2 < q.kind) = true := decide_eq_true (by omega)
    clear e e2 e3 hk0 hk1
    go_wp2_with fail
    refine (HG.out _).mono ?_
    rintro e w2 ⟨rfl, hb⟩
    have hB2 := hBq.next hb
    clear c_q z_q c_o z_o hb hBq HG
    have c_q := fun j => cell_of_row _ _ j _ _ _ (hB2.get 0 rfl)
    have z_q := hB2.lt 0 rfl
    have c_o := fun j => cell_of_row _ _ j _ _ _ (hB2.get 1 rfl)
    have z_o := hB2.lt 1 rfl
    have HZ := Lib.hid (HNO.out (HX.out))
    have HBw := Lib.hid hB2.below
    clear hB2
    go_wp2_with fail
    refine bodyPost_ret (v := .tuple #[.int .i64 (k : Int), .int .i64 0]) (by simp [results, Try.results52, go_sem]) rfl ?_
    exact ⟨by rw [HZ.out, HCO.out], HBw.out⟩
end Go.Proofs.Ytgcbmnohhbcfiaa
