/- Rows of ratios that are made, and Repeat. -/
import Derived.Test.YtpijllobpohpgaaMa5
import Derived.Test.YtpijllobpohpgaaRtC
import Derived.Laws.CopyRow
import Derived.Laws.CopyOwn
import Derived.Test.YtpijllobpohpgaaMa7
import Derived.Test.YtpijllobpohpgaaMkY
import Derived.Test.YtpijllobpohpgaaRfM
import Derived.Test.YtpijllobpohpgaaMa4
import Derived.Test.YtpijllobpohpgaaRtM
import Derived.Test.YtpijllobpohpgaaSortM
namespace Go.Proofs.Ytpijllobpohpgaa
open Go.RowKit Go.Deep
set_option linter.unusedVariables false
set_option linter.unusedSimpArgs false

theorem madeR : ∀ n, (madeCells #[Value.int .i64 0, .int .i64 0] (n * 2)).toList = ratV (List.replicate n ⟨0, 0⟩) := by
  intro n
  refine List.ext_getElem? fun j => ?_
  have e : (madeCells #[Value.int .i64 0, .int .i64 0] (n * 2)).toList[j]? = if j < n * 2 then some (.int .i64 0) else none := by
    by_cases h : j < n * 2
    · rw [if_pos h]
      have : j % 2 < 2 := Nat.mod_lt _ (by omega)
      rcases (show j % 2 = 0 ∨ j % 2 = 1 by omega) with q | q <;> simp [madeCells, h, q]
    · rw [if_neg h]; simp [madeCells]; omega
  rw [e]
  have hl : (ratV (List.replicate n (⟨0, 0⟩ : Rt))).length = n * 2 := by rw [ratV_len]; simp
  by_cases h : j < n * 2
  · rw [if_pos h]
    have hk : j / 2 < (List.replicate n (⟨0, 0⟩ : Rt)).length := by simp; omega
    have hg : gR (List.replicate n (⟨0, 0⟩ : Rt)) (j / 2) = ⟨0, 0⟩ := by rw [gR_get hk]; simp
    have a := ratV_at hk
    rw [hg] at a
    rcases (show j = j / 2 * 2 ∨ j = j / 2 * 2 + 1 by omega) with q | q
    · rw [q]; exact a.1.symm
    · rw [q]; exact a.2.symm
  · rw [if_neg h, List.getElem?_eq_none (by omega)]
theorem make_rats (n : Nat) (hn : n ≤ 1000) (w : World) : Sem.run Try.prog (Instr.makeSlice 27 (.int .i64 (n : Int)) (.int .i64 (n : Int))) w = .ok (.slice (some ⟨w.heap.size, 0, none⟩) n n) (w.alloc (.cells (madeCells #[.int .i64 0, .int .i64 0] (n * 2)) 36)) := by
  obtain ⟨iq, hiq, hq0, hq1, hq2⟩ := info_parts infoQ
  have hr := run_make (P := Try.prog) w 27 36 iq (.agg #[.int .i64 0, .int .i64 0]) Try.underlying27 hiq hq0 .i64 .i64 n n (by omega) (Int.le_refl _) (by rw [hq2]; omega) (by omega)
  simp only [Int.toNat_natCast, hq1] at hr
  exact hr
theorem ratV_app : ∀ (l m : List Rt), ratV (l ++ m) = ratV l ++ ratV m
  | [], m => rfl
  | x :: l, m => by rw [List.cons_append, ratV, ratV, ratV_app l m]; rfl
/-- The first k places hold r, the others nothing yet. -/
def rep (n k : Nat) (r : Rt) : List Rt := List.replicate k r ++ List.replicate (n - k) ⟨0, 0⟩
theorem rep_len {n k : Nat} {r : Rt} (h : k ≤ n) : (rep n k r).length = n := by simp [rep]; omega
theorem rep_zero (n : Nat) (r : Rt) : rep n 0 r = List.replicate n ⟨0, 0⟩ := by simp [rep]
theorem rep_all (n : Nat) (r : Rt) : rep n n r = List.replicate n r := by simp [rep]
theorem rats_len (m : Nat) (r : Rt) : (ratV (List.replicate m r)).length = m * 2 := by rw [ratV_len]; simp
theorem rep_copy {n k m : Nat} {r : Rt} (h : k + m ≤ n) : (ratV (rep n k r)).take (k * 2) ++ ratV (List.replicate m r) ++ (ratV (rep n k r)).drop (k * 2 + (ratV (List.replicate m r)).length) = ratV (rep n (k + m) r) := by
  have e : rep n k r = List.replicate k r ++ (List.replicate m ⟨0, 0⟩ ++ List.replicate (n - (k + m)) ⟨0, 0⟩) := by
    unfold rep; rw [List.replicate_append_replicate, show m + (n - (k + m)) = n - k by omega]
  have e2 : rep n (k + m) r = List.replicate k r ++ List.replicate m r ++ List.replicate (n - (k + m)) ⟨0, 0⟩ := by
    unfold rep; rw [List.replicate_append_replicate]
  rw [e, e2, ratV_app, ratV_app, ratV_app, ratV_app, List.take_left' (rats_len k r), rats_len, ← List.append_assoc (ratV (List.replicate k r)), List.drop_left' (by rw [List.length_append, rats_len, rats_len])]
theorem rep_src {n k m j : Nat} {r : Rt} {v : Value} (h : m ≤ k) (hj : (ratV (List.replicate m r))[j]? = some v) : (ratV (rep n k r))[j]? = some v := by
  have e : rep n k r = List.replicate m r ++ (List.replicate (k - m) r ++ List.replicate (n - k) ⟨0, 0⟩) := by
    unfold rep; rw [← List.append_assoc, List.replicate_append_replicate, show m + (k - m) = k by omega]
  have hl : j < (ratV (List.replicate m r)).length := (List.getElem?_eq_some_iff.1 hj).1
  rw [e, ratV_app, List.getElem?_append_left hl]; exact hj
theorem rats_one : ∀ (l : List Rt), ∀ v ∈ ratV l, v.oneCell' = true
  | [], v, h => by simp [ratV] at h
  | x :: l, v, h => by
    rw [ratV, List.mem_cons, List.mem_cons] at h
    rcases h with rfl | rfl | h
    · rfl
    · rfl
    · exact rats_one l v h
/-- Elements of two cells are copied into a row that is known whole. -/
theorem run_copy2 (w : World) (ty : TypeId) (g o dLen dCap : Nat) (a : Addr) (sLen sCap : Nat) (cur : Array Value) (cs : List Value) (m : Nat) (hm : m = Nat.min sLen dLen)
    (hg : w.heap[g]? = some (.cells cur 36 (0, 0))) (hn : cs.length = m * 2)
    (hsrc : ∀ j v, cs[j]? = some v → w.cell? (a.add j) = some v) (hfit : o + cs.length ≤ cur.size) (h1 : ∀ v ∈ cs, v.oneCell' = true) :
    (Builtin.copy_ #[27, 27] ty #[.slice (some ⟨g, o, none⟩) dLen dCap, .slice (some a) sLen sCap]).run Try.prog w =
      .ok (goInt m) (w.setRow g (cur.toList.take o ++ cs ++ cur.toList.drop (o + cs.length)).toArray) := by
  obtain ⟨iq, hiq, hq0, hq1, hq2⟩ := info_parts infoQ
  have hl := run_loadCells_list (P := Try.prog) w a cs hsrc
  have hst := run_storeCells_at Try.prog g o 36 cs 0 cur w hg (by simpa using hfit) h1
  have hu := run_underlying (P := Try.prog) Try.underlying27
  simp [Builtin.copy_, hu, Builtin.lenOf, Builtin.firstCells, sizeOf, typeInfo, hiq, hq1, ← hm, ← hn, hl, hst]
theorem copy_rep (W : World) (ty : TypeId) (g n k d : Nat) (r : Rt) (hk : k ≤ n) (hd : d = n - k) (hg : W.heap[g]? = some (.cells (ratV (rep n k r)).toArray 36 (0, 0))) :
    (Builtin.copy_ #[27, 27] ty #[.slice (some ⟨g, k * 2, none⟩) d d, .slice (some ⟨g, 0, none⟩) k n]).run Try.prog W =
      .ok (goInt (Nat.min k (n - k))) (W.setRow g (ratV (rep n (k + Nat.min k (n - k)) r)).toArray) := by
  subst hd
  have hm : Nat.min k (n - k) ≤ k ∧ k + Nat.min k (n - k) ≤ n := by
    have a : Nat.min k (n - k) ≤ k := Nat.min_le_left k (n - k)
    have b : Nat.min k (n - k) ≤ n - k := Nat.min_le_right k (n - k)
    exact ⟨a, by generalize Nat.min k (n - k) = m at *; omega⟩
  have e := run_copy2 W ty g (k * 2) (n - k) (n - k) ⟨g, 0, none⟩ k n (ratV (rep n k r)).toArray (ratV (List.replicate (Nat.min k (n - k)) r)) (Nat.min k (n - k)) rfl hg (rats_len _ _)
    (fun j v hj => by rw [add_mk, Nat.zero_add, cell_of_row _ _ _ _ _ _ hg, List.getElem?_toArray]; exact rep_src hm.1 hj)
    (by rw [rats_len, List.size_toArray, ratV_len, rep_len hk]; omega) (rats_one _)
  rw [show ((ratV (rep n k r)).toArray).toList = ratV (rep n k r) from rfl, rep_copy hm.2] at e
  exact e
theorem Mx.setRowQ {w W : World} {L : List (Nat × Obj)} {R : List Rw} {g n : Nat} {l l' : List Rt} (h : Mx w L R W) (i : Nat) (hi : R[i]? = some ⟨.slice (some ⟨g, 0, none⟩) n n, 36, 2, n, ratV l⟩) (hl' : l'.length = n) :
    Mx w L (R.set i ⟨.slice (some ⟨g, 0, none⟩) n n, 36, 2, n, ratV l'⟩) (W.setRow g (ratV l').toArray) := by
  have ho := h.row i hi
  have rm := h.room i hi
  rcases ho.2 with ⟨e, _⟩ | ⟨g', cap, cur, e, hb, hg, hrest⟩
  · simp at e
  · obtain ⟨e1, _, e2⟩ := Value.slice.inj e
    obtain rfl : g = g' := by simpa using e1
    refine h.grow i hi ⟨rfl, rfl, rfl, by simp [World.setRow], fun k hk hne => setRow_other W g k _ (fun q => hne (by rw [q]; rfl))⟩ ⟨by rw [ratV_len, hl'], Or.inr ⟨g, n, (ratV l').toArray, rfl, hb, setRow_heap W g _ _ _ _ hg, Nat.le_refl _, rm.2, by rw [List.size_toArray, ratV_len, hl'], ?_⟩⟩ (Or.inl rfl)
    rw [show ((ratV l').toArray).toList = ratV l' from rfl, List.take_of_length_le (by rw [ratV_len, hl']; exact Nat.le_refl _)]
theorem Mx.blockQ {w W : World} {L : List (Nat × Obj)} {R : List Rw} {g n : Nat} {l : List Rt} (h : Mx w L R W) (i : Nat) (hi : R[i]? = some ⟨.slice (some ⟨g, 0, none⟩) n n, 36, 2, n, ratV l⟩) : W.heap[g]? = some (.cells (ratV l).toArray 36 (0, 0)) ∧ w.heap.size ≤ g ∧ g < W.heap.size := by
  have ho := h.row i hi
  rcases ho.2 with ⟨e, _⟩ | ⟨g', cap, cur, e, hb, hg, h1, h2, h3, h4⟩
  · simp at e
  · obtain ⟨e1, _, e2⟩ := Value.slice.inj e
    obtain rfl : g = g' := by simpa using e1
    obtain rfl : n = cap := e2
    rw [List.take_of_length_le (by rw [Array.length_toList, h3]; exact Nat.le_refl _)] at h4
    have h5 : (ratV l).toArray = cur := by rw [← show cur.toList = ratV l from h4, Array.toArray_toList]
    exact ⟨by rw [h5]; exact hg, hb, lt_some hg⟩
set_option maxRecDepth 100000 in
set_option maxHeartbeats 8000000 in
theorem repeat_any (r : Rt) (A : Option Addr) (c n : Nat) (w : World) (hQ : QIn w.heap.size w A c [r]) (hn0 : 0 < n) (hn : n ≤ 10) :
    Calls Try.prog 63 #[.slice A 1 c, .int .i64 n] w fun e w' => ∃ g, e = .returned (.slice (some ⟨g, 0, none⟩) n n) ∧ Mx w [] [⟨.slice (some ⟨g, 0, none⟩) n n, 36, 2, n, ratV (List.replicate n r)⟩] w' := by
  obtain ⟨ad, rfl, hB, hR⟩ := hQ.cells (by simp)
  have s0 := hR.num 0 (by simp)
  have s1 := hR.den 0 (by simp)
  have hW := hQ.wf 0 (by simp)
  rw [show gR [r] 0 = r from rfl] at s0 s1 hW
  have HM := Lib.hid (show ∀ W, Calls Try.prog 86 #[.int .u64 1, .int .u64 (n : Int)] W fun e w' => e = .returned (.tuple #[.int .u64 0, .int .u64 (n : Int)]) ∧ w' = W from fun W => by
    refine (Try.bits_Mul 1 n (by omega) (by omega) W).mono fun e w' ⟨he, hw⟩ => ⟨?_, hw⟩
    rw [he, Nat.one_mul, Nat.div_eq_of_lt (by omega), Nat.mod_eq_of_lt (by omega)]; rfl)
  have HC0 := Lib.hid (show ∀ (W : World) (ty : TypeId) (g : Nat), W.heap[g]? = some (.cells (ratV (List.replicate n ⟨0, 0⟩)).toArray 36 (0, 0)) → Below w.heap.size w W → (Builtin.copy_ #[27, 27] ty #[.slice (some ⟨g, 0, none⟩) n n, .slice (some ad) 1 c]).run Try.prog W = .ok (goInt 1) (W.setRow g (ratV (rep n 1 r)).toArray) from fun W ty g hg hb => by
    have e := run_copy2 W ty g 0 n n ad 1 c _ (ratV (List.replicate 1 r)) 1 (Nat.min_eq_left hn0).symm hg (rats_len _ _)
      (fun j v hj => by
        have hs0 := (hb.cell (p := ad.add (0 * 2)) (by rw [block_add]; exact hB)).trans s0
        have hs1 := (hb.cell (p := ad.add (0 * 2 + 1)) (by rw [block_add]; exact hB)).trans s1
        match j, hj with
        | 0, hj => have : Value.int .i64 r.n = v := by simpa [ratV] using hj
                   rw [← this]; exact hs0
        | 1, hj => have : Value.int .i64 r.d = v := by simpa [ratV] using hj
                   rw [← this]; exact hs1
        | j + 2, hj => simp [ratV] at hj)
      (by rw [rats_len, List.size_toArray, rats_len]; omega) (rats_one _)
    have q := rep_copy (n := n) (k := 0) (m := 1) (r := r) (by omega)
    simp only [rep_zero, Nat.zero_mul, List.take_zero, Nat.zero_add] at q
    rw [show ((ratV (List.replicate n (⟨0, 0⟩ : Rt))).toArray).toList = ratV (List.replicate n ⟨0, 0⟩) from rfl, List.take_zero, Nat.zero_add, q] at e
    exact e)
  have hmk := make_rats n (by omega)
  have HN := Lib.hid (And.intro hn0 hn)
  have q0 : decide ((n : Int) < 0) = false := decide_eq_false (by omega)
  have u1 : IntKind.u64.wrap (n : Int) = (n : Int) := by unfold IntKind.wrap; simp [IntKind.bits, IntKind.signed]; omega
  have u2 : IntKind.i64.wrap (n : Int) = (n : Int) := IntWalk.i64_in _ (by omega)
  have u3 : wrap64 (n : Int) = (n : Int) := IntWalk.wrap64_in _ (by omega)
  have q1 : decide ((9223372036854775807 : Int) < (n : Int)) = false := decide_eq_false (by omega)
  have q2 : decide ((0 : Int) < 0) = false := rfl
  clear hQ s0 s1 hW hR hn0 hn
  go_enter Try.func63, Try.ntmps63
  try dsimp only [List.append]
  go_wp2_with fail
  refine (HM.out _).mono ?_
  rintro e w1 ⟨rfl, rfl⟩
  go_upto_region 7 with fail
  have hM0 := (Mx.of_bx (Bx.start w1)).lit (madeCells #[.int .i64 0, .int .i64 0] (n * 2)) 36 2 n (by have := HN.out; unfold maxLen; omega) (by simp [madeCells])
  rw [madeR] at hM0
  have hcp := fun ty => HC0.out _ ty _ (hM0.blockQ 0 rfl).1 hM0.below
  have hM1 := hM0.setRowQ 0 rfl (rep_len (n := n) (k := 1) (r := r) (by have := HN.out; omega))
  clear hM0 HC0 hB HM
  go_upto_region 8 with fail
  clear hcp q0 q1 q2 u1 hmk
  generalize w1.heap.size = g at *
  generalize World.setRow _ _ _ = w3 at *
  go_wp2_with fail
  have HM1 := Lib.hid hM1
  clear hM1 u2 u3
  go_loopw [8] (fun s wr => ∃ k : Nat, 1 ≤ k ∧ k ≤ n ∧ s = .int .i64 k ∧ Mx w1 [] [⟨.slice (some ⟨g, 0, none⟩) n n, 36, 2, n, ratV (rep n k r)⟩] wr) (fun s _ => n - (intOf s).toNat)
  case atStart => exact ⟨1, Nat.le_refl _, HN.out.1, rfl, HM1.out⟩
  case round =>
    as_aux_lemma =>
    obtain ⟨k, hk1, hk, rfl, hMr⟩ := hrel
    clear HM1
    by_cases hlt : k < n
    rotate_left
    · obtain rfl : k = n := by omega
      rw [rep_all] at hMr
      have HE := Lib.hid hMr
      clear hMr hlt hk hk1
      go_wp2_with fail
      go_ret
      exact ⟨g, rfl, HE.out⟩
    have HMN := Lib.hid (show k < k + Nat.min k (n - k) ∧ k + Nat.min k (n - k) ≤ n by
      have a : Nat.min k (n - k) = if k ≤ n - k then k else n - k := Nat.min_def
      rw [a]; split <;> omega)
    have HKK := Lib.hid (And.intro hk (And.intro hk1 hlt))
    have y1 : (k : Int) ≤ (n : Int) := by omega
    have y2 : (0 : Int) ≤ (k : Int) := by omega
    have y3 : (k : Int) < (n : Int) := by omega
    have y4 : ((n : Int) - (k : Int)).toNat = n - k := by omega
    have y5 : decide ((k : Int) < (n : Int)) = true := decide_eq_true y3
    have y6 : decide (k < n) = true := decide_eq_true hlt
    clear hk1 hlt
    have HY := Lib.hid (show IntKind.i64.wrap ((k : Int) + ((Nat.min k (n - k) : Nat) : Int)) = ((k + Nat.min k (n - k) : Nat) : Int) ∧ wrap64 ((k : Int) + ((Nat.min k (n - k) : Nat) : Int)) = ((k + Nat.min k (n - k) : Nat) : Int) by
      have a := HMN.out; have b := HN.out
      generalize Nat.min k (n - k) = mm at *
      exact ⟨(IntWalk.i64_in _ (by omega)).trans (by omega), (IntWalk.wrap64_in _ (by omega)).trans (by omega)⟩)
    go_wp2_with fail
    refine wp_region_R (Bx w1 []) 10 (by kernel_rfl) (by rfl) ((hMr.keep (List.nil_sublist _)).drew) (fun wq1 hbq => ?_)
    have hB21 := hMr.next hbq
    clear hMr hbq
    refine wpAnyE_goR (Bx.grows _ _) (hB21.keep (List.nil_sublist _)) [0, 1, 2, 3, 4, 5, 6] 3 (by kernel_rfl) ?_
    apply Exists.intro
    refine ⟨fun G hG hN => ?_, ?_⟩
    · have e1 := HY.out.1
      have e2 := HY.out.2
      simp only [pickOps, List.getElem?_toArray, List.getElem?_cons_zero, List.getElem?_cons_succ]
      repeat (first | go_big_quiet_step (fail) | quiet_step (fail))
      exact wpQuiet_nil rfl
    refine wpAnyE_all (rs := [7]) (by kernel_rfl) (by simp) (fun wa2 hwa2 hRwa2 i hi => ?_)
    have hB22 := hB21.next hwa2
    clear hB21 hwa2 hRwa2
    obtain rfl := List.mem_singleton.1 hi
    refine wpOp_step rfl (fun Kc hKc => ?_)
    have hcp := fun ty => copy_rep wa2 ty g n k (n - k) r hk rfl (hB22.blockQ 0 rfl).1
    go_simp
    have hB23 := hB22.setRowQ 0 rfl (rep_len (n := n) (k := k + Nat.min k (n - k)) (r := r) HMN.out.2)
    refine hKc _ _ ⟨(hB23.keep (List.nil_sublist _)), ?_⟩
    clear hKc Kc hcp hB22
    generalize World.setRow _ _ _ = whB23 at *
    refine wpAnyE_goR (Bx.grows _ _) (hB23.keep (List.nil_sublist _)) [8, 9] 0 (by kernel_rfl) ?_
    apply Exists.intro
    refine ⟨fun G hG hN => ?_, ?_⟩
    · have e1 := HY.out.1
      have e2 := HY.out.2
      simp only [pickOps, List.getElem?_toArray, List.getElem?_cons_zero, List.getElem?_cons_succ]
      repeat (first | go_big_quiet_step (fail) | quiet_step (fail))
      exact wpQuiet_nil rfl
    refine wpAnyE_done (by kernel_rfl) (fun wd3 hwd3 hRwd3 => ?_) _
    refine NoPanic.normal ?_
    have hB24 := hB23.next hwd3
    clear hB23 hwd3 hRwd3
    have HZ := Lib.hid hB24
    clear hB24
    have e1 := HY.out.1
    have e2 := HY.out.2
    go_wp2_with fail
    exact ⟨⟨k + Nat.min k (n - k), by have := HMN.out; omega, HMN.out.2, by go_num, HZ.out⟩, by have := HMN.out; simp [intOf]; omega⟩
end Go.Proofs.Ytpijllobpohpgaa

namespace Go.Proofs.Ytpijllobpohpgaa
open Go.RowKit Go.Deep
set_option linter.unusedVariables false
set_option linter.unusedSimpArgs false

theorem sA_bd {A : Nat → Int} {t i : Nat} (h : 0 ≤ A i ∧ A i ≤ 1000) : 0 ≤ sA A t i ∧ sA A t i ≤ 1000 := by unfold sA; split <;> omega
theorem sB_bd {A : Nat → Int} {t i : Nat} (h : 0 ≤ A i ∧ A i ≤ 1000) : 0 ≤ sB A t i ∧ sB A t i ≤ 1000 := by unfold sB; split <;> omega
theorem prodI {x y : Int} (hx : 0 ≤ x ∧ x ≤ 1000) (hy : 0 ≤ y ∧ y ≤ 1000) : 0 ≤ x * y ∧ x * y ≤ 1000000 := by
  have := prod_le (p := 1000) (q := 1000) hx.1 hx.2 hy.1 hy.2; omega
/-- What two agents give to the goods, as it is read. -/
structure Vals (w : World) (ad : Addr) (R0 : Option Addr) (c0 : Nat) (R1 : Option Addr) (c1 : Nat) (bs : List (List Int)) (x y : Addr) : Prop where
  two : Two w.heap.size w ad R0 c0 R1 c1 bs
  e0 : R0 = some x
  e1 : R1 = some y
  r0 : ∀ g, g < (gr bs 0).length → w.cell? (x.add g) = some (.int .i64 (gi (gr bs 0) g)) ∧ (x.add g).block < w.heap.size
  r1 : ∀ g, g < (gr bs 1).length → w.cell? (y.add g) = some (.int .i64 (gi (gr bs 1) g)) ∧ (y.add g).block < w.heap.size
theorem Two.vals {w : World} {ad : Addr} {R0 : Option Addr} {c0 : Nat} {R1 : Option Addr} {c1 : Nat} {bs : List (List Int)} (h : Two w.heap.size w ad R0 c0 R1 c1 bs) (h0 : 0 < (gr bs 0).length) (h1 : 0 < (gr bs 1).length) : ∃ x y, Vals w ad R0 c0 R1 c1 bs x y := by
  obtain ⟨x, rfl, bx, cx⟩ := h.i0 h0
  obtain ⟨y, rfl, b_y, cy⟩ := h.i1 h1
  exact ⟨x, y, h, rfl, rfl, fun g hg => ⟨cx g hg, by rw [block_add]; exact bx⟩, fun g hg => ⟨cy g hg, by rw [block_add]; exact b_y⟩⟩
theorem Vals.next {w W : World} {ad : Addr} {R0 : Option Addr} {c0 : Nat} {R1 : Option Addr} {c1 : Nat} {bs : List (List Int)} {x y : Addr} (h : Vals w ad R0 c0 R1 c1 bs x y) (hb : Below w.heap.size w W) : Vals W ad R0 c0 R1 c1 bs x y :=
  ⟨h.two.next hb, h.e0, h.e1, fun g hg => ⟨(hb.cell (h.r0 g hg).2).trans (h.r0 g hg).1, Nat.lt_of_lt_of_le (h.r0 g hg).2 hb.size⟩, fun g hg => ⟨(hb.cell (h.r1 g hg).2).trans (h.r1 g hg).1, Nat.lt_of_lt_of_le (h.r1 g hg).2 hb.size⟩⟩
theorem GIn.vals {w : World} {A : Option Addr} {c : Nat} {bs : List (List Int)} (h : GIn w.heap.size w A c bs) (hok : mkCode bs = 0) : ∃ ad R0 c0 R1 c1 x y, A = some ad ∧ Vals w ad R0 c0 R1 c1 bs x y := by
  obtain ⟨h2, m⟩ := mk_ok hok
  obtain ⟨ad, R0, c0, R1, c1, e, t⟩ := h.two h2
  obtain ⟨x, y, v⟩ := t.vals m.n0 (by rw [m.lb]; exact m.n0)
  exact ⟨ad, R0, c0, R1, c1, x, y, e, v⟩
set_option maxRecDepth 100000 in
set_option maxHeartbeats 16000000 in
theorem ahead_any (bs : List (List Int)) (A : Option Addr) (c : Nat) (g h : Nat) (w : World) (hG : GIn w.heap.size w A c bs) (hok : mkCode bs = 0) (hg : g < (gr bs 0).length) (hh : h < (gr bs 0).length) :
    Calls Try.prog 98 #[gV A c bs, .int .i64 g, .int .i64 h] w fun e w' => e = .returned (.bool (ahB (gr bs 0) (gr bs 1) g h)) ∧ Below w.heap.size w w' := by
  obtain ⟨ad, R0, c0, R1, c1, x, y, rfl, hvl⟩ := hG.vals hok
  obtain ⟨h2, m⟩ := mk_ok hok
  have HVL := Lib.hid hvl
  obtain rfl := hvl.e0
  obtain rfl := hvl.e1
  have HL := Lib.hid m.lb
  have hB0 : Bx w [(w.heap.size, gB (some ad) c bs)] (w.alloc (gB (some ad) c bs)) := (Bx.start w).new rfl _
  have p1 := prodI (m.a0 g hg) (m.b0 h hh)
  have p2 := prodI (m.a0 h hh) (m.b0 g hg)
  have HAB := Lib.hid (show ahB (gr bs 0) (gr bs 1) g h = (decide (gi (gr bs 0) h * gi (gr bs 1) g < gi (gr bs 0) g * gi (gr bs 1) h) || (decide (gi (gr bs 0) g * gi (gr bs 1) h = gi (gr bs 0) h * gi (gr bs 1) g) && decide (g < h))) from rfl)
  have HGH := Lib.hid (And.intro hg hh)
  have q20 : (0 : Int) < (bs.length : Int) := by omega
  have q21 : (1 : Int) < (bs.length : Int) := by omega
  have z0 : (g : Int) < ((gr bs 0).length : Int) := by omega
  have z1 : (h : Int) < ((gr bs 0).length : Int) := by omega
  have z2 : (g : Int) < ((gr bs 1).length : Int) := by have := HL.out; omega
  have z3 : (h : Int) < ((gr bs 1).length : Int) := by have := HL.out; omega
  have z4 : (0 : Int) ≤ (g : Int) := by omega
  have z5 : (0 : Int) ≤ (h : Int) := by omega
  have HP := Lib.hid (And.intro p1 p2)
  clear hG hok hvl h2 m hg hh p1 p2
  generalize hag : gi (gr bs 0) g = ag at *
  generalize hah : gi (gr bs 0) h = ah at *
  generalize hbg : gi (gr bs 1) g = bg at *
  generalize hbh : gi (gr bs 1) h = bh at *
  have y1 : IntKind.i64.wrap (ag * bh) = ag * bh := IntWalk.i64_in _ (by have := HP.out; omega)
  have y1' : wrap64 (ag * bh) = ag * bh := IntWalk.wrap64_in _ (by have := HP.out; omega)
  have y2 : IntKind.i64.wrap (ah * bg) = ah * bg := IntWalk.i64_in _ (by have := HP.out; omega)
  have y2' : wrap64 (ah * bg) = ah * bg := IntWalk.wrap64_in _ (by have := HP.out; omega)
  go_enter Try.func98, Try.ntmps98
  try dsimp only [List.append]
  go_upto_region 1 with fail
  generalize w.alloc (gB (some ad) c bs) = w0 at *
  have c_G := fun j => cell_of_row _ _ j _ _ _ (hB0.get 0 rfl)
  have z_G := hB0.lt 0 rfl
  have hv := HVL.out.next hB0.below
  have t0 := hv.two.r0
  have t1 := hv.two.r1
  have tb := hv.two.bl
  have u0 := (hv.r0 g HGH.out.1).1
  have ub0 := (hv.r0 g HGH.out.1).2
  have u1 := (hv.r0 h HGH.out.2).1
  have ub1 := (hv.r0 h HGH.out.2).2
  have v0 := (hv.r1 g (by rw [HL.out]; exact HGH.out.1)).1
  have vb0 := (hv.r1 g (by rw [HL.out]; exact HGH.out.1)).2
  have v1 := (hv.r1 h (by rw [HL.out]; exact HGH.out.2)).1
  have vb1 := (hv.r1 h (by rw [HL.out]; exact HGH.out.2)).2
  clear hv
  rw [hag] at u0
  rw [hah] at u1
  rw [hbg] at v0
  rw [hbh] at v1
  clear hag hah hbg hbh
  refine wp_region_ext (by kernel_rfl) (by kernel_rfl) ?_
  repeat (first | go_big_quiet_step (fail) | quiet_step (fail))
  refine wpQuiet_nil ?_
  rintro w2 ⟨⟨_, hb⟩, rfl⟩
  have HE := Lib.hid (hB0.next hb).below
  clear c_G z_G hb hB0 y1 y1' y2 y2' t0 t1 tb u0 u1 ub0 ub1 v0 v1 vb0 vb1
  generalize ag * bh = X at *
  generalize ah * bg = Y at *
  by_cases c1 : Y < X
  · have q1 : decide (Y < X) = true := decide_eq_true c1
    have HR := Lib.hid (show ahB (gr bs 0) (gr bs 1) g h = true by rw [HAB.out, q1]; rfl)
    clear c1
    go_wp2_with fail
    go_ret
    exact ⟨ret_bool HR.out.symm, HE.out⟩
  have q1 : decide (Y < X) = false := decide_eq_false c1
  by_cases c2 : X = Y
  rotate_left
  · have q2 : (X == Y) = false := beqF c2
    have HR := Lib.hid (show ahB (gr bs 0) (gr bs 1) g h = false by rw [HAB.out, q1, decide_eq_false c2]; rfl)
    clear c1 c2
    go_wp2_with fail
    go_ret
    exact ⟨ret_bool HR.out.symm, HE.out⟩
  have q2 : (X == Y) = true := beqT c2
  have HR := Lib.hid (show ahB (gr bs 0) (gr bs 1) g h = decide (g < h) by rw [HAB.out, q1, decide_eq_true c2]; simp)
  clear c1 c2
  go_wp2_with fail
  go_ret
  exact ⟨ret_bool (by rw [HR.out]), HE.out⟩
set_option maxRecDepth 100000 in
set_option maxHeartbeats 16000000 in
theorem sums_any (bs : List (List Int)) (A : Option Addr) (c : Nat) (O : Option Addr) (oc t f : Nat) (w : World) (hG : GIn w.heap.size w A c bs) (hok : mkCode bs = 0) (hO : Ints w.heap.size w O (mordI (gr bs 0) (gr bs 1) (gr bs 0).length)) (ht : t ≤ (gr bs 0).length) (hf : f ≤ (gr bs 0).length) :
    Calls Try.prog 80 #[gV A c bs, .slice O (gr bs 0).length oc, .int .i64 t, .int .i64 f] w fun e w' => e = .returned (.tuple #[.int .i64 (mM (mA (gr bs 0) (gr bs 1) (gr bs 0).length) t), .int .i64 (mY (mB (gr bs 0) (gr bs 1) (gr bs 0).length) (gr bs 0).length f)]) ∧ Below w.heap.size w w' := by
  obtain ⟨ad, R0, c0, R1, c1, x, y, rfl, hvl⟩ := hG.vals hok
  obtain ⟨h2, m⟩ := mk_ok hok
  have HVL := Lib.hid hvl
  obtain rfl := hvl.e0
  obtain rfl := hvl.e1
  have HL := Lib.hid m.lb
  have HMO := Lib.hid m
  have HOI := Lib.hid hO
  have hB0 : Bx w [(w.heap.size, gB (some ad) c bs)] (w.alloc (gB (some ad) c bs)) := (Bx.start w).new rfl _
  have q20 : (0 : Int) < (bs.length : Int) := by omega
  have q21 : (1 : Int) < (bs.length : Int) := by omega
  have HS := Lib.hid (And.intro (sum_M (a := gr bs 0) (b := gr bs 1) ht) (sum_Y (a := gr bs 0) (b := gr bs 1) hf))
  have HN := Lib.hid (show (gr bs 0).length ≤ 10 ∧ t ≤ 10 ∧ f ≤ 10 by have := m.n10; omega)
  have HAB := Lib.hid (fun (k : Nat) (hk : k < (gr bs 0).length) => And.intro (m.a0 _ (mo_lt (a := gr bs 0) (b := gr bs 1) hk)) (m.b0 _ (mo_lt (a := gr bs 0) (b := gr bs 1) hk)))
  clear hG hok hvl h2 m hO ht hf
  go_enter Try.func80, Try.ntmps80
  try dsimp only [List.append]
  go_upto_region 1 with fail
  generalize w.alloc (gB (some ad) c bs) = w0 at *
  go_wp2_with fail
  have HB1 := Lib.hid hB0
  clear hB0
  go_loopw [10, 11, 12] (fun a b s wr => ∃ k : Nat, k ≤ (gr bs 0).length ∧ s = .int .i64 k ∧ a = .int .i64 (sumTo (sA (mA (gr bs 0) (gr bs 1) (gr bs 0).length) t) k) ∧ b = .int .i64 (sumTo (sB (mB (gr bs 0) (gr bs 1) (gr bs 0).length) f) k) ∧ Bx w [(w.heap.size, gB (some ad) c bs)] wr) (fun _ _ s _ => (gr bs 0).length - (intOf s).toNat)
  case atStart => exact ⟨0, Nat.zero_le _, rfl, rfl, rfl, HB1.out⟩
  case round =>
    as_aux_lemma =>
    obtain ⟨k, hk, rfl, rfl, rfl, hBr⟩ := hrel
    clear HB1
    by_cases hlt : k < (gr bs 0).length
    rotate_left
    · obtain rfl : k = (gr bs 0).length := by omega
      rw [HS.out.1, HS.out.2]
      have HE := Lib.hid hBr.below
      clear hBr hlt hk
      obtain ⟨va, hva⟩ : ∃ x, x = mM (mA (gr bs 0) (gr bs 1) (gr bs 0).length) t := ⟨_, rfl⟩
      obtain ⟨vb, hvb⟩ : ∃ x, x = mY (mB (gr bs 0) (gr bs 1) (gr bs 0).length) (gr bs 0).length f := ⟨_, rfl⟩
      have HVA := Lib.hid hva
      have HVB := Lib.hid hvb
      rw [← hva, ← hvb]
      clear hva hvb
      go_wp2_with fail
      go_ret2
      exact ⟨ret_two (vint HVA.out) (vint HVB.out), HE.out⟩
    obtain ⟨od, eod, ob, oc_⟩ := HOI.out.at_ (show k < (mordI (gr bs 0) (gr bs 1) (gr bs 0).length).length by rw [mordI_len]; exact hlt)
    subst eod
    rw [mordI_at hlt] at oc_
    have HOC := Lib.hid (fun (W : World) (hW : Below w.heap.size w W) => show W.cell? (od.add k) = some (.int .i64 (mo (gr bs 0) (gr bs 1) (gr bs 0).length k : Int)) ∧ (od.add k).block < W.heap.size from ⟨(hW.cell (by rw [block_add]; exact ob)).trans oc_, by rw [block_add]; exact Nat.lt_of_lt_of_le ob hW.size⟩)
    have HMK := Lib.hid (show mo (gr bs 0) (gr bs 1) (gr bs 0).length k < (gr bs 0).length ∧ mo (gr bs 0) (gr bs 1) (gr bs 0).length k < (gr bs 1).length by have := mo_lt (a := gr bs 0) (b := gr bs 1) hlt; rw [HL.out]; exact ⟨this, this⟩)
    have HAK := Lib.hid (HAB.out k hlt)
    have HSA := Lib.hid (show (sumTo (sA (mA (gr bs 0) (gr bs 1) (gr bs 0).length) t) (k + 1) = sumTo (sA (mA (gr bs 0) (gr bs 1) (gr bs 0).length) t) k + (if k < t then gi (gr bs 0) (mo (gr bs 0) (gr bs 1) (gr bs 0).length k) else 0)) ∧ (sumTo (sB (mB (gr bs 0) (gr bs 1) (gr bs 0).length) f) (k + 1) = sumTo (sB (mB (gr bs 0) (gr bs 1) (gr bs 0).length) f) k + (if f ≤ k then gi (gr bs 1) (mo (gr bs 0) (gr bs 1) (gr bs 0).length k) else 0)) from ⟨rfl, rfl⟩)
    have HSD := Lib.hid (show (0 ≤ sumTo (sA (mA (gr bs 0) (gr bs 1) (gr bs 0).length) t) k ∧ sumTo (sA (mA (gr bs 0) (gr bs 1) (gr bs 0).length) t) k ≤ 10000) ∧ (0 ≤ sumTo (sB (mB (gr bs 0) (gr bs 1) (gr bs 0).length) f) k ∧ sumTo (sB (mB (gr bs 0) (gr bs 1) (gr bs 0).length) f) k ≤ 10000) by
      have a := sumTo_bd (f := sA (mA (gr bs 0) (gr bs 1) (gr bs 0).length) t) (lo := 0) (hi := 1000) (k := k) (fun i hi => sA_bd (HAB.out i (by omega)).1)
      have b := sumTo_bd (f := sB (mB (gr bs 0) (gr bs 1) (gr bs 0).length) f) (lo := 0) (hi := 1000) (k := k) (fun i hi => sB_bd (HAB.out i (by omega)).2)
      have := HN.out
      omega)
    have HME := Lib.hid (And.intro (Nat.succ_le_of_lt hlt) (Nat.sub_lt_sub_left hlt (Nat.lt_succ_self k)))
    have z1 : (k : Int) < ((gr bs 0).length : Int) := by omega
    have z3 : (0 : Int) ≤ (k : Int) := by omega
    have z6 : (mo (gr bs 0) (gr bs 1) (gr bs 0).length k : Int) < ((gr bs 0).length : Int) := by have := HMK.out; omega
    have z7 : (mo (gr bs 0) (gr bs 1) (gr bs 0).length k : Int) < ((gr bs 1).length : Int) := by have := HMK.out; omega
    have z8 : (0 : Int) ≤ (mo (gr bs 0) (gr bs 1) (gr bs 0).length k : Int) := by omega
    have HY1 := Lib.hid (show IntKind.i64.wrap ((k : Int) + 1) = (k : Int) + 1 ∧ wrap64 ((k : Int) + 1) = (k : Int) + 1 from ⟨IntWalk.i64_in _ (by have := HN.out; omega), IntWalk.wrap64_in _ (by have := HN.out; omega)⟩)
    have HKT := Lib.hid (fun (h : k < t) => And.intro (decide_eq_true (show (k : Int) < (t : Int) by omega)) (decide_eq_true h))
    have HKT' := Lib.hid (fun (h : ¬ k < t) => And.intro (decide_eq_false (show ¬ (k : Int) < (t : Int) by omega)) (decide_eq_false h))
    have HKF := Lib.hid (fun (h : f ≤ k) => And.intro (decide_eq_true (show (f : Int) ≤ (k : Int) by omega)) (decide_eq_true h))
    have HKF' := Lib.hid (fun (h : ¬ f ≤ k) => And.intro (decide_eq_false (show ¬ (f : Int) ≤ (k : Int) by omega)) (decide_eq_false h))
    clear ob oc_ hk hlt
    generalize sumTo (sA (mA (gr bs 0) (gr bs 1) (gr bs 0).length) t) k = sa at *
    generalize sumTo (sB (mB (gr bs 0) (gr bs 1) (gr bs 0).length) f) k = sb at *
    generalize hmo : mo (gr bs 0) (gr bs 1) (gr bs 0).length k = mk at *
    have HYA := Lib.hid (show IntKind.i64.wrap (sa + gi (gr bs 0) mk) = sa + gi (gr bs 0) mk ∧ wrap64 (sa + gi (gr bs 0) mk) = sa + gi (gr bs 0) mk from ⟨IntWalk.i64_in _ (by have := HSD.out; have h := HAK.out; omega), IntWalk.wrap64_in _ (by have := HSD.out; have h := HAK.out; omega)⟩)
    have HYB := Lib.hid (show IntKind.i64.wrap (sb + gi (gr bs 1) mk) = sb + gi (gr bs 1) mk ∧ wrap64 (sb + gi (gr bs 1) mk) = sb + gi (gr bs 1) mk from ⟨IntWalk.i64_in _ (by have := HSD.out; have h := HAK.out; omega), IntWalk.wrap64_in _ (by have := HSD.out; have h := HAK.out; omega)⟩)
    clear hmo HAK
    by_cases ht : k < t
    · have k1 := (HKT.out ht).1
      have k2 := (HKT.out ht).2
      have HSA2 := Lib.hid (show sumTo (sA (mA (gr bs 0) (gr bs 1) (gr bs 0).length) t) (k + 1) = sa + gi (gr bs 0) mk by rw [HSA.out.1, if_pos ht])
      clear ht
      have c_G := fun j => cell_of_row _ _ j _ _ _ (hBr.get 0 rfl)
      have z_G := hBr.lt 0 rfl
      have hv := HVL.out.next hBr.below
      have t0 := hv.two.r0
      have t1 := hv.two.r1
      have tb := hv.two.bl
      have u0 := (hv.r0 mk HMK.out.1).1
      have ub0 := (hv.r0 mk HMK.out.1).2
      clear hv
      have o0 := (HOC.out _ hBr.below).1
      have ob := (HOC.out _ hBr.below).2
      have ya := HYA.out.1
      have ya' := HYA.out.2
      go_wp2_with fail
      refine wp_region_ext (by kernel_rfl) (by kernel_rfl) ?_
      repeat (first | go_big_quiet_step (fail) | quiet_step (fail))
      refine wpQuiet_nil ?_
      rintro wg1 ⟨⟨_, hb⟩, rfl⟩
      have hB21 := hBr.next hb
      clear c_G z_G hb hBr o0 ob ya ya' t0 t1 tb u0 ub0
      clear k1 k2
      by_cases hf : f ≤ k
      · have k1 := (HKF.out hf).1
        have k2 := (HKF.out hf).2
        have HSB2 := Lib.hid (show sumTo (sB (mB (gr bs 0) (gr bs 1) (gr bs 0).length) f) (k + 1) = sb + gi (gr bs 1) mk by rw [HSA.out.2, if_pos hf])
        clear hf
        have c_G := fun j => cell_of_row _ _ j _ _ _ (hB21.get 0 rfl)
        have z_G := hB21.lt 0 rfl
        have hv := HVL.out.next hB21.below
        have t0 := hv.two.r0
        have t1 := hv.two.r1
        have tb := hv.two.bl
        have v0 := (hv.r1 mk HMK.out.2).1
        have vb0 := (hv.r1 mk HMK.out.2).2
        clear hv
        have o0 := (HOC.out _ hB21.below).1
        have ob := (HOC.out _ hB21.below).2
        have ya := HYB.out.1
        have ya' := HYB.out.2
        go_wp2_with fail
        refine wp_region_ext (by kernel_rfl) (by kernel_rfl) ?_
        repeat (first | go_big_quiet_step (fail) | quiet_step (fail))
        refine wpQuiet_nil ?_
        rintro wg2 ⟨⟨_, hb⟩, rfl⟩
        have hB22 := hB21.next hb
        clear c_G z_G hb hB21 o0 ob ya ya' t0 t1 tb v0 vb0
        have HZ := Lib.hid hB22
        clear hB22
        have y1 := HY1.out.1
        have y1' := HY1.out.2
        go_wp2_with fail
        exact ⟨⟨k + 1, HME.out.1, by go_num, by rw [HSA2.out], by rw [HSB2.out], HZ.out⟩, by simpa [intOf] using HME.out.2⟩
      have k1 := (HKF'.out hf).1
      have k2 := (HKF'.out hf).2
      have HSB2 := Lib.hid (show sumTo (sB (mB (gr bs 0) (gr bs 1) (gr bs 0).length) f) (k + 1) = sb by rw [HSA.out.2, if_neg hf, Int.add_zero])
      have HZ := Lib.hid hB21
      clear hf hB21
      have y1 := HY1.out.1
      have y1' := HY1.out.2
      go_wp2_with fail
      exact ⟨⟨k + 1, HME.out.1, by go_num, by rw [HSA2.out], by rw [HSB2.out], HZ.out⟩, by simpa [intOf] using HME.out.2⟩
    have j1 := (HKT'.out ht).1
    have j2 := (HKT'.out ht).2
    have HSA2 := Lib.hid (show sumTo (sA (mA (gr bs 0) (gr bs 1) (gr bs 0).length) t) (k + 1) = sa by rw [HSA.out.1, if_neg ht, Int.add_zero])
    clear ht
    by_cases hf : f ≤ k
    · have k1 := (HKF.out hf).1
      have k2 := (HKF.out hf).2
      have HSB2 := Lib.hid (show sumTo (sB (mB (gr bs 0) (gr bs 1) (gr bs 0).length) f) (k + 1) = sb + gi (gr bs 1) mk by rw [HSA.out.2, if_pos hf])
      clear hf
      have c_G := fun j => cell_of_row _ _ j _ _ _ (hBr.get 0 rfl)
      have z_G := hBr.lt 0 rfl
      have hv := HVL.out.next hBr.below
      have t0 := hv.two.r0
      have t1 := hv.two.r1
      have tb := hv.two.bl
      have v0 := (hv.r1 mk HMK.out.2).1
      have vb0 := (hv.r1 mk HMK.out.2).2
      clear hv
      have o0 := (HOC.out _ hBr.below).1
      have ob := (HOC.out _ hBr.below).2
      have ya := HYB.out.1
      have ya' := HYB.out.2
      go_wp2_with fail
      refine wp_region_ext (by kernel_rfl) (by kernel_rfl) ?_
      repeat (first | go_big_quiet_step (fail) | quiet_step (fail))
      refine wpQuiet_nil ?_
      rintro wg3 ⟨⟨_, hb⟩, rfl⟩
      have hB21 := hBr.next hb
      clear c_G z_G hb hBr o0 ob ya ya' t0 t1 tb v0 vb0
      have HZ := Lib.hid hB21
      clear hB21
      have y1 := HY1.out.1
      have y1' := HY1.out.2
      go_wp2_with fail
      exact ⟨⟨k + 1, HME.out.1, by go_num, by rw [HSA2.out], by rw [HSB2.out], HZ.out⟩, by simpa [intOf] using HME.out.2⟩
    have k1 := (HKF'.out hf).1
    have k2 := (HKF'.out hf).2
    have HSB2 := Lib.hid (show sumTo (sB (mB (gr bs 0) (gr bs 1) (gr bs 0).length) f) (k + 1) = sb by rw [HSA.out.2, if_neg hf, Int.add_zero])
    have HZ := Lib.hid hBr
    clear hf hBr
    have y1 := HY1.out.1
    have y1' := HY1.out.2
    go_wp2_with fail
    exact ⟨⟨k + 1, HME.out.1, by go_num, by rw [HSA2.out], by rw [HSB2.out], HZ.out⟩, by simpa [intOf] using HME.out.2⟩
set_option maxRecDepth 100000 in
set_option maxHeartbeats 16000000 in
theorem forder_any (bs : List (List Int)) (A : Option Addr) (c : Nat) (w : World) (hG : GIn w.heap.size w A c bs) (hok : mkCode bs = 0) :
    Calls Try.prog 79 #[gV A c bs] w fun e w' => ∃ O oc, e = .returned (.slice O (gr bs 0).length oc) ∧ Ints w'.heap.size w' O (mordI (gr bs 0) (gr bs 1) (gr bs 0).length) ∧ (gr bs 0).length ≤ oc ∧ oc ≤ maxLen ∧ Below w.heap.size w w' := by
  obtain ⟨ad, R0, c0, R1, c1, xa, ya, rfl, hvl⟩ := hG.vals hok
  obtain ⟨h2, m⟩ := mk_ok hok
  have HVL := Lib.hid hvl
  have HMO := Lib.hid m
  have HAH := Lib.hid (fun (g h : Nat) (hg : g < (gr bs 0).length) (hh : h < (gr bs 0).length) (W : World) (hW : Below w.heap.size w W) => ahead_any bs (some ad) c g h W (hG.next hW) hok hg hh)
  have hB0 : Bx w [(w.heap.size, gB (some ad) c bs)] (w.alloc (gB (some ad) c bs)) := (Bx.start w).new rfl _
  have q20 : (0 : Int) < (bs.length : Int) := by omega
  have HN := Lib.hid (show (gr bs 0).length ≤ 10 ∧ 0 < (gr bs 0).length by have := m.n10; have := m.n0; omega)
  have hmk : ∀ w, Sem.run Try.prog (Instr.makeSlice 40 (.int .i64 ((gr bs 0).length : Int)) (.int .i64 ((gr bs 0).length : Int))) w = .ok (.slice (some ⟨w.heap.size, 0, none⟩) (gr bs 0).length (gr bs 0).length) (w.alloc (.cells (madeCells #[.int .i64 0] (gr bs 0).length) 3)) := run_make_row' (P := Try.prog) 40 3 (.int .i64 0) 8 Try.underlying40 info3 rfl .i64 .i64 (gr bs 0).length (by have := HN.out; omega) (by have := HN.out; omega)
  clear hG hok hvl h2 m
  go_enter Try.func79, Try.ntmps79
  try dsimp only [List.append]
  go_upto_region 1 with fail
  generalize w.alloc (gB (some ad) c bs) = w0 at *
  have hv := HVL.out.next hB0.below
  have t0 := hv.two.r0
  clear hv
  have c_G := fun j => cell_of_row _ _ j _ _ _ (hB0.get 0 rfl)
  have z_G := hB0.lt 0 rfl
  go_upto_region 2 with fail
  have hM1 := (Mx.of_bx hB0).lit (madeCells #[.int .i64 0] (gr bs 0).length) 3 1 (gr bs 0).length (by have := HN.out; unfold maxLen; omega) (by simp [madeCells])
  have emc : (madeCells #[.int .i64 0] (gr bs 0).length).toList = intsV (List.replicate (gr bs 0).length 0) := by rw [toList_madeCells_one]; simp [intsV]
  rw [emc] at hM1
  clear emc hB0 t0 hmk c_G z_G
  generalize w0.heap.size = gS at *
  generalize w0.alloc _ = w1 at *
  go_wp2_with fail
  have HM1 := Lib.hid hM1
  clear hM1
  go_loopw [4] (fun s wr => ∃ (k : Nat) (o : List Int), k ≤ (gr bs 0).length ∧ s = .int .i64 k ∧ o.length = (gr bs 0).length ∧ (∀ j, j < (gr bs 0).length → mo (gr bs 0) (gr bs 1) (gr bs 0).length j < k → gi o j = (mo (gr bs 0) (gr bs 1) (gr bs 0).length j : Int)) ∧ Mx w [(w.heap.size, gB (some ad) c bs)] [⟨.slice (some ⟨gS, 0, none⟩) (gr bs 0).length (gr bs 0).length, 3, 1, (gr bs 0).length, intsV o⟩] wr) (fun s _ => (gr bs 0).length - (intOf s).toNat)
  case atStart => exact ⟨0, _, Nat.zero_le _, rfl, by simp, fun j hj hm => by omega, HM1.out⟩
  case round =>
    as_aux_lemma =>
    obtain ⟨k, o, hk, rfl, hol, hoi, hMr⟩ := hrel
    clear HM1
    have HOL := Lib.hid hol
    have HOI := Lib.hid hoi
    clear hol hoi
    by_cases hlt : k < (gr bs 0).length
    rotate_left
    · obtain rfl : k = (gr bs 0).length := by omega
      obtain rfl := ord_of HOL.out (fun j hj hm => HOI.out j hj hm)
      have hrow := hMr.row 0 rfl
      have HQ := Lib.hid (Ints.of_own hrow).1
      have HE := Lib.hid hMr.below
      clear hMr hrow hlt hk
      go_wp2_with fail
      go_ret
      exact ⟨_, _, rfl, HQ.out, Nat.le_refl _, by have := HN.out; unfold maxLen; omega, HE.out⟩
    have HK := Lib.hid hlt
    have qk : decide (k < (gr bs 0).length) = true := decide_eq_true hlt
    have qk' : decide ((k : Int) < ((gr bs 0).length : Int)) = true := decide_eq_true (by omega)
    have HME := Lib.hid (And.intro (Nat.succ_le_of_lt hlt) (Nat.sub_lt_sub_left hlt (Nat.lt_succ_self k)))
    have HY1 := Lib.hid (show IntKind.i64.wrap ((k : Int) + 1) = (k : Int) + 1 ∧ wrap64 ((k : Int) + 1) = (k : Int) + 1 from ⟨IntWalk.i64_in _ (by have := HN.out; omega), IntWalk.wrap64_in _ (by have := HN.out; omega)⟩)
    have HCT := Lib.hid (HMO.out.ah_count hlt)
    have HPL := Lib.hid (mpos_lt (a := gr bs 0) (b := gr bs 1) hlt)
    have HST := Lib.hid (ord_step hlt HOL.out HOI.out)
    have HMi := Lib.hid hMr
    clear hlt hk hMr HOI
    go_wp2_with fail
    go_loopw [5, 6] (fun t s wr => ∃ j : Nat, j ≤ (gr bs 0).length ∧ s = .int .i64 j ∧ t = .int .i64 (sumTo (ahN (gr bs 0) (gr bs 1) k) j) ∧ Mx w [(w.heap.size, gB (some ad) c bs)] [⟨.slice (some ⟨gS, 0, none⟩) (gr bs 0).length (gr bs 0).length, 3, 1, (gr bs 0).length, intsV o⟩] wr) (fun _ s _ => (gr bs 0).length - (intOf s).toNat)
    case atStart => exact ⟨0, Nat.zero_le _, rfl, rfl, HMi.out⟩
    case round =>
      as_aux_lemma =>
      obtain ⟨j, hj, rfl, rfl, hMs⟩ := hrel
      clear HMi
      by_cases hlt : j < (gr bs 0).length
      rotate_left
      · obtain rfl : j = (gr bs 0).length := by omega
        rw [HCT.out]
        have ra := hMs.rowAt 0 rfl
        have sf := ra.2.1
        have sg := ra.2.2
        have sc : wr.cell? ⟨gS, mpos (gr bs 0) (gr bs 1) (gr bs 0).length k, none⟩ = some (.int .i64 (gi o (mpos (gr bs 0) (gr bs 1) (gr bs 0).length k))) := ra.1 _ _ (by have := HPL.out; omega) (intsV_at (by have := HPL.out; have := HOL.out; omega))
        have z1 : (mpos (gr bs 0) (gr bs 1) (gr bs 0).length k : Int) < ((gr bs 0).length : Int) := by have := HPL.out; omega
        have z3 : (0 : Int) ≤ (mpos (gr bs 0) (gr bs 1) (gr bs 0).length k : Int) := by omega
        have hN := hMs.setRow 0 rfl (mpos (gr bs 0) (gr bs 1) (gr bs 0).length k) (.int .i64 (k : Int))
        simp only [intsV_set] at hN
        have HZ := Lib.hid hN
        have HLL := Lib.hid (show (o.set (mpos (gr bs 0) (gr bs 1) (gr bs 0).length k) (k : Int)).length = (gr bs 0).length by rw [List.length_set]; exact HOL.out)
        clear hN ra hMs hlt hj
        generalize mpos (gr bs 0) (gr bs 1) (gr bs 0).length k = pk at *
        have y1 := HY1.out.1
        have y1' := HY1.out.2
        go_wp2_with fail
        exact ⟨⟨k + 1, o.set pk (k : Int), HME.out.1, by go_num, HLL.out, HST.out, HZ.out⟩, by simpa [intOf] using HME.out.2⟩
      have HJB := Lib.hid (ah_bd (a := gr bs 0) (b := gr bs 1) k j)
      have HSE := Lib.hid (show sumTo (ahN (gr bs 0) (gr bs 1) k) (j + 1) = sumTo (ahN (gr bs 0) (gr bs 1) k) j + (if j ≠ k ∧ ahB (gr bs 0) (gr bs 1) j k = true then 1 else 0) from rfl)
      have HMJ := Lib.hid (And.intro (Nat.succ_le_of_lt hlt) (Nat.sub_lt_sub_left hlt (Nat.lt_succ_self j)))
      have HA := Lib.hid (fun (W : World) (hW : Below w.heap.size w W) => HAH.out j k hlt HK.out W hW)
      have HJN := Lib.hid (show (j : Int) ≤ 10 by have := HN.out; omega)
      have HY2 := Lib.hid (show IntKind.i64.wrap ((j : Int) + 1) = (j : Int) + 1 ∧ wrap64 ((j : Int) + 1) = (j : Int) + 1 from ⟨IntWalk.i64_in _ (by have := HN.out; omega), IntWalk.wrap64_in _ (by have := HN.out; omega)⟩)
      have HY3 := Lib.hid (show IntKind.i64.wrap (sumTo (ahN (gr bs 0) (gr bs 1) k) j + 1) = sumTo (ahN (gr bs 0) (gr bs 1) k) j + 1 ∧ wrap64 (sumTo (ahN (gr bs 0) (gr bs 1) k) j + 1) = sumTo (ahN (gr bs 0) (gr bs 1) k) j + 1 from ⟨IntWalk.i64_in _ (by have := HJB.out; have := HJN.out; omega), IntWalk.wrap64_in _ (by have := HJB.out; have := HJN.out; omega)⟩)
      have x1 : (j : Int) < ((gr bs 0).length : Int) := by omega
      have x3 : (0 : Int) ≤ (j : Int) := by omega
      clear hj hlt
      generalize sumTo (ahN (gr bs 0) (gr bs 1) k) j = t1 at *
      by_cases hjk : j = k
      · have q1 : ((j : Int) != (k : Int)) = false := bneF (by omega)
        have q1n : (j != k) = false := bneFn hjk
        have HJK := Lib.hid hjk
        clear hjk
        have HZ := Lib.hid hMs
        have HTE := Lib.hid (show sumTo (ahN (gr bs 0) (gr bs 1) k) (j + 1) = t1 by rw [HSE.out, if_neg (fun x => x.1 HJK.out), Int.add_zero])
        clear hMs
        have y2 := HY2.out.1
        have y2' := HY2.out.2
        have y3 := HY3.out.1
        have y3' := HY3.out.2
        go_wp2_with fail
        exact ⟨⟨j + 1, HMJ.out.1, by go_num, by rw [HTE.out], HZ.out⟩, by simpa [intOf] using HMJ.out.2⟩
      have q1 : ((j : Int) != (k : Int)) = true := bneT (by omega)
      have q1n : (j != k) = true := bneTn hjk
      have HJK := Lib.hid hjk
      clear hjk
      have c_G := fun j => cell_of_row _ _ j _ _ _ (hMs.get 0 rfl)
      have z_G := hMs.lt 0 rfl
      go_wp2_with fail
      refine (HA.out _ hMs.below).mono ?_
      rintro e3 w51 ⟨rfl, hb⟩
      have hB51 := hMs.next hb
      clear c_G z_G hb hMs
      clear HA
      cases hab : ahB (gr bs 0) (gr bs 1) j k with
      | true =>
        have HAB := Lib.hid hab
        clear hab
        have HZ := Lib.hid hB51
        have HTE := Lib.hid (show sumTo (ahN (gr bs 0) (gr bs 1) k) (j + 1) = t1 + 1 by rw [HSE.out, if_pos ⟨HJK.out, HAB.out⟩])
        clear hB51
        have y2 := HY2.out.1
        have y2' := HY2.out.2
        have y3 := HY3.out.1
        have y3' := HY3.out.2
        go_wp2_with fail
        exact ⟨⟨j + 1, HMJ.out.1, by go_num, by rw [HTE.out], HZ.out⟩, by simpa [intOf] using HMJ.out.2⟩
      | false =>
        have HAB := Lib.hid (show ¬ ahB (gr bs 0) (gr bs 1) j k = true by rw [hab]; decide)
        clear hab
        have HZ := Lib.hid hB51
        have HTE := Lib.hid (show sumTo (ahN (gr bs 0) (gr bs 1) k) (j + 1) = t1 by rw [HSE.out, if_neg (fun x => HAB.out x.2), Int.add_zero])
        clear hB51
        have y2 := HY2.out.1
        have y2' := HY2.out.2
        have y3 := HY3.out.1
        have y3' := HY3.out.2
        go_wp2_with fail
        exact ⟨⟨j + 1, HMJ.out.1, by go_num, by rw [HTE.out], HZ.out⟩, by simpa [intOf] using HMJ.out.2⟩
set_option maxRecDepth 100000 in
set_option maxHeartbeats 16000000 in
theorem fpart_any (bs : List (List Int)) (A : Option Addr) (c : Nat) (O : Option Addr) (oc k : Nat) (w : World) (hG : GIn w.heap.size w A c bs) (hok : mkCode bs = 0) (hO : Ints w.heap.size w O (mordI (gr bs 0) (gr bs 1) (gr bs 0).length)) (hk : k < (gr bs 0).length) :
    Calls Try.prog 82 #[gV A c bs, .slice O (gr bs 0).length oc, .int .i64 k] w fun e w' => e = .returned (.tuple #[.int .i64 (nK (mA (gr bs 0) (gr bs 1) (gr bs 0).length) (mB (gr bs 0) (gr bs 1) (gr bs 0).length) (gr bs 0).length k), .int .i64 (dK (mA (gr bs 0) (gr bs 1) (gr bs 0).length) (mB (gr bs 0) (gr bs 1) (gr bs 0).length) k)]) ∧ Below w.heap.size w w' := by
  obtain ⟨ad, R0, c0, R1, c1, xa, ya, rfl, hvl⟩ := hG.vals hok
  obtain ⟨h2, m⟩ := mk_ok hok
  have HVL := Lib.hid hvl
  obtain rfl := hvl.e0
  obtain rfl := hvl.e1
  have HL := Lib.hid m.lb
  have HSU := Lib.hid (fun (W : World) (hW : Below w.heap.size w W) => sums_any bs (some ad) c O oc k (k + 1) W (hG.next hW) hok (hO.next hW) (by omega) (by omega))
  have hB0 : Bx w [(w.heap.size, gB (some ad) c bs)] (w.alloc (gB (some ad) c bs)) := (Bx.start w).new rfl _
  have q20 : (0 : Int) < (bs.length : Int) := by omega
  have q21 : (1 : Int) < (bs.length : Int) := by omega
  have lt := mo_lt (a := gr bs 0) (b := gr bs 1) hk
  obtain ⟨od, eod, ob, oc_⟩ := hO.at_ (show k < (mordI (gr bs 0) (gr bs 1) (gr bs 0).length).length by rw [mordI_len]; exact hk)
  subst eod
  rw [mordI_at hk] at oc_
  have HOC := Lib.hid (fun (W : World) (hW : Below w.heap.size w W) => show W.cell? (od.add k) = some (.int .i64 (mo (gr bs 0) (gr bs 1) (gr bs 0).length k : Int)) ∧ (od.add k).block < W.heap.size from ⟨(hW.cell (by rw [block_add]; exact ob)).trans oc_, by rw [block_add]; exact Nat.lt_of_lt_of_le ob hW.size⟩)
  have HMK := Lib.hid (show mo (gr bs 0) (gr bs 1) (gr bs 0).length k < (gr bs 0).length ∧ mo (gr bs 0) (gr bs 1) (gr bs 0).length k < (gr bs 1).length by rw [HL.out]; exact ⟨lt, lt⟩)
  have va := m.a0 _ lt
  have vb := m.b0 _ lt
  have mb := m.m_bd (k := k) (by omega)
  have yb := (m.m_bd (k := k + 1) (by omega)).2
  have y0 := m.desc.y0 (k := k + 1) (by omega)
  have m0 := m.desc.m0 (k := k) (by omega)
  have ey : mY (mB (gr bs 0) (gr bs 1) (gr bs 0).length) (gr bs 0).length (k + 1) = mY (mB (gr bs 0) (gr bs 1) (gr bs 0).length) (gr bs 0).length k - gi (gr bs 1) (mo (gr bs 0) (gr bs 1) (gr bs 0).length k) := mY_succ _ _ _
  have HNK := Lib.hid (show nK (mA (gr bs 0) (gr bs 1) (gr bs 0).length) (mB (gr bs 0) (gr bs 1) (gr bs 0).length) (gr bs 0).length k = gi (gr bs 0) (mo (gr bs 0) (gr bs 1) (gr bs 0).length k) * mY (mB (gr bs 0) (gr bs 1) (gr bs 0).length) (gr bs 0).length (k + 1) + gi (gr bs 0) (mo (gr bs 0) (gr bs 1) (gr bs 0).length k) * gi (gr bs 1) (mo (gr bs 0) (gr bs 1) (gr bs 0).length k) - gi (gr bs 1) (mo (gr bs 0) (gr bs 1) (gr bs 0).length k) * mM (mA (gr bs 0) (gr bs 1) (gr bs 0).length) k by
    show gi (gr bs 0) (mo (gr bs 0) (gr bs 1) (gr bs 0).length k) * mY (mB (gr bs 0) (gr bs 1) (gr bs 0).length) (gr bs 0).length k - gi (gr bs 1) (mo (gr bs 0) (gr bs 1) (gr bs 0).length k) * mM (mA (gr bs 0) (gr bs 1) (gr bs 0).length) k = _
    rw [ey, Int.mul_sub]; omega)
  have HDK := Lib.hid (show dK (mA (gr bs 0) (gr bs 1) (gr bs 0).length) (mB (gr bs 0) (gr bs 1) (gr bs 0).length) k = 2 * gi (gr bs 0) (mo (gr bs 0) (gr bs 1) (gr bs 0).length k) * gi (gr bs 1) (mo (gr bs 0) (gr bs 1) (gr bs 0).length k) from rfl)
  have HP := Lib.hid (And.intro (prod_le (p := 1000) (q := 10000) va.1 va.2 y0 yb) (And.intro (prodI va vb) (And.intro (prod_le (p := 1000) (q := 10000) vb.1 vb.2 m0 mb.1) va)))
  have z1 : (k : Int) < ((gr bs 0).length : Int) := by omega
  have z3 : (0 : Int) ≤ (k : Int) := by omega
  have z6 : (mo (gr bs 0) (gr bs 1) (gr bs 0).length k : Int) < ((gr bs 0).length : Int) := by omega
  have z7 : (mo (gr bs 0) (gr bs 1) (gr bs 0).length k : Int) < ((gr bs 1).length : Int) := by have := HMK.out; omega
  have z8 : (0 : Int) ≤ (mo (gr bs 0) (gr bs 1) (gr bs 0).length k : Int) := by omega
  have HYK := Lib.hid (show (IntKind.i64.wrap ((k : Int) + 1) = ((k + 1 : Nat) : Int)) ∧ wrap64 ((k : Int) + 1) = ((k + 1 : Nat) : Int) by have := m.n10; exact ⟨IntWalk.i64_in _ (by omega), IntWalk.wrap64_in _ (by omega)⟩)
  clear hG hok hvl h2 m hO hk lt ob oc_ va vb mb yb y0 m0 ey
  generalize mo (gr bs 0) (gr bs 1) (gr bs 0).length k = mk at *
  generalize hp : gi (gr bs 0) mk = p at *
  generalize hq : gi (gr bs 1) mk = q at *
  generalize mY (mB (gr bs 0) (gr bs 1) (gr bs 0).length) (gr bs 0).length (k + 1) = bb at *
  generalize mM (mA (gr bs 0) (gr bs 1) (gr bs 0).length) k = aa at *
  obtain ⟨vn, hvn⟩ : ∃ x, x = nK (mA (gr bs 0) (gr bs 1) (gr bs 0).length) (mB (gr bs 0) (gr bs 1) (gr bs 0).length) (gr bs 0).length k := ⟨_, rfl⟩
  obtain ⟨vd, hvd⟩ : ∃ x, x = dK (mA (gr bs 0) (gr bs 1) (gr bs 0).length) (mB (gr bs 0) (gr bs 1) (gr bs 0).length) k := ⟨_, rfl⟩
  rw [← hvn] at HNK ⊢
  rw [← hvd] at HDK ⊢
  clear hvn hvd
  have HY := Lib.hid (show (wrap64 (p * bb) = p * bb ∧ IntKind.i64.wrap (p * bb) = p * bb) ∧ (wrap64 (p * q) = p * q ∧ IntKind.i64.wrap (p * q) = p * q) ∧ (wrap64 (p * bb + p * q) = p * bb + p * q ∧ IntKind.i64.wrap (p * bb + p * q) = p * bb + p * q) ∧ (wrap64 (q * aa) = q * aa ∧ IntKind.i64.wrap (q * aa) = q * aa) ∧ (wrap64 (p * bb + p * q - q * aa) = p * bb + p * q - q * aa ∧ IntKind.i64.wrap (p * bb + p * q - q * aa) = p * bb + p * q - q * aa) ∧ (wrap64 (2 * p) = 2 * p ∧ IntKind.i64.wrap (2 * p) = 2 * p) ∧ (wrap64 (2 * p * q) = 2 * p * q ∧ IntKind.i64.wrap (2 * p * q) = 2 * p * q) by
    have h := HP.out
    have e2 : 2 * p * q = 2 * (p * q) := by rw [Int.mul_assoc]
    refine ⟨⟨IntWalk.wrap64_in _ (by omega), IntWalk.i64_in _ (by omega)⟩, ⟨IntWalk.wrap64_in _ (by omega), IntWalk.i64_in _ (by omega)⟩, ⟨IntWalk.wrap64_in _ (by omega), IntWalk.i64_in _ (by omega)⟩, ⟨IntWalk.wrap64_in _ (by omega), IntWalk.i64_in _ (by omega)⟩, ⟨IntWalk.wrap64_in _ (by omega), IntWalk.i64_in _ (by omega)⟩, ⟨IntWalk.wrap64_in _ (by omega), IntWalk.i64_in _ (by omega)⟩, ⟨IntWalk.wrap64_in _ (by omega), IntWalk.i64_in _ (by omega)⟩⟩)
  go_enter Try.func82, Try.ntmps82
  try dsimp only [List.append]
  go_upto_region 1 with fail
  generalize w.alloc (gB (some ad) c bs) = w0 at *
  have c_G := fun j => cell_of_row _ _ j _ _ _ (hB0.get 0 rfl)
  have z_G := hB0.lt 0 rfl
  have hv := HVL.out.next hB0.below
  have t0 := hv.two.r0
  have t1 := hv.two.r1
  have tb := hv.two.bl
  have u0 := (hv.r0 mk HMK.out.1).1
  have ub0 := (hv.r0 mk HMK.out.1).2
  have v0 := (hv.r1 mk HMK.out.2).1
  have vb0 := (hv.r1 mk HMK.out.2).2
  clear hv
  rw [hp] at u0
  rw [hq] at v0
  clear hp hq
  have o0 := (HOC.out _ hB0.below).1
  have ob := (HOC.out _ hB0.below).2
  refine wp_region_ext (by kernel_rfl) (by kernel_rfl) ?_
  repeat (first | go_big_quiet_step (fail) | quiet_step (fail))
  refine wpQuiet_nil ?_
  rintro w2 ⟨⟨_, hb⟩, rfl⟩
  have hB1 := hB0.next hb
  clear c_G z_G hb hB0 o0 ob t0 t1 tb u0 ub0 v0 vb0
  have c_G := fun j => cell_of_row _ _ j _ _ _ (hB1.get 0 rfl)
  have z_G := hB1.lt 0 rfl
  have yk := HYK.out.1
  have yk2 := HYK.out.2
  go_wp2_with fail
  refine (HSU.out _ hB1.below).mono ?_
  rintro e w2 ⟨rfl, hb⟩
  have hB2 := hB1.next hb
  clear c_G z_G hb hB1
  have HE := Lib.hid hB2.below
  clear hB2 HSU yk yk2
  obtain ⟨⟨a1, a2⟩, ⟨a3, a4⟩, ⟨a5, a6⟩, ⟨a7, a8⟩, ⟨a9, a10⟩, ⟨a11, a12⟩, ⟨a13, a14⟩⟩ := HY.out
  go_wp2_with fail
  go_ret2
  exact ⟨ret_two (vint HNK.out.symm) (vint HDK.out.symm), HE.out⟩
end Go.Proofs.Ytpijllobpohpgaa

namespace Go.Proofs.Ytpijllobpohpgaa
open Go.RowKit Go.Deep
set_option linter.unusedVariables false
set_option linter.unusedSimpArgs false

set_option maxRecDepth 100000 in
set_option maxHeartbeats 16000000 in
theorem scmp_any (bs : List (List Int)) (ad : Addr) (c0 c1 : Nat) (x y : Addr) (ga gb g h : Nat) (w : World) (hv : Vals w ad (some x) c0 (some y) c1 bs x y) (m : MkOk (gr bs 0) (gr bs 1) (gr bs 0).length)
    (ha : w.cell? ⟨ga, 0, none⟩ = some (.slice (some x) (gr bs 0).length c0) ∧ ga < w.heap.size) (hb : w.cell? ⟨gb, 0, none⟩ = some (.slice (some y) (gr bs 1).length c1) ∧ gb < w.heap.size) (hg : g < (gr bs 0).length) (hh : h < (gr bs 0).length) :
    Calls Try.prog 62 #[.int .i64 g, .int .i64 h, .pointer (some ⟨ga, 0, none⟩), .pointer (some ⟨gb, 0, none⟩)] w fun e w' => e = .returned (.int .i64 (gi (gr bs 0) h * gi (gr bs 1) g - gi (gr bs 0) g * gi (gr bs 1) h)) ∧ Below w.heap.size w w' := by
  have HL := Lib.hid m.lb
  have p1 := prodI (m.a0 g hg) (m.b0 h hh)
  have p2 := prodI (m.a0 h hh) (m.b0 g hg)
  have HP := Lib.hid (And.intro p1 p2)
  have z0 : (g : Int) < ((gr bs 0).length : Int) := by omega
  have z1 : (h : Int) < ((gr bs 0).length : Int) := by omega
  have z2 : (g : Int) < ((gr bs 1).length : Int) := by have := HL.out; omega
  have z3 : (h : Int) < ((gr bs 1).length : Int) := by have := HL.out; omega
  have z4 : (0 : Int) ≤ (g : Int) := by omega
  have z5 : (0 : Int) ≤ (h : Int) := by omega
  have u0 := (hv.r0 g hg).1
  have u1 := (hv.r0 h hh).1
  have v0 := (hv.r1 g (by rw [m.lb]; exact hg)).1
  have v1 := (hv.r1 h (by rw [m.lb]; exact hh)).1
  have ub0 := (hv.r0 g hg).2
  have ub1 := (hv.r0 h hh).2
  have vb0 := (hv.r1 g (by rw [m.lb]; exact hg)).2
  have vb1 := (hv.r1 h (by rw [m.lb]; exact hh)).2
  obtain ⟨ca, ba⟩ := ha
  obtain ⟨cb, bb⟩ := hb
  clear hv m hg hh p1 p2
  generalize gi (gr bs 0) g = ag at *
  generalize gi (gr bs 0) h = ah at *
  generalize gi (gr bs 1) g = bg at *
  generalize gi (gr bs 1) h = bh at *
  have y1 : IntKind.i64.wrap (ag * bh) = ag * bh := IntWalk.i64_in _ (by have := HP.out; omega)
  have y1' : wrap64 (ag * bh) = ag * bh := IntWalk.wrap64_in _ (by have := HP.out; omega)
  have y2 : IntKind.i64.wrap (ah * bg) = ah * bg := IntWalk.i64_in _ (by have := HP.out; omega)
  have y2' : wrap64 (ah * bg) = ah * bg := IntWalk.wrap64_in _ (by have := HP.out; omega)
  have y3 : IntKind.i64.wrap (ah * bg - ag * bh) = ah * bg - ag * bh := IntWalk.i64_in _ (by have := HP.out; omega)
  have y3' : wrap64 (ah * bg - ag * bh) = ah * bg - ag * bh := IntWalk.wrap64_in _ (by have := HP.out; omega)
  go_enter Try.func62, Try.ntmps62
  try dsimp only [List.append]
  go_upto_region 1 with fail
  refine wp_region_ext (by kernel_rfl) (by kernel_rfl) ?_
  repeat (first | go_big_quiet_step (fail) | quiet_step (fail))
  refine wpQuiet_nil ?_
  rintro w2 ⟨⟨_, hb⟩, rfl⟩
  have HE := Lib.hid hb
  clear hb u0 u1 v0 v1 ub0 ub1 vb0 vb1 ca cb y1 y1' y2 y2' y3 y3'
  go_wp2_with fail
  go_ret
  exact ⟨ret_int rfl, HE.out⟩
theorem below_below {w W V : World} (h : Below w.heap.size w W) (k : Below W.heap.size W V) : Below w.heap.size w V := bcall h h.size k
theorem own_base {w W V : World} (h : Below w.heap.size w W) {e : TypeId} {size : Nat} {v : Value} {n : Nat} {xs : List Value} (k : V.ownsRow W.heap.size e size v n xs) : V.ownsRow w.heap.size e size v n xs := by
  refine ⟨k.1, ?_⟩
  rcases k.2 with e | ⟨g, cap, cur, e, hb, r⟩
  · exact Or.inl e
  · exact Or.inr ⟨g, cap, cur, e, Nat.le_trans h.size hb, r⟩
theorem zeros_row (n : Nat) : (madeCells #[Value.int .i64 0] n).toList = intsV (List.replicate n 0) := by rw [toList_madeCells_one]; simp [intsV]
/-- What the shares' walk knows of its two boxes. -/
structure SBox (w : World) (ga gb : Nat) (x y : Addr) (n m c0 c1 : Nat) : Prop where
  a : w.cell? ⟨ga, 0, none⟩ = some (.slice (some x) n c0)
  b : w.cell? ⟨gb, 0, none⟩ = some (.slice (some y) m c1)
  la : ga < w.heap.size
  lb : gb < w.heap.size
theorem SBox.next {w W : World} {ga gb : Nat} {x y : Addr} {n m c0 c1 : Nat} (h : SBox w ga gb x y n m c0 c1) (hb : Below w.heap.size w W) : SBox W ga gb x y n m c0 c1 :=
  ⟨(hb.cell (p := ⟨ga, 0, none⟩) h.la).trans h.a, (hb.cell (p := ⟨gb, 0, none⟩) h.lb).trans h.b, Nat.lt_of_lt_of_le h.la hb.size, Nat.lt_of_lt_of_le h.lb hb.size⟩
def intsOfN (l : List Nat) : List Int := l.map fun (k : Nat) => (k : Int)
theorem intsOfN_len (l : List Nat) : (intsOfN l).length = l.length := by simp [intsOfN]
theorem intsOfN_at {l : List Nat} {k : Nat} (h : k < l.length) : gi (intsOfN l) k = (l[k] : Int) := by
  rw [gi_get (by simpa [intsOfN] using h)]; simp [intsOfN]
theorem intsV_ofN (l : List Nat) : intsV (intsOfN l) = cellsN l := by simp [intsV, intsOfN, cellsN]
theorem QIn.one {W : World} {g : Nat} {r : Rt} (h : W.heap[g]? = some (.cells #[.int .i64 r.n, .int .i64 r.d] 36)) (hw : r.wf) : QIn W.heap.size W (some ⟨g, 0, none⟩) 1 [r] := by
  refine ⟨fun _ => ⟨_, rfl, lt_some h, ⟨fun k hk => ?_, fun k hk => ?_⟩⟩, fun k hk => ?_, by simp, by unfold maxLen; omega⟩
  · obtain rfl : k = 0 := by simpa using hk
    rw [add_mk, cell_of_row _ _ _ _ _ _ h]; rfl
  · obtain rfl : k = 0 := by simpa using hk
    show W.cell? ⟨g, 0 + (0 * 2 + 1), none⟩ = _
    rw [cell_of_row _ _ _ _ _ _ h]; rfl
  · obtain rfl : k = 0 := by simpa using hk
    exact hw
theorem mord_get {a b : List Int} {n k : Nat} (hk : k < n) : (mord a b n)[k]? = some (mo a b n k) := by
  have hl := mord_len a b n
  unfold mo; rw [gn_get (by omega)]; exact List.getElem?_eq_getElem _
theorem Desc.at_ {A B : Nat → Int} {n : Nat} (h : Desc A B n) {k : Nat} (hk : k ≤ mT A B n) : k < n ∧
    (nK A B n k ≤ 0 → k = mT A B n ∧ (0 < mM A k ∨ (mM A k = 0 ∧ A k = 0))) ∧ (0 < nK A B n k → A k ≠ 0) ∧ (0 < nK A B n k → nK A B n k < dK A B k → k = mT A B n) ∧ (0 < nK A B n k → dK A B k ≤ nK A B n k → k + 1 ≤ mT A B n) := by
  obtain ⟨lt, c, g⟩ := h.t_spec
  have hkn : k < n := by omega
  have a0 := h.a0 k hkn
  have b0 := h.b0 k hkn
  have m0 := h.m0 (k := k) (by omega)
  have y := h.y_pos hkn
  have bm := Int.mul_nonneg b0 m0
  have ab := Int.mul_nonneg a0 b0
  have ed : dK A B k = 2 * (A k * B k) := by unfold dK; rw [Int.mul_assoc]
  have en : nK A B n k = A k * mY B n k - B k * mM A k := rfl
  refine ⟨hkn, fun h1 => ⟨?_, ?_⟩, fun h1 e => ?_, fun h1 h2 => ?_, fun h1 h2 => ?_⟩
  · rcases Nat.lt_or_ge k (mT A B n) with q | q
    · exfalso
      obtain ⟨pa, d⟩ := go_spec (c k q)
      have z : A k * B k = 0 := by omega
      have zb : B k = 0 := by
        rcases Int.mul_eq_zero.1 z with e | e
        · omega
        · exact e
      rw [zb, Int.zero_mul] at en
      have := Int.mul_pos pa y
      omega
    · omega
  · rcases Int.lt_or_le 0 (mM A k) with q | q
    · exact Or.inl q
    · right
      have z : mM A k = 0 := by omega
      refine ⟨z, ?_⟩
      rcases Int.lt_or_le 0 (A k) with pa | pa
      · exfalso
        rw [z, Int.mul_zero] at en
        have := Int.mul_pos pa y
        omega
      · omega
  · rw [e, Int.zero_mul] at en; omega
  · rcases Nat.lt_or_ge k (mT A B n) with q | q
    · exfalso
      have := (go_spec (c k q)).2
      omega
    · omega
  · rcases Nat.lt_or_ge k (mT A B n) with q | q
    · exact q
    · exfalso
      have e : k = mT A B n := by omega
      rw [← e] at g
      have pa : 0 < A k := by
        rcases Int.lt_or_le 0 (A k) with pa | pa
        · exact pa
        · exfalso
          have z : A k = 0 := by omega
          rw [z, Int.zero_mul] at en; omega
      unfold goB at g
      rw [decide_eq_true pa, decide_eq_true h2] at g
      simp at g
set_option maxRecDepth 100000 in
set_option maxHeartbeats 32000000 in
theorem shares_any (bs : List (List Int)) (A : Option Addr) (c : Nat) (w : World) (hG : GIn w.heap.size w A c bs) (hok : mkCode bs = 0) :
    Calls Try.prog 30 #[gV A c bs] w fun e w' => ∃ g, e = .returned (.slice (some ⟨g, 0, none⟩) (gr bs 0).length (gr bs 0).length) ∧ w'.ownsRow w.heap.size 36 2 (.slice (some ⟨g, 0, none⟩) (gr bs 0).length (gr bs 0).length) (gr bs 0).length (ratV (mSh (gr bs 0) (gr bs 1) (gr bs 0).length)) ∧ Below w.heap.size w w' := by
  obtain ⟨ad, R0, c0, R1, c1, xa, ya, rfl, hvl⟩ := hG.vals hok
  obtain ⟨h2, m⟩ := mk_ok hok
  have HVL := Lib.hid hvl
  obtain rfl := hvl.e0
  obtain rfl := hvl.e1
  have HL := Lib.hid m.lb
  have HMO := Lib.hid m
  have hB0 : Bx w [(w.heap.size, gB (some ad) c bs)] (w.alloc (gB (some ad) c bs)) := (Bx.start w).new rfl _
  have q20 : (0 : Int) < (bs.length : Int) := by omega
  have q21 : (1 : Int) < (bs.length : Int) := by omega
  have HN := Lib.hid (show (gr bs 0).length ≤ 10 ∧ 0 < (gr bs 0).length by have := m.n10; have := m.n0; omega)
  clear hG hok hvl h2 m
  go_enter Try.func30, Try.ntmps30
  try dsimp only [List.append]
  go_upto_region 1 with fail
  generalize w.alloc (gB (some ad) c bs) = w0 at *
  have HBX := Lib.hid (Mx.of_bx hB0)
  clear hB0
  go_cut [3, 4] (fun s3 s4 wx => ∃ ga gb, s3 = .pointer (some ⟨ga, 0, none⟩) ∧ s4 = .pointer (some ⟨gb, 0, none⟩) ∧ Below w.heap.size w wx ∧ SBox wx ga gb xa ya (gr bs 0).length (gr bs 1).length c0 c1)
  case first =>
    as_aux_lemma =>
      have hM0 := HBX.out
      have hv := HVL.out.next hM0.below
      have t0 := hv.two.r0
      have t1 := hv.two.r1
      have tb := hv.two.bl
      clear hv HBX
      refine wp_region_R (Bx w [(w.heap.size, gB (some ad) c bs)]) 12 (by kernel_rfl) (by rfl) ((hM0.keep (List.Sublist.cons_cons _ (List.nil_sublist _))).drew) (fun wq1 hbq => ?_)
      have hB1 := hM0.next hbq
      clear hM0 hbq
      refine wpAnyE_goR (Bx.grows _ _) (hB1.keep (List.Sublist.cons_cons _ (List.nil_sublist _))) [0, 1, 2, 3, 4, 5, 6, 7] 4 (by kernel_rfl) ?_
      apply Exists.intro
      refine ⟨fun G hG hN => ?_, ?_⟩
      · have c_G := fun (e : GE (Bx w [(w.heap.size, gB (some ad) c bs)]) G) j => cell_of_row e.w _ j _ _ _ ((GE.h e).get 0 rfl)
        have z_G := fun (e : GE (Bx w [(w.heap.size, gB (some ad) c bs)]) G) => (GE.h e).lt 0 rfl
        have r0 := fun (e : GE (Bx w [(w.heap.size, gB (some ad) c bs)]) G) => (HVL.out.next (GE.h e).below).two.r0
        have r1 := fun (e : GE (Bx w [(w.heap.size, gB (some ad) c bs)]) G) => (HVL.out.next (GE.h e).below).two.r1
        simp only [pickOps, List.getElem?_toArray, List.getElem?_cons_zero, List.getElem?_cons_succ]
        repeat (first | go_big_quiet_step (fail) | quiet_step (fail))
        exact wpQuiet_nil rfl
      refine wpAnyE_all (rs := [8, 9]) (by kernel_rfl) (by simp) (fun wa2 hwa2 hRwa2 i hi => ?_)
      have hB2 := hB1.next hwa2
      clear hB1 hwa2 hRwa2
      rcases List.mem_cons.1 hi with rfl | hi
      · refine wpOp_step rfl (fun Kc hKc => ?_)
        go_simp
        have hB3 := hB2.new (g := wa2.heap.size) rfl ((.cells #[.slice none 0 0] 40))
        refine hKc _ _ ⟨(hB3.keep (List.Sublist.cons _ (List.Sublist.cons_cons _ (List.nil_sublist _)))), ?_⟩
        clear hKc Kc hB2
        generalize wa2.heap.size = gA at *
        generalize wa2.alloc _ = wb3 at *
        refine wpAnyE_all (rs := [9]) (by kernel_rfl) (by simp) (fun wa4 hwa4 hRwa4 i hi => ?_)
        have hB4 := hB3.next hwa4
        clear hB3 hwa4 hRwa4
        obtain rfl := List.mem_singleton.1 hi
        refine wpOp_step rfl (fun Kc hKc => ?_)
        go_simp
        have hB5 := hB4.new (g := wa4.heap.size) rfl ((.cells #[.slice none 0 0] 40))
        refine hKc _ _ ⟨(hB5.keep (List.Sublist.cons _ (List.Sublist.cons _ (List.Sublist.cons_cons _ (List.nil_sublist _))))), ?_⟩
        clear hKc Kc hB4
        generalize wa4.heap.size = gB_ at *
        generalize wa4.alloc _ = wb5 at *
        refine wpAnyE_all (rs := [10]) (by kernel_rfl) (by simp) (fun wa6 hwa6 hRwa6 i hi => ?_)
        have hB6 := hB5.next hwa6
        clear hB5 hwa6 hRwa6
        obtain rfl := List.mem_singleton.1 hi
        refine wpOp_step rfl (fun Kc hKc => ?_)
        have c_SA := fun j => cell_of_row _ _ j _ _ _ (hB6.get 1 rfl)
        have z_SA := hB6.lt 1 rfl
        have f_SA := fun j => frozen_of_row _ _ j _ _ (hB6.get 1 rfl)
        go_simp
        have hB7 := hB6.set 1 rfl 0 (.slice (some xa) (gr bs 0).length c0)
        refine hKc _ _ ⟨(hB7.keep (List.Sublist.cons _ (List.Sublist.cons _ (List.Sublist.cons_cons _ (List.nil_sublist _))))), ?_⟩
        clear c_SA z_SA f_SA hKc Kc hB6
        generalize wa6.setCell _ _ = wb7 at *
        refine wpAnyE_all (rs := [11]) (by kernel_rfl) (by simp) (fun wa8 hwa8 hRwa8 i hi => ?_)
        have hB8 := hB7.next hwa8
        clear hB7 hwa8 hRwa8
        obtain rfl := List.mem_singleton.1 hi
        refine wpOp_step rfl (fun Kc hKc => ?_)
        have c_SB := fun j => cell_of_row _ _ j _ _ _ (hB8.get 0 rfl)
        have z_SB := hB8.lt 0 rfl
        have f_SB := fun j => frozen_of_row _ _ j _ _ (hB8.get 0 rfl)
        go_simp
        have hB9 := hB8.set 0 rfl 0 (.slice (some ya) (gr bs 1).length c1)
        refine hKc _ _ ⟨(hB9.keep (List.Sublist.cons _ (List.Sublist.cons _ (List.Sublist.cons_cons _ (List.nil_sublist _))))), ?_⟩
        clear c_SB z_SB f_SB hKc Kc hB8
        generalize wa8.setCell _ _ = wb9 at *
        refine wpAnyE_done (by kernel_rfl) (fun wd10 hwd10 hRwd10 => ?_) _
        refine NoPanic.normal ?_
        have hB10 := hB9.next hwd10
        clear hB9 hwd10 hRwd10
        have ca := cell_of_row _ _ 0 _ _ _ (hB10.get 1 rfl)
        have cb := cell_of_row _ _ 0 _ _ _ (hB10.get 0 rfl)
        have HS := Lib.hid (show SBox _ _ _ xa ya (gr bs 0).length (gr bs 1).length c0 c1 from ⟨ca, cb, hB10.lt 1 rfl, hB10.lt 0 rfl⟩)
        have HE := Lib.hid hB10.below
        clear ca cb hB10
        go_wp2_with fail
        go_meet
        exact ⟨_, _, rfl, rfl, HE.out, HS.out⟩
      · obtain rfl := List.mem_singleton.1 hi
        refine wpOp_step rfl (fun Kc hKc => ?_)
        go_simp
        have hB3 := hB2.new (g := wa2.heap.size) rfl ((.cells #[.slice none 0 0] 40))
        refine hKc _ _ ⟨(hB3.keep (List.Sublist.cons _ (List.Sublist.cons_cons _ (List.nil_sublist _)))), ?_⟩
        clear hKc Kc hB2
        generalize wa2.heap.size = gB_ at *
        generalize wa2.alloc _ = wb11 at *
        refine wpAnyE_all (rs := [8]) (by kernel_rfl) (by simp) (fun wa12 hwa12 hRwa12 i hi => ?_)
        have hB4 := hB3.next hwa12
        clear hB3 hwa12 hRwa12
        obtain rfl := List.mem_singleton.1 hi
        refine wpOp_step rfl (fun Kc hKc => ?_)
        go_simp
        have hB5 := hB4.new (g := wa12.heap.size) rfl ((.cells #[.slice none 0 0] 40))
        refine hKc _ _ ⟨(hB5.keep (List.Sublist.cons _ (List.Sublist.cons _ (List.Sublist.cons_cons _ (List.nil_sublist _))))), ?_⟩
        clear hKc Kc hB4
        generalize wa12.heap.size = gA at *
        generalize wa12.alloc _ = wb13 at *
        refine wpAnyE_all (rs := [10]) (by kernel_rfl) (by simp) (fun wa14 hwa14 hRwa14 i hi => ?_)
        have hB6 := hB5.next hwa14
        clear hB5 hwa14 hRwa14
        obtain rfl := List.mem_singleton.1 hi
        refine wpOp_step rfl (fun Kc hKc => ?_)
        have c_SA := fun j => cell_of_row _ _ j _ _ _ (hB6.get 0 rfl)
        have z_SA := hB6.lt 0 rfl
        have f_SA := fun j => frozen_of_row _ _ j _ _ (hB6.get 0 rfl)
        go_simp
        have hB7 := hB6.set 0 rfl 0 (.slice (some xa) (gr bs 0).length c0)
        refine hKc _ _ ⟨(hB7.keep (List.Sublist.cons _ (List.Sublist.cons _ (List.Sublist.cons_cons _ (List.nil_sublist _))))), ?_⟩
        clear c_SA z_SA f_SA hKc Kc hB6
        generalize wa14.setCell _ _ = wb15 at *
        refine wpAnyE_all (rs := [11]) (by kernel_rfl) (by simp) (fun wa16 hwa16 hRwa16 i hi => ?_)
        have hB8 := hB7.next hwa16
        clear hB7 hwa16 hRwa16
        obtain rfl := List.mem_singleton.1 hi
        refine wpOp_step rfl (fun Kc hKc => ?_)
        have c_SB := fun j => cell_of_row _ _ j _ _ _ (hB8.get 1 rfl)
        have z_SB := hB8.lt 1 rfl
        have f_SB := fun j => frozen_of_row _ _ j _ _ (hB8.get 1 rfl)
        go_simp
        have hB9 := hB8.set 1 rfl 0 (.slice (some ya) (gr bs 1).length c1)
        refine hKc _ _ ⟨(hB9.keep (List.Sublist.cons _ (List.Sublist.cons _ (List.Sublist.cons_cons _ (List.nil_sublist _))))), ?_⟩
        clear c_SB z_SB f_SB hKc Kc hB8
        generalize wa16.setCell _ _ = wb17 at *
        refine wpAnyE_done (by kernel_rfl) (fun wd18 hwd18 hRwd18 => ?_) _
        refine NoPanic.normal ?_
        have hB10 := hB9.next hwd18
        clear hB9 hwd18 hRwd18
        have ca := cell_of_row _ _ 0 _ _ _ (hB10.get 0 rfl)
        have cb := cell_of_row _ _ 0 _ _ _ (hB10.get 1 rfl)
        have HS := Lib.hid (show SBox _ _ _ xa ya (gr bs 0).length (gr bs 1).length c0 c1 from ⟨ca, cb, hB10.lt 0 rfl, hB10.lt 1 rfl⟩)
        have HE := Lib.hid hB10.below
        clear ca cb hB10
        go_wp2_with fail
        go_meet
        exact ⟨_, _, rfl, rfl, HE.out, HS.out⟩
  case rest =>
    as_aux_lemma =>
      obtain ⟨ga, gb, rfl, rfl, hbc, hSB⟩ := hcut
      generalize wc = w1 at *
      have HB1 := Lib.hid hbc
      have HSB := Lib.hid hSB
      have HVB := Lib.hid (HVL.out.next hbc)
      have ca := hSB.a
      have la := hSB.la
      have hmk : ∀ w, Sem.run Try.prog (Instr.makeSlice 40 (.int .i64 ((gr bs 0).length : Int)) (.int .i64 ((gr bs 0).length : Int))) w = .ok (.slice (some ⟨w.heap.size, 0, none⟩) (gr bs 0).length (gr bs 0).length) (w.alloc (.cells (madeCells #[.int .i64 0] (gr bs 0).length) 3)) := run_make_row' (P := Try.prog) 40 3 (.int .i64 0) 8 Try.underlying40 info3 rfl .i64 .i64 (gr bs 0).length (by have := HN.out; omega) (by have := HN.out; omega)
      clear hbc hSB HBX HVL
      go_upto_region 3 with fail
      have hM2 := (Mx.of_bx (Bx.start w1)).lit (madeCells #[.int .i64 0] (gr bs 0).length) 3 1 (gr bs 0).length (by have := HN.out; unfold maxLen; omega) (by simp [madeCells])
      rw [zeros_row] at hM2
      clear ca la hmk
      have HM2 := Lib.hid hM2
      clear hM2
      generalize hgO : w1.heap.size = gO at HM2 ⊢
      generalize w1.alloc _ = w2 at *
      clear hgO
      go_wp2_with fail
      go_loopw [7, 27] (fun yv s wr => ∃ (k : Nat) (o : List Int), k ≤ (gr bs 0).length ∧ s = .int .i64 k ∧ yv = .int .i64 (sumTo (gi (gr bs 1)) k) ∧ o.length = (gr bs 0).length ∧ (∀ j, j < k → gi o j = (j : Int)) ∧ Mx w1 [] [⟨.slice (some ⟨gO, 0, none⟩) (gr bs 0).length (gr bs 0).length, 3, 1, (gr bs 0).length, intsV o⟩] wr) (fun _ s _ => (gr bs 0).length - (intOf s).toNat)
      case atStart => exact ⟨0, _, Nat.zero_le _, rfl, rfl, by simp, fun j hj => by omega, HM2.out⟩
      case round =>
        as_aux_lemma =>
        obtain ⟨k, o, hk, rfl, rfl, hol, hoi, hMr⟩ := hrel
        clear HM2
        have HOL := Lib.hid hol
        have HOI := Lib.hid hoi
        clear hol hoi
        by_cases hlt : k < (gr bs 0).length
        rotate_left
        · obtain rfl : k = (gr bs 0).length := by omega
          have eo : o = intsOfN (List.range (gr bs 0).length) := gi_ext (by rw [HOL.out, intsOfN_len, List.length_range]) fun j hj => by
            have hj : j < (gr bs 0).length := by rw [← HOL.out]; exact hj
            rw [HOI.out j hj, intsOfN_at (by simpa using hj)]; simp
          have HR := Lib.hid (show wr.ownsRow w1.heap.size 3 1 (.slice (some ⟨gO, 0, none⟩) (List.range (gr bs 0).length).length (gr bs 0).length) (List.range (gr bs 0).length).length (cellsN (List.range (gr bs 0).length)) by
            have := hMr.row 0 rfl
            rw [eo] at this
            rw [List.length_range, ← intsV_ofN]; exact this)
          have HBW := Lib.hid hMr.below
          have HCM := Lib.hid (show CmpAt w1.heap.size w1 (.pointer (some ⟨ga, 0, none⟩)) (.pointer (some ⟨gb, 0, none⟩)) (gr bs 0).length (fun g h => gi (gr bs 0) h * gi (gr bs 1) g - gi (gr bs 0) g * gi (gr bs 1) h) from fun g h W hg hh hW => by
            have sb := HSB.out.next hW
            exact scmp_any bs ad c0 c1 xa ya ga gb g h W (HVB.out.next hW) HMO.out ⟨sb.a, sb.la⟩ ⟨sb.b, sb.lb⟩ hg hh)
          have hst := stable_any w1.heap.size (gr bs 0).length w1 _ _ _ HCM gO (gr bs 0).length (List.range (gr bs 0).length) (by have := HN.out; rw [List.length_range]; omega) (by have := HN.out; rw [List.length_range]; omega) (fun x hx => by simpa using hx) wr HBW.out HBW.out.size HR.out
          have elt : ltOf (fun g h => gi (gr bs 0) h * gi (gr bs 1) g - gi (gr bs 0) g * gi (gr bs 1) h) = mlt (gr bs 0) (gr bs 1) := by
            funext g h
            unfold ltOf mlt
            refine decide_eq_decide.2 ?_
            show gi (gr bs 0) h * gi (gr bs 1) g - gi (gr bs 0) g * gi (gr bs 1) h < 0 ↔ _
            omega
          rw [elt, List.length_range] at hst
          have HSO := Lib.hid hst
          clear hst elt eo HR HCM HOL HOI hMr hlt hk
          go_wp2_with fail
          refine HSO.out.mono ?_
          rintro e w5 ⟨rfl, hb5, hr5⟩
          have HO := Lib.hid hr5
          have HB5 := Lib.hid hb5
          clear HSO hb5 hr5 HBW
          obtain ⟨bsum, hbs⟩ : ∃ x, x = sumTo (gi (gr bs 1)) (gr bs 0).length := ⟨_, rfl⟩
          rw [← hbs]
          have HBS := Lib.hid hbs
          clear hbs
          go_upto_region 11 with fail
          go_cut [9] (fun s9 wx => ∃ g9, s9 = .slice (some ⟨g9, 0, none⟩) (gr bs 0).length (gr bs 0).length ∧ Mx w5 [] [⟨.slice (some ⟨g9, 0, none⟩) (gr bs 0).length (gr bs 0).length, 36, 2, (gr bs 0).length, ratV (List.replicate (gr bs 0).length ⟨0, 1⟩)⟩] wx)
          case first =>
            as_aux_lemma =>
              have hM5 := Mx.of_bx (Bx.start w5)
              have HSB5 := Lib.hid (HSB.out.next HB5.out)
              refine wp_region_R (Bx w5 []) 6 (by kernel_rfl) (by rfl) ((hM5.keep (List.nil_sublist _)).drew) (fun wq19 hbq => ?_)
              have hB131 := hM5.next hbq
              clear hM5 hbq
              refine wpAnyE_goR (Bx.grows _ _) (hB131.keep (List.nil_sublist _)) [0, 2, 3] 3 (by kernel_rfl) ?_
              apply Exists.intro
              refine ⟨fun G hG hN => ?_, ?_⟩
              · have ca := fun (e : GE (Bx w5 []) G) => (HSB5.out.next (GE.h e).below).a
                have la := fun (e : GE (Bx w5 []) G) => (HSB5.out.next (GE.h e).below).la
                simp only [pickOps, List.getElem?_toArray, List.getElem?_cons_zero, List.getElem?_cons_succ]
                repeat (first | go_big_quiet_step ((first | (go_at_call 34; exact calls_ge (Bx.grows _ _) hG (mwhole_any _ _)))) | quiet_step ((first | (go_at_call 34; exact calls_ge (Bx.grows _ _) hG (mwhole_any _ _)))))
                exact wpQuiet_nil rfl
              refine wpAnyE_all (rs := [1]) (by kernel_rfl) (by simp) (fun wa20 hwa20 hRwa20 i hi => ?_)
              have hB132 := hB131.next hwa20
              clear hB131 hwa20 hRwa20
              obtain rfl := List.mem_singleton.1 hi
              refine wpOp_step rfl (fun Kc hKc => ?_)
              go_simp
              have hB133 := hB132.new (g := wa20.heap.size) rfl (.cells #[.int .i64 0, .int .i64 1] 36)
              refine hKc _ _ ⟨(hB133.keep (List.nil_sublist _)), ?_⟩
              clear hKc Kc hB132
              generalize wa20.heap.size = gL at *
              generalize wa20.alloc _ = wb21 at *
              refine wpAnyE_all (rs := [4]) (by kernel_rfl) (by simp) (fun wa22 hwa22 hRwa22 i hi => ?_)
              have hB134 := hB133.next hwa22
              clear hB133 hwa22 hRwa22
              obtain rfl := List.mem_singleton.1 hi
              refine wpOp_step rfl (fun Kc hKc => ?_)
              go_simp
              refine Calls.mono (repeat_any ⟨0, 1⟩ _ 1 (gr bs 0).length wa22 (QIn.one (hB134.get 0 rfl) (show Rt.wf ⟨0, 1⟩ from ⟨by decide, by decide, by decide, by decide⟩)) HN.out.2 HN.out.1) ?_
              rintro e wv23 ⟨g9, rfl, hm9⟩
              have hB135 := hB134.addR hm9.below ⟨.slice (some ⟨g9, 0, none⟩) (gr bs 0).length (gr bs 0).length, 36, 2, (gr bs 0).length, ratV (List.replicate (gr bs 0).length ⟨0, 1⟩)⟩ (hm9.row 0 rfl)
              clear hm9
              refine hKc _ _ ⟨(hB135.keep (List.nil_sublist _)), ?_⟩
              clear hKc Kc hB134
              refine wpAnyE_goR (Bx.grows _ _) (hB135.keep (List.nil_sublist _)) [5] 0 (by kernel_rfl) ?_
              apply Exists.intro
              refine ⟨fun G hG hN => ?_, ?_⟩
              · have ca := fun (e : GE (Bx w5 []) G) => (HSB5.out.next (GE.h e).below).a
                have la := fun (e : GE (Bx w5 []) G) => (HSB5.out.next (GE.h e).below).la
                simp only [pickOps, List.getElem?_toArray, List.getElem?_cons_zero, List.getElem?_cons_succ]
                repeat (first | go_big_quiet_step ((first | (go_at_call 34; exact calls_ge (Bx.grows _ _) hG (mwhole_any _ _)))) | quiet_step ((first | (go_at_call 34; exact calls_ge (Bx.grows _ _) hG (mwhole_any _ _)))))
                exact wpQuiet_nil rfl
              refine wpAnyE_done (by kernel_rfl) (fun wd24 hwd24 hRwd24 => ?_) _
              refine NoPanic.normal ?_
              have hB136 := hB135.next hwd24
              clear hB135 hwd24 hRwd24
              have HZ := Lib.hid hB136.drop
              clear hB136
              go_wp2_with fail
              go_meet
              exact ⟨_, rfl, HZ.out⟩
          case rest =>
            as_aux_lemma =>
              obtain ⟨g9, rfl, hM6⟩ := hcut
              have HM6 := Lib.hid hM6
              have HSB5 := Lib.hid (HSB.out.next HB5.out)
              have HVB5 := Lib.hid (HVB.out.next HB5.out)
              have HE5 := Lib.hid (below_below HB1.out HB5.out)
              have HOC := Lib.hid (fun (W : World) (hW : Below w5.heap.size w5 W) (k : Nat) (hk : k < (gr bs 0).length) => show W.cell? ⟨gO, k, none⟩ = some (.int .i64 (mo (gr bs 0) (gr bs 1) (gr bs 0).length k : Int)) ∧ gO < W.heap.size from by
                have lt := (own_ge' HO.out gO rfl).2
                have c := (HO.out.cellAt k (by omega)).trans (cellsN_at (l := mord (gr bs 0) (gr bs 1) (gr bs 0).length) (mord_get hk))
                exact ⟨(hW.cell (p := ⟨gO, k, none⟩) lt).trans c, Nat.lt_of_lt_of_le lt hW.size⟩)
              clear hM6 HSB HVB HO HB5 HB1
              go_wp2_with fail
              go_loopw [6, 7, 51] (fun mv yv s wr => ∃ (k : Nat) (l : List Rt), k ≤ mtt (gr bs 0) (gr bs 1) (gr bs 0).length ∧ s = .int .i64 k ∧ mv = .int .i64 (mM (mA (gr bs 0) (gr bs 1) (gr bs 0).length) k) ∧ yv = .int .i64 (mY (mB (gr bs 0) (gr bs 1) (gr bs 0).length) (gr bs 0).length k) ∧ l.length = (gr bs 0).length ∧ (∀ j, j < (gr bs 0).length → gR l (mo (gr bs 0) (gr bs 1) (gr bs 0).length j) = if j < k then ⟨1, 1⟩ else ⟨0, 1⟩) ∧ Mx w5 [] [⟨.slice (some ⟨g9, 0, none⟩) (gr bs 0).length (gr bs 0).length, 36, 2, (gr bs 0).length, ratV l⟩] wr) (fun _ _ s _ => (gr bs 0).length - (intOf s).toNat)
              case atStart =>
                refine ⟨0, _, Nat.zero_le _, rfl, rfl, ?_, by simp, fun j hj => ?_, HM6.out⟩
                · rw [HBS.out, mY_zero, show (mB (gr bs 0) (gr bs 1) (gr bs 0).length) = fun k => gi (gr bs 1) (gn (mord (gr bs 0) (gr bs 1) (gr bs 0).length) k) from rfl, sumTo_perm (mord_perm (gr bs 0) (gr bs 1) (gr bs 0).length)]
                · rw [gR_get (by simpa using mo_lt hj), List.getElem_replicate]; rfl
              case round =>
                as_aux_lemma =>
                obtain ⟨k, l, hk, rfl, rfl, rfl, hll, hlv, hMr⟩ := hrel
                clear HM6 HBS
                have at_ := HMO.out.desc.at_ hk
                have hkn := at_.1
                have lt := mo_lt (a := gr bs 0) (b := gr bs 1) hkn
                have HA := Lib.hid (show (nK (mA (gr bs 0) (gr bs 1) (gr bs 0).length) (mB (gr bs 0) (gr bs 1) (gr bs 0).length) (gr bs 0).length k ≤ 0 → k = mtt (gr bs 0) (gr bs 1) (gr bs 0).length ∧ (0 < mM (mA (gr bs 0) (gr bs 1) (gr bs 0).length) k ∨ (mM (mA (gr bs 0) (gr bs 1) (gr bs 0).length) k = 0 ∧ gi (gr bs 0) (mo (gr bs 0) (gr bs 1) (gr bs 0).length k) = 0))) ∧ (0 < nK (mA (gr bs 0) (gr bs 1) (gr bs 0).length) (mB (gr bs 0) (gr bs 1) (gr bs 0).length) (gr bs 0).length k → gi (gr bs 0) (mo (gr bs 0) (gr bs 1) (gr bs 0).length k) ≠ 0) ∧ (0 < nK (mA (gr bs 0) (gr bs 1) (gr bs 0).length) (mB (gr bs 0) (gr bs 1) (gr bs 0).length) (gr bs 0).length k → nK (mA (gr bs 0) (gr bs 1) (gr bs 0).length) (mB (gr bs 0) (gr bs 1) (gr bs 0).length) (gr bs 0).length k < dK (mA (gr bs 0) (gr bs 1) (gr bs 0).length) (mB (gr bs 0) (gr bs 1) (gr bs 0).length) k → k = mtt (gr bs 0) (gr bs 1) (gr bs 0).length) ∧ (0 < nK (mA (gr bs 0) (gr bs 1) (gr bs 0).length) (mB (gr bs 0) (gr bs 1) (gr bs 0).length) (gr bs 0).length k → dK (mA (gr bs 0) (gr bs 1) (gr bs 0).length) (mB (gr bs 0) (gr bs 1) (gr bs 0).length) k ≤ nK (mA (gr bs 0) (gr bs 1) (gr bs 0).length) (mB (gr bs 0) (gr bs 1) (gr bs 0).length) (gr bs 0).length k → k + 1 ≤ mtt (gr bs 0) (gr bs 1) (gr bs 0).length) from at_.2)
                have HLL := Lib.hid hll
                have HLV := Lib.hid hlv
                have HMK := Lib.hid (show mo (gr bs 0) (gr bs 1) (gr bs 0).length k < (gr bs 0).length ∧ mo (gr bs 0) (gr bs 1) (gr bs 0).length k < (gr bs 1).length by rw [HL.out]; exact ⟨lt, lt⟩)
                have va := HMO.out.a0 _ lt
                have vb := HMO.out.b0 _ lt
                have mb := HMO.out.m_bd (k := k) (by omega)
                have mb1 := (HMO.out.m_bd (k := k + 1) (by omega)).1
                have yb := (HMO.out.m_bd (k := k + 1) (by omega)).2
                have y0 := HMO.out.desc.y0 (k := k + 1) (by omega)
                have m0 := HMO.out.desc.m0 (k := k) (by omega)
                have ey : mY (mB (gr bs 0) (gr bs 1) (gr bs 0).length) (gr bs 0).length (k + 1) = mY (mB (gr bs 0) (gr bs 1) (gr bs 0).length) (gr bs 0).length k - gi (gr bs 1) (mo (gr bs 0) (gr bs 1) (gr bs 0).length k) := mY_succ _ _ _
                have em : mM (mA (gr bs 0) (gr bs 1) (gr bs 0).length) (k + 1) = mM (mA (gr bs 0) (gr bs 1) (gr bs 0).length) k + gi (gr bs 0) (mo (gr bs 0) (gr bs 1) (gr bs 0).length k) := mM_succ _ _
                have HNK := Lib.hid (show nK (mA (gr bs 0) (gr bs 1) (gr bs 0).length) (mB (gr bs 0) (gr bs 1) (gr bs 0).length) (gr bs 0).length k = gi (gr bs 0) (mo (gr bs 0) (gr bs 1) (gr bs 0).length k) * (mY (mB (gr bs 0) (gr bs 1) (gr bs 0).length) (gr bs 0).length (k + 1) + gi (gr bs 1) (mo (gr bs 0) (gr bs 1) (gr bs 0).length k)) - gi (gr bs 1) (mo (gr bs 0) (gr bs 1) (gr bs 0).length k) * mM (mA (gr bs 0) (gr bs 1) (gr bs 0).length) k by
                  show gi (gr bs 0) (mo (gr bs 0) (gr bs 1) (gr bs 0).length k) * mY (mB (gr bs 0) (gr bs 1) (gr bs 0).length) (gr bs 0).length k - gi (gr bs 1) (mo (gr bs 0) (gr bs 1) (gr bs 0).length k) * mM (mA (gr bs 0) (gr bs 1) (gr bs 0).length) k = _
                  rw [show mY (mB (gr bs 0) (gr bs 1) (gr bs 0).length) (gr bs 0).length (k + 1) + gi (gr bs 1) (mo (gr bs 0) (gr bs 1) (gr bs 0).length k) = mY (mB (gr bs 0) (gr bs 1) (gr bs 0).length) (gr bs 0).length k by omega])
                have HDK := Lib.hid (show dK (mA (gr bs 0) (gr bs 1) (gr bs 0).length) (mB (gr bs 0) (gr bs 1) (gr bs 0).length) k = 2 * gi (gr bs 0) (mo (gr bs 0) (gr bs 1) (gr bs 0).length k) * gi (gr bs 1) (mo (gr bs 0) (gr bs 1) (gr bs 0).length k) from rfl)
                have HP := Lib.hid (And.intro (prod_le (p := 1000) (q := 11000) va.1 va.2 (show 0 ≤ mY (mB (gr bs 0) (gr bs 1) (gr bs 0).length) (gr bs 0).length (k + 1) + gi (gr bs 1) (mo (gr bs 0) (gr bs 1) (gr bs 0).length k) by omega) (by omega)) (And.intro (prodI va vb) (And.intro (prod_le (p := 1000) (q := 10000) vb.1 vb.2 m0 mb.1) (And.intro va (And.intro vb (And.intro (And.intro y0 yb) (And.intro m0 mb.1)))))))
                have HEM := Lib.hid (And.intro ey (And.intro em mb1))
                have HKN := Lib.hid (show (k : Int) ≤ 10 ∧ k < (gr bs 0).length by have := HN.out; omega)
                have HME := Lib.hid (And.intro (Nat.succ_le_of_lt hkn) (Nat.sub_lt_sub_left hkn (Nat.lt_succ_self k)))
                have q0 : decide (k < (gr bs 0).length) = true := decide_eq_true hkn
                have q1 : decide ((k : Int) < ((gr bs 0).length : Int)) = true := decide_eq_true (by omega)
                have z1 : (k : Int) < ((gr bs 0).length : Int) := by omega
                have z3 : (0 : Int) ≤ (k : Int) := by omega
                have z6 : (mo (gr bs 0) (gr bs 1) (gr bs 0).length k : Int) < ((gr bs 0).length : Int) := by have := HMK.out; omega
                have z7 : (mo (gr bs 0) (gr bs 1) (gr bs 0).length k : Int) < ((gr bs 1).length : Int) := by have := HMK.out; omega
                have z8 : (0 : Int) ≤ (mo (gr bs 0) (gr bs 1) (gr bs 0).length k : Int) := by omega
                have oc := HOC.out wr hMr.below k hkn
                have sb := HSB5.out.next hMr.below
                have o0 := oc.1
                have ob := oc.2
                have ca := sb.a
                have la := sb.la
                have cb := sb.b
                have lb := sb.lb
                have ha := (HVB5.out.next hMr.below).r0 _ HMK.out.1
                have hb_ := (HVB5.out.next hMr.below).r1 _ HMK.out.2
                have u0 := ha.1
                have ub0 := ha.2
                have v0 := hb_.1
                have vb0 := hb_.2
                clear hk hkn at_ lt hll hlv va vb mb mb1 yb y0 m0 ey em oc sb ha hb_
                generalize hmk : mo (gr bs 0) (gr bs 1) (gr bs 0).length k = mk at *
                have HMO_ := Lib.hid hmk
                clear hmk
                generalize hp : gi (gr bs 0) mk = p at *
                generalize hq : gi (gr bs 1) mk = q at *
                generalize hbb : mY (mB (gr bs 0) (gr bs 1) (gr bs 0).length) (gr bs 0).length (k + 1) = bb at *
                have HBB := Lib.hid hbb
                clear hbb
                generalize mY (mB (gr bs 0) (gr bs 1) (gr bs 0).length) (gr bs 0).length k = b0 at *
                generalize haa : mM (mA (gr bs 0) (gr bs 1) (gr bs 0).length) (k + 1) = aa1 at *
                have HAA := Lib.hid haa
                clear haa
                generalize mM (mA (gr bs 0) (gr bs 1) (gr bs 0).length) k = aa at *
                have y1 : IntKind.i64.wrap (b0 - q) = bb := (IntWalk.i64_in _ (by have := HP.out; have := HEM.out; omega)).trans (by have := HEM.out; omega)
                have y2 : wrap64 (b0 - q) = bb := (IntWalk.wrap64_in _ (by have := HP.out; have := HEM.out; omega)).trans (by have := HEM.out; omega)
                have HY := Lib.hid (show (wrap64 (bb + q) = bb + q ∧ IntKind.i64.wrap (bb + q) = bb + q) ∧ (wrap64 (p * (bb + q)) = p * (bb + q) ∧ IntKind.i64.wrap (p * (bb + q)) = p * (bb + q)) ∧ (wrap64 (q * aa) = q * aa ∧ IntKind.i64.wrap (q * aa) = q * aa) ∧ (wrap64 (p * (bb + q) - q * aa) = p * (bb + q) - q * aa ∧ IntKind.i64.wrap (p * (bb + q) - q * aa) = p * (bb + q) - q * aa) ∧ (wrap64 (2 * p) = 2 * p ∧ IntKind.i64.wrap (2 * p) = 2 * p) ∧ (wrap64 (2 * p * q) = 2 * p * q ∧ IntKind.i64.wrap (2 * p * q) = 2 * p * q) by
                  have h := HP.out
                  have e2 : 2 * p * q = 2 * (p * q) := by rw [Int.mul_assoc]
                  refine ⟨⟨IntWalk.wrap64_in _ (by omega), IntWalk.i64_in _ (by omega)⟩, ⟨IntWalk.wrap64_in _ (by omega), IntWalk.i64_in _ (by omega)⟩, ⟨IntWalk.wrap64_in _ (by omega), IntWalk.i64_in _ (by omega)⟩, ⟨IntWalk.wrap64_in _ (by omega), IntWalk.i64_in _ (by omega)⟩, ⟨IntWalk.wrap64_in _ (by omega), IntWalk.i64_in _ (by omega)⟩, ⟨IntWalk.wrap64_in _ (by omega), IntWalk.i64_in _ (by omega)⟩⟩)
                have HAY := Lib.hid (show wrap64 (aa + p) = aa1 ∧ IntKind.i64.wrap (aa + p) = aa1 by
                  have := HP.out; have e := HEM.out
                  exact ⟨(IntWalk.wrap64_in _ (by omega)).trans e.2.1.symm, (IntWalk.i64_in _ (by omega)).trans e.2.1.symm⟩)
                have HKY := Lib.hid (show wrap64 ((k : Int) + 1) = (k : Int) + 1 ∧ IntKind.i64.wrap ((k : Int) + 1) = (k : Int) + 1 from ⟨IntWalk.wrap64_in _ (by have := HKN.out; omega), IntWalk.i64_in _ (by have := HKN.out; omega)⟩)
                go_upto_region 16 with fail
                obtain ⟨⟨a1, a2⟩, ⟨a3, a4⟩, ⟨a5, a6⟩, ⟨a7, a8⟩, ⟨a9, a10⟩, ⟨a11, a12⟩⟩ := HY.out
                clear y1 y2 o0 ob
                refine wp_region_ext (by kernel_rfl) (by kernel_rfl) ?_
                repeat (first | go_big_quiet_step (fail) | quiet_step (fail))
                refine wpQuiet_nil ?_
                rintro w2 ⟨⟨_, hb⟩, rfl⟩
                have hN := hMr.next hb
                have HRN := Lib.hid (show -10000000 ≤ p * (bb + q) - q * aa ∧ p * (bb + q) - q * aa ≤ 11000000 ∧ 0 ≤ 2 * p * q ∧ 2 * p * q ≤ 2000000 by
                  have h := HP.out
                  have e2 : 2 * p * q = 2 * (p * q) := by rw [Int.mul_assoc]
                  omega)
                clear hb hMr u0 ub0 v0 vb0 ca la cb lb a1 a2 a3 a4 a5 a6 a7 a8 a9 a10 a11 a12 HY
                generalize p * (bb + q) - q * aa = N at *
                generalize 2 * p * q = D at *
                have HA2 := Lib.hid (show (N ≤ 0 → k = mtt (gr bs 0) (gr bs 1) (gr bs 0).length ∧ (0 < aa ∨ (aa = 0 ∧ p = 0))) ∧ (0 < N → p ≠ 0) ∧ (0 < N → N < D → k = mtt (gr bs 0) (gr bs 1) (gr bs 0).length) ∧ (0 < N → D ≤ N → k + 1 ≤ mtt (gr bs 0) (gr bs 1) (gr bs 0).length) by
                  have h := HA.out
                  rw [HNK.out, HDK.out] at h
                  exact h)
                have HEND := Lib.hid (fun (l' : List Rt) (hl' : l'.length = (gr bs 0).length) (ek : k = mtt (gr bs 0) (gr bs 1) (gr bs 0).length) (hv : ∀ j, j < (gr bs 0).length → gR l' (mo (gr bs 0) (gr bs 1) (gr bs 0).length j) = if j < k then ⟨1, 1⟩ else if j = k then mX (gr bs 0) (gr bs 1) (gr bs 0).length else ⟨0, 1⟩) => show l' = mSh (gr bs 0) (gr bs 1) (gr bs 0).length from splitR_of hl' (fun j hj => by rw [hv j hj, ek]))
                have HX0 := Lib.hid (fun (ek : k = mtt (gr bs 0) (gr bs 1) (gr bs 0).length) (h : N ≤ 0) => show mX (gr bs 0) (gr bs 1) (gr bs 0).length = ⟨0, 1⟩ by
                  have e := HNK.out
                  rw [ek] at e
                  unfold mX
                  rw [if_pos (by rw [e]; exact h)])
                have HX1 := Lib.hid (fun (ek : k = mtt (gr bs 0) (gr bs 1) (gr bs 0).length) (h : 0 < N) => show mX (gr bs 0) (gr bs 1) (gr bs 0).length = makeR N D by
                  have e := HNK.out
                  have f := HDK.out
                  rw [ek] at e f
                  unfold mX
                  rw [if_neg (by rw [e]; omega), e, f])
                have sb := HSB5.out.next hN.below
                have ca := sb.a
                have la := sb.la
                have ha := (HVB5.out.next hN.below).r0 _ HMK.out.1
                have u0 := ha.1
                have ub0 := ha.2
                rw [hp] at u0
                clear sb ha HA HNK HDK HP
                by_cases c1 : N ≤ 0
                · obtain ⟨ek, wy⟩ := HA2.out.1 c1
                  have d1 : decide (N ≤ 0) = true := decide_eq_true c1
                  have HLQ := Lib.hid (HEND.out l HLL.out ek (fun j hj => by
                    rw [HLV.out j hj, HX0.out ek c1]
                    split
                    · rfl
                    · split <;> rfl))
                  clear c1 ek HEND HX0 HX1 HLV
                  rcases wy with wy | ⟨wy, wz⟩
                  · have d2 : decide (0 < aa) = true := decide_eq_true wy
                    clear wy
                    have HZ := Lib.hid (own_base HE5.out (hN.row 0 rfl))
                    have HE := Lib.hid (below_below HE5.out hN.below)
                    clear hN u0 ub0 ca la
                    go_wp2_with fail
                    go_ret
                    exact ⟨g9, rfl, by rw [← HLQ.out]; exact HZ.out, HE.out⟩
                  · have d2 : decide (0 < aa) = false := decide_eq_false (by omega)
                    have d3 : (p == 0) = true := beqT wz
                    clear wy wz
                    have HZ := Lib.hid (own_base HE5.out (hN.row 0 rfl))
                    have HE := Lib.hid (below_below HE5.out hN.below)
                    clear hN
                    go_wp2_with fail
                    clear u0 ub0 ca la
                    go_ret
                    exact ⟨g9, rfl, by rw [← HLQ.out]; exact HZ.out, HE.out⟩
                have c1 : 0 < N := by omega
                have d1 : decide (N ≤ 0) = false := decide_eq_false (by omega)
                have hp0 := HA2.out.2.1 c1
                have d3 : (p == 0) = false := beqF hp0
                clear hp0
                by_cases c2 : N < D
                · have ek := HA2.out.2.2.1 c1 c2
                  have d4 : decide (N < D) = true := decide_eq_true c2
                  have HMKN := Lib.hid (fun (W : World) => show Calls Try.prog 64 #[.int .i64 (max 0 N), .int .i64 D] W fun e w' => e = .returned (.tuple #[rV (makeR N D), .int .i64 (makeC N D)]) ∧ Below W.heap.size W w' by
                    rw [show max 0 N = N by omega]
                    exact rmake_any N D (by have := HRN.out; omega) (by have := HRN.out; omega) (by have := HRN.out; omega) (by have := HRN.out; omega) W)
                  have HLQ := Lib.hid (HEND.out (l.set mk (makeR N D)) (by rw [List.length_set]; exact HLL.out) ek (fun j hj => by
                    rw [gR_set (by rw [HLL.out]; exact HMK.out.1), HLV.out j hj]
                    by_cases e : j = k
                    · subst e
                      rw [if_pos HMO_.out, if_neg (by omega), if_pos rfl, HX1.out ek c1]
                    · rw [if_neg (fun q => e (mo_inj hj HKN.out.2 (q.trans HMO_.out.symm))), if_neg e]))
                  clear c2 ek HEND HX0 HX1 HLV
                  have d5 : decide (0 < N) = true := decide_eq_true c1
                  go_wp2_with fail
                  refine (HMKN.out _).mono ?_
                  rintro e w9 ⟨rfl, hb9⟩
                  have hN9 := hN.next hb9
                  clear hb9 hN HMKN u0 ub0 ca la
                  obtain ⟨mk_, hmk_⟩ : ∃ x, x = makeR N D := ⟨_, rfl⟩
                  rw [← hmk_] at HLQ ⊢
                  clear hmk_
                  have rq := hN9.rowQ 0 rfl (k := mk) HMK.out.1 HLL.out.symm
                  have s0 := rq.1
                  have s1 := rq.2.1
                  have sf := rq.2.2.1
                  have sg := rq.2.2.2
                  clear rq
                  have hQ := hN9.setQ 0 rfl mk mk_
                  have HZ := Lib.hid (own_base HE5.out (hQ.row 0 rfl))
                  have HE := Lib.hid (below_below HE5.out hQ.below)
                  clear hQ hN9
                  go_wp2_with fail
                  clear s0 s1 sf sg
                  go_ret
                  exact ⟨g9, rfl, by rw [← HLQ.out]; exact HZ.out, HE.out⟩
                have HK1 := Lib.hid (HA2.out.2.2.2 c1 (by omega))
                have d4 : decide (N < D) = false := decide_eq_false c2
                have HW := Lib.hid (fun W => mwhole_any 1 W)
                have HNX := Lib.hid (show (l.set mk ⟨1, 1⟩).length = (gr bs 0).length ∧ ∀ j, j < (gr bs 0).length → gR (l.set mk ⟨1, 1⟩) (mo (gr bs 0) (gr bs 1) (gr bs 0).length j) = if j < k + 1 then ⟨1, 1⟩ else ⟨0, 1⟩ from ⟨by rw [List.length_set]; exact HLL.out, fun j hj => by
                  rw [gR_set (by rw [HLL.out]; exact HMK.out.1), HLV.out j hj]
                  by_cases e : j = k
                  · subst e
                    rw [if_pos HMO_.out, if_pos (by omega)]
                  · rw [if_neg (fun q => e (mo_inj hj HKN.out.2 (q.trans HMO_.out.symm)))]
                    by_cases f : j < k
                    · rw [if_pos f, if_pos (by omega)]
                    · rw [if_neg f, if_neg (by omega)]⟩)
                clear c2 HEND HX0 HX1 HLV
                go_wp2_with fail
                refine (HW.out _).mono ?_
                rintro e w9 ⟨rfl, hb9⟩
                have hN9 := hN.next hb9
                clear hb9 hN HW u0 ub0 ca la
                have rq := hN9.rowQ 0 rfl (k := mk) HMK.out.1 HLL.out.symm
                have s0 := rq.1
                have s1 := rq.2.1
                have sf := rq.2.2.1
                have sg := rq.2.2.2
                clear rq
                have hQ := hN9.setQ 0 rfl mk ⟨1, 1⟩
                clear hN9
                go_upto_region 21 with fail
                clear s0 s1 sf sg
                generalize (World.setCell _ _ _).setCell _ _ = w10 at *
                have sb := HSB5.out.next hQ.below
                have ca := sb.a
                have la := sb.la
                have ha := (HVB5.out.next hQ.below).r0 _ HMK.out.1
                have u0 := ha.1
                have ub0 := ha.2
                rw [hp] at u0
                clear sb ha
                have HZ := Lib.hid hQ
                clear hQ
                have e1 := HAY.out.1
                have e2 := HAY.out.2
                have e3 := HKY.out.1
                have e4 := HKY.out.2
                go_wp2_with fail
                exact ⟨⟨k + 1, l.set mk ⟨1, 1⟩, HK1.out, by go_num, by rw [HAA.out], by rw [HBB.out], HNX.out.1, HNX.out.2, HZ.out⟩, by simpa [intOf] using HME.out.2⟩
        have HME := Lib.hid (And.intro (Nat.succ_le_of_lt hlt) (Nat.sub_lt_sub_left hlt (Nat.lt_succ_self k)))
        have HYB := Lib.hid (sumTo_bd (f := gi (gr bs 1)) (lo := 0) (hi := 1000) (k := k) (fun i hi => (HMO.out.b0 i (by omega))))
        have HBK := Lib.hid (HMO.out.b0 k hlt)
        have HSE := Lib.hid (show sumTo (gi (gr bs 1)) (k + 1) = sumTo (gi (gr bs 1)) k + gi (gr bs 1) k from rfl)
        have HKN := Lib.hid (show (k : Int) ≤ 10 by have := HN.out; omega)
        have HST := Lib.hid (show (o.set k (k : Int)).length = (gr bs 0).length ∧ ∀ j, j < k + 1 → gi (o.set k (k : Int)) j = (j : Int) from ⟨by rw [List.length_set]; exact HOL.out, fun j hj => by
          rw [gi_set (by rw [HOL.out]; exact hlt)]
          split
          · rename_i e; rw [e]
          · exact HOI.out j (by omega)⟩)
        have q0 : decide (k < (gr bs 0).length) = true := decide_eq_true hlt
        have q1 : decide ((k : Int) < ((gr bs 0).length : Int)) = true := decide_eq_true (by omega)
        have z1 : (k : Int) < ((gr bs 0).length : Int) := by omega
        have z2 : (k : Int) < ((gr bs 1).length : Int) := by have := HL.out; omega
        have z3 : (0 : Int) ≤ (k : Int) := by omega
        have HKL := Lib.hid (show k < (gr bs 1).length by rw [HL.out]; exact hlt)
        have ra := hMr.rowAt 0 rfl
        have sf := ra.2.1
        have sg := ra.2.2
        have sc : wr.cell? ⟨gO, k, none⟩ = some (.int .i64 (gi o k)) := ra.1 _ _ (by omega) (intsV_at (by rw [HOL.out]; exact hlt))
        have hN := hMr.setRow 0 rfl k (.int .i64 (k : Int))
        simp only [intsV_set] at hN
        clear ra hk hlt HOI HOL hMr
        go_upto_region 8 with fail
        clear sf sg sc
        generalize World.setCell _ _ _ = w3 at *
        have sb := HSB.out.next hN.below
        have cb := sb.b
        have lb := sb.lb
        have vk := (HVB.out.next hN.below).r1 k HKL.out
        have v0 := vk.1
        have vb0 := vk.2
        clear sb vk
        generalize hyk : sumTo (gi (gr bs 1)) k = yk at *
        generalize hbk : gi (gr bs 1) k = bk at *
        have y1 : IntKind.i64.wrap (yk + bk) = yk + bk := IntWalk.i64_in _ (by have := HYB.out; have := HBK.out; have := HKN.out; omega)
        have y2 : wrap64 (yk + bk) = yk + bk := IntWalk.wrap64_in _ (by have := HYB.out; have := HBK.out; have := HKN.out; omega)
        have y3 : IntKind.i64.wrap ((k : Int) + 1) = (k : Int) + 1 := IntWalk.i64_in _ (by have := HKN.out; omega)
        have y4 : wrap64 ((k : Int) + 1) = (k : Int) + 1 := IntWalk.wrap64_in _ (by have := HKN.out; omega)
        have HZ := Lib.hid hN
        clear hN
        go_wp2_with fail
        exact ⟨⟨k + 1, o.set k (k : Int), HME.out.1, by go_num, by rw [HSE.out], HST.out.1, HST.out.2, HZ.out⟩, by simpa [intOf] using HME.out.2⟩
end Go.Proofs.Ytpijllobpohpgaa
