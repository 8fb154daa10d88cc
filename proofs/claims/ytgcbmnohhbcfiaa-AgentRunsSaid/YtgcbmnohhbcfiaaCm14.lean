/- The library's Clone of a list of integers, walked. -/
import Derived.Test.YtgcbmnohhbcfiaaCm10
import Derived.Test.YtgcbmnohhbcfiaaShelf
import Derived.Test.YtgcbmnohhbcfiaaCm13
import Derived.Test.YtgcbmnohhbcfiaaCm11
import Derived.Test.YtgcbmnohhbcfiaaCm9
namespace Go.Proofs.Ytgcbmnohhbcfiaa
open Go.RowKit Go.Deep
set_option linter.unusedVariables false
set_option linter.unusedSimpArgs false

set_option maxHeartbeats 1000000 in
theorem clone_any (A : Option Addr) (c : Nat) (xs : List Int) (w : World) (hx : Ints w.heap.size w A xs) (hm : xs.length ≤ 1000000) :
    Calls Try.prog 79 #[.slice A xs.length c] w fun e w' => ∃ v, e = .returned v ∧ w'.ownsRow w.heap.size 3 1 v xs.length (xs.map (Value.int .i64)) ∧ Below w.heap.size w w' := by
  obtain ⟨i0, hi0, hz0, hz1, hz2⟩ := info_parts info3
  have hnil := fun w => Lib.run_eql_slice_nil (P := Try.prog) w 22 3 A xs.length c 0 0 Try.underlying22
  have HX := Lib.hid hx
  rcases A with _ | ad
  · have hl : xs = [] := by
      rcases Nat.eq_zero_or_pos xs.length with h0 | h0
      · exact List.eq_nil_of_length_eq_zero h0
      · obtain ⟨ad, h, _⟩ := hx h0; cases h
    subst hl
    clear hx hnil
    have hnil := fun w => Lib.run_eql_slice_nil (P := Try.prog) w 22 3 none 0 c 0 0 Try.underlying22
    go_enter Try.func79, Try.ntmps79
    go_wp2
    go_ret
    exact ⟨_, rfl, World.ownsRow_nil _ _ _ _, Below.refl _ _⟩
  · clear hx
    go_enter Try.func79, Try.ntmps79
    go_wp2_with (at_builtin; refine wpList_append_any _ rfl (.tmp 5) (.tmp 6) 22 rfl w.heap.size 3 i0 (.int .i64 0) 1 8 Try.underlying22 hi0 hz0 hz1 hz2 rfl (by omega) (.slice (some ⟨w.heap.size, 0, none⟩) 0 0) 0 [] rfl (World.ownsRow_lit w #[] 0 (Nat.le_refl _) (by unfold maxLen; omega) rfl) w.heap.size (some ad) xs.length c (xs.map (Value.int .i64)) rfl (HX.out.reads.alloc (Nat.le_refl _) _) (one_cells xs) (by unfold maxLen; omega) (by omega) (by simp) ?_; intro v1 w1 hown1 hg1 hat1)
    go_ret
    refine ⟨v1, rfl, by simpa using hown1, (one_alloc' _ _).grown hg1 (by simp) (fun k hk => ?_)⟩
    simp [Value.ownBlock] at hk
    omega
end Go.Proofs.Ytgcbmnohhbcfiaa

namespace Go.Proofs.Ytgcbmnohhbcfiaa
open Go.RowKit Go.Deep
set_option linter.unusedVariables false
set_option linter.unusedSimpArgs false

def setL (cs : Array Value) : Nat → List Value → Array Value
  | _, [] => cs
  | o, v :: r => setL (cs.setIfInBounds o v) (o + 1) r
theorem setL_size : ∀ (vs : List Value) (cs : Array Value) (o : Nat), (setL cs o vs).size = cs.size
  | [], _, _ => rfl
  | v :: r, cs, o => by rw [setL, setL_size r]; simp
theorem setL_at : ∀ (vs : List Value) (cs : Array Value) (o j : Nat), o + vs.length ≤ cs.size → (setL cs o vs)[j]? = if o ≤ j ∧ j < o + vs.length then vs[j - o]? else cs[j]?
  | [], cs, o, j, _ => by rw [setL, if_neg (by simp <;> omega)]
  | v :: r, cs, o, j, h => by
    have hl : (v :: r).length = r.length + 1 := rfl
    rw [setL, setL_at r _ _ _ (by simp; omega), hl]
    by_cases e : o = j
    · subst e
      rw [if_neg (by omega), if_pos (by omega), Array.getElem?_setIfInBounds_self_of_lt (by omega)]; simp
    · rw [Array.getElem?_setIfInBounds_ne e]
      by_cases q : o + 1 ≤ j ∧ j < o + 1 + r.length
      · rw [if_pos q, if_pos (by omega), show j - o = (j - (o + 1)) + 1 by omega]; rfl
      · rw [if_neg q, if_neg (by omega)]
theorem heap_setCells {g : Nat} {t : TypeId} {fr : Nat × Nat} : ∀ (vs : List Value) (o : Nat) (w : World) (cs : Array Value), w.heap[g]? = some (.cells cs t fr) → (w.setCells g o vs).heap[g]? = some (.cells (setL cs o vs) t fr)
  | [], _, _, _, h => h
  | v :: r, o, w, cs, h => by rw [World.setCells, setL]; exact heap_setCells r _ _ _ (heap_set h)
theorem heap_setCells_ne {g g' : Nat} (hne : g' ≠ g) : ∀ (vs : List Value) (o : Nat) (w : World), (w.setCells g o vs).heap[g']? = w.heap[g']?
  | [], _, _ => rfl
  | v :: r, o, w => by rw [World.setCells, heap_setCells_ne hne r]; exact heap_set_ne hne
theorem size_setCells_ (g : Nat) : ∀ (vs : List Value) (o : Nat) (w : World), (w.setCells g o vs).heap.size = w.heap.size
  | [], _, _ => rfl
  | v :: r, o, w => by rw [World.setCells, size_setCells_ g r]; simp
theorem kept_setCells (g : Nat) : ∀ (vs : List Value) (o : Nat) (w : World), (w.setCells g o vs).os = w.os ∧ (w.setCells g o vs).tape = w.tape ∧ (w.setCells g o vs).output = w.output
  | [], _, _ => ⟨rfl, rfl, rfl⟩
  | v :: r, o, w => by rw [World.setCells]; exact kept_setCells g r _ _
theorem compact_len (l : List Int) : (Lib.compact l).length ≤ l.length := by
  have := nLen_le ⟨0, [], l⟩ l.length
  have e := compact_dens ⟨0, [], l⟩
  simp only at e
  rw [e]; exact this
theorem compact_any (v : Value) (l : List Int) (W : World) (B : Nat) (ho : W.ownsRow B 3 1 v l.length (intsV l)) (hl : l.length ≤ 1000) :
    Calls Try.prog 78 #[v] W fun e w' => ∃ v', e = .returned v' ∧ w'.ownsRow B 3 1 v' (Lib.compact l).length (intsV (Lib.compact l)) ∧ W.grownBy w' v.ownBlock ∧ v'.ownBlock = v.ownBlock := by
  rcases ho.2 with ⟨rfl, hn⟩ | ⟨g, cap, cur, rfl, hg, hh, h1, h2, h3, h4⟩
  · obtain rfl : l = [] := List.eq_nil_of_length_eq_zero hn
    refine (Try.slices_Compact_int_empty none 0 W).mono ?_
    rintro e w' ⟨rfl, rfl⟩
    exact ⟨_, rfl, World.ownsRow_nil _ _ _ _, World.grownBy.refl _ _, rfl⟩
  · simp only [Nat.mul_one] at h3 h4
    have hcell : ∀ j, j < l.length → W.cell? ⟨g, 0 + j, none⟩ = some (.int .i64 (l.getD j 0)) := fun j hj => by
      rw [Nat.zero_add, cell_of_row _ _ _ _ _ _ hh, ← Array.getElem?_toList]
      have e : (cur.toList.take l.length)[j]? = (intsV l)[j]? := by rw [h4]
      rw [List.getElem?_take, if_pos hj] at e
      rw [e, intsV_at hj]; rfl
    have hfr : ∀ j, j < l.length → W.frozen? ⟨g, 0 + j, none⟩ = false := fun j _ => by rw [Nat.zero_add]; exact frozen_of_row _ _ _ _ _ hh
    refine (Try.slices_Compact_int_cells g 0 l.length cap l W (Nat.le_refl _) (by omega) h1 hcell hfr).mono ?_
    rintro e w' ⟨rfl, q, rfl⟩
    rw [List.take_length]
    have cl := compact_len l
    obtain ⟨vs, hvs⟩ : ∃ vs, vs = (Lib.compact l ++ List.replicate (l.length - (Lib.compact l).length) 0).map (Value.int .i64) := ⟨_, rfl⟩
    rw [← hvs]
    have hvl : vs.length = l.length := by rw [hvs]; simp; omega
    have hq : (W.drewN q).heap[g]? = some (.cells cur 3 (0, 0)) := hh
    refine ⟨_, rfl, ⟨by simp, Or.inr ⟨g, cap, _, rfl, hg, heap_setCells vs 0 _ cur hq, by omega, h2, by rw [setL_size]; omega, ?_⟩⟩, ?_, rfl⟩
    · apply List.ext_getElem?
      intro j
      rw [List.getElem?_take, Array.getElem?_toList, Nat.mul_one]
      by_cases hj : j < (Lib.compact l).length
      · rw [if_pos hj, setL_at _ _ _ _ (by omega), if_pos (by omega), hvs, Nat.sub_zero, List.map_append, List.getElem?_append_left (by simpa using hj)]
      · rw [if_neg hj, List.getElem?_eq_none (by simp; omega)]
    · have kp := kept_setCells g vs 0 (W.drewN q)
      refine ⟨kp.1, kp.2.1, kp.2.2, by rw [size_setCells_]; exact Nat.le_refl _, fun k hk hne => ?_⟩
      rw [heap_setCells_ne (fun e => hne (by rw [e]; rfl))]; rfl
end Go.Proofs.Ytgcbmnohhbcfiaa

namespace Go.Proofs.Ytgcbmnohhbcfiaa
open Go.RowKit Go.Deep
set_option linter.unusedVariables false
set_option linter.unusedSimpArgs false

theorem Mz.addI {α : Type} {k : Kd α} {B : Nat} {l : List α} {xs : List Value} {v : Value} {w W W0 : World} {L : List (Nat × Obj)} {R : List Rw} (h : Mz k B l xs v w L R W0) (hb : Below W0.heap.size W0 W) {u : Value} {m : List Int} (ho : W.ownsRow W0.heap.size 3 1 u m.length (intsV m)) : Mz k B l xs v w L (iR u m :: R) W := h.addR hb (iR u m) ho
/-- A cake of two rows that are apart from a third. -/
theorem Mx.sepCk {w W : World} {L : List (Nat × Obj)} {R : List Rw} {K : Ck} {A S : Option Addr} {c d : Nat} {r : Rw} (h : Mx w L R W) (i i1 i2 : Nat) (hi : R[i]? = some r) (h1 : R[i1]? = some (iR (.slice A K.cuts.length c) K.cuts)) (h2 : R[i2]? = some (iR (.slice S K.dens.length d) K.dens))
    (n1 : i1 ≠ i) (n2 : i2 ≠ i) (w0 : -9223372036854775808 ≤ K.len) (w1 : K.len ≤ 9223372036854775807) : Sep w.heap.size W r.v.ownBlock.toList (fun V => kCk.El V K [.int .i64 K.len, .slice A K.cuts.length c, .slice S K.dens.length d]) := by
  intro V hs hk
  have o1 := h.row i1 h1
  have o2 := h.row i2 h2
  have a1 := fun g e => h.apart2 i1 i h1 hi n1 (g := g) e
  have a2 := fun g e => h.apart2 i2 i h2 hi n2 (g := g) e
  obtain ⟨_, _, e1, l1, m1⟩ := own_nil_len o1
  obtain ⟨_, _, e2, l2, m2⟩ := own_nil_len o2
  obtain ⟨rfl, _, rfl⟩ := Value.slice.inj e1
  obtain ⟨rfl, _, rfl⟩ := Value.slice.inj e2
  have p1 : V.ownsRow w.heap.size 3 1 (.slice A K.cuts.length c) K.cuts.length (intsV K.cuts) := ownsRow_block o1 (fun g e => hk g (own_ge' o1 g e).1 (own_ge' o1 g e).2 (a1 g e))
  have p2 : V.ownsRow w.heap.size 3 1 (.slice S K.dens.length d) K.dens.length (intsV K.dens) := ownsRow_block o2 (fun g e => hk g (own_ge' o2 g e).1 (own_ge' o2 g e).2 (a2 g e))
  exact ⟨A, c, S, d, rfl, (Ints.of_own p1).1, (Ints.of_own p2).1, l1, m1, l2, m2, w0, w1⟩
set_option maxRecDepth 100000 in
set_option maxHeartbeats 16000000 in
theorem copied_any (ks : List Ck) (A : Option Addr) (c : Nat) (w : World) (h : CsIn w.heap.size w A c ks) (hn : ks.length ≤ 1000) (hs : ∀ (i : Nat) (K : Ck), ks[i]? = some K → K.cuts.length ≤ 1000 ∧ K.dens.length ≤ 1000) :
    Calls Try.prog 114 #[.slice A ks.length c] w fun e w' => ∃ v, e = .returned v ∧ CsOwn w.heap.size w' v ks ∧ Below w.heap.size w w' := by
  obtain ⟨i0, hi0, hz0, hz1, hz2⟩ := info_parts infoCk
  have HH := Lib.hid (fun (W : World) (hW : Below w.heap.size w W) => h.next hW)
  have HS := Lib.hid hs
  clear h hs
  go_enter Try.func114, Try.ntmps114
  go_wp2_with fail
  go_loopw [3, 8] (fun s3 s8 wr => ∃ (k : Nat) (v : Value), k ≤ ks.length ∧ v = s3 ∧ s8 = .int .i64 k ∧ CsOwn w.heap.size wr v (ks.take k) ∧ Below w.heap.size w wr) (fun _ s8 _ => ks.length - (intOf s8).toNat)
  case atStart => exact ⟨0, _, Nat.zero_le _, rfl, rfl, CsOwn.nil _ _, Below.refl _ _⟩
  case round =>
    obtain ⟨k, v, hk, rfl, rfl, ho, hB⟩ := hrel
    by_cases hlt : k < ks.length
    rotate_left
    · obtain rfl : k = ks.length := by omega
      rw [List.take_length] at ho
      have HO := Lib.hid ho
      have HBw := Lib.hid hB
      clear ho hB hk hlt HH HS
      go_wp2_with fail
      go_ret
      exact ⟨_, rfl, HO.out, HBw.out⟩
    obtain ⟨K, hK⟩ : ∃ K, ks[k]? = some K := ⟨_, List.getElem?_eq_getElem hlt⟩
    obtain ⟨ad, P, p, R, r, rfl, hb0, hC, d0, d1, d2⟩ := (HH.out _ (Below.refl _ _)).cake hK
    have hb1 : (ad.add (k * 3)).block < w.heap.size := by rw [block_add]; exact hb0
    have hb := Nat.lt_of_lt_of_le hb0 hB.size
    have c0 := (hB.cell hb1).trans d0
    have c1 := (hB.cell (p := ⟨(ad.add (k * 3)).block, (ad.add (k * 3)).off + 1, none⟩) hb1).trans d1
    have c2 := (hB.cell (p := ⟨(ad.add (k * 3)).block, (ad.add (k * 3)).off + 2, none⟩) hb1).trans d2
    clear d0 d1 d2 hb0 hb1
    obtain ⟨z1, z2, z3, z4⟩ := idx_facts hlt (by omega)
    have hsz := HS.out k K hK
    have l1 := hsz.1
    have l2 := hsz.2
    have HC := Lib.hid hC
    have HLE := Lib.hid (And.intro (Nat.succ_le_of_lt hlt) (Nat.sub_lt_sub_left hlt (Nat.lt_succ_self k)))
    have HLK := Lib.hid (show (ks.take k).length ≤ 1000 by rw [List.length_take]; omega)
    have HT := Lib.hid (take_next hK)
    obtain ⟨xs, ho, hE⟩ := ho
    have HX := Lib.hid ho.1
    have hM0 := Mx.of_own hB ho
    have HE := Lib.hid hE
    clear ho hE hB hk hlt hC hK HH HS hsz
    go_upto_region 5 with fail
    have hM1 := hM0.new rfl (cB P p R r K)
    have hEb := one_alloc wr (cB P p R r K)
    have hz : Mz kCk w.heap.size (ks.take k) xs v w [(wr.heap.size, cB P p R r K)] [⟨v, 24, 3, (ks.take k).length, xs⟩] _ := ⟨hM1, HE.out.next hEb⟩
    clear hM0 hM1 hEb c0 c1 c2 hb HE
    generalize wr.heap.size = gC at *
    generalize wr.alloc _ = w5 at *
    go_wp2_with fail
    refine wp_region_T (Bx w [(gC, cB P p R r K)]) 13 (by kernel_rfl) (by rfl) ((hz.keep (List.Sublist.cons_cons _ (List.nil_sublist _))).drew) (fun wq1 hbq => ?_)
    have hB1 := hz.next hbq
    clear hz hbq
    refine wpAnyT_go (Bx.grows _ _) (hB1.keep (List.Sublist.cons_cons _ (List.nil_sublist _))) [0, 1, 2, 3, 4, 6, 7] 6 (by kernel_rfl) ?_
    apply Exists.intro
    refine ⟨fun G hG hN => ?_, ?_⟩
    · have c_c := fun (e : GE (Bx w [(gC, cB P p R r K)]) G) j => cell_of_row e.w _ j _ _ _ ((GE.h e).get 0 rfl)
      have z_c := fun (e : GE (Bx w [(gC, cB P p R r K)]) G) => (GE.h e).lt 0 rfl
      simp only [pickOps, List.getElem?_toArray, List.getElem?_cons_zero, List.getElem?_cons_succ]
      repeat (first | go_big_quiet_step (fail) | quiet_step (fail))
      exact wpQuiet_nil rfl
    refine wpAnyT_all (rs := [5]) (by kernel_rfl) (by simp) (fun wa2 hwa2 hRwa2 i hi => ?_)
    have hB2 := hB1.next hwa2
    clear hB1 hwa2 hRwa2
    obtain rfl := List.mem_singleton.1 hi
    refine wpOp_step rfl (fun Kc hKc => ?_)
    go_simp
    refine Calls.mono (clone_any P p K.cuts _ ((HC.out.next hB2.below).cuts) (by omega)) ?_
    rintro e wv3 ⟨v0, rfl, hown, hb⟩
    have hB3 := hB2.addI hb hown
    obtain ⟨A1, c1, rfl, _, _⟩ := own_nil_len hown
    clear hown hb
    refine hKc _ _ ⟨(hB3.keep (List.Sublist.cons_cons _ (List.nil_sublist _))), ?_⟩
    clear hKc Kc hB2
    refine wpAnyT_all (rs := [8]) (by kernel_rfl) (by simp) (fun wa4 hwa4 hRwa4 i hi => ?_)
    have hB4 := hB3.next hwa4
    clear hB3 hwa4 hRwa4
    obtain rfl := List.mem_singleton.1 hi
    refine wpOp_step rfl (fun Kc hKc => ?_)
    go_simp
    refine Calls.mono (clone_any R r K.dens _ ((HC.out.next hB4.below).dens) (by omega)) ?_
    rintro e wv5 ⟨v0, rfl, hown, hb⟩
    have hB5 := hB4.addI hb hown
    obtain ⟨A2, c2, rfl, _, _⟩ := own_nil_len hown
    clear hown hb
    refine hKc _ _ ⟨(hB5.keep (List.Sublist.cons_cons _ (List.nil_sublist _))), ?_⟩
    clear hKc Kc hB4
    refine wpAnyT_go (Bx.grows _ _) (hB5.keep (List.Sublist.cons_cons _ (List.nil_sublist _))) [9] 3 (by kernel_rfl) ?_
    apply Exists.intro
    refine ⟨fun G hG hN => ?_, ?_⟩
    · have c_c := fun (e : GE (Bx w [(gC, cB P p R r K)]) G) j => cell_of_row e.w _ j _ _ _ ((GE.h e).get 0 rfl)
      have z_c := fun (e : GE (Bx w [(gC, cB P p R r K)]) G) => (GE.h e).lt 0 rfl
      simp only [pickOps, List.getElem?_toArray, List.getElem?_cons_zero, List.getElem?_cons_succ]
      repeat (first | go_big_quiet_step (fail) | quiet_step (fail))
      exact wpQuiet_nil rfl
    refine wpAnyT_all (rs := [10]) (by kernel_rfl) (by simp) (fun wa6 hwa6 hRwa6 i hi => ?_)
    have hB6 := hB5.next hwa6
    clear hB5 hwa6 hRwa6
    obtain rfl := List.mem_singleton.1 hi
    refine wpOp_step rfl (fun Kc hKc => ?_)
    go_simp
    have hB7 := hB6.new (g := wa6.heap.size) rfl (.cells #[.int .i64 K.len, .slice A1 K.cuts.length c1, .slice A2 K.dens.length c2] 24)
    refine hKc _ _ ⟨(hB7.keep (List.Sublist.cons _ (List.Sublist.cons_cons _ (List.nil_sublist _)))), ?_⟩
    clear hKc Kc hB6
    generalize wa6.heap.size = gl at *
    generalize wa6.alloc _ = wb7 at *
    refine wpAnyT_all (rs := [11]) (by kernel_rfl) (by simp) (fun wa8 hwa8 hRwa8 i hi => ?_)
    have hB8 := hB7.next hwa8
    clear hB7 hwa8 hRwa8
    obtain rfl := List.mem_singleton.1 hi
    refine wpOp_step rfl (fun Kc hKc => ?_)
    refine step_append_any _ rfl (.tmp 12) (.tmp 22) 73 rfl w.heap.size 24 i0 (.agg #[.int .i64 0, .slice none 0 0, .slice none 0 0]) 3 56 Try.underlying73 hi0 hz0 hz1 hz2 rfl (by omega) v (ks.take k).length xs rfl (hB8.row 2 rfl) _ (some ⟨gl, 0, none⟩) 1 1 [.int .i64 K.len, .slice A1 K.cuts.length c1, .slice A2 K.dens.length c2] rfl (reads_lit (n := 1) (s := 3) (hB8.get 0 rfl) rfl) (one3 _ _ _ _ _ _ _) (by have := HLK.out; unfold maxLen; omega) (by have := HLK.out; omega) hB8.below.size ?_
    intro v2 wb9 hown hgr hat
    have hB9 := hB8.grow 2 rfl hgr hown hat
    refine hKc _ _ ⟨(hB9.keep (List.Sublist.cons _ (List.Sublist.cons_cons _ (List.nil_sublist _)))), ?_⟩
    clear hKc Kc hB8 hown hgr hat
    refine wpAnyT_go (Bx.grows _ _) (hB9.keep (List.Sublist.cons _ (List.Sublist.cons_cons _ (List.nil_sublist _)))) [12] 0 (by kernel_rfl) ?_
    apply Exists.intro
    refine ⟨fun G hG hN => ?_, ?_⟩
    · have c_c := fun (e : GE (Bx w [(gC, cB P p R r K)]) G) j => cell_of_row e.w _ j _ _ _ ((GE.h e).get 0 rfl)
      have z_c := fun (e : GE (Bx w [(gC, cB P p R r K)]) G) => (GE.h e).lt 0 rfl
      simp only [pickOps, List.getElem?_toArray, List.getElem?_cons_zero, List.getElem?_cons_succ]
      repeat (first | go_big_quiet_step (fail) | quiet_step (fail))
      exact wpQuiet_nil rfl
    refine wpAnyT_done (by kernel_rfl) (fun wd10 hwd10 hRwd10 => ?_) _
    refine NoPanic.normal ?_
    have hB10 := hB9.next hwd10
    clear hB9 hwd10 hRwd10
    have HN := Lib.hid (show CsOwn w.heap.size wd10 v2 (ks.take (k + 1)) by
      rw [HT.out]
      refine ⟨_, ?_, (hB10.els.add HX.out (hB10.mx.sepCk 2 1 0 rfl rfl rfl (by decide) (by decide) HC.out.w0 HC.out.w1))⟩
      rw [List.length_append]
      exact hB10.row 2 rfl)
    have HBn := Lib.hid hB10.below
    clear hB10
    go_wp2_with fail
    exact ⟨⟨k + 1, v2, HLE.out.1, rfl, by go_num, HN.out, HBn.out⟩, by simpa [intOf] using HLE.out.2⟩
end Go.Proofs.Ytgcbmnohhbcfiaa

namespace Go.Proofs.Ytgcbmnohhbcfiaa
open Go.RowKit Go.Deep
set_option linter.unusedVariables false
set_option linter.unusedSimpArgs false

set_option maxRecDepth 100000 in
set_option maxHeartbeats 8000000 in
theorem fdcheck_any (ks : List Ck) (A : Option Addr) (c : Nat) (l : List Qy) (B : Option Addr) (d : Nat) (w : World) (h : CsIn w.heap.size w A c ks) (hn : l.length ≤ maxLen) :
    Calls Try.prog 57 #[dV A c ks B d l] w fun e w' => e = .returned (.int .i64 (deskC ks l.length)) ∧ Below w.heap.size w w' := by
  have hm := Nat.le_trans h.len h.cap
  unfold maxLen at hm hn
  have hB0 : Bx w [(w.heap.size, dB A c ks B d l)] (w.alloc (dB A c ks B d l)) := (Bx.start w).new rfl _
  have HH := Lib.hid (fun (W : World) (hW : Below w.heap.size w W) => h.next hW)
  clear h
  have c_d := fun j => cell_of_row _ _ j _ _ _ (hB0.get 0 rfl)
  have z_d := hB0.lt 0 rfl
  have HBw := Lib.hid hB0.below
  by_cases q1 : 6 < ks.length
  · have b1 : decide ((6 : Int) < (ks.length : Int)) = true := decide_eq_true (by omega)
    have HR := Lib.hid (deskC_many (ks := ks) (n := l.length) (Or.inl q1))
    rw [HR.out]
    clear HR q1 HH hB0 hm hn
    go_enter Try.func57, Try.ntmps57
    go_wp2_with fail
    go_ret
    exact ⟨rfl, HBw.out⟩
  have b1 : decide ((6 : Int) < (ks.length : Int)) = false := decide_eq_false (by omega)
  by_cases q2 : 2000 < l.length
  · have b2 : decide ((2000 : Int) < (l.length : Int)) = true := decide_eq_true (by omega)
    have HR := Lib.hid (deskC_many (ks := ks) (n := l.length) (Or.inr q2))
    rw [HR.out]
    clear HR q1 q2 HH hB0 hm hn
    go_enter Try.func57, Try.ntmps57
    go_wp2_with fail
    go_ret
    exact ⟨rfl, HBw.out⟩
  have b2 : decide ((2000 : Int) < (l.length : Int)) = false := decide_eq_false (by omega)
  have HQ := Lib.hid (show ¬ (6 < ks.length ∨ 2000 < l.length) by omega)
  by_cases q3 : ks.length = 0
  · have b3 : ((ks.length : Int) == 0) = true := by simpa using q3
    have HR := Lib.hid (deskC_none HQ.out q3)
    rw [HR.out]
    clear HR q1 q2 q3 HH hB0 hm hn HQ
    go_enter Try.func57, Try.ntmps57
    go_wp2_with fail
    go_ret
    exact ⟨rfl, HBw.out⟩
  have b3 : ((ks.length : Int) == 0) = false := by simpa using q3
  have HP := Lib.hid q3
  clear q1 q2 q3 hn
  go_enter Try.func57, Try.ntmps57
  go_wp2_with fail
  clear b1 b2 b3 c_d z_d
  go_loopw [3] (fun s3 wr => ∃ k : Nat, k ≤ ks.length ∧ s3 = .int .i64 k ∧ Hid (∀ (j : Nat) (L : Ck), j < k → ks[j]? = some L → L.code = 0) ∧ Bx w [(w.heap.size, dB A c ks B d l)] wr) (fun s3 _ => ks.length - (intOf s3).toNat)
  case atStart => exact ⟨0, Nat.zero_le _, rfl, fun j L hj => by omega, hB0⟩
  case round =>
    obtain ⟨k, hk, rfl, hno, hBr⟩ := hrel
    clear hB0 HBw
    have c_d := fun j => cell_of_row _ _ j _ _ _ (hBr.get 0 rfl)
    have z_d := hBr.lt 0 rfl
    by_cases hlt : k < ks.length
    rotate_left
    · obtain rfl : k = ks.length := by omega
      have HZ := Lib.hid (show ∀ (i : Nat) (L : Ck), ks[i]? = some L → L.code = 0 from fun j L hj => hno j L (by rcases Nat.lt_or_ge j ks.length with q | q; exact q; rw [List.getElem?_eq_none q] at hj; cases hj) hj)
      clear hno hk hlt
      go_wp2_with fail
      clear c_d z_d
      go_loopw [4] (fun s4 wr => ∃ k : Nat, k ≤ ks.length ∧ s4 = .int .i64 k ∧ Hid (∀ (j : Nat) (L : Ck), j < k → ks[j]? = some L → L.len = len0 ks) ∧ Bx w [(w.heap.size, dB A c ks B d l)] wr) (fun s4 _ => ks.length - (intOf s4).toNat)
      case atStart => exact ⟨0, Nat.zero_le _, rfl, fun j L hj => by omega, hBr⟩
      case round =>
        clear hBr
        obtain ⟨k, hk, rfl, hno, hBr⟩ := hrel
        have c_d := fun j => cell_of_row _ _ j _ _ _ (hBr.get 0 rfl)
        have z_d := hBr.lt 0 rfl
        have HBw := Lib.hid hBr.below
        by_cases hlt : k < ks.length
        rotate_left
        · obtain rfl : k = ks.length := by omega
          have HR := Lib.hid (deskC_good HQ.out HP.out HZ.out (fun j L hj => hno j L (by rcases Nat.lt_or_ge j ks.length with q | q; exact q; rw [List.getElem?_eq_none q] at hj; cases hj) hj))
          clear hno hk hlt hBr HZ HQ HP HH
          go_wp2_with fail
          go_ret
          exact ⟨ret_int HR.out.symm, HBw.out⟩
        obtain ⟨K, hK⟩ : ∃ K, ks[k]? = some K := ⟨_, List.getElem?_eq_getElem hlt⟩
        obtain ⟨K0, hK0⟩ : ∃ K, ks[0]? = some K := ⟨_, List.getElem?_eq_getElem (by omega)⟩
        obtain ⟨ad, P, p, R, r, rfl, hb, hC, c0, c1, c2⟩ := (HH.out _ hBr.below).cake hK
        obtain ⟨ad', P', p', R', r', e, hb', hC', d0, d1, d2⟩ := (HH.out _ hBr.below).cake hK0
        obtain rfl := Option.some.inj e
        rw [Nat.zero_mul, show ad.add 0 = ad by simp [Addr.add]] at d0
        obtain ⟨z1, z2, z3, z4⟩ := idx_facts hlt hm
        have z0 : (0 : Int) < (ks.length : Int) := by omega
        have f1 : (ad.add (k * 3)).block < wr.heap.size := by rw [block_add]; exact hb
        have HLE := Lib.hid (And.intro (Nat.succ_le_of_lt hlt) (Nat.sub_lt_sub_left hlt (Nat.lt_succ_self k)))
        have HBr := Lib.hid hBr
        by_cases e : K.len = K0.len
        · have b1 : (K.len != K0.len) = false := by simpa using e
          have HN := Lib.hid (show Hid (∀ (j : Nat) (L : Ck), j < k + 1 → ks[j]? = some L → L.len = len0 ks) from fun j L hj hL => by
            rcases Nat.lt_or_ge j k with u | u
            · exact hno j L u hL
            · obtain rfl : j = k := by omega
              rw [hK] at hL; obtain rfl := Option.some.inj hL
              rw [len0_at hK0]; exact e)
          clear hno hk hlt hK hK0 hC hC' hBr HZ HQ HP HH c1 c2 d1 d2 e
          go_wp2_with fail
          refine wp_region_ext (by kernel_rfl) (by kernel_rfl) ?_
          repeat (first | go_big_quiet_step (fail) | quiet_step (fail))
          refine wpQuiet_nil ?_
          rintro _ ⟨⟨w2, hb2⟩, rfl⟩
          have HBr2 := Lib.hid (HBr.out.next hb2)
          clear hb2 HBr hb hb' f1 c0 d0 c_d z_d
          go_wp2_with fail
          exact ⟨⟨k + 1, HLE.out.1, by go_num, HN.out, HBr2.out⟩, by simpa [intOf] using HLE.out.2⟩
        · have b1 : (K.len != K0.len) = true := by simpa using e
          have HR := Lib.hid (deskC_odd HQ.out HZ.out hK (by rw [len0_at hK0]; exact e))
          clear hno hk hlt hK hK0 hC hC' hBr HZ HQ HP HH c1 c2 d1 d2 e
          go_wp2_with fail
          refine wp_region_ext (by kernel_rfl) (by kernel_rfl) ?_
          repeat (first | go_big_quiet_step (fail) | quiet_step (fail))
          refine wpQuiet_nil ?_
          rintro _ ⟨⟨w2, hb2⟩, rfl⟩
          have HBr2 := Lib.hid (HBr.out.next hb2)
          clear hb2 HBr hb hb' f1 c0 d0 c_d z_d
          go_wp2_with fail
          go_ret
          exact ⟨ret_int HR.out.symm, HBr2.out.below⟩
    obtain ⟨K, hK⟩ : ∃ K, ks[k]? = some K := ⟨_, List.getElem?_eq_getElem hlt⟩
    have HCk := Lib.hid (fun (W : World) (hW : Below w.heap.size w W) => (HH.out W hW).cake hK)
    obtain ⟨z1, z2, z3, z4⟩ := idx_facts hlt hm
    have HLE := Lib.hid (And.intro (Nat.succ_le_of_lt hlt) (Nat.sub_lt_sub_left hlt (Nat.lt_succ_self k)))
    obtain ⟨ad, P, p, R, r, rfl, hb, hC, c0, c1, c2⟩ := HCk.out _ hBr.below
    have HC := Lib.hid (fun (W : World) (hW : Below wr.heap.size wr W) => fckcheck_any K P p R r W (hC.next hW))
    have HF := Lib.hid (fun (W : World) (hW : Below wr.heap.size wr W) => show W.cell? (ad.add (k * 3)) = some (.int .i64 K.len) ∧ W.cell? ⟨(ad.add (k * 3)).block, (ad.add (k * 3)).off + 1, none⟩ = some (.slice P K.cuts.length p) ∧ W.cell? ⟨(ad.add (k * 3)).block, (ad.add (k * 3)).off + 2, none⟩ = some (.slice R K.dens.length r) ∧ ad.block < W.heap.size from
      ⟨(hW.cell (by rw [block_add]; exact hb)).trans c0, (hW.cell (p := ⟨(ad.add (k * 3)).block, (ad.add (k * 3)).off + 1, none⟩) (by show (ad.add (k * 3)).block < _; rw [block_add]; exact hb)).trans c1, (hW.cell (p := ⟨(ad.add (k * 3)).block, (ad.add (k * 3)).off + 2, none⟩) (by show (ad.add (k * 3)).block < _; rw [block_add]; exact hb)).trans c2, Nat.lt_of_lt_of_le hb hW.size⟩)
    have HBr := Lib.hid hBr
    by_cases e : K.code = 0
    · have HN := Lib.hid (show Hid (∀ (j : Nat) (L : Ck), j < k + 1 → ks[j]? = some L → L.code = 0) from fun j L hj hL => by
        rcases Nat.lt_or_ge j k with u | u
        · exact hno j L u hL
        · obtain rfl : j = k := by omega
          rw [hK] at hL; obtain rfl := Option.some.inj hL
          exact e)
      rw [e] at HC
      clear hno hk hlt hK hC hBr HQ HP HH e HCk HF
      go_wp2_with fail
      refine (HC.out _ (Below.refl _ _)).mono ?_
      rintro e w1 ⟨rfl, hb1⟩
      have HB1 := Lib.hid (HBr.out.next hb1)
      clear hb1 HBr HC c0 c1 c2 hb c_d z_d
      go_wp2_with fail
      exact ⟨⟨k + 1, HLE.out.1, by go_num, HN.out, HB1.out⟩, by simpa [intOf] using HLE.out.2⟩
    · have HR := Lib.hid (deskC_hit HQ.out hno hK e)
      have b1 : (K.code != 0) = true := by simpa using e
      obtain ⟨code, hco⟩ : ∃ x, x = K.code := ⟨_, rfl⟩
      rw [← hco] at HC b1
      have hco := Lib.hid hco
      clear hno hk hlt hK hC hBr HQ HP HH e HCk
      go_wp2_with fail
      refine (HC.out _ (Below.refl _ _)).mono ?_
      rintro e w1 ⟨rfl, hb1⟩
      have hBr := HBr.out.next hb1
      have HW1 := Lib.hid hb1
      obtain ⟨f0, f1, f2, f3⟩ := HF.out _ hb1
      clear hb1 HBr c0 c1 c2 hb c_d z_d
      have c_d := fun j => cell_of_row _ _ j _ _ _ (hBr.get 0 rfl)
      have z_d := hBr.lt 0 rfl
      have HBr := Lib.hid hBr
      clear hBr HF
      go_wp2_with fail
      refine (HC.out _ HW1.out).mono ?_
      rintro e w2 ⟨rfl, hb2⟩
      have HB2 := Lib.hid (HBr.out.next hb2).below
      clear hb2 HBr HC f0 f1 f2 f3 c_d z_d HW1
      go_wp2_with fail
      go_ret
      exact ⟨ret_int (by rw [HR.out, ← hco.out]), HB2.out⟩
end Go.Proofs.Ytgcbmnohhbcfiaa

namespace Go.Proofs.Ytgcbmnohhbcfiaa
set_option linter.unusedVariables false
set_option linter.unusedSimpArgs false

def kdQ (q : Qy) : Int := if q.kind = 2 then 2 else 1
/-- The log behind k of the queries. -/
def ranTo (ks : List Ck) (qs : List Qy) : Nat → List Qy
  | 0 => []
  | k + 1 => match qs[k]? with
    | none => ranTo ks qs k
    | some q => if askC ks (ranTo ks qs k).length q.agent (kdQ q) q.a q.b = 0 then ranTo ks qs k ++ [⟨q.agent, kdQ q, q.a, q.b, ansR (ckAt ks q.agent) (kdQ q) q.a q.b⟩] else ranTo ks qs k
theorem ranTo_step {ks : List Ck} {qs : List Qy} {k : Nat} {q : Qy} (h : qs[k]? = some q) :
    ranTo ks qs (k + 1) = if askC ks (ranTo ks qs k).length q.agent (kdQ q) q.a q.b = 0 then ranTo ks qs k ++ [⟨q.agent, kdQ q, q.a, q.b, ansR (ckAt ks q.agent) (kdQ q) q.a q.b⟩] else ranTo ks qs k := by
  rw [ranTo]; rw [h]
theorem ranTo_len (ks : List Ck) (qs : List Qy) : ∀ k, (ranTo ks qs k).length ≤ k
  | 0 => Nat.le_refl _
  | k + 1 => by
    have := ranTo_len ks qs k
    rw [ranTo]
    split
    · omega
    · split
      · rw [List.length_append]; simp; omega
      · omega
theorem deskC_le {ks : List Ck} {n m : Nat} (h : n ≤ 2000) (hm : m ≤ 2000) : deskC ks n = deskC ks m := by
  unfold deskC
  by_cases q : 6 < ks.length
  · rw [if_pos (Or.inl q), if_pos (Or.inl q)]
  · rw [if_neg (show ¬ (6 < ks.length ∨ 2000 < n) by omega), if_neg (show ¬ (6 < ks.length ∨ 2000 < m) by omega)]
theorem kdQ_or (q : Qy) : kdQ q = 1 ∨ kdQ q = 2 := by unfold kdQ; split <;> simp
theorem askC_zero {ks : List Ck} {n : Nat} {g kind : Int} {a b : Rt} (h : askC ks n g kind a b = 0) : deskC ks n = 0 ∧ hasB ks.length g = true ∧ ansC (ckAt ks g) kind a b = 0 ∧ n < 2000 := by
  unfold askC at h
  by_cases h1 : deskC ks n ≠ 0
  · rw [if_pos h1] at h; exact absurd h h1
  rw [if_neg h1] at h
  by_cases h2 : hasB ks.length g = false
  · rw [if_pos h2] at h; omega
  rw [if_neg h2] at h
  by_cases h3 : ansC (ckAt ks g) kind a b ≠ 0
  · rw [if_pos h3] at h; exact absurd h h3
  rw [if_neg h3] at h
  by_cases h4 : 2000 ≤ n
  · rw [if_pos h4] at h; omega
  exact ⟨by omega, by simpa using h2, by omega, by omega⟩
theorem askC_of {ks : List Ck} {n : Nat} {g kind : Int} {a b : Rt} (h1 : deskC ks n = 0) (h2 : hasB ks.length g = true) (h3 : ansC (ckAt ks g) kind a b = 0) (h4 : n < 2000) : askC ks n g kind a b = 0 := by
  unfold askC
  rw [if_neg (by omega), if_neg (by simp [h2]), if_neg (by omega), if_neg (by omega)]
theorem ran_right {ks : List Ck} {qs : List Qy} : ∀ k, ∀ (i : Nat) (p : Qy), (ranTo ks qs k)[i]? = some p → rightB ks p = true
  | 0, i, p, h => by simp [ranTo] at h
  | k + 1, i, p, h => by
    rw [ranTo] at h
    split at h
    · exact ran_right k i p h
    · next q hq =>
      split at h
      · next hz =>
        obtain ⟨_, h2, h3, _⟩ := askC_zero hz
        rcases Nat.lt_or_ge i (ranTo ks qs k).length with hl | hl
        · rw [List.getElem?_append_left hl] at h; exact ran_right k i p h
        · rw [List.getElem?_append_right hl] at h
          have hi : i - (ranTo ks qs k).length = 0 := by
            rcases Nat.eq_zero_or_pos (i - (ranTo ks qs k).length) with z | z
            · exact z
            · rw [List.getElem?_eq_none (by simp; omega)] at h; cases h
          rw [hi] at h
          have e := Option.some.inj (h.symm.trans (by rfl : [_][0]? = some _))
          subst e
          unfold rightB
          rcases kdQ_or q with e | e <;> simp [h2, h3, e] at * <;> simp [h3, h2]
      · exact ran_right k i p h
theorem right_has {ks : List Ck} {p : Qy} (h : rightB ks p = true) : 0 ≤ p.agent ∧ p.agent < (ks.length : Int) := by
  simp only [rightB, hasB, Bool.and_eq_true, decide_eq_true_eq] at h
  exact h.1.1.1
theorem right_again {ks : List Ck} {p : Qy} (h : rightB ks p = true) (hd : deskC ks 0 = 0) {n : Nat} (hn : n < 2000) : askC ks n p.agent (kdQ p) p.a p.b = 0 ∧ (⟨p.agent, kdQ p, p.a, p.b, ansR (ckAt ks p.agent) (kdQ p) p.a p.b⟩ : Qy) = p := by
  simp only [rightB, Bool.and_eq_true, Bool.or_eq_true, decide_eq_true_eq] at h
  obtain ⟨⟨⟨h1, h2⟩, h3⟩, h4⟩ := h
  have hk : kdQ p = p.kind := by unfold kdQ; rcases h2 with e | e <;> rw [e] <;> rfl
  rw [hk]
  exact ⟨askC_of (by rw [deskC_le (m := 0) (by omega) (by omega)]; exact hd) h1 h3 hn, Qy.ext_ rfl rfl rfl rfl h4⟩
theorem ran_again {ks : List Ck} {l : List Qy} (hd : deskC ks 0 = 0) (h : ∀ (i : Nat) (p : Qy), l[i]? = some p → rightB ks p = true) (hl : l.length ≤ 1000) : ∀ k, k ≤ l.length → ranTo ks l k = l.take k
  | 0, _ => by simp [ranTo]
  | k + 1, hk => by
    have hq : l[k]? = some l[k] := List.getElem?_eq_getElem (by omega)
    have hr := right_again (h k _ hq) hd (n := (ranTo ks l k).length) (by have := ranTo_len ks l k; omega)
    rw [ranTo_step hq, if_pos hr.1, hr.2, ran_again hd h hl k (by omega)]
    rw [List.take_add_one, hq]; rfl
/-- What the law AskReplays asks of the log. -/
theorem ran_law {ks : List Ck} {qs : List Qy} (hd : deskC ks 0 = 0) (hq : qs.length ≤ 30) {l : List Qy} (hl : l = ranTo ks qs qs.length) :
    l.length ≤ 30 ∧ deskC ks l.length = 0 ∧ repN ks l = l.length ∧ cntSum l l.length ks.length = l.length ∧ ranTo ks l l.length = l := by
  subst hl
  have h1 := ranTo_len ks qs qs.length
  have h2 := ran_right (ks := ks) (qs := qs) qs.length
  refine ⟨by omega, by rw [deskC_le (m := 0) (by omega) (by omega)]; exact hd, repN_all h2, cntSum_all (fun i q hi => right_has (h2 i q hi)) _ (Nat.le_refl _), ?_⟩
  rw [ran_again hd h2 (by omega) _ (Nat.le_refl _), List.take_length]
end Go.Proofs.Ytgcbmnohhbcfiaa
