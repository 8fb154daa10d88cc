/- Actors that are replaced. -/
import Derived.Test.YtgcbmnohhbcfiabAgL
namespace Go.Proofs.Ytgcbmnohhbcfiab
open Go.RowKit Go.Deep
set_option linter.unusedVariables false
set_option linter.unusedSimpArgs false

/-- A slice as the values of its cells, and as a list. -/
theorem AsIn.lay {B : Nat} {w : World} {A : Option Addr} {c : Nat} {l : List Ac} (h : RIn kAc B w A c l) : ∃ xs, Reads w B 8 A l.length xs ∧ Lay kAc w l xs ∧ ∀ u ∈ xs, u.oneCell' = true := by
  obtain ⟨xs, hr, hx⟩ := RIn.reads h
  refine ⟨xs, hr, hx, fun u hu => ?_⟩
  obtain ⟨m, hm⟩ := List.getElem?_of_mem hu
  have hl : xs.length = l.length * 8 := hr.1
  have hlt := set_lt hm
  have hi : m / 8 < l.length := by omega
  obtain ⟨vs, hE, hv⟩ := hx (m / 8) _ (List.getElem?_eq_getElem hi)
  have hw : vs.length = 8 := kAc.wide hE
  have hj : m % 8 < vs.length := by rw [hw]; omega
  have e := hv (m % 8) _ (List.getElem?_eq_getElem hj)
  have em : m / 8 * kAc.s + m % 8 = m := by show m / 8 * 8 + m % 8 = m; omega
  rw [em, hm] at e
  obtain rfl := Option.some.inj e
  obtain ⟨A', c', R, d, A2, c2, R2, d2, hvs, _⟩ := hE
  subst hvs
  exact one8 _ _ _ _ _ _ _ _ _ _ (List.getElem_mem hj)
/-- Rows that are the call's own, but whose elements hang on the arguments. -/
theorem lay_set {w : World} {l : List Ac} {xs ys vs : List Value} {i : Nat} {a : Ac} (h : Lay kAc w l xs) (hi : i < l.length) (hx : xs.length = l.length * 8) (hv : kAc.El w a vs) (hy : ys = ((((((((xs.set (i * 8) (vs.getD 0 (.bool false))).set (i * 8 + 1) (vs.getD 1 (.bool false))).set (i * 8 + 2) (vs.getD 2 (.bool false))).set (i * 8 + 3) (vs.getD 3 (.bool false))).set (i * 8 + 4) (vs.getD 4 (.bool false))).set (i * 8 + 5) (vs.getD 5 (.bool false))).set (i * 8 + 6) (vs.getD 6 (.bool false))).set (i * 8 + 7) (vs.getD 7 (.bool false)))) : Lay kAc w (l.set i a) ys := by
  have hw : vs.length = 8 := kAc.wide hv
  have hb : (i + 1) * 8 ≤ l.length * 8 := Nat.mul_le_mul_right _ hi
  subst hy
  refine h.setAt (vs := vs) hi hv (fun j u hu => ?_) (fun m hm => ?_)
  · have hj := set_lt hu
    show _ = some u
    rw [show kAc.s = 8 from rfl]
    have hg : ∀ q, vs.getD q (.bool false) = (vs[q]?).getD (.bool false) := fun q => List.getD_eq_getElem?_getD
    simp only [hg]
    match j, hj, hu with
    | 0, _, hu => simp only [List.getElem?_set]; simp; rw [hu]; simp; omega
    | 1, _, hu => simp only [List.getElem?_set]; simp; rw [hu]; simp; omega
    | 2, _, hu => simp only [List.getElem?_set]; simp; rw [hu]; simp; omega
    | 3, _, hu => simp only [List.getElem?_set]; simp; rw [hu]; simp; omega
    | 4, _, hu => simp only [List.getElem?_set]; simp; rw [hu]; simp; omega
    | 5, _, hu => simp only [List.getElem?_set]; simp; rw [hu]; simp; omega
    | 6, _, hu => simp only [List.getElem?_set]; simp; rw [hu]; simp; omega
    | 7, _, hu => simp only [List.getElem?_set]; simp; rw [hu]; simp; omega
    | j + 8, hj, _ => omega
  · have hm : m < i * 8 ∨ i * 8 + 8 ≤ m := hm
    rw [List.getElem?_set_ne (by omega), List.getElem?_set_ne (by omega), List.getElem?_set_ne (by omega), List.getElem?_set_ne (by omega), List.getElem?_set_ne (by omega), List.getElem?_set_ne (by omega), List.getElem?_set_ne (by omega), List.getElem?_set_ne (by omega)]
theorem reads_next {w W : World} {s n : Nat} {A : Option Addr} {xs : List Value} (h : Reads w w.heap.size s A n xs) (hb : Below w.heap.size w W) : Reads W W.heap.size s A n xs := ⟨h.1, fun h0 => by
  obtain ⟨ad, e, hlt, hc⟩ := h.2 h0
  exact ⟨ad, e, Nat.lt_of_lt_of_le hlt hb.size, fun j u hu => (hb.cell (by rw [block_add]; exact hlt)).trans (hc j u hu)⟩⟩
set_option maxRecDepth 100000 in
set_option maxHeartbeats 16000000 in
theorem replaced_any (as_ bs : List Ac) (S : Option Addr) (s : Nat) (T : Option Addr) (t : Nat) (i : Nat) (a : Ac) (w : World) (h : AsIn w.heap.size w S s as_) (k : AsIn w.heap.size w T t bs) (ha : as_[i]? = some a) (hi : i < bs.length) (hn : bs.length ≤ 10) (hna : as_.length ≤ 10) :
    Calls Try.prog 10 #[.slice S as_.length s, .slice T bs.length t, .int .i64 (i : Int)] w fun e w' => ∃ A c, e = .returned (.slice A bs.length c) ∧ AsIn w'.heap.size w' A c (bs.set i a) ∧ Below w.heap.size w w' := by
  obtain ⟨i0, hi0, hz0, hz1, hz2⟩ := info_parts infoAc
  have hM0 : Mx w [] [⟨.slice (some ⟨w.heap.size, 0, none⟩) 0 0, 43, 8, 0, []⟩] (w.alloc (.cells #[] 43)) := (Mx.of_bx (Bx.start w)).addR (one_alloc w (.cells #[] 43)) ⟨.slice (some ⟨w.heap.size, 0, none⟩) 0 0, 43, 8, 0, []⟩ (World.ownsRow_lit w #[] 0 (Nat.le_refl _) (by unfold maxLen; omega) rfl)
  have hW := one_alloc w (.cells #[] 43)
  obtain ⟨xs, hrd0, hly, h1⟩ := AsIn.lay k
  have hrd : Reads (w.alloc (.cells #[] 43)) (w.alloc (.cells #[] 43)).heap.size 8 T bs.length xs := reads_next hrd0 hW
  obtain ⟨ad, A, c, R, d, A', c', R', d', rfl, hb, hC, hC', hwf, hat⟩ := h.actor ha
  have HEl := Lib.hid (show kAc.El w a (acL a A c R d A' c' R' d') from ⟨A, c, R, d, A', c', R', d', rfl, hC, hC', hwf⟩)
  have HAT := Lib.hid (fun (W : World) (hW : Below w.heap.size w W) => And.intro (hat.next hb hW) (Nat.lt_of_lt_of_le hb hW.size))
  have hal := set_lt ha
  have HLY := Lib.hid hly
  clear hat hC hC' hwf hb h k ha hly hrd0
  go_enter Try.func10, Try.ntmps10
  go_upto_region 2 with (at_builtin; refine wpList_append_any _ rfl (.tmp 8) (.tmp 9) 22 rfl w.heap.size 43 i0 (.agg #[.int .i64 0, .slice none 0 0, .slice none 0 0, .int .i64 0, .slice none 0 0, .slice none 0 0, .int .i64 0, .int .i64 0]) 8 128 Try.underlying22 hi0 hz0 hz1 hz2 rfl (by omega) (.slice (some ⟨w.heap.size, 0, none⟩) 0 0) 0 [] rfl (hM0.row 0 rfl) _ T bs.length t xs rfl hrd h1 (by unfold maxLen; omega) (by omega) hM0.below.size ?_; intro v' W1 hown hgr hat)
  have hM1 := hM0.grow 0 rfl hgr hown hat
  simp only [Nat.zero_add, List.nil_append] at hM1
  obtain ⟨A9, c9, rfl, _, _⟩ := own_nil_len (v := v') (n := bs.length) (by have := hM1.row 0 rfl; exact this)
  obtain ⟨gR, rfl⟩ := own_someA (by have := hM1.row 0 rfl; exact this) (show 0 < bs.length by omega)
  clear hown hgr hat hM0 hrd h1
  have hr := hM1.row 0 rfl
  have hxl : xs.length = bs.length * 8 := hr.1
  have hib : (i + 1) * 8 ≤ bs.length * 8 := Nat.mul_le_mul_right _ hi
  have r1 := fun (j : Nat) (hj : j < bs.length * 8) (u : Value) (hu : xs[j]? = some u) => ((show W1.ownsRow w.heap.size 43 8 (.slice (some ⟨gR, 0, none⟩) bs.length c9) bs.length xs from hr).cellAt j hj).trans hu
  obtain ⟨u0, hu0⟩ : ∃ u, xs[i * 8]? = some u := ⟨_, List.getElem?_eq_getElem (by omega)⟩
  have x0 := r1 (i * 8) (by omega) u0 hu0
  obtain ⟨u1, hu1⟩ : ∃ u, xs[i * 8 + 1]? = some u := ⟨_, List.getElem?_eq_getElem (by omega)⟩
  have x1 := r1 (i * 8 + 1) (by omega) u1 hu1
  obtain ⟨u2, hu2⟩ : ∃ u, xs[i * 8 + 2]? = some u := ⟨_, List.getElem?_eq_getElem (by omega)⟩
  have x2 := r1 (i * 8 + 2) (by omega) u2 hu2
  obtain ⟨u3, hu3⟩ : ∃ u, xs[i * 8 + 3]? = some u := ⟨_, List.getElem?_eq_getElem (by omega)⟩
  have x3 := r1 (i * 8 + 3) (by omega) u3 hu3
  obtain ⟨u4, hu4⟩ : ∃ u, xs[i * 8 + 4]? = some u := ⟨_, List.getElem?_eq_getElem (by omega)⟩
  have x4 := r1 (i * 8 + 4) (by omega) u4 hu4
  obtain ⟨u5, hu5⟩ : ∃ u, xs[i * 8 + 5]? = some u := ⟨_, List.getElem?_eq_getElem (by omega)⟩
  have x5 := r1 (i * 8 + 5) (by omega) u5 hu5
  obtain ⟨u6, hu6⟩ : ∃ u, xs[i * 8 + 6]? = some u := ⟨_, List.getElem?_eq_getElem (by omega)⟩
  have x6 := r1 (i * 8 + 6) (by omega) u6 hu6
  obtain ⟨u7, hu7⟩ : ∃ u, xs[i * 8 + 7]? = some u := ⟨_, List.getElem?_eq_getElem (by omega)⟩
  have x7 := r1 (i * 8 + 7) (by omega) u7 hu7
  clear hu0 hu1 hu2 hu3 hu4 hu5 hu6 hu7
  have r2 := fun j => (show W1.ownsRow w.heap.size 43 8 (.slice (some ⟨gR, 0, none⟩) bs.length c9) bs.length xs from hr).frozenAt j
  have r3 : gR < W1.heap.size := (own_ge' (show W1.ownsRow w.heap.size 43 8 (.slice (some ⟨gR, 0, none⟩) bs.length c9) bs.length xs from hr) gR rfl).2
  obtain ⟨⟨c0, c1, c2, c3, c4, c5, c6, c7⟩, hbA⟩ := HAT.out _ hM1.below
  obtain ⟨z1, z2, _, _⟩ := idx_facts hal (by omega : as_.length ≤ 9223372036854775807)
  obtain ⟨y1, y2, _, _⟩ := idx_facts hi (by omega)
  have HIB := Lib.hid (And.intro hi hxl)
  clear r1 hr hal hi hib hxl
  go_upto_region 3 with fail
  have hS0 : Mx w [] [⟨.slice (some ⟨gR, 0, none⟩) bs.length c9, 43, 8, bs.length, xs⟩] W1 := hM1
  have hS := ((((((((hS0.setRowA 0 rfl (i * 8) (.int .i64 a.own.len)).setRowA 0 rfl (i * 8 + 1) (.slice A a.own.cuts.length c)).setRowA 0 rfl (i * 8 + 2) (.slice R a.own.dens.length d)).setRowA 0 rfl (i * 8 + 3) (.int .i64 a.told.len)).setRowA 0 rfl (i * 8 + 4) (.slice A' a.told.cuts.length c')).setRowA 0 rfl (i * 8 + 5) (.slice R' a.told.dens.length d')).setRowA 0 rfl (i * 8 + 6) (.int .i64 a.after)).setRowA 0 rfl (i * 8 + 7) (.int .i64 a.asked))
  clear x0 x1 x2 x3 x4 x5 x6 x7 r2 r3 c0 c1 c2 c3 c4 c5 c6 c7 hbA hM1 hS0
  generalize (((((((World.setCell W1 _ _).setCell _ _).setCell _ _).setCell _ _).setCell _ _).setCell _ _).setCell _ _).setCell _ _ = W2 at *
  have hly := lay_set (ys := ((((((((xs.set (i * 8) (.int .i64 a.own.len)).set (i * 8 + 1) (.slice A a.own.cuts.length c)).set (i * 8 + 2) (.slice R a.own.dens.length d)).set (i * 8 + 3) (.int .i64 a.told.len)).set (i * 8 + 4) (.slice A' a.told.cuts.length c')).set (i * 8 + 5) (.slice R' a.told.dens.length d')).set (i * 8 + 6) (.int .i64 a.after)).set (i * 8 + 7) (.int .i64 a.asked))) HLY.out HIB.out.1 HIB.out.2 HEl.out rfl
  have hrow : W2.ownsRow w.heap.size 43 8 (.slice (some ⟨gR, 0, none⟩) bs.length c9) (bs.set i a).length ((((((((xs.set (i * 8) (.int .i64 a.own.len)).set (i * 8 + 1) (.slice A a.own.cuts.length c)).set (i * 8 + 2) (.slice R a.own.dens.length d)).set (i * 8 + 3) (.int .i64 a.told.len)).set (i * 8 + 4) (.slice A' a.told.cuts.length c')).set (i * 8 + 5) (.slice R' a.told.dens.length d')).set (i * 8 + 6) (.int .i64 a.after)).set (i * 8 + 7) (.int .i64 a.asked)) := by rw [List.length_set]; exact hS.row 0 rfl
  have HR := Lib.hid (hly.in_ hS.below hrow)
  have HBw := Lib.hid hS.below
  clear hS hly hrow
  go_wp2_with fail
  go_ret
  obtain ⟨A8, c8, e8, hr8⟩ := HR.out
  rw [List.length_set] at e8
  obtain ⟨rfl, _, rfl⟩ := Value.slice.inj e8
  exact ⟨_, _, rfl, hr8, HBw.out⟩
end Go.Proofs.Ytgcbmnohhbcfiab
