/- Lists of ratios, and goods, as arguments. -/
import Derived.Test.YtpijllobpohpgaaOpenR
import Derived.Test.YtpijllobpohpgaaOpenQ
import Derived.Test.YtpijllobpohpgaaMa1
import Derived.Deep.SlicePairs
import Derived.Test.YtpijllobpohpgaaGrow
import Derived.Test.YtpijllobpohpgaaRfA
namespace Go.Proofs.Ytpijllobpohpgaa
open Go.RowKit Go.ChangeShapes Go.WideShapes Go.ChangeAt Go.Joins Go.Deep
set_option linter.unusedVariables false
set_option linter.unusedSimpArgs false

instance : Inhabited Rt := ⟨⟨0, 0⟩⟩
/-- A list of ratios in memory below B. -/
structure RtsAt (w : World) (ad : Addr) (l : List Rt) : Prop where
  num : ∀ k, k < l.length → w.cell? (ad.add (k * 2)) = some (.int .i64 (gR l k).n)
  den : ∀ k, k < l.length → w.cell? ⟨ad.block, ad.off + (k * 2 + 1), none⟩ = some (.int .i64 (gR l k).d)
theorem RtsAt.below {B : Nat} {w w' : World} {ad : Addr} {l : List Rt} (r : RtsAt w ad l) (hB : ad.block < B) (hb : Below B w w') : RtsAt w' ad l :=
  ⟨fun k hk => (hb.cell (p := ad.add (k * 2)) (by rw [block_add]; exact hB)).trans (r.num k hk), fun k hk => (hb.cell (p := ⟨ad.block, ad.off + (k * 2 + 1), none⟩) hB).trans (r.den k hk)⟩
structure QIn (B : Nat) (w : World) (A : Option Addr) (c : Nat) (l : List Rt) : Prop where
  cells : 0 < l.length → ∃ ad, A = some ad ∧ ad.block < B ∧ RtsAt w ad l
  wf : ∀ k, k < l.length → (gR l k).wf
  len : l.length ≤ c
  cap : c ≤ maxLen
section
variable {B : Nat} {w w' : World} {A : Option Addr} {c : Nat} {l : List Rt}
theorem QIn.below (h : QIn B w A c l) (hb : Below B w w') : QIn B w' A c l :=
  ⟨fun h0 => let ⟨ad, e, hB, r⟩ := h.cells h0; ⟨ad, e, hB, ⟨fun k hk => (hb.cell (p := ad.add (k * 2)) (by rw [block_add]; exact hB)).trans (r.num k hk), fun k hk => (hb.cell (p := ⟨ad.block, ad.off + (k * 2 + 1), none⟩) hB).trans (r.den k hk)⟩⟩, h.wf, h.len, h.cap⟩
theorem QIn.next (h : QIn w.heap.size w A c l) (hb : Below w.heap.size w w') : QIn w'.heap.size w' A c l :=
  have k := h.below hb
  ⟨fun h0 => let ⟨ad, e, hB, r⟩ := k.cells h0; ⟨ad, e, Nat.lt_of_lt_of_le hB hb.size, r⟩, h.wf, h.len, h.cap⟩
theorem QIn.drewN (h : QIn B w A c l) (n : Nat) : QIn B (w.drewN n) A c l := ⟨fun h0 => let ⟨ad, e, hB, r⟩ := h.cells h0; ⟨ad, e, hB, ⟨r.num, r.den⟩⟩, h.wf, h.len, h.cap⟩
theorem QIn.at_ (h : QIn B w A c l) {k : Nat} (hk : k < l.length) : ∃ ad, A = some ad ∧ ad.block < B ∧ RtsAt w ad l := h.cells (by omega)
end
/-- Goods as an argument: a slice of slices by value. -/
structure GIn (B : Nat) (w : World) (A : Option Addr) (c : Nat) (bs : List (List Int)) : Prop where
  rows : IntRows B w A bs
  len : bs.length ≤ c
  cap : c ≤ maxLen
theorem GIn.below {B : Nat} {w w' : World} {A : Option Addr} {c : Nat} {bs : List (List Int)} (h : GIn B w A c bs) (hb : Below B w w') : GIn B w' A c bs := ⟨h.rows.below hb, h.len, h.cap⟩
theorem GIn.next {w w' : World} {A : Option Addr} {c : Nat} {bs : List (List Int)} (h : GIn w.heap.size w A c bs) (hb : Below w.heap.size w w') : GIn w'.heap.size w' A c bs := ⟨h.rows.next hb, h.len, h.cap⟩
theorem GIn.drewN {B : Nat} {w : World} {A : Option Addr} {c : Nat} {bs : List (List Int)} (h : GIn B w A c bs) (n : Nat) : GIn B (w.drewN n) A c bs := ⟨h.rows.drewN n, h.len, h.cap⟩
abbrev gV (A : Option Addr) (c : Nat) (bs : List (List Int)) : Value := .agg #[.slice A bs.length c]
abbrev gB (A : Option Addr) (c : Nat) (bs : List (List Int)) : Obj := .cells #[.slice A bs.length c] 24
theorem cellsG : Try.prog.cellsOf 24 = 1 := by kernel_rfl
theorem cellsLR : Try.prog.cellsOf 22 = 1 := by kernel_rfl
theorem array1 {α : Type} {cs : Array α} (h : cs.size = 1) : ∃ c0, cs = #[c0] := by
  obtain ⟨l⟩ := cs
  match l, h with
  | [c0], _ => exact ⟨c0, rfl⟩
section
variable {H : Type} {enc : TypeId × Value → H} {w : World} {held : Bool}
set_option maxRecDepth 100000 in
theorem open_goods {v : Value} {d : DataW H} {p : List MemPlace} {r : Reach} {b0 : Nat} (hv : Value.okWide Try.prog w r b0 24 v) (h : DataW.Trod enc Try.prog w 0 (fun _ => true) held 24 v d p) :
    ∃ (bs : List (List Int)) (A : Option Addr) (c : Nat), v = gV A c bs ∧ GIn w.heap.size w A c bs := by
  obtain ⟨cs, rfl, hsz⟩ := okWide_struct Try.underlying24 hv
  obtain ⟨c0, rfl⟩ := array1 (hsz.trans cellsG)
  obtain ⟨fuel, hf⟩ := h
  obtain ⟨y0, n, hx, _, h0⟩ := trod_struct1 Try.underlying24 hf
  rw [cellsLR] at h0
  obtain ⟨A, c, bs, e0, l0, m0, i0⟩ := open_rows_ h0
  have e0 : [c0] = _ := e0
  obtain rfl : c0 = _ := List.singleton_inj.1 e0
  exact ⟨bs, A, c, rfl, i0, l0, m0⟩
set_option maxRecDepth 100000 in
theorem open_rts {v : Value} {d : DataW H} {p : List MemPlace} {r : Reach} {b0 : Nat} (hv : Value.okWide Try.prog w r b0 27 v) (h : DataW.Trod enc Try.prog w 0 (fun _ => true) held 27 v d p) :
    ∃ (l : List Rt) (A : Option Addr) (c : Nat), v = .slice A l.length c ∧ QIn w.heap.size w A c l := by
  obtain ⟨a0, len, cap, rfl⟩ := okWide_slice Try.underlying27 hv
  obtain ⟨fuel, hf⟩ := h
  rcases open_slice_pairs Try.underlying27 Try.underlying36 cellsQ rfl rfl cellsL cellsL hf with ⟨e, _⟩ | ⟨a, len', cap', m, n, V0, V1, D0, D1, P0, P1, e, _, hl, hm, hmm, _, hc⟩
  · obtain ⟨rfl, rfl, rfl⟩ := Value.slice.inj (List.singleton_inj.1 e)
    exact ⟨[], none, 0, rfl, ⟨fun h => by simp at h, fun k hk => by simp at hk, Nat.le_refl _, by unfold maxLen; omega⟩⟩
  · obtain ⟨rfl, rfl, rfl⟩ := Value.slice.inj (List.singleton_inj.1 e)
    have hlm : len ≤ m := by rw [hmm]; split <;> omega
    have each : ∀ i, i < len → ∃ q : Rt, w.cell? (a.add (i * 2)) = some (.int .i64 q.n) ∧ w.cell? (a.add (i * 2 + 1)) = some (.int .i64 q.d) ∧ q.wf := by
      intro i hi
      obtain ⟨c1, c2, t1, t2⟩ := hc i (by omega)
      obtain ⟨n0, e0, _, w0⟩ := DataW.trod_int Try.underlying2 t1
      obtain ⟨n1, e1, _, w1⟩ := DataW.trod_int Try.underlying2 t2
      have a0 := wf_i64 w0
      have a1 := wf_i64 w1
      rw [List.singleton_inj.1 e0] at c1
      rw [List.singleton_inj.1 e1] at c2
      exact ⟨⟨n0, n1⟩, c1, c2, ⟨a0.1, a0.2, a1.1, a1.2⟩⟩
    obtain ⟨q, hq⟩ := choose_lt each
    have hlen : ((List.range len).map q).length = len := by simp
    refine ⟨(List.range len).map q, some a, cap, by rw [hlen], ⟨fun h0 => ⟨a, rfl, ?_, ⟨fun k hk => ?_, fun k hk => ?_⟩⟩, fun k hk => ?_, by rw [hlen]; exact hl, hm⟩⟩
    · rw [hlen] at h0
      have := cell_lt (hq 0 h0).1
      rwa [block_add] at this
    · rw [hlen] at hk; rw [gR_map hk]; exact (hq k hk).1
    · rw [hlen] at hk; rw [gR_map hk]; exact (hq k hk).2.1
    · rw [hlen] at hk; rw [gR_map hk]; exact (hq k hk).2.2
end
end Go.Proofs.Ytpijllobpohpgaa

namespace Go.Proofs.Ytpijllobpohpgaa
open Go.RowKit Go.Deep
set_option linter.unusedVariables false
set_option linter.unusedSimpArgs false

theorem cell2 {w : World} {ad : Addr} {l : List Rt} (h : RtsAt w ad l) {k : Nat} (hk : k < l.length) : w.cell? (ad.add (k * 2)) = some (.int .i64 (gR l k).n) ∧ w.cell? ((ad.add (k * 2)).add 1) = some (.int .i64 (gR l k).d) ∧ w.cell? ⟨ad.block, ad.off + (k * 2 + 1), none⟩ = some (.int .i64 (gR l k).d) := by
  refine ⟨h.num k hk, ?_, h.den k hk⟩
  rw [add_add_]; exact h.den k hk
def sameR (a b : List Rt) : Bool := decide (a = b)
set_option maxRecDepth 100000 in
set_option maxHeartbeats 4000000 in
theorem qsame_any (a b : List Rt) (A : Option Addr) (c : Nat) (B : Option Addr) (d : Nat) (w : World) (ha : QIn w.heap.size w A c a) (hb : QIn w.heap.size w B d b) :
    Calls Try.prog 21 #[.slice A a.length c, .slice B b.length d] w fun e w' => e = .returned (.bool (sameR a b)) ∧ Below w.heap.size w w' := by
  by_cases hl : (a.length : Int) = b.length
  rotate_left
  · have b1 : ((a.length : Int) != b.length) = true := by simpa using hl
    have HR := Lib.hid (show sameR a b = false by unfold sameR; exact decide_eq_false (fun e => hl (by rw [e])))
    clear hl
    go_enter Try.func21, Try.ntmps21
    go_wp2_with fail
    go_ret
    exact ⟨ret_bool HR.out.symm, Below.refl _ _⟩
  have b1 : ((a.length : Int) != b.length) = false := by simpa using hl
  have HA := Lib.hid ha
  have HB := Lib.hid hb
  have hl' : a.length = b.length := by omega
  have hm := Nat.le_trans ha.len ha.cap
  unfold maxLen at hm
  clear ha hb hl
  go_enter Try.func21, Try.ntmps21
  go_wp2_with fail
  go_loopw [5] (fun s wr => ∃ k : Nat, k ≤ a.length ∧ s = .int .i64 k ∧ (∀ j, j < k → gR a j = gR b j) ∧ Below w.heap.size w wr) (fun s _ => a.length - (intOf s).toNat)
  case atStart => exact ⟨0, Nat.zero_le _, rfl, fun j hj => by omega, Below.refl _ _⟩
  case round =>
    obtain ⟨k, hk, rfl, hs, hw⟩ := hrel
    have HS := Lib.hid hs
    have HW := Lib.hid hw
    clear hs hw
    by_cases hlt : k < a.length
    rotate_left
    · obtain rfl : k = a.length := by omega
      have HR := Lib.hid (show sameR a b = true by unfold sameR; exact decide_eq_true (gR_ext hl' HS.out))
      go_wp2_with fail
      go_ret
      exact ⟨ret_bool HR.out.symm, HW.out⟩
    obtain ⟨ad, rfl, hab, hca⟩ := HA.out.at_ hlt
    obtain ⟨bd, rfl, hbb, hcb⟩ := HB.out.at_ (show k < b.length by omega)
    have HF := Lib.hid (fun (W : World) (hW : Below w.heap.size w W) => cell2 (hca.below hab hW) hlt)
    have HG := Lib.hid (fun (W : World) (hW : Below w.heap.size w W) => cell2 (hcb.below hbb hW) (show k < b.length by omega))
    clear hca hcb
    have f1 := HF.out _ HW.out
    have f2 := HG.out _ HW.out
    have f10 := f1.1
    have f11 := f1.2.2
    have f20 := f2.1
    have f21 := f2.2.2
    have f12 : wr.cell? ((ad.add (k * 2)).add 1) = some (.int .i64 (gR a k).d) := f1.2.1
    have f13 : wr.cell? ⟨(ad.add (k * 2)).block, (ad.add (k * 2)).off + 1, none⟩ = some (.int .i64 (gR a k).d) := f1.2.1
    have f22 : wr.cell? ((bd.add (k * 2)).add 1) = some (.int .i64 (gR b k).d) := f2.2.1
    have f23 : wr.cell? ⟨(bd.add (k * 2)).block, (bd.add (k * 2)).off + 1, none⟩ = some (.int .i64 (gR b k).d) := f2.2.1
    have z1 : (k : Int) < (a.length : Int) := by omega
    have z2 : (k : Int) < (b.length : Int) := by omega
    have z3 : (0 : Int) ≤ (k : Int) := by omega
    have y1 : IntKind.i64.wrap ((k : Int) + 1) = (k : Int) + 1 := IntWalk.i64_in _ (by omega)
    have y1' : wrap64 ((k : Int) + 1) = (k : Int) + 1 := IntWalk.wrap64_in _ (by omega)
    have zs := HW.out.size
    have za : (ad.add (k * 2)).block < wr.heap.size := by rw [block_add]; omega
    have za' : ad.block < wr.heap.size := by omega
    have zb : (bd.add (k * 2)).block < wr.heap.size := by rw [block_add]; omega
    have zb' : bd.block < wr.heap.size := by omega
    clear f1 f2 zs HF HG
    by_cases he : gR a k = gR b k
    · have HS2 := Lib.hid (fun j (hj : j < k + 1) => show gR a j = gR b j by
        by_cases e : j = k
        · subst e; exact he
        · exact HS.out j (by omega))
      have q1 : ((gR b k).n == (gR b k).n) = true := by simp
      have q2 : ((gR b k).d == (gR b k).d) = true := by simp
      have q3 : ((gR b k).n != (gR b k).n) = false := by simp
      have q4 : ((gR b k).d != (gR b k).d) = false := by simp
      rw [he] at f10 f11 f12 f13
      clear he HS
      go_wp2_with fail
      refine wp_region_ext (by kernel_rfl) (by kernel_rfl) ?_
      repeat (first | go_big_quiet_step (fail) | quiet_step (fail))

      refine wpQuiet_nil ?_
      rintro _ ⟨⟨w2, hb2⟩, rfl⟩
      have HW2 := Lib.hid (bcall HW.out HW.out.size hb2)
      clear f10 f11 f12 f13 f20 f21 f22 f23 hb2 za za' zb zb'
      go_wp2_with fail
      exact ⟨⟨k + 1, by omega, by go_num, HS2.out, HW2.out⟩, by simp [intOf]; omega⟩
    · have HR := Lib.hid (show sameR a b = false by unfold sameR; exact decide_eq_false (fun e => he (by rw [e])))
      have q : (gR a k).n ≠ (gR b k).n ∨ (gR a k).d ≠ (gR b k).d := by
        by_cases q1 : (gR a k).n = (gR b k).n
        · exact Or.inr (fun q2 => he (Rt.ext_ q1 q2))
        · exact Or.inl q1
      clear he
      by_cases q1 : (gR a k).n = (gR b k).n
      · have p2 : ((gR a k).d == (gR b k).d) = false := by simpa using q.resolve_left (fun h => h q1)
        have p1 : ((gR a k).n == (gR b k).n) = true := by simpa using q1
        clear q q1
        go_wp2_with fail
        refine wp_region_ext (by kernel_rfl) (by kernel_rfl) ?_
        repeat (first | go_big_quiet_step (fail) | quiet_step (fail))
        refine wpQuiet_nil ?_
        rintro _ ⟨⟨w2, hb2⟩, rfl⟩
        have HW2 := Lib.hid (bcall HW.out HW.out.size hb2)
        clear f10 f11 f12 f13 f20 f21 f22 f23 hb2 za za' zb zb'
        go_wp2_with fail
        go_ret
        exact ⟨ret_bool HR.out.symm, HW2.out⟩
      · have p1 : ((gR a k).n == (gR b k).n) = false := by simpa using q1
        clear q q1
        go_wp2_with fail
        refine wp_region_ext (by kernel_rfl) (by kernel_rfl) ?_
        repeat (first | go_big_quiet_step (fail) | quiet_step (fail))
        refine wpQuiet_nil ?_
        rintro _ ⟨⟨w2, hb2⟩, rfl⟩
        have HW2 := Lib.hid (bcall HW.out HW.out.size hb2)
        clear f10 f11 f12 f13 f20 f21 f22 f23 hb2 za za' zb zb'
        go_wp2_with fail
        go_ret
        exact ⟨ret_bool HR.out.symm, HW2.out⟩
end Go.Proofs.Ytpijllobpohpgaa
