/- Total of cakes, of both. -/
import Derived.Test.YtgcbmnohhbcfiaaCkD
namespace Go.Proofs.Ytgcbmnohhbcfiaa
open Go.RowKit Go.Deep
set_option linter.unusedVariables false
set_option linter.unusedSimpArgs false

/-- What both tell of the whole. -/
def Ck.tot (K : Ck) : Int := if K.code = 0 then K.total else 0

set_option maxRecDepth 100000 in
set_option maxHeartbeats 8000000 in
theorem fwhole_any (K : Ck) (A : Option Addr) (c : Nat) (R : Option Addr) (d : Nat) (w : World) (h : CIn w.heap.size w A c R d K) (hk : K.Ok) :
    Calls Try.prog 80 #[cV A c R d K] w fun e w' => e = .returned (.int .i64 K.total) ∧ Below w.heap.size w w' := by
  have HB0 := Lib.hid (one_alloc w (cB A c R d K))
  have hg : (w.alloc (cB A c R d K)).heap[w.heap.size]? = some (cB A c R d K) := heap_new rfl
  have HG0 := Lib.hid hg
  have HH := Lib.hid h
  have HK := Lib.hid hk
  clear h hk hg
  go_enter Try.func80, Try.ntmps80
  go_wp2_with fail
  go_loopw [3, 4] (fun s3 s4 wr => ∃ i : Nat, i ≤ K.dens.length ∧ s4 = .int .i64 i ∧ s3 = .int .i64 (K.upTo i) ∧ Below w.heap.size w wr ∧ wr.heap[w.heap.size]? = some (cB A c R d K)) (fun _ s4 _ => K.dens.length - (intOf s4).toNat)
  case atStart => exact ⟨0, Nat.zero_le _, rfl, rfl, HB0.out, HG0.out⟩
  case round =>
    obtain ⟨i, hi, rfl, rfl, hB, hg⟩ := hrel
    have cg := fun j => cell_of_row _ _ j _ _ _ hg
    have zg := lt_some hg
    by_cases hlt : i < K.dens.length
    · have nc := HK.out.nc
      have n2 := HK.out.n2
      obtain ⟨ad, rfl, hb0, hc0⟩ := HH.out.cuts.at_ (show i < K.cuts.length by omega)
      obtain ⟨ae, e1, hb1, hc1⟩ := HH.out.cuts.at_ (show i + 1 < K.cuts.length by omega)
      obtain rfl : ad = ae := by simpa using e1
      obtain ⟨rd, rfl, hb2, hc2⟩ := HH.out.dens.at_ hlt
      have k0 := (hB.cell (p := ad.add i) (by rw [block_add]; exact hb0)).trans hc0
      have k1 := (hB.cell (p := ad.add (i + 1)) (by rw [block_add]; exact hb1)).trans hc1
      have k1b : wr.cell? ⟨ad.block, ad.off + (i + 1), none⟩ = some (.int .i64 (gi K.cuts (i + 1))) := k1
      have k2 := (hB.cell (p := rd.add i) (by rw [block_add]; exact hb2)).trans hc2
      have z1 : (i : Int) < (K.dens.length : Int) := by omega
      have z2 : (i : Int) < (K.cuts.length : Int) := by omega
      have z3 : (0 : Int) ≤ (i : Int) := by omega
      have z4 : (i : Int) + 1 < (K.cuts.length : Int) := by omega
      have z5 : (0 : Int) ≤ (i : Int) + 1 := by omega
      have z6 : ((i : Int) + 1).toNat = i + 1 := by omega
      have z7 : i < K.cuts.length := by omega
      have z8 : i + 1 < K.cuts.length := by omega
      have HLE := Lib.hid (show i + 1 ≤ K.dens.length by omega)
      have HME := Lib.hid (show K.dens.length - (i + 1) < K.dens.length - i by omega)
      have u1 := HK.out.upTo_bd (k := i) (by omega)
      have u2 := HK.out.prod_bd hlt
      have u3 := HK.out.cut_bd (i := i) (by omega)
      have u4 := HK.out.cut_bd (i := i + 1) (by omega)
      have HS := Lib.hid (K.upTo_succ i)
      have x1 : IntKind.i64.wrap (gi K.cuts (i + 1) - gi K.cuts i) = gi K.cuts (i + 1) - gi K.cuts i := IntWalk.i64_in _ (by omega)
      have x2 : IntKind.i64.wrap (gi K.dens i * (gi K.cuts (i + 1) - gi K.cuts i)) = gi K.dens i * (gi K.cuts (i + 1) - gi K.cuts i) := IntWalk.i64_in _ (by omega)
      have x3 : IntKind.i64.wrap (K.upTo i + gi K.dens i * (gi K.cuts (i + 1) - gi K.cuts i)) = K.upTo i + gi K.dens i * (gi K.cuts (i + 1) - gi K.cuts i) := IntWalk.i64_in _ (by omega)
      have x1' : wrap64 (gi K.cuts (i + 1) - gi K.cuts i) = gi K.cuts (i + 1) - gi K.cuts i := IntWalk.wrap64_in _ (by omega)
      have x2' : wrap64 (gi K.dens i * (gi K.cuts (i + 1) - gi K.cuts i)) = gi K.dens i * (gi K.cuts (i + 1) - gi K.cuts i) := IntWalk.wrap64_in _ (by omega)
      have x3' : wrap64 (K.upTo i + gi K.dens i * (gi K.cuts (i + 1) - gi K.cuts i)) = K.upTo i + gi K.dens i * (gi K.cuts (i + 1) - gi K.cuts i) := IntWalk.wrap64_in _ (by omega)
      have y1 : IntKind.i64.wrap ((i : Int) + 1) = (i : Int) + 1 := IntWalk.i64_in _ (by omega)
      have y1' : wrap64 ((i : Int) + 1) = (i : Int) + 1 := IntWalk.wrap64_in _ (by omega)
      have HBr := Lib.hid hB
      have HGr := Lib.hid hg
      clear e1 hb0 hb1 hb2 hc0 hc1 hc2 hB hg u1 u2 u3 u4 nc n2
      generalize gi K.cuts i = a0 at *
      generalize gi K.cuts (i + 1) = a1 at *
      generalize gi K.dens i = a2 at *
      generalize K.upTo i = s at *
      go_wp2_with fail
      go_quiet (fail)
      go_wp2_with fail
      exact ⟨⟨i + 1, HLE.out, by go_num, by rw [HS.out], below_drewN HBr.out _, HGr.out⟩, by simpa [intOf] using HME.out⟩
    · obtain rfl : i = K.dens.length := by omega
      have HBr := Lib.hid hB
      clear hB
      go_wp2_with fail
      go_ret
      exact ⟨rfl, HBr.out⟩

set_option maxRecDepth 100000 in
set_option maxHeartbeats 8000000 in
theorem ctotal_any (K : Ck) (A : Option Addr) (c : Nat) (R : Option Addr) (d : Nat) (w : World) (h : CIn w.heap.size w A c R d K) :
    Calls Try.prog 22 #[cV A c R d K] w fun e w' => e = .returned (.tuple #[.int .i64 K.tot, .int .i64 K.code]) ∧ Below w.heap.size w w' := by
  have HB0 := Lib.hid (one_alloc w (cB A c R d K))
  have hg : (w.alloc (cB A c R d K)).heap[w.heap.size]? = some (cB A c R d K) := heap_new rfl
  have HH := Lib.hid h
  have HC := Lib.hid (fun (W : World) (hW : Below w.heap.size w W) => ccheck_any K A c R d W (h.next hW))
  have cg := fun j => cell_of_row _ _ j _ _ _ hg
  clear h
  by_cases hc : K.code = 0
  rotate_left
  · have q : (K.code != 0) = true := by simpa using hc
    have HT := Lib.hid (show K.tot = 0 by unfold Ck.tot; rw [if_neg hc])
    rw [HT.out]
    clear hc
    generalize K.code = code at *
    go_enter Try.func22, Try.ntmps22
    go_wp2_with fail
    refine (HC.out _ HB0.out).mono ?_
    rintro e w1 ⟨rfl, hb1⟩
    clear cg
    go_wp2_with fail
    refine bodyPost_ret (v := .tuple #[.int .i64 0, .int .i64 code]) (by simp [results, Try.results22, go_sem]) rfl ?_
    exact ⟨rfl, bcall HB0.out HB0.out.size hb1⟩
  have HK := Lib.hid (Ck.ok_code hc)
  have HT := Lib.hid (show K.tot = K.total by unfold Ck.tot; rw [if_pos hc])
  rw [HT.out, hc]
  rw [hc] at HC
  clear hc HT
  go_enter Try.func22, Try.ntmps22
  go_wp2_with fail
  refine (HC.out _ HB0.out).mono ?_
  rintro e w1 ⟨rfl, hb1⟩
  have HB1 := Lib.hid (bcall HB0.out HB0.out.size hb1)
  have hg1 := heap_ext hg hb1
  have HG1 := Lib.hid hg1
  clear cg hg hb1
  have cg := fun j => cell_of_row _ _ j _ _ _ hg1
  have zg := lt_some hg1
  go_wp2_with fail
  clear cg zg hg1
  go_loopw [5, 16] (fun s5 s16 wr => ∃ i : Nat, i ≤ K.dens.length ∧ s16 = .int .i64 i ∧ s5 = .int .i64 (K.upTo i) ∧ Below w.heap.size w wr ∧ wr.heap[w.heap.size]? = some (cB A c R d K)) (fun _ s16 _ => K.dens.length - (intOf s16).toNat)
  case atStart => exact ⟨0, Nat.zero_le _, rfl, rfl, HB1.out, HG1.out⟩
  case round =>
    obtain ⟨i, hi, rfl, rfl, hB, hg⟩ := hrel
    have cg := fun j => cell_of_row _ _ j _ _ _ hg
    have zg := lt_some hg
    by_cases hlt : i < K.dens.length
    · have nc := HK.out.nc
      have n2 := HK.out.n2
      obtain ⟨ad, rfl, hb0, hc0⟩ := HH.out.cuts.at_ (show i < K.cuts.length by omega)
      obtain ⟨ae, e1, hb1, hc1⟩ := HH.out.cuts.at_ (show i + 1 < K.cuts.length by omega)
      obtain rfl : ad = ae := by simpa using e1
      obtain ⟨rd, rfl, hb2, hc2⟩ := HH.out.dens.at_ hlt
      have k0 := (hB.cell (p := ad.add i) (by rw [block_add]; exact hb0)).trans hc0
      have k1 := (hB.cell (p := ad.add (i + 1)) (by rw [block_add]; exact hb1)).trans hc1
      have k1b : wr.cell? ⟨ad.block, ad.off + (i + 1), none⟩ = some (.int .i64 (gi K.cuts (i + 1))) := k1
      have k2 := (hB.cell (p := rd.add i) (by rw [block_add]; exact hb2)).trans hc2
      have z1 : (i : Int) < (K.dens.length : Int) := by omega
      have z2 : (i : Int) < (K.cuts.length : Int) := by omega
      have z3 : (0 : Int) ≤ (i : Int) := by omega
      have z4 : (i : Int) + 1 < (K.cuts.length : Int) := by omega
      have z5 : (0 : Int) ≤ (i : Int) + 1 := by omega
      have z6 : ((i : Int) + 1).toNat = i + 1 := by omega
      have z7 : i < K.cuts.length := by omega
      have z8 : i + 1 < K.cuts.length := by omega
      have HLE := Lib.hid (show i + 1 ≤ K.dens.length by omega)
      have HME := Lib.hid (show K.dens.length - (i + 1) < K.dens.length - i by omega)
      have u1 := HK.out.upTo_bd (k := i) (by omega)
      have u2 := HK.out.prod_bd hlt
      have u3 := HK.out.cut_bd (i := i) (by omega)
      have u4 := HK.out.cut_bd (i := i + 1) (by omega)
      have HS := Lib.hid (K.upTo_succ i)
      have x1 : IntKind.i64.wrap (gi K.cuts (i + 1) - gi K.cuts i) = gi K.cuts (i + 1) - gi K.cuts i := IntWalk.i64_in _ (by omega)
      have x2 : IntKind.i64.wrap (gi K.dens i * (gi K.cuts (i + 1) - gi K.cuts i)) = gi K.dens i * (gi K.cuts (i + 1) - gi K.cuts i) := IntWalk.i64_in _ (by omega)
      have x3 : IntKind.i64.wrap (K.upTo i + gi K.dens i * (gi K.cuts (i + 1) - gi K.cuts i)) = K.upTo i + gi K.dens i * (gi K.cuts (i + 1) - gi K.cuts i) := IntWalk.i64_in _ (by omega)
      have x1' : wrap64 (gi K.cuts (i + 1) - gi K.cuts i) = gi K.cuts (i + 1) - gi K.cuts i := IntWalk.wrap64_in _ (by omega)
      have x2' : wrap64 (gi K.dens i * (gi K.cuts (i + 1) - gi K.cuts i)) = gi K.dens i * (gi K.cuts (i + 1) - gi K.cuts i) := IntWalk.wrap64_in _ (by omega)
      have x3' : wrap64 (K.upTo i + gi K.dens i * (gi K.cuts (i + 1) - gi K.cuts i)) = K.upTo i + gi K.dens i * (gi K.cuts (i + 1) - gi K.cuts i) := IntWalk.wrap64_in _ (by omega)
      have y1 : IntKind.i64.wrap ((i : Int) + 1) = (i : Int) + 1 := IntWalk.i64_in _ (by omega)
      have y1' : wrap64 ((i : Int) + 1) = (i : Int) + 1 := IntWalk.wrap64_in _ (by omega)
      have HBr := Lib.hid hB
      have HGr := Lib.hid hg
      clear e1 hb0 hb1 hb2 hc0 hc1 hc2 hB hg u1 u2 u3 u4 nc n2
      generalize gi K.cuts i = a0 at *
      generalize gi K.cuts (i + 1) = a1 at *
      generalize gi K.dens i = a2 at *
      generalize K.upTo i = s at *
      go_wp2_with fail
      go_quiet (fail)
      go_wp2_with fail
      exact ⟨⟨i + 1, HLE.out, by go_num, by rw [HS.out], below_drewN HBr.out _, HGr.out⟩, by simpa [intOf] using HME.out⟩
    · obtain rfl : i = K.dens.length := by omega
      have HBr := Lib.hid hB
      clear hB
      go_wp2_with fail
      refine bodyPost_ret (v := .tuple #[.int .i64 (K.upTo K.dens.length), .int .i64 0]) (by simp [results, Try.results22, go_sem]) rfl ?_
      exact ⟨rfl, HBr.out⟩

set_option maxRecDepth 100000 in
set_option maxHeartbeats 8000000 in
theorem ftotal_any (K : Ck) (A : Option Addr) (c : Nat) (R : Option Addr) (d : Nat) (w : World) (h : CIn w.heap.size w A c R d K) :
    Calls Try.prog 23 #[cV A c R d K] w fun e w' => e = .returned (.tuple #[.int .i64 K.tot, .int .i64 K.code]) ∧ Below w.heap.size w w' := by
  have HB0 := Lib.hid (one_alloc w (cB A c R d K))
  have hg : (w.alloc (cB A c R d K)).heap[w.heap.size]? = some (cB A c R d K) := heap_new rfl
  have HH := Lib.hid h
  have HC := Lib.hid (fun (W : World) (hW : Below w.heap.size w W) => fckcheck_any K A c R d W (h.next hW))
  have cg := fun j => cell_of_row _ _ j _ _ _ hg
  clear h
  by_cases hc : K.code = 0
  rotate_left
  · have q : (K.code != 0) = true := by simpa using hc
    have HT := Lib.hid (show K.tot = 0 by unfold Ck.tot; rw [if_neg hc])
    rw [HT.out]
    clear hc
    generalize K.code = code at *
    go_enter Try.func23, Try.ntmps23
    go_wp2_with fail
    refine (HC.out _ HB0.out).mono ?_
    rintro e w1 ⟨rfl, hb1⟩
    have HB1 := Lib.hid (bcall HB0.out HB0.out.size hb1)
    have hg1 := heap_ext hg hb1
    clear cg hg hb1
    have cg := fun j => cell_of_row _ _ j _ _ _ hg1
    go_wp2_with fail
    refine (HC.out _ HB1.out).mono ?_
    rintro e w2 ⟨rfl, hb2⟩
    clear cg
    go_wp2_with fail
    refine bodyPost_ret (v := .tuple #[.int .i64 0, .int .i64 code]) (by simp [results, Try.results23, go_sem]) rfl ?_
    exact ⟨rfl, bcall HB1.out HB1.out.size hb2⟩
  have HW := Lib.hid (fun (W : World) (hW : Below w.heap.size w W) => fwhole_any K A c R d W (HH.out.next hW) (Ck.ok_code hc))
  have HT := Lib.hid (show K.tot = K.total by unfold Ck.tot; rw [if_pos hc])
  rw [HT.out, hc]
  rw [hc] at HC
  clear hc HT
  go_enter Try.func23, Try.ntmps23
  go_wp2_with fail
  refine (HC.out _ HB0.out).mono ?_
  rintro e w1 ⟨rfl, hb1⟩
  have HB1 := Lib.hid (bcall HB0.out HB0.out.size hb1)
  have hg1 := heap_ext hg hb1
  clear cg hg hb1
  have cg := fun j => cell_of_row _ _ j _ _ _ hg1
  go_wp2_with fail
  refine (HW.out _ HB1.out).mono ?_
  rintro e w2 ⟨rfl, hb2⟩
  clear cg
  go_wp2_with fail
  refine bodyPost_ret (v := .tuple #[.int .i64 K.total, .int .i64 0]) (by simp [results, Try.results23, go_sem]) rfl ?_
  exact ⟨rfl, bcall HB1.out HB1.out.size hb2⟩
end Go.Proofs.Ytgcbmnohhbcfiaa
