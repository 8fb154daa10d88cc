/- EstateItems returns true for every two estates. -/
import Derived.Test.YtedgdmblpjfaiaaPoolW
import Derived.Test.YtedgdmblpjfaiaaItemsPlain
import Derived.Deep.RegionHeld3
namespace Go.Proofs.Ytedgdmblpjfaiaa
open Go.RowKit Go.Deep
set_option linter.unusedVariables false
set_option linter.unusedSimpArgs false

theorem EstIn.box {b : Nat} {w : World} {E : Est} {A : Option Addr} {c : Nat} {R : Option Addr} {d : Nat} {wr : World} (h : EstIn w E A c R d wr) (hz : w.heap.size = b) :
    (∀ j, wr.cell? ⟨b, j, none⟩ = (#[.slice A E.sh.length c, .slice R E.bd.length d] : Array Value)[j]?) ∧ b < wr.heap.size := by
  subst hz
  exact ⟨fun j => cell_of_row wr _ j _ _ _ h.bx, lt_some h.bx⟩

theorem ZW.low {E : Est} {A : Option Addr} {c : Nat} {w3 wr W : World} {rows : List (List Int)} {v : Value} {xs : List Value} {b : Nat → Nat} (h : ZW E A c w3 rows v xs b wr) (hA : Below wr.heap.size wr W) : Below w3.heap.size w3 W :=
  bcall h.below h.below.size hA
theorem ZW.grown {E : Est} {A : Option Addr} {c : Nat} {w3 wr W W1 : World} {rows : List (List Int)} {v : Value} {xs : List Value} {b : Nat → Nat} (h : ZW E A c w3 rows v xs b wr) (hA : Below wr.heap.size wr W) (hg : W.grownBy W1 v.ownBlock) : Below w3.heap.size w3 W1 := by
  have gv := own_ge h.rows.own
  have := h.below.size
  have := hA.size
  exact (h.low hA).grown hg (by omega) (fun g e => by have := gv g e; omega)
theorem wpList_append_wanted {P : Program} {w : World} {ops : Array Oper} {rest : List Oper} {o : Oper} {a : Act} {Q : Exit → Act → World → Prop} (hgd : Region.wanted o (yielded ops a.tmps) = true) (s x : Operand) (t : TypeId)
    (ho : o.op = .call { callee := .builtin .append, args := #[s, x], argTypes := #[t, t] })
    (base : Nat) (e : TypeId) (i : TypeInfo) (z : Value) (size bytes : Nat) (ht : P.underlying t = some (.slice e)) (hi : P.info? e = some i) (hz : i.zero = some z)
    (hsize : i.size = size) (hby : i.bytes = bytes) (hzs : z.cells.size = size) (hsz : 0 < size)
    (v : Value) (n : Nat) (xs : List Value) (hs : a.eval s = v) (hown : w.ownsRow base e size v n xs)
    (B : Nat) (A : Option Addr) (m c : Nat) (news : List Value) (hx : a.eval x = .slice A m c) (hr : Reads w B size A m news) (h1 : ∀ u ∈ news, u.oneCell' = true)
    (h63 : n + m ≤ maxLen) (hbytes : (n + m) * bytes ≤ 140737488355328) (hbase : base ≤ w.heap.size)
    (h : ∀ v' w', w'.ownsRow base e size v' (n + m) (xs ++ news) → w.grownBy w' v.ownBlock → (v'.ownBlock = v.ownBlock ∨ v'.ownBlock = some w.heap.size) → wpList P ops Q rest (a.put o.dst v') w') : wpList P ops Q (o :: rest) a w :=
  wpList_step fun K hK => by
    rw [if_pos hgd]
    exact wp_append_any w s x t ho base e i z size bytes ht hi hz hsize hby hzs hsz v n xs hs hown B A m c news hx hr h1 h63 hbytes hbase fun v' w' h2 h3 h4 => hK _ _ (h v' w' h2 h3 h4)
theorem fresh_below' {wr w5 : World} {o : Obj} {row : Option Nat} (hg : (wr.alloc o).grownBy w5 row) (hr : row = some wr.heap.size) : Below wr.heap.size wr w5 :=
  (one_alloc wr o).grown hg (by simp) (fun g e => by rw [hr] at e; injection e with e; omega)
/-- A load that 'go_region_held3' doesn't try to take first. -/
def loadOp (t : TypeId) (x : Operand) : Op := .load t x
theorem loadOp_eq (t : TypeId) (x : Operand) : loadOp t x = .load t x := rfl
attribute [go_sem] loadOp_eq
theorem cat_own {base : Nat} {w : World} {v : Value} {a b : List Int} (h : w.ownsRow base 3 1 v (a.length + b.length) (cellsL a ++ cellsL b)) : w.ownsRow base 3 1 v (a ++ b).length (cellsL (a ++ b)) := by
  rw [List.length_append, cellsL, List.map_append]; exact h

set_option maxRecDepth 100000 in
set_option maxHeartbeats 8000000 in
theorem items_walk (E : Est) (A : Option Addr) (c : Nat) (R : Option Addr) (d : Nat) (F : Est) (B : Option Addr) (c' : Nat) (T : Option Addr) (d' : Nat) (w : World) (h : EIn w.heap.size w A c R d E) (hF : EIn w.heap.size w B c' T d' F) :
    Calls Try.prog 6 #[eV A c R d E, eV B c' T d' F] w fun e w' => e = .returned (.bool true) ∧ Below w.heap.size w w' := by
  have hW0 := (EstIn.start h).next (one_alloc _ (bxOf B c' T d' F))
  have hV0 := EstIn.start (hF.next (one_alloc w (bxOf A c R d E)))
  have hz0 : (w.alloc (bxOf A c R d E)).heap.size = w.heap.size + 1 := by simp
  clear h hF
  obtain ⟨i0, hi0, kz0, kz1, kz2⟩ := info_parts info3
  obtain ⟨j0, hj0, lz0, lz1, lz2⟩ := info_parts info22z
  go_enter Try.func6, Try.ntmps6
  try dsimp only [List.append]
  go_wp2_with fail
  refine (alive_any _).mono ?_
  rintro e w1 ⟨rfl, hb1⟩
  have hW1 := hW0.next hb1
  have hV1 := hV0.next hb1
  obtain ⟨cbx, zx⟩ := hW1.box rfl
  obtain ⟨cby, zy⟩ := hV1.box hz0
  clear hb1 hW0 hV0
  have K1 := Lib.hid (fun (W : World) (hW : Below w1.heap.size w1 W) => check_ref E A c R d W (hW1.next hW).e)
  have K2 := Lib.hid (fun (W : World) (hW : Below w1.heap.size w1 W) => check_ref F B c' T d' W (hV1.next hW).e)
  have hW1s := hW1.e.shl
  have hV1s := hV1.e.shl
  have hW1m := hW1.e.shm
  have hV1m := hV1.e.shm
  have K3 := Lib.hid (fun (W : World) (hW : Below w1.heap.size w1 W) => same_any A B c c' E.sh F.sh W (hW1.next hW).e.sh (hV1.next hW).e.sh (by omega) (by omega))
  go_upto_region 2 with fail
  by_cases hc : E.code = 0
  rotate_left
  · have q1 : (E.code != 0) = true := by simpa using hc
    refine wp_region_ext (by kernel_rfl) (by kernel_rfl) ?_
    repeat (first | go_big_quiet_step ((first | (go_at_call_of 24 (Value.agg #[Value.slice A E.sh.length c, Value.slice R E.bd.length d]); exact calls_ext (K1.out _ (Ext.h _))) | (go_at_call_of 24 (Value.agg #[Value.slice B F.sh.length c', Value.slice T F.bd.length d']); exact calls_ext (K2.out _ (Ext.h _))) | (go_at_call 25; exact calls_ext (K3.out _ (Ext.h _))))) | quiet_step ((first | (go_at_call_of 24 (Value.agg #[Value.slice A E.sh.length c, Value.slice R E.bd.length d]); exact calls_ext (K1.out _ (Ext.h _))) | (go_at_call_of 24 (Value.agg #[Value.slice B F.sh.length c', Value.slice T F.bd.length d']); exact calls_ext (K2.out _ (Ext.h _))) | (go_at_call 25; exact calls_ext (K3.out _ (Ext.h _))))))
    refine wpQuiet_nil ?_
    rintro w2 ⟨⟨_, hb2⟩, rfl⟩
    go_wp2_with fail
    go_ret
    exact ⟨rfl, (hW1.next hb2).below⟩
  have q1 : (E.code != 0) = false := by simpa using hc
  by_cases hd : F.code = 0
  rotate_left
  · have q2 : (F.code != 0) = true := by simpa using hd
    refine wp_region_ext (by kernel_rfl) (by kernel_rfl) ?_
    repeat (first | go_big_quiet_step ((first | (go_at_call_of 24 (Value.agg #[Value.slice A E.sh.length c, Value.slice R E.bd.length d]); exact calls_ext (K1.out _ (Ext.h _))) | (go_at_call_of 24 (Value.agg #[Value.slice B F.sh.length c', Value.slice T F.bd.length d']); exact calls_ext (K2.out _ (Ext.h _))) | (go_at_call 25; exact calls_ext (K3.out _ (Ext.h _))))) | quiet_step ((first | (go_at_call_of 24 (Value.agg #[Value.slice A E.sh.length c, Value.slice R E.bd.length d]); exact calls_ext (K1.out _ (Ext.h _))) | (go_at_call_of 24 (Value.agg #[Value.slice B F.sh.length c', Value.slice T F.bd.length d']); exact calls_ext (K2.out _ (Ext.h _))) | (go_at_call 25; exact calls_ext (K3.out _ (Ext.h _))))))
    refine wpQuiet_nil ?_
    rintro w2 ⟨⟨_, hb2⟩, rfl⟩
    go_wp2_with fail
    go_ret
    exact ⟨rfl, (hW1.next hb2).below⟩
  have q2 : (F.code != 0) = false := by simpa using hd
  by_cases hs : E.sh = F.sh
  rotate_left
  · have q3 : sameL E.sh F.sh = false := by simpa [sameL] using hs
    refine wp_region_ext (by kernel_rfl) (by kernel_rfl) ?_
    repeat (first | go_big_quiet_step ((first | (go_at_call_of 24 (Value.agg #[Value.slice A E.sh.length c, Value.slice R E.bd.length d]); exact calls_ext (K1.out _ (Ext.h _))) | (go_at_call_of 24 (Value.agg #[Value.slice B F.sh.length c', Value.slice T F.bd.length d']); exact calls_ext (K2.out _ (Ext.h _))) | (go_at_call 25; exact calls_ext (K3.out _ (Ext.h _))))) | quiet_step ((first | (go_at_call_of 24 (Value.agg #[Value.slice A E.sh.length c, Value.slice R E.bd.length d]); exact calls_ext (K1.out _ (Ext.h _))) | (go_at_call_of 24 (Value.agg #[Value.slice B F.sh.length c', Value.slice T F.bd.length d']); exact calls_ext (K2.out _ (Ext.h _))) | (go_at_call 25; exact calls_ext (K3.out _ (Ext.h _))))))
    refine wpQuiet_nil ?_
    rintro w2 ⟨⟨_, hb2⟩, rfl⟩
    go_wp2_with fail
    go_ret
    exact ⟨rfl, (hW1.next hb2).below⟩
  have q3 : sameL E.sh F.sh = true := by simpa [sameL] using hs
  have hE := Est.ok_of_code hc
  have hF := Est.ok_of_code hd
  have HC := Lib.hid hc
  have HD := Lib.hid hd
  have HE := Lib.hid hE
  have HF := Lib.hid hF
  have HS := Lib.hid hs.symm
  have hn10 : E.sh.length ≤ 10 := hE.n10
  have hn1 : 1 ≤ E.sh.length := hE.n1
  have hbl : E.bd.length = E.sh.length := hE.rows
  have hbl2 : F.bd.length = F.sh.length := hF.rows
  have hfl : F.sh.length = E.sh.length := by rw [← hs]
  have HBL := Lib.hid (show E.bd.length = E.sh.length ∧ F.bd.length = E.sh.length from ⟨hbl, by omega⟩)
  have hm1 : (gr E.bd 0).length ≤ 30 := hE.m30
  have hm2 : (gr F.bd 0).length ≤ 30 := hF.m30
  obtain ⟨bd0, R0, c0, rfl, hbd0, hcell0, hcl0, hcm0, hr0⟩ := hW1.e.bd.at_ (i := 0) (by omega)
  obtain ⟨be0, T0, e0, rfl, hbe0, hdell0, hdl0, hdm0, hs0⟩ := hV1.e.bd.at_ (i := 0) (by omega)
  have hcell0' : w1.cell? bd0 = some (.slice R0 (gr E.bd 0).length c0) := by simpa [Addr.add] using hcell0
  have hdell0' : w1.cell? be0 = some (.slice T0 (gr F.bd 0).length e0) := by simpa [Addr.add] using hdell0
  have i1 : (0 : Int) < (E.bd.length : Int) := by omega
  have i2 : (0 : Int) < (F.bd.length : Int) := by omega
  have i1n : 0 < E.bd.length := by omega
  have i2n : 0 < F.bd.length := by omega
  have s0 : IntKind.i64.wrap (((gr E.bd 0).length : Int) + ((gr F.bd 0).length : Int)) = ((gr E.bd 0).length : Int) + ((gr F.bd 0).length : Int) := IntWalk.i64_in _ (by omega)
  have hba : (bd0.add 0).block < w1.heap.size := by rw [block_add]; exact hbd0
  have hbb : (be0.add 0).block < w1.heap.size := by rw [block_add]; exact hbe0
  have HFL := Lib.hid hfl
  clear hc hd hs hE hF hbl hbl2 hr0 hs0 hfl
  by_cases hm : 30 < (gr E.bd 0).length + (gr F.bd 0).length
  · have q4 : decide (30 < ((gr E.bd 0).length : Int) + ((gr F.bd 0).length : Int)) = true := by rw [decide_eq_true_iff]; omega
    refine wp_region_ext (by kernel_rfl) (by kernel_rfl) ?_
    repeat (first | go_big_quiet_step ((first | (go_at_call_of 24 (Value.agg #[Value.slice A E.sh.length c, Value.slice (some bd0) E.bd.length d]); exact calls_ext (K1.out _ (Ext.h _))) | (go_at_call_of 24 (Value.agg #[Value.slice B F.sh.length c', Value.slice (some be0) F.bd.length d']); exact calls_ext (K2.out _ (Ext.h _))) | (go_at_call 25; exact calls_ext (K3.out _ (Ext.h _))))) | quiet_step ((first | (go_at_call_of 24 (Value.agg #[Value.slice A E.sh.length c, Value.slice (some bd0) E.bd.length d]); exact calls_ext (K1.out _ (Ext.h _))) | (go_at_call_of 24 (Value.agg #[Value.slice B F.sh.length c', Value.slice (some be0) F.bd.length d']); exact calls_ext (K2.out _ (Ext.h _))) | (go_at_call 25; exact calls_ext (K3.out _ (Ext.h _))))))
    refine wpQuiet_nil ?_
    rintro w2 ⟨⟨_, hb2⟩, rfl⟩
    go_wp2_with fail
    go_ret
    exact ⟨rfl, (hW1.next hb2).below⟩
  have q4 : decide (30 < ((gr E.bd 0).length : Int) + ((gr F.bd 0).length : Int)) = false := by rw [decide_eq_false_iff_not]; omega
  have hGc := Est.cat_code HE.out HF.out HS.out (by show (gr E.bd 0).length + (gr F.bd 0).length ≤ 30; omega)
  have HGC := Lib.hid hGc
  refine wp_region_ext (by kernel_rfl) (by kernel_rfl) ?_
  repeat (first | go_big_quiet_step ((first | (go_at_call_of 24 (Value.agg #[Value.slice A E.sh.length c, Value.slice (some bd0) E.bd.length d]); exact calls_ext (K1.out _ (Ext.h _))) | (go_at_call_of 24 (Value.agg #[Value.slice B F.sh.length c', Value.slice (some be0) F.bd.length d']); exact calls_ext (K2.out _ (Ext.h _))) | (go_at_call 25; exact calls_ext (K3.out _ (Ext.h _))))) | quiet_step ((first | (go_at_call_of 24 (Value.agg #[Value.slice A E.sh.length c, Value.slice (some bd0) E.bd.length d]); exact calls_ext (K1.out _ (Ext.h _))) | (go_at_call_of 24 (Value.agg #[Value.slice B F.sh.length c', Value.slice (some be0) F.bd.length d']); exact calls_ext (K2.out _ (Ext.h _))) | (go_at_call 25; exact calls_ext (K3.out _ (Ext.h _))))))
  refine wpQuiet_nil ?_
  rintro w2 ⟨⟨_, hb2⟩, rfl⟩
  have hW2 := hW1.next hb2
  have hV2 := hV1.next hb2
  clear hb2 hW1 hV1 K1 K2 K3 cbx cby zx zy hcell0 hdell0 hcell0' hdell0' hba hbb s0 q1 q2 q3 q4 hGc
  obtain ⟨cbx, zx⟩ := hW2.box rfl
  obtain ⟨cby, zy⟩ := hV2.box hz0
  go_wp2_with fail
  clear i1 i2 i1n i2n hm zx zy cbx cby
  go_loopw [7] (fun i wr => ∃ k : Nat, k ≤ E.bd.length ∧ i = .int .i64 k ∧ ∃ v xs b, ZW E A c w2 ((E.cat F).bd.take k) v xs b wr) (fun i _ => E.bd.length - (intOf i).toNat)
  case atStart => exact ⟨0, Nat.zero_le _, rfl, _, _, _, by simpa using ZW.start E A c w2⟩
  case round =>
    obtain ⟨k, hk, rfl, v, xs, bf, hS⟩ := hrel
    have hW3 := hW2.next hS.below
    have hV3 := hV2.next hS.below
    obtain ⟨cbx, zx⟩ := hW3.box rfl
    obtain ⟨cby, zy⟩ := hV3.box hz0
    have cY := fun j => cell_of_row wr _ j _ _ _ hS.z
    have fY := fun j => frozen_of_row wr _ j _ _ hS.z
    have z1 := lt_some hS.z
    by_cases hlt : k < E.bd.length
    · obtain ⟨bd2, R2, c2, e2, hbb2, cc2, cl2, cm2, hr2⟩ := hW2.e.bd.at_ hlt
      obtain rfl : bd0 = bd2 := by simpa using e2
      have hlt2 : k < F.bd.length := by have := HBL.out; omega
      obtain ⟨be2, T2, d2, e3, hbe2, dd2, dl2, dm2, hs2⟩ := hV2.e.bd.at_ hlt2
      obtain rfl : be0 = be2 := by simpa using e3
      have hkn : k < E.n := by have := HBL.out; have e : E.n = E.sh.length := rfl; omega
      have hl30 : (gr E.bd k).length ≤ 30 := by have := HE.out.len k hkn; have := HE.out.m30; unfold Est.row at *; omega
      have hl31 : (gr F.bd k).length ≤ 30 := by have := HF.out.len k (by rw [Est.cat_n HS.out]; exact hkn); have := HF.out.m30; unfold Est.row at *; omega
      have i1 : (k : Int) < (E.bd.length : Int) := by omega
      have i2 : (k : Int) < (F.bd.length : Int) := by omega
      have cY0 := cY 1
      have fY0 := fY 1
      simp at cY0
      clear cY fY
      have hlen : ((E.cat F).bd.take k).length = k := by rw [List.length_take, Est.cat_len HE.out HF.out HS.out]; omega
      have HTK := Lib.hid (cat_take HE.out HF.out HS.out hkn)
      have hown := hS.rows.own
      rw [hlen] at hown
      have HOWN := Lib.hid (fun (W : World) (hW : Below wr.heap.size wr W) => ownsRow_ext hown hW)
      have HS8 := Lib.hid hS
      have HLEN := Lib.hid hlen
      have hk10 : k ≤ 10 := by have := HBL.out; omega
      have hr3 := hr2.next hS.below
      have hs3 := hs2.next hS.below
      obtain ⟨cbx2, zx2⟩ := hW2.box rfl
      obtain ⟨cby2, zy2⟩ := hV2.box hz0
      have HK := Lib.hid (fun (W : World) (hW : Below w2.heap.size w2 W) => show W.cell? ⟨w.heap.size, 1, none⟩ = some (.slice (some bd0) E.bd.length d) ∧ W.cell? ⟨w.heap.size + 1, 1, none⟩ = some (.slice (some be0) F.bd.length d') ∧ W.cell? (bd0.add k) = some (.slice R2 (gr E.bd k).length c2) ∧ W.cell? (be0.add k) = some (.slice T2 (gr F.bd k).length d2) from
        ⟨(hW.cell (p := ⟨w.heap.size, 1, none⟩) zx2).trans (cbx2 1), (hW.cell (p := ⟨w.heap.size + 1, 1, none⟩) zy2).trans (cby2 1), (hW.cell (p := bd0.add k) (by rw [block_add]; exact hbb2)).trans cc2, (hW.cell (p := be0.add k) (by rw [block_add]; exact hbe2)).trans dd2⟩)
      have HL0 := Lib.hid hS.below
      have cYA : (wr.alloc (.cells #[] 3)).cell? ⟨w2.heap.size, 1, none⟩ = some v := (World.cell?_alloc_lt wr _ ⟨w2.heap.size, 1, none⟩ z1).trans cY0
      clear hown hlen cc2 dd2 cbx2 cby2 e2 e3 hr2 hs2
      go_upto_region 8 with fail
      rw [show Op.load 23 (Operand.tmp 73) = loadOp 23 (Operand.tmp 73) from rfl]
      go_region_held3 (fun W => W.cell? ⟨w.heap.size, 1, none⟩ = some (.slice (some bd0) E.bd.length d) ∧ W.cell? ⟨w.heap.size + 1, 1, none⟩ = some (.slice (some be0) F.bd.length d') ∧ W.cell? (bd0.add k) = some (.slice R2 (gr E.bd k).length c2) ∧ W.cell? (be0.add k) = some (.slice T2 (gr F.bd k).length d2))
        (first
          | exact HK.out _ HL0.out
          | exact HK.out _ HL0.out.drew
          | exact HK.out _ (HL0.out.alloc HL0.out.size _)
          | exact HK.out _ ((HL0.out.alloc HL0.out.size _).drew)
          | exact HK.out _ HL8.out
          | exact HK.out _ (HL8.out.setCell (by first | (simp; done) | (simp; omega)) _)
          | exact HK.out _ HL6.out
          | exact HK.out _ (HL6.out.alloc HL6.out.size _)
          | exact HK.out _ HL5.out)
        (first
          | (refine step_append_any _ (by rfl) _ _ _ (by rfl) wr.heap.size 3 i0 _ 1 8 Try.underlying22 hi0 kz0 kz1 kz2 rfl (by omega) (.slice (some ⟨wr.heap.size, 0, none⟩) 0 0) 0 [] (by simp [Act.eval, Act.put]) ((World.ownsRow_lit wr #[] 0 (Nat.le_refl _) (by unfold maxLen; omega) rfl).drew) wr.heap.size R2 (gr E.bd k).length c2 (cellsL (gr E.bd k)) (by simp [Act.eval, Act.put]) ((hr3.reads.alloc (Nat.le_refl _) _).drew) (one_cells _) (by unfold maxLen; omega) (by omega) (by simp) ?_; intro v1 w5 hown5 hg5 hat5; replace hown5 := own_zero hown5; obtain ⟨A1, d1', rfl⟩ := own_slice hown5; have HB5 := Lib.hid (fresh_below hg5 rfl); have HL5 := Lib.hid (HS8.out.low HB5.out); have HO5 := Lib.hid hown5; have c5 := (HB5.out.cell (p := ⟨w2.heap.size, 1, none⟩) z1).trans cY0; clear hown5 hg5 hat5)
          | (refine step_append_any _ (by rfl) _ _ _ (by rfl) wr.heap.size 3 i0 _ 1 8 Try.underlying22 hi0 kz0 kz1 kz2 rfl (by omega) (.slice A1 (gr E.bd k).length d1') (gr E.bd k).length (cellsL (gr E.bd k)) (by simp [Act.eval, Act.put]) HO5.out w5.heap.size T2 (gr F.bd k).length d2 (cellsL (gr F.bd k)) (by simp [Act.eval, Act.put]) ((hs3.next HB5.out).reads) (one_cells _) (by unfold maxLen; omega) (by omega) HB5.out.size ?_; intro v1 w6 hown6 hg6 hat6; obtain ⟨A2, d2', rfl⟩ := own_slice hown6; have HB6 := Lib.hid (HB5.out.grown hg6 HB5.out.size (fun g e => (own_ge HO5.out g e).1)); have HL6 := Lib.hid (HS8.out.low HB6.out); have HO6 := Lib.hid (cat_own hown6); have c6 := (HB6.out.cell (p := ⟨w2.heap.size, 1, none⟩) z1).trans cY0; have c6a := (World.cell?_alloc_lt w6 (.cells #[.slice A2 ((gr E.bd k).length + (gr F.bd k).length) d2'] 22) ⟨w2.heap.size, 1, none⟩ (Nat.lt_of_lt_of_le z1 HB6.out.size)).trans c6; clear hown6 hg6 hat6)
          | (refine step_append_lies _ (by rfl) _ _ _ (by rfl) (w2.heap.size + 1) 22 j0 _ 1 24 Try.underlying23 hj0 lz0 lz1 lz2 rfl (by omega) v k xs (by simp [Act.eval, Act.put]) ((HOWN.out _ HB6.out).alloc _) ⟨w6.heap.size, 0, none⟩ 1 1 [.slice A2 ((gr E.bd k).length + (gr F.bd k).length) d2'] (by simp [Act.eval, Act.put]) (by rfl) (World.news_of_block (cs := #[.slice A2 ((gr E.bd k).length + (gr F.bd k).length) d2']) (t := 22) (fr := (0, 0)) (heap_alloc_new w6 _)) (one_slice _ _ _) (by omega) (by unfold maxLen; omega) (by omega) (by have := HB6.out.size; simp; omega) (w6.heap.size + 1) (by simp) ?_; intro g cap w8 hown' hgrow hat hlt'; have HL8 := Lib.hid (HS8.out.grown (HB6.out.alloc HB6.out.size _) hgrow); have q2 := (HS8.out.cells HB6.out hgrow).1; have q3 := (HS8.out.cells HB6.out hgrow).2))
      all_goals
        obtain ⟨bf', hZ⟩ := HS8.out.step (l := gr E.bd k ++ gr F.bd k) (HB6.out.alloc HB6.out.size (.cells #[.slice A2 ((gr E.bd k).length + (gr F.bd k).length) d2'] 22)) (HO6.out.alloc _) hgrow (by rw [HLEN.out]; exact hown') (by rcases hat with h | h; exact Or.inl h.symm; exact Or.inr (by rw [h]; simp [Value.ownBlock]))
        rw [← HTK.out] at hZ
        have HW9 := Lib.hid hZ
        clear hown' hgrow hat hlt' HS8 hZ HB5 HO5 HL5 HB6 HO6 HL6 HL8 HOWN cYA c5 c6 c6a
        go_wp2_with fail
        go_roundw
        case rel => exact ⟨k + 1, by omega, by go_num, _, _, _, HW9.out⟩
        case measure => simp [intOf]; omega
    · obtain rfl : k = E.bd.length := by omega
      have e9 : (E.cat F).bd.take E.bd.length = (E.cat F).bd := by rw [List.take_of_length_le]; rw [Est.cat_len HE.out HF.out HS.out, HE.out.rows]; exact Nat.le_refl _
      rw [e9] at hS
      obtain ⟨R9, d9, rfl, hZ⟩ := hS.in hW2
      have hG : EstIn w2 (E.cat F) A c R9 d9 wr := hZ
      have hW4 := hW3
      have hV4 := hV3
      have HGp := Lib.hid (Est.cat_pool HE.out HF.out HS.out)
      have hGx := Lib.hid (fun i (hi : i < E.n) => Est.cat_exact HE.out HF.out HS.out hi)
      have HGo := Lib.hid (cat_owners HE.out HF.out HS.out)
      have HGm := Lib.hid (Est.cat_m HE.out HF.out HS.out)
      have HGs := Lib.hid (show (E.cat F).sh.length = E.sh.length from rfl)
      generalize E.cat F = G at hG HGp hGx HGo HGm HGs HGC cY fY ⊢
      clear hS hW3 hV3 hZ cY fY z1 cbx cby zx zy e9 hW2 hV2
      obtain ⟨cbx, zx⟩ := hW4.box rfl
      obtain ⟨cby, zy⟩ := hV4.box hz0
      have cbz := fun j => cell_of_row wr _ j _ _ _ hG.bx
      have hpb1 := HE.out.pool_bd
      have hpb2 := HF.out.pool_bd
      have HQ := Lib.hid (owners_ok HC.out hW4.e)
      go_wp2_with fail
      refine HQ.out.mono ?_
      rintro e v10 ⟨O1, o1c, rfl, hO1, hb⟩
      have hW10 := hW4.next hb
      have hV10 := hV4.next hb
      have hG10 := hG.next hb
      clear hb hW4 hV4 hG cbx cby cbz zx zy HQ 
      obtain ⟨cbx, zx⟩ := hW10.box rfl
      obtain ⟨cby, zy⟩ := hV10.box hz0
      have cbz := fun j => cell_of_row v10 _ j _ _ _ hG10.bx
      have HQ := Lib.hid (owners_ok HD.out hV10.e)
      go_wp2_with fail
      refine HQ.out.mono ?_
      rintro e v11 ⟨O2, o2c, rfl, hO2, hb⟩
      have hW11 := hW10.next hb
      have hV11 := hV10.next hb
      have hG11 := hG10.next hb
      have hO1_11 := hO1.next hb
      clear hb hW10 hV10 hG10 cbx cby cbz zx zy HQ hO1
      obtain ⟨cbx, zx⟩ := hW11.box rfl
      obtain ⟨cby, zy⟩ := hV11.box hz0
      have cbz := fun j => cell_of_row v11 _ j _ _ _ hG11.bx
      have HQ := Lib.hid (owners_ok HGC.out hG11.e)
      rw [HGo.out, HGm.out] at HQ
      go_wp2_with fail
      refine HQ.out.mono ?_
      rintro e v12 ⟨O3, o3c, rfl, hO3, hb⟩
      have hW12 := hW11.next hb
      have hV12 := hV11.next hb
      have hG12 := hG11.next hb
      have hO1_12 := hO1_11.next hb
      have hO2_12 := hO2.next hb
      clear hb hW11 hV11 hG11 cbx cby cbz zx zy HQ hO1_11 hO2
      obtain ⟨cbx, zx⟩ := hW12.box rfl
      obtain ⟨cby, zy⟩ := hV12.box hz0
      have cbz := fun j => cell_of_row v12 _ j _ _ _ hG12.bx
      have HQ := Lib.hid (exact_ok HC.out hW12.e)
      go_wp2_with fail
      refine HQ.out.mono ?_
      rintro e v13 ⟨X1, x1c, rfl, hX1, hb⟩
      have hW13 := hW12.next hb
      have hV13 := hV12.next hb
      have hG13 := hG12.next hb
      have hO1_13 := hO1_12.next hb
      have hO2_13 := hO2_12.next hb
      have hO3_13 := hO3.next hb
      clear hb hW12 hV12 hG12 cbx cby cbz zx zy HQ hO1_12 hO2_12 hO3
      obtain ⟨cbx, zx⟩ := hW13.box rfl
      obtain ⟨cby, zy⟩ := hV13.box hz0
      have cbz := fun j => cell_of_row v13 _ j _ _ _ hG13.bx
      have HQ := Lib.hid (exact_ok HD.out hV13.e)
      rw [HFL.out] at HQ
      go_wp2_with fail
      refine HQ.out.mono ?_
      rintro e v14 ⟨X2, x2c, rfl, hX2, hb⟩
      have hW14 := hW13.next hb
      have hV14 := hV13.next hb
      have hG14 := hG13.next hb
      have hO1_14 := hO1_13.next hb
      have hO2_14 := hO2_13.next hb
      have hO3_14 := hO3_13.next hb
      have hX1_14 := hX1.next hb
      clear hb hW13 hV13 hG13 cbx cby cbz zx zy HQ hO1_13 hO2_13 hO3_13 hX1
      obtain ⟨cbx, zx⟩ := hW14.box rfl
      obtain ⟨cby, zy⟩ := hV14.box hz0
      have cbz := fun j => cell_of_row v14 _ j _ _ _ hG14.bx
      have HQ := Lib.hid (exact_ok HGC.out hG14.e)
      rw [HGs.out] at HQ
      go_wp2_with fail
      refine HQ.out.mono ?_
      rintro e v15 ⟨X3, x3c, rfl, hX3, hb⟩
      have hW15 := hW14.next hb
      have hV15 := hV14.next hb
      have hG15 := hG14.next hb
      have hO1_15 := hO1_14.next hb
      have hO2_15 := hO2_14.next hb
      have hO3_15 := hO3_14.next hb
      have hX1_15 := hX1_14.next hb
      have hX2_15 := hX2.next hb
      clear hb hW14 hV14 hG14 cbx cby cbz zx zy HQ hO1_14 hO2_14 hO3_14 hX1_14 hX2
      obtain ⟨cbx, zx⟩ := hW15.box rfl
      obtain ⟨cby, zy⟩ := hV15.box hz0
      have cbz := fun j => cell_of_row v15 _ j _ _ _ hG15.bx
      have HQ := Lib.hid (pool_ok HC.out hW15.e)
      go_wp2_with fail
      refine HQ.out.mono ?_
      rintro e v16 ⟨rfl, hb⟩
      have hW16 := hW15.next hb
      have hV16 := hV15.next hb
      have hG16 := hG15.next hb
      have hO1_16 := hO1_15.next hb
      have hO2_16 := hO2_15.next hb
      have hO3_16 := hO3_15.next hb
      have hX1_16 := hX1_15.next hb
      have hX2_16 := hX2_15.next hb
      have hX3_16 := hX3.next hb
      clear hb hW15 hV15 hG15 cbx cby cbz zx zy HQ hO1_15 hO2_15 hO3_15 hX1_15 hX2_15 hX3
      obtain ⟨cbx, zx⟩ := hW16.box rfl
      obtain ⟨cby, zy⟩ := hV16.box hz0
      have cbz := fun j => cell_of_row v16 _ j _ _ _ hG16.bx
      have HQ := Lib.hid (pool_ok HD.out hV16.e)
      go_wp2_with fail
      refine HQ.out.mono ?_
      rintro e v17 ⟨rfl, hb⟩
      have hW17 := hW16.next hb
      have hV17 := hV16.next hb
      have hG17 := hG16.next hb
      have hO1_17 := hO1_16.next hb
      have hO2_17 := hO2_16.next hb
      have hO3_17 := hO3_16.next hb
      have hX1_17 := hX1_16.next hb
      have hX2_17 := hX2_16.next hb
      have hX3_17 := hX3_16.next hb
      clear hb hW16 hV16 hG16 cbx cby cbz zx zy HQ hO1_16 hO2_16 hO3_16 hX1_16 hX2_16 hX3_16
      obtain ⟨cbx, zx⟩ := hW17.box rfl
      obtain ⟨cby, zy⟩ := hV17.box hz0
      have cbz := fun j => cell_of_row v17 _ j _ _ _ hG17.bx
      have HQ := Lib.hid (pool_ok HGC.out hG17.e)
      rw [HGp.out] at HQ
      go_wp2_with fail
      refine HQ.out.mono ?_
      rintro e v18 ⟨rfl, hb⟩
      have hW18 := hW17.next hb
      have hV18 := hV17.next hb
      have hG18 := hG17.next hb
      have hO1_18 := hO1_17.next hb
      have hO2_18 := hO2_17.next hb
      have hO3_18 := hO3_17.next hb
      have hX1_18 := hX1_17.next hb
      have hX2_18 := hX2_17.next hb
      have hX3_18 := hX3_17.next hb
      clear hb hW17 hV17 hG17 cbx cby cbz zx zy HQ hO1_17 hO2_17 hO3_17 hX1_17 hX2_17 hX3_17
      obtain ⟨cbx, zx⟩ := hW18.box rfl
      obtain ⟨cby, zy⟩ := hV18.box hz0
      have cbz := fun j => cell_of_row v18 _ j _ _ _ hG18.bx
      have s1 : IntKind.i64.wrap (E.pool + F.pool) = E.pool + F.pool := IntWalk.i64_in _ (by omega)
      have n1 : ((E.sh.length : Int) != (E.sh.length : Int)) = false := by simp
      have n2 : (E.pool + F.pool != E.pool + F.pool) = false := by simp
      have hEm := HE.out.m30
      have hFm := HF.out.m30
      have HR1 := Lib.hid (show Reads v18 v18.heap.size 1 O1 E.m (cellsL (ownersL E E.m)) by have := hO1_18.reads; rwa [ownersL_length] at this)
      have HR2 := Lib.hid (fun (W : World) (hb : Below v18.heap.size v18 W) => show Reads W W.heap.size 1 O2 F.m (cellsL (ownersL F F.m)) by have := (hO2_18.next hb).reads; rwa [ownersL_length] at this)
      go_wp2_with (first
        | (at_builtin; refine wpList_append_wanted (by rfl) (.tmp 198) (.tmp 199) 22 rfl v18.heap.size 3 i0 (.int .i64 0) 1 8 Try.underlying22 hi0 kz0 kz1 kz2 rfl (by omega) (.slice (some ⟨v18.heap.size, 0, none⟩) 0 0) 0 [] rfl (World.ownsRow_lit v18 #[] 0 (Nat.le_refl _) (by unfold maxLen; omega) rfl) v18.heap.size O1 E.m o1c (cellsL (ownersL E E.m)) rfl (HR1.out.alloc (Nat.le_refl _) _) (one_cells _) (by unfold maxLen; omega) (by omega) (by simp) ?_; intro v1 w5 hown5 hg5 hat5; replace hown5 := own_zero hown5; obtain ⟨A1, d1', rfl⟩ := own_slice hown5; have HB5 := Lib.hid (fresh_below' hg5 rfl); have HO5 := Lib.hid hown5; clear hown5 hg5 hat5)
        | (at_builtin; refine wpList_append_wanted (by rfl) (.tmp 200) (.tmp 201) 22 rfl v18.heap.size 3 i0 (.int .i64 0) 1 8 Try.underlying22 hi0 kz0 kz1 kz2 rfl (by omega) (.slice A1 E.m d1') E.m (cellsL (ownersL E E.m)) rfl HO5.out w5.heap.size O2 F.m o2c (cellsL (ownersL F F.m)) rfl (HR2.out _ HB5.out) (one_cells _) (by unfold maxLen; omega) (by omega) HB5.out.size ?_; intro v1 w6 hown6 hg6 hat6; obtain ⟨A2, d2', rfl⟩ := own_slice hown6; have HB6 := Lib.hid (HB5.out.grown hg6 HB5.out.size (fun g e => (own_ge HO5.out g e).1)); have HO6 := Lib.hid hown6; clear hown6 hg6 hat6))
      have HM := Lib.hid (show (ownersL E E.m ++ ownersL F F.m).length = E.m + F.m by rw [List.length_append, ownersL_length, ownersL_length])
      have HI6 := Lib.hid (show Ints w6.heap.size w6 A2 (ownersL E E.m ++ ownersL F F.m) by
        have q := Ints.of_row (xs := ownersL E E.m ++ ownersL F F.m) (show w6.ownsRow v18.heap.size 3 1 (Value.slice A2 (E.m + F.m) d2') (ownersL E E.m ++ ownersL F F.m).length (cellsL (ownersL E E.m ++ ownersL F F.m)) by rw [HM.out, cellsL, List.map_append]; exact HO6.out)
        obtain ⟨A3, c3, e3, _, _, i3⟩ := q
        injection e3 with e3
        subst e3
        exact i3)
      have H25 := Lib.hid (same_any A2 O3 d2' o3c (ownersL E E.m ++ ownersL F F.m) (ownersL E E.m ++ ownersL F F.m) w6 HI6.out (hO3_18.next HB6.out) (by rw [HM.out]; unfold maxLen; omega) (by rw [HM.out]; unfold maxLen; omega))
      rw [HM.out, show sameL (ownersL E E.m ++ ownersL F F.m) (ownersL E E.m ++ ownersL F F.m) = true from decide_eq_true rfl] at H25
      refine H25.out.mono ?_
      rintro e v19 ⟨rfl, hb⟩
      have hb9 := bcall HB6.out HB6.out.size hb
      have hW19 := hW18.next hb9
      have hX1 := hX1_18.next hb9
      have hX2 := hX2_18.next hb9
      have hX3 := hX3_18.next hb9
      clear hb hb9 H25 HI6 HO6 HB6 HO5 HB5 HR1 HR2 hW18 hV18 hG18 hO1_18 hO2_18 hO3_18 hX1_18 hX2_18 hX3_18 cbx cby cbz zx zy
      go_wp2_with fail
      go_loopw [26] (fun i wr => ∃ k : Nat, k ≤ E.sh.length ∧ i = .int .i64 k ∧ Below v19.heap.size v19 wr) (fun i _ => E.sh.length - (intOf i).toNat)
      case atStart => exact ⟨0, Nat.zero_le _, rfl, Below.refl _ _⟩
      case round =>
        obtain ⟨k, hk, rfl, hB⟩ := hrel
        by_cases hlt : k < E.sh.length
        · obtain ⟨x1, rfl, hx1, c1⟩ := (hX1.next hB).at_ (k := k) (by rw [exactL, mapL_length]; exact hlt)
          obtain ⟨x2, rfl, hx2, c2⟩ := (hX2.next hB).at_ (k := k) (by rw [exactL, mapL_length, HFL.out]; exact hlt)
          obtain ⟨x3, rfl, hx3, c3⟩ := (hX3.next hB).at_ (k := k) (by rw [exactL, mapL_length, HGs.out]; exact hlt)
          rw [exactL, mapL_gi hlt] at c1
          rw [exactL, mapL_gi (by rw [HFL.out]; exact hlt)] at c2
          rw [exactL, mapL_gi (by rw [HGs.out]; exact hlt), hGx.out k hlt] at c3
          have i1 : (k : Int) < (E.sh.length : Int) := by omega
          have b1 := HE.out.exact_bd k hlt
          have b2 := HF.out.exact_bd k (by rw [Est.cat_n HS.out]; exact hlt)
          have s2 : IntKind.i64.wrap (E.exact k + F.exact k) = E.exact k + F.exact k := IntWalk.i64_in _ (by omega)
          have n3 : (E.exact k + F.exact k != E.exact k + F.exact k) = false := by simp
          go_upto_region 25 with fail
          go_quiet (fail)
          go_wp2_with fail
          go_roundw
          case rel => exact ⟨k + 1, by omega, by go_num, below_drewN hB _⟩
          case measure => simp [intOf]; omega
        · obtain rfl : k = E.sh.length := by omega
          go_wp2_with fail
          go_ret
          exact ⟨rfl, (hW19.next hB).below⟩
end Go.Proofs.Ytedgdmblpjfaiaa
