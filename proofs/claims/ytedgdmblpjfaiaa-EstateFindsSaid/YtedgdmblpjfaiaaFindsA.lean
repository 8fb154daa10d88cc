/- The pool and the exact payments of a reckoned estate; Owners, Claims, Pool of estate. -/
import Derived.Test.YtedgdmblpjfaiaaAccPlain
import Derived.Test.YtedgdmblpjfaiaaReckon
namespace Go.Proofs.Ytedgdmblpjfaiaa
open Go.RowKit Go.Deep
set_option linter.unusedVariables false
set_option linter.unusedSimpArgs false

def mapL (n : Nat) (f : Nat → Int) : List Int := (List.range n).map f
theorem mapL_length (n : Nat) (f : Nat → Int) : (mapL n f).length = n := by simp [mapL]
theorem mapL_gi {n i : Nat} {f : Nat → Int} (h : i < n) : gi (mapL n f) i = f i := by
  rw [gi_get (by rw [mapL_length]; exact h)]; simp [mapL]
theorem mapL_congr {n : Nat} {f g : Nat → Int} (h : ∀ i, i < n → f i = g i) : mapL n f = mapL n g := by
  refine gi_ext (by simp [mapL]) fun k hk => ?_
  rw [mapL_length] at hk
  rw [mapL_gi hk, mapL_gi hk, h k hk]
theorem mapL_set (n j : Nat) (v : Int) (f : Nat → Int) : (cellsL (mapL n f)).set j (.int .i64 v) = cellsL (mapL n (fun i => if i = j then v else f i)) := by
  rw [cellsL, cellsL, ← List.map_set]
  congr 1
  refine List.ext_getElem (by simp [mapL]) fun i h1 h2 => ?_
  rw [mapL_length] at h2
  simp only [mapL, List.getElem_set, List.getElem_map, List.getElem_range]
  by_cases e : j = i
  · subst e; simp
  · rw [if_neg e, if_neg (fun h => e h.symm)]
theorem made_list (n : Nat) : (madeCells #[.int .i64 0] n).toList = cellsL (mapL n fun _ => 0) := by
  refine List.ext_getElem (by simp [madeCells, mapL]) fun i h1 h2 => ?_
  simp [madeCells, mapL, Nat.mod_one]
theorem made_own {base : Nat} (w : World) (n : Nat) (hb : base ≤ w.heap.size) (hn : n ≤ maxLen) : (w.alloc (.cells (madeCells #[.int .i64 0] n) 3)).ownsRow base 3 1 (.slice (some ⟨w.heap.size, 0, none⟩) n n) n (cellsL (mapL n fun _ => 0)) := by
  rw [← made_list]; exact World.ownsRow_lit w _ n hb hn (by simp [madeCells])

theorem sum_mapL {n : Nat} {f : Nat → Int} {k : Nat} (h : k ≤ n) : sumTo (gi (mapL n f)) k = sumTo f k := sumTo_congr fun i hi => mapL_gi (by omega)

section
variable {E : Est} (h : E.Ok)
include h
theorem Est.Ok.sumW_bd (k : Nat) (hk : k ≤ E.n) : 0 ≤ sumTo (fun i => E.worth i E.m) k ∧ sumTo (fun i => E.worth i E.m) k ≤ 30000000 * k := by
  have := sumTo_bd (f := fun i => E.worth i E.m) (lo := 0) (hi := 30000000) (k := k) (fun i hi => h.worth_bd i (by omega)); omega
theorem Est.Ok.sumC_bd (k : Nat) (hk : k ≤ E.n) : 0 ≤ sumTo E.claim k ∧ sumTo E.claim k ≤ 30000000000 * k := by
  have := sumTo_bd (f := E.claim) (lo := 0) (hi := 30000000000) (k := k) (fun i hi => h.claim_bd i (by omega)); omega
theorem Est.Ok.SW_bd : 0 ≤ E.S * sumTo (fun i => E.worth i E.m) E.n ∧ E.S * sumTo (fun i => E.worth i E.m) E.n ≤ 300000000000 := by
  have a := h.sumW_bd E.n (Nat.le_refl _)
  have b := h.S_bd
  have c := h.n10
  have m := mul_bd (a := E.S) (x := sumTo (fun i => E.worth i E.m) E.n) (M := 300000000) (by omega) (by omega) (by omega) (by omega) (by omega)
  have p := Int.mul_nonneg (show 0 ≤ E.S by omega) a.1
  omega
theorem Est.Ok.pool_bd : -300000000000 ≤ E.pool ∧ E.pool ≤ 300000000000 := by
  have a := h.SW_bd
  have b := h.sumC_bd E.n (Nat.le_refl _)
  have c := h.n10
  unfold Est.pool; omega
end

set_option maxRecDepth 100000 in
set_option maxHeartbeats 4000000 in
theorem poolm_any (E : Est) (hE : E.Ok) (g : Nat) (A : Option Addr) (c : Nat) (R : Option Addr) (d : Nat) (O : Option Addr) (oc : Nat) (W : Option Addr) (wc : Nat) (C : Option Addr) (cc : Nat) (w : World) (h : Reck w g E A c R d O oc W wc C cc) :
    Calls Try.prog 37 #[.pointer (some ⟨g, 0, none⟩)] w fun e w' => e = .returned (.int .i64 E.pool) ∧ Below w.heap.size w w' := by
  have hlg := lt_some h.g
  have cg := fun j => cell_of_row w _ j _ _ _ h.g
  have hn10 : E.sh.length ≤ 10 := hE.n10
  have cW := Lib.hid (fun (V : World) (hb : Below w.heap.size w V) => sum_any W wc (worthsL E) V ((h.next hb).wo) (by rw [worthsL_length]; unfold maxLen; omega) (fun k hk => by
    rw [worthsL_length] at hk; rw [show worthsL E = mapL E.sh.length (fun i => E.worth i E.m) from rfl, sum_mapL hk]; have := hE.sumW_bd k hk; omega))
  have cC := Lib.hid (fun (V : World) (hb : Below w.heap.size w V) => sum_any C cc (claimsL E E.sh.length) V ((h.next hb).cl) (by rw [claimsL_length]; unfold maxLen; omega) (fun k hk => by
    rw [claimsL_length] at hk; rw [show claimsL E E.sh.length = mapL E.sh.length E.claim from rfl, sum_mapL hk]; have := hE.sumC_bd k hk; omega))
  rw [worthsL_length, show worthsL E = mapL E.sh.length (fun i => E.worth i E.m) from rfl, sum_mapL (Nat.le_refl _)] at cW
  rw [claimsL_length, show claimsL E E.sh.length = mapL E.sh.length E.claim from rfl, sum_mapL (Nat.le_refl _)] at cC
  have b1 := hE.SW_bd
  have b2 := hE.pool_bd
  have hp : E.pool = E.S * sumTo (fun i => E.worth i E.m) E.sh.length - sumTo E.claim E.sh.length := rfl
  have HP := Lib.hid hp
  obtain ⟨x, hx⟩ : ∃ x, x = sumTo (fun i => E.worth i E.m) E.sh.length := ⟨_, rfl⟩
  obtain ⟨y, hy⟩ : ∃ y, y = sumTo E.claim E.sh.length := ⟨_, rfl⟩
  have b3 : 0 ≤ E.S * x ∧ E.S * x ≤ 300000000000 := by rw [hx]; exact b1
  rw [hp, ← hx, ← hy] at b2
  rw [← hx] at cW
  rw [← hy] at cC
  rw [← hx, ← hy] at HP
  have s1 : IntKind.i64.wrap (E.S * x) = E.S * x := IntWalk.i64_in _ (by omega)
  have s2 : IntKind.i64.wrap (E.S * x - y) = E.S * x - y := IntWalk.i64_in _ (by omega)
  clear hx hy hp b1 h
  go_enter Try.func37, Try.ntmps37
  go_wp2_with fail
  refine wp_region_ext (by kernel_rfl) (by kernel_rfl) ?_
  repeat (first | go_big_quiet_step ((first | (go_at_call_of 34 (Value.slice W E.sh.length wc); exact calls_ext_same (cW.out _ (Ext.h _))) | (go_at_call_of 34 (Value.slice C E.sh.length cc); exact calls_ext_same (cC.out _ (Ext.h _))))) | quiet_step ((first | (go_at_call_of 34 (Value.slice W E.sh.length wc); exact calls_ext_same (cW.out _ (Ext.h _))) | (go_at_call_of 34 (Value.slice C E.sh.length cc); exact calls_ext_same (cC.out _ (Ext.h _))))))
  refine wpQuiet_nil ?_
  rintro _ ⟨⟨w5, hb5⟩, rfl⟩
  go_wp2_with fail
  go_ret
  exact ⟨ret_int HP.out.symm, hb5⟩

set_option maxRecDepth 100000 in
set_option maxHeartbeats 4000000 in
theorem exactm_any (E : Est) (hE : E.Ok) (g : Nat) (A : Option Addr) (c : Nat) (R : Option Addr) (d : Nat) (O : Option Addr) (oc : Nat) (W : Option Addr) (wc : Nat) (C : Option Addr) (cc : Nat) (i : Nat) (hi : i < E.n) (w : World) (h : Reck w g E A c R d O oc W wc C cc)
    (he : EIn w.heap.size w A c R d E) :
    Calls Try.prog 38 #[.pointer (some ⟨g, 0, none⟩), .int .i64 i] w fun e w' => e = .returned (.int .i64 (E.exact i)) ∧ Below w.heap.size w w' := by
  have hlg := lt_some h.g
  have cg := fun j => cell_of_row w _ j _ _ _ h.g
  have hn10 : E.sh.length ≤ 10 := hE.n10
  have his : i < E.sh.length := hi
  have cP := Lib.hid (fun (V : World) (hb : Below w.heap.size w V) => poolm_any E hE g A c R d O oc W wc C cc V (h.next hb))
  obtain ⟨aw, rfl, haw, cw⟩ := h.wo.at_ (k := i) (by rw [worthsL_length]; exact his)
  obtain ⟨ac, rfl, hac, cc'⟩ := h.cl.at_ (k := i) (by rw [claimsL_length]; exact his)
  obtain ⟨as', rfl, has, cs⟩ := he.sh.at_ his
  rw [worthsL_gi his] at cw
  rw [claimsL_gi his] at cc'
  have y1 : (aw.add i).block < w.heap.size := by rw [block_add]; exact haw
  have y2 : (ac.add i).block < w.heap.size := by rw [block_add]; exact hac
  have y3 : (as'.add i).block < w.heap.size := by rw [block_add]; exact has
  have i1 : (i : Int) < (E.sh.length : Int) := by omega
  have b0 := hE.S_bd
  have b1 := hE.claim_bd i hi
  have b2 := hE.worth_bd i hi
  have b3 := hE.pool_bd
  have b4 : 1 ≤ gi E.sh i ∧ gi E.sh i ≤ 1000 := hE.share_bd i hi
  have HX := Lib.hid (show E.exact i = E.S * (E.claim i - E.S * E.worth i E.m) + gi E.sh i * E.pool from rfl)
  have m1 := mul_bd (a := E.S) (x := E.worth i E.m) (M := 30000000) (by omega) (by omega) (by omega) (by omega) (by omega)
  have m2 := mul_bd (a := E.S) (x := E.claim i - E.S * E.worth i E.m) (M := 60000000000) (by omega) (by omega) (by omega) (by omega) (by omega)
  have m3 := mul_bd (a := gi E.sh i) (x := E.pool) (M := 300000000000) (by omega) (by omega) (by omega) (by omega) (by omega)
  have s1 : IntKind.i64.wrap (E.S * E.worth i E.m) = E.S * E.worth i E.m := IntWalk.i64_in _ (by omega)
  have s2 : IntKind.i64.wrap (E.claim i - E.S * E.worth i E.m) = E.claim i - E.S * E.worth i E.m := IntWalk.i64_in _ (by omega)
  have s3 : IntKind.i64.wrap (E.S * (E.claim i - E.S * E.worth i E.m)) = E.S * (E.claim i - E.S * E.worth i E.m) := IntWalk.i64_in _ (by omega)
  have s4 : IntKind.i64.wrap (gi E.sh i * E.pool) = gi E.sh i * E.pool := IntWalk.i64_in _ (by omega)
  have s5 : IntKind.i64.wrap (E.S * (E.claim i - E.S * E.worth i E.m) + gi E.sh i * E.pool) = E.S * (E.claim i - E.S * E.worth i E.m) + gi E.sh i * E.pool := IntWalk.i64_in _ (by omega)
  clear h he
  go_enter Try.func38, Try.ntmps38
  go_wp2_with fail
  refine wp_region_ext (by kernel_rfl) (by kernel_rfl) ?_
  repeat (first | go_big_quiet_step ((go_at_call 37; exact calls_ext (cP.out _ (Ext.h _)))) | quiet_step ((go_at_call 37; exact calls_ext (cP.out _ (Ext.h _)))))
  refine wpQuiet_nil ?_
  rintro _ ⟨⟨w5, hb5⟩, rfl⟩
  go_wp2_with fail
  go_ret
  exact ⟨ret_int HX.out.symm, hb5⟩
end Go.Proofs.Ytedgdmblpjfaiaa
