/- CakeChecks returns true for every two cakes and point. -/
import Derived.Test.YtgcbmnohhbcfiaaCkU
import Derived.Test.YtgcbmnohhbcfiaaCkS
namespace Go.Proofs.Ytgcbmnohhbcfiaa
open Go.RowKit Go.Deep
set_option linter.unusedVariables false
set_option linter.unusedSimpArgs false

set_option maxRecDepth 100000 in
set_option maxHeartbeats 8000000 in
theorem checks_walk (K L : Ck) (A : Option Addr) (c : Nat) (R : Option Addr) (d : Nat) (B : Option Addr) (e : Nat) (S : Option Addr) (f : Nat) (p : Rt) (hp : p.wf) (w : World) (hk : CIn w.heap.size w A c R d K) (hl : CIn w.heap.size w B e S f L) :
    Calls Try.prog 4 #[cV A c R d K, cV B e S f L, rV p] w fun x w' => x = .returned (.bool true) ∧ Below w.heap.size w w' := by
  have HB0 := Lib.hid (show Below w.heap.size w (((w.alloc (cB A c R d K)).alloc (cB B e S f L)).alloc (rB p)) from ((one_alloc w _).alloc (by simp) _).alloc (by simp; omega) _)
  have ha : (((w.alloc (cB A c R d K)).alloc (cB B e S f L)).alloc (rB p)).heap[w.heap.size]? = some (cB A c R d K) := heap_old (heap_old (heap_new rfl))
  have hb : (((w.alloc (cB A c R d K)).alloc (cB B e S f L)).alloc (rB p)).heap[w.heap.size + 1]? = some (cB B e S f L) := heap_old (heap_new (by simp))
  have hq : (((w.alloc (cB A c R d K)).alloc (cB B e S f L)).alloc (rB p)).heap[w.heap.size + 2]? = some (rB p) := heap_new (by simp)
  have HK := Lib.hid hk
  have HL := Lib.hid hl
  have HP := Lib.hid hp
  have G1 := Lib.hid (fun (W : World) => cgreat_any K A c R d (Nat.le_trans hk.lc hk.mc) (Nat.le_trans hk.ld hk.md) W)
  have G2 := Lib.hid (fun (W : World) => cgreat_any L B e S f (Nat.le_trans hl.lc hl.mc) (Nat.le_trans hl.ld hl.md) W)
  clear hk hl hp
  generalize K.big = k1 at *
  generalize L.big = k2 at *
  go_enter Try.func4, Try.ntmps4
  try dsimp only [List.append]
  have c1 := fun j => cell_of_row _ _ j _ _ _ ha
  go_wp2_with fail
  refine (G1.out _).mono ?_
  rintro x w1 ⟨rfl, hw⟩
  have HB1 := Lib.hid (bcall HB0.out HB0.out.size hw)
  have ha := heap_ext ha hw
  have hb := heap_ext hb hw
  have hq := heap_ext hq hw
  clear c1 hw
  cases k1 with
  | true =>
    go_wp2_with fail
    go_ret
    exact ⟨rfl, HB1.out⟩
  | false =>
  have c2 := fun j => cell_of_row _ _ j _ _ _ hb
  go_wp2_with fail
  refine (G2.out _).mono ?_
  rintro x w2 ⟨rfl, hw⟩
  have HB2 := Lib.hid (bcall HB1.out HB1.out.size hw)
  have ha := heap_ext ha hw
  have hb := heap_ext hb hw
  have hq := heap_ext hq hw
  clear c2 hw G1 G2
  cases k2 with
  | true =>
    go_wp2_with fail
    go_ret
    exact ⟨rfl, HB2.out⟩
  | false =>
  have HT := Lib.hid (fun (W : World) (hW : Below w.heap.size w W) => ctotal_any K A c R d W (HK.out.next hW))
  have HF := Lib.hid (fun (W : World) (hW : Below w.heap.size w W) => ftotal_any K A c R d W (HK.out.next hW))
  have HD := Lib.hid (fun (W : World) (hW : Below w.heap.size w W) => cdensity_any K A c R d p HP.out W (HK.out.next hW))
  have HE := Lib.hid (fun (W : World) (hW : Below w.heap.size w W) => fdensity_any K A c R d p HP.out W (HK.out.next hW))
  have HC := Lib.hid (fun (W : World) (hW : Below w.heap.size w W) => ccheck_any K A c R d W (HK.out.next hW))
  have HG := Lib.hid (fun (W : World) (hW : Below w.heap.size w W) => fckcheck_any K A c R d W (HK.out.next hW))
  have HS := Lib.hid (fun (W : World) (hW : Below w.heap.size w W) => csame_any K L A c R d B e S f W (HK.out.next hW) (HL.out.next hW))
  have HR := Lib.hid (fun (W : World) (hW : Below w.heap.size w W) => fsame_any K L A c R d B e S f W (HK.out.next hW) (HL.out.next hW))
  generalize K.tot = tt at *
  generalize K.den p = dd at *
  generalize K.denC p = dc at *
  generalize K.code = cc at *
  generalize sameK K L = sk at *
  have c1 := fun j => cell_of_row _ _ j _ _ _ ha
  go_wp2_with fail
  refine (HT.out _ HB2.out).mono ?_
  rintro x w3 ⟨rfl, hw⟩
  have HB3 := Lib.hid (bcall HB2.out HB2.out.size hw)
  have ha := heap_ext ha hw
  have hb := heap_ext hb hw
  have hq := heap_ext hq hw
  clear c1 hw HT
  have c1 := fun j => cell_of_row _ _ j _ _ _ ha
  go_wp2_with fail
  refine (HF.out _ HB3.out).mono ?_
  rintro x w4 ⟨rfl, hw⟩
  have HB4 := Lib.hid (bcall HB3.out HB3.out.size hw)
  have ha := heap_ext ha hw
  have hb := heap_ext hb hw
  have hq := heap_ext hq hw
  clear c1 hw HF
  have c1 := fun j => cell_of_row _ _ j _ _ _ ha
  have c3 := fun j => cell_of_row _ _ j _ _ _ hq
  have z3 := lt_some hq
  go_wp2_with fail
  refine (HD.out _ HB4.out).mono ?_
  rintro x w5 ⟨rfl, hw⟩
  have HB5 := Lib.hid (bcall HB4.out HB4.out.size hw)
  have ha := heap_ext ha hw
  have hb := heap_ext hb hw
  have hq := heap_ext hq hw
  clear c1 c3 z3 hw HD
  have c1 := fun j => cell_of_row _ _ j _ _ _ ha
  have c3 := fun j => cell_of_row _ _ j _ _ _ hq
  have z3 := lt_some hq
  go_wp2_with fail
  refine (HE.out _ HB5.out).mono ?_
  rintro x w6 ⟨rfl, hw⟩
  have HB6 := Lib.hid (bcall HB5.out HB5.out.size hw)
  have ha := heap_ext ha hw
  have hb := heap_ext hb hw
  have hq := heap_ext hq hw
  clear c1 c3 z3 hw HE
  have c1 := fun j => cell_of_row _ _ j _ _ _ ha
  have c2 := fun j => cell_of_row _ _ j _ _ _ hb
  have z1 := lt_some ha
  have z2 := lt_some hb
  have K1 := Lib.hid (fun (W : World) (hW : Below w6.heap.size w6 W) => HC.out W (bcall HB6.out HB6.out.size hW))
  have K2 := Lib.hid (fun (W : World) (hW : Below w6.heap.size w6 W) => HG.out W (bcall HB6.out HB6.out.size hW))
  have K3 := Lib.hid (fun (W : World) (hW : Below w6.heap.size w6 W) => HS.out W (bcall HB6.out HB6.out.size hW))
  have K4 := Lib.hid (fun (W : World) (hW : Below w6.heap.size w6 W) => HR.out W (bcall HB6.out HB6.out.size hW))
  have e1 : (cc == cc) = true := by simp
  have e2 : (tt == tt) = true := by simp
  have e3 : (dd == dd) = true := by simp
  have e4 : (dc == dc) = true := by simp
  have e5 : (sk == sk) = true := by simp
  clear HC HG HS HR
  go_wp2_with fail
  refine wp_region_ext (by kernel_rfl) (by kernel_rfl) ?_
  repeat (first | go_big_quiet_step ((first | (go_at_call 26; exact calls_ext (K1.out _ (Ext.h _))) | (go_at_call 27; exact calls_ext (K2.out _ (Ext.h _))) | (go_at_call 28; exact calls_ext (K3.out _ (Ext.h _))) | (go_at_call 21; exact calls_ext (K4.out _ (Ext.h _))))) | quiet_step ((first | (go_at_call 26; exact calls_ext (K1.out _ (Ext.h _))) | (go_at_call 27; exact calls_ext (K2.out _ (Ext.h _))) | (go_at_call 28; exact calls_ext (K3.out _ (Ext.h _))) | (go_at_call 21; exact calls_ext (K4.out _ (Ext.h _))))))
  refine wpQuiet_nil ?_
  rintro _ ⟨⟨w7, hb7⟩, rfl⟩
  have HB7 := Lib.hid (bcall HB6.out HB6.out.size hb7)
  clear c1 c2 z1 z2 hb7
  go_wp2_with fail
  go_ret
  exact ⟨rfl, HB7.out⟩
end Go.Proofs.Ytgcbmnohhbcfiaa
