/- MarketFinds returns true. -/
import Derived.Test.YtpijllobpohpgaaMa11
import Derived.Test.YtpijllobpohpgaaMa2
namespace Go.Proofs.Ytpijllobpohpgaa
open Go.RowKit Go.Deep
set_option linter.unusedVariables false
set_option linter.unusedSimpArgs false

set_option maxRecDepth 100000 in
set_option maxHeartbeats 16000000 in
theorem finds_walk (bs : List (List Int)) (A : Option Addr) (c : Nat) (i : Int) (w : World) (h : GIn w.heap.size w A c bs) :
    Calls Try.prog 6 #[gV A c bs, .int .i64 i] w fun e w' => e = .returned (.bool true) ∧ Below w.heap.size w w' := by
  have hB0 : Bx w [(w.heap.size, gB A c bs)] (w.alloc (gB A c bs)) := (Bx.start w).new rfl _
  have H0 := Lib.hid (fun (W : World) (hW : Below w.heap.size w W) => mgreat_any bs A c W (h.next hW))
  have H1 := Lib.hid (fun (W : World) (hW : Below w.heap.size w W) => mfind_any bs A c W (h.next hW))
  have H2 := Lib.hid (fun (W : World) (hW : Below w.heap.size w W) => ffind_any bs A c W (h.next hW))
  have H3 := Lib.hid (fun (W : World) (hW : Below w.heap.size w W) => mwhy_any bs A c i W (h.next hW))
  have H4 := Lib.hid (fun (W : World) (hW : Below w.heap.size w W) => fwhy_any bs A c i W (h.next hW))
  have H5 := Lib.hid (fun (W : World) (hW : Below w.heap.size w W) => mcheck_any bs A c W (h.next hW))
  have H6 := Lib.hid (fun (W : World) (hW : Below w.heap.size w W) => fmcheck_any bs A c W (h.next hW))
  clear h
  generalize mkBig bs = kb at *
  generalize findP bs = ps at *
  generalize findS bs = ss at *
  generalize mkCode bs = kc at *
  generalize whyA bs i = wa at *
  generalize whyR bs i = wr at *
  generalize whyC bs i = wc at *
  go_enter Try.func6, Try.ntmps6
  try dsimp only [List.append]
  go_upto_region 1 with fail
  generalize w.alloc (gB A c bs) = w0 at *
  have c_G := fun j => cell_of_row _ _ j _ _ _ (hB0.get 0 rfl)
  have z_G := hB0.lt 0 rfl
  go_wp2_with fail
  refine (H0.out _ hB0.below).mono ?_
  rintro e w1 ⟨rfl, hb⟩
  have hB1 := hB0.next hb
  clear c_G z_G hb hB0
  cases kb with
  | true =>
    have HE := Lib.hid hB1.below
    clear hB1
    go_wp2_with fail
    go_ret
    exact ⟨rfl, HE.out⟩
  | false =>
  have c_G := fun j => cell_of_row _ _ j _ _ _ (hB1.get 0 rfl)
  have z_G := hB1.lt 0 rfl
  go_wp2_with fail
  refine (H1.out _ hB1.below).mono ?_
  rintro e0 w2 ⟨P, cP, Q, cQ, rfl, hP, hQ, hb⟩
  have hB2 := hB1.next hb
  have HP := Lib.hid (fun (V : World) (hV : Below w2.heap.size w2 V) => hP.next hV)
  have HQ := Lib.hid (fun (V : World) (hV : Below w2.heap.size w2 V) => hQ.next hV)
  have hbw := Below.refl w2.heap.size w2
  clear c_G z_G hb hB1 hP hQ H1
  have c_G := fun j => cell_of_row _ _ j _ _ _ (hB2.get 0 rfl)
  have z_G := hB2.lt 0 rfl
  go_wp2_with fail
  refine (H2.out _ hB2.below).mono ?_
  rintro e1 w3 ⟨R, cR, S, cS, rfl, hR, hS, hb⟩
  have hB3 := hB2.next hb
  have HR := Lib.hid (fun (V : World) (hV : Below w3.heap.size w3 V) => hR.next hV)
  have HS := Lib.hid (fun (V : World) (hV : Below w3.heap.size w3 V) => hS.next hV)
  have hbw := bcall hbw hbw.size hb
  have hbv := Below.refl w3.heap.size w3
  clear c_G z_G hb hB2 hR hS H2
  have c_G := fun j => cell_of_row _ _ j _ _ _ (hB3.get 0 rfl)
  have z_G := hB3.lt 0 rfl
  go_wp2_with fail
  refine (H3.out _ hB3.below).mono ?_
  rintro e w4 ⟨rfl, hb⟩
  have hB4 := hB3.next hb
  have hbw := bcall hbw hbw.size hb
  have hbv := bcall hbv hbv.size hb
  have hbw := hbw.alloc hbw.size (rB wr)
  have hbv := hbv.alloc hbv.size (rB wr)
  clear c_G z_G hb hB3 H3
  go_upto_region 6 with fail
  have hB5 := hB4.new rfl (rB wr)
  clear hB4
  generalize w4.heap.size = gX at *
  generalize w4.alloc _ = w5 at *
  have c_G := fun j => cell_of_row _ _ j _ _ _ (hB5.get 1 rfl)
  have z_G := hB5.lt 1 rfl
  go_wp2_with fail
  refine (H4.out _ hB5.below).mono ?_
  rintro e w6 ⟨rfl, hb⟩
  have hB6 := hB5.next hb
  have hbw := bcall hbw hbw.size hb
  have hbv := bcall hbv hbv.size hb
  have hbw := hbw.alloc hbw.size (rB wr)
  have hbv := hbv.alloc hbv.size (rB wr)
  clear c_G z_G hb hB5 H4
  go_upto_region 7 with fail
  have hB7 := hB6.new rfl (rB wr)
  clear hB6
  generalize w6.heap.size = gY at *
  generalize w6.alloc _ = w7 at *
  have c_y := fun j => cell_of_row _ _ j _ _ _ (hB7.get 0 rfl)
  have z_y := hB7.lt 0 rfl
  have c_x := fun j => cell_of_row _ _ j _ _ _ (hB7.get 1 rfl)
  have z_x := hB7.lt 1 rfl
  have c_G := fun j => cell_of_row _ _ j _ _ _ (hB7.get 2 rfl)
  have z_G := hB7.lt 2 rfl
  have HSP := Lib.hid (fun (V : World) (hV : Below w7.heap.size w7 V) => show Calls Try.prog 21 #[.slice P ps.length cP, .slice R ps.length cR] V fun e w' => e = .returned (.bool true) ∧ Below V.heap.size V w' by
    have k := qsame_any ps ps P cP R cR V (HP.out _ (bcall hbw hbw.size hV)) (HR.out _ (bcall hbv hbv.size hV))
    rwa [show sameR ps ps = true from decide_eq_true rfl] at k)
  have HSS := Lib.hid (fun (V : World) (hV : Below w7.heap.size w7 V) => show Calls Try.prog 21 #[.slice Q ss.length cQ, .slice S ss.length cS] V fun e w' => e = .returned (.bool true) ∧ Below V.heap.size V w' by
    have k := qsame_any ss ss Q cQ S cS V (HQ.out _ (bcall hbw hbw.size hV)) (HS.out _ (bcall hbv hbv.size hV))
    rwa [show sameR ss ss = true from decide_eq_true rfl] at k)
  have HC1 := Lib.hid (fun (V : World) (hV : Below w7.heap.size w7 V) => H5.out V (bcall hB7.below hB7.below.size hV))
  have HC2 := Lib.hid (fun (V : World) (hV : Below w7.heap.size w7 V) => H6.out V (bcall hB7.below hB7.below.size hV))
  have t1 : (kc == kc) = true := by simp
  have t2 : (wa == wa) = true := by simp
  have t3 : (wr.n == wr.n) = true := by simp
  have t4 : (wr.d == wr.d) = true := by simp
  have t5 : (wc == wc) = true := by simp
  clear hbw hbv
  refine wp_region_ext (by kernel_rfl) (by kernel_rfl) ?_
  repeat (first | go_big_quiet_step ((first | (go_at_call 28; exact calls_ext (HC1.out _ (Ext.h _))) | (go_at_call 11; exact calls_ext (HC2.out _ (Ext.h _))))) | quiet_step ((first | (go_at_call 28; exact calls_ext (HC1.out _ (Ext.h _))) | (go_at_call 11; exact calls_ext (HC2.out _ (Ext.h _))))))
  first | go_big_quiet_step ((go_at_call 21; exact calls_ext (HSP.out _ (Ext.h _)))) | quiet_step ((go_at_call 21; exact calls_ext (HSP.out _ (Ext.h _))))
  repeat (first | go_big_quiet_step ((go_at_call 21; exact calls_ext (HSS.out _ (Ext.h _)))) | quiet_step ((go_at_call 21; exact calls_ext (HSS.out _ (Ext.h _)))))
  refine wpQuiet_nil ?_
  rintro w8 ⟨⟨_, hb⟩, rfl⟩
  have HE := Lib.hid (bcall hB7.below hB7.below.size hb)
  clear c_y z_y c_x z_x c_G z_G hb hB7
  go_wp2_with fail
  go_ret
  exact ⟨rfl, HE.out⟩
end Go.Proofs.Ytpijllobpohpgaa
