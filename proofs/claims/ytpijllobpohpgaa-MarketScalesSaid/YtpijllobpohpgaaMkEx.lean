/- The chapter's example of market, and sums. -/
import Derived.Test.YtpijllobpohpgaaMa10
import Derived.Test.YtpijllobpohpgaaRfF
import Derived.Test.YtpijllobpohpgaaRfD
namespace Go.Proofs.Ytpijllobpohpgaa
open Go.RowKit Go.Deep
set_option linter.unusedVariables false
set_option linter.unusedSimpArgs false

/-- What hangs on nothing but what was made since. -/
def Fresh (B0 : Nat) (w : World) (F : World → Prop) : Prop := ∀ W : World, w.heap.size ≤ W.heap.size → (∀ g, B0 ≤ g → g < w.heap.size → W.heap[g]? = w.heap[g]?) → F W
theorem Fresh.here {B0 : Nat} {w : World} {F : World → Prop} (h : Fresh B0 w F) : F w := h w (Nat.le_refl _) (fun _ _ _ => rfl)
theorem Fresh.ext {B0 : Nat} {w W : World} {F : World → Prop} (h : Fresh B0 w F) (hb : Below w.heap.size w W) : F W := h W hb.size (fun g _ hg => hb.block g hg)
theorem Fresh.rk {B0 : Nat} {w0 w1 W : World} {X : List Nat} {F : World → Prop} (h : Fresh B0 w1 F) (k : RK w0 w1 X W) (hX : ∀ g, g ∈ X → g < B0 ∨ w1.heap.size ≤ g) : F W :=
  h W k.s (fun g h1 h2 => k.k g h2 (fun hm => (hX g hm).elim (fun q => by omega) (fun q => by omega)))
def GdRes (bs : List (List Int)) (w : World) (e : Ending) (w' : World) : Prop := ∃ (A : Option Addr) (c : Nat), e = .returned (gV A c bs) ∧ Fresh w.heap.size w' (fun W => GIn W.heap.size W A c bs) ∧ Below w.heap.size w w'
theorem Ints.of_lit {B g : Nat} {w : World} {cs : Array Value} {t : TypeId} {fr : Nat × Nat} {xs : List Int} (h : w.heap[g]? = some (.cells cs t fr)) (hB : g < B) (hc : cs.toList = xs.map (Value.int .i64)) : Ints B w (some ⟨g, 0, none⟩) xs :=
  fun h0 => ⟨_, rfl, hB, fun k hk => by
    rw [add_mk, Nat.zero_add, cell_of_row w g k cs t fr h, ← Array.getElem?_toList, hc, List.getElem?_map, List.getElem?_eq_getElem hk, gi_get hk]; rfl⟩
/-- Goods of two agents, written out. -/
theorem gd_lit {B0 g g1 g2 n : Nat} {w : World} {cs0 cs1 : Array Value} {t : TypeId} {bs : List (List Int)} (hg : B0 ≤ g) (hg1 : B0 ≤ g1) (hg2 : B0 ≤ g2) (hlt : g < w.heap.size)
    (h1 : w.heap[g1]? = some (.cells cs0 t)) (h2 : w.heap[g2]? = some (.cells cs1 t)) (h3 : w.heap[g]? = some (.cells #[.slice (some ⟨g1, 0, none⟩) n n, .slice (some ⟨g2, 0, none⟩) n n] 40))
    (l0 : (gr bs 0).length = n) (l1 : (gr bs 1).length = n) (c0 : cs0.toList = (gr bs 0).map (Value.int .i64)) (c1 : cs1.toList = (gr bs 1).map (Value.int .i64)) (two : bs.length = 2) (hn : n ≤ 100) :
    Fresh B0 w (fun W => GIn W.heap.size W (some ⟨g, 0, none⟩) 2 bs) := by
  intro W hs hk
  have z1 := lt_some h1
  have z2 := lt_some h2
  have k1 := (hk g1 hg1 z1).trans h1
  have k2 := (hk g2 hg2 z2).trans h2
  have k3 := (hk g hg hlt).trans h3
  refine ⟨fun _ => ⟨_, rfl, show g < _ by omega, fun i hi => ?_⟩, by omega, by unfold maxLen; omega⟩
  match i, (show i < 2 by omega) with
  | 0, _ => exact ⟨_, n, by rw [add_mk, cell_of_row _ _ _ _ _ _ k3, l0]; rfl, by omega, by unfold maxLen; omega, Ints.of_lit k1 (by omega) c0⟩
  | 1, _ => exact ⟨_, n, by rw [add_mk, cell_of_row _ _ _ _ _ _ k3, l1]; rfl, by omega, by unfold maxLen; omega, Ints.of_lit k2 (by omega) c1⟩


theorem lof_any (a b : Int) (w : World) : Calls Try.prog 17 #[.int .i64 a, .int .i64 b] w fun e w' => e = .returned (rV ⟨a, b⟩) ∧ Below w.heap.size w w' := by
  go_enter Try.func17, Try.ntmps17
  go_wp2_with fail
  refine bodyPost_ret (v := rV ⟨a, b⟩) (by simp [results, Try.results17, go_sem]) rfl ⟨rfl, ?_⟩
  exact one_alloc _ _
def exL : List (List Int) := [[1, 4], [1, 2]]
set_option maxHeartbeats 1000000 in
theorem example_any (w : World) : Calls Try.prog 29 #[] w (GdRes exL w) := by
  go_enter Try.func29, Try.ntmps29
  go_wp2_with fail
  have h1 : ((((w.alloc (.cells #[.slice (some ⟨w.heap.size + 1 + 1 + 1, 0, none⟩) 2 2] 24)).alloc (.cells #[.int .i64 1, .int .i64 4] 3)).alloc (.cells #[.int .i64 1, .int .i64 2] 3)).alloc (.cells #[.slice (some ⟨w.heap.size + 1, 0, none⟩) 2 2, .slice (some ⟨w.heap.size + 1 + 1, 0, none⟩) 2 2] 40)).heap[w.heap.size + 1]? = some (.cells #[.int .i64 1, .int .i64 4] 3) := heap_old (heap_old (heap_new (by simp)))
  have h2 : ((((w.alloc (.cells #[.slice (some ⟨w.heap.size + 1 + 1 + 1, 0, none⟩) 2 2] 24)).alloc (.cells #[.int .i64 1, .int .i64 4] 3)).alloc (.cells #[.int .i64 1, .int .i64 2] 3)).alloc (.cells #[.slice (some ⟨w.heap.size + 1, 0, none⟩) 2 2, .slice (some ⟨w.heap.size + 1 + 1, 0, none⟩) 2 2] 40)).heap[w.heap.size + 1 + 1]? = some (.cells #[.int .i64 1, .int .i64 2] 3) := heap_old (heap_new (by simp))
  have h3 : ((((w.alloc (.cells #[.slice (some ⟨w.heap.size + 1 + 1 + 1, 0, none⟩) 2 2] 24)).alloc (.cells #[.int .i64 1, .int .i64 4] 3)).alloc (.cells #[.int .i64 1, .int .i64 2] 3)).alloc (.cells #[.slice (some ⟨w.heap.size + 1, 0, none⟩) 2 2, .slice (some ⟨w.heap.size + 1 + 1, 0, none⟩) 2 2] 40)).heap[w.heap.size + 1 + 1 + 1]? = some (.cells #[.slice (some ⟨w.heap.size + 1, 0, none⟩) 2 2, .slice (some ⟨w.heap.size + 1 + 1, 0, none⟩) 2 2] 40) := heap_new (by simp)
  have hb : Below w.heap.size w ((((w.alloc (.cells #[.slice (some ⟨w.heap.size + 1 + 1 + 1, 0, none⟩) 2 2] 24)).alloc (.cells #[.int .i64 1, .int .i64 4] 3)).alloc (.cells #[.int .i64 1, .int .i64 2] 3)).alloc (.cells #[.slice (some ⟨w.heap.size + 1, 0, none⟩) 2 2, .slice (some ⟨w.heap.size + 1 + 1, 0, none⟩) 2 2] 40)) := (((one_alloc w _).alloc (by simp) _).alloc (by simp; omega) _).alloc (by simp; omega) _
  refine bodyPost_ret (v := .agg #[.slice (some ⟨w.heap.size + 1 + 1 + 1, 0, none⟩) 2 2]) (by simp [results, Try.results29, go_sem]) rfl ⟨_, 2, rfl, ?_, hb⟩
  exact gd_lit (g := w.heap.size + 1 + 1 + 1) (by omega) (by omega) (by omega) (by first | (simp; done) | (simp; omega)) h1 h2 h3 rfl rfl rfl rfl (by decide) (by decide)
def exP : List Rt := [⟨2, 3⟩, ⟨4, 3⟩]
def exS : List Rt := [⟨0, 1⟩, ⟨3, 4⟩]
theorem ex_code : mkCode exL = 0 := by decide
theorem ex_p : findP exL = exP := by decide +kernel
theorem ex_s : findS exL = exS := by decide +kernel
theorem ex_find (A : Option Addr) (c : Nat) (w : World) (h : GIn w.heap.size w A c exL) :
    Calls Try.prog 12 #[gV A c exL] w fun e w' => ∃ P cp B cb, e = .returned (.tuple #[.slice P 2 cp, .slice B 2 cb, .int .i64 0]) ∧ QIn w'.heap.size w' P cp exP ∧ QIn w'.heap.size w' B cb exS ∧ Below w.heap.size w w' := by
  have := mfind_any exL A c w h
  rw [ex_code, ex_p, ex_s] at this
  exact this
theorem ex_worth (A : Option Addr) (c : Nat) (D : Option Addr) (e : Nat) (w : World) (h : GIn w.heap.size w A c exL) (hl : QIn w.heap.size w D e exS) :
    Calls Try.prog 18 #[gV A c exL, .slice D 2 e, .int .i64 0] w (fun e w' => e = .returned (.tuple #[rV ⟨3, 1⟩, .int .i64 0]) ∧ Below w.heap.size w w') ∧
    Calls Try.prog 18 #[gV A c exL, .slice D 2 e, .int .i64 1] w (fun e w' => e = .returned (.tuple #[rV ⟨3, 2⟩, .int .i64 0]) ∧ Below w.heap.size w w') := by
  have a := mworthE_any exL A c exS D e 0 w h hl
  have b := mworthE_any exL A c exS D e 1 w h hl
  rw [show worthR exL exS 0 = ⟨3, 1⟩ by decide +kernel, show worthC exL exS 0 = 0 by decide] at a
  rw [show worthR exL exS 1 = ⟨3, 2⟩ by decide +kernel, show worthC exL exS 1 = 0 by decide] at b
  exact ⟨a, b⟩
theorem ex_why (A : Option Addr) (c : Nat) (w : World) (h : GIn w.heap.size w A c exL) :
    Calls Try.prog 19 #[gV A c exL, .int .i64 1] w fun e w' => e = .returned (.tuple #[.int .i64 0, rV ⟨3, 1⟩, .int .i64 0]) ∧ Below w.heap.size w w' := by
  have a := mwhy_any exL A c 1 w h
  rw [show whyA exL 1 = 0 by decide, show whyR exL 1 = ⟨3, 1⟩ by decide +kernel, show whyC exL 1 = 0 by decide] at a
  exact a
theorem ex_same (l : List Rt) (A : Option Addr) (c : Nat) (B : Option Addr) (d n : Nat) (w : World) (hn : l.length = n) (ha : QIn w.heap.size w A c l) (hb : QIn w.heap.size w B d l) (hs : sameR l l = true) :
    Calls Try.prog 21 #[.slice A n c, .slice B n d] w fun e w' => e = .returned (.bool true) ∧ Below w.heap.size w w' := by
  subst hn
  have := qsame_any l l A c B d w ha hb
  rwa [hs] at this
theorem QIn.lit2 {W : World} {g : Nat} {r s : Rt} (h : W.heap[g]? = some (.cells #[.int .i64 r.n, .int .i64 r.d, .int .i64 s.n, .int .i64 s.d] 36)) (hr : r.wf) (hs : s.wf) : QIn W.heap.size W (some ⟨g, 0, none⟩) 2 [r, s] := by
  refine ⟨fun _ => ⟨_, rfl, lt_some h, ⟨fun k hk => ?_, fun k hk => ?_⟩⟩, fun k hk => ?_, by simp, by unfold maxLen; omega⟩
  · match k, (show k < 2 by simpa using hk) with
    | 0, _ => rw [add_mk, cell_of_row _ _ _ _ _ _ h]; rfl
    | 1, _ => rw [add_mk, cell_of_row _ _ _ _ _ _ h]; rfl
  · match k, (show k < 2 by simpa using hk) with
    | 0, _ => show W.cell? ⟨g, 0 + (0 * 2 + 1), none⟩ = _; rw [cell_of_row _ _ _ _ _ _ h]; rfl
    | 1, _ => show W.cell? ⟨g, 0 + (1 * 2 + 1), none⟩ = _; rw [cell_of_row _ _ _ _ _ _ h]; rfl
  · match k, (show k < 2 by simpa using hk) with
    | 0, _ => exact hr
    | 1, _ => exact hs
theorem wf_small {a b : Int} (h : -1000000 ≤ a ∧ a ≤ 1000000 ∧ -1000000 ≤ b ∧ b ≤ 1000000) : Rt.wf ⟨a, b⟩ := ⟨by show _ ≤ a; omega, by show a ≤ _; omega, by show _ ≤ b; omega, by show b ≤ _; omega⟩
set_option maxRecDepth 100000 in
set_option maxHeartbeats 32000000 in
theorem malive_any (w : World) : Calls Try.prog 10 #[] w fun e w' => e = .returned (.bool true) ∧ Below w.heap.size w w' := by
  have hB0 : Bx w [] w := Bx.start w
  go_enter Try.func10, Try.ntmps10
  try dsimp only [List.append]
  go_wp2_with fail
  refine (example_any _).mono ?_
  rintro e w1 ⟨Aw1, cw1, rfl, hF, hb⟩
  have hB1 := hB0.next hb
  have hG := hF.here
  clear hb hB0 hF
  go_wp2_with fail
  refine (ex_find _ _ _ hG).mono ?_
  rintro e w2 ⟨P, cp, B, cb, rfl, hP, hS, hb⟩
  have hB2 := hB1.next hb
  have HP := Lib.hid (fun (V : World) (hV : Below w2.heap.size w2 V) => hP.next hV)
  have HS := Lib.hid (fun (V : World) (hV : Below w2.heap.size w2 V) => hS.next hV)
  have hM := Mx.of_bx (Bx.start w2)
  have HB2 := Lib.hid hB2.below
  clear hb hB1 hB2 hP hS hG
  have hMb : Bx w2 [] w2 := Bx.start _
  clear hM
  go_wp2_with fail
  refine (example_any _).mono ?_
  rintro e w41 ⟨Aw41, cw41, rfl, hF, hb⟩
  have hB41 := hMb.next hb
  have hG := hF.here
  clear hb hMb hF
  have hq := HS.out _ hB41.below
  go_wp2_with fail
  refine ((ex_worth _ _ _ _ _ hG hq).1).mono ?_
  rintro e w42 ⟨rfl, hb⟩
  have hB42 := hB41.next hb
  clear hb hB41 hG hq
  go_upto_region 3 with fail
  have hB43 := hB42.new rfl (rB (⟨3, 1⟩))
  clear hB42
  generalize w42.heap.size = gX at *
  generalize w42.alloc _ = w43 at *
  go_wp2_with fail
  refine (example_any _).mono ?_
  rintro e w44 ⟨Aw44, cw44, rfl, hF, hb⟩
  have hB44 := hB43.next hb
  have hG := hF.here
  clear hb hB43 hF
  have hq := HS.out _ hB44.below
  go_wp2_with fail
  refine ((ex_worth _ _ _ _ _ hG hq).2).mono ?_
  rintro e w45 ⟨rfl, hb⟩
  have hB45 := hB44.next hb
  clear hb hB44 hG hq
  go_upto_region 4 with fail
  have hB46 := hB45.new rfl (rB (⟨3, 2⟩))
  clear hB45
  generalize w45.heap.size = gY at *
  generalize w45.alloc _ = w46 at *
  go_wp2_with fail
  refine (example_any _).mono ?_
  rintro e w47 ⟨Aw47, cw47, rfl, hF, hb⟩
  have hB47 := hB46.next hb
  have hG := hF.here
  clear hb hB46 hF
  go_wp2_with fail
  refine (ex_why _ _ _ hG).mono ?_
  rintro e w48 ⟨rfl, hb⟩
  have hB48 := hB47.next hb
  clear hb hB47 hG
  go_upto_region 5 with fail
  have hB49 := hB48.new rfl (rB (⟨3, 1⟩))
  clear hB48
  generalize w48.heap.size = gU at *
  generalize w48.alloc _ = w49 at *
  have hM1 := Mx.of_bx hB49
  clear hB49
  refine wp_region_R (Bx w2 [(gU, rB ⟨3, 1⟩), (gY, rB ⟨3, 2⟩), (gX, rB ⟨3, 1⟩)]) 48 (by kernel_rfl) (by rfl) ((hM1.keep (List.Sublist.cons_cons _ (List.Sublist.cons_cons _ (List.Sublist.cons_cons _ (List.nil_sublist _))))).drew) (fun wq1 hbq => ?_)
  have hB61 := hM1.next hbq
  clear hM1 hbq
  refine wpAnyE_goR (Bx.grows _ _) (hB61.keep (List.Sublist.cons_cons _ (List.Sublist.cons_cons _ (List.Sublist.cons_cons _ (List.nil_sublist _))))) [0, 1, 2, 3, 4, 5] 42 (by kernel_rfl) ?_
  apply Exists.intro
  refine ⟨fun G hG hN => ?_, ?_⟩
  · have c_u := fun (e : GE (Bx w2 [(gU, rB ⟨3, 1⟩), (gY, rB ⟨3, 2⟩), (gX, rB ⟨3, 1⟩)]) G) j => cell_of_row e.w _ j _ _ _ ((GE.h e).get 0 rfl)
    have z_u := fun (e : GE (Bx w2 [(gU, rB ⟨3, 1⟩), (gY, rB ⟨3, 2⟩), (gX, rB ⟨3, 1⟩)]) G) => (GE.h e).lt 0 rfl
    have c_y := fun (e : GE (Bx w2 [(gU, rB ⟨3, 1⟩), (gY, rB ⟨3, 2⟩), (gX, rB ⟨3, 1⟩)]) G) j => cell_of_row e.w _ j _ _ _ ((GE.h e).get 1 rfl)
    have z_y := fun (e : GE (Bx w2 [(gU, rB ⟨3, 1⟩), (gY, rB ⟨3, 2⟩), (gX, rB ⟨3, 1⟩)]) G) => (GE.h e).lt 1 rfl
    have c_x := fun (e : GE (Bx w2 [(gU, rB ⟨3, 1⟩), (gY, rB ⟨3, 2⟩), (gX, rB ⟨3, 1⟩)]) G) j => cell_of_row e.w _ j _ _ _ ((GE.h e).get 2 rfl)
    have z_x := fun (e : GE (Bx w2 [(gU, rB ⟨3, 1⟩), (gY, rB ⟨3, 2⟩), (gX, rB ⟨3, 1⟩)]) G) => (GE.h e).lt 2 rfl
    simp only [pickOps, List.getElem?_toArray, List.getElem?_cons_zero, List.getElem?_cons_succ]
    repeat (first | go_big_quiet_step ((first | (go_at_call 17; exact calls_ge (Bx.grows _ _) hG (lof_any _ _ _)))) | quiet_step ((first | (go_at_call 17; exact calls_ge (Bx.grows _ _) hG (lof_any _ _ _)))))
    exact wpQuiet_nil rfl
  refine wpAnyE_all (rs := [6]) (by kernel_rfl) (by simp) (fun wa2 hwa2 hRwa2 i hi => ?_)
  have hB62 := hB61.next hwa2
  clear hB61 hwa2 hRwa2
  obtain rfl := List.mem_singleton.1 hi
  refine wpOp_step rfl (fun Kc hKc => ?_)
  go_simp
  have hB63 := hB62.new (g := wa2.heap.size) rfl (.cells #[.int .i64 2, .int .i64 3, .int .i64 4, .int .i64 3] 36)
  refine hKc _ _ ⟨(hB63.keep (List.Sublist.cons _ (List.Sublist.cons_cons _ (List.Sublist.cons_cons _ (List.Sublist.cons_cons _ (List.nil_sublist _)))))), ?_⟩
  clear hKc Kc hB62
  generalize wa2.heap.size = gL1 at *
  generalize wa2.alloc _ = wb3 at *
  refine wpAnyE_all (rs := [7]) (by kernel_rfl) (by simp) (fun wa4 hwa4 hRwa4 i hi => ?_)
  have hB64 := hB63.next hwa4
  clear hB63 hwa4 hRwa4
  obtain rfl := List.mem_singleton.1 hi
  refine wpOp_step rfl (fun Kc hKc => ?_)
  go_simp
  refine Calls.mono (ex_same exP _ _ _ _ 2 _ rfl (HP.out _ hB64.below) (QIn.lit2 (hB64.get 0 rfl) (wf_small (by decide)) (wf_small (by decide))) (by decide)) ?_
  rintro e wv5 ⟨rfl, hb⟩
  have hB65 := hB64.next hb
  clear hb
  refine hKc _ _ ⟨(hB65.keep (List.Sublist.cons _ (List.Sublist.cons_cons _ (List.Sublist.cons_cons _ (List.Sublist.cons_cons _ (List.nil_sublist _)))))), ?_⟩
  clear hKc Kc hB64
  refine wpAnyE_goR (Bx.grows _ _) (hB65.keep (List.Sublist.cons _ (List.Sublist.cons_cons _ (List.Sublist.cons_cons _ (List.Sublist.cons_cons _ (List.nil_sublist _)))))) [8, 9, 10, 11, 12] 35 (by kernel_rfl) ?_
  apply Exists.intro
  refine ⟨fun G hG hN => ?_, ?_⟩
  · have c_u := fun (e : GE (Bx w2 [(gU, rB ⟨3, 1⟩), (gY, rB ⟨3, 2⟩), (gX, rB ⟨3, 1⟩)]) G) j => cell_of_row e.w _ j _ _ _ ((GE.h e).get 0 rfl)
    have z_u := fun (e : GE (Bx w2 [(gU, rB ⟨3, 1⟩), (gY, rB ⟨3, 2⟩), (gX, rB ⟨3, 1⟩)]) G) => (GE.h e).lt 0 rfl
    have c_y := fun (e : GE (Bx w2 [(gU, rB ⟨3, 1⟩), (gY, rB ⟨3, 2⟩), (gX, rB ⟨3, 1⟩)]) G) j => cell_of_row e.w _ j _ _ _ ((GE.h e).get 1 rfl)
    have z_y := fun (e : GE (Bx w2 [(gU, rB ⟨3, 1⟩), (gY, rB ⟨3, 2⟩), (gX, rB ⟨3, 1⟩)]) G) => (GE.h e).lt 1 rfl
    have c_x := fun (e : GE (Bx w2 [(gU, rB ⟨3, 1⟩), (gY, rB ⟨3, 2⟩), (gX, rB ⟨3, 1⟩)]) G) j => cell_of_row e.w _ j _ _ _ ((GE.h e).get 2 rfl)
    have z_x := fun (e : GE (Bx w2 [(gU, rB ⟨3, 1⟩), (gY, rB ⟨3, 2⟩), (gX, rB ⟨3, 1⟩)]) G) => (GE.h e).lt 2 rfl
    simp only [pickOps, List.getElem?_toArray, List.getElem?_cons_zero, List.getElem?_cons_succ]
    repeat (first | go_big_quiet_step ((first | (go_at_call 17; exact calls_ge (Bx.grows _ _) hG (lof_any _ _ _)))) | quiet_step ((first | (go_at_call 17; exact calls_ge (Bx.grows _ _) hG (lof_any _ _ _)))))
    exact wpQuiet_nil rfl
  refine wpAnyE_all (rs := [13]) (by kernel_rfl) (by simp) (fun wa6 hwa6 hRwa6 i hi => ?_)
  have hB66 := hB65.next hwa6
  clear hB65 hwa6 hRwa6
  obtain rfl := List.mem_singleton.1 hi
  refine wpOp_step rfl (fun Kc hKc => ?_)
  go_simp
  have hB67 := hB66.new (g := wa6.heap.size) rfl (.cells #[.int .i64 0, .int .i64 1, .int .i64 3, .int .i64 4] 36)
  refine hKc _ _ ⟨(hB67.keep (List.Sublist.cons _ (List.Sublist.cons _ (List.Sublist.cons_cons _ (List.Sublist.cons_cons _ (List.Sublist.cons_cons _ (List.nil_sublist _))))))), ?_⟩
  clear hKc Kc hB66
  generalize wa6.heap.size = gL2 at *
  generalize wa6.alloc _ = wb7 at *
  refine wpAnyE_all (rs := [14]) (by kernel_rfl) (by simp) (fun wa8 hwa8 hRwa8 i hi => ?_)
  have hB68 := hB67.next hwa8
  clear hB67 hwa8 hRwa8
  obtain rfl := List.mem_singleton.1 hi
  refine wpOp_step rfl (fun Kc hKc => ?_)
  go_simp
  refine Calls.mono (ex_same exS _ _ _ _ 2 _ rfl (HS.out _ hB68.below) (QIn.lit2 (hB68.get 0 rfl) (wf_small (by decide)) (wf_small (by decide))) (by decide)) ?_
  rintro e wv9 ⟨rfl, hb⟩
  have hB69 := hB68.next hb
  clear hb
  refine hKc _ _ ⟨(hB69.keep (List.Sublist.cons _ (List.Sublist.cons _ (List.Sublist.cons_cons _ (List.Sublist.cons_cons _ (List.Sublist.cons_cons _ (List.nil_sublist _))))))), ?_⟩
  clear hKc Kc hB68
  refine wpAnyE_goR (Bx.grows _ _) (hB69.keep (List.Sublist.cons _ (List.Sublist.cons _ (List.Sublist.cons_cons _ (List.Sublist.cons_cons _ (List.Sublist.cons_cons _ (List.nil_sublist _))))))) [15, 16, 17, 18, 19, 20, 21, 22, 23, 24, 25, 26, 27, 28, 29, 30, 31, 32, 33, 34, 35, 36, 37, 38, 39, 40, 41, 42, 43, 44, 45, 46, 47] 0 (by kernel_rfl) ?_
  apply Exists.intro
  refine ⟨fun G hG hN => ?_, ?_⟩
  · have c_u := fun (e : GE (Bx w2 [(gU, rB ⟨3, 1⟩), (gY, rB ⟨3, 2⟩), (gX, rB ⟨3, 1⟩)]) G) j => cell_of_row e.w _ j _ _ _ ((GE.h e).get 0 rfl)
    have z_u := fun (e : GE (Bx w2 [(gU, rB ⟨3, 1⟩), (gY, rB ⟨3, 2⟩), (gX, rB ⟨3, 1⟩)]) G) => (GE.h e).lt 0 rfl
    have c_y := fun (e : GE (Bx w2 [(gU, rB ⟨3, 1⟩), (gY, rB ⟨3, 2⟩), (gX, rB ⟨3, 1⟩)]) G) j => cell_of_row e.w _ j _ _ _ ((GE.h e).get 1 rfl)
    have z_y := fun (e : GE (Bx w2 [(gU, rB ⟨3, 1⟩), (gY, rB ⟨3, 2⟩), (gX, rB ⟨3, 1⟩)]) G) => (GE.h e).lt 1 rfl
    have c_x := fun (e : GE (Bx w2 [(gU, rB ⟨3, 1⟩), (gY, rB ⟨3, 2⟩), (gX, rB ⟨3, 1⟩)]) G) j => cell_of_row e.w _ j _ _ _ ((GE.h e).get 2 rfl)
    have z_x := fun (e : GE (Bx w2 [(gU, rB ⟨3, 1⟩), (gY, rB ⟨3, 2⟩), (gX, rB ⟨3, 1⟩)]) G) => (GE.h e).lt 2 rfl
    simp only [pickOps, List.getElem?_toArray, List.getElem?_cons_zero, List.getElem?_cons_succ]
    repeat (first | go_big_quiet_step ((first | (go_at_call 17; exact calls_ge (Bx.grows _ _) hG (lof_any _ _ _)))) | quiet_step ((first | (go_at_call 17; exact calls_ge (Bx.grows _ _) hG (lof_any _ _ _)))))
    exact wpQuiet_nil rfl
  refine wpAnyE_done (by kernel_rfl) (fun wd10 hwd10 hRwd10 => ?_) _
  refine NoPanic.normal ?_
  have hB70 := hB69.next hwd10
  clear hB69 hwd10 hRwd10
  have HE := Lib.hid (below_below HB2.out hB70.below)
  clear hB70 HP HS
  go_wp2_with fail
  go_ret
  exact ⟨rfl, HE.out⟩

set_option maxRecDepth 100000 in
set_option maxHeartbeats 16000000 in
theorem fsum_ok (l : List Rt) (A : Option Addr) (c : Nat) (w : World) (hl : QIn w.heap.size w A c l) (ho : ∀ k, k < l.length → (gR l k).Ok) (hm : l.length ≤ 100) (hin : ∀ k, k ≤ l.length → inR (sumQ (fun k => (gR l k).q) k)) :
    Calls Try.prog 16 #[.slice A l.length c] w fun e w' => e = .returned (.tuple #[rV (mkR (sumQ (fun k => (gR l k).q) l.length)), .int .i64 0]) ∧ Below w.heap.size w w' := by
  have HL := Lib.hid hl
  have HO := Lib.hid ho
  have HI := Lib.hid hin
  have hB0 : Bx w [(w.heap.size, rB ⟨0, 0⟩)] (w.alloc (rB ⟨0, 0⟩)) := (Bx.start w).new rfl _
  have q0 : decide (100 < l.length) = false := decide_eq_false (by omega)
  have q0i : decide ((100 : Int) < (l.length : Int)) = false := decide_eq_false (by omega)
  have HM := Lib.hid hm
  clear hl ho hin hm
  go_enter Try.func16, Try.ntmps16
  try dsimp only [List.append]
  go_upto_region 1 with fail
  generalize hw0 : w.alloc (rB ⟨0, 0⟩) = w0 at *
  clear hw0
  have HB0 := Lib.hid hB0
  clear hB0
  go_wp2_with fail
  go_loopw [4] (fun s wr => ∃ k : Nat, k ≤ l.length ∧ s = .int .i64 k ∧ Bx w [(w.heap.size, rB ⟨0, 0⟩)] wr) (fun s _ => l.length - (intOf s).toNat)
  case atStart => exact ⟨0, Nat.zero_le _, rfl, HB0.out⟩
  case round =>
    as_aux_lemma =>
      obtain ⟨k, hk, rfl, hBr⟩ := hrel
      clear HB0
      by_cases hlt : k < l.length
      rotate_left
      · obtain rfl : k = l.length := by omega
        have HB0 := Lib.hid hBr
        clear hBr hk hlt
        clear q0 q0i
        go_upto_region 9 with fail
        have hB1 := HB0.out.new rfl (rB ⟨0, 1⟩)
        clear HB0
        generalize wr.heap.size = gS at *
        generalize wr.alloc _ = w1 at *
        have HB1 := Lib.hid hB1
        clear hB1
        go_wp2_with fail
        go_loopw [6] (fun s wr => ∃ k : Nat, k ≤ l.length ∧ s = .int .i64 k ∧ Bx w [(gS, rB (mkR (sumQ (fun k => (gR l k).q) k))), (w.heap.size, rB ⟨0, 0⟩)] wr) (fun s _ => l.length - (intOf s).toNat)
        case atStart => exact ⟨0, Nat.zero_le _, rfl, by rw [show mkR (sumQ (fun k => (gR l k).q) 0) = ⟨0, 1⟩ from by show mkR 0 = _; rw [← q_zero]; exact mkR_q ok_zero]; exact HB1.out⟩
        case round =>
          as_aux_lemma =>
            obtain ⟨k, hk, rfl, hBr⟩ := hrel
            clear HB1
            by_cases hlt : k < l.length
            rotate_left
            · obtain rfl : k = l.length := by omega
              generalize hv : mkR (sumQ (fun k => (gR l k).q) l.length) = v at *
              have HV := Lib.hid hv
              clear hv
              have HE := Lib.hid (hBr.put 1 rfl v).below
              have c_s := fun j => cell_of_row _ _ j _ _ _ (hBr.get 0 rfl)
              have z_s := hBr.lt 0 rfl
              have c_o := fun j => cell_of_row _ _ j _ _ _ (hBr.get 1 rfl)
              have z_o := hBr.lt 1 rfl
              have f_o := fun j => frozen_of_row _ _ j _ _ (hBr.get 1 rfl)
              clear hBr hk hlt
              go_wp2_with fail
              refine bodyPost_ret (v := .tuple #[rV v, .int .i64 0]) (by simp [results, Try.results16, go_sem, c_o, f_o, z_o]) rfl ⟨by rw [HV.out], HE.out⟩
            obtain ⟨bd, rfl, hb, hc⟩ := HL.out.at_ (k := k) hlt
            obtain ⟨f0, f1, f2⟩ := cell2 (hc.below hb hBr.below) hlt
            have f3 : wr.cell? ⟨(bd.add (k * 2)).block, (bd.add (k * 2)).off + 1, none⟩ = some (.int .i64 (gR l k).d) := f1
            have HOK := Lib.hid (HO.out k hlt)
            have HSU := Lib.hid (add_in (a := mkR (sumQ (fun k => (gR l k).q) k)) (b := gR l k) (mkR_ok (HI.out k hk)) (HO.out k hlt) (by rw [q_mkR (HI.out k hk)]; exact HI.out (k + 1) hlt))
            have HSV := Lib.hid (show mkR (sumQ (fun k => (gR l k).q) (k + 1)) = addR (mkR (sumQ (fun k => (gR l k).q) k)) (gR l k) by rw [HSU.out.2, q_mkR (HI.out k hk)]; rfl)
            have HAD := Lib.hid (fun (W : World) => show Calls Try.prog 44 #[rV (mkR (sumQ (fun k => (gR l k).q) k)), rV (gR l k)] W fun e w' => e = .returned (.tuple #[rV (mkR (sumQ (fun k => (gR l k).q) (k + 1))), .int .i64 0]) ∧ Below W.heap.size W w' by
              have h := fadd_any (mkR (sumQ (fun k => (gR l k).q) k)) (gR l k) (mkR_wf _) (HO.out k hlt).wf W
              rw [← HSV.out, HSU.out.1] at h
              exact h)
            have HF := Lib.hid (fun (W : World) (hW : Below w.heap.size w W) => cell2 (hc.below hb hW) hlt)
            have HFB := Lib.hid (fun (W : World) (hW : Below w.heap.size w W) => show (bd.add (k * 2)).block < W.heap.size by rw [block_add]; exact Nat.lt_of_lt_of_le hb hW.size)
            have HME := Lib.hid (And.intro (Nat.succ_le_of_lt hlt) (Nat.sub_lt_sub_left hlt (Nat.lt_succ_self k)))
            have z1 : (k : Int) < (l.length : Int) := by omega
            have z3 : (0 : Int) ≤ (k : Int) := by omega
            have y1 : IntKind.i64.wrap ((k : Int) + 1) = (k : Int) + 1 := IntWalk.i64_in _ (by have := HM.out; omega)
            have y1' : wrap64 ((k : Int) + 1) = (k : Int) + 1 := IntWalk.wrap64_in _ (by have := HM.out; omega)
            clear HSU HSV f0 f1 f2 f3 hc hb hk hlt
            generalize ht : mkR (sumQ (fun k => (gR l k).q) (k + 1)) = t at *
            have HT := Lib.hid ht
            clear ht
            generalize mkR (sumQ (fun k => (gR l k).q) k) = s0 at *
            generalize gR l k = e at *
            have hMr := Mx.of_bx hBr
            clear hBr
            go_upto_region 12 with fail
            refine wp_region_R (Bx w [(gS, rB s0)]) 12 (by kernel_rfl) (by rfl) ((hMr.keep (List.Sublist.cons_cons _ (List.nil_sublist _))).drew) (fun wq11 hbq => ?_)
            have hB81 := hMr.next hbq
            clear hMr hbq
            refine wpAnyE_goR (Bx.grows _ _) (hB81.keep (List.Sublist.cons_cons _ (List.nil_sublist _))) [0, 1, 2, 3, 4, 5, 6, 7, 8] 3 (by kernel_rfl) ?_
            apply Exists.intro
            refine ⟨fun G hG hN => ?_, ?_⟩
            · have c_s := fun (e : GE (Bx w [(gS, rB s0)]) G) j => cell_of_row e.w _ j _ _ _ ((GE.h e).get 0 rfl)
              have z_s := fun (e : GE (Bx w [(gS, rB s0)]) G) => (GE.h e).lt 0 rfl
              have p0 := fun (e : GE (Bx w [(gS, rB s0)]) G) => (HF.out e.w (GE.h e).below).1
              have p1 := fun (e : GE (Bx w [(gS, rB s0)]) G) => (HF.out e.w (GE.h e).below).2.1
              have p2 := fun (e : GE (Bx w [(gS, rB s0)]) G) => show e.w.cell? ⟨(bd.add (k * 2)).block, (bd.add (k * 2)).off + 1, none⟩ = some (.int .i64 _) from (HF.out e.w (GE.h e).below).2.1
              have pb := fun (e : GE (Bx w [(gS, rB s0)]) G) => (HFB.out e.w (GE.h e).below)
              simp only [pickOps, List.getElem?_toArray, List.getElem?_cons_zero, List.getElem?_cons_succ]
              repeat (first | go_big_quiet_step ((first | (go_at_call 44; exact calls_ge (Bx.grows _ _) hG (HAD.out _)))) | quiet_step ((first | (go_at_call 44; exact calls_ge (Bx.grows _ _) hG (HAD.out _)))))
              exact wpQuiet_nil rfl
            refine wpAnyE_all (rs := [9]) (by kernel_rfl) (by simp) (fun wa12 hwa12 hRwa12 i hi => ?_)
            have hB82 := hB81.next hwa12
            clear hB81 hwa12 hRwa12
            obtain rfl := List.mem_singleton.1 hi
            refine wpOp_step rfl (fun Kc hKc => ?_)
            go_simp
            have hB83 := hB82.new (g := wa12.heap.size) rfl (rB ⟨0, 0⟩)
            refine hKc _ _ ⟨(hB83.keep (List.Sublist.cons _ (List.Sublist.cons_cons _ (List.nil_sublist _)))), ?_⟩
            clear hKc Kc hB82
            generalize wa12.heap.size = gT at *
            generalize wa12.alloc _ = wb13 at *
            refine wpAnyE_all (rs := [10]) (by kernel_rfl) (by simp) (fun wa14 hwa14 hRwa14 i hi => ?_)
            have hB84 := hB83.next hwa14
            clear hB83 hwa14 hRwa14
            obtain rfl := List.mem_singleton.1 hi
            refine wpOp_step rfl (fun Kc hKc => ?_)
            have c_t := fun j => cell_of_row _ _ j _ _ _ (hB84.get 0 rfl)
            have z_t := hB84.lt 0 rfl
            have f_t := fun j => frozen_of_row _ _ j _ _ (hB84.get 0 rfl)
            go_simp
            have hB85 := hB84.put 0 rfl (t)
            refine hKc _ _ ⟨(hB85.keep (List.Sublist.cons _ (List.Sublist.cons_cons _ (List.nil_sublist _)))), ?_⟩
            clear c_t z_t f_t hKc Kc hB84
            generalize (wa14.setCell _ _).setCell _ _ = wb15 at *
            refine wpAnyE_goR (Bx.grows _ _) (hB85.keep (List.Sublist.cons _ (List.Sublist.cons_cons _ (List.nil_sublist _)))) [11] 0 (by kernel_rfl) ?_
            apply Exists.intro
            refine ⟨fun G hG hN => ?_, ?_⟩
            · have c_s := fun (e : GE (Bx w [(gS, rB s0)]) G) j => cell_of_row e.w _ j _ _ _ ((GE.h e).get 0 rfl)
              have z_s := fun (e : GE (Bx w [(gS, rB s0)]) G) => (GE.h e).lt 0 rfl
              have p0 := fun (e : GE (Bx w [(gS, rB s0)]) G) => (HF.out e.w (GE.h e).below).1
              have p1 := fun (e : GE (Bx w [(gS, rB s0)]) G) => (HF.out e.w (GE.h e).below).2.1
              have p2 := fun (e : GE (Bx w [(gS, rB s0)]) G) => show e.w.cell? ⟨(bd.add (k * 2)).block, (bd.add (k * 2)).off + 1, none⟩ = some (.int .i64 _) from (HF.out e.w (GE.h e).below).2.1
              have pb := fun (e : GE (Bx w [(gS, rB s0)]) G) => (HFB.out e.w (GE.h e).below)
              simp only [pickOps, List.getElem?_toArray, List.getElem?_cons_zero, List.getElem?_cons_succ]
              repeat (first | go_big_quiet_step ((first | (go_at_call 44; exact calls_ge (Bx.grows _ _) hG (HAD.out _)))) | quiet_step ((first | (go_at_call 44; exact calls_ge (Bx.grows _ _) hG (HAD.out _)))))
              exact wpQuiet_nil rfl
            refine wpAnyE_done (by kernel_rfl) (fun wd16 hwd16 hRwd16 => ?_) _
            refine NoPanic.normal ?_
            have hB86 := hB85.next hwd16
            clear hB85 hwd16 hRwd16
            have c_t := fun j => cell_of_row _ _ j _ _ _ (hB86.get 0 rfl)
            have z_t := hB86.lt 0 rfl
            have c_s := fun j => cell_of_row _ _ j _ _ _ (hB86.get 1 rfl)
            have z_s := hB86.lt 1 rfl
            have f_s := fun j => frozen_of_row _ _ j _ _ (hB86.get 1 rfl)
            go_upto_region 11 with fail
            have hB87 := hB86.put 1 rfl t
            clear c_t z_t c_s z_s f_s hB86
            have HZ := Lib.hid hB87.drop.bx
            clear hB87
            generalize World.setCell (World.setCell _ _ _) _ _ = wz at *
            go_wp2_with fail
            exact ⟨⟨k + 1, HME.out.1, by go_num, by rw [HT.out]; exact HZ.out⟩, by simpa [intOf] using HME.out.2⟩
      obtain ⟨bd, rfl, hb, hc⟩ := HL.out.at_ (k := k) hlt
      obtain ⟨f0, f1, f2⟩ := cell2 (hc.below hb hBr.below) hlt
      have f3 : wr.cell? ⟨(bd.add (k * 2)).block, (bd.add (k * 2)).off + 1, none⟩ = some (.int .i64 (gR l k).d) := f1
      have HCK := Lib.hid (fun (W : World) => show Calls Try.prog 43 #[rV (gR l k)] W fun e w' => e = .returned (.int .i64 0) ∧ Below W.heap.size W w' by
        have h := fcheck_any (gR l k) (HO.out k hlt).wf W
        rw [Rt.code_ok (HO.out k hlt)] at h
        exact h)
      have HME := Lib.hid (And.intro (Nat.succ_le_of_lt hlt) (Nat.sub_lt_sub_left hlt (Nat.lt_succ_self k)))
      have z1 : (k : Int) < (l.length : Int) := by omega
      have z3 : (0 : Int) ≤ (k : Int) := by omega
      have y1 : IntKind.i64.wrap ((k : Int) + 1) = (k : Int) + 1 := IntWalk.i64_in _ (by have := HM.out; omega)
      have y1' : wrap64 ((k : Int) + 1) = (k : Int) + 1 := IntWalk.wrap64_in _ (by have := HM.out; omega)
      clear hc hb hk hlt
      go_wp2_with fail
      refine (HCK.out _).mono ?_
      rintro e w21 ⟨rfl, hb⟩
      have hB21 := hBr.next hb
      clear hb hBr
      clear f0 f1 f2 f3 HCK
      have HZ := Lib.hid hB21
      clear hB21
      go_wp2_with fail
      exact ⟨⟨k + 1, HME.out.1, by go_num, HZ.out⟩, by simpa [intOf] using HME.out.2⟩
end Go.Proofs.Ytpijllobpohpgaa
