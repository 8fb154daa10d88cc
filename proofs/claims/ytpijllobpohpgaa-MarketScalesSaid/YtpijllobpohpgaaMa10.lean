/- Why, the program's. -/
import Derived.Test.YtpijllobpohpgaaMa9
import Derived.Test.YtpijllobpohpgaaMkV
import Derived.Test.YtpijllobpohpgaaMa7
import Derived.Test.YtpijllobpohpgaaRtG
namespace Go.Proofs.Ytpijllobpohpgaa
open Go.RowKit Go.Deep
set_option linter.unusedVariables false
set_option linter.unusedSimpArgs false

theorem sh_wf {bs : List (List Int)} (h : mkCode bs = 0) : ∀ k, k < (mSh (gr bs 0) (gr bs 1) (gr bs 0).length).length → (gR (mSh (gr bs 0) (gr bs 1) (gr bs 0).length) k).wf := fun k hk => by
  rw [sh_len] at hk
  exact ((mk_ok h).2.sh_ok hk).1.wf
theorem shares_q (bs : List (List Int)) (A : Option Addr) (c : Nat) (w : World) (hG : GIn w.heap.size w A c bs) (hok : mkCode bs = 0) :
    Calls Try.prog 30 #[gV A c bs] w fun e w' => ∃ bd, e = .returned (.slice (some bd) (gr bs 0).length (gr bs 0).length) ∧ QIn w'.heap.size w' (some bd) (gr bs 0).length (mSh (gr bs 0) (gr bs 1) (gr bs 0).length) ∧ Below w.heap.size w w' := by
  refine (shares_any bs A c w hG hok).mono ?_
  rintro e w' ⟨g, rfl, ho, hb⟩
  exact ⟨_, rfl, QIn.of_own (by rw [sh_len]; exact ho) (sh_wf hok), hb⟩
theorem own_mOwn (a b : List Int) (n k : Nat) : ownB (gR (mSh a b n) k) = ((mOwn a b n k : Nat) : Int) := by unfold ownB mOwn; split <;> rfl
theorem mOwn_lt (a b : List Int) (n k : Nat) : mOwn a b n k < 2 := by unfold mOwn; split <;> omega
/-- The rate of an agent. -/
theorem rate_any (bs : List (List Int)) (A : Option Addr) (c : Nat) (bd : Addr) (i : Nat) (hi : i < 2) (w : World) (hG : GIn w.heap.size w A c bs) (hok : mkCode bs = 0) (hq : QIn w.heap.size w (some bd) (gr bs 0).length (mSh (gr bs 0) (gr bs 1) (gr bs 0).length)) :
    Calls Try.prog 31 #[gV A c bs, .slice (some bd) (gr bs 0).length (gr bs 0).length, .int .i64 i] w fun e w' => e = .returned (rV (mkR (mU (gr bs 0) (gr bs 1) (gr bs 0).length i))) ∧ Below w.heap.size w w' := by
  have h2 := (mk_ok hok).1
  have rb := row_bd hok hi
  have h := mworth_any bs A c (mSh (gr bs 0) (gr bs 1) (gr bs 0).length) (some bd) (gr bs 0).length i _ w hG (by omega) hq (by rw [sh_len]; exact rb.1.symm) (fun g hg => by
    rw [sh_len] at hg
    have := rb.2 g hg; omega) (sh_worth hok hi)
  rw [sh_len] at h
  exact h
def whyC (bs : List (List Int)) (g : Int) : Int := if mkCode bs ≠ 0 then mkCode bs else if g < 0 ∨ ((gr bs 0).length : Int) ≤ g then 2 else 0
def whyA (bs : List (List Int)) (g : Int) : Int := if whyC bs g = 0 then ((mOwn (gr bs 0) (gr bs 1) (gr bs 0).length g.toNat : Nat) : Int) else 0
def whyR (bs : List (List Int)) (g : Int) : Rt := if whyC bs g = 0 then mkR (mU (gr bs 0) (gr bs 1) (gr bs 0).length (mOwn (gr bs 0) (gr bs 1) (gr bs 0).length g.toNat)) else ⟨0, 0⟩
theorem why_no {bs : List (List Int)} {g : Int} (h : whyC bs g ≠ 0) : whyA bs g = 0 ∧ whyR bs g = ⟨0, 0⟩ := by unfold whyA whyR; rw [if_neg h, if_neg h]; exact ⟨rfl, rfl⟩
theorem why_code {bs : List (List Int)} {g : Int} (h : mkCode bs ≠ 0) : whyC bs g = mkCode bs := by unfold whyC; rw [if_pos h]
theorem why_arg {bs : List (List Int)} {g : Int} (h : mkCode bs = 0) (k : g < 0 ∨ ((gr bs 0).length : Int) ≤ g) : whyC bs g = 2 := by unfold whyC; rw [if_neg (fun q => q h), if_pos k]
theorem why_ok {bs : List (List Int)} {k : Nat} (h : mkCode bs = 0) (hk : k < (gr bs 0).length) : whyC bs k = 0 ∧ whyA bs k = ((mOwn (gr bs 0) (gr bs 1) (gr bs 0).length k : Nat) : Int) ∧ whyR bs k = mkR (mU (gr bs 0) (gr bs 1) (gr bs 0).length (mOwn (gr bs 0) (gr bs 1) (gr bs 0).length k)) := by
  have e : whyC bs k = 0 := by unfold whyC; rw [if_neg (fun q => q h), if_neg (by omega)]
  refine ⟨e, ?_, ?_⟩
  · unfold whyA; rw [if_pos e, Int.toNat_natCast]
  · unfold whyR; rw [if_pos e, Int.toNat_natCast]
set_option maxRecDepth 100000 in
set_option maxHeartbeats 16000000 in
theorem mwhy_any (bs : List (List Int)) (A : Option Addr) (c : Nat) (i : Int) (w : World) (h : GIn w.heap.size w A c bs) :
    Calls Try.prog 19 #[gV A c bs, .int .i64 i] w fun e w' => e = .returned (.tuple #[.int .i64 (whyA bs i), rV (whyR bs i), .int .i64 (whyC bs i)]) ∧ Below w.heap.size w w' := by
  have hB0 : Bx w [(w.heap.size + 1, rB ⟨0, 0⟩), (w.heap.size, gB A c bs)] ((w.alloc (gB A c bs)).alloc (rB ⟨0, 0⟩)) := ((Bx.start w).new rfl _).new (by simp) _
  have HC := Lib.hid (fun (W : World) (hW : Below w.heap.size w W) => mcheck_any bs A c W (h.next hW))
  have HG := Lib.hid h
  clear h
  go_enter Try.func19, Try.ntmps19
  go_upto_region 1 with fail
  generalize hw0 : (w.alloc (gB A c bs)).alloc (rB ⟨0, 0⟩) = w0 at *
  clear hw0
  generalize w.heap.size + 1 = gO at *
  have c_G := fun j => cell_of_row _ _ j _ _ _ (hB0.get 1 rfl)
  have z_G := hB0.lt 1 rfl
  by_cases hc : mkCode bs = 0
  rotate_left
  · have q : (mkCode bs != 0) = true := bneT hc
    have HR0 := why_code (bs := bs) (g := i) hc
    obtain ⟨code, hco⟩ : ∃ x, x = mkCode bs := ⟨_, rfl⟩
    rw [← hco] at HC q HR0
    have HR := Lib.hid HR0
    have HNZ := Lib.hid (show code ≠ 0 by rw [hco]; exact hc)
    clear hc hco HR0
    go_wp2_with fail
    refine (HC.out _ hB0.below).mono ?_
    rintro e w1 ⟨rfl, hb⟩
    have hB1 := hB0.next hb
    clear c_G z_G hb hB0
    have c_o := fun j => cell_of_row _ _ j _ _ _ (hB1.get 0 rfl)
    have z_o := hB1.lt 0 rfl
    have f_o := fun j => frozen_of_row _ _ j _ _ (hB1.get 0 rfl)
    have HZ := Lib.hid (why_no (bs := bs) (g := i) (by rw [HR.out]; exact HNZ.out))
    have HE := Lib.hid (hB1.put 0 rfl ⟨0, 0⟩).below
    clear hB1
    go_wp2_with fail
    refine bodyPost_ret (v := .tuple #[.int .i64 0, rV ⟨0, 0⟩, .int .i64 (code)]) (by simp [results, Try.results19, go_sem, c_o, f_o, z_o]) rfl ⟨by rw [HZ.out.1, HZ.out.2, HR.out], HE.out⟩
  have q : (mkCode bs != 0) = false := bneF hc
  have HCO := Lib.hid hc
  obtain ⟨ad, R0, c0, R1, c1, xa, ya, rfl, hvl⟩ := HG.out.vals hc
  have HVL := Lib.hid hvl
  have H2 := Lib.hid (mk_ok hc).1
  have q20 : (0 : Int) < (bs.length : Int) := by have := H2.out; omega
  rw [hc] at HC q
  clear hc hvl
  go_wp2_with fail
  refine (HC.out _ hB0.below).mono ?_
  rintro e w1 ⟨rfl, hb⟩
  have hB1 := hB0.next hb
  clear c_G z_G hb hB0
  clear HC q
  by_cases hi : i < 0 ∨ ((gr bs 0).length : Int) ≤ i
  · have c_G := fun j => cell_of_row _ _ j _ _ _ (hB1.get 1 rfl)
    have z_G := hB1.lt 1 rfl
    have t0 := (HVL.out.next hB1.below).two.r0
    have HR := Lib.hid (why_arg HCO.out hi)
    have HNZ := Lib.hid (show (2 : Int) ≠ 0 by decide)
    rcases hi with hi | hi
    · have q1 : decide (i < 0) = true := decide_eq_true hi
      clear hi
      have c_o := fun j => cell_of_row _ _ j _ _ _ (hB1.get 0 rfl)
      have z_o := hB1.lt 0 rfl
      have f_o := fun j => frozen_of_row _ _ j _ _ (hB1.get 0 rfl)
      have HZ := Lib.hid (why_no (bs := bs) (g := i) (by rw [HR.out]; exact HNZ.out))
      have HE := Lib.hid (hB1.put 0 rfl ⟨0, 0⟩).below
      clear hB1
      go_wp2_with fail
      refine bodyPost_ret (v := .tuple #[.int .i64 0, rV ⟨0, 0⟩, .int .i64 (2)]) (by simp [results, Try.results19, go_sem, c_o, f_o, z_o]) rfl ⟨by rw [HZ.out.1, HZ.out.2, HR.out], HE.out⟩
    · have q1 : decide (i < 0) = false := decide_eq_false (by omega)
      have q2 : decide (((gr bs 0).length : Int) ≤ i) = true := decide_eq_true hi
      clear hi
      have c_o := fun j => cell_of_row _ _ j _ _ _ (hB1.get 0 rfl)
      have z_o := hB1.lt 0 rfl
      have f_o := fun j => frozen_of_row _ _ j _ _ (hB1.get 0 rfl)
      have HZ := Lib.hid (why_no (bs := bs) (g := i) (by rw [HR.out]; exact HNZ.out))
      have HE := Lib.hid (hB1.put 0 rfl ⟨0, 0⟩).below
      clear hB1
      go_wp2_with fail
      refine bodyPost_ret (v := .tuple #[.int .i64 0, rV ⟨0, 0⟩, .int .i64 (2)]) (by simp [results, Try.results19, go_sem, c_o, f_o, z_o]) rfl ⟨by rw [HZ.out.1, HZ.out.2, HR.out], HE.out⟩
  obtain ⟨k, rfl⟩ : ∃ k : Nat, i = k := ⟨i.toNat, by omega⟩
  have hk : k < (gr bs 0).length := by omega
  have HK := Lib.hid hk
  have q1 : decide ((k : Int) < 0) = false := decide_eq_false (by omega)
  have q2 : decide (((gr bs 0).length : Int) ≤ (k : Int)) = false := decide_eq_false (by omega)
  have q3 : decide ((gr bs 0).length ≤ k) = false := decide_eq_false (by omega)
  have z1 : (k : Int) < ((gr bs 0).length : Int) := by omega
  have z3 : (0 : Int) ≤ (k : Int) := by omega
  clear hi hk
  have HSQ := Lib.hid (fun (W : World) (hW : Below w.heap.size w W) => shares_q bs (some ad) c W (HG.out.next hW) HCO.out)
  have c_G := fun j => cell_of_row _ _ j _ _ _ (hB1.get 1 rfl)
  have z_G := hB1.lt 1 rfl
  have t0 := (HVL.out.next hB1.below).two.r0
  go_wp2_with fail
  refine (HSQ.out _ hB1.below).mono ?_
  rintro e3 w2 ⟨bd, rfl, hq, hb⟩
  have hB2 := hB1.next hb
  clear c_G z_G t0 hb hB1 HSQ q1 q2 q3
  have HQ := Lib.hid hq
  obtain ⟨bd', ebd, bb, bc⟩ := hq.at_ (k := k) (by rw [sh_len]; exact HK.out)
  obtain rfl : bd = bd' := by simpa using ebd
  obtain ⟨f0, f1, f2⟩ := cell2 bc (show k < (mSh (gr bs 0) (gr bs 1) (gr bs 0).length).length by rw [sh_len]; exact HK.out)
  have f3 : w2.cell? ⟨(bd.add (k * 2)).block, (bd.add (k * 2)).off + 1, none⟩ = some (.int .i64 (gR (mSh (gr bs 0) (gr bs 1) (gr bs 0).length) k).d) := f1
  have HOW := Lib.hid (own_mOwn (gr bs 0) (gr bs 1) (gr bs 0).length k)
  have HOL := Lib.hid (mOwn_lt (gr bs 0) (gr bs 1) (gr bs 0).length k)
  have HWO := Lib.hid (why_ok HCO.out HK.out)
  clear hq ebd bb bc
  generalize gR (mSh (gr bs 0) (gr bs 1) (gr bs 0).length) k = el at *
  generalize mOwn (gr bs 0) (gr bs 1) (gr bs 0).length k = ow at *
  have HOA := Lib.hid (fun W => owner_any el W)
  rw [HOW.out] at HOA
  go_wp2_with fail
  refine (HOA.out _).mono ?_
  rintro e4 w3 ⟨rfl, hb⟩
  have hq := HQ.out.next hb
  have hB3 := hB2.next hb
  clear f0 f1 f2 f3 hb hB2 HOA HQ
  have HRA := rate_any bs (some ad) c bd ow HOL.out w3 (HG.out.next hB3.below) HCO.out hq
  generalize mkR (mU (gr bs 0) (gr bs 1) (gr bs 0).length ow) = v at *
  clear hq
  have c_G := fun j => cell_of_row _ _ j _ _ _ (hB3.get 1 rfl)
  have z_G := hB3.lt 1 rfl
  go_wp2_with fail
  refine HRA.mono ?_
  rintro e5 w4 ⟨rfl, hb⟩
  have hB4 := hB3.next hb
  clear hb HRA c_G z_G hB3
  have c_o := fun j => cell_of_row _ _ j _ _ _ (hB4.get 0 rfl)
  have z_o := hB4.lt 0 rfl
  have f_o := fun j => frozen_of_row _ _ j _ _ (hB4.get 0 rfl)
  have HE := Lib.hid (hB4.put 0 rfl v).below
  clear hB4
  go_wp2_with fail
  refine bodyPost_ret (v := .tuple #[.int .i64 ow, rV v, .int .i64 0]) (by simp [results, Try.results19, go_sem, c_o, f_o, z_o]) rfl ⟨by rw [HWO.out.1, HWO.out.2.1, HWO.out.2.2], HE.out⟩
end Go.Proofs.Ytpijllobpohpgaa

namespace Go.Proofs.Ytpijllobpohpgaa
open Go.RowKit Go.Deep
set_option linter.unusedVariables false
set_option linter.unusedSimpArgs false

theorem Mx.put4 {w W : World} {L : List (Nat × Obj)} {R : List Rw} (h : Mx w L R W) (i : Nat) {g : Nat} {x y z u : Value} {t : TypeId} (hi : L[i]? = some (g, .cells #[x, y, z, u] t)) (a b c d : Value) :
    Mx w (L.set i (g, .cells #[a, b, c, d] t)) R ((((W.setCell ⟨g, 0, none⟩ a).setCell ⟨g, 1, none⟩ b).setCell ⟨g, 2, none⟩ c).setCell ⟨g, 3, none⟩ d) := by
  have hlt : i < L.length := by
    rcases Nat.lt_or_ge i L.length with q | q
    · exact q
    · rw [List.getElem?_eq_none q] at hi; cases hi
  have h1 := h.set i hi 0 a
  have h2 := h1.set i (List.getElem?_set_self hlt) 1 b
  rw [List.set_set] at h2
  have h3 := h2.set i (List.getElem?_set_self hlt) 2 c
  rw [List.set_set] at h3
  have h4 := h3.set i (List.getElem?_set_self hlt) 3 d
  rw [List.set_set] at h4
  exact h4
def findP (bs : List (List Int)) : List Rt := if mkCode bs = 0 then (mPs (gr bs 0) (gr bs 1) (gr bs 0).length) else []
def findS (bs : List (List Int)) : List Rt := if mkCode bs = 0 then (mSh (gr bs 0) (gr bs 1) (gr bs 0).length) else []
theorem QIn.nil (w : World) : QIn w.heap.size w none 0 [] := ⟨fun h => by simp at h, fun k hk => by simp at hk, Nat.le_refl _, by unfold maxLen; omega⟩
set_option maxRecDepth 100000 in
set_option maxHeartbeats 32000000 in
theorem mfind_any (bs : List (List Int)) (A : Option Addr) (c : Nat) (w : World) (h : GIn w.heap.size w A c bs) :
    Calls Try.prog 12 #[gV A c bs] w fun e w' => ∃ P cp B cb, e = .returned (.tuple #[.slice P (findP bs).length cp, .slice B (findS bs).length cb, .int .i64 (mkCode bs)]) ∧ QIn w'.heap.size w' P cp (findP bs) ∧ QIn w'.heap.size w' B cb (findS bs) ∧ Below w.heap.size w w' := by
  obtain ⟨iq, hiq, hq0, hq1, hq2⟩ := info_parts infoQ
  have hB0 : Bx w [(w.heap.size, gB A c bs)] (w.alloc (gB A c bs)) := (Bx.start w).new rfl _
  have HC := Lib.hid (fun (W : World) (hW : Below w.heap.size w W) => mcheck_any bs A c W (h.next hW))
  have HG := Lib.hid h
  clear h
  go_enter Try.func12, Try.ntmps12
  try dsimp only [List.append]
  go_upto_region 1 with fail
  generalize w.alloc (gB A c bs) = w0 at *
  have c_G := fun j => cell_of_row _ _ j _ _ _ (hB0.get 0 rfl)
  have z_G := hB0.lt 0 rfl
  by_cases hc : mkCode bs = 0
  rotate_left
  · have q : (mkCode bs != 0) = true := bneT hc
    have HPS := Lib.hid (show findP bs = [] ∧ findS bs = [] by unfold findP findS; rw [if_neg hc, if_neg hc]; exact ⟨rfl, rfl⟩)
    obtain ⟨code, hco⟩ : ∃ x, x = mkCode bs := ⟨_, rfl⟩
    rw [← hco] at HC q
    have HCO := Lib.hid hco
    clear hc hco
    go_wp2_with fail
    refine (HC.out _ hB0.below).mono ?_
    rintro e w1 ⟨rfl, hb⟩
    have hB1 := hB0.next hb
    clear c_G z_G hb hB0
    have HE := Lib.hid hB1.below
    clear HC hB1
    go_wp2_with fail
    refine bodyPost_ret (v := .tuple #[.slice none 0 0, .slice none 0 0, .int .i64 code]) (by simp [results, Try.results12, go_sem]) rfl ⟨none, 0, none, 0, ?_, ?_, ?_, HE.out⟩
    · rw [HPS.out.1, HPS.out.2, ← HCO.out]; rfl
    · rw [HPS.out.1]; exact QIn.nil _
    · rw [HPS.out.2]; exact QIn.nil _
  have q : (mkCode bs != 0) = false := bneF hc
  have HCO := Lib.hid hc
  obtain ⟨ad, R0, c0, R1, c1, xa, ya, rfl, hvl⟩ := HG.out.vals hc
  have HVL := Lib.hid hvl
  have hmo := (mk_ok hc).2
  have HMO := Lib.hid hmo
  have HN := Lib.hid (show (gr bs 0).length ≤ 10 ∧ 0 < (gr bs 0).length by have := hmo.n10; have := hmo.n0; omega)
  rw [hc] at HC q
  clear hc hvl hmo
  go_wp2_with fail
  refine (HC.out _ hB0.below).mono ?_
  rintro e w1 ⟨rfl, hb⟩
  have hB1 := hB0.next hb
  clear c_G z_G hb hB0
  clear HC
  have c_G := fun j => cell_of_row _ _ j _ _ _ (hB1.get 0 rfl)
  have z_G := hB1.lt 0 rfl
  have hsq := shares_q bs (some ad) c w1 (HG.out.next hB1.below) HCO.out
  go_wp2_with fail
  refine hsq.mono ?_
  rintro e3 w2 ⟨bd, rfl, hq, hb⟩
  have hB2 := hB1.next hb
  clear c_G z_G hb hB1 hsq q
  have HQ := Lib.hid hq
  have HGC := Lib.hid (fun (W : World) (hW : Below w2.heap.size w2 W) => heap_ext (hB2.get 0 rfl) hW)
  have HB3 := Lib.hid hB2.below
  have HG3 := Lib.hid (HG.out.next hB2.below)
  have HVL3 := Lib.hid (HVL.out.next hB2.below)
  clear hq hB2 HG HVL
  generalize w2 = w3 at *
  obtain ⟨uu, huu⟩ : ∃ f : Int → Rt, f = fun i => mkR (mU (gr bs 0) (gr bs 1) (gr bs 0).length i.toNat) := ⟨_, rfl⟩
  have HRB := Lib.hid (fun (i : Int) (hi : 0 ≤ i ∧ i < 2) (W : World) (hW : Below w3.heap.size w3 W) => show Calls Try.prog 31 #[gV (some ad) c bs, .slice (some bd) (gr bs 0).length (gr bs 0).length, .int .i64 i] W fun e w' => e = .returned (rV (uu i)) ∧ Below W.heap.size W w' by
    obtain ⟨n, rfl⟩ : ∃ n : Nat, i = n := ⟨i.toNat, by omega⟩
    rw [huu]
    exact rate_any bs (some ad) c bd n (by omega) W (HG3.out.next hW) HCO.out (HQ.out.next hW))
  have HU := Lib.hid huu
  clear huu
  have HRT := Lib.hid (fun (i : Nat) => show (mkR (mU (gr bs 0) (gr bs 1) (gr bs 0).length i)).wf from mkR_wf _)
  have hM3 := Mx.of_bx (Bx.start w3)
  go_upto_region 5 with fail
  refine wp_region_R (Bx w3 []) 9 (by kernel_rfl) (by rfl) ((hM3.keep (List.nil_sublist _)).drew) (fun wq1 hbq => ?_)
  have hB51 := hM3.next hbq
  clear hM3 hbq
  refine wpAnyE_goR (Bx.grows _ _) (hB51.keep (List.nil_sublist _)) [0, 1, 2, 3, 4, 5, 6] 2 (by kernel_rfl) ?_
  apply Exists.intro
  refine ⟨fun G hG hN => ?_, ?_⟩
  · have c_G := fun (e : GE (Bx w3 []) G) j => cell_of_row e.w _ j _ _ _ (HGC.out e.w (GE.h e).below)
    have z_G := fun (e : GE (Bx w3 []) G) => lt_some (HGC.out e.w (GE.h e).below)
    simp only [pickOps, List.getElem?_toArray, List.getElem?_cons_zero, List.getElem?_cons_succ]
    repeat (first | go_big_quiet_step ((first | (go_at_call 31; exact calls_ge (Bx.grows _ _) hG (HRB.out _ (by decide) _ (Bx.below (GE.h _)))))) | quiet_step ((first | (go_at_call 31; exact calls_ge (Bx.grows _ _) hG (HRB.out _ (by decide) _ (Bx.below (GE.h _)))))))
    exact wpQuiet_nil rfl
  refine wpAnyE_all (rs := [7]) (by kernel_rfl) (by simp) (fun wa2 hwa2 hRwa2 i hi => ?_)
  have hB52 := hB51.next hwa2
  clear hB51 hwa2 hRwa2
  obtain rfl := List.mem_singleton.1 hi
  refine wpOp_step rfl (fun Kc hKc => ?_)
  go_simp
  have hB53 := hB52.new (g := wa2.heap.size) rfl (.cells #[.int .i64 0, .int .i64 0, .int .i64 0, .int .i64 0] 65)
  refine hKc _ _ ⟨(hB53.keep (List.nil_sublist _)), ?_⟩
  clear hKc Kc hB52
  generalize wa2.heap.size = gRt at *
  generalize wa2.alloc _ = wb3 at *
  refine wpAnyE_all (rs := [8]) (by kernel_rfl) (by simp) (fun wa4 hwa4 hRwa4 i hi => ?_)
  have hB54 := hB53.next hwa4
  clear hB53 hwa4 hRwa4
  obtain rfl := List.mem_singleton.1 hi
  refine wpOp_step rfl (fun Kc hKc => ?_)
  have c_R := fun j => cell_of_row _ _ j _ _ _ (hB54.get 0 rfl)
  have z_R := hB54.lt 0 rfl
  have f_R := fun j => frozen_of_row _ _ j _ _ (hB54.get 0 rfl)
  go_simp
  have hB55 := hB54.put4 0 rfl (.int .i64 (uu 0).n) (.int .i64 (uu 0).d) (.int .i64 (uu 1).n) (.int .i64 (uu 1).d)
  refine hKc _ _ ⟨(hB55.keep (List.nil_sublist _)), ?_⟩
  clear c_R z_R f_R hKc Kc hB54
  generalize (((wa4.setCell _ _).setCell _ _).setCell _ _).setCell _ _ = wb5 at *
  refine wpAnyE_done (by kernel_rfl) (fun wd6 hwd6 hRwd6 => ?_) _
  refine NoPanic.normal ?_
  have hB56 := hB55.next hwd6
  clear hB55 hwd6 hRwd6
  clear HRB
  have HM5 := Lib.hid (hB56.nil 36 2)
  clear hB56
  obtain ⟨ps, hps⟩ : ∃ x, x = (mPs (gr bs 0) (gr bs 1) (gr bs 0).length) := ⟨_, rfl⟩
  obtain ⟨nn, hnn⟩ : ∃ x : Nat, x = (gr bs 0).length := ⟨_, rfl⟩
  have HPS := Lib.hid hps
  have HNN := Lib.hid hnn
  have HPL := Lib.hid (show ps.length = nn by rw [hps, hnn]; exact ps_len)
  have HWF := Lib.hid (fun k (hk : k < nn) => show (gR ps k).wf by rw [hps, ps_at (by omega)]; exact divR_wf _ _)
  have HTK := Lib.hid (fun k (hk : k < nn) => show ps.take (k + 1) = ps.take k ++ [gR ps k] by rw [List.take_succ_eq_append_getElem (by rw [HPL.out]; exact hk), gR_get (by rw [HPL.out]; exact hk)])
  have HAT := Lib.hid (fun k (hk : k < nn) => show gR ps k = mPr (gr bs 0) (gr bs 1) (gr bs 0).length k by rw [hps]; exact ps_at (by omega))
  rw [← hnn]
  clear hps hnn
  go_wp2_with fail
  go_loopw [2, 28] (fun v s wr => ∃ k : Nat, k ≤ nn ∧ s = .int .i64 k ∧ Mx w3 [(gRt, .cells #[.int .i64 (uu 0).n, .int .i64 (uu 0).d, .int .i64 (uu 1).n, .int .i64 (uu 1).d] 65)] [qR v (ps.take k)] wr) (fun _ s _ => nn - (intOf s).toNat)
  case atStart => exact ⟨0, Nat.zero_le _, rfl, HM5.out⟩
  case round =>
    as_aux_lemma =>
      obtain ⟨k, hk, rfl, hMr⟩ := hrel
      clear HM5
      by_cases hlt : k < nn
      rotate_left
      · obtain rfl : k = nn := by omega
        rw [List.take_of_length_le (show ps.length ≤ k by rw [HPL.out]; exact Nat.le_refl _)] at hMr
        have hrow : wr.ownsRow w3.heap.size 36 2 _ ps.length (ratV ps) := hMr.row 0 rfl
        obtain ⟨A, c2, rfl, _, _⟩ := own_nil_len hrow
        have HQP := Lib.hid (QIn.of_own (l := ps) (B := w3.heap.size) (w := wr) (A := A) (c := c2) hrow (fun g hg => HWF.out g (by rw [← HPL.out]; exact hg)))
        have HE := Lib.hid (below_below HB3.out hMr.below)
        have HQS := Lib.hid (HQ.out.next hMr.below)
        have HFS := Lib.hid (show findP bs = ps ∧ findS bs = (mSh (gr bs 0) (gr bs 1) (gr bs 0).length) by unfold findP findS; rw [if_pos HCO.out, if_pos HCO.out, HPS.out]; exact ⟨rfl, rfl⟩)
        have HQS' := Lib.hid (show QIn wr.heap.size wr (some bd) k (mSh (gr bs 0) (gr bs 1) (gr bs 0).length) by rw [HNN.out]; exact HQS.out)
        have HLL := Lib.hid (show ps.length = k ∧ (mSh (gr bs 0) (gr bs 1) (gr bs 0).length).length = k by rw [HPL.out, sh_len, HNN.out]; exact ⟨rfl, rfl⟩)
        clear hMr hrow hlt hk HQ HTK HAT HPS HVL3 HG3 HGC HU
        go_wp2_with fail
        refine bodyPost_ret (v := .tuple #[.slice A ps.length c2, .slice (some bd) k k, .int .i64 0]) (by simp [results, Try.results12, go_sem]) rfl ⟨A, c2, some bd, k, ?_, ?_, ?_, HE.out⟩
        · rw [HFS.out.1, HFS.out.2, HLL.out.1, HLL.out.2, HCO.out]
        · rw [HFS.out.1]; exact HQP.out
        · rw [HFS.out.2]; exact HQS'.out
      obtain ⟨bd', ebd, bb, bc⟩ := (HQ.out.next hMr.below).at_ (k := k) (by rw [sh_len, ← HNN.out]; exact hlt)
      obtain rfl : bd = bd' := by simpa using ebd
      obtain ⟨f0, f1, f2⟩ := cell2 bc (show k < (mSh (gr bs 0) (gr bs 1) (gr bs 0).length).length by rw [sh_len, ← HNN.out]; exact hlt)
      have f3 : wr.cell? ⟨(bd.add (k * 2)).block, (bd.add (k * 2)).off + 1, none⟩ = some (.int .i64 (gR (mSh (gr bs 0) (gr bs 1) (gr bs 0).length) k).d) := f1
      have HOW := Lib.hid (own_mOwn (gr bs 0) (gr bs 1) (gr bs 0).length k)
      have HOL := Lib.hid (mOwn_lt (gr bs 0) (gr bs 1) (gr bs 0).length k)
      have HPK := Lib.hid (show gR ps k = divR ⟨gi (gr bs (mOwn (gr bs 0) (gr bs 1) (gr bs 0).length k)) k, 1⟩ (uu ((mOwn (gr bs 0) (gr bs 1) (gr bs 0).length k : Nat) : Int)) by
        rw [HAT.out k hlt, HU.out]
        unfold mPr mVal mOwn
        split <;> rfl)
      have HKN := Lib.hid (show k < (gr bs 0).length by rw [← HNN.out]; exact hlt)
      have HKB := Lib.hid (show k ≤ 9 by have := HN.out.1; have := HNN.out; omega)
      have HTKK := Lib.hid (HTK.out k hlt)
      have HWK := Lib.hid (HWF.out k hlt)
      have HTL := Lib.hid (show (ps.take k).length = k by rw [List.length_take, HPL.out]; omega)
      have HKM := Lib.hid (show k + 1 ≤ maxLen ∧ (k + 1) * 16 ≤ 140737488355328 by have := HKB.out; unfold maxLen; omega)
      have HME := Lib.hid (And.intro (Nat.succ_le_of_lt hlt) (Nat.sub_lt_sub_left hlt (Nat.lt_succ_self k)))
      have z1 : (k : Int) < (nn : Int) := by omega
      have z3 : (0 : Int) ≤ (k : Int) := by omega
      have y1 : IntKind.i64.wrap ((k : Int) + 1) = (k : Int) + 1 := IntWalk.i64_in _ (by have := HKB.out; omega)
      have y1' : wrap64 ((k : Int) + 1) = (k : Int) + 1 := IntWalk.wrap64_in _ (by have := HKB.out; omega)
      clear ebd bb bc hk hlt HTK HAT HWF
      generalize gR (mSh (gr bs 0) (gr bs 1) (gr bs 0).length) k = el at *
      generalize mOwn (gr bs 0) (gr bs 1) (gr bs 0).length k = ow at *
      generalize ps.take k = pk at *
      generalize gR ps k = pv at *
      go_upto_region 9 with fail
      have hB81 := hMr.new rfl (rB el)
      clear hMr
      generalize wr.heap.size = gX at *
      generalize wr.alloc _ = w81 at *
      clear f0 f1 f2 f3
      have HOA := Lib.hid (fun W => owner_any el W)
      rw [HOW.out] at HOA
      have c_x := fun j => cell_of_row _ _ j _ _ _ (hB81.get 0 rfl)
      have z_x := hB81.lt 0 rfl
      go_wp2_with fail
      refine (HOA.out _).mono ?_
      rintro e w82 ⟨rfl, hb⟩
      have hB82 := hB81.next hb
      clear c_x z_x hb hB81
      clear HOA HOW
      by_cases hoc : ow = 0
      · obtain rfl : ow = 0 := hoc
        have HRB := row_bd HCO.out (show 0 < 2 by omega)
        have HLT := Lib.hid (show k < (gr bs 0).length by rw [HRB.1]; exact HKN.out)
        have HDV := Lib.hid (fun (W : World) => show Calls Try.prog 33 #[rV ⟨gi (gr bs 0) k, 1⟩, rV (uu 0)] W fun e w' => e = .returned (.tuple #[rV pv, .int .i64 (divC ⟨gi (gr bs 0) k, 1⟩ (uu 0))]) ∧ Below W.heap.size W w' by
          have q := rdiv_any ⟨gi (gr bs 0) k, 1⟩ (uu 0) (whole_ok (by have := HRB.2 k HKN.out; omega) (by have := HRB.2 k HKN.out; omega)).wf (by rw [HU.out]; exact HRT.out 0) W
          rw [show divR ⟨gi (gr bs 0) k, 1⟩ (uu 0) = pv from HPK.out.symm] at q
          exact q)
        have u0 : (k : Int) < ((gr bs 0).length : Int) := by have := HLT.out; omega
        have u1 : (0 : Int) < (bs.length : Int) := by rw [(mk_ok HCO.out).1]; decide
        obtain rfl := HVL3.out.e0
        clear HOL HPK HRB
        go_upto_region 10 with fail
        refine wp_region_R (Bx w3 [(gRt, .cells #[.int .i64 (uu 0).n, .int .i64 (uu 0).d, .int .i64 (uu 1).n, .int .i64 (uu 1).d] 65)]) 19 (by kernel_rfl) (by rfl) ((hB82.keep (List.Sublist.cons _ (List.Sublist.cons_cons _ (List.nil_sublist _)))).drew) (fun wq7 hbq => ?_)
        have hB83 := hB82.next hbq
        clear hB82 hbq
        refine wpAnyE_goR (Bx.grows _ _) (hB83.keep (List.Sublist.cons _ (List.Sublist.cons_cons _ (List.nil_sublist _)))) [0, 1, 2, 3, 4, 5, 6, 7, 8, 9, 10, 11, 12, 13, 14, 15] 3 (by kernel_rfl) ?_
        apply Exists.intro
        refine ⟨fun G hG hN => ?_, ?_⟩
        · have c_R := fun (e : GE (Bx w3 [(gRt, .cells #[.int .i64 (uu 0).n, .int .i64 (uu 0).d, .int .i64 (uu 1).n, .int .i64 (uu 1).d] 65)]) G) j => cell_of_row e.w _ j _ _ _ ((GE.h e).get 0 rfl)
          have z_R := fun (e : GE (Bx w3 [(gRt, .cells #[.int .i64 (uu 0).n, .int .i64 (uu 0).d, .int .i64 (uu 1).n, .int .i64 (uu 1).d] 65)]) G) => (GE.h e).lt 0 rfl
          have c_G := fun (e : GE (Bx w3 [(gRt, .cells #[.int .i64 (uu 0).n, .int .i64 (uu 0).d, .int .i64 (uu 1).n, .int .i64 (uu 1).d] 65)]) G) j => cell_of_row e.w _ j _ _ _ (HGC.out e.w (GE.h e).below)
          have z_G := fun (e : GE (Bx w3 [(gRt, .cells #[.int .i64 (uu 0).n, .int .i64 (uu 0).d, .int .i64 (uu 1).n, .int .i64 (uu 1).d] 65)]) G) => lt_some (HGC.out e.w (GE.h e).below)
          have t_r := fun (e : GE (Bx w3 [(gRt, .cells #[.int .i64 (uu 0).n, .int .i64 (uu 0).d, .int .i64 (uu 1).n, .int .i64 (uu 1).d] 65)]) G) => (HVL3.out.next (GE.h e).below).two.r0
          have t_b := fun (e : GE (Bx w3 [(gRt, .cells #[.int .i64 (uu 0).n, .int .i64 (uu 0).d, .int .i64 (uu 1).n, .int .i64 (uu 1).d] 65)]) G) => Nat.lt_of_lt_of_le (HVL3.out.next (GE.h e).below).two.bl (Nat.le_refl _)
          have t_v := fun (e : GE (Bx w3 [(gRt, .cells #[.int .i64 (uu 0).n, .int .i64 (uu 0).d, .int .i64 (uu 1).n, .int .i64 (uu 1).d] 65)]) G) => ((HVL3.out.next (GE.h e).below).r0 k HLT.out).1
          have t_w := fun (e : GE (Bx w3 [(gRt, .cells #[.int .i64 (uu 0).n, .int .i64 (uu 0).d, .int .i64 (uu 1).n, .int .i64 (uu 1).d] 65)]) G) => ((HVL3.out.next (GE.h e).below).r0 k HLT.out).2
          simp only [pickOps, List.getElem?_toArray, List.getElem?_cons_zero, List.getElem?_cons_succ]
          repeat (first | go_big_quiet_step ((first | (go_at_call 34; exact calls_ge (Bx.grows _ _) hG (mwhole_any _ _)) | (go_at_call 33; exact calls_ge (Bx.grows _ _) hG (HDV.out _)))) | quiet_step ((first | (go_at_call 34; exact calls_ge (Bx.grows _ _) hG (mwhole_any _ _)) | (go_at_call 33; exact calls_ge (Bx.grows _ _) hG (HDV.out _)))))
          exact wpQuiet_nil rfl
        refine wpAnyE_all (rs := [16]) (by kernel_rfl) (by simp) (fun wa8 hwa8 hRwa8 i hi => ?_)
        have hB84 := hB83.next hwa8
        clear hB83 hwa8 hRwa8
        obtain rfl := List.mem_singleton.1 hi
        refine wpOp_step rfl (fun Kc hKc => ?_)
        go_simp
        have hB85 := hB84.new (g := wa8.heap.size) rfl (rB ⟨0, 0⟩)
        refine hKc _ _ ⟨(hB85.keep (List.Sublist.cons _ (List.Sublist.cons _ (List.Sublist.cons_cons _ (List.nil_sublist _))))), ?_⟩
        clear hKc Kc hB84
        generalize wa8.heap.size = gP at *
        generalize wa8.alloc _ = wb9 at *
        refine wpAnyE_all (rs := [17]) (by kernel_rfl) (by simp) (fun wa10 hwa10 hRwa10 i hi => ?_)
        have hB86 := hB85.next hwa10
        clear hB85 hwa10 hRwa10
        obtain rfl := List.mem_singleton.1 hi
        refine wpOp_step rfl (fun Kc hKc => ?_)
        have c_p := fun j => cell_of_row _ _ j _ _ _ (hB86.get 0 rfl)
        have z_p := hB86.lt 0 rfl
        have f_p := fun j => frozen_of_row _ _ j _ _ (hB86.get 0 rfl)
        go_simp
        have hB87 := hB86.put 0 rfl (pv)
        refine hKc _ _ ⟨(hB87.keep (List.Sublist.cons _ (List.Sublist.cons _ (List.Sublist.cons_cons _ (List.nil_sublist _))))), ?_⟩
        clear c_p z_p f_p hKc Kc hB86
        generalize (wa10.setCell _ _).setCell _ _ = wb11 at *
        refine wpAnyE_goR (Bx.grows _ _) (hB87.keep (List.Sublist.cons _ (List.Sublist.cons _ (List.Sublist.cons_cons _ (List.nil_sublist _))))) [18] 0 (by kernel_rfl) ?_
        apply Exists.intro
        refine ⟨fun G hG hN => ?_, ?_⟩
        · have c_R := fun (e : GE (Bx w3 [(gRt, .cells #[.int .i64 (uu 0).n, .int .i64 (uu 0).d, .int .i64 (uu 1).n, .int .i64 (uu 1).d] 65)]) G) j => cell_of_row e.w _ j _ _ _ ((GE.h e).get 0 rfl)
          have z_R := fun (e : GE (Bx w3 [(gRt, .cells #[.int .i64 (uu 0).n, .int .i64 (uu 0).d, .int .i64 (uu 1).n, .int .i64 (uu 1).d] 65)]) G) => (GE.h e).lt 0 rfl
          have c_G := fun (e : GE (Bx w3 [(gRt, .cells #[.int .i64 (uu 0).n, .int .i64 (uu 0).d, .int .i64 (uu 1).n, .int .i64 (uu 1).d] 65)]) G) j => cell_of_row e.w _ j _ _ _ (HGC.out e.w (GE.h e).below)
          have z_G := fun (e : GE (Bx w3 [(gRt, .cells #[.int .i64 (uu 0).n, .int .i64 (uu 0).d, .int .i64 (uu 1).n, .int .i64 (uu 1).d] 65)]) G) => lt_some (HGC.out e.w (GE.h e).below)
          have t_r := fun (e : GE (Bx w3 [(gRt, .cells #[.int .i64 (uu 0).n, .int .i64 (uu 0).d, .int .i64 (uu 1).n, .int .i64 (uu 1).d] 65)]) G) => (HVL3.out.next (GE.h e).below).two.r0
          have t_b := fun (e : GE (Bx w3 [(gRt, .cells #[.int .i64 (uu 0).n, .int .i64 (uu 0).d, .int .i64 (uu 1).n, .int .i64 (uu 1).d] 65)]) G) => Nat.lt_of_lt_of_le (HVL3.out.next (GE.h e).below).two.bl (Nat.le_refl _)
          have t_v := fun (e : GE (Bx w3 [(gRt, .cells #[.int .i64 (uu 0).n, .int .i64 (uu 0).d, .int .i64 (uu 1).n, .int .i64 (uu 1).d] 65)]) G) => ((HVL3.out.next (GE.h e).below).r0 k HLT.out).1
          have t_w := fun (e : GE (Bx w3 [(gRt, .cells #[.int .i64 (uu 0).n, .int .i64 (uu 0).d, .int .i64 (uu 1).n, .int .i64 (uu 1).d] 65)]) G) => ((HVL3.out.next (GE.h e).below).r0 k HLT.out).2
          simp only [pickOps, List.getElem?_toArray, List.getElem?_cons_zero, List.getElem?_cons_succ]
          repeat (first | go_big_quiet_step ((first | (go_at_call 34; exact calls_ge (Bx.grows _ _) hG (mwhole_any _ _)) | (go_at_call 33; exact calls_ge (Bx.grows _ _) hG (HDV.out _)))) | quiet_step ((first | (go_at_call 34; exact calls_ge (Bx.grows _ _) hG (mwhole_any _ _)) | (go_at_call 33; exact calls_ge (Bx.grows _ _) hG (HDV.out _)))))
          exact wpQuiet_nil rfl
        refine wpAnyE_done (by kernel_rfl) (fun wd12 hwd12 hRwd12 => ?_) _
        refine NoPanic.normal ?_
        have hB88 := hB87.next hwd12
        clear hB87 hwd12 hRwd12
        have c_p := fun j => cell_of_row _ _ j _ _ _ (hB88.get 0 rfl)
        have z_p := hB88.lt 0 rfl
        have hn := hB88.new rfl (rB pv)
        clear hB88
        go_wp2_with (at_builtin; refine wpList_append_any _ rfl (.tmp 51) (.tmp 53) 27 rfl w3.heap.size 36 iq (.agg #[.int .i64 0, .int .i64 0]) 2 16 Try.underlying27 hiq hq0 hq1 hq2 rfl (by omega) _ pk.length (ratV pk) rfl (hn.row 0 rfl) _ (some ⟨wd12.heap.size, 0, none⟩) 1 1 [.int .i64 pv.n, .int .i64 pv.d] rfl (reads_two (hn.get 0 rfl)) (one_two _ _) (by rw [HTL.out]; exact HKM.out.1) (by rw [HTL.out]; exact HKM.out.2) hn.below.size ?_; intro v2 wq hown hgr hat; have hg := hn.grow 0 rfl hgr hown hat; clear hown hgr hat)
        refine ⟨⟨k + 1, HME.out.1, by go_num, ?_⟩, by simpa [intOf] using HME.out.2⟩
        rw [HTKK.out]
        have hz := hg.drop.drop.drop
        have e2 : qR v2 (pk ++ [pv]) = ⟨v2, 36, 2, pk.length + 1, ratV pk ++ [.int .i64 pv.n, .int .i64 pv.d]⟩ := by simp only [qR, ratV_append, List.length_append, List.length_singleton]
        rw [e2]; exact hz
      obtain rfl : ow = 1 := by have := HOL.out; omega
      have HRB := row_bd HCO.out (show 1 < 2 by omega)
      have HLT := Lib.hid (show k < (gr bs 1).length by rw [HRB.1]; exact HKN.out)
      have HDV := Lib.hid (fun (W : World) => show Calls Try.prog 33 #[rV ⟨gi (gr bs 1) k, 1⟩, rV (uu 1)] W fun e w' => e = .returned (.tuple #[rV pv, .int .i64 (divC ⟨gi (gr bs 1) k, 1⟩ (uu 1))]) ∧ Below W.heap.size W w' by
        have q := rdiv_any ⟨gi (gr bs 1) k, 1⟩ (uu 1) (whole_ok (by have := HRB.2 k HKN.out; omega) (by have := HRB.2 k HKN.out; omega)).wf (by rw [HU.out]; exact HRT.out 1) W
        rw [show divR ⟨gi (gr bs 1) k, 1⟩ (uu 1) = pv from HPK.out.symm] at q
        exact q)
      have u0 : (k : Int) < ((gr bs 1).length : Int) := by have := HLT.out; omega
      have u1 : (1 : Int) < (bs.length : Int) := by rw [(mk_ok HCO.out).1]; decide
      obtain rfl := HVL3.out.e1
      clear HOL HPK HRB
      go_upto_region 10 with fail
      refine wp_region_R (Bx w3 [(gRt, .cells #[.int .i64 (uu 0).n, .int .i64 (uu 0).d, .int .i64 (uu 1).n, .int .i64 (uu 1).d] 65)]) 19 (by kernel_rfl) (by rfl) ((hB82.keep (List.Sublist.cons _ (List.Sublist.cons_cons _ (List.nil_sublist _)))).drew) (fun wq13 hbq => ?_)
      have hB83 := hB82.next hbq
      clear hB82 hbq
      refine wpAnyE_goR (Bx.grows _ _) (hB83.keep (List.Sublist.cons _ (List.Sublist.cons_cons _ (List.nil_sublist _)))) [0, 1, 2, 3, 4, 5, 6, 7, 8, 9, 10, 11, 12, 13, 14, 15] 3 (by kernel_rfl) ?_
      apply Exists.intro
      refine ⟨fun G hG hN => ?_, ?_⟩
      · have c_R := fun (e : GE (Bx w3 [(gRt, .cells #[.int .i64 (uu 0).n, .int .i64 (uu 0).d, .int .i64 (uu 1).n, .int .i64 (uu 1).d] 65)]) G) j => cell_of_row e.w _ j _ _ _ ((GE.h e).get 0 rfl)
        have z_R := fun (e : GE (Bx w3 [(gRt, .cells #[.int .i64 (uu 0).n, .int .i64 (uu 0).d, .int .i64 (uu 1).n, .int .i64 (uu 1).d] 65)]) G) => (GE.h e).lt 0 rfl
        have c_G := fun (e : GE (Bx w3 [(gRt, .cells #[.int .i64 (uu 0).n, .int .i64 (uu 0).d, .int .i64 (uu 1).n, .int .i64 (uu 1).d] 65)]) G) j => cell_of_row e.w _ j _ _ _ (HGC.out e.w (GE.h e).below)
        have z_G := fun (e : GE (Bx w3 [(gRt, .cells #[.int .i64 (uu 0).n, .int .i64 (uu 0).d, .int .i64 (uu 1).n, .int .i64 (uu 1).d] 65)]) G) => lt_some (HGC.out e.w (GE.h e).below)
        have t_r := fun (e : GE (Bx w3 [(gRt, .cells #[.int .i64 (uu 0).n, .int .i64 (uu 0).d, .int .i64 (uu 1).n, .int .i64 (uu 1).d] 65)]) G) => (HVL3.out.next (GE.h e).below).two.r1
        have t_b := fun (e : GE (Bx w3 [(gRt, .cells #[.int .i64 (uu 0).n, .int .i64 (uu 0).d, .int .i64 (uu 1).n, .int .i64 (uu 1).d] 65)]) G) => Nat.lt_of_lt_of_le (HVL3.out.next (GE.h e).below).two.bl (Nat.le_refl _)
        have t_v := fun (e : GE (Bx w3 [(gRt, .cells #[.int .i64 (uu 0).n, .int .i64 (uu 0).d, .int .i64 (uu 1).n, .int .i64 (uu 1).d] 65)]) G) => ((HVL3.out.next (GE.h e).below).r1 k HLT.out).1
        have t_w := fun (e : GE (Bx w3 [(gRt, .cells #[.int .i64 (uu 0).n, .int .i64 (uu 0).d, .int .i64 (uu 1).n, .int .i64 (uu 1).d] 65)]) G) => ((HVL3.out.next (GE.h e).below).r1 k HLT.out).2
        simp only [pickOps, List.getElem?_toArray, List.getElem?_cons_zero, List.getElem?_cons_succ]
        repeat (first | go_big_quiet_step ((first | (go_at_call 34; exact calls_ge (Bx.grows _ _) hG (mwhole_any _ _)) | (go_at_call 33; exact calls_ge (Bx.grows _ _) hG (HDV.out _)))) | quiet_step ((first | (go_at_call 34; exact calls_ge (Bx.grows _ _) hG (mwhole_any _ _)) | (go_at_call 33; exact calls_ge (Bx.grows _ _) hG (HDV.out _)))))
        exact wpQuiet_nil rfl
      refine wpAnyE_all (rs := [16]) (by kernel_rfl) (by simp) (fun wa14 hwa14 hRwa14 i hi => ?_)
      have hB84 := hB83.next hwa14
      clear hB83 hwa14 hRwa14
      obtain rfl := List.mem_singleton.1 hi
      refine wpOp_step rfl (fun Kc hKc => ?_)
      go_simp
      have hB85 := hB84.new (g := wa14.heap.size) rfl (rB ⟨0, 0⟩)
      refine hKc _ _ ⟨(hB85.keep (List.Sublist.cons _ (List.Sublist.cons _ (List.Sublist.cons_cons _ (List.nil_sublist _))))), ?_⟩
      clear hKc Kc hB84
      generalize wa14.heap.size = gP at *
      generalize wa14.alloc _ = wb15 at *
      refine wpAnyE_all (rs := [17]) (by kernel_rfl) (by simp) (fun wa16 hwa16 hRwa16 i hi => ?_)
      have hB86 := hB85.next hwa16
      clear hB85 hwa16 hRwa16
      obtain rfl := List.mem_singleton.1 hi
      refine wpOp_step rfl (fun Kc hKc => ?_)
      have c_p := fun j => cell_of_row _ _ j _ _ _ (hB86.get 0 rfl)
      have z_p := hB86.lt 0 rfl
      have f_p := fun j => frozen_of_row _ _ j _ _ (hB86.get 0 rfl)
      go_simp
      have hB87 := hB86.put 0 rfl (pv)
      refine hKc _ _ ⟨(hB87.keep (List.Sublist.cons _ (List.Sublist.cons _ (List.Sublist.cons_cons _ (List.nil_sublist _))))), ?_⟩
      clear c_p z_p f_p hKc Kc hB86
      generalize (wa16.setCell _ _).setCell _ _ = wb17 at *
      refine wpAnyE_goR (Bx.grows _ _) (hB87.keep (List.Sublist.cons _ (List.Sublist.cons _ (List.Sublist.cons_cons _ (List.nil_sublist _))))) [18] 0 (by kernel_rfl) ?_
      apply Exists.intro
      refine ⟨fun G hG hN => ?_, ?_⟩
      · have c_R := fun (e : GE (Bx w3 [(gRt, .cells #[.int .i64 (uu 0).n, .int .i64 (uu 0).d, .int .i64 (uu 1).n, .int .i64 (uu 1).d] 65)]) G) j => cell_of_row e.w _ j _ _ _ ((GE.h e).get 0 rfl)
        have z_R := fun (e : GE (Bx w3 [(gRt, .cells #[.int .i64 (uu 0).n, .int .i64 (uu 0).d, .int .i64 (uu 1).n, .int .i64 (uu 1).d] 65)]) G) => (GE.h e).lt 0 rfl
        have c_G := fun (e : GE (Bx w3 [(gRt, .cells #[.int .i64 (uu 0).n, .int .i64 (uu 0).d, .int .i64 (uu 1).n, .int .i64 (uu 1).d] 65)]) G) j => cell_of_row e.w _ j _ _ _ (HGC.out e.w (GE.h e).below)
        have z_G := fun (e : GE (Bx w3 [(gRt, .cells #[.int .i64 (uu 0).n, .int .i64 (uu 0).d, .int .i64 (uu 1).n, .int .i64 (uu 1).d] 65)]) G) => lt_some (HGC.out e.w (GE.h e).below)
        have t_r := fun (e : GE (Bx w3 [(gRt, .cells #[.int .i64 (uu 0).n, .int .i64 (uu 0).d, .int .i64 (uu 1).n, .int .i64 (uu 1).d] 65)]) G) => (HVL3.out.next (GE.h e).below).two.r1
        have t_b := fun (e : GE (Bx w3 [(gRt, .cells #[.int .i64 (uu 0).n, .int .i64 (uu 0).d, .int .i64 (uu 1).n, .int .i64 (uu 1).d] 65)]) G) => Nat.lt_of_lt_of_le (HVL3.out.next (GE.h e).below).two.bl (Nat.le_refl _)
        have t_v := fun (e : GE (Bx w3 [(gRt, .cells #[.int .i64 (uu 0).n, .int .i64 (uu 0).d, .int .i64 (uu 1).n, .int .i64 (uu 1).d] 65)]) G) => ((HVL3.out.next (GE.h e).below).r1 k HLT.out).1
        have t_w := fun (e : GE (Bx w3 [(gRt, .cells #[.int .i64 (uu 0).n, .int .i64 (uu 0).d, .int .i64 (uu 1).n, .int .i64 (uu 1).d] 65)]) G) => ((HVL3.out.next (GE.h e).below).r1 k HLT.out).2
        simp only [pickOps, List.getElem?_toArray, List.getElem?_cons_zero, List.getElem?_cons_succ]
        repeat (first | go_big_quiet_step ((first | (go_at_call 34; exact calls_ge (Bx.grows _ _) hG (mwhole_any _ _)) | (go_at_call 33; exact calls_ge (Bx.grows _ _) hG (HDV.out _)))) | quiet_step ((first | (go_at_call 34; exact calls_ge (Bx.grows _ _) hG (mwhole_any _ _)) | (go_at_call 33; exact calls_ge (Bx.grows _ _) hG (HDV.out _)))))
        exact wpQuiet_nil rfl
      refine wpAnyE_done (by kernel_rfl) (fun wd18 hwd18 hRwd18 => ?_) _
      refine NoPanic.normal ?_
      have hB88 := hB87.next hwd18
      clear hB87 hwd18 hRwd18
      have c_p := fun j => cell_of_row _ _ j _ _ _ (hB88.get 0 rfl)
      have z_p := hB88.lt 0 rfl
      have hn := hB88.new rfl (rB pv)
      clear hB88
      go_wp2_with (at_builtin; refine wpList_append_any _ rfl (.tmp 51) (.tmp 53) 27 rfl w3.heap.size 36 iq (.agg #[.int .i64 0, .int .i64 0]) 2 16 Try.underlying27 hiq hq0 hq1 hq2 rfl (by omega) _ pk.length (ratV pk) rfl (hn.row 0 rfl) _ (some ⟨wd18.heap.size, 0, none⟩) 1 1 [.int .i64 pv.n, .int .i64 pv.d] rfl (reads_two (hn.get 0 rfl)) (one_two _ _) (by rw [HTL.out]; exact HKM.out.1) (by rw [HTL.out]; exact HKM.out.2) hn.below.size ?_; intro v2 wq hown hgr hat; have hg := hn.grow 0 rfl hgr hown hat; clear hown hgr hat)
      refine ⟨⟨k + 1, HME.out.1, by go_num, ?_⟩, by simpa [intOf] using HME.out.2⟩
      rw [HTKK.out]
      have hz := hg.drop.drop.drop
      have e2 : qR v2 (pk ++ [pv]) = ⟨v2, 36, 2, pk.length + 1, ratV pk ++ [.int .i64 pv.n, .int .i64 pv.d]⟩ := by simp only [qR, ratV_append, List.length_append, List.length_singleton]
      rw [e2]; exact hz
end Go.Proofs.Ytpijllobpohpgaa
