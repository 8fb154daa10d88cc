/- Accept: the program's and the reference's. -/
import Derived.Test.YtpijllobpohpgaaMa5
namespace Go.Proofs.Ytpijllobpohpgaa
open Go.RowKit Go.Deep
set_option linter.unusedVariables false
set_option linter.unusedSimpArgs false

/-- What an agent pays, and buys. -/
def acc1 (bs : List (List Int)) (p l : List Rt) (i n : Nat) : Bool := paysB (gR p) (fun g => partR i (gR l g)) n && buysB (gi (gr bs i)) (gR p) (fun g => partR i (gR l g)) n
def accB (bs : List (List Int)) (p l : List Rt) : Bool := validB (gr bs 0).length l && decide (p.length = (gr bs 0).length) && !p.any badB && acc1 bs p l 0 (gr bs 0).length && acc1 bs p l 1 (gr bs 0).length
def accR (bs : List (List Int)) (p l : List Rt) : Bool := decide (mkCode bs = 0) && accB bs p l
theorem acc_code {bs : List (List Int)} {p l : List Rt} (h : mkCode bs ≠ 0) : accR bs p l = false := by unfold accR; rw [decide_eq_false h]; rfl
theorem acc_ok {bs : List (List Int)} {p l : List Rt} (h : mkCode bs = 0) : accR bs p l = accB bs p l := by unfold accR; rw [decide_eq_true h]; rfl
theorem acc_valid {bs : List (List Int)} {p l : List Rt} (h : validB (gr bs 0).length l = false) : accB bs p l = false := by unfold accB; rw [h]; rfl
theorem acc_len {bs : List (List Int)} {p l : List Rt} (h : p.length ≠ (gr bs 0).length) : accB bs p l = false := by unfold accB; rw [decide_eq_false h]; simp
theorem acc_bad {bs : List (List Int)} {p l : List Rt} (h : p.any badB = true) : accB bs p l = false := by unfold accB; rw [h]; simp
theorem acc_one {bs : List (List Int)} {p l : List Rt} {i : Nat} (hi : i < 2) (h : acc1 bs p l i (gr bs 0).length = false) : accB bs p l = false := by
  unfold accB
  match i, hi with
  | 0, _ => rw [h]; simp
  | 1, _ => rw [h]; simp
theorem acc_all {bs : List (List Int)} {p l : List Rt} (h1 : validB (gr bs 0).length l = true) (h2 : p.length = (gr bs 0).length) (h3 : p.any badB = false) (h4 : ∀ i, i < 2 → acc1 bs p l i (gr bs 0).length = true) : accB bs p l = true := by
  unfold accB; rw [h1, decide_eq_true h2, h3, h4 0 (by omega), h4 1 (by omega)]; rfl
theorem paysB_congr {f h f' h' : Nat → Rt} {n : Nat} (e : ∀ k, k < n → f k = f' k ∧ h k = h' k) : paysB f h n = paysB f' h' n := by unfold paysB; rw [totS_congr e]
theorem buysB_congr {V : Nat → Int} {P l l' : Nat → Rt} {n : Nat} (e : ∀ k, k < n → l k = l' k) : buysB V P l n = buysB V P l' n := by
  rw [Bool.eq_iff_iff, buys_iff, buys_iff]
  constructor
  · intro a g hg h hh hp; exact a g hg h hh (by rw [e g hg]; exact hp)
  · intro a g hg h hh hp; exact a g hg h hh (by rw [← e g hg]; exact hp)
theorem price_false {l : List Rt} {k : Nat} (hk : k < l.length) (h : badB (gR l k) = true) : l.any badB = true := anyq_some hk h

set_option maxRecDepth 100000 in
set_option maxHeartbeats 16000000 in
theorem faccept_any (bs : List (List Int)) (A : Option Addr) (c : Nat) (p : List Rt) (B : Option Addr) (d : Nat) (l : List Rt) (D : Option Addr) (e : Nat) (w : World) (h : GIn w.heap.size w A c bs) (hp : QIn w.heap.size w B d p) (hl : QIn w.heap.size w D e l) :
    Calls Try.prog 24 #[gV A c bs, .slice B p.length d, .slice D l.length e] w fun e w' => e = .returned (.tuple #[.bool (accR bs p l), .int .i64 (mkCode bs)]) ∧ Below w.heap.size w w' := by
  have hB0 : Bx w [(w.heap.size, gB A c bs)] (w.alloc (gB A c bs)) := (Bx.start w).new rfl _
  have HC := Lib.hid (fun (W : World) (hW : Below w.heap.size w W) => fmcheck_any bs A c W (h.next hW))
  have HG := Lib.hid h
  have HP := Lib.hid hp
  have HL := Lib.hid hl
  clear h hp hl
  go_enter Try.func24, Try.ntmps24
  try dsimp only [List.append]
  go_upto_region 1 with fail
  generalize w.alloc (gB A c bs) = w0 at *
  have c_G := fun j => cell_of_row _ _ j _ _ _ (hB0.get 0 rfl)
  have z_G := hB0.lt 0 rfl
  by_cases hc : mkCode bs = 0
  rotate_left
  · have HR := Lib.hid (acc_code (p := p) (l := l) hc)
    have q : (mkCode bs != 0) = true := bneT hc
    obtain ⟨code, hco⟩ : ∃ x, x = mkCode bs := ⟨_, rfl⟩
    have HCO := Lib.hid hco.symm
    rw [← hco] at HC q
    clear hc hco
    go_wp2_with fail
    refine (HC.out _ hB0.below).mono ?_
    rintro e w1 ⟨rfl, hb⟩
    have hB1 := hB0.next hb
    clear c_G z_G hb hB0
    have c_G := fun j => cell_of_row _ _ j _ _ _ (hB1.get 0 rfl)
    have z_G := hB1.lt 0 rfl
    go_wp2_with fail
    refine (HC.out _ hB1.below).mono ?_
    rintro e w2 ⟨rfl, hb⟩
    have hB2 := hB1.next hb
    clear c_G z_G hb hB1
    have HE := Lib.hid hB2.below
    clear hB2
    go_wp2_with fail
    go_ret2
    exact ⟨ret_two (vbool HR.out.symm) (vint HCO.out.symm), HE.out⟩
  have q : (mkCode bs != 0) = false := bneF hc
  have HCO := Lib.hid hc
  have HAR := Lib.hid (acc_ok (p := p) (l := l) hc)
  obtain ⟨h2, hok⟩ := mk_ok hc
  have HOK := Lib.hid hok
  have HV := Lib.hid (fun (W : World) (hW : Below w.heap.size w W) => fvalid_any bs A c l D e W (HG.out.next hW) h2 (HL.out.next hW))
  obtain ⟨ad, R0, c0, R1, c1, rfl, hT⟩ := HG.out.two h2
  have HT := Lib.hid hT
  have H2 := Lib.hid h2
  have q20 : (0 : Int) < (bs.length : Int) := by omega
  have q21 : (1 : Int) < (bs.length : Int) := by omega
  rw [hc] at HC q
  clear hc h2 hok hT
  go_wp2_with fail
  refine (HC.out _ hB0.below).mono ?_
  rintro e w1 ⟨rfl, hb⟩
  have hB1 := hB0.next hb
  clear c_G z_G hb hB0
  clear HC q
  have c_G := fun j => cell_of_row _ _ j _ _ _ (hB1.get 0 rfl)
  have z_G := hB1.lt 0 rfl
  go_wp2_with fail
  refine (HV.out _ hB1.below).mono ?_
  rintro e w2 ⟨rfl, hb⟩
  have hB2 := hB1.next hb
  clear c_G z_G hb hB1
  clear HV
  cases hvb : validB (gr bs 0).length l with
  | false =>
    have HR := Lib.hid (HAR.out.trans (acc_valid hvb))
    clear hvb
    have HE := Lib.hid hB2.below
    clear hB2
    go_wp2_with fail
    go_ret2
    exact ⟨ret_two (vbool HR.out.symm) (vint HCO.out.symm), HE.out⟩
  | true =>
  have HVB := Lib.hid hvb
  clear hvb
  have hT := HT.out.next hB2.below
  have t0 := hT.r0
  have tb := hT.bl
  clear hT
  have c_G := fun j => cell_of_row _ _ j _ _ _ (hB2.get 0 rfl)
  have z_G := hB2.lt 0 rfl
  by_cases hq : p.length = (gr bs 0).length
  rotate_left
  · have q : ((p.length : Int) != ((gr bs 0).length : Int)) = true := bneT (by omega)
    have qn : (p.length != (gr bs 0).length) = true := bneTn hq
    have HR := Lib.hid (HAR.out.trans (acc_len hq))
    clear hq
    have HE := Lib.hid hB2.below
    clear hB2
    go_wp2_with fail
    go_ret2
    exact ⟨ret_two (vbool HR.out.symm) (vint HCO.out.symm), HE.out⟩
  have q : ((p.length : Int) != ((gr bs 0).length : Int)) = false := bneF (by omega)
  have qn : (p.length != (gr bs 0).length) = false := bneFn hq
  have HPL := Lib.hid (show p.length = (gr bs 0).length ∧ p.length ≤ 10 ∧ 0 < p.length from ⟨hq, by have := HOK.out.n10; omega, by have := HOK.out.n0; omega⟩)
  clear hq
  go_wp2_with fail
  clear c_G z_G t0 tb q qn
  have HB4 := Lib.hid hB2
  clear hB2
  go_loopw [8] (fun a wr => ∃ k : Nat, k ≤ p.length ∧ a = .int .i64 k ∧ (∀ j, j < k → badB (gR p j) = false) ∧ Bx w [(w.heap.size, gB (some ad) c bs)] wr) (fun a _ => p.length - (intOf a).toNat)
  case atStart => exact ⟨0, Nat.zero_le _, rfl, fun j hj => by omega, HB4.out⟩
  case round =>
    as_aux_lemma =>
    obtain ⟨k, hk, rfl, hall, hBr⟩ := hrel
    have HA := Lib.hid hall
    clear HB4 hall
    by_cases hlt : k < p.length
    · obtain ⟨bd, e2, bb, bc⟩ := HP.out.at_ hlt
      subst e2
      obtain ⟨f0, f1, f2⟩ := cell2 (bc.below bb hBr.below) hlt
      have f3 : wr.cell? ⟨(bd.add (k * 2)).block, (bd.add (k * 2)).off + 1, none⟩ = some (.int .i64 (gR p k).d) := f1
      have HF := Lib.hid (fun (W : World) (hW : Below w.heap.size w W) => cell2 (bc.below bb hW) hlt)
      have z1 : (k : Int) < (p.length : Int) := by omega
      have z3 : (0 : Int) ≤ (k : Int) := by omega
      have HY1 := Lib.hid (show IntKind.i64.wrap ((k : Int) + 1) = (k : Int) + 1 ∧ wrap64 ((k : Int) + 1) = (k : Int) + 1 from ⟨IntWalk.i64_in _ (by have := HPL.out; omega), IntWalk.wrap64_in _ (by have := HPL.out; omega)⟩)
      have HK := Lib.hid (fun (W : World) => fcheck_any (gR p k) (HP.out.wf k hlt) W)
      have HME := Lib.hid (And.intro (Nat.succ_le_of_lt hlt) (Nat.sub_lt_sub_left hlt (Nat.lt_succ_self k)))
      have HLT := Lib.hid hlt
      clear hk hlt bb bc
      by_cases hc : (gR p k).code = 0
      rotate_left
      · have HR := Lib.hid (HAR.out.trans (acc_bad (price_false HLT.out (show badB (gR p k) = true by unfold badB; simp [hc]))))
        have q : ((gR p k).code != 0) = true := bneT hc
        generalize (gR p k).code = cc at *
        clear hc
        go_wp2_with fail
        refine (HK.out _).mono ?_
        rintro e w21 ⟨rfl, hb⟩
        have hB21 := hBr.next hb
        clear hb hBr
        clear f0 f1 f2 f3
        have HE := Lib.hid hB21.below
        clear hB21
        go_wp2_with fail
        go_ret2
        exact ⟨ret_two (vbool HR.out.symm) (vint HCO.out.symm), HE.out⟩
      have HCZ := Lib.hid hc
      rw [hc] at HK
      clear hc
      go_wp2_with fail
      refine (HK.out _).mono ?_
      rintro e w21 ⟨rfl, hb⟩
      have hB21 := hBr.next hb
      clear hb hBr
      clear f0 f1 f2 f3 HK
      have f0 := (HF.out _ hB21.below).1
      by_cases h1 : (gR p k).n < 1
      · have q1 : decide ((gR p k).n < 1) = true := by simpa using h1
        have HR := Lib.hid (HAR.out.trans (acc_bad (price_false HLT.out (show badB (gR p k) = true by unfold badB; simp; omega))))
        clear h1
        have HE := Lib.hid hB21.below
        clear hB21
        go_wp2_with fail
        go_ret2
        exact ⟨ret_two (vbool HR.out.symm) (vint HCO.out.symm), HE.out⟩
      have q1 : decide ((gR p k).n < 1) = false := by simpa using h1
      have HS1 := Lib.hid (show badB (gR p k) = false by unfold badB; have := HCZ.out; simp; omega)
      have HS := Lib.hid (fun j (hj : j < k + 1) => show badB (gR p j) = false by
        by_cases e : j = k
        · subst e; exact HS1.out
        · exact HA.out j (by omega))
      have HZ := Lib.hid hB21
      clear h1 hB21
      have y1 := HY1.out.1
      have y1' := HY1.out.2
      go_wp2_with fail
      exact ⟨⟨k + 1, HME.out.1, by go_num, HS.out, HZ.out⟩, by simpa [intOf] using HME.out.2⟩
    obtain rfl : k = p.length := by omega
    have HPB := Lib.hid (anyq_none HA.out)
    have HB5 := Lib.hid hBr
    clear HA hBr hk hlt
    go_wp2_with fail
    go_loopw [9] (fun a wr => ∃ i : Nat, i ≤ 2 ∧ a = .int .i64 i ∧ (∀ j, j < i → acc1 bs p l j (gr bs 0).length = true) ∧ Bx w [(w.heap.size, gB (some ad) c bs)] wr) (fun a _ => 2 - (intOf a).toNat)
    case atStart => exact ⟨0, by omega, rfl, fun j hj => by omega, HB5.out⟩
    case round =>
      as_aux_lemma =>
      obtain ⟨i, hi, rfl, hall, hBs⟩ := hrel
      have HA := Lib.hid hall
      clear HB5 hall
      by_cases hlt : i < 2
      rotate_left
      · have HR := Lib.hid (HAR.out.trans (acc_all HVB.out HPL.out.1 HPB.out (fun j hj => HA.out j (by omega))))
        obtain rfl : i = 2 := by omega
        clear hlt hi
        have HE := Lib.hid hBs.below
        clear hBs
        go_wp2_with fail
        go_ret2
        exact ⟨ret_two (vbool HR.out.symm) (vint HCO.out.symm), HE.out⟩
      have HLL := Lib.hid (show l.length = (gr bs 0).length from (valid_ok HVB.out).1)
      have HIL := Lib.hid hlt
      have HIB := Lib.hid (show i < bs.length by have := H2.out; omega)
      have HPT := Lib.hid (fun (W : World) (hW : Below w.heap.size w W) => fparts_any l D e i (by omega) W (HL.out.next hW) (by have := HLL.out; have := HPL.out; omega))
      obtain ⟨ad', R, c', ea, ab, ac, l1, m1, ar⟩ := HG.out.rows.at_ HIB.out
      obtain rfl : ad = ad' := by simpa using ea
      have HRL := Lib.hid (show (gr bs i).length = (gr bs 0).length by
        match i, hlt with
        | 0, _ => rfl
        | 1, _ => exact HOK.out.lb)
      have HRV := Lib.hid (show ∀ g, g < (gr bs i).length → 0 ≤ gi (gr bs i) g ∧ gi (gr bs i) g ≤ 1000 by
        match i, hlt with
        | 0, _ => exact fun g hg => HOK.out.a0 g hg
        | 1, _ => exact fun g hg => HOK.out.b0 g (by have := HOK.out.lb; omega))
      have HRW := Lib.hid (fun (W : World) (hW : Below w.heap.size w W) => show W.cell? (ad.add i) = some (.slice R (gr bs i).length c') ∧ Ints W.heap.size W R (gr bs i) from ⟨(hW.cell (by rw [block_add]; exact ab)).trans ac, ar.next hW⟩)
      have HME := Lib.hid (And.intro (Nat.succ_le_of_lt hlt) (Nat.sub_lt_sub_left hlt (Nat.lt_succ_self i)))
      have z1 : (i : Int) < (bs.length : Int) := by have := HIB.out; omega
      have z3 : (0 : Int) ≤ (i : Int) := by omega
      have HY1 := Lib.hid (show IntKind.i64.wrap ((i : Int) + 1) = (i : Int) + 1 ∧ wrap64 ((i : Int) + 1) = (i : Int) + 1 from ⟨IntWalk.i64_in _ (by omega), IntWalk.wrap64_in _ (by omega)⟩)
      have HAC := Lib.hid (show acc1 bs p l i (gr bs 0).length = (paysB (gR p) (gR (plist i l)) p.length && buysB (gi (gr bs i)) (gR p) (gR (plist i l)) (gr bs i).length) by
        unfold acc1
        rw [HPL.out.1, HRL.out, paysB_congr (f := gR p) (f' := gR p) (h := gR (plist i l)) (h' := fun g => partR i (gR l g)) (fun k hk => ⟨rfl, plist_at (by have := HLL.out; omega)⟩), buysB_congr (V := gi (gr bs i)) (P := gR p) (l := gR (plist i l)) (l' := fun g => partR i (gR l g)) (fun k hk => plist_at (by have := HLL.out; omega))])
      have q2 : decide ((i : Int) < 2) = true := decide_eq_true (by omega)
      have HPLL := Lib.hid (plist_len i l)
      clear hlt hi ab ac ar ea l1 m1
      go_wp2_with fail
      refine Calls.mono (HPT.out _ hBs.below) ?_
      rintro e3 w61 ⟨A2, c2, rfl, hq, _, hb⟩
      have hB61 := hBs.next hb
      clear hb HPT
      clear hBs
      have HQ := Lib.hid hq
      have HPY := Lib.hid (fpays_any p B d (plist i l) A2 c2 _ (HP.out.next hB61.below) hq (by rw [HPLL.out, HLL.out, HPL.out.1]))
      have HBY := Lib.hid (fun (W : World) (hW : Below w61.heap.size w61 W) => fbuys_any (gr bs i) R c' p B d (plist i l) A2 c2 W ((HRW.out _ hB61.below).2.next hW) ((HP.out.next hB61.below).next hW) (hq.next hW) (fun g hg => by have := HRV.out g hg; omega) (by rw [HPL.out.1, HRL.out]) (by rw [HPLL.out, HLL.out, HRL.out]) (by rw [HRL.out, ← HPL.out.1]; have := HPL.out; omega))
      have hpy := HPY.out
      rw [HPLL.out] at hpy HBY
      clear hq HPY
      generalize plist (i : Int) l = pl at *
      generalize paysB (gR p) (gR pl) p.length = py at *
      generalize buysB (gi (gr bs i)) (gR p) (gR pl) (gr bs i).length = bys at *
      go_wp2_with fail
      refine hpy.mono ?_
      rintro e4 w62 ⟨rfl, hb⟩
      have hby := HBY.out _ hb
      have hB62 := hB61.next hb
      clear hb hpy HBY
      clear hB61
      cases py with
      | false =>
        have HR := Lib.hid (HAR.out.trans (acc_one HIL.out (by rw [HAC.out]; rfl)))
        clear hby
        have HE := Lib.hid hB62.below
        clear hB62
        go_wp2_with fail
        go_ret2
        exact ⟨ret_two (vbool HR.out.symm) (vint HCO.out.symm), HE.out⟩
      | true =>
      have t0 := (HRW.out _ hB62.below).1
      have c_G := fun j => cell_of_row _ _ j _ _ _ (hB62.get 0 rfl)
      have z_G := hB62.lt 0 rfl
      go_wp2_with fail
      refine hby.mono ?_
      rintro e5 w63 ⟨rfl, hb⟩
      have hB63 := hB62.next hb
      clear hb hby t0
      clear c_G z_G hB62
      cases bys with
      | false =>
        have HR := Lib.hid (HAR.out.trans (acc_one HIL.out (by rw [HAC.out]; rfl)))
        have HE := Lib.hid hB63.below
        clear hB63
        go_wp2_with fail
        go_ret2
        exact ⟨ret_two (vbool HR.out.symm) (vint HCO.out.symm), HE.out⟩
      | true =>
      have HS := Lib.hid (fun j (hj : j < i + 1) => show acc1 bs p l j (gr bs 0).length = true by
        by_cases e : j = i
        · subst e; rw [HAC.out]; rfl
        · exact HA.out j (by omega))
      have HZ := Lib.hid hB63
      clear hB63
      have y1 := HY1.out.1
      have y1' := HY1.out.2
      go_wp2_with fail
      exact ⟨⟨i + 1, HME.out.1, by go_num, HS.out, HZ.out⟩, by simpa [intOf] using HME.out.2⟩
end Go.Proofs.Ytpijllobpohpgaa

namespace Go.Proofs.Ytpijllobpohpgaa
open Go.RowKit Go.Deep
set_option linter.unusedVariables false
set_option linter.unusedSimpArgs false

theorem field0_run (r : Rt) (w : World) : Sem.run Try.prog (Instr.field 36 (rV r) 0) w = .ok (.int .i64 r.n) w := by
  have hu := run_underlying (P := Try.prog) Try.underlying36
  simp [Instr.field, hu, go_sem]
  rfl
set_option maxRecDepth 100000 in
set_option maxHeartbeats 32000000 in
theorem maccept_any (bs : List (List Int)) (A : Option Addr) (c : Nat) (p : List Rt) (B : Option Addr) (d : Nat) (l : List Rt) (D : Option Addr) (e : Nat) (w : World) (h : GIn w.heap.size w A c bs) (hp : QIn w.heap.size w B d p) (hl : QIn w.heap.size w D e l) :
    Calls Try.prog 13 #[gV A c bs, .slice B p.length d, .slice D l.length e] w fun e w' => e = .returned (.tuple #[.bool (accR bs p l), .int .i64 (mkCode bs)]) ∧ Below w.heap.size w w' := by
  have hB0 : Bx w [(w.heap.size + 1, (.cells #[.slice B p.length d] 27)), (w.heap.size, gB A c bs)] ((w.alloc (gB A c bs)).alloc (.cells #[.slice B p.length d] 27)) := ((Bx.start w).new rfl _).new (by simp) _
  have HC := Lib.hid (fun (W : World) (hW : Below w.heap.size w W) => mcheck_any bs A c W (h.next hW))
  have HG := Lib.hid h
  have HP := Lib.hid hp
  have HL := Lib.hid hl
  clear h hp hl
  go_enter Try.func13, Try.ntmps13
  try dsimp only [List.append]
  go_upto_region 1 with fail
  generalize hw0 : (w.alloc (gB A c bs)).alloc (.cells #[.slice B p.length d] 27) = w0 at *
  clear hw0
  generalize w.heap.size + 1 = gP at *
  have c_G := fun j => cell_of_row _ _ j _ _ _ (hB0.get 1 rfl)
  have z_G := hB0.lt 1 rfl
  by_cases hc : mkCode bs = 0
  rotate_left
  · have HR := Lib.hid (acc_code (p := p) (l := l) hc)
    have q : (mkCode bs != 0) = true := bneT hc
    obtain ⟨code, hco⟩ : ∃ x, x = mkCode bs := ⟨_, rfl⟩
    have HCO := Lib.hid hco.symm
    rw [← hco] at HC q
    clear hc hco
    go_wp2_with fail
    refine (HC.out _ hB0.below).mono ?_
    rintro e w1 ⟨rfl, hb⟩
    have hB1 := hB0.next hb
    clear c_G z_G hb hB0
    have HE := Lib.hid hB1.below
    clear hB1
    go_wp2_with fail
    go_ret2
    exact ⟨ret_two (vbool HR.out.symm) (vint HCO.out.symm), HE.out⟩
  have q : (mkCode bs != 0) = false := bneF hc
  have HCO := Lib.hid hc
  have HAR := Lib.hid (acc_ok (p := p) (l := l) hc)
  obtain ⟨h2, hok⟩ := mk_ok hc
  have HOK := Lib.hid hok
  have HV := Lib.hid (fun (W : World) (hW : Below w.heap.size w W) => ishares_any bs A c l D e W (HG.out.next hW) h2 (HL.out.next hW))
  have HPC := Lib.hid (fun (W : World) (hW : Below w.heap.size w W) => contains_badp p B d W (HP.out.next hW))
  have H2 := Lib.hid h2
  rw [hc] at HC q
  clear hc h2 hok
  go_wp2_with fail
  refine (HC.out _ hB0.below).mono ?_
  rintro e w1 ⟨rfl, hb⟩
  have hB1 := hB0.next hb
  clear c_G z_G hb hB0
  clear HC q
  have c_G := fun j => cell_of_row _ _ j _ _ _ (hB1.get 1 rfl)
  have z_G := hB1.lt 1 rfl
  go_wp2_with fail
  refine (HV.out _ hB1.below).mono ?_
  rintro e w2 ⟨rfl, hb⟩
  have hB2 := hB1.next hb
  clear c_G z_G hb hB1
  clear HV
  cases hvb : validB (gr bs 0).length l with
  | false =>
    have HR := Lib.hid (HAR.out.trans (acc_valid hvb))
    clear hvb
    have HE := Lib.hid hB2.below
    clear hB2
    go_wp2_with fail
    go_ret2
    exact ⟨ret_two (vbool HR.out.symm) (vint HCO.out.symm), HE.out⟩
  | true =>
  have HVB := Lib.hid hvb
  have HLL := Lib.hid (valid_ok hvb).1
  clear hvb
  have c_P := fun j => cell_of_row _ _ j _ _ _ (hB2.get 0 rfl)
  have z_P := hB2.lt 0 rfl
  by_cases hq : p.length = l.length
  rotate_left
  · have q : ((p.length : Int) != (l.length : Int)) = true := bneT (by omega)
    have qn : (p.length != l.length) = true := bneTn hq
    have HR := Lib.hid (HAR.out.trans (acc_len (by rw [← HLL.out]; exact hq)))
    clear hq
    have HE := Lib.hid hB2.below
    clear hB2
    go_wp2_with fail
    go_ret2
    exact ⟨ret_two (vbool HR.out.symm) (vint HCO.out.symm), HE.out⟩
  have q : ((p.length : Int) != (l.length : Int)) = false := bneF (by omega)
  have qn : (p.length != l.length) = false := bneFn hq
  have HPL := Lib.hid (show p.length = l.length ∧ l.length = (gr bs 0).length ∧ l.length ≤ 10 ∧ 0 < l.length from ⟨hq, HLL.out, by have := HLL.out; have := HOK.out.n10; omega, by have := HLL.out; have := HOK.out.n0; omega⟩)
  clear hq
  go_wp2_with fail
  refine (HPC.out _ hB2.below).mono ?_
  rintro e w3 ⟨rfl, hb⟩
  have hB3 := hB2.next hb
  clear c_P z_P hb hB2
  clear HPC q qn
  cases hpb : p.any badB with
  | true =>
    have HR := Lib.hid (HAR.out.trans (acc_bad hpb))
    clear hpb
    have HE := Lib.hid hB3.below
    clear hB3
    go_wp2_with fail
    go_ret2
    exact ⟨ret_two (vbool HR.out.symm) (vint HCO.out.symm), HE.out⟩
  | false =>
  have HPB := Lib.hid hpb
  clear hpb
  obtain ⟨ad, _, _, _, _, ea, _⟩ := HG.out.two H2.out
  subst ea
  have c_G := fun j => cell_of_row _ _ j _ _ _ (hB3.get 1 rfl)
  have z_G := hB3.lt 1 rfl
  go_wp2_with fail
  clear c_G z_G
  have HB4 := Lib.hid hB3
  clear hB3
  go_loopw [41] (fun a wr => ∃ i : Nat, i ≤ 2 ∧ a = .int .i64 i ∧ (∀ j, j < i → acc1 bs p l j (gr bs 0).length = true) ∧ Bx w [(gP, (.cells #[.slice B p.length d] 27)), (w.heap.size, gB (some ad) c bs)] wr) (fun a _ => 2 - (intOf a).toNat)
  case atStart => exact ⟨0, by omega, rfl, fun j hj => by omega, HB4.out⟩
  case round =>
    as_aux_lemma =>
    obtain ⟨i, hi, rfl, hall, hBs⟩ := hrel
    have HA := Lib.hid hall
    clear HB4 hall
    have HBL := Lib.hid (show (bs.length : Int) = 2 by have := H2.out; omega)
    by_cases hlt : i < 2
    rotate_left
    · have HR := Lib.hid (HAR.out.trans (acc_all HVB.out (by rw [HPL.out.1, HLL.out]) HPB.out (fun j hj => HA.out j (by omega))))
      have q0 : decide ((i : Int) < (bs.length : Int)) = false := decide_eq_false (by have := H2.out; omega)
      have q0n : decide (i < bs.length) = false := decide_eq_false (by have := H2.out; omega)
      clear hlt hi
      have HE := Lib.hid hBs.below
      clear hBs
      go_wp2_with fail
      go_ret2
      exact ⟨ret_two (vbool HR.out.symm) (vint HCO.out.symm), HE.out⟩
    have HIL := Lib.hid hlt
    have HIB := Lib.hid (show i < bs.length by have := H2.out; omega)
    have q0 : decide ((i : Int) < (bs.length : Int)) = true := decide_eq_true (by have := H2.out; omega)
    have q0n : decide (i < bs.length) = true := decide_eq_true HIB.out
    obtain ⟨ad', R, c', ea, ab, ac, l1, m1, ar⟩ := HG.out.rows.at_ HIB.out
    obtain rfl : ad = ad' := by simpa using ea
    have HRL := Lib.hid (show (gr bs i).length = l.length by
      match i, hlt with
      | 0, _ => exact HLL.out.symm
      | 1, _ => exact HOK.out.lb.trans HLL.out.symm)
    have HRV := Lib.hid (show ∀ g, g < (gr bs i).length → -9223372036854775808 ≤ gi (gr bs i) g ∧ gi (gr bs i) g ≤ 9223372036854775807 by
      match i, hlt with
      | 0, _ => exact fun g hg => by have := HOK.out.a0 g hg; omega
      | 1, _ => exact fun g hg => by have := HOK.out.b0 g (by have := HOK.out.lb; omega); omega)
    have HRW := Lib.hid (fun (W : World) (hW : Below w.heap.size w W) => show W.cell? (ad.add i) = some (.slice R (gr bs i).length c') ∧ Ints W.heap.size W R (gr bs i) from ⟨(hW.cell (by rw [block_add]; exact ab)).trans ac, ar.next hW⟩)
    have HME := Lib.hid (And.intro (Nat.succ_le_of_lt hlt) (Nat.sub_lt_sub_left hlt (Nat.lt_succ_self i)))
    have z1 : (i : Int) < (bs.length : Int) := by have := HIB.out; omega
    have z3 : (0 : Int) ≤ (i : Int) := by omega
    have HY1 := Lib.hid (show IntKind.i64.wrap ((i : Int) + 1) = (i : Int) + 1 ∧ wrap64 ((i : Int) + 1) = (i : Int) + 1 from ⟨IntWalk.i64_in _ (by omega), IntWalk.wrap64_in _ (by omega)⟩)
    have HTP := Lib.hid (fun (W : World) (hb : Below w.heap.size w W) (hP : W.heap[gP]? = some (.cells #[.slice B p.length d] 27)) => total_price l D e i (gR p) (.pointer (some ⟨gP, 0, none⟩)) W (HL.out.next hb) (fun g hg => HP.out.wf g (by rw [HPL.out.1]; exact hg)) (Lib.hid fun g W' hg hb' => pricec_any p B d g gP W' ((HP.out.next hb).next hb') (by rw [HPL.out.1]; exact hg) (heap_ext hP hb')))
    have HAC := Lib.hid (show acc1 bs p l i (gr bs 0).length = (paysB (gR p) (fun g => partR i (gR l g)) l.length && buysB (gi (gr bs i)) (gR p) (fun g => partR i (gR l g)) l.length) by unfold acc1; rw [← HLL.out])
    have t0 := (HRW.out _ hBs.below).1
    clear hlt hi ab ac ar ea l1 m1
    have c_P := fun j => cell_of_row _ _ j _ _ _ (hBs.get 0 rfl)
    have z_P := hBs.lt 0 rfl
    have c_G := fun j => cell_of_row _ _ j _ _ _ (hBs.get 1 rfl)
    have z_G := hBs.lt 1 rfl
    go_wp2_with fail
    refine Calls.mono (HTP.out _ hBs.below (hBs.get 0 rfl)) ?_
    rintro e3 w61 ⟨t, rfl, ht, hb⟩
    have hB61 := hBs.next hb
    clear hb HTP t0
    clear c_P z_P c_G z_G hBs
    go_upto_region 11 with fail
    have hB62 := hB61.new rfl (rB t)
    clear hB61
    generalize w61.heap.size = gD at *
    generalize w61.alloc _ = w62 at *
    cases hts : totS (gR p) (fun g => partR i (gR l g)) l.length with
    | none =>
      have HR := Lib.hid (HAR.out.trans (acc_one HIL.out (by rw [HAC.out]; unfold paysB; rw [hts]; rfl)))
      clear hts
      have c_pd := fun j => cell_of_row _ _ j _ _ _ (hB62.get 0 rfl)
      have z_pd := hB62.lt 0 rfl
      simp only [Option.isSome_none]
      go_wp2_with fail
      refine wp_region_ext (by kernel_rfl) (by kernel_rfl) ?_
      repeat (first | go_big_quiet_step ((first | (go_at_call 34; exact calls_ext (mwhole_any _ _)))) | quiet_step ((first | (go_at_call 34; exact calls_ext (mwhole_any _ _)))))
      refine wpQuiet_nil ?_
      rintro wg1 ⟨⟨_, hb⟩, rfl⟩
      have hB63 := hB62.next hb
      clear c_pd z_pd hb hB62
      have HE := Lib.hid hB63.below
      clear hB63
      go_wp2_with fail
      go_ret2
      exact ⟨ret_two (vbool HR.out.symm) (vint HCO.out.symm), HE.out⟩
    | some t2 =>
    rw [hts] at ht
    obtain rfl : t = t2 := ht t2 rfl
    simp only [Option.isSome_some]
    have HPY := Lib.hid (show paysB (gR p) (fun g => partR i (gR l g)) l.length = decide (t = ⟨1, 1⟩) by unfold paysB; rw [hts])
    clear hts ht
    have c_pd := fun j => cell_of_row _ _ j _ _ _ (hB62.get 0 rfl)
    have z_pd := hB62.lt 0 rfl
    by_cases et : t = ⟨1, 1⟩
    rotate_left
    · rw [decide_eq_false et] at HPY
      by_cases q1 : t.n = 1
      · have p1 : (t.n == 1) = true := beqT q1
        have p2 : (t.d == 1) = false := beqF (fun q2 => et (Rt.ext_ q1 q2))
        clear q1 et
        go_wp2_with fail
        refine wp_region_ext (by kernel_rfl) (by kernel_rfl) ?_
        repeat (first | go_big_quiet_step ((first | (go_at_call 34; exact calls_ext (mwhole_any _ _)))) | quiet_step ((first | (go_at_call 34; exact calls_ext (mwhole_any _ _)))))
        refine wpQuiet_nil ?_
        rintro wg2 ⟨⟨_, hb⟩, rfl⟩
        have hB63 := hB62.next hb
        clear c_pd z_pd hb hB62
        have HR := Lib.hid (HAR.out.trans (acc_one HIL.out (by rw [HAC.out, HPY.out]; rfl)))
        have HE := Lib.hid hB63.below
        clear hB63
        go_wp2_with fail
        go_ret2
        exact ⟨ret_two (vbool HR.out.symm) (vint HCO.out.symm), HE.out⟩
      have p1 : (t.n == 1) = false := beqF q1
      clear q1 et
      go_wp2_with fail
      refine wp_region_ext (by kernel_rfl) (by kernel_rfl) ?_
      repeat (first | go_big_quiet_step ((first | (go_at_call 34; exact calls_ext (mwhole_any _ _)))) | quiet_step ((first | (go_at_call 34; exact calls_ext (mwhole_any _ _)))))
      refine wpQuiet_nil ?_
      rintro wg3 ⟨⟨_, hb⟩, rfl⟩
      have hB63 := hB62.next hb
      clear c_pd z_pd hb hB62
      have HR := Lib.hid (HAR.out.trans (acc_one HIL.out (by rw [HAC.out, HPY.out]; rfl)))
      have HE := Lib.hid hB63.below
      clear hB63
      go_wp2_with fail
      go_ret2
      exact ⟨ret_two (vbool HR.out.symm) (vint HCO.out.symm), HE.out⟩
    rw [decide_eq_true et] at HPY
    subst et
    have p1 : ((1 : Int) == 1) = true := rfl
    go_wp2_with fail
    refine wp_region_ext (by kernel_rfl) (by kernel_rfl) ?_
    repeat (first | go_big_quiet_step ((first | (go_at_call 34; exact calls_ext (mwhole_any _ _)))) | quiet_step ((first | (go_at_call 34; exact calls_ext (mwhole_any _ _)))))
    refine wpQuiet_nil ?_
    rintro wg4 ⟨⟨_, hb⟩, rfl⟩
    have hB63 := hB62.next hb
    clear c_pd z_pd hb hB62
    clear p1
    go_wp2_with fail
    have HB6 := Lib.hid hB63
    clear hB63
    go_loopw [62] (fun a wr => ∃ k : Nat, k ≤ l.length ∧ a = .int .i64 k ∧ (∀ g, g < k → ∀ h, h < l.length → 0 < (partR i (gR l g)).n → betB (gi (gr bs i)) (gR p) h g = false) ∧ Bx w [(gD, rB ⟨1, 1⟩), (gP, (.cells #[.slice B p.length d] 27)), (w.heap.size, gB (some ad) c bs)] wr) (fun a _ => l.length - (intOf a).toNat)
    case atStart => exact ⟨0, Nat.zero_le _, rfl, fun g hg => by omega, HB6.out⟩
    case round =>
      as_aux_lemma =>
      obtain ⟨k, hk, rfl, hall, hBg⟩ := hrel
      have HK := Lib.hid hall
      clear HB6 hall
      by_cases hlt : k < l.length
      rotate_left
      · obtain rfl : k = l.length := by omega
        have HAI := Lib.hid (show acc1 bs p l i (gr bs 0).length = true by rw [HAC.out, HPY.out, buys_iff.2 HK.out]; rfl)
        have HS := Lib.hid (fun j (hj : j < i + 1) => show acc1 bs p l j (gr bs 0).length = true by
          by_cases e : j = i
          · subst e; exact HAI.out
          · exact HA.out j (by omega))
        have HZ := Lib.hid hBg.drop
        clear hBg hlt hk
        have y1 := HY1.out.1
        have y1' := HY1.out.2
        go_wp2_with fail
        exact ⟨⟨i + 1, HME.out.1, by go_num, HS.out, HZ.out⟩, by simpa [intOf] using HME.out.2⟩
      obtain ⟨dd, ed, db, dc⟩ := HL.out.at_ hlt
      subst ed
      obtain ⟨f0, f1, f2⟩ := cell2 (dc.below db hBg.below) hlt
      have f3 : wr.cell? ⟨(dd.add (k * 2)).block, (dd.add (k * 2)).off + 1, none⟩ = some (.int .i64 (gR l k).d) := f1
      have x1 : (k : Int) < (l.length : Int) := by omega
      have x3 : (0 : Int) ≤ (k : Int) := by omega
      have HY2 := Lib.hid (show IntKind.i64.wrap ((k : Int) + 1) = (k : Int) + 1 ∧ wrap64 ((k : Int) + 1) = (k : Int) + 1 from ⟨IntWalk.i64_in _ (by have := HPL.out; omega), IntWalk.wrap64_in _ (by have := HPL.out; omega)⟩)
      have HKL := Lib.hid hlt
      have HMK := Lib.hid (And.intro (Nat.succ_le_of_lt hlt) (Nat.sub_lt_sub_left hlt (Nat.lt_succ_self k)))
      have HPT := Lib.hid (fun (W : World) => part_any (gR l k) (HL.out.wf k hlt) i W)
      have HO := Lib.hid (fun (h : ∀ j, j < l.length → 0 < (partR i (gR l k)).n → betB (gi (gr bs i)) (gR p) j k = false) => show ∀ g, g < k + 1 → ∀ h, h < l.length → 0 < (partR i (gR l g)).n → betB (gi (gr bs i)) (gR p) h g = false from fun g hg => by
        by_cases e : g = k
        · subst e; exact h
        · exact HK.out g (by omega))
      have HNO := Lib.hid (fun (j : Nat) (hj : j < l.length) (hp : 0 < (partR i (gR l k)).n) (hb : betB (gi (gr bs i)) (gR p) j k = true) => show acc1 bs p l i (gr bs 0).length = false by rw [HAC.out, HPY.out, buys_no hlt hj hp hb]; rfl)
      have HBT := Lib.hid (fun (j : Nat) (hj : j < l.length) (W : World) (hW : Below w.heap.size w W) => better_any (gr bs i) R c' p B d j k W (HRW.out _ hW).2 (HP.out.next hW) HRV.out (by rw [HRL.out]; exact hj) (by rw [HRL.out]; exact hlt) (by rw [HRL.out, HPL.out.1]))
      clear hk hlt dc db
      generalize gR l k = el at *
      generalize partR (i : Int) el = pe at *
      go_upto_region 16 with fail
      have hB91 := hBg.new rfl (rB el)
      clear hBg
      generalize wr.heap.size = gS at *
      generalize wr.alloc _ = w91 at *
      clear f0 f1 f2 f3
      go_wp2_with fail
      have HB7 := Lib.hid hB91
      clear hB91
      go_loopw [69] (fun a wr => ∃ j : Nat, j ≤ l.length ∧ a = .int .i64 j ∧ (∀ h, h < j → 0 < pe.n → betB (gi (gr bs i)) (gR p) h k = false) ∧ Bx w [(gS, rB el), (gD, rB ⟨1, 1⟩), (gP, (.cells #[.slice B p.length d] 27)), (w.heap.size, gB (some ad) c bs)] wr) (fun a _ => l.length - (intOf a).toNat)
      case atStart => exact ⟨0, Nat.zero_le _, rfl, fun g hg => by omega, HB7.out⟩
      case round =>
        as_aux_lemma =>
        obtain ⟨j, hj, rfl, hall, hBt⟩ := hrel
        have HJ := Lib.hid hall
        clear HB7 hall
        by_cases hlt : j < l.length
        rotate_left
        · obtain rfl : j = l.length := by omega
          have HS := Lib.hid (HO.out (fun h hh hp => HJ.out h hh hp))
          have HZ := Lib.hid hBt.drop
          clear hBt hlt hj
          have y2 := HY2.out.1
          have y2' := HY2.out.2
          go_wp2_with fail
          exact ⟨⟨k + 1, HMK.out.1, by go_num, HS.out, HZ.out⟩, by simpa [intOf] using HMK.out.2⟩
        have v1 : (j : Int) < (l.length : Int) := by omega
        have v3 : (0 : Int) ≤ (j : Int) := by omega
        have HY3 := Lib.hid (show IntKind.i64.wrap ((j : Int) + 1) = (j : Int) + 1 ∧ wrap64 ((j : Int) + 1) = (j : Int) + 1 from ⟨IntWalk.i64_in _ (by have := HPL.out; omega), IntWalk.wrap64_in _ (by have := HPL.out; omega)⟩)
        have HJL := Lib.hid hlt
        have HMJ := Lib.hid (And.intro (Nat.succ_le_of_lt hlt) (Nat.sub_lt_sub_left hlt (Nat.lt_succ_self j)))
        have HBJ := Lib.hid (fun (W : World) (hW : Below w.heap.size w W) => HBT.out j hlt W hW)
        have HNJ := Lib.hid (fun hp hb => HNO.out j hlt hp hb)
        have HYJ := Lib.hid (fun (q : 0 < pe.n → betB (gi (gr bs i)) (gR p) j k = false) => show ∀ h, h < j + 1 → 0 < pe.n → betB (gi (gr bs i)) (gR p) h k = false from fun h hh => by
          by_cases e2 : h = j
          · subst e2; exact q
          · exact HJ.out h (by omega))
        clear hj hlt
        generalize betB (gi (gr bs i)) (gR p) j k = bb at *
        have c_s := fun j => cell_of_row _ _ j _ _ _ (hBt.get 0 rfl)
        have z_s := hBt.lt 0 rfl
        go_wp2_with fail
        refine (HPT.out _).mono ?_
        rintro e w121 ⟨rfl, hb⟩
        have hB121 := hBt.next hb
        clear c_s z_s hb hBt
        have hfd := field0_run pe
        by_cases hp : 0 < pe.n
        rotate_left
        · have q1 : decide (0 < pe.n) = false := decide_eq_false hp
          have HS := Lib.hid (HYJ.out (fun q => absurd q hp))
          clear hp
          have HZ := Lib.hid hB121
          clear hB121
          have y3 := HY3.out.1
          have y3' := HY3.out.2
          go_wp2_with fail
          exact ⟨⟨j + 1, HMJ.out.1, by go_num, HS.out, HZ.out⟩, by simpa [intOf] using HMJ.out.2⟩
        have q1 : decide (0 < pe.n) = true := decide_eq_true hp
        have HPP := Lib.hid hp
        clear hp
        have c_P := fun j => cell_of_row _ _ j _ _ _ (hB121.get 2 rfl)
        have z_P := hB121.lt 2 rfl
        go_wp2_with fail
        refine (HBJ.out _ hB121.below).mono ?_
        rintro e w122 ⟨rfl, hb⟩
        have hB122 := hB121.next hb
        clear c_P z_P hb hB121
        cases bb with
        | true =>
          have HR := Lib.hid (HAR.out.trans (acc_one HIL.out (HNJ.out HPP.out rfl)))
          have HE := Lib.hid hB122.below
          clear hB122
          go_wp2_with fail
          go_ret2
          exact ⟨ret_two (vbool HR.out.symm) (vint HCO.out.symm), HE.out⟩
        | false =>
          have HS := Lib.hid (HYJ.out (fun _ => rfl))
          have HZ := Lib.hid hB122
          clear hB122
          have y3 := HY3.out.1
          have y3' := HY3.out.2
          go_wp2_with fail
          exact ⟨⟨j + 1, HMJ.out.1, by go_num, HS.out, HZ.out⟩, by simpa [intOf] using HMJ.out.2⟩
end Go.Proofs.Ytpijllobpohpgaa
