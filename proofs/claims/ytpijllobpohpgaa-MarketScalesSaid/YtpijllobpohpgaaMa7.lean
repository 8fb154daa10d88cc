/- What shares are worth is in range. No program in sight. -/
import Derived.Test.YtpijllobpohpgaaMa4
import Derived.Test.YtpijllobpohpgaaMa5
import Derived.Test.YtpijllobpohpgaaMa6
namespace Go.Proofs.Ytpijllobpohpgaa
set_option linter.unusedVariables false
set_option linter.unusedSimpArgs false

theorem divInt_add' {x y D : Int} (hD : D ≠ 0) : Rat.divInt x D + Rat.divInt y D = Rat.divInt (x + y) D := by
  rw [Rat.divInt_add_divInt _ _ hD hD, ← Int.add_mul, Rat.divInt_mul_right hD]
theorem sumQ_frac (x : Nat → Int) {D : Int} (hD : D ≠ 0) : ∀ k, sumQ (fun g => Rat.divInt (x g) D) k = Rat.divInt (sumTo x k) D
  | 0 => by simp [sumQ, sumTo]
  | k + 1 => by rw [sumQ, sumQ_frac x hD k, divInt_add' hD]; rfl
theorem int_mul_frac {a x D : Int} : (a : Rat) * Rat.divInt x D = Rat.divInt (a * x) D := by
  rw [Rat.divInt_eq_div, Rat.divInt_eq_div, Rat.intCast_mul]; grind
theorem one_sub_frac {x D : Int} (hD : 0 < D) : 1 - Rat.divInt x D = Rat.divInt (D - x) D := by
  have p := cast_pos hD
  rw [Rat.divInt_eq_div, Rat.divInt_eq_div, Rat.intCast_sub]
  refine eq_of_mul_r (c := (D : Rat)) ?_ p
  have e1 : (x : Rat) / (D : Rat) * (D : Rat) = (x : Rat) := div_mul_ p
  have e2 : ((D : Rat) - (x : Rat)) / (D : Rat) * (D : Rat) = (D : Rat) - (x : Rat) := div_mul_ p
  rw [e2]
  have e3 : (1 - (x : Rat) / (D : Rat)) * (D : Rat) = (D : Rat) - (x : Rat) / (D : Rat) * (D : Rat) := by grind
  rw [e3, e1]
theorem whole_ok {n : Int} (h0 : -1000000000000000000 ≤ n) (h1 : n ≤ 1000000000000000000) : Rt.Ok ⟨n, 1⟩ := by
  refine ⟨?_, ?_, ?_, ?_, ?_⟩ <;> (try simp only) <;> first | omega | (unfold gcdI; simp)
theorem whole_q (n : Int) : (Rt.mk n 1).q = (n : Rat) := by unfold Rt.q; exact Rat.num_divInt_den (n : Rat)
/-- The part of an agent, as a number. -/
def pq (i : Nat) (q : Rat) : Rat := if i = 0 then q else 1 - q
theorem part_ok {s : Rt} (h : s.Ok) (h0 : 0 ≤ s.n) (h1 : s.n ≤ s.d) (i : Nat) : (partR i s).Ok ∧ (partR i s).q = pq i s.q := by
  unfold partR pq
  by_cases e : i = 0
  · subst e; simp only [Int.natCast_zero, if_true]; exact ⟨h, trivial⟩
  · rw [if_neg (by omega), if_neg e]
    have d0 := h.d0; have d1 := h.d1
    have q1 : Rt.q ⟨1, 1⟩ - s.q = Rat.divInt (s.d - s.n) s.d := by rw [q_one]; exact one_sub_frac (by omega)
    have i : inR (Rt.q ⟨1, 1⟩ - s.q) := by rw [q1]; exact inR_frac (by omega) (by omega) (by omega) (by omega)
    have k := sub_in ok_one h i
    rw [k.2]
    exact ⟨mkR_ok i, by rw [q_mkR i, q_one]⟩
/-- Shares of which one at most is divided: all over one denominator. -/
structure Grid (n : Nat) (q : Nat → Rat) (D : Int) (x : Nat → Int) : Prop where
  d0 : 0 < D
  d1 : D ≤ 2000000
  x0 : ∀ g, g < n → 0 ≤ x g
  x1 : ∀ g, g < n → x g ≤ D
  eq : ∀ g, g < n → q g = Rat.divInt (x g) D
theorem sum_one {f : Nat → Int} {n g h : Nat} (h0 : ∀ i, i < n → 0 ≤ f i) (hg : g < n) (hh : h < n) (hne : g ≠ h) : f g + f h ≤ sumTo f n := by
  induction n with
  | zero => omega
  | succ n ih =>
    rw [sumTo]
    by_cases eg : g = n
    · subst eg; have := sum_ge (f := f) (i := h) (n := g) (fun j hj => h0 j (by omega)) (by omega); omega
    · by_cases eh : h = n
      · subst eh; have := sum_ge (f := f) (i := g) (n := h) (fun j hj => h0 j (by omega)) (by omega); omega
      · have := ih (fun i hi => h0 i (by omega)) (by omega) (by omega); have := h0 n (by omega); omega
theorem plain_ok {l : List Rt} (h : plainB l = true) : (∀ g, g < l.length → (gR l g).d ≤ 2000000) ∧ sumTo (divB l) l.length ≤ 1 := by
  unfold plainB at h
  rw [Bool.and_eq_true, decide_eq_true_eq, List.all_eq_true] at h
  exact ⟨fun g hg => by have := h.1 _ (gR_mem hg); simpa using this, h.2⟩
theorem grid {n : Nat} {l : List Rt} (hv : validB n l = true) (hp : plainB l = true) : ∃ D x, Grid n (fun g => (gR l g).q) D x := by
  obtain ⟨hl, hs⟩ := valid_ok hv
  obtain ⟨p1, p2⟩ := plain_ok hp
  by_cases c : ∃ g, g < n ∧ 1 < (gR l g).d
  · obtain ⟨g0, hg0, hd⟩ := c
    have oth : ∀ g, g < n → g ≠ g0 → (gR l g).d = 1 := fun g hg hne => by
      have d0 := (hs g hg).1.d0
      rcases Int.lt_or_le 1 (gR l g).d with q | q
      · exfalso
        have := sum_one (f := divB l) (n := l.length) (fun i _ => by unfold divB; split <;> omega) (show g < l.length by omega) (show g0 < l.length by omega) hne
        have e1 : divB l g = 1 := by unfold divB; rw [if_pos q]
        have e2 : divB l g0 = 1 := by unfold divB; rw [if_pos hd]
        omega
      · omega
    refine ⟨(gR l g0).d, fun g => if g = g0 then (gR l g).n else (gR l g).n * (gR l g0).d, ⟨by omega, p1 g0 (by omega), fun g hg => ?_, fun g hg => ?_, fun g hg => ?_⟩⟩
    · have := (hs g hg).2.1
      show 0 ≤ (if g = g0 then (gR l g).n else (gR l g).n * (gR l g0).d)
      split
      · exact this
      · exact Int.mul_nonneg this (by omega)
    · show (if g = g0 then (gR l g).n else (gR l g).n * (gR l g0).d) ≤ (gR l g0).d
      split
      · rename_i e; subst e; exact (hs g hg).2.2
      · rename_i e
        have a := (hs g hg).2.1; have b := (hs g hg).2.2; rw [oth g hg e] at b
        rcases (show (gR l g).n = 0 ∨ (gR l g).n = 1 by omega) with z | z <;> rw [z] <;> omega
    · show (gR l g).q = Rat.divInt (if g = g0 then (gR l g).n else (gR l g).n * (gR l g0).d) (gR l g0).d
      split
      · rename_i e; subst e; rfl
      · rename_i e
        unfold Rt.q; rw [oth g hg e]
        have := Rat.divInt_mul_right (n := (gR l g).n) (d := 1) (a := (gR l g0).d) (by omega)
        rw [Int.one_mul] at this
        exact this.symm
  · refine ⟨1, fun g => (gR l g).n, ⟨by omega, by omega, fun g hg => (hs g hg).2.1, fun g hg => ?_, fun g hg => ?_⟩⟩
    · have := (hs g hg).2.2; have := (hs g hg).1.d0
      have : ¬ 1 < (gR l g).d := fun q => c ⟨g, hg, q⟩
      show (gR l g).n ≤ 1
      omega
    · have := (hs g hg).1.d0
      have : ¬ 1 < (gR l g).d := fun q => c ⟨g, hg, q⟩
      have e : (gR l g).d = 1 := by omega
      unfold Rt.q; rw [e]
/-- The part of an agent over the denominator. -/
def px (i : Nat) (D x : Int) : Int := if i = 0 then x else D - x
theorem Grid.part {n : Nat} {q : Nat → Rat} {D : Int} {x : Nat → Int} (h : Grid n q D x) (i : Nat) : Grid n (fun g => pq i (q g)) D (fun g => px i D (x g)) := by
  refine ⟨h.d0, h.d1, fun g hg => ?_, fun g hg => ?_, fun g hg => ?_⟩
  · have := h.x0 g hg; have := h.x1 g hg; show 0 ≤ px i D (x g); unfold px; split <;> omega
  · have := h.x0 g hg; have := h.x1 g hg; show px i D (x g) ≤ D; unfold px; split <;> omega
  · show pq i (q g) = Rat.divInt (px i D (x g)) D
    unfold pq px; split
    · exact h.eq g hg
    · rw [h.eq g hg]; exact one_sub_frac h.d0
/-- Sums of small numbers times parts are in range. -/
theorem Grid.sum {n : Nat} {q : Nat → Rat} {D : Int} {x : Nat → Int} (h : Grid n q D x) (hn : n ≤ 10) {V : Nat → Int} {M : Int} (hM : M ≤ 1000000000) (hV : ∀ g, g < n → 0 ≤ V g ∧ V g ≤ M) {k : Nat} (hk : k ≤ n) :
    sumQ (fun g => (V g : Rat) * q g) k = Rat.divInt (sumTo (fun g => V g * x g) k) D ∧ 0 ≤ sumTo (fun g => V g * x g) k ∧ sumTo (fun g => V g * x g) k ≤ 20000000000000000 := by
  have e : sumQ (fun g => (V g : Rat) * q g) k = sumQ (fun g => Rat.divInt (V g * x g) D) k := sumQ_congr fun g hg => by rw [h.eq g (by omega), int_mul_frac]
  have d0 := h.d0
  have b := sumTo_bd (f := fun g => V g * x g) (lo := 0) (hi := 2000000000000000) (k := k) (fun g hg => by
    have v := hV g (by omega)
    have := prod_le (p := 1000000000) (q := 2000000) v.1 (by omega) (h.x0 g (by omega)) (by have := h.x1 g (by omega); have := h.d1; omega)
    exact ⟨this.1, by omega⟩)
  exact ⟨by rw [e, sumQ_frac _ (by omega)], by omega, by omega⟩
theorem Grid.inr {n : Nat} {q : Nat → Rat} {D : Int} {x : Nat → Int} (h : Grid n q D x) (hn : n ≤ 10) {V : Nat → Int} {M : Int} (hM : M ≤ 1000000000) (hV : ∀ g, g < n → 0 ≤ V g ∧ V g ≤ M) {k : Nat} (hk : k ≤ n) : inR (sumQ (fun g => (V g : Rat) * q g) k) := by
  have s := h.sum hn hM hV hk
  have := h.d0; have := h.d1
  rw [s.1]; exact inR_frac (by omega) (by omega) (by omega) (by omega)
theorem row_bd {bs : List (List Int)} (h : mkCode bs = 0) {i : Nat} (hi : i < 2) : (gr bs i).length = (gr bs 0).length ∧ ∀ g, g < (gr bs 0).length → 0 ≤ gi (gr bs i) g ∧ gi (gr bs i) g ≤ 1000 := by
  obtain ⟨_, m⟩ := mk_ok h
  match i, hi with
  | 0, _ => exact ⟨rfl, m.a0⟩
  | 1, _ => exact ⟨m.lb, m.b0⟩
/-- The worth of shares. -/
theorem worth_some {bs : List (List Int)} {l : List Rt} (h : mkCode bs = 0) (hv : validB (gr bs 0).length l = true) (hp : plainB l = true) {i : Nat} (hi : i < 2) :
    worthS bs l i = some (mkR (sumQ (fun g => (gi (gr bs i) g : Rat) * pq i (gR l g).q) (gr bs 0).length)) ∧ inR (sumQ (fun g => (gi (gr bs i) g : Rat) * pq i (gR l g).q) (gr bs 0).length) := by
  obtain ⟨_, m⟩ := mk_ok h
  obtain ⟨hl, hs⟩ := valid_ok hv
  obtain ⟨D, x, G⟩ := grid hv hp
  have GP := G.part i
  have R := row_bd h hi
  have P := fun g (hg : g < (gr bs 0).length) => part_ok (hs g hg).1 (hs g hg).2.1 (hs g hg).2.2 i
  have e : ∀ k, k ≤ (gr bs 0).length → sumQ (fun k => Rt.q ⟨gi (gr bs i) k, 1⟩ * (partR i (gR l k)).q) k = sumQ (fun g => (gi (gr bs i) g : Rat) * pq i (gR l g).q) k := fun k hk => sumQ_congr fun g hg => by rw [whole_q, (P g (by omega)).2]
  have I := fun k (hk : k ≤ (gr bs 0).length) => GP.inr m.n10 (M := 1000) (by omega) R.2 hk
  refine ⟨?_, I _ (Nat.le_refl _)⟩
  unfold worthS
  rw [hl, totS_in (n := (gr bs 0).length) (fun k hk => ⟨whole_ok (by have := R.2 k hk; omega) (by have := R.2 k hk; omega), (P k hk).1, ?_⟩) (fun k hk => by rw [e k hk]; exact I k hk), e _ (Nat.le_refl _)]
  have v := R.2 k hk
  have d0 := GP.d0; have d1 := GP.d1
  have b := prod_le (p := 1000) (q := 2000000) v.1 v.2 (GP.x0 k hk) (by have := GP.x1 k hk; omega)
  rw [whole_q, (P k hk).2, show pq i (gR l k).q = Rat.divInt _ D from GP.eq k hk, int_mul_frac]
  exact inR_frac (by omega) (by omega) (by omega) (by omega)
/-- What Worth returns. -/
def worthC (bs : List (List Int)) (l : List Rt) (i : Int) : Int := if mkCode bs ≠ 0 then mkCode bs else if i ≠ 0 ∧ i ≠ 1 then 2 else if validB (gr bs 0).length l = true ∧ plainB l = true then 0 else 8
def worthR (bs : List (List Int)) (l : List Rt) (i : Int) : Rt := if worthC bs l i = 0 then (worthS bs l i.toNat).getD ⟨0, 0⟩ else ⟨0, 0⟩
theorem worthR_no {bs : List (List Int)} {l : List Rt} {i : Int} (h : worthC bs l i ≠ 0) : worthR bs l i = ⟨0, 0⟩ := by unfold worthR; rw [if_neg h]
theorem worthC_code {bs : List (List Int)} {l : List Rt} {i : Int} (h : mkCode bs ≠ 0) : worthC bs l i = mkCode bs := by unfold worthC; rw [if_pos h]
theorem worthC_arg {bs : List (List Int)} {l : List Rt} {i : Int} (h : mkCode bs = 0) (k : i ≠ 0 ∧ i ≠ 1) : worthC bs l i = 2 := by unfold worthC; rw [if_neg (by omega), if_pos k]
theorem worthC_bad {bs : List (List Int)} {l : List Rt} {i : Int} (h : mkCode bs = 0) (k : ¬ (i ≠ 0 ∧ i ≠ 1)) (q : ¬ (validB (gr bs 0).length l = true ∧ plainB l = true)) : worthC bs l i = 8 := by unfold worthC; rw [if_neg (by omega), if_neg k, if_neg q]
theorem worthC_ok {bs : List (List Int)} {l : List Rt} {i : Int} (h : mkCode bs = 0) (k : ¬ (i ≠ 0 ∧ i ≠ 1)) (q : validB (gr bs 0).length l = true ∧ plainB l = true) : worthC bs l i = 0 := by unfold worthC; rw [if_neg (by omega), if_neg k, if_pos q]
end Go.Proofs.Ytpijllobpohpgaa

namespace Go.Proofs.Ytpijllobpohpgaa
open Go.RowKit Go.Deep
set_option linter.unusedVariables false
set_option linter.unusedSimpArgs false

set_option maxRecDepth 100000 in
set_option maxHeartbeats 16000000 in
theorem mworthE_any (bs : List (List Int)) (A : Option Addr) (c : Nat) (l : List Rt) (D : Option Addr) (e : Nat) (i : Int) (w : World) (h : GIn w.heap.size w A c bs) (hl : QIn w.heap.size w D e l) :
    Calls Try.prog 18 #[gV A c bs, .slice D l.length e, .int .i64 i] w fun e w' => e = .returned (.tuple #[rV (worthR bs l i), .int .i64 (worthC bs l i)]) ∧ Below w.heap.size w w' := by
  have hB0 : Bx w [(w.heap.size + 1, rB ⟨0, 0⟩), (w.heap.size, gB A c bs)] ((w.alloc (gB A c bs)).alloc (rB ⟨0, 0⟩)) := ((Bx.start w).new rfl _).new (by simp) _
  have HC := Lib.hid (fun (W : World) (hW : Below w.heap.size w W) => mcheck_any bs A c W (h.next hW))
  have HG := Lib.hid h
  have HL := Lib.hid hl
  clear h hl
  go_enter Try.func18, Try.ntmps18
  go_upto_region 1 with fail
  generalize hw0 : (w.alloc (gB A c bs)).alloc (rB ⟨0, 0⟩) = w0 at *
  clear hw0
  generalize w.heap.size + 1 = gO at *
  have c_G := fun j => cell_of_row _ _ j _ _ _ (hB0.get 1 rfl)
  have z_G := hB0.lt 1 rfl
  by_cases hc : mkCode bs = 0
  rotate_left
  · have q : (mkCode bs != 0) = true := bneT hc
    have HR0 := worthC_code (bs := bs) (l := l) (i := i) hc
    obtain ⟨code, hco⟩ : ∃ x, x = mkCode bs := ⟨_, rfl⟩
    rw [← hco] at HC q HR0
    have HR := Lib.hid HR0
    have HNZ := Lib.hid (show code ≠ 0 by rw [hco]; exact hc)
    clear hc hco HR0
    go_wp2_with fail
    refine (HC.out _ hB0.below).mono ?_
    rintro e w1 ⟨rfl, hb⟩
    have hB1 := hB0.next hb
    clear c_G z_G hb hB0
    have c_o := fun j => cell_of_row _ _ j _ _ _ (hB1.get 0 rfl)
    have z_o := hB1.lt 0 rfl
    have f_o := fun j => frozen_of_row _ _ j _ _ (hB1.get 0 rfl)
    have HZ := Lib.hid (worthR_no (bs := bs) (l := l) (i := i) (by rw [HR.out]; exact HNZ.out))
    have HE := Lib.hid (hB1.put 0 rfl ⟨0, 0⟩).below
    clear hB1
    go_wp2_with fail
    refine bodyPost_ret (v := .tuple #[rV ⟨0, 0⟩, .int .i64 (code)]) (by simp [results, Try.results18, go_sem, c_o, f_o, z_o]) rfl ⟨by rw [HZ.out, HR.out], HE.out⟩
  have q : (mkCode bs != 0) = false := bneF hc
  have HCO := Lib.hid hc
  obtain ⟨h2, hok⟩ := mk_ok hc
  have HOK := Lib.hid hok
  have H2 := Lib.hid h2
  rw [hc] at HC q
  clear hc h2 hok
  go_wp2_with fail
  refine (HC.out _ hB0.below).mono ?_
  rintro e w1 ⟨rfl, hb⟩
  have hB1 := hB0.next hb
  clear c_G z_G hb hB0
  clear HC q
  by_cases hi : i ≠ 0 ∧ i ≠ 1
  · have q1 : (i != 0) = true := bneT hi.1
    have q2 : (i != 1) = true := bneT hi.2
    have HR := Lib.hid (worthC_arg (l := l) HCO.out hi)
    have HNZ := Lib.hid (show (2 : Int) ≠ 0 by decide)
    clear hi
    have c_o := fun j => cell_of_row _ _ j _ _ _ (hB1.get 0 rfl)
    have z_o := hB1.lt 0 rfl
    have f_o := fun j => frozen_of_row _ _ j _ _ (hB1.get 0 rfl)
    have HZ := Lib.hid (worthR_no (bs := bs) (l := l) (i := i) (by rw [HR.out]; exact HNZ.out))
    have HE := Lib.hid (hB1.put 0 rfl ⟨0, 0⟩).below
    clear hB1
    go_wp2_with fail
    refine bodyPost_ret (v := .tuple #[rV ⟨0, 0⟩, .int .i64 (2)]) (by simp [results, Try.results18, go_sem, c_o, f_o, z_o]) rfl ⟨by rw [HZ.out, HR.out], HE.out⟩
  have HI := Lib.hid hi
  have HI2 := Lib.hid (show i = 0 ∨ i = 1 by
    rcases Classical.em (i = 0) with q | q
    · exact Or.inl q
    · rcases Classical.em (i = 1) with q2 | q2
      · exact Or.inr q2
      · exact absurd ⟨q, q2⟩ hi)
  obtain ⟨ni, hni, hni2⟩ : ∃ n : Nat, i = n ∧ n < 2 := by
    rcases HI2.out with q | q
    · exact ⟨0, q, by omega⟩
    · exact ⟨1, q, by omega⟩
  have HNI := Lib.hid (And.intro hni hni2)
  clear hni hni2 hi
  have HV := Lib.hid (fun (W : World) (hW : Below w.heap.size w W) => ishares_any bs A c l D e W (HG.out.next hW) H2.out (HL.out.next hW))
  have hg : (i != 0) = true ∧ (i != 1) = false ∨ (i != 0) = false := by
    rcases HI2.out with q | q
    · exact Or.inr (bneF q)
    · exact Or.inl ⟨bneT (by omega), bneF q⟩
  have c_G := fun j => cell_of_row _ _ j _ _ _ (hB1.get 1 rfl)
  have z_G := hB1.lt 1 rfl

  have hv := HV.out _ hB1.below
  have HX : ∀ (K : Prop), ((i != 0) = true → (i != 1) = false → K) → ((i != 0) = false → K) → K := fun K a b => hg.elim (fun q => a q.1 q.2) b
  clear hg HV
  refine HX _ (fun g1 g2 => ?_) (fun g1 => ?_)
  · clear HX
    as_aux_lemma =>
      go_wp2_with fail
      refine hv.mono ?_
      rintro e2 w3 ⟨rfl, hb⟩
      have hB3 := hB1.next hb
      clear c_G z_G hb hv hB1
      cases hvb : validB (gr bs 0).length l with
      | false =>
        have HR := Lib.hid (worthC_bad (bs := bs) (l := l) HCO.out HI.out (fun q => by rw [hvb] at q; cases q.1))
        have HNZ := Lib.hid (show (8 : Int) ≠ 0 by decide)
        clear hvb
        have c_o := fun j => cell_of_row _ _ j _ _ _ (hB3.get 0 rfl)
        have z_o := hB3.lt 0 rfl
        have f_o := fun j => frozen_of_row _ _ j _ _ (hB3.get 0 rfl)
        have HZ := Lib.hid (worthR_no (bs := bs) (l := l) (i := i) (by rw [HR.out]; exact HNZ.out))
        have HE := Lib.hid (hB3.put 0 rfl ⟨0, 0⟩).below
        clear hB3
        go_wp2_with fail
        refine bodyPost_ret (v := .tuple #[rV ⟨0, 0⟩, .int .i64 (8)]) (by simp [results, Try.results18, go_sem, c_o, f_o, z_o]) rfl ⟨by rw [HZ.out, HR.out], HE.out⟩
      | true =>
      have HVB := Lib.hid hvb
      have HPL := Lib.hid (show l.length ≤ 10 by have := (valid_ok hvb).1; have := HOK.out.n10; omega)
      have HLL := Lib.hid (valid_ok hvb).1
      clear hvb
      go_wp2_with fail
      have HB4 := Lib.hid hB3
      clear hB3
      go_loopw [9, 32] (fun t a wr => ∃ k : Nat, k ≤ l.length ∧ a = .int .i64 k ∧ t = .int .i64 (sumTo (divB l) k) ∧ (∀ j, j < k → (gR l j).d ≤ 2000000) ∧ Bx w [(gO, rB ⟨0, 0⟩), (w.heap.size, gB A c bs)] wr) (fun _ a _ => l.length - (intOf a).toNat)
      case atStart => exact ⟨0, Nat.zero_le _, rfl, rfl, fun j hj => by omega, HB4.out⟩
      case round =>
        as_aux_lemma =>
        obtain ⟨k, hk, rfl, rfl, hno, hBr⟩ := hrel
        have HA := Lib.hid hno
        have HDB := Lib.hid (div_bd l k)
        clear HB4 hno
        by_cases hlt : k < l.length
        rotate_left
        · obtain rfl : k = l.length := by omega
          have HPP := Lib.hid (plain_all HA.out)
          clear HA hlt hk
          by_cases h1 : 1 < sumTo (divB l) l.length
          · have q1 : decide (1 < sumTo (divB l) l.length) = true := decide_eq_true h1
            have HR := Lib.hid (worthC_bad (bs := bs) (l := l) HCO.out HI.out (fun q => by have := q.2; rw [HPP.out] at this; have := of_decide_eq_true this; omega))
            have HNZ := Lib.hid (show (8 : Int) ≠ 0 by decide)
            clear h1
            generalize sumTo (divB l) l.length = t at *
            have c_o := fun j => cell_of_row _ _ j _ _ _ (hBr.get 0 rfl)
            have z_o := hBr.lt 0 rfl
            have f_o := fun j => frozen_of_row _ _ j _ _ (hBr.get 0 rfl)
            have HZ := Lib.hid (worthR_no (bs := bs) (l := l) (i := i) (by rw [HR.out]; exact HNZ.out))
            have HE := Lib.hid (hBr.put 0 rfl ⟨0, 0⟩).below
            clear hBr
            go_wp2_with fail
            refine bodyPost_ret (v := .tuple #[rV ⟨0, 0⟩, .int .i64 (8)]) (by simp [results, Try.results18, go_sem, c_o, f_o, z_o]) rfl ⟨by rw [HZ.out, HR.out], HE.out⟩
          have q1 : decide (1 < sumTo (divB l) l.length) = false := decide_eq_false h1
          have HPB := Lib.hid (show plainB l = true by rw [HPP.out]; exact decide_eq_true (by omega))
          clear h1 HPP HDB
          generalize sumTo (divB l) l.length = t at *
          have HR := Lib.hid (worthC_ok HCO.out HI.out ⟨HVB.out, HPB.out⟩)
          obtain ⟨ws, _⟩ := worth_some HCO.out HVB.out HPB.out HNI.out.2
          generalize mkR (sumQ (fun g => (gi (gr bs ni) g : Rat) * pq ni (gR l g).q) (gr bs 0).length) = v at *
          have HVV := Lib.hid (show worthR bs l i = v by unfold worthR; rw [if_pos HR.out, HNI.out.1, Int.toNat_natCast, ws]; rfl)
          have HW := Lib.hid (fun (W : World) (hW : Below w.heap.size w W) => mworth_any bs A c l D e ni v W (HG.out.next hW) (by have := H2.out; have := HNI.out.2; omega) (HL.out.next hW) (by rw [HLL.out, (row_bd HCO.out HNI.out.2).1]) (fun g hg => by have := (row_bd HCO.out HNI.out.2).2 g (by have := HLL.out; omega); omega) ws)
          rw [← HNI.out.1] at HW
          clear ws
          have c_G := fun j => cell_of_row _ _ j _ _ _ (hBr.get 1 rfl)
          have z_G := hBr.lt 1 rfl
          go_wp2_with fail
          refine (HW.out _ hBr.below).mono ?_
          rintro e w31 ⟨rfl, hb⟩
          have hB31 := hBr.next hb
          clear c_G z_G hb hBr
          have c_o := fun j => cell_of_row _ _ j _ _ _ (hB31.get 0 rfl)
          have z_o := hB31.lt 0 rfl
          have f_o := fun j => frozen_of_row _ _ j _ _ (hB31.get 0 rfl)
          have HE := Lib.hid (hB31.put 0 rfl v).below
          clear hB31 HW
          go_wp2_with fail
          refine bodyPost_ret (v := .tuple #[rV v, .int .i64 0]) (by simp [results, Try.results18, go_sem, c_o, f_o, z_o]) rfl ⟨by rw [HVV.out, HR.out], HE.out⟩
        obtain ⟨bd, ebd, bb, bc⟩ := HL.out.at_ hlt
        subst ebd
        obtain ⟨f0, f1, f2⟩ := cell2 (bc.below bb hBr.below) hlt
        have f3 : wr.cell? ⟨(bd.add (k * 2)).block, (bd.add (k * 2)).off + 1, none⟩ = some (.int .i64 (gR l k).d) := f1
        have z1 : (k : Int) < (l.length : Int) := by omega
        have z3 : (0 : Int) ≤ (k : Int) := by omega
        have HY1 := Lib.hid (show IntKind.i64.wrap ((k : Int) + 1) = (k : Int) + 1 ∧ wrap64 ((k : Int) + 1) = (k : Int) + 1 from ⟨IntWalk.i64_in _ (by have := HPL.out; omega), IntWalk.wrap64_in _ (by have := HPL.out; omega)⟩)
        have HME := Lib.hid (And.intro (Nat.succ_le_of_lt hlt) (Nat.sub_lt_sub_left hlt (Nat.lt_succ_self k)))
        have HSE := Lib.hid (show sumTo (divB l) (k + 1) = sumTo (divB l) k + divB l k from rfl)
        have HDD := Lib.hid (show divB l k = if 1 < (gR l k).d then 1 else 0 from rfl)
        have HLT := Lib.hid hlt
        have HTB := Lib.hid (show sumTo (divB l) k ≤ 10 by have := HDB.out; have := HPL.out; omega)
        have HSS := Lib.hid (fun (h : (gR l k).d ≤ 2000000) j (hj : j < k + 1) => show (gR l j).d ≤ 2000000 by
          by_cases e : j = k
          · subst e; exact h
          · exact HA.out j (by omega))
        have HPF := Lib.hid (fun (h : ¬ (gR l k).d ≤ 2000000) => plain_false hlt h)
        clear bb bc hk hlt
        generalize sumTo (divB l) k = t at *
        generalize gR l k = el at *
        go_upto_region 12 with fail
        have hB31 := hBr.new rfl (rB el)
        clear hBr
        generalize wr.heap.size = gX at *
        generalize wr.alloc _ = w31 at *
        clear f0 f1 f2 f3
        have c_x := fun j => cell_of_row _ _ j _ _ _ (hB31.get 0 rfl)
        have z_x := hB31.lt 0 rfl
        by_cases h1 : 2000000 < el.d
        · have q1 : decide (2000000 < el.d) = true := decide_eq_true h1
          have HR := Lib.hid (worthC_bad (bs := bs) (l := l) HCO.out HI.out (fun q => by have := q.2; rw [HPF.out (by omega)] at this; cases this))
          have HNZ := Lib.hid (show (8 : Int) ≠ 0 by decide)
          clear h1
          have c_o := fun j => cell_of_row _ _ j _ _ _ (hB31.get 1 rfl)
          have z_o := hB31.lt 1 rfl
          have f_o := fun j => frozen_of_row _ _ j _ _ (hB31.get 1 rfl)
          have HZ := Lib.hid (worthR_no (bs := bs) (l := l) (i := i) (by rw [HR.out]; exact HNZ.out))
          have HE := Lib.hid (hB31.put 1 rfl ⟨0, 0⟩).below
          clear hB31
          go_wp2_with fail
          refine bodyPost_ret (v := .tuple #[rV ⟨0, 0⟩, .int .i64 (8)]) (by simp [results, Try.results18, go_sem, c_o, f_o, z_o]) rfl ⟨by rw [HZ.out, HR.out], HE.out⟩
        have q1 : decide (2000000 < el.d) = false := decide_eq_false h1
        have HS := Lib.hid (HSS.out (by omega))
        clear h1
        by_cases h2 : 1 < el.d
        · have q2 : decide (1 < el.d) = true := decide_eq_true h2
          have y2 : IntKind.i64.wrap (t + 1) = t + 1 := IntWalk.i64_in _ (by have := HTB.out; have := HDB.out; omega)
          have y2' : wrap64 (t + 1) = t + 1 := IntWalk.wrap64_in _ (by have := HTB.out; have := HDB.out; omega)
          have HH2 := Lib.hid h2
          clear h2
          have HZ := Lib.hid hB31.drop
          clear hB31
          have y1 := HY1.out.1
          have y1' := HY1.out.2
          go_wp2_with fail
          exact ⟨⟨k + 1, HME.out.1, by go_num, by rw [HSE.out, HDD.out, if_pos HH2.out], HS.out, HZ.out⟩, by simpa [intOf] using HME.out.2⟩
        have q2 : decide (1 < el.d) = false := decide_eq_false h2
        have HH2 := Lib.hid h2
        clear h2
        have HZ := Lib.hid hB31.drop
        clear hB31
        have y1 := HY1.out.1
        have y1' := HY1.out.2
        go_wp2_with fail
        exact ⟨⟨k + 1, HME.out.1, by go_num, by rw [HSE.out, HDD.out, if_neg HH2.out, Int.add_zero], HS.out, HZ.out⟩, by simpa [intOf] using HME.out.2⟩
  · clear HX
    as_aux_lemma =>
      go_wp2_with fail
      refine hv.mono ?_
      rintro e2 w3 ⟨rfl, hb⟩
      have hB3 := hB1.next hb
      clear c_G z_G hb hv hB1
      cases hvb : validB (gr bs 0).length l with
      | false =>
        have HR := Lib.hid (worthC_bad (bs := bs) (l := l) HCO.out HI.out (fun q => by rw [hvb] at q; cases q.1))
        have HNZ := Lib.hid (show (8 : Int) ≠ 0 by decide)
        clear hvb
        have c_o := fun j => cell_of_row _ _ j _ _ _ (hB3.get 0 rfl)
        have z_o := hB3.lt 0 rfl
        have f_o := fun j => frozen_of_row _ _ j _ _ (hB3.get 0 rfl)
        have HZ := Lib.hid (worthR_no (bs := bs) (l := l) (i := i) (by rw [HR.out]; exact HNZ.out))
        have HE := Lib.hid (hB3.put 0 rfl ⟨0, 0⟩).below
        clear hB3
        go_wp2_with fail
        refine bodyPost_ret (v := .tuple #[rV ⟨0, 0⟩, .int .i64 (8)]) (by simp [results, Try.results18, go_sem, c_o, f_o, z_o]) rfl ⟨by rw [HZ.out, HR.out], HE.out⟩
      | true =>
      have HVB := Lib.hid hvb
      have HPL := Lib.hid (show l.length ≤ 10 by have := (valid_ok hvb).1; have := HOK.out.n10; omega)
      have HLL := Lib.hid (valid_ok hvb).1
      clear hvb
      go_wp2_with fail
      have HB4 := Lib.hid hB3
      clear hB3
      go_loopw [9, 32] (fun t a wr => ∃ k : Nat, k ≤ l.length ∧ a = .int .i64 k ∧ t = .int .i64 (sumTo (divB l) k) ∧ (∀ j, j < k → (gR l j).d ≤ 2000000) ∧ Bx w [(gO, rB ⟨0, 0⟩), (w.heap.size, gB A c bs)] wr) (fun _ a _ => l.length - (intOf a).toNat)
      case atStart => exact ⟨0, Nat.zero_le _, rfl, rfl, fun j hj => by omega, HB4.out⟩
      case round =>
        as_aux_lemma =>
        obtain ⟨k, hk, rfl, rfl, hno, hBr⟩ := hrel
        have HA := Lib.hid hno
        have HDB := Lib.hid (div_bd l k)
        clear HB4 hno
        by_cases hlt : k < l.length
        rotate_left
        · obtain rfl : k = l.length := by omega
          have HPP := Lib.hid (plain_all HA.out)
          clear HA hlt hk
          by_cases h1 : 1 < sumTo (divB l) l.length
          · have q1 : decide (1 < sumTo (divB l) l.length) = true := decide_eq_true h1
            have HR := Lib.hid (worthC_bad (bs := bs) (l := l) HCO.out HI.out (fun q => by have := q.2; rw [HPP.out] at this; have := of_decide_eq_true this; omega))
            have HNZ := Lib.hid (show (8 : Int) ≠ 0 by decide)
            clear h1
            generalize sumTo (divB l) l.length = t at *
            have c_o := fun j => cell_of_row _ _ j _ _ _ (hBr.get 0 rfl)
            have z_o := hBr.lt 0 rfl
            have f_o := fun j => frozen_of_row _ _ j _ _ (hBr.get 0 rfl)
            have HZ := Lib.hid (worthR_no (bs := bs) (l := l) (i := i) (by rw [HR.out]; exact HNZ.out))
            have HE := Lib.hid (hBr.put 0 rfl ⟨0, 0⟩).below
            clear hBr
            go_wp2_with fail
            refine bodyPost_ret (v := .tuple #[rV ⟨0, 0⟩, .int .i64 (8)]) (by simp [results, Try.results18, go_sem, c_o, f_o, z_o]) rfl ⟨by rw [HZ.out, HR.out], HE.out⟩
          have q1 : decide (1 < sumTo (divB l) l.length) = false := decide_eq_false h1
          have HPB := Lib.hid (show plainB l = true by rw [HPP.out]; exact decide_eq_true (by omega))
          clear h1 HPP HDB
          generalize sumTo (divB l) l.length = t at *
          have HR := Lib.hid (worthC_ok HCO.out HI.out ⟨HVB.out, HPB.out⟩)
          obtain ⟨ws, _⟩ := worth_some HCO.out HVB.out HPB.out HNI.out.2
          generalize mkR (sumQ (fun g => (gi (gr bs ni) g : Rat) * pq ni (gR l g).q) (gr bs 0).length) = v at *
          have HVV := Lib.hid (show worthR bs l i = v by unfold worthR; rw [if_pos HR.out, HNI.out.1, Int.toNat_natCast, ws]; rfl)
          have HW := Lib.hid (fun (W : World) (hW : Below w.heap.size w W) => mworth_any bs A c l D e ni v W (HG.out.next hW) (by have := H2.out; have := HNI.out.2; omega) (HL.out.next hW) (by rw [HLL.out, (row_bd HCO.out HNI.out.2).1]) (fun g hg => by have := (row_bd HCO.out HNI.out.2).2 g (by have := HLL.out; omega); omega) ws)
          rw [← HNI.out.1] at HW
          clear ws
          have c_G := fun j => cell_of_row _ _ j _ _ _ (hBr.get 1 rfl)
          have z_G := hBr.lt 1 rfl
          go_wp2_with fail
          refine (HW.out _ hBr.below).mono ?_
          rintro e w31 ⟨rfl, hb⟩
          have hB31 := hBr.next hb
          clear c_G z_G hb hBr
          have c_o := fun j => cell_of_row _ _ j _ _ _ (hB31.get 0 rfl)
          have z_o := hB31.lt 0 rfl
          have f_o := fun j => frozen_of_row _ _ j _ _ (hB31.get 0 rfl)
          have HE := Lib.hid (hB31.put 0 rfl v).below
          clear hB31 HW
          go_wp2_with fail
          refine bodyPost_ret (v := .tuple #[rV v, .int .i64 0]) (by simp [results, Try.results18, go_sem, c_o, f_o, z_o]) rfl ⟨by rw [HVV.out, HR.out], HE.out⟩
        obtain ⟨bd, ebd, bb, bc⟩ := HL.out.at_ hlt
        subst ebd
        obtain ⟨f0, f1, f2⟩ := cell2 (bc.below bb hBr.below) hlt
        have f3 : wr.cell? ⟨(bd.add (k * 2)).block, (bd.add (k * 2)).off + 1, none⟩ = some (.int .i64 (gR l k).d) := f1
        have z1 : (k : Int) < (l.length : Int) := by omega
        have z3 : (0 : Int) ≤ (k : Int) := by omega
        have HY1 := Lib.hid (show IntKind.i64.wrap ((k : Int) + 1) = (k : Int) + 1 ∧ wrap64 ((k : Int) + 1) = (k : Int) + 1 from ⟨IntWalk.i64_in _ (by have := HPL.out; omega), IntWalk.wrap64_in _ (by have := HPL.out; omega)⟩)
        have HME := Lib.hid (And.intro (Nat.succ_le_of_lt hlt) (Nat.sub_lt_sub_left hlt (Nat.lt_succ_self k)))
        have HSE := Lib.hid (show sumTo (divB l) (k + 1) = sumTo (divB l) k + divB l k from rfl)
        have HDD := Lib.hid (show divB l k = if 1 < (gR l k).d then 1 else 0 from rfl)
        have HLT := Lib.hid hlt
        have HTB := Lib.hid (show sumTo (divB l) k ≤ 10 by have := HDB.out; have := HPL.out; omega)
        have HSS := Lib.hid (fun (h : (gR l k).d ≤ 2000000) j (hj : j < k + 1) => show (gR l j).d ≤ 2000000 by
          by_cases e : j = k
          · subst e; exact h
          · exact HA.out j (by omega))
        have HPF := Lib.hid (fun (h : ¬ (gR l k).d ≤ 2000000) => plain_false hlt h)
        clear bb bc hk hlt
        generalize sumTo (divB l) k = t at *
        generalize gR l k = el at *
        go_upto_region 12 with fail
        have hB31 := hBr.new rfl (rB el)
        clear hBr
        generalize wr.heap.size = gX at *
        generalize wr.alloc _ = w31 at *
        clear f0 f1 f2 f3
        have c_x := fun j => cell_of_row _ _ j _ _ _ (hB31.get 0 rfl)
        have z_x := hB31.lt 0 rfl
        by_cases h1 : 2000000 < el.d
        · have q1 : decide (2000000 < el.d) = true := decide_eq_true h1
          have HR := Lib.hid (worthC_bad (bs := bs) (l := l) HCO.out HI.out (fun q => by have := q.2; rw [HPF.out (by omega)] at this; cases this))
          have HNZ := Lib.hid (show (8 : Int) ≠ 0 by decide)
          clear h1
          have c_o := fun j => cell_of_row _ _ j _ _ _ (hB31.get 1 rfl)
          have z_o := hB31.lt 1 rfl
          have f_o := fun j => frozen_of_row _ _ j _ _ (hB31.get 1 rfl)
          have HZ := Lib.hid (worthR_no (bs := bs) (l := l) (i := i) (by rw [HR.out]; exact HNZ.out))
          have HE := Lib.hid (hB31.put 1 rfl ⟨0, 0⟩).below
          clear hB31
          go_wp2_with fail
          refine bodyPost_ret (v := .tuple #[rV ⟨0, 0⟩, .int .i64 (8)]) (by simp [results, Try.results18, go_sem, c_o, f_o, z_o]) rfl ⟨by rw [HZ.out, HR.out], HE.out⟩
        have q1 : decide (2000000 < el.d) = false := decide_eq_false h1
        have HS := Lib.hid (HSS.out (by omega))
        clear h1
        by_cases h2 : 1 < el.d
        · have q2 : decide (1 < el.d) = true := decide_eq_true h2
          have y2 : IntKind.i64.wrap (t + 1) = t + 1 := IntWalk.i64_in _ (by have := HTB.out; have := HDB.out; omega)
          have y2' : wrap64 (t + 1) = t + 1 := IntWalk.wrap64_in _ (by have := HTB.out; have := HDB.out; omega)
          have HH2 := Lib.hid h2
          clear h2
          have HZ := Lib.hid hB31.drop
          clear hB31
          have y1 := HY1.out.1
          have y1' := HY1.out.2
          go_wp2_with fail
          exact ⟨⟨k + 1, HME.out.1, by go_num, by rw [HSE.out, HDD.out, if_pos HH2.out], HS.out, HZ.out⟩, by simpa [intOf] using HME.out.2⟩
        have q2 : decide (1 < el.d) = false := decide_eq_false h2
        have HH2 := Lib.hid h2
        clear h2
        have HZ := Lib.hid hB31.drop
        clear hB31
        have y1 := HY1.out.1
        have y1' := HY1.out.2
        go_wp2_with fail
        exact ⟨⟨k + 1, HME.out.1, by go_num, by rw [HSE.out, HDD.out, if_neg HH2.out, Int.add_zero], HS.out, HZ.out⟩, by simpa [intOf] using HME.out.2⟩

set_option maxRecDepth 100000 in
set_option maxHeartbeats 16000000 in
theorem fworthE_any (bs : List (List Int)) (A : Option Addr) (c : Nat) (l : List Rt) (D : Option Addr) (e : Nat) (i : Int) (w : World) (h : GIn w.heap.size w A c bs) (hl : QIn w.heap.size w D e l) :
    Calls Try.prog 25 #[gV A c bs, .slice D l.length e, .int .i64 i] w fun e w' => e = .returned (.tuple #[rV (worthR bs l i), .int .i64 (worthC bs l i)]) ∧ Below w.heap.size w w' := by
  have hB0 : Bx w [(w.heap.size + 1, rB ⟨0, 0⟩), (w.heap.size, gB A c bs)] ((w.alloc (gB A c bs)).alloc (rB ⟨0, 0⟩)) := ((Bx.start w).new rfl _).new (by simp) _
  have HC := Lib.hid (fun (W : World) (hW : Below w.heap.size w W) => fmcheck_any bs A c W (h.next hW))
  have HG := Lib.hid h
  have HL := Lib.hid hl
  clear h hl
  go_enter Try.func25, Try.ntmps25
  go_upto_region 1 with fail
  generalize hw0 : (w.alloc (gB A c bs)).alloc (rB ⟨0, 0⟩) = w0 at *
  clear hw0
  generalize w.heap.size + 1 = gO at *
  have c_G := fun j => cell_of_row _ _ j _ _ _ (hB0.get 1 rfl)
  have z_G := hB0.lt 1 rfl
  by_cases hc : mkCode bs = 0
  rotate_left
  · have q : (mkCode bs != 0) = true := bneT hc
    have HR0 := worthC_code (bs := bs) (l := l) (i := i) hc
    obtain ⟨code, hco⟩ : ∃ x, x = mkCode bs := ⟨_, rfl⟩
    rw [← hco] at HC q HR0
    have HR := Lib.hid HR0
    have HNZ := Lib.hid (show code ≠ 0 by rw [hco]; exact hc)
    clear hc hco HR0
    go_wp2_with fail
    refine (HC.out _ hB0.below).mono ?_
    rintro e w1 ⟨rfl, hb⟩
    have hB1 := hB0.next hb
    clear c_G z_G hb hB0
    have c_G := fun j => cell_of_row _ _ j _ _ _ (hB1.get 1 rfl)
    have z_G := hB1.lt 1 rfl
    go_wp2_with fail
    refine (HC.out _ hB1.below).mono ?_
    rintro e w2 ⟨rfl, hb⟩
    have hB2 := hB1.next hb
    clear c_G z_G hb hB1
    have c_o := fun j => cell_of_row _ _ j _ _ _ (hB2.get 0 rfl)
    have z_o := hB2.lt 0 rfl
    have f_o := fun j => frozen_of_row _ _ j _ _ (hB2.get 0 rfl)
    have HZ := Lib.hid (worthR_no (bs := bs) (l := l) (i := i) (by rw [HR.out]; exact HNZ.out))
    have HE := Lib.hid (hB2.put 0 rfl ⟨0, 0⟩).below
    clear hB2
    go_wp2_with fail
    refine bodyPost_ret (v := .tuple #[rV ⟨0, 0⟩, .int .i64 (code)]) (by simp [results, Try.results25, go_sem, c_o, f_o, z_o]) rfl ⟨by rw [HZ.out, HR.out], HE.out⟩
  have q : (mkCode bs != 0) = false := bneF hc
  have HCO := Lib.hid hc
  obtain ⟨h2, hok⟩ := mk_ok hc
  have HOK := Lib.hid hok
  have H2 := Lib.hid h2
  rw [hc] at HC q
  clear hc h2 hok
  go_wp2_with fail
  refine (HC.out _ hB0.below).mono ?_
  rintro e w1 ⟨rfl, hb⟩
  have hB1 := hB0.next hb
  clear c_G z_G hb hB0
  clear HC q
  by_cases hi : i ≠ 0 ∧ i ≠ 1
  · have q1 : (i != 0) = true := bneT hi.1
    have q2 : (i != 1) = true := bneT hi.2
    have HR := Lib.hid (worthC_arg (l := l) HCO.out hi)
    have HNZ := Lib.hid (show (2 : Int) ≠ 0 by decide)
    clear hi
    have c_o := fun j => cell_of_row _ _ j _ _ _ (hB1.get 0 rfl)
    have z_o := hB1.lt 0 rfl
    have f_o := fun j => frozen_of_row _ _ j _ _ (hB1.get 0 rfl)
    have HZ := Lib.hid (worthR_no (bs := bs) (l := l) (i := i) (by rw [HR.out]; exact HNZ.out))
    have HE := Lib.hid (hB1.put 0 rfl ⟨0, 0⟩).below
    clear hB1
    go_wp2_with fail
    refine bodyPost_ret (v := .tuple #[rV ⟨0, 0⟩, .int .i64 (2)]) (by simp [results, Try.results25, go_sem, c_o, f_o, z_o]) rfl ⟨by rw [HZ.out, HR.out], HE.out⟩
  have HI := Lib.hid hi
  have HI2 := Lib.hid (show i = 0 ∨ i = 1 by
    rcases Classical.em (i = 0) with q | q
    · exact Or.inl q
    · rcases Classical.em (i = 1) with q2 | q2
      · exact Or.inr q2
      · exact absurd ⟨q, q2⟩ hi)
  obtain ⟨ni, hni, hni2⟩ : ∃ n : Nat, i = n ∧ n < 2 := by
    rcases HI2.out with q | q
    · exact ⟨0, q, by omega⟩
    · exact ⟨1, q, by omega⟩
  have HNI := Lib.hid (And.intro hni hni2)
  clear hni hni2 hi
  have HV := Lib.hid (fun (W : World) (hW : Below w.heap.size w W) => fvalid_any bs A c l D e W (HG.out.next hW) H2.out (HL.out.next hW))
  have hg : (i != 0) = true ∧ (i != 1) = false ∨ (i != 0) = false := by
    rcases HI2.out with q | q
    · exact Or.inr (bneF q)
    · exact Or.inl ⟨bneT (by omega), bneF q⟩
  have c_G := fun j => cell_of_row _ _ j _ _ _ (hB1.get 1 rfl)
  have z_G := hB1.lt 1 rfl
  have hv := HV.out _ hB1.below
  have HX : ∀ (K : Prop), ((i != 0) = true → (i != 1) = false → K) → ((i != 0) = false → K) → K := fun K a b => hg.elim (fun q => a q.1 q.2) b
  clear hg HV
  refine HX _ (fun g1 g2 => ?_) (fun g1 => ?_)
  · clear HX
    as_aux_lemma =>
      go_wp2_with fail
      refine hv.mono ?_
      rintro e2 w2 ⟨rfl, hb⟩
      have hB2 := hB1.next hb
      clear c_G z_G hb hv hB1
      cases hvb : validB (gr bs 0).length l with
      | false =>
        have HR := Lib.hid (worthC_bad (bs := bs) (l := l) HCO.out HI.out (fun q => by rw [hvb] at q; cases q.1))
        have HNZ := Lib.hid (show (8 : Int) ≠ 0 by decide)
        clear hvb
        have c_o := fun j => cell_of_row _ _ j _ _ _ (hB2.get 0 rfl)
        have z_o := hB2.lt 0 rfl
        have f_o := fun j => frozen_of_row _ _ j _ _ (hB2.get 0 rfl)
        have HZ := Lib.hid (worthR_no (bs := bs) (l := l) (i := i) (by rw [HR.out]; exact HNZ.out))
        have HE := Lib.hid (hB2.put 0 rfl ⟨0, 0⟩).below
        clear hB2
        go_wp2_with fail
        refine bodyPost_ret (v := .tuple #[rV ⟨0, 0⟩, .int .i64 (8)]) (by simp [results, Try.results25, go_sem, c_o, f_o, z_o]) rfl ⟨by rw [HZ.out, HR.out], HE.out⟩
      | true =>
      have HVB := Lib.hid hvb
      have HLL := Lib.hid (valid_ok hvb).1
      have HPL := Lib.hid (show l.length ≤ 10 ∧ 0 < l.length by have := (valid_ok hvb).1; have := HOK.out.n10; have := HOK.out.n0; omega)
      have HPP := Lib.hid (fun (W : World) (hW : Below w.heap.size w W) => fplain_any l D e W (HL.out.next hW))
      clear hvb
      go_wp2_with fail
      refine (HPP.out _ hB2.below).mono ?_
      rintro e w3 ⟨rfl, hb⟩
      have hB3 := hB2.next hb
      clear hb hB2
      clear HPP
      cases hpb : plainB l with
      | false =>
        have HR := Lib.hid (worthC_bad (bs := bs) (l := l) HCO.out HI.out (fun q => by rw [hpb] at q; cases q.2))
        have HNZ := Lib.hid (show (8 : Int) ≠ 0 by decide)
        clear hpb
        have c_o := fun j => cell_of_row _ _ j _ _ _ (hB3.get 0 rfl)
        have z_o := hB3.lt 0 rfl
        have f_o := fun j => frozen_of_row _ _ j _ _ (hB3.get 0 rfl)
        have HZ := Lib.hid (worthR_no (bs := bs) (l := l) (i := i) (by rw [HR.out]; exact HNZ.out))
        have HE := Lib.hid (hB3.put 0 rfl ⟨0, 0⟩).below
        clear hB3
        go_wp2_with fail
        refine bodyPost_ret (v := .tuple #[rV ⟨0, 0⟩, .int .i64 (8)]) (by simp [results, Try.results25, go_sem, c_o, f_o, z_o]) rfl ⟨by rw [HZ.out, HR.out], HE.out⟩
      | true =>
      have HPB := Lib.hid hpb
      clear hpb
      have HR := Lib.hid (worthC_ok HCO.out HI.out ⟨HVB.out, HPB.out⟩)
      obtain ⟨ws, _⟩ := worth_some HCO.out HVB.out HPB.out HNI.out.2
      generalize mkR (sumQ (fun g => (gi (gr bs ni) g : Rat) * pq ni (gR l g).q) (gr bs 0).length) = v at *
      have HVV := Lib.hid (show worthR bs l i = v by unfold worthR; rw [if_pos HR.out, HNI.out.1, Int.toNat_natCast, ws]; rfl)
      have HW := Lib.hid (fun (W : World) (hW : Below w.heap.size w W) => fworth_any bs A c l D e ni v W (HG.out.next hW) (by have := H2.out; have := HNI.out.2; omega) HNI.out.2 (HL.out.next hW) (by rw [HLL.out, (row_bd HCO.out HNI.out.2).1]) HPL.out.2 (by have := HPL.out; omega) (fun g hg => by have := (row_bd HCO.out HNI.out.2).2 g (by have := HLL.out; omega); omega) ws)
      rw [← HNI.out.1] at HW
      clear ws
      have c_G := fun j => cell_of_row _ _ j _ _ _ (hB3.get 1 rfl)
      have z_G := hB3.lt 1 rfl
      go_wp2_with fail
      refine (HW.out _ hB3.below).mono ?_
      rintro e w4 ⟨rfl, hb⟩
      have hB4 := hB3.next hb
      clear c_G z_G hb hB3
      have c_o := fun j => cell_of_row _ _ j _ _ _ (hB4.get 0 rfl)
      have z_o := hB4.lt 0 rfl
      have f_o := fun j => frozen_of_row _ _ j _ _ (hB4.get 0 rfl)
      have HE := Lib.hid (hB4.put 0 rfl v).below
      clear hB4 HW
      go_wp2_with fail
      refine bodyPost_ret (v := .tuple #[rV v, .int .i64 0]) (by simp [results, Try.results25, go_sem, c_o, f_o, z_o]) rfl ⟨by rw [HVV.out, HR.out], HE.out⟩
  · clear HX
    as_aux_lemma =>
      go_wp2_with fail
      refine hv.mono ?_
      rintro e2 w2 ⟨rfl, hb⟩
      have hB2 := hB1.next hb
      clear c_G z_G hb hv hB1
      cases hvb : validB (gr bs 0).length l with
      | false =>
        have HR := Lib.hid (worthC_bad (bs := bs) (l := l) HCO.out HI.out (fun q => by rw [hvb] at q; cases q.1))
        have HNZ := Lib.hid (show (8 : Int) ≠ 0 by decide)
        clear hvb
        have c_o := fun j => cell_of_row _ _ j _ _ _ (hB2.get 0 rfl)
        have z_o := hB2.lt 0 rfl
        have f_o := fun j => frozen_of_row _ _ j _ _ (hB2.get 0 rfl)
        have HZ := Lib.hid (worthR_no (bs := bs) (l := l) (i := i) (by rw [HR.out]; exact HNZ.out))
        have HE := Lib.hid (hB2.put 0 rfl ⟨0, 0⟩).below
        clear hB2
        go_wp2_with fail
        refine bodyPost_ret (v := .tuple #[rV ⟨0, 0⟩, .int .i64 (8)]) (by simp [results, Try.results25, go_sem, c_o, f_o, z_o]) rfl ⟨by rw [HZ.out, HR.out], HE.out⟩
      | true =>
      have HVB := Lib.hid hvb
      have HLL := Lib.hid (valid_ok hvb).1
      have HPL := Lib.hid (show l.length ≤ 10 ∧ 0 < l.length by have := (valid_ok hvb).1; have := HOK.out.n10; have := HOK.out.n0; omega)
      have HPP := Lib.hid (fun (W : World) (hW : Below w.heap.size w W) => fplain_any l D e W (HL.out.next hW))
      clear hvb
      go_wp2_with fail
      refine (HPP.out _ hB2.below).mono ?_
      rintro e w3 ⟨rfl, hb⟩
      have hB3 := hB2.next hb
      clear hb hB2
      clear HPP
      cases hpb : plainB l with
      | false =>
        have HR := Lib.hid (worthC_bad (bs := bs) (l := l) HCO.out HI.out (fun q => by rw [hpb] at q; cases q.2))
        have HNZ := Lib.hid (show (8 : Int) ≠ 0 by decide)
        clear hpb
        have c_o := fun j => cell_of_row _ _ j _ _ _ (hB3.get 0 rfl)
        have z_o := hB3.lt 0 rfl
        have f_o := fun j => frozen_of_row _ _ j _ _ (hB3.get 0 rfl)
        have HZ := Lib.hid (worthR_no (bs := bs) (l := l) (i := i) (by rw [HR.out]; exact HNZ.out))
        have HE := Lib.hid (hB3.put 0 rfl ⟨0, 0⟩).below
        clear hB3
        go_wp2_with fail
        refine bodyPost_ret (v := .tuple #[rV ⟨0, 0⟩, .int .i64 (8)]) (by simp [results, Try.results25, go_sem, c_o, f_o, z_o]) rfl ⟨by rw [HZ.out, HR.out], HE.out⟩
      | true =>
      have HPB := Lib.hid hpb
      clear hpb
      have HR := Lib.hid (worthC_ok HCO.out HI.out ⟨HVB.out, HPB.out⟩)
      obtain ⟨ws, _⟩ := worth_some HCO.out HVB.out HPB.out HNI.out.2
      generalize mkR (sumQ (fun g => (gi (gr bs ni) g : Rat) * pq ni (gR l g).q) (gr bs 0).length) = v at *
      have HVV := Lib.hid (show worthR bs l i = v by unfold worthR; rw [if_pos HR.out, HNI.out.1, Int.toNat_natCast, ws]; rfl)
      have HW := Lib.hid (fun (W : World) (hW : Below w.heap.size w W) => fworth_any bs A c l D e ni v W (HG.out.next hW) (by have := H2.out; have := HNI.out.2; omega) HNI.out.2 (HL.out.next hW) (by rw [HLL.out, (row_bd HCO.out HNI.out.2).1]) HPL.out.2 (by have := HPL.out; omega) (fun g hg => by have := (row_bd HCO.out HNI.out.2).2 g (by have := HLL.out; omega); omega) ws)
      rw [← HNI.out.1] at HW
      clear ws
      have c_G := fun j => cell_of_row _ _ j _ _ _ (hB3.get 1 rfl)
      have z_G := hB3.lt 1 rfl
      go_wp2_with fail
      refine (HW.out _ hB3.below).mono ?_
      rintro e w4 ⟨rfl, hb⟩
      have hB4 := hB3.next hb
      clear c_G z_G hb hB3
      have c_o := fun j => cell_of_row _ _ j _ _ _ (hB4.get 0 rfl)
      have z_o := hB4.lt 0 rfl
      have f_o := fun j => frozen_of_row _ _ j _ _ (hB4.get 0 rfl)
      have HE := Lib.hid (hB4.put 0 rfl v).below
      clear hB4 HW
      go_wp2_with fail
      refine bodyPost_ret (v := .tuple #[rV v, .int .i64 0]) (by simp [results, Try.results25, go_sem, c_o, f_o, z_o]) rfl ⟨by rw [HVV.out, HR.out], HE.out⟩
end Go.Proofs.Ytpijllobpohpgaa
