/- MarketAccepts returns true. -/
import Derived.Test.YtpijllobpohpgaaMa7
namespace Go.Proofs.Ytpijllobpohpgaa
open Go.RowKit Go.Deep
set_option linter.unusedVariables false
set_option linter.unusedSimpArgs false

set_option maxRecDepth 100000 in
set_option maxHeartbeats 16000000 in
theorem accepts_walk (bs : List (List Int)) (A : Option Addr) (c : Nat) (p : List Rt) (B : Option Addr) (d : Nat) (l : List Rt) (D : Option Addr) (e : Nat) (i : Int) (w : World) (h : GIn w.heap.size w A c bs) (hp : QIn w.heap.size w B d p) (hl : QIn w.heap.size w D e l) :
    Calls Try.prog 5 #[gV A c bs, .slice B p.length d, .slice D l.length e, .int .i64 i] w fun e w' => e = .returned (.bool true) ∧ Below w.heap.size w w' := by
  have hB0 : Bx w [(w.heap.size, gB A c bs)] (w.alloc (gB A c bs)) := (Bx.start w).new rfl _
  have H0 := Lib.hid (fun (W : World) (hW : Below w.heap.size w W) => mgreat_any bs A c W (h.next hW))
  have H1 := Lib.hid (fun (W : World) (hW : Below w.heap.size w W) => maccept_any bs A c p B d l D e W (h.next hW) (hp.next hW) (hl.next hW))
  have H2 := Lib.hid (fun (W : World) (hW : Below w.heap.size w W) => faccept_any bs A c p B d l D e W (h.next hW) (hp.next hW) (hl.next hW))
  have H3 := Lib.hid (fun (W : World) (hW : Below w.heap.size w W) => mworthE_any bs A c l D e i W (h.next hW) (hl.next hW))
  have H4 := Lib.hid (fun (W : World) (hW : Below w.heap.size w W) => fworthE_any bs A c l D e i W (h.next hW) (hl.next hW))
  clear h hp hl
  generalize mkBig bs = kb at *
  generalize accR bs p l = ac at *
  generalize mkCode bs = kc at *
  generalize worthR bs l i = wr at *
  generalize worthC bs l i = wc at *
  go_enter Try.func5, Try.ntmps5
  try dsimp only [List.append]
  go_upto_region 1 with fail
  generalize w.alloc (gB A c bs) = w0 at *
  have c_G := fun j => cell_of_row _ _ j _ _ _ (hB0.get 0 rfl)
  have z_G := hB0.lt 0 rfl
  go_wp2_with fail
  refine (H0.out _ hB0.below).mono ?_
  rintro e w1 ⟨rfl, hb⟩
  have hB1 := hB0.next hb
  clear c_G z_G hb hB0
  cases kb with
  | true =>
    have HE := Lib.hid hB1.below
    clear hB1
    go_wp2_with fail
    go_ret
    exact ⟨rfl, HE.out⟩
  | false =>
  by_cases hp : 40 < p.length
  · have q : decide (40 < p.length) = true := decide_eq_true hp
    have qi : decide ((40 : Int) < (p.length : Int)) = true := decide_eq_true (by omega)
    clear hp
    have HE := Lib.hid hB1.below
    clear hB1
    go_wp2_with fail
    go_ret
    exact ⟨rfl, HE.out⟩
  have q : decide (40 < p.length) = false := decide_eq_false hp
  have qi : decide ((40 : Int) < (p.length : Int)) = false := decide_eq_false (by omega)
  clear hp
  by_cases hp : 40 < l.length
  · have q2 : decide (40 < l.length) = true := decide_eq_true hp
    have qi2 : decide ((40 : Int) < (l.length : Int)) = true := decide_eq_true (by omega)
    clear hp
    have HE := Lib.hid hB1.below
    clear hB1
    go_wp2_with fail
    go_ret
    exact ⟨rfl, HE.out⟩
  have q2 : decide (40 < l.length) = false := decide_eq_false hp
  have qi2 : decide ((40 : Int) < (l.length : Int)) = false := decide_eq_false (by omega)
  clear hp
  have c_G := fun j => cell_of_row _ _ j _ _ _ (hB1.get 0 rfl)
  have z_G := hB1.lt 0 rfl
  go_wp2_with fail
  refine (H1.out _ hB1.below).mono ?_
  rintro e w2 ⟨rfl, hb⟩
  have hB2 := hB1.next hb
  clear c_G z_G hb hB1
  clear q qi q2 qi2 H1
  have c_G := fun j => cell_of_row _ _ j _ _ _ (hB2.get 0 rfl)
  have z_G := hB2.lt 0 rfl
  go_wp2_with fail
  refine (H2.out _ hB2.below).mono ?_
  rintro e w3 ⟨rfl, hb⟩
  have hB3 := hB2.next hb
  clear c_G z_G hb hB2
  clear H2
  have c_G := fun j => cell_of_row _ _ j _ _ _ (hB3.get 0 rfl)
  have z_G := hB3.lt 0 rfl
  go_wp2_with fail
  refine (H3.out _ hB3.below).mono ?_
  rintro e w4 ⟨rfl, hb⟩
  have hB4 := hB3.next hb
  clear c_G z_G hb hB3
  clear H3
  go_upto_region 6 with fail
  have hB5 := hB4.new rfl (rB wr)
  clear hB4
  generalize w4.heap.size = gX at *
  generalize w4.alloc _ = w5 at *
  have c_G := fun j => cell_of_row _ _ j _ _ _ (hB5.get 1 rfl)
  have z_G := hB5.lt 1 rfl
  go_wp2_with fail
  refine (H4.out _ hB5.below).mono ?_
  rintro e w6 ⟨rfl, hb⟩
  have hB6 := hB5.next hb
  clear c_G z_G hb hB5
  clear H4
  go_upto_region 7 with fail
  have hB7 := hB6.new rfl (rB wr)
  clear hB6
  generalize w6.heap.size = gY at *
  generalize w6.alloc _ = w7 at *
  have t1 : (ac == ac) = true := by simp
  have t2 : (kc == kc) = true := by simp
  have t3 : (wr.n == wr.n) = true := by simp
  have t4 : (wr.d == wr.d) = true := by simp
  have t5 : (wc == wc) = true := by simp
  have c_y := fun j => cell_of_row _ _ j _ _ _ (hB7.get 0 rfl)
  have z_y := hB7.lt 0 rfl
  have c_x := fun j => cell_of_row _ _ j _ _ _ (hB7.get 1 rfl)
  have z_x := hB7.lt 1 rfl
  have HE := Lib.hid hB7.below
  clear hB7
  go_wp2_with fail
  go_ret
  exact ⟨rfl, HE.out⟩
end Go.Proofs.Ytpijllobpohpgaa
