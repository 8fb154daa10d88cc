/- fits: what the law asks of a deal behind some offers is true of every bargain's. -/
import Derived.Test.YtigphmocjgojhaaTurns
namespace Go.Proofs.Ytigphmocjgojhaa
open Go.RowKit
set_option linter.unusedVariables false
set_option linter.unusedSimpArgs false

/-- The value v is the row of the first n offers of b. -/
def OffRow (w : World) (v : Value) (b : Bg) (n : Nat) : Prop := ∃ base, w.ownsRow base 49 2 v n (offCells b n)
theorem OffRow.ext {w w1 : World} {v : Value} {b : Bg} {n : Nat} (h : OffRow w v b n) (hb : Below w.heap.size w w1) : OffRow w1 v b n :=
  let ⟨base, hr⟩ := h; ⟨base, ownsRow_ext hr hb⟩

abbrev fitsArgs (b : Bg) (v : Value) (d : Deal) : Array Value := #[b.v, v, .agg #[.bool d.made, .int .i64 d.price, .int .i64 d.after, .int .u8 d.by']]

set_option maxHeartbeats 2000000 in
theorem fits_none (b : Bg) (v : Value) (n : Nat) (w : World) (hn : 0 < n) (hno : (n : Int) = b.o) (hrow : OffRow w v b n) :
    Calls Try.prog 23 (fitsArgs b v ⟨false, 0, 0, 0⟩) w fun e w' => e = .returned (.bool true) ∧ Below w.heap.size w w' := by
  obtain ⟨base, hr⟩ := hrow
  obtain ⟨g, cap, rfl, -, hcap, -⟩ := row_at hr hn
  have h1 : ((n : Int) == b.o) = true := by simpa using hno
  clear hno hr
  go_enter Try.func23, Try.ntmps23
  go_wp2
  go_ret
  exact ⟨rfl, ((Below.refl _ _).alloc (Nat.le_refl _) _).alloc (by simp) _⟩

set_option maxHeartbeats 2000000 in
theorem fits_acc (b : Bg) (v : Value) (n : Nat) (by' : Int) (w : World) (hn : 0 < n) (hlen : n ≤ 1000) (hby : (n % 2 = 0 ∧ by' = 0) ∨ (n % 2 = 1 ∧ by' = 1)) (hz1 : b.s.l ≤ pr b (n - 1)) (hz2 : pr b (n - 1) ≤ b.b.l) (hrow : OffRow w v b n) :
    Calls Try.prog 23 (fitsArgs b v ⟨true, pr b (n - 1), n, by'⟩) w fun e w' => e = .returned (.bool true) ∧ Below w.heap.size w w' := by
  obtain ⟨base, hr⟩ := hrow
  obtain ⟨g, cap, rfl, hg, hcap, hc⟩ := row_at hr hn
  obtain ⟨c1, c2⟩ := hc (n - 1) (by omega)
  have hgn : ¬ g = w.heap.size := by omega
  have hgn1 : ¬ g = w.heap.size + 1 := by omega
  have hn1 : (1 : Int) ≤ n := by omega
  have hg1 : g < w.heap.size + 1 := by omega
  have hg2 : g < w.heap.size + 1 + 1 := by omega
  rcases hby with ⟨hp, rfl⟩ | ⟨hp, rfl⟩
  · rw [show (n - 1) % 2 = 1 by omega] at c1
    clear hc hr hp
    go_enter Try.func23, Try.ntmps23
    go_wp2
    go_ret
    exact ⟨rfl, (((Below.refl _ _).alloc (Nat.le_refl _) _).alloc (by simp) _).alloc (by simp; omega) _⟩
  · rw [show (n - 1) % 2 = 0 by omega] at c1
    clear hc hr hp
    go_enter Try.func23, Try.ntmps23
    go_wp2
    go_ret
    exact ⟨rfl, (((Below.refl _ _).alloc (Nat.le_refl _) _).alloc (by simp) _).alloc (by simp; omega) _⟩

set_option maxHeartbeats 2000000 in
theorem fits_med (b : Bg) (v : Value) (n : Nat) (w : World) (hc0 : b.code = 0) (hn : 2 ≤ n) (hlen : n ≤ 1000) (hp : n % 2 = 0) (hz1 : b.s.l ≤ (pr b (n - 1) + pr b (n - 2)) / 2) (hz2 : (pr b (n - 1) + pr b (n - 2)) / 2 ≤ b.b.l) (hrow : OffRow w v b n) :
    Calls Try.prog 23 (fitsArgs b v ⟨true, (pr b (n - 1) + pr b (n - 2)) / 2, n, 2⟩) w fun e w' => e = .returned (.bool true) ∧ Below w.heap.size w w' := by
  obtain ⟨base, hr⟩ := hrow
  obtain ⟨g, cap, rfl, hg, hcap, hc⟩ := row_at hr (by omega)
  obtain ⟨c1, c2⟩ := hc (n - 1) (by omega)
  obtain ⟨c3, c4⟩ := hc (n - 2) (by omega)
  obtain ⟨r1, r2⟩ := pr_rng hc0 (n - 1)
  obtain ⟨r3, r4⟩ := pr_rng hc0 (n - 2)
  have hgn : ¬ g = w.heap.size := by omega
  have hgn1 : ¬ g = w.heap.size + 1 := by omega
  have hgn2 : ¬ g = w.heap.size + 1 + 1 := by omega
  have hg1 : g < w.heap.size + 1 := by omega
  have hg2 : g < w.heap.size + 1 + 1 := by omega
  have hn1 : (2 : Int) ≤ n := by omega
  have hp2 : (n : Int) % 2 = 0 := by omega
  have hn2 : decide ((2 : Int) ≤ (n : Int)) = true := by simp; omega
  have s1 : IntKind.i64.wrap (pr b (n - 1) + pr b (n - 2)) = pr b (n - 1) + pr b (n - 2) := IntWalk.i64_in _ (by omega)
  clear hc hr hp hc0
  go_enter Try.func23, Try.ntmps23
  go_wp2_with fail
  refine wp_region_quiet_lit (by kernel_rfl) (by kernel_rfl) ?_
  repeat (first | go_big_quiet_step (fail) | quiet_step (fail))
  refine wpQuiet_nil ?_
  rintro _ ⟨nq, rfl⟩
  go_wp2
  go_ret
  exact ⟨rfl, below_drewN ((((Below.refl _ _).alloc (Nat.le_refl _) _).alloc (by simp) _).alloc (by simp; omega) _) _⟩

theorem fits_any (b : Bg) (med : Bool) (v : Value) (d : Deal) (n : Nat) (w : World) (hc : b.code = 0) (hn : n = endN b med) (hd : d = deal b med) (hrow : OffRow w v b n) :
    Calls Try.prog 23 (fitsArgs b v d) w fun e w' => e = .returned (.bool true) ∧ Below w.heap.size w w' := by
  obtain ⟨-, -, -, -, h5, h6⟩ := (code_iff b).1 hc
  have hpos := endN_pos (b := b) (med := med) h5
  have hle := (endN_spec b med (by omega)).1
  have hz := @deal_zone b hc med
  rw [← hn] at hpos hle
  rw [← hd] at hz
  rcases stop_cases (deal_stop b med (by omega)) with ⟨_, _, a3, a4, a5⟩ | ⟨_, a2, a5⟩ | ⟨_, _, _, _, a5⟩
  · rw [← hd, ← hn] at a5
    rw [← hn] at a3
    subst a5
    have hz := hz rfl
    exact fits_med b v n w hc (by omega) (by omega) a3 hz.1 hz.2 hrow
  · rw [← hd] at a5
    rw [← hn] at a2
    subst a5
    exact fits_none b v n w hpos a2 hrow
  · rw [← hd, ← hn] at a5
    subst a5
    have hz := hz rfl
    refine fits_acc b v n _ w hpos (by omega) ?_ hz.1 hz.2 hrow
    rcases Nat.mod_two_eq_zero_or_one n with h | h
    · exact Or.inl ⟨h, by simp [h]⟩
    · exact Or.inr ⟨h, by simp [h]⟩

end Go.Proofs.Ytigphmocjgojhaa
