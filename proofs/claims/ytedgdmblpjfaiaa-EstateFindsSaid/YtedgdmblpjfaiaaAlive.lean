/- The chapter's example, and alive. -/
import Derived.Test.YtedgdmblpjfaiaaPay
namespace Go.Proofs.Ytedgdmblpjfaiaa
open Go.RowKit Go.Deep
set_option linter.unusedVariables false
set_option linter.unusedSimpArgs false

def Ex : Est := ⟨[1, 1], [[100], [60]]⟩
theorem ex_code : Ex.code = 0 := by decide
theorem ex_owners : ownersR Ex = [0] := by decide
theorem ex_claims : claimsR Ex = [100, 60] := by decide
theorem ex_pool : poolR Ex = 40 := by decide
theorem ex_exact : exactR Ex = [-160, 160] := by decide
theorem ex_pay : payR Ex = [-40, 40] := by decide

theorem Ints.of_block {B g : Nat} {w : World} {cs : Array Value} {t : TypeId} {fr : Nat × Nat} {xs : List Int} (h : w.heap[g]? = some (.cells cs t fr)) (hB : g < B) (hc : ∀ k, k < xs.length → cs[k]? = some (.int .i64 (gi xs k))) : Ints B w (some ⟨g, 0, none⟩) xs :=
  fun h0 => ⟨_, rfl, hB, fun k hk => by rw [add_mk, Nat.zero_add, cell_of_row w g k cs t fr h]; exact hc k hk⟩

def ExRes (w : World) (e : Ending) (w' : World) : Prop := ∃ A c R d, e = .returned (eV A c R d Ex) ∧ EIn w'.heap.size w' A c R d Ex ∧ Below w.heap.size w w'

set_option maxHeartbeats 1000000 in
theorem example_any (w : World) : Calls Try.prog 28 #[] w (ExRes w) := by
  go_enter Try.func28, Try.ntmps28
  go_wp2_with fail
  have h1 : (((((w.alloc (.cells #[.slice (some ⟨w.heap.size + 1, 0, none⟩) 2 2, .slice (some ⟨w.heap.size + 1 + 1 + 1 + 1, 0, none⟩) 2 2] 25)).alloc (.cells #[.int .i64 1, .int .i64 1] 3)).alloc (.cells #[.int .i64 100] 3)).alloc (.cells #[.int .i64 60] 3)).alloc (.cells #[.slice (some ⟨w.heap.size + 1 + 1, 0, none⟩) 1 1, .slice (some ⟨w.heap.size + 1 + 1 + 1, 0, none⟩) 1 1] 22)).heap[w.heap.size + 1]? = some (.cells #[.int .i64 1, .int .i64 1] 3 (0, 0)) := by
    (repeat (first | (refine heap_new ?_; (first | rfl | (simp; done))) | refine heap_old ?_))
  have h2 : (((((w.alloc (.cells #[.slice (some ⟨w.heap.size + 1, 0, none⟩) 2 2, .slice (some ⟨w.heap.size + 1 + 1 + 1 + 1, 0, none⟩) 2 2] 25)).alloc (.cells #[.int .i64 1, .int .i64 1] 3)).alloc (.cells #[.int .i64 100] 3)).alloc (.cells #[.int .i64 60] 3)).alloc (.cells #[.slice (some ⟨w.heap.size + 1 + 1, 0, none⟩) 1 1, .slice (some ⟨w.heap.size + 1 + 1 + 1, 0, none⟩) 1 1] 22)).heap[w.heap.size + 1 + 1]? = some (.cells #[.int .i64 100] 3 (0, 0)) := by
    (repeat (first | (refine heap_new ?_; (first | rfl | (simp; done))) | refine heap_old ?_))
  have h3 : (((((w.alloc (.cells #[.slice (some ⟨w.heap.size + 1, 0, none⟩) 2 2, .slice (some ⟨w.heap.size + 1 + 1 + 1 + 1, 0, none⟩) 2 2] 25)).alloc (.cells #[.int .i64 1, .int .i64 1] 3)).alloc (.cells #[.int .i64 100] 3)).alloc (.cells #[.int .i64 60] 3)).alloc (.cells #[.slice (some ⟨w.heap.size + 1 + 1, 0, none⟩) 1 1, .slice (some ⟨w.heap.size + 1 + 1 + 1, 0, none⟩) 1 1] 22)).heap[w.heap.size + 1 + 1 + 1]? = some (.cells #[.int .i64 60] 3 (0, 0)) := by
    (repeat (first | (refine heap_new ?_; (first | rfl | (simp; done))) | refine heap_old ?_))
  have h4 : (((((w.alloc (.cells #[.slice (some ⟨w.heap.size + 1, 0, none⟩) 2 2, .slice (some ⟨w.heap.size + 1 + 1 + 1 + 1, 0, none⟩) 2 2] 25)).alloc (.cells #[.int .i64 1, .int .i64 1] 3)).alloc (.cells #[.int .i64 100] 3)).alloc (.cells #[.int .i64 60] 3)).alloc (.cells #[.slice (some ⟨w.heap.size + 1 + 1, 0, none⟩) 1 1, .slice (some ⟨w.heap.size + 1 + 1 + 1, 0, none⟩) 1 1] 22)).heap[w.heap.size + 1 + 1 + 1 + 1]? = some (.cells #[.slice (some ⟨w.heap.size + 1 + 1, 0, none⟩) 1 1, .slice (some ⟨w.heap.size + 1 + 1 + 1, 0, none⟩) 1 1] 22 (0, 0)) := by
    (repeat (first | (refine heap_new ?_; (first | rfl | (simp; done))) | refine heap_old ?_))
  have hb : Below w.heap.size w (((((w.alloc (.cells #[.slice (some ⟨w.heap.size + 1, 0, none⟩) 2 2, .slice (some ⟨w.heap.size + 1 + 1 + 1 + 1, 0, none⟩) 2 2] 25)).alloc (.cells #[.int .i64 1, .int .i64 1] 3)).alloc (.cells #[.int .i64 100] 3)).alloc (.cells #[.int .i64 60] 3)).alloc (.cells #[.slice (some ⟨w.heap.size + 1 + 1, 0, none⟩) 1 1, .slice (some ⟨w.heap.size + 1 + 1 + 1, 0, none⟩) 1 1] 22)) :=
    ((((one_alloc w _).alloc (by simp) _).alloc (by simp; omega) _).alloc (by simp; omega) _).alloc (by simp; omega) _
  refine bodyPost_ret (v := .agg #[.slice (some ⟨w.heap.size + 1, 0, none⟩) 2 2, .slice (some ⟨w.heap.size + 1 + 1 + 1 + 1, 0, none⟩) 2 2]) (by simp [results, Try.results28, go_sem]) rfl ⟨some ⟨w.heap.size + 1, 0, none⟩, 2, some ⟨w.heap.size + 1 + 1 + 1 + 1, 0, none⟩, 2, rfl, ?_, hb⟩
  refine ⟨Ints.of_block h1 (by first | (simp; done) | (simp; omega)) ?_, fun h0 => ⟨_, rfl, by simp, ?_⟩, by decide, by unfold maxLen; omega, by decide, by unfold maxLen; omega⟩
  · intro k hk
    match k, hk with
    | 0, _ => rfl
    | 1, _ => rfl
  · intro i hi
    match i, hi with
    | 0, _ => exact ⟨some ⟨w.heap.size + 1 + 1, 0, none⟩, 1, by rw [add_mk, cell_of_row _ _ _ _ _ _ h4]; rfl, Nat.le_refl _, by unfold maxLen; omega, Ints.of_block h2 (by first | (simp; done) | (simp; omega)) (by
        intro k hk
        match k, hk with
        | 0, _ => rfl)⟩
    | 1, _ => exact ⟨some ⟨w.heap.size + 1 + 1 + 1, 0, none⟩, 1, by rw [add_mk, cell_of_row _ _ _ _ _ _ h4]; rfl, Nat.le_refl _, by unfold maxLen; omega, Ints.of_block h3 (by first | (simp; done) | (simp; omega)) (by
        intro k hk
        match k, hk with
        | 0, _ => rfl)⟩
theorem ex_owners_any {A : Option Addr} {c : Nat} {R : Option Addr} {d : Nat} {w : World} (h : EIn w.heap.size w A c R d Ex) : Calls Try.prog 13 #[eV A c R d Ex] w (ListRes w [0] 0) := by
  have := owners_any Ex A c R d w h; rwa [ex_owners, ex_code] at this
theorem ex_claims_any {A : Option Addr} {c : Nat} {R : Option Addr} {d : Nat} {w : World} (h : EIn w.heap.size w A c R d Ex) : Calls Try.prog 15 #[eV A c R d Ex] w (ListRes w [100, 60] 0) := by
  have := claims_any Ex A c R d w h; rwa [ex_claims, ex_code] at this
theorem ex_pool_any {A : Option Addr} {c : Nat} {R : Option Addr} {d : Nat} {w : World} (h : EIn w.heap.size w A c R d Ex) : Calls Try.prog 17 #[eV A c R d Ex] w fun e w' => e = .returned (.tuple #[.int .i64 40, .int .i64 0]) ∧ Below w.heap.size w w' := by
  have := pool_any Ex A c R d w h; rwa [ex_pool, ex_code] at this
theorem ex_exact_any {A : Option Addr} {c : Nat} {R : Option Addr} {d : Nat} {w : World} (h : EIn w.heap.size w A c R d Ex) : Calls Try.prog 19 #[eV A c R d Ex] w (ListRes w [-160, 160] 0) := by
  have := exact_any Ex A c R d w h; rwa [ex_exact, ex_code] at this
theorem ex_pay_any {A : Option Addr} {c : Nat} {R : Option Addr} {d : Nat} {w : World} (h : EIn w.heap.size w A c R d Ex) : Calls Try.prog 21 #[eV A c R d Ex] w (ListRes w [-40, 40] 0) := by
  have := pay_any Ex A c R d w h; rwa [ex_pay, ex_code] at this

theorem lit1 (w : World) (x : Int) : Ints (w.alloc (.cells #[.int .i64 x] 3)).heap.size (w.alloc (.cells #[.int .i64 x] 3)) (some ⟨w.heap.size, 0, none⟩) [x] :=
  Ints.of_block (heap_new rfl) (by simp) (by intro k hk; match k, hk with | 0, _ => rfl)
theorem lit2 (w : World) (x y : Int) : Ints (w.alloc (.cells #[.int .i64 x, .int .i64 y] 3)).heap.size (w.alloc (.cells #[.int .i64 x, .int .i64 y] 3)) (some ⟨w.heap.size, 0, none⟩) [x, y] :=
  Ints.of_block (heap_new rfl) (by simp) (by intro k hk; match k, hk with | 0, _ => rfl | 1, _ => rfl)

set_option maxRecDepth 100000 in
set_option maxHeartbeats 4000000 in
theorem alive_any (w : World) : Calls Try.prog 26 #[] w fun e w' => e = .returned (.bool true) ∧ Below w.heap.size w w' := by
  go_enter Try.func26, Try.ntmps26
  try dsimp only [List.append]
  go_wp2_with fail
  refine (example_any _).mono ?_
  rintro e w1 ⟨A1, c1, R1, d1, rfl, h1, hb1⟩
  go_wp2_with fail
  refine (ex_owners_any h1).mono ?_
  rintro e w2 ⟨O, oc, rfl, hO, hb2⟩
  have D2 := bcall hb1 hb1.size hb2
  clear hb1 hb2 h1
  go_wp2_with fail
  refine (example_any _).mono ?_
  rintro e w3 ⟨A3, c3, R3, d3, rfl, h3, hb3⟩
  have D3 := bcall D2 D2.size hb3
  have hO3 := hO.next hb3
  clear D2 hb3 hO
  go_wp2_with fail
  refine (ex_claims_any h3).mono ?_
  rintro e w4 ⟨C, cc, rfl, hC, hb4⟩
  have D4 := bcall D3 D3.size hb4
  have hO4 := hO3.next hb4
  clear D3 hb4 hO3 h3
  go_wp2_with fail
  refine (example_any _).mono ?_
  rintro e w5 ⟨A5, c5, R5, d5, rfl, h5, hb5⟩
  have D5 := bcall D4 D4.size hb5
  have hO5 := hO4.next hb5
  have hC5 := hC.next hb5
  clear D4 hb5 hO4 hC
  go_wp2_with fail
  refine (ex_pool_any h5).mono ?_
  rintro e w6 ⟨rfl, hb6⟩
  have D6 := bcall D5 D5.size hb6
  have hO6 := hO5.next hb6
  have hC6 := hC5.next hb6
  clear D5 hb6 hO5 hC5 h5
  go_wp2_with fail
  refine (example_any _).mono ?_
  rintro e w7 ⟨A7, c7, R7, d7, rfl, h7, hb7⟩
  have D7 := bcall D6 D6.size hb7
  have hO7 := hO6.next hb7
  have hC7 := hC6.next hb7
  clear D6 hb7 hO6 hC6
  go_wp2_with fail
  refine (ex_exact_any h7).mono ?_
  rintro e w8 ⟨X, xc, rfl, hX, hb8⟩
  have D8 := bcall D7 D7.size hb8
  have hO8 := hO7.next hb8
  have hC8 := hC7.next hb8
  clear D7 hb8 hO7 hC7 h7
  go_wp2_with fail
  refine (example_any _).mono ?_
  rintro e w9 ⟨A9, c9, R9, d9, rfl, h9, hb9⟩
  have D9 := bcall D8 D8.size hb9
  have hO9 := hO8.next hb9
  have hC9 := hC8.next hb9
  have hX9 := hX.next hb9
  clear D8 hb9 hO8 hC8 hX
  go_wp2_with fail
  refine (ex_pay_any h9).mono ?_
  rintro e wa ⟨Y, yc, rfl, hY, hba⟩
  have Da := bcall D9 D9.size hba
  have hOa := hO9.next hba
  have hCa := hC9.next hba
  have hXa := hX9.next hba
  clear D9 hba hO9 hC9 hX9 h9
  go_wp2_with fail
  refine (same_any O (some ⟨wa.heap.size, 0, none⟩) oc 1 [0] [0] _ (hOa.next (one_alloc _ _)) (lit1 wa 0) (by decide) (by decide)).mono ?_
  rintro e wb ⟨rfl, hbb⟩
  rw [show sameL [0] [0] = true from rfl]
  have Lb := bcall (one_alloc wa _) (by simp) hbb
  have Db := bcall Da Da.size Lb
  have hCb := hCa.next Lb
  have hXb := hXa.next Lb
  have hYb := hY.next Lb
  clear Da hbb Lb hOa hCa hXa hY
  go_wp2_with fail
  refine (same_any C (some ⟨wb.heap.size, 0, none⟩) cc 2 [100, 60] [100, 60] _ (hCb.next (one_alloc _ _)) (lit2 wb 100 60) (by decide) (by decide)).mono ?_
  rintro e wd ⟨rfl, hbd⟩
  rw [show sameL [100, 60] [100, 60] = true from rfl]
  have Ld := bcall (one_alloc wb _) (by simp) hbd
  have Dd := bcall Db Db.size Ld
  have hXd := hXb.next Ld
  have hYd := hYb.next Ld
  clear Db hbd Ld hCb hXb hYb
  go_wp2_with fail
  refine (same_any X (some ⟨wd.heap.size, 0, none⟩) xc 2 [-160, 160] [-160, 160] _ (hXd.next (one_alloc _ _)) (lit2 wd (-160) 160) (by decide) (by decide)).mono ?_
  rintro e wf ⟨rfl, hbf⟩
  rw [show sameL [-160, 160] [-160, 160] = true from rfl]
  have Lf := bcall (one_alloc wd _) (by simp) hbf
  have Df := bcall Dd Dd.size Lf
  have hYf := hYd.next Lf
  clear Dd hbf Lf hXd hYd
  go_wp2_with fail
  refine (same_any Y (some ⟨wf.heap.size, 0, none⟩) yc 2 [-40, 40] [-40, 40] _ (hYf.next (one_alloc _ _)) (lit2 wf (-40) 40) (by decide) (by decide)).mono ?_
  rintro e wg ⟨rfl, hbg⟩
  rw [show sameL [-40, 40] [-40, 40] = true from rfl]
  have Lg := bcall (one_alloc wf _) (by simp) hbg
  have Dg := bcall Df Df.size Lg
  clear Df hbg Lg hYf
  go_wp2_with fail
  go_ret
  exact ⟨rfl, Dg⟩
end Go.Proofs.Ytedgdmblpjfaiaa
