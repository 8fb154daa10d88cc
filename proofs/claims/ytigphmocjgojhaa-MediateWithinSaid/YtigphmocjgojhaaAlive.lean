/- The chapter's example: alive returns true. -/
import Derived.Test.YtigphmocjgojhaaRuns
namespace Go.Proofs.Ytigphmocjgojhaa
open Go.RowKit
set_option linter.unusedVariables false
set_option linter.unusedSimpArgs false

def gB : Bg := ⟨⟨100, 60, 1, 2⟩, ⟨40, 80, 1, 2⟩, 10⟩
theorem gB_code : gB.code = 0 := by kernel_rfl
theorem gB_len1 : lenC gB false = 5 := by kernel_rfl
theorem gB_len2 : lenC gB true = 2 := by kernel_rfl
theorem gB_deal1 : dealC gB false = ⟨true, 70, 5, 1⟩ := by kernel_rfl
theorem gB_deal2 : dealC gB true = ⟨true, 70, 2, 2⟩ := by kernel_rfl
def gL5 : List (Int × Int) := [(0, 100), (1, 40), (0, 80), (1, 60), (0, 70)]
theorem gB_off5 : offL gB 5 = gL5 := by kernel_rfl
theorem gB_off2 : offL gB 2 = gL5.take 2 := by kernel_rfl

theorem want5 {w : World} {g : Nat} (h : w.heap[g]? = some (.cells #[.int .u8 0, .int .i64 100, .int .u8 1, .int .i64 40, .int .u8 0, .int .i64 80, .int .u8 1, .int .i64 60, .int .u8 0, .int .i64 70] 49 (0, 0))) :
    OffR w (.slice (some ⟨g, 0, none⟩) 5 5) gL5 ∧ OffR w (.slice (some ⟨g, 0, none⟩) 2 5) (gL5.take 2) := by
  have c := fun j => cell_of_row w g j _ _ _ h
  refine ⟨⟨by decide, Or.inr ⟨by decide, g, 0, 5, rfl, by decide, lt_some h, fun i x hx => ?_⟩⟩, ⟨by decide, Or.inr ⟨by decide, g, 0, 5, rfl, by decide, lt_some h, fun i x hx => ?_⟩⟩⟩
  · match i, hx with
    | 0, hx => simp [gL5] at hx; subst hx; exact ⟨c 0, c 1⟩
    | 1, hx => simp [gL5] at hx; subst hx; exact ⟨c 2, c 3⟩
    | 2, hx => simp [gL5] at hx; subst hx; exact ⟨c 4, c 5⟩
    | 3, hx => simp [gL5] at hx; subst hx; exact ⟨c 6, c 7⟩
    | 4, hx => simp [gL5] at hx; subst hx; exact ⟨c 8, c 9⟩
    | n + 5, hx => simp [gL5] at hx
  · match i, hx with
    | 0, hx => simp [gL5] at hx; subst hx; exact ⟨c 0, c 1⟩
    | 1, hx => simp [gL5] at hx; subst hx; exact ⟨c 2, c 3⟩
    | n + 2, hx => simp [gL5] at hx

set_option maxHeartbeats 400000 in
theorem given_any (w : World) : Calls Try.prog 22 #[] w fun e w' => e = .returned gB.v ∧ Below w.heap.size w w' := by
  go_enter Try.func22, Try.ntmps22
  go_wp2
  exact bodyPost_ret (v := gB.v) (by simp [results, Try.results22, go_sem, gB]) rfl ⟨rfl, (Below.refl _ _).alloc (Nat.le_refl _) _⟩

set_option maxHeartbeats 2000000 in
theorem alive_any (w : World) : Calls Try.prog 21 #[] w fun e w' => e = .returned (.bool true) ∧ Below w.heap.size w w' := by
  go_enter Try.func21, Try.ntmps21
  go_wp2_with fail
  refine (given_any _).mono ?_
  rintro e w0 ⟨rfl, hb0⟩
  go_wp2_with fail
  refine (Run_any gB _).mono ?_
  rintro e w1 ⟨v1, he, hr1, hb1⟩
  rw [gB_deal1, gB_code] at he
  simp only [Deal.v] at he
  subst he
  rw [gB_len1] at hr1
  have o1 := offR_of_row hr1 (by omega)
  rw [gB_off5] at o1
  have D1 := bcall hb0 hb0.size hb1
  clear hb0 hb1 hr1
  go_wp2_with fail
  refine (given_any _).mono ?_
  rintro e w2 ⟨rfl, hb2⟩
  have hC2 := heap_ext (heap_new rfl) hb2
  have p1 := (o1.ext ((Below.refl _ _).alloc (Nat.le_refl _) _)).ext hb2
  have D2 := bcall (D1.alloc D1.size _) (by simp; have := D1.size; omega) hb2
  clear hb2 o1 D1
  go_wp2_with fail
  refine (Mediate_any gB _).mono ?_
  rintro e w3 ⟨v3, he, hr3, hb3⟩
  rw [gB_deal2, gB_code] at he
  simp only [Deal.v] at he
  subst he
  rw [gB_len2] at hr3
  have o3 := offR_of_row hr3 (by omega)
  rw [gB_off2] at o3
  have hC3 := heap_ext hC2 hb3
  have q1 := p1.ext hb3
  have D3 := bcall D2 D2.size hb3
  clear hb3 hr3 hC2 p1 D2
  go_wp2_with fail
  have X4 : Below w3.heap.size w3 ((w3.alloc (.cells #[.bool true, .int .i64 70, .int .i64 2, .int .u8 2] 40)).alloc (.cells #[.int .u8 0, .int .i64 100, .int .u8 1, .int .i64 40, .int .u8 0, .int .i64 80, .int .u8 1, .int .i64 60, .int .u8 0, .int .i64 70] 49)) :=
    ((Below.refl _ _).alloc (Nat.le_refl _) _).alloc (by simp) _
  have W4 := want5 (heap_new (w := w3.alloc (.cells #[.bool true, .int .i64 70, .int .i64 2, .int .u8 2] 40)) (o := .cells #[.int .u8 0, .int .i64 100, .int .u8 1, .int .i64 40, .int .u8 0, .int .i64 80, .int .u8 1, .int .i64 60, .int .u8 0, .int .i64 70] 49) (g := w3.heap.size + 1) (by simp))
  refine (same_true _ _ _ _ (q1.ext X4) W4.1).mono ?_
  rintro e w5 ⟨rfl, hb5⟩
  have hC5 := heap_ext (heap_ext hC3 X4) hb5
  have hD5 := heap_ext (heap_old (o' := .cells #[.int .u8 0, .int .i64 100, .int .u8 1, .int .i64 40, .int .u8 0, .int .i64 80, .int .u8 1, .int .i64 60, .int .u8 0, .int .i64 70] 49) (heap_new (w := w3) (o := .cells #[.bool true, .int .i64 70, .int .i64 2, .int .u8 2] 40) rfl)) hb5
  have o5 := (o3.ext X4).ext hb5
  have W5 := W4.2.ext hb5
  have D5 := bcall (bcall D3 D3.size X4) (by simp; have := D3.size; omega) hb5
  have cC5 := fun j => cell_of_row w5 _ j _ _ _ hC5
  clear q1 W4 o3 hC3 hC5 X4 D3 hb5
  go_wp2_with fail
  refine (same_true _ _ _ _ o5 W5).mono ?_
  rintro e w6 ⟨rfl, hb6⟩
  have hD6 := heap_ext hD5 hb6
  have D6 := bcall D5 D5.size hb6
  have cD6 := fun j => cell_of_row w6 _ j _ _ _ hD6
  clear o5 W5 hD5 hD6 D5 hb6
  go_wp2_with fail
  go_ret
  exact ⟨rfl, D6⟩

end Go.Proofs.Ytigphmocjgojhaa
