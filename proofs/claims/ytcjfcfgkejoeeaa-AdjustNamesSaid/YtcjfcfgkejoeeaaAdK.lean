/- Small functions of the laws of adjust: comparisons, the chapter's goods. -/
import Derived.Test.YtcjfcfgkejoeeaaAdD
import Derived.Test.YtcjfcfgkejoeeaaDvG
import Derived.Test.YtcjfcfgkejoeeaaDvD
import Derived.Test.YtcjfcfgkejoeeaaFlow
namespace Go.Proofs.Ytcjfcfgkejoeeaa
open Go.RowKit Go.Deep
set_option linter.unusedVariables false
set_option linter.unusedSimpArgs false

/-- Whether two lists are the same. -/
def sameL (a b : List Int) : Bool := decide (a = b)

set_option maxHeartbeats 1000000 in
theorem same_any (A B : Option Addr) (c d : Nat) (xs ys : List Int) (w : World) (hx : Ints w.heap.size w A xs) (hy : Ints w.heap.size w B ys) (hm : xs.length ≤ maxLen) (hm' : ys.length ≤ maxLen) :
    Calls Try.prog 46 #[.slice A xs.length c, .slice B ys.length d] w fun e w' => e = .returned (.bool (sameL xs ys)) ∧ Below w.heap.size w w' := by
  unfold maxLen at hm hm'
  by_cases hl : xs.length = ys.length
  · have hne : ((xs.length : Int) != (ys.length : Int)) = false := by simp [hl]
    have HL := Lib.hid hl
    clear hl
    go_enter Try.func46, Try.ntmps46
    go_wp2
    go_loopw [5] (fun i wr => ∃ k : Nat, k ≤ xs.length ∧ i = .int .i64 k ∧ Hid (∀ j, j < k → gi xs j = gi ys j) ∧ Below w.heap.size w wr) (fun i _ => xs.length - (intOf i).toNat)
    case atStart => exact ⟨0, Nat.zero_le _, rfl, fun j hj => by omega, Below.refl _ _⟩
    case round =>
      obtain ⟨k, hk, rfl, hno, hB⟩ := hrel
      by_cases hlt : k < xs.length
      · obtain ⟨ad, rfl, hb, hc⟩ := (hx.below hB).at_ hlt
        have hlt' : k < ys.length := by rw [← HL.out]; exact hlt
        obtain ⟨bd, rfl, hb', hc'⟩ := (hy.below hB).at_ hlt'
        by_cases hq : gi xs k = gi ys k
        · have hqb : (gi xs k != gi ys k) = false := by simp [hq]
          have HQ := Lib.hid hq
          clear hq
          go_wp2_with fail
          go_quiet (fail)
          go_wp2
          go_roundw
          case rel => exact ⟨k + 1, by omega, by go_num, Lib.hid (fun j hj => by
            by_cases e : j = k
            · subst e; exact HQ.out
            · exact hno.out j (by omega)), below_drewN hB _⟩
          case measure => simp [intOf]; omega
        · have hqb : (gi xs k != gi ys k) = true := by simp [hq]
          have HQ := Lib.hid hq
          clear hq
          go_wp2_with fail
          go_quiet (fail)
          go_wp2
          go_ret
          exact ⟨ret_bool (by simp only [sameL]; rw [Bool.false_eq, decide_eq_false_iff_not]; rintro rfl; exact HQ.out rfl), below_drewN hB _⟩
      · obtain rfl : k = xs.length := by omega
        go_wp2
        go_ret
        exact ⟨ret_bool (by simp only [sameL]; rw [Bool.true_eq, decide_eq_true_iff]; exact gi_ext HL.out hno.out), hB⟩
  · have hne : ((xs.length : Int) != (ys.length : Int)) = true := by simp; omega
    have HL := Lib.hid hl
    clear hl
    go_enter Try.func46, Try.ntmps46
    go_wp2
    go_ret
    exact ⟨ret_bool (by simp only [sameL]; rw [Bool.false_eq, decide_eq_false_iff_not]; rintro rfl; exact HL.out rfl), Below.refl _ _⟩


/-- Divisions that are alike are found so. -/
theorem sameL_self (l : List Int) : sameL l l = true := by simp [sameL]
set_option maxHeartbeats 2000000 in
theorem ptsame_any (d : Pt) (O P : Option Addr) (oc pc : Nat) (w : World) (hd : PIn w.heap.size w O oc d) (he : PIn w.heap.size w P pc d) :
    Calls Try.prog 19 #[pV O oc d, pV P pc d] w fun e w' => e = .returned (.bool true) ∧ Below w.heap.size w w' := by
  have HBel0 := Lib.hid (show Below w.heap.size w ((w.alloc (pB O oc d)).alloc (pB P pc d)) from (one_alloc w _).alloc (by simp) _)
  have h0 : ((w.alloc (pB O oc d)).alloc (pB P pc d)).heap[w.heap.size]? = some (pB O oc d) := heap_old (heap_new rfl)
  have h1 : ((w.alloc (pB O oc d)).alloc (pB P pc d)).heap[w.heap.size + 1]? = some (pB P pc d) := heap_new (by simp)
  have HS := Lib.hid (fun (W : World) (hW : Below w.heap.size w W) => sameL_self d.ow ▸ same_any O P oc pc d.ow d.ow W (hd.next hW).ow (he.next hW).ow (Nat.le_trans hd.len hd.cap) (Nat.le_trans hd.len hd.cap))
  clear hd he
  have c0 := fun j => cell_of_row _ _ j _ _ _ h0
  have c1 := fun j => cell_of_row _ _ j _ _ _ h1
  have z0 := lt_some h0
  have z1 := lt_some h1
  clear h0 h1
  go_enter Try.func19, Try.ntmps19
  go_wp2_with fail
  refine (HS.out _ HBel0.out).mono ?_
  rintro e w1 ⟨rfl, hb1⟩
  go_wp2_with fail
  go_ret
  exact ⟨rfl, bcall HBel0.out HBel0.out.size hb1⟩

/-- What hangs on nothing but what was made since. -/
def Fresh (B0 : Nat) (w : World) (F : World → Prop) : Prop := ∀ W : World, w.heap.size ≤ W.heap.size → (∀ g, B0 ≤ g → g < w.heap.size → W.heap[g]? = w.heap[g]?) → F W
theorem Fresh.here {B0 : Nat} {w : World} {F : World → Prop} (h : Fresh B0 w F) : F w := h w (Nat.le_refl _) (fun _ _ _ => rfl)
theorem Fresh.ext {B0 : Nat} {w W : World} {F : World → Prop} (h : Fresh B0 w F) (hb : Below w.heap.size w W) : F W := h W hb.size (fun g _ hg => hb.block g hg)
theorem Fresh.rk {B0 : Nat} {w0 w1 W : World} {X : List Nat} {F : World → Prop} (h : Fresh B0 w1 F) (k : RK w0 w1 X W) (hX : ∀ g, g ∈ X → g < B0 ∨ w1.heap.size ≤ g) : F W :=
  h W k.s (fun g h1 h2 => k.k g h2 (fun hm => (hX g hm).elim (fun q => by omega) (fun q => by omega)))
def GdRes (bs : List (List Int)) (w : World) (e : Ending) (w' : World) : Prop := ∃ (A : Option Addr) (c : Nat), e = .returned (gV A c bs) ∧ Fresh w.heap.size w' (fun W => GIn W.heap.size W A c bs) ∧ Below w.heap.size w w'
theorem Ints.of_lit {B g : Nat} {w : World} {cs : Array Value} {t : TypeId} {fr : Nat × Nat} {xs : List Int} (h : w.heap[g]? = some (.cells cs t fr)) (hB : g < B) (hc : cs.toList = xs.map (Value.int .i64)) : Ints B w (some ⟨g, 0, none⟩) xs :=
  fun h0 => ⟨_, rfl, hB, fun k hk => by
    rw [add_mk, Nat.zero_add, cell_of_row w g k cs t fr h, ← Array.getElem?_toList, hc, List.getElem?_map, List.getElem?_eq_getElem hk, gi_get hk]; rfl⟩
/-- Goods of two agents, written out. -/
theorem gd_lit {B0 g g1 g2 n : Nat} {w : World} {cs0 cs1 : Array Value} {t : TypeId} {bs : List (List Int)} (hg : B0 ≤ g) (hg1 : B0 ≤ g1) (hg2 : B0 ≤ g2) (hlt : g < w.heap.size)
    (h1 : w.heap[g1]? = some (.cells cs0 t)) (h2 : w.heap[g2]? = some (.cells cs1 t)) (h3 : w.heap[g]? = some (.cells #[.slice (some ⟨g1, 0, none⟩) n n, .slice (some ⟨g2, 0, none⟩) n n] 25))
    (l0 : (gr bs 0).length = n) (l1 : (gr bs 1).length = n) (c0 : cs0.toList = (gr bs 0).map (Value.int .i64)) (c1 : cs1.toList = (gr bs 1).map (Value.int .i64)) (two : bs.length = 2) (hn : n ≤ 100) :
    Fresh B0 w (fun W => GIn W.heap.size W (some ⟨g, 0, none⟩) 2 bs) := by
  intro W hs hk
  have z1 := lt_some h1
  have z2 := lt_some h2
  have k1 := (hk g1 hg1 z1).trans h1
  have k2 := (hk g2 hg2 z2).trans h2
  have k3 := (hk g hg hlt).trans h3
  refine ⟨fun _ => ⟨_, rfl, show g < _ by omega, fun i hi => ?_⟩, by omega, by unfold maxLen; omega⟩
  match i, (show i < 2 by omega) with
  | 0, _ => exact ⟨_, n, by rw [add_mk, cell_of_row _ _ _ _ _ _ k3, l0]; rfl, by omega, by unfold maxLen; omega, Ints.of_lit k1 (by omega) c0⟩
  | 1, _ => exact ⟨_, n, by rw [add_mk, cell_of_row _ _ _ _ _ _ k3, l1]; rfl, by omega, by unfold maxLen; omega, Ints.of_lit k2 (by omega) c1⟩

def givenL : List (List Int) := [[6, 3, 1], [2, 3, 5]]
set_option maxHeartbeats 1000000 in
theorem given_any (w : World) : Calls Try.prog 21 #[] w (GdRes givenL w) := by
  go_enter Try.func21, Try.ntmps21
  go_wp2_with fail
  have h1 : ((((w.alloc (.cells #[.slice (some ⟨w.heap.size + 1 + 1 + 1, 0, none⟩) 2 2] 24)).alloc (.cells #[.int .i64 6, .int .i64 3, .int .i64 1] 3)).alloc (.cells #[.int .i64 2, .int .i64 3, .int .i64 5] 3)).alloc (.cells #[.slice (some ⟨w.heap.size + 1, 0, none⟩) 3 3, .slice (some ⟨w.heap.size + 1 + 1, 0, none⟩) 3 3] 25)).heap[w.heap.size + 1]? = some (.cells #[.int .i64 6, .int .i64 3, .int .i64 1] 3) := heap_old (heap_old (heap_new (by simp)))
  have h2 : ((((w.alloc (.cells #[.slice (some ⟨w.heap.size + 1 + 1 + 1, 0, none⟩) 2 2] 24)).alloc (.cells #[.int .i64 6, .int .i64 3, .int .i64 1] 3)).alloc (.cells #[.int .i64 2, .int .i64 3, .int .i64 5] 3)).alloc (.cells #[.slice (some ⟨w.heap.size + 1, 0, none⟩) 3 3, .slice (some ⟨w.heap.size + 1 + 1, 0, none⟩) 3 3] 25)).heap[w.heap.size + 1 + 1]? = some (.cells #[.int .i64 2, .int .i64 3, .int .i64 5] 3) := heap_old (heap_new (by simp))
  have h3 : ((((w.alloc (.cells #[.slice (some ⟨w.heap.size + 1 + 1 + 1, 0, none⟩) 2 2] 24)).alloc (.cells #[.int .i64 6, .int .i64 3, .int .i64 1] 3)).alloc (.cells #[.int .i64 2, .int .i64 3, .int .i64 5] 3)).alloc (.cells #[.slice (some ⟨w.heap.size + 1, 0, none⟩) 3 3, .slice (some ⟨w.heap.size + 1 + 1, 0, none⟩) 3 3] 25)).heap[w.heap.size + 1 + 1 + 1]? = some (.cells #[.slice (some ⟨w.heap.size + 1, 0, none⟩) 3 3, .slice (some ⟨w.heap.size + 1 + 1, 0, none⟩) 3 3] 25) := heap_new (by simp)
  have hb : Below w.heap.size w ((((w.alloc (.cells #[.slice (some ⟨w.heap.size + 1 + 1 + 1, 0, none⟩) 2 2] 24)).alloc (.cells #[.int .i64 6, .int .i64 3, .int .i64 1] 3)).alloc (.cells #[.int .i64 2, .int .i64 3, .int .i64 5] 3)).alloc (.cells #[.slice (some ⟨w.heap.size + 1, 0, none⟩) 3 3, .slice (some ⟨w.heap.size + 1 + 1, 0, none⟩) 3 3] 25)) := (((one_alloc w _).alloc (by simp) _).alloc (by simp; omega) _).alloc (by simp; omega) _
  refine bodyPost_ret (v := .agg #[.slice (some ⟨w.heap.size + 1 + 1 + 1, 0, none⟩) 2 2]) (by simp [results, Try.results21, go_sem]) rfl ⟨_, 2, rfl, ?_, hb⟩
  exact gd_lit (g := w.heap.size + 1 + 1 + 1) (by omega) (by omega) (by omega) (by first | (simp; done) | (simp; omega)) h1 h2 h3 rfl rfl rfl rfl (by decide) (by decide)

def equalL : List (List Int) := [[5, 5], [5, 5]]
set_option maxHeartbeats 1000000 in
theorem equal_any (w : World) : Calls Try.prog 47 #[] w (GdRes equalL w) := by
  go_enter Try.func47, Try.ntmps47
  go_wp2_with fail
  have h1 : ((((w.alloc (.cells #[.slice (some ⟨w.heap.size + 1 + 1 + 1, 0, none⟩) 2 2] 24)).alloc (.cells #[.int .i64 5, .int .i64 5] 3)).alloc (.cells #[.int .i64 5, .int .i64 5] 3)).alloc (.cells #[.slice (some ⟨w.heap.size + 1, 0, none⟩) 2 2, .slice (some ⟨w.heap.size + 1 + 1, 0, none⟩) 2 2] 25)).heap[w.heap.size + 1]? = some (.cells #[.int .i64 5, .int .i64 5] 3) := heap_old (heap_old (heap_new (by simp)))
  have h2 : ((((w.alloc (.cells #[.slice (some ⟨w.heap.size + 1 + 1 + 1, 0, none⟩) 2 2] 24)).alloc (.cells #[.int .i64 5, .int .i64 5] 3)).alloc (.cells #[.int .i64 5, .int .i64 5] 3)).alloc (.cells #[.slice (some ⟨w.heap.size + 1, 0, none⟩) 2 2, .slice (some ⟨w.heap.size + 1 + 1, 0, none⟩) 2 2] 25)).heap[w.heap.size + 1 + 1]? = some (.cells #[.int .i64 5, .int .i64 5] 3) := heap_old (heap_new (by simp))
  have h3 : ((((w.alloc (.cells #[.slice (some ⟨w.heap.size + 1 + 1 + 1, 0, none⟩) 2 2] 24)).alloc (.cells #[.int .i64 5, .int .i64 5] 3)).alloc (.cells #[.int .i64 5, .int .i64 5] 3)).alloc (.cells #[.slice (some ⟨w.heap.size + 1, 0, none⟩) 2 2, .slice (some ⟨w.heap.size + 1 + 1, 0, none⟩) 2 2] 25)).heap[w.heap.size + 1 + 1 + 1]? = some (.cells #[.slice (some ⟨w.heap.size + 1, 0, none⟩) 2 2, .slice (some ⟨w.heap.size + 1 + 1, 0, none⟩) 2 2] 25) := heap_new (by simp)
  have hb : Below w.heap.size w ((((w.alloc (.cells #[.slice (some ⟨w.heap.size + 1 + 1 + 1, 0, none⟩) 2 2] 24)).alloc (.cells #[.int .i64 5, .int .i64 5] 3)).alloc (.cells #[.int .i64 5, .int .i64 5] 3)).alloc (.cells #[.slice (some ⟨w.heap.size + 1, 0, none⟩) 2 2, .slice (some ⟨w.heap.size + 1 + 1, 0, none⟩) 2 2] 25)) := (((one_alloc w _).alloc (by simp) _).alloc (by simp; omega) _).alloc (by simp; omega) _
  refine bodyPost_ret (v := .agg #[.slice (some ⟨w.heap.size + 1 + 1 + 1, 0, none⟩) 2 2]) (by simp [results, Try.results47, go_sem]) rfl ⟨_, 2, rfl, ?_, hb⟩
  exact gd_lit (g := w.heap.size + 1 + 1 + 1) (by omega) (by omega) (by omega) (by first | (simp; done) | (simp; omega)) h1 h2 h3 rfl rfl rfl rfl (by decide) (by decide)

theorem whole_any (O : Option Addr) (n oc : Nat) (w : World) : Calls Try.prog 24 #[.slice O n oc] w fun e w' => e = .returned (.agg #[.slice O n oc, .int .i64 (-1), .int .i64 0, .int .i64 1]) ∧ Below w.heap.size w w' := by
  go_enter Try.func24, Try.ntmps24
  go_wp2_with fail
  refine bodyPost_ret (v := .agg #[.slice O n oc, .int .i64 (-1), .int .i64 0, .int .i64 1]) (by simp [results, Try.results24, go_sem]) rfl ⟨rfl, ?_⟩
  exact one_alloc _ _
/-- Whether goods can be divided. -/
def fitB (bs : List (List Int)) : Bool := !decide (Great bs []) && decide (adCode bs = 0)
set_option maxHeartbeats 1000000 in
theorem fit_any (bs : List (List Int)) (A : Option Addr) (c : Nat) (w : World) (h : GIn w.heap.size w A c bs) :
    Calls Try.prog 25 #[gV A c bs] w fun e w' => e = .returned (.bool (fitB bs)) ∧ Below w.heap.size w w' := by
  have HB := Lib.hid h
  have HG := Lib.hid (fun (W : World) (hW : Below w.heap.size w W) => great_any bs A c none 0 [] W (h.next hW) (by unfold maxLen; simp))
  have HC := Lib.hid (fun (W : World) (hW : Below w.heap.size w W) => facheck_any bs A c W (h.next hW))
  clear h
  have h0 : (w.alloc (gB A c bs)).heap[w.heap.size]? = some (gB A c bs) := heap_new rfl
  by_cases hg : Great bs []
  · have q : decide (Great bs []) = true := decide_eq_true hg
    have HE := Lib.hid (show fitB bs = false by unfold fitB; rw [q]; rfl)
    rw [HE.out]
    clear HE hg HC
    go_enter Try.func25, Try.ntmps25
    have c0 := fun j => cell_of_row _ _ j _ _ _ h0
    go_wp2_with fail
    refine (HG.out _ (one_alloc _ _)).mono ?_
    rintro e w1 ⟨rfl, hb1⟩
    go_wp2_with fail
    go_ret
    exact ⟨rfl, bcall (one_alloc w (gB A c bs)) (one_alloc w (gB A c bs)).size hb1⟩
  · have q : decide (Great bs []) = false := decide_eq_false hg
    have q2 : (adCode bs == 0) = decide (adCode bs = 0) := by rw [Bool.eq_iff_iff]; simp
    have HE := Lib.hid (show fitB bs = decide (adCode bs = 0) by unfold fitB; rw [q]; rfl)
    rw [HE.out]
    clear HE hg
    go_enter Try.func25, Try.ntmps25
    have c0 := fun j => cell_of_row _ _ j _ _ _ h0
    go_wp2_with fail
    refine (HG.out _ (one_alloc _ _)).mono ?_
    rintro e w1 ⟨rfl, hb1⟩
    have h1 := heap_ext h0 hb1
    have hB1 := Lib.hid (bcall (one_alloc w (gB A c bs)) (one_alloc w (gB A c bs)).size hb1)
    clear c0 h0 hb1
    have c0 := fun j => cell_of_row _ _ j _ _ _ h1
    go_wp2_with fail
    refine (HC.out _ hB1.out).mono ?_
    rintro e w2 ⟨rfl, hb2⟩
    go_wp2_with fail
    go_ret
    exact ⟨by simp [q2], bcall hB1.out hB1.out.size hb2⟩
end Go.Proofs.Ytcjfcfgkejoeeaa
