/- EstateShares returns true for every estate and number of times. -/
import Derived.Test.YtedgdmblpjfaiaaSharesPlain
import Derived.Test.YtedgdmblpjfaiaaLawFair
namespace Go.Proofs.Ytedgdmblpjfaiaa
open Go.RowKit Go.Deep
set_option linter.unusedVariables false
set_option linter.unusedSimpArgs false

/-- The estate with more shares, being built: its block is the first of the memory behind w3. -/
structure ShW (E : Est) (R : Option Addr) (d : Nat) (t : Int) (w3 : World) (k : Nat) (v : Value) (wr : World) : Prop where
  below : Below w3.heap.size w3 wr
  y : wr.heap[w3.heap.size]? = some (.cells #[v, .slice R E.bd.length d] 25 (0, 0))
  x : wr.ownsRow (w3.heap.size + 1) 3 1 v k (cellsL (mulL E t k))

theorem ShW.start (E : Est) (R : Option Addr) (d : Nat) (t : Int) (w3 : World) : ShW E R d t w3 0 (.slice none 0 0) (w3.alloc (.cells #[.slice none 0 0, .slice R E.bd.length d] 25)) :=
  ⟨one_alloc _ _, heap_new rfl, World.ownsRow_nil _ _ _ _⟩
theorem ShW.step {E : Est} {R : Option Addr} {d : Nat} {t : Int} {w3 : World} {k : Nat} {v v' : Value} {wr w1 : World} (h : ShW E R d t w3 k v wr) {o : Obj}
    (ho : w1.ownsRow (w3.heap.size + 1) 3 1 v' (k + 1) (cellsL (mulL E t k) ++ [.int .i64 (E.share k * t)])) (hg : (wr.alloc o).grownBy w1 v.ownBlock) :
    ShW E R d t w3 (k + 1) v' (w1.setCell ⟨w3.heap.size, 0, none⟩ v') := by
  have hz := lt_some h.y
  have hk := grown_keep h.x hg
  have ge := own_ge ho
  exact {
    below := ((h.below.alloc (by omega) o).grown hg (by simp; omega) (fun g e => by have := own_ge h.x g e; omega)).setCell (by first | (simp; done) | (simp; omega)) _
    y := by rw [heap_set (by rw [hk _ (by omega) (by omega)]; exact h.y)]; rfl
    x := by rw [mulL_succ]; exact ownsRow_of_block ho (fun g e => set_block (by have := ge g e; omega)) }

/-- Both estates. -/
structure TwoIn (w w3 : World) (E F : Est) (A A' : Option Addr) (c c' : Nat) (R : Option Addr) (d : Nat) (wr : World) : Prop where
  e : EstIn w E A c R d wr
  f : EstIn w3 F A' c' R d wr
theorem TwoIn.next {w w3 : World} {E F : Est} {A A' : Option Addr} {c c' : Nat} {R : Option Addr} {d : Nat} {wr w1 : World} (h : TwoIn w w3 E F A A' c c' R d wr) (hb : Below wr.heap.size wr w1) : TwoIn w w3 E F A A' c c' R d w1 := ⟨h.e.next hb, h.f.next hb⟩

theorem mul_in {E : Est} {A R : Option Addr} {c d : Nat} {t : Int} {w w3 : World} {v : Value} {wr : World} (hW : EstIn w E A c R d w3) (h : ShW E R d t w3 E.sh.length v wr) :
    ∃ A' c', v = .slice A' (E.mul t).sh.length c' ∧ TwoIn w w3 E (E.mul t) A A' c c' R d wr := by
  have hl : (E.mul t).sh.length = E.sh.length := mulL_length _ _ _
  have hx : wr.ownsRow (w3.heap.size + 1) 3 1 v (E.mul t).sh.length (cellsL (E.mul t).sh) := by rw [hl]; exact h.x
  obtain ⟨A', c', rfl, h1, h2, h3⟩ := Ints.of_row (xs := (E.mul t).sh) hx
  have he := hW.next h.below
  exact ⟨A', c', rfl, he, ⟨h.below, h.y, ⟨h3, he.e.bd, h1, h2, he.e.bdl, he.e.bdm⟩⟩⟩

set_option maxRecDepth 100000 in
set_option maxHeartbeats 8000000 in
theorem shares_walk (E : Est) (A : Option Addr) (c : Nat) (R : Option Addr) (d : Nat) (t : Int) (w : World) (h : EIn w.heap.size w A c R d E) (wt : (Lit.int .i64 t).wf = true) :
    Calls Try.prog 7 #[eV A c R d E, .int .i64 t] w fun e w' => e = .returned (.bool true) ∧ Below w.heap.size w w' := by
  have hW0 := EstIn.start h
  clear h
  obtain ⟨i0, hi0, hz0, hz1, hz2⟩ := info_parts info3
  go_enter Try.func7, Try.ntmps7
  try dsimp only [List.append]
  go_wp2_with fail
  refine (alive_any _).mono ?_
  rintro e w1 ⟨rfl, hb1⟩
  have hW1 := hW0.next hb1
  have cbx := fun j => cell_of_row w1 _ j _ _ _ hW1.bx
  clear hb1 hW0
  go_wp2_with fail
  refine (check_ref E A c R d _ hW1.e).mono ?_
  rintro e w2 ⟨rfl, hb2⟩
  have hW2 := hW1.next hb2
  clear hb2 hW1 cbx
  have cbx := fun j => cell_of_row w2 _ j _ _ _ hW2.bx
  by_cases hc : E.code = 0
  rotate_left
  · have q1 : (E.code != 0) = true := by simpa using hc
    clear hc
    go_wp2_with fail
    go_ret
    exact ⟨rfl, hW2.below⟩
  have q1 : (E.code != 0) = false := by simpa using hc
  by_cases ht1 : t < 1
  · have q2 : decide (t < 1) = true := by simpa using ht1
    clear hc ht1
    go_wp2_with fail
    go_ret
    exact ⟨rfl, hW2.below⟩
  have q2 : decide (t < 1) = false := by simpa using ht1
  by_cases ht2 : 1000 < t
  · have q3 : decide (1000 < t) = true := by simpa using ht2
    clear hc ht1 ht2
    go_wp2_with fail
    go_ret
    exact ⟨rfl, hW2.below⟩
  have q3 : decide (1000 < t) = false := by simpa using ht2
  have hE := Est.ok_of_code hc
  have HC := Lib.hid hc
  have HE := Lib.hid hE
  have HT := Lib.hid (show 1 ≤ t by omega)
  have sb := hE.S_bd
  have sb1 := sb.1
  have sb2 := sb.2
  have m1 := mul_bd (a := E.S) (x := t) (M := 1000) (by omega) (by omega) (by omega) (by omega) (by omega)
  have hSR := Lib.hid (sumref_any E hE A c R d _ hW2.e)
  have s0 : IntKind.i64.wrap (E.S * t) = E.S * t := IntWalk.i64_in _ (by omega)
  have hn10 : E.sh.length ≤ 10 := hE.n10
  clear hc hE ht1
  by_cases ht3 : 1000 < E.S * t
  · have q4 : decide (1000 < E.S * t) = true := by simpa using ht3
    clear ht2 ht3
    go_wp2_with fail
    refine hSR.out.mono ?_
    rintro e w3 ⟨rfl, hb3⟩
    have hW3 := hW2.next hb3
    go_wp2_with fail
    go_ret
    exact ⟨rfl, hW3.below⟩
  have q4 : decide (1000 < E.S * t) = false := by simpa using ht3
  have HTS := Lib.hid (show t * E.S ≤ 1000 by rw [Int.mul_comm]; omega)
  have hc' := Lib.hid (Est.mul_code HT.out HC.out HTS.out)
  have hsb : ∀ i, i < E.sh.length → 1 ≤ E.share i ∧ E.share i ≤ 1000 := fun i hi => HE.out.share_bd i hi
  have HSB := Lib.hid hsb
  have ht10 : t ≤ 1000 := by omega
  have ht0 : 1 ≤ t := HT.out
  clear ht2 ht3 hsb sb m1
  go_wp2_with fail
  refine hSR.out.mono ?_
  rintro e w3 ⟨rfl, hb3⟩
  have hW3 := hW2.next hb3
  clear hb3 hW2 cbx hSR
  have cbx := fun j => cell_of_row w3 _ j _ _ _ hW3.bx
  have hz3 := lt_some hW3.bx
  go_wp2_with fail
  clear cbx
  go_loopw [7] (fun i wr => ∃ k : Nat, k ≤ E.sh.length ∧ i = .int .i64 k ∧ ∃ v, ShW E R d t w3 k v wr) (fun i _ => E.sh.length - (intOf i).toNat)
  case atStart => exact ⟨0, Nat.zero_le _, rfl, _, ShW.start E R d t w3⟩
  case round =>
    obtain ⟨k, hk, rfl, v, hS⟩ := hrel
    have hW4 := hW3.next hS.below
    have cbx := fun j => cell_of_row wr _ j _ _ _ hW4.bx
    have cY := fun j => cell_of_row wr _ j _ _ _ hS.y
    have fY := fun j => frozen_of_row wr _ j _ _ hS.y
    have z1 := lt_some hS.y
    by_cases hlt : k < E.sh.length
    · obtain ⟨ad, rfl, had, c1⟩ := hW4.e.sh.at_ hlt
      have i1 : (k : Int) < (E.sh.length : Int) := by omega
      have sh := HSB.out k hlt
      have m2 := mul_bd (a := gi E.sh k) (x := t) (M := 1000) (by have := sh.1; unfold Est.share at this; omega) (by have := sh.2; unfold Est.share at this; omega) (by omega) (by omega) (by omega)
      have s1 : IntKind.i64.wrap (gi E.sh k * t) = gi E.sh k * t := IntWalk.i64_in _ (by omega)
      have cY0 := cY 0
      have fY0 := fY 0
      simp at cY0
      clear cY fY m2 sh
      have fGa := fun o => frozen_of_row (wr.alloc o) _ 0 _ _ (heap_old hS.y)
      have HK := Lib.hid (fun (o : Obj) (w1 : World) (hg : ((wr.alloc o).drew).grownBy w1 v.ownBlock) => grown_cells hS.x hg)
      go_upto_region 8 with fail
      go_region_law (first | (refine step_append_lies _ (by rfl) _ _ _ (by rfl) (w3.heap.size + 1) 3 i0 _ 1 8 Try.underlying22 hi0 hz0 hz1 hz2 rfl (by omega) v k (cellsL (mulL E t k)) (by simp [Act.eval, Act.put]) ((hS.x.alloc _).drew) ⟨wr.heap.size, 0, none⟩ 1 1 [.int .i64 (gi E.sh k * t)] (by simp [Act.eval, Act.put]) (by rfl) (World.news_of_block (cs := #[.int .i64 (gi E.sh k * t)]) (t := 3) (fr := (0, 0)) (heap_alloc_new wr _)) (one_one _) (by omega) (by unfold maxLen; omega) (by omega) (by simp; omega) (wr.heap.size + 1) (by simp) ?_; intro g cap w5 hown' hgrow hat hlt'; have q2 := ((HK.out _ w5 hgrow ⟨w3.heap.size, 0, none⟩ (by simp) (by simpa using z1)).1).trans cY0; have q3 := ((HK.out _ w5 hgrow ⟨w3.heap.size, 0, none⟩ (by simp) (by simpa using z1)).2).trans fY0))
      all_goals
        have HW9 := Lib.hid (hS.step hown' (grown_drew hgrow))
        clear hown' hgrow hat hlt' q2 q3 hS
        go_wp2_with fail
        go_roundw
        case rel => exact ⟨k + 1, by omega, by go_num, _, HW9.out⟩
        case measure => simp [intOf]; omega
    · obtain rfl : k = E.sh.length := by omega
      have hl1 : (ownersL E E.m).length ≤ maxLen := by rw [ownersL_length]; have := HE.out.m30; unfold maxLen; omega
      have hl2 : (payL E).length ≤ maxLen := by rw [payL_length]; unfold maxLen; omega
      obtain ⟨A', c', rfl, hT⟩ := mul_in hW3 hS
      have ho := Est.mul_owners E t
      have hp := Est.mul_payL (E := E) HT.out
      generalize E.mul t = F at hc' hT ho hp cY ⊢
      clear hS hW4 hW3 fY cY cbx
      have cbx := fun j => cell_of_row wr _ j _ _ _ hT.e.bx
      have cby := fun j => cell_of_row wr _ j _ _ _ hT.f.bx
      have HO := Lib.hid ho
      have HP := Lib.hid hp
      have HL1 := Lib.hid hl1
      have HL2 := Lib.hid hl2
      clear ho hp hl1 hl2
      go_wp2_with fail
      refine (owners_ok HC.out hT.e.e).mono ?_
      rintro e w5 ⟨O, oc, rfl, hO, hb5⟩
      have hT5 := hT.next hb5
      clear hT hb5 cbx cby
      have cbx := fun j => cell_of_row w5 _ j _ _ _ hT5.e.bx
      have cby := fun j => cell_of_row w5 _ j _ _ _ hT5.f.bx
      go_wp2_with fail
      refine (owners_ok hc'.out hT5.f.e).mono ?_
      rintro e w6 ⟨O', oc', rfl, hO', hb6⟩
      rw [HO.out] at hO'
      have hT6 := hT5.next hb6
      have hO6 := hO.next hb6
      clear hT5 hb6 cbx cby hO
      have cbx := fun j => cell_of_row w6 _ j _ _ _ hT6.e.bx
      have cby := fun j => cell_of_row w6 _ j _ _ _ hT6.f.bx
      go_wp2_with fail
      refine (pay_ok HC.out hT6.e.e).mono ?_
      rintro e w7 ⟨P, pc, rfl, hP, hb7⟩
      have hT7 := hT6.next hb7
      have hO7 := hO6.next hb7
      have hO7' := hO'.next hb7
      clear hT6 hb7 cbx cby hO6 hO'
      have cbx := fun j => cell_of_row w7 _ j _ _ _ hT7.e.bx
      have cby := fun j => cell_of_row w7 _ j _ _ _ hT7.f.bx
      go_wp2_with fail
      refine (pay_ok hc'.out hT7.f.e).mono ?_
      rintro e w8 ⟨P', pc', rfl, hP', hb8⟩
      rw [HP.out] at hP'
      have hB := hT7.next hb8
      have hO8 := hO7.next hb8
      have hO8' := hO7'.next hb8
      have hP8 := hP.next hb8
      clear hT7 hb8 cbx cby hO7 hO7' hP
      have lO : F.m = (ownersL E E.m).length := by rw [← HO.out, ownersL_length]
      have lO2 : E.m = (ownersL E E.m).length := by rw [ownersL_length]
      have lP : F.sh.length = (payL E).length := by rw [← HP.out, payL_length]
      have lP2 : E.sh.length = (payL E).length := by rw [payL_length]
      have H1 := Lib.hid (same_any O O' oc oc' (ownersL E E.m) (ownersL E E.m) w8 hO8 hO8' HL1.out HL1.out)
      rw [← lO2, show sameL (ownersL E E.m) (ownersL E E.m) = true from decide_eq_true rfl] at H1
      rw [lO, ← lO2]
      have H2 := Lib.hid (fun (w9 : World) (hb : Below w8.heap.size w8 w9) => same_any P P' pc pc' (payL E) (payL E) w9 (hP8.next hb) (hP'.next hb) HL2.out HL2.out)
      rw [← lP2, show sameL (payL E) (payL E) = true from decide_eq_true rfl] at H2
      rw [lP, ← lP2]
      have HB := hB.e.below
      clear hB hO8 hO8' hP8 hP' lO lO2 lP lP2
      go_wp2_with fail
      refine H1.out.mono ?_
      rintro e w9 ⟨rfl, hb9⟩
      go_wp2_with fail
      refine (H2.out _ hb9).mono ?_
      rintro e wa ⟨rfl, hba⟩
      have hend : Below w.heap.size w wa := bcall (bcall HB HB.size hb9) (Nat.le_trans HB.size hb9.size) hba
      clear hb9 hba HB
      go_wp2_with fail
      go_ret
      exact ⟨rfl, hend⟩
end Go.Proofs.Ytedgdmblpjfaiaa
