/- EstateFinds returns true for every estate. -/
import Derived.Test.YtedgdmblpjfaiaaPayRef
import Derived.Test.YtedgdmblpjfaiaaAlive
namespace Go.Proofs.Ytedgdmblpjfaiaa
open Go.RowKit Go.Deep
set_option linter.unusedVariables false
set_option linter.unusedSimpArgs false

/-- The estate in its box, and the lists that the calls returned. -/
structure FdIn (w : World) (E : Est) (A : Option Addr) (c : Nat) (R : Option Addr) (d : Nat) (ls : List (Option Addr × List Int)) (wr : World) : Prop where
  e : EstIn w E A c R d wr
  l : ∀ x ∈ ls, Ints wr.heap.size wr x.1 x.2
theorem FdIn.next {w : World} {E : Est} {A : Option Addr} {c : Nat} {R : Option Addr} {d : Nat} {ls : List (Option Addr × List Int)} {wr w1 : World} (h : FdIn w E A c R d ls wr) (hb : Below wr.heap.size wr w1) : FdIn w E A c R d ls w1 :=
  ⟨h.e.next hb, fun x hx => (h.l x hx).next hb⟩
theorem FdIn.more {w : World} {E : Est} {A : Option Addr} {c : Nat} {R : Option Addr} {d : Nat} {ls : List (Option Addr × List Int)} {wr w1 : World} (h : FdIn w E A c R d ls wr) (hb : Below wr.heap.size wr w1) {O : Option Addr} {xs : List Int} (ho : Ints w1.heap.size w1 O xs) : FdIn w E A c R d (ls ++ [(O, xs)]) w1 :=
  ⟨h.e.next hb, fun x hx => by
    rcases List.mem_append.1 hx with h1 | h1
    · exact (h.l x h1).next hb
    · obtain rfl : x = (O, xs) := by simpa using h1
      exact ho⟩
theorem FdIn.get {w : World} {E : Est} {A : Option Addr} {c : Nat} {R : Option Addr} {d : Nat} {ls : List (Option Addr × List Int)} {wr : World} (h : FdIn w E A c R d ls wr) {O : Option Addr} {xs : List Int} (hm : (O, xs) ∈ ls) : Ints wr.heap.size wr O xs := h.l _ hm
theorem ownersR_max (E : Est) : (ownersR E).length ≤ maxLen := by
  unfold ownersR; split
  · rename_i h; rw [ownersL_length]; have := (Est.ok_of_code h).m30; unfold maxLen; omega
  · simp
theorem claimsR_max (E : Est) : (claimsR E).length ≤ maxLen := by
  unfold claimsR; split
  · rename_i h; rw [claimsL_length]; have := (Est.ok_of_code h).n10; have e : E.n = E.sh.length := rfl; unfold maxLen; omega
  · simp
theorem exactR_max (E : Est) : (exactR E).length ≤ maxLen := by
  unfold exactR; split
  · rename_i h; rw [exactL, mapL_length]; have := (Est.ok_of_code h).n10; have e : E.n = E.sh.length := rfl; unfold maxLen; omega
  · simp
theorem payR_max (E : Est) : (payR E).length ≤ maxLen := by
  unfold payR; split
  · rename_i h; rw [payL_length]; have := (Est.ok_of_code h).n10; have e : E.n = E.sh.length := rfl; unfold maxLen; omega
  · simp
theorem same_self {A B : Option Addr} {xs : List Int} {w : World} (c d : Nat) (hx : Ints w.heap.size w A xs) (hy : Ints w.heap.size w B xs) (hm : xs.length ≤ maxLen) :
    Calls Try.prog 25 #[.slice A xs.length c, .slice B xs.length d] w fun e w' => e = .returned (.bool true) ∧ Below w.heap.size w w' := by
  have := same_any A B c d xs xs w hx hy hm hm
  rwa [show sameL xs xs = true from decide_eq_true rfl] at this

theorem FdIn.same {w : World} {E : Est} {A : Option Addr} {c : Nat} {R : Option Addr} {d : Nat} {ls : List (Option Addr × List Int)} {w0 W : World} (h : FdIn w E A c R d ls w0) (hm : ∀ x ∈ ls, x.2.length ≤ maxLen) (hb : Below w0.heap.size w0 W)
    {O P : Option Addr} {xs : List Int} {oc pc : Nat} (h1 : (O, xs) ∈ ls) (h2 : (P, xs) ∈ ls) :
    Calls Try.prog 25 #[.slice O xs.length oc, .slice P xs.length pc] W fun e w' => e = .returned (.bool true) ∧ Below W.heap.size W w' :=
  same_self oc pc ((h.next hb).get h1) ((h.next hb).get h2) (hm _ h1)

set_option maxRecDepth 100000 in
set_option maxHeartbeats 8000000 in
theorem finds_walk (E : Est) (A : Option Addr) (c : Nat) (R : Option Addr) (d : Nat) (w : World) (h : EIn w.heap.size w A c R d E) :
    Calls Try.prog 4 #[eV A c R d E] w fun e w' => e = .returned (.bool true) ∧ Below w.heap.size w w' := by
  have hW0 : FdIn w E A c R d [] _ := ⟨EstIn.start h, fun _ hx => by simp at hx⟩
  clear h
  go_enter Try.func4, Try.ntmps4
  try dsimp only [List.append]
  go_wp2_with fail
  refine (great_any E A c R d _ hW0.e.e).mono ?_
  rintro e w0 ⟨rfl, hb⟩
  have g0 := hW0.next hb
  have cbx := fun j => cell_of_row w0 _ j _ _ _ g0.e.bx
  clear hb hW0
  by_cases hg : great E = true
  · go_wp2_with fail
    go_ret
    exact ⟨rfl, g0.e.below⟩
  have hg' : great E = false := by simpa using hg
  clear hg
  go_wp2_with fail
  refine (owners_any E A c R d _ g0.e.e).mono ?_
  rintro e w1 ⟨P1, cP1, rfl, hP1, hb⟩
  have g1 := g0.more hb hP1
  clear hb g0 hP1 cbx
  have cbx := fun j => cell_of_row w1 _ j _ _ _ g1.e.bx
  go_wp2_with fail
  refine (ownersref_any E A c R d _ g1.e.e).mono ?_
  rintro e w2 ⟨P2, cP2, rfl, hP2, hb⟩
  have g2 := g1.more hb hP2
  clear hb g1 hP2 cbx
  have cbx := fun j => cell_of_row w2 _ j _ _ _ g2.e.bx
  go_wp2_with fail
  refine (claims_any E A c R d _ g2.e.e).mono ?_
  rintro e w3 ⟨P3, cP3, rfl, hP3, hb⟩
  have g3 := g2.more hb hP3
  clear hb g2 hP3 cbx
  have cbx := fun j => cell_of_row w3 _ j _ _ _ g3.e.bx
  go_wp2_with fail
  refine (claimsref_any E A c R d _ g3.e.e).mono ?_
  rintro e w4 ⟨P4, cP4, rfl, hP4, hb⟩
  have g4 := g3.more hb hP4
  clear hb g3 hP4 cbx
  have cbx := fun j => cell_of_row w4 _ j _ _ _ g4.e.bx
  go_wp2_with fail
  refine (pool_any E A c R d _ g4.e.e).mono ?_
  rintro e w5 ⟨rfl, hb⟩
  have g5 := g4.next hb
  clear hb g4 cbx
  have cbx := fun j => cell_of_row w5 _ j _ _ _ g5.e.bx
  go_wp2_with fail
  refine (poolref_any E A c R d _ g5.e.e).mono ?_
  rintro e w6 ⟨rfl, hb⟩
  have g6 := g5.next hb
  clear hb g5 cbx
  have cbx := fun j => cell_of_row w6 _ j _ _ _ g6.e.bx
  go_wp2_with fail
  refine (exact_any E A c R d _ g6.e.e).mono ?_
  rintro e w7 ⟨P5, cP5, rfl, hP5, hb⟩
  have g7 := g6.more hb hP5
  clear hb g6 hP5 cbx
  have cbx := fun j => cell_of_row w7 _ j _ _ _ g7.e.bx
  go_wp2_with fail
  refine (exactref_any E A c R d _ g7.e.e).mono ?_
  rintro e w8 ⟨P6, cP6, rfl, hP6, hb⟩
  have g8 := g7.more hb hP6
  clear hb g7 hP6 cbx
  have cbx := fun j => cell_of_row w8 _ j _ _ _ g8.e.bx
  go_wp2_with fail
  refine (pay_any E A c R d _ g8.e.e).mono ?_
  rintro e w9 ⟨P7, cP7, rfl, hP7, hb⟩
  have g9 := g8.more hb hP7
  clear hb g8 hP7 cbx
  have cbx := fun j => cell_of_row w9 _ j _ _ _ g9.e.bx
  go_wp2_with fail
  refine (payref_any E A c R d _ g9.e.e).mono ?_
  rintro e w10 ⟨P8, cP8, rfl, hP8, hb⟩
  have g10 := g9.more hb hP8
  clear hb g9 hP8 cbx
  have cbx := fun j => cell_of_row w10 _ j _ _ _ g10.e.bx
  have HG := Lib.hid g10
  have hbw := Lib.hid g10.e.below
  go_upto_region 13 with fail
  clear g10 cbx
  have c23 := Lib.hid (fun (W : World) (hb : Below w10.heap.size w10 W) => check_any E A c R d W (HG.out.next hb).e.e)
  have c24 := Lib.hid (fun (W : World) (hb : Below w10.heap.size w10 W) => check_ref E A c R d W (HG.out.next hb).e.e)
  have m1 := ownersR_max E
  have m2 := claimsR_max E
  have m3 := exactR_max E
  have m4 := payR_max E
  generalize ownersR E = lo at HG m1 ⊢
  generalize claimsR E = lc at HG m2 ⊢
  generalize exactR E = lx at HG m3 ⊢
  generalize payR E = lp at HG m4 ⊢
  generalize poolR E = np
  generalize E.code = cd at c23 c24 ⊢
  have HM := Lib.hid (show ∀ x ∈ ([] ++ [(P1, lo)] ++ [(P2, lo)] ++ [(P3, lc)] ++ [(P4, lc)] ++ [(P5, lx)] ++ [(P6, lx)] ++ [(P7, lp)] ++ [(P8, lp)]), x.2.length ≤ maxLen by
    intro x hx
    simp only [List.nil_append, List.mem_append, List.mem_singleton] at hx
    rcases hx with ((((((h | h) | h) | h) | h) | h) | h) | h <;> (subst h; assumption))
  clear m1 m2 m3 m4
  have cb := fun (e : Ext w10) => HG.out.next e.h
  have cbx := fun (e : Ext w10) j => cell_of_row e.w _ j _ _ _ (HG.out.next e.h).e.bx
  clear cb
  refine wp_region_ext (by kernel_rfl) (by kernel_rfl) ?_
  repeat (first | go_big_quiet_step ((first | (go_at_call 23; exact calls_ext (c23.out _ (Ext.h _))) | (go_at_call 24; exact calls_ext (c24.out _ (Ext.h _))) | (go_at_call 25; exact calls_ext (HG.out.same HM.out (Ext.h _) (by simp) (by simp))))) | quiet_step ((first | (go_at_call 23; exact calls_ext (c23.out _ (Ext.h _))) | (go_at_call 24; exact calls_ext (c24.out _ (Ext.h _))) | (go_at_call 25; exact calls_ext (HG.out.same HM.out (Ext.h _) (by simp) (by simp))))))
  refine wpQuiet_nil ?_
  rintro _ ⟨⟨w11, hb11⟩, rfl⟩
  go_wp2_with fail
  refine (HG.out.same HM.out hb11 (by simp) (by simp)).mono ?_
  rintro e w12 ⟨rfl, hb12⟩
  have hb12' := bcall hb11 hb11.size hb12
  go_wp2_with fail
  refine (HG.out.same HM.out hb12' (by simp) (by simp)).mono ?_
  rintro e w13 ⟨rfl, hb13⟩
  have hend := bcall hbw.out hbw.out.size (bcall hb12' hb12'.size hb13)
  clear hb11 hb12 hb12' hb13 cbx
  go_wp2_with fail
  go_ret
  exact ⟨rfl, hend⟩

end Go.Proofs.Ytedgdmblpjfaiaa
