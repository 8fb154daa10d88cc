/- The reference's Pool and Exact, walked. -/
import Derived.Test.YtedgdmblpjfaiaaFindsC
import Derived.Test.YtedgdmblpjfaiaaFairPlain
import Derived.Deep.RegionHeld3
namespace Go.Proofs.Ytedgdmblpjfaiaa
open Go.RowKit Go.Deep
set_option linter.unusedVariables false
set_option linter.unusedSimpArgs false

/-- The estate in its box, and the owners' list. -/
structure OwnIn (w : World) (E : Est) (A : Option Addr) (c : Nat) (R : Option Addr) (d : Nat) (O : Option Addr) (wr : World) : Prop where
  e : EstIn w E A c R d wr
  o : Ints wr.heap.size wr O (ownersL E E.m)
theorem OwnIn.next {w : World} {E : Est} {A : Option Addr} {c : Nat} {R : Option Addr} {d : Nat} {O : Option Addr} {wr w1 : World} (h : OwnIn w E A c R d O wr) (hb : Below wr.heap.size wr w1) : OwnIn w E A c R d O w1 :=
  ⟨h.e.next hb, h.o.next hb⟩
theorem OwnIn.worth {w : World} {E : Est} {A : Option Addr} {c : Nat} {R : Option Addr} {d : Nat} {O : Option Addr} {wr : World} (h : OwnIn w E A c R d O wr) (hE : E.Ok) (oc : Nat) {i : Nat} (hi : i < E.n) :
    Calls Try.prog 29 #[eV A c R d E, .slice O E.m oc, .int .i64 i] wr fun e w' => e = .returned (.int .i64 (E.worth i E.m)) ∧ Below wr.heap.size wr w' := by
  have q := worth_any E hE A c R d O oc (ownersL E E.m) i hi (by rw [ownersL_length]; exact Nat.le_refl _) wr h.e.e h.o
  rw [ownersL_length, worth_owners] at q
  exact q
theorem mul_le2 {a b A B : Int} (a0 : 0 ≤ a) (aA : a ≤ A) (b0 : 0 ≤ b) (bB : b ≤ B) : 0 ≤ a * b ∧ a * b ≤ A * B :=
  ⟨Int.mul_nonneg a0 b0, Int.mul_le_mul aA bB b0 (by omega)⟩

def poolTo (E : Est) (k : Nat) : Int := sumTo (fun i => E.S * E.worth i E.m - E.claim i) k
theorem poolTo_all {E : Est} (h : E.Ok) : poolTo E E.sh.length = E.pool := by
  unfold poolTo Est.pool
  rw [sumTo_sub, sumTo_mul]; rfl

set_option maxRecDepth 100000 in
set_option maxHeartbeats 4000000 in
theorem poolref_any (E : Est) (A : Option Addr) (c : Nat) (R : Option Addr) (d : Nat) (w : World) (h : EIn w.heap.size w A c R d E) :
    Calls Try.prog 18 #[eV A c R d E] w fun e w' => e = .returned (.tuple #[.int .i64 (poolR E), .int .i64 E.code]) ∧ Below w.heap.size w w' := by
  have hW0 := EstIn.start h
  clear h
  go_enter Try.func18, Try.ntmps18
  go_wp2_with fail
  refine (ownersref_any E A c R d _ hW0.e).mono ?_
  rintro e w2 ⟨O, oc, rfl, hO, hb2⟩
  have hW := hW0.next hb2
  clear hb2 hW0
  by_cases hc : E.code = 0
  rotate_left
  · have q1 : (E.code != 0) = true := by simpa using hc
    have HN := Lib.hid hc
    clear hc
    go_wp2_with fail
    go_ret2
    exact ⟨ret_two (vint (by rw [poolR, if_neg HN.out])) rfl, hW.below⟩
  have hE := Est.ok_of_code hc
  have HC := Lib.hid hc
  have HE := Lib.hid hE
  have q1 : (E.code != 0) = false := by simpa using hc
  have hn10 : E.sh.length ≤ 10 := hE.n10
  have hol : (ownersR E).length = E.m := by rw [ownersR, if_pos hc, ownersL_length]
  rw [hol]
  have hW3 : OwnIn w E A c R d O w2 := ⟨hW, by have := hO; rw [ownersR, if_pos hc] at this; exact this⟩
  clear hc hE hol hO hW
  go_wp2_with fail
  go_loopw [6, 7] (fun s i wr => ∃ k : Nat, k ≤ E.sh.length ∧ i = .int .i64 k ∧ s = .int .i64 (poolTo E k) ∧ OwnIn w E A c R d O wr) (fun _ i _ => E.sh.length - (intOf i).toNat)
  case atStart => exact ⟨0, Nat.zero_le _, rfl, rfl, hW3⟩
  case round =>
    clear hW3
    obtain ⟨k, hk, rfl, rfl, hW⟩ := hrel
    have cbx := fun j => cell_of_row wr _ j _ _ _ hW.e.bx
    have zbx := lt_some hW.e.bx
    by_cases hlt : k < E.sh.length
    · have i1 : (k : Int) < (E.sh.length : Int) := by omega
      have c1 := Lib.hid (fun (W : World) (hb : Below wr.heap.size wr W) => sumref_any E HE.out A c R d W (hW.next hb).e.e)
      have c2 := Lib.hid (fun (W : World) (hb : Below wr.heap.size wr W) => (hW.next hb).worth HE.out oc (i := k) hlt)
      have c3 := Lib.hid (fun (W : World) (hb : Below wr.heap.size wr W) => claim_any E HE.out A c R d k hlt W (hW.next hb).e.e)
      have b1 := HE.out.S_bd
      have b2 := HE.out.worth_bd k hlt
      have b3 := HE.out.claim_bd k hlt
      have m1 := mul_le2 (a := E.S) (b := E.worth k E.m) (A := 1000) (B := 30000000) (by omega) b1.2 b2.1 b2.2
      have m2 := sumTo_bd (f := fun i => E.S * E.worth i E.m - E.claim i) (lo := -30000000000) (hi := 30000000000) (k := k) (fun i hi => by
        have b2 := HE.out.worth_bd i (Nat.lt_trans hi hlt)
        have b3 := HE.out.claim_bd i (Nat.lt_trans hi hlt)
        have := mul_le2 (a := E.S) (b := E.worth i E.m) (A := 1000) (B := 30000000) (by omega) b1.2 b2.1 b2.2
        omega)
      have m3 : -30000000000 * (k : Int) ≤ poolTo E k ∧ poolTo E k ≤ 30000000000 * (k : Int) := m2
      have s1 : IntKind.i64.wrap (E.S * E.worth k E.m) = E.S * E.worth k E.m := IntWalk.i64_in _ (by omega)
      have s2 : IntKind.i64.wrap (E.S * E.worth k E.m - E.claim k) = E.S * E.worth k E.m - E.claim k := IntWalk.i64_in _ (by omega)
      have s3 : IntKind.i64.wrap (poolTo E k + (E.S * E.worth k E.m - E.claim k)) = poolTo E k + (E.S * E.worth k E.m - E.claim k) := IntWalk.i64_in _ (by omega)
      have HS := Lib.hid (show poolTo E (k + 1) = poolTo E k + (E.S * E.worth k E.m - E.claim k) from rfl)
      clear b1 b2 b3 m1 m2 m3
      go_upto_region 8 with fail
      refine wp_region_ext (by kernel_rfl) (by kernel_rfl) ?_
      repeat (first | go_big_quiet_step ((first | (go_at_call 27; exact calls_ext (c1.out _ (Ext.h _))) | (go_at_call 29; exact calls_ext (c2.out _ (Ext.h _))) | (go_at_call 36; exact calls_ext (c3.out _ (Ext.h _))))) | quiet_step ((first | (go_at_call 27; exact calls_ext (c1.out _ (Ext.h _))) | (go_at_call 29; exact calls_ext (c2.out _ (Ext.h _))) | (go_at_call 36; exact calls_ext (c3.out _ (Ext.h _))))))
      refine wpQuiet_nil ?_
      rintro _ ⟨⟨w5, hb5⟩, rfl⟩
      go_wp2_with fail
      go_roundw
      case rel => exact ⟨k + 1, by omega, by go_num, by rw [HS.out], hW.next hb5⟩
      case measure => simp [intOf]; omega
    · obtain rfl : k = E.sh.length := by omega
      go_wp2_with fail
      go_ret2
      exact ⟨ret_two (vint (by rw [poolR, if_pos HC.out, poolTo_all HE.out])) (vint HC.out.symm), hW.e.below⟩

/-- Exact, as the reference reckons it. -/
def exRef (E : Est) (i : Nat) : Int := E.S * E.claim i - E.S * E.S * E.worth i E.m + E.share i * E.pool
theorem exRef_eq (E : Est) (i : Nat) : exRef E i = E.exact i := by
  unfold exRef Est.exact
  rw [Int.mul_sub, Int.mul_assoc]
theorem exRef_all (E : Est) : mapL E.sh.length (exRef E) = exactL E := mapL_congr fun i _ => exRef_eq E i

/-- The list that grows, behind all that was when it began. -/
structure ExW (w3 : World) (f : Nat → Int) (k : Nat) (v : Value) (wr : World) : Prop where
  below : Below w3.heap.size w3 wr
  out : wr.ownsRow w3.heap.size 3 1 v k (cellsL (mapL k f))
theorem ExW.start (w3 : World) (f : Nat → Int) : ExW w3 f 0 (.slice none 0 0) w3 := ⟨Below.refl _ _, World.ownsRow_nil _ _ _ _⟩
theorem ExW.next {w3 : World} {f : Nat → Int} {k : Nat} {v : Value} {wr w1 : World} (h : ExW w3 f k v wr) (hb : Below wr.heap.size wr w1) : ExW w3 f k v w1 :=
  ⟨bcall h.below h.below.size hb, ownsRow_ext h.out hb⟩
theorem ExW.grown {w3 : World} {f : Nat → Int} {k : Nat} {v : Value} {wr w1 : World} {o : Obj} (h : ExW w3 f k v wr) (hg : (wr.alloc o).grownBy w1 v.ownBlock) : Below w3.heap.size w3 w1 :=
  (h.below.alloc h.below.size o).grown hg (by have := h.below.size; simp; omega) (fun g e => (own_ge h.out g e).1)
theorem ExW.step {w3 : World} {f : Nat → Int} {k : Nat} {v v' : Value} {wr w1 : World} {o : Obj} (h : ExW w3 f k v wr)
    (ho : w1.ownsRow w3.heap.size 3 1 v' (k + 1) (cellsL (mapL k f) ++ [.int .i64 (f k)])) (hg : (wr.alloc o).grownBy w1 v.ownBlock) : ExW w3 f (k + 1) v' w1 :=
  ⟨h.grown hg, by rw [mapL_succ]; exact ho⟩
theorem ExW.end_ {w3 : World} {f : Nat → Int} {k : Nat} {v : Value} {wr : World} (h : ExW w3 f k v wr) : ∃ O oc, v = .slice O k oc ∧ Ints wr.heap.size wr O (mapL k f) := by
  have q := h.out
  have e : k = (mapL k f).length := (mapL_length k f).symm
  obtain ⟨O, oc, rfl, _, _, hi⟩ := Ints.of_row (xs := mapL k f) (show wr.ownsRow w3.heap.size 3 1 v (mapL k f).length (cellsL (mapL k f)) by rw [← e]; exact q)
  exact ⟨O, oc, by rw [mapL_length], hi⟩

set_option maxRecDepth 100000 in
set_option maxHeartbeats 8000000 in
theorem exactref_any (E : Est) (A : Option Addr) (c : Nat) (R : Option Addr) (d : Nat) (w : World) (h : EIn w.heap.size w A c R d E) :
    Calls Try.prog 20 #[eV A c R d E] w (ListRes w (exactR E) E.code) := by
  have hW0 := EstIn.start h
  clear h
  obtain ⟨i0, hi0, hz0, hz1, hz2⟩ := info_parts info3
  go_enter Try.func20, Try.ntmps20
  go_wp2_with fail
  refine (poolref_any E A c R d _ hW0.e).mono ?_
  rintro e w1 ⟨rfl, hb1⟩
  have hW1 := hW0.next hb1
  have cbx := fun j => cell_of_row w1 _ j _ _ _ hW1.bx
  clear hb1 hW0
  by_cases hc : E.code = 0
  rotate_left
  · have q1 : (E.code != 0) = true := by simpa using hc
    have HN := Lib.hid hc
    clear hc
    go_wp2_with fail
    go_ret2
    exact ListRes.nil (by rw [exactR, if_neg HN.out]) hW1.below
  have hE := Est.ok_of_code hc
  have HC := Lib.hid hc
  have HE := Lib.hid hE
  have q1 : (E.code != 0) = false := by simpa using hc
  have hn10 : E.sh.length ≤ 10 := hE.n10
  have hol : (ownersR E).length = E.m := by rw [ownersR, if_pos hc, ownersL_length]
  have hpr : poolR E = E.pool := by rw [poolR, if_pos hc]
  have HO := Lib.hid (ownersref_any E A c R d _ hW1.e)
  unfold ListRes at HO
  rw [hol, show ownersR E = ownersL E E.m by rw [ownersR, if_pos hc]] at HO
  rw [hpr]
  clear hc hE hol hpr
  go_wp2_with fail
  refine HO.out.mono ?_
  rintro e w2 ⟨O, oc, rfl, hO, hb2⟩
  have hW2 : OwnIn w E A c R d O w2 := ⟨hW1.next hb2, hO⟩
  clear hb2 hW1 cbx hO HO
  have cbx := fun j => cell_of_row w2 _ j _ _ _ hW2.e.bx
  go_wp2_with fail
  refine (sumref_any E HE.out A c R d _ hW2.e.e).mono ?_
  rintro e w3 ⟨rfl, hb3⟩
  have hW3 := hW2.next hb3
  clear hb3 hW2 cbx
  have zbx := lt_some hW3.e.bx
  go_wp2_with fail
  go_loopw [9, 10] (fun s i wr => ∃ k : Nat, k ≤ E.sh.length ∧ i = .int .i64 k ∧ ExW w3 (exRef E) k s wr) (fun _ i _ => E.sh.length - (intOf i).toNat)
  case atStart => exact ⟨0, Nat.zero_le _, rfl, ExW.start _ _⟩
  case round =>
    obtain ⟨k, hk, rfl, hX⟩ := hrel
    obtain ⟨v, rfl⟩ : ∃ v : Value, v = u9 := ⟨_, rfl⟩
    have cbx := fun j => cell_of_row wr _ j _ _ _ (hW3.next hX.below).e.bx
    by_cases hlt : k < E.sh.length
    · obtain ⟨asx, rfl, has, cs⟩ := hW3.e.e.sh.at_ hlt
      have cb3 := fun j => cell_of_row w3 _ j _ _ _ hW3.e.bx
      have i1 : (k : Int) < (E.sh.length : Int) := by omega
      have H36 := Lib.hid (fun (W : World) (hb : Below w3.heap.size w3 W) => claim_any E HE.out (some asx) c R d k hlt W (hW3.next hb).e.e)
      have H29 := Lib.hid (fun (W : World) (hb : Below w3.heap.size w3 W) => (hW3.next hb).worth HE.out oc (i := k) hlt)
      have b1 := HE.out.S_bd
      have b2 := HE.out.worth_bd k hlt
      have b3 := HE.out.claim_bd k hlt
      have b4 := HE.out.pool_bd
      have b5 := HE.out.pool_nonneg
      have b6 := HE.out.share_bd k hlt
      have m1 := mul_le2 (a := E.S) (b := E.claim k) (A := 1000) (B := 30000000000) (by omega) b1.2 b3.1 b3.2
      have m2 := mul_le2 (a := E.S) (b := E.S) (A := 1000) (B := 1000) (by omega) b1.2 (by omega) b1.2
      have m3 := mul_le2 (a := E.S * E.S) (b := E.worth k E.m) (A := 1000000) (B := 30000000) (by omega) (by omega) b2.1 b2.2
      have m4 := mul_le2 (a := E.share k) (b := E.pool) (A := 1000) (B := 300000000000) (by omega) b6.2 b5 b4.2
      have s1 : IntKind.i64.wrap (E.S * E.claim k) = E.S * E.claim k := IntWalk.i64_in _ (by omega)
      have s2 : IntKind.i64.wrap (E.S * E.S) = E.S * E.S := IntWalk.i64_in _ (by omega)
      have s3 : IntKind.i64.wrap (E.S * E.S * E.worth k E.m) = E.S * E.S * E.worth k E.m := IntWalk.i64_in _ (by omega)
      have s4 : IntKind.i64.wrap (E.S * E.claim k - E.S * E.S * E.worth k E.m) = E.S * E.claim k - E.S * E.S * E.worth k E.m := IntWalk.i64_in _ (by omega)
      have s5 : IntKind.i64.wrap (gi E.sh k * E.pool) = gi E.sh k * E.pool := IntWalk.i64_in _ (by show _ ≤ E.share k * E.pool ∧ E.share k * E.pool ≤ _; omega)
      have s6 : IntKind.i64.wrap (E.S * E.claim k - E.S * E.S * E.worth k E.m + gi E.sh k * E.pool) = E.S * E.claim k - E.S * E.S * E.worth k E.m + gi E.sh k * E.pool := IntWalk.i64_in _ (by show _ ≤ E.S * E.claim k - E.S * E.S * E.worth k E.m + E.share k * E.pool ∧ E.S * E.claim k - E.S * E.S * E.worth k E.m + E.share k * E.pool ≤ _; omega)
      have HK := Lib.hid (fun (W : World) (hb : Below w3.heap.size w3 W) => show W.cell? ⟨w.heap.size, 0, none⟩ = some (.slice (some asx) E.sh.length c) ∧ W.cell? ⟨w.heap.size, 1, none⟩ = some (.slice R E.bd.length d) ∧ W.cell? (asx.add k) = some (.int .i64 (gi E.sh k)) from
        ⟨(hb.cell (p := ⟨w.heap.size, 0, none⟩) zbx).trans (cb3 0), (hb.cell (p := ⟨w.heap.size, 1, none⟩) zbx).trans (cb3 1), (hb.cell (p := asx.add k) (by rw [block_add]; exact has)).trans cs⟩)
      have HX := Lib.hid (hX.next (Below.refl wr.heap.size wr).drew)
      have hk10 : k ≤ 10 := by omega
      clear b1 b2 b3 b4 b5 b6 m1 m2 m3 m4 cb3 cs
      go_upto_region 10 with fail
      go_region_held3 (fun W => W.cell? ⟨w.heap.size, 0, none⟩ = some (.slice (some asx) E.sh.length c) ∧ W.cell? ⟨w.heap.size, 1, none⟩ = some (.slice R E.bd.length d) ∧ W.cell? (asx.add k) = some (.int .i64 (gi E.sh k)))
        (first
          | exact HK.out _ HX.out.below
          | exact HK.out _ HX5.out.below
          | exact HK.out _ HX6.out.below
          | exact HK.out _ (HX6.out.below.alloc HX6.out.below.size _)
          | exact HK.out _ HL7.out)
        (first
          | (go_at_call 36; refine (H36.out _ HX.out.below).mono ?_; rintro e w5 ⟨rfl, hb5⟩; have HX5 := Lib.hid (HX.out.next hb5))
          | (go_at_call 29; refine (H29.out _ HX.out.below).mono ?_; rintro e w5 ⟨rfl, hb5⟩; have HX5 := Lib.hid (HX.out.next hb5))
          | (go_at_call 36; refine (H36.out _ HX5.out.below).mono ?_; rintro e w6 ⟨rfl, hb6⟩; have HX6 := Lib.hid (HX5.out.next hb6))
          | (go_at_call 29; refine (H29.out _ HX5.out.below).mono ?_; rintro e w6 ⟨rfl, hb6⟩; have HX6 := Lib.hid (HX5.out.next hb6))
          | (refine step_append_lies _ (by rfl) _ _ _ (by rfl) w3.heap.size 3 i0 _ 1 8 Try.underlying22 hi0 hz0 hz1 hz2 rfl (by omega) v k (cellsL (mapL k (exRef E))) (by simp [Act.eval, Act.put]) (HX6.out.out.alloc _) ⟨w6.heap.size, 0, none⟩ 1 1 [.int .i64 (E.S * E.claim k - E.S * E.S * E.worth k E.m + gi E.sh k * E.pool)] (by simp [Act.eval, Act.put]) (by rfl) (one_new _ _ _) (one_one _) (by omega) (by unfold maxLen; omega) (by omega) (by have := HX6.out.below.size; simp; omega) (w6.heap.size + 1) (by simp) ?_; intro g cap w7 hown' hgrow hat hlt'; have HL7 := Lib.hid (HX6.out.grown hgrow); have HX7 := Lib.hid (HX6.out.step (f := exRef E) hown' hgrow); clear hown' hgrow hat hlt'))
      all_goals
        go_wp2_with fail
        go_roundw
        case rel => exact ⟨k + 1, by omega, by go_num, HX7.out⟩
        case measure => simp [intOf]; omega
    · obtain rfl : k = E.sh.length := by omega
      obtain ⟨X, xc, rfl, hXi⟩ := hX.end_
      go_wp2_with fail
      go_ret2
      exact ⟨X, xc, ret_two (by rw [exactR, if_pos HC.out, exactL, mapL_length]; rfl) (vint HC.out.symm), by rw [exactR, if_pos HC.out, ← exRef_all]; exact hXi, (hW3.next hX.below).e.below⟩
end Go.Proofs.Ytedgdmblpjfaiaa
