/- Cakes of actors; what is great; the queries of an agent. -/
import Derived.Test.YtgcbmnohhbcfiaaAgK
import Derived.Test.YtgcbmnohhbcfiaaCm11
namespace Go.Proofs.Ytgcbmnohhbcfiaa
open Go.RowKit Go.Deep
set_option linter.unusedVariables false
set_option linter.unusedSimpArgs false

def pick (t : Bool) (a : Ac) : Ck := match t with | true => a.told | false => a.own
def cksOf (t : Bool) (acs : List Ac) : List Ck := acs.map (pick t)
theorem cksOf_at {t : Bool} {acs : List Ac} {i : Nat} {a : Ac} (h : acs[i]? = some a) : (cksOf t acs)[i]? = some (pick t a) := by unfold cksOf; rw [List.getElem?_map, h]; rfl
theorem cksOf_len {t : Bool} {acs : List Ac} : (cksOf t acs).length = acs.length := List.length_map _
/-- What Cakes leaves. -/
def CakesRes (ks : List Ck) (w : World) (e : Ending) (w' : World) : Prop := ∃ A c, e = .returned (.slice A ks.length c) ∧ CsIn w'.heap.size w' A c ks ∧ Below w.heap.size w w'
set_option maxRecDepth 100000 in
set_option maxHeartbeats 8000000 in
theorem fcakes_true (acs : List Ac) (S : Option Addr) (s : Nat) (w : World) (h : AsIn w.heap.size w S s acs) (hn : acs.length ≤ 1000) :
    Calls Try.prog 117 #[.slice S acs.length s, .bool true] w (CakesRes (cksOf true acs) w) := by
  obtain ⟨i0, hi0, hz0, hz1, hz2⟩ := info_parts infoCk
  have HH := Lib.hid (fun (W : World) (hW : Below w.heap.size w W) => h.next hW)
  clear h
  have HL := Lib.hid (cksOf_len (t := true) (acs := acs))
  go_enter Try.func117, Try.ntmps117
  go_wp2_with fail
  go_loopw [5, 6] (fun s5 s6 wr => ∃ (k : Nat) (v : Value) (xs : List Value), k ≤ acs.length ∧ v = s5 ∧ s6 = .int .i64 k ∧ wr.ownsRow w.heap.size 24 3 v ((cksOf true acs).take k).length xs ∧ Lay kCk w ((cksOf true acs).take k) xs ∧ Below w.heap.size w wr) (fun _ s6 _ => acs.length - (intOf s6).toNat)
  case atStart => exact ⟨0, _, [], Nat.zero_le _, rfl, rfl, World.ownsRow_nil _ _ _ _, Lay.nil _ _, Below.refl _ _⟩
  case round =>
    obtain ⟨k, v, xs, hk, rfl, rfl, ho, hE, hB⟩ := hrel
    by_cases hlt : k < acs.length
    rotate_left
    · obtain rfl : k = acs.length := by omega
      rw [← HL.out, List.take_length] at ho hE
      have HO := Lib.hid ho
      have HE := Lib.hid hE
      have HBw := Lib.hid hB
      clear ho hB hE hk hlt HH
      go_wp2_with fail
      go_ret
      obtain ⟨A, c, e, hr⟩ := HE.out.in_ HBw.out HO.out
      exact ⟨A, c, congrArg Ending.returned e, hr, HBw.out⟩
    obtain ⟨a, ha⟩ : ∃ a, acs[k]? = some a := ⟨_, List.getElem?_eq_getElem hlt⟩
    have hK := cksOf_at (t := true) ha
    obtain ⟨ad, A, c, R, d, A', c', R', d', rfl, hb0, hC, hC', hwf, hat0⟩ := (HH.out _ (Below.refl _ _)).actor ha
    have hat := hat0.next hb0 hB
    have c0 := hat.c3
    have c1 := hat.c4
    have c2 := hat.c5
    have hb := Nat.lt_of_lt_of_le hb0 hB.size
    obtain ⟨z1, z2, z3, z4⟩ := idx_facts hlt (by omega)
    have HEl := Lib.hid (show kCk.El w (pick true a) [.int .i64 a.told.len, .slice A' a.told.cuts.length c', .slice R' a.told.dens.length d'] from ⟨A', c', R', d', rfl, hC'⟩)
    have HLE := Lib.hid (And.intro (Nat.succ_le_of_lt hlt) (Nat.sub_lt_sub_left hlt (Nat.lt_succ_self k)))
    have HLK := Lib.hid (show ((cksOf true acs).take k).length ≤ 1000 by rw [List.length_take, HL.out]; omega)
    have HT := Lib.hid (take_next hK)
    have HO1 := Lib.hid ho
    have HE := Lib.hid hE
    have HBw := Lib.hid hB
    have hoA := own_next ho (one_alloc wr (.cells #[.int .i64 a.told.len, .slice A' a.told.cuts.length c', .slice R' a.told.dens.length d'] 24))
    have hL : (wr.alloc (.cells #[.int .i64 a.told.len, .slice A' a.told.cuts.length c', .slice R' a.told.dens.length d'] 24)).heap[wr.heap.size]? = some _ := heap_new rfl
    have hbs := Nat.le_trans hB.size (one_alloc wr (.cells #[.int .i64 a.told.len, .slice A' a.told.cuts.length c', .slice R' a.told.dens.length d'] 24)).size
    clear hat0 hat hb0 hC hC' hwf ho hE hB hk hlt hK ha HH HL
    go_upto_region 4 with (at_builtin; refine wpList_append_any _ rfl (.tmp 14) (.tmp 20) 73 rfl w.heap.size 24 i0 (.agg #[.int .i64 0, .slice none 0 0, .slice none 0 0]) 3 56 Try.underlying73 hi0 hz0 hz1 hz2 rfl (by omega) v ((cksOf true acs).take k).length xs rfl hoA _ (some ⟨wr.heap.size, 0, none⟩) 1 1 [.int .i64 a.told.len, .slice A' a.told.cuts.length c', .slice R' a.told.dens.length d'] rfl (reads_lit (n := 1) (s := 3) hL rfl) (one3 _ _ _ _ _ _ _) (by have := HLK.out; unfold maxLen; omega) (by have := HLK.out; omega) hbs ?_; intro v' W1 hown hgr hat)
    have HN := Lib.hid (show W1.ownsRow w.heap.size 24 3 v' ((cksOf true acs).take (k + 1)).length (xs ++ [.int .i64 a.told.len, .slice A' a.told.cuts.length c', .slice R' a.told.dens.length d']) by rw [HT.out, List.length_append]; exact hown)
    have HN2 := Lib.hid (show Lay kCk w ((cksOf true acs).take (k + 1)) (xs ++ [.int .i64 a.told.len, .slice A' a.told.cuts.length c', .slice R' a.told.dens.length d']) by rw [HT.out]; exact HE.out.add HO1.out.1 HEl.out)
    have HBn := Lib.hid (own_below HBw.out HO1.out hgr HBw.out.size)
    clear hown hgr hat hoA hL hbs c0 c1 c2 hb
    go_wp2_with fail
    exact ⟨⟨k + 1, v', _, HLE.out.1, rfl, by go_num, HN.out, HN2.out, HBn.out⟩, by simpa [intOf] using HLE.out.2⟩
set_option maxRecDepth 100000 in
set_option maxHeartbeats 8000000 in
theorem fcakes_false (acs : List Ac) (S : Option Addr) (s : Nat) (w : World) (h : AsIn w.heap.size w S s acs) (hn : acs.length ≤ 1000) :
    Calls Try.prog 117 #[.slice S acs.length s, .bool false] w (CakesRes (cksOf false acs) w) := by
  obtain ⟨i0, hi0, hz0, hz1, hz2⟩ := info_parts infoCk
  have HH := Lib.hid (fun (W : World) (hW : Below w.heap.size w W) => h.next hW)
  clear h
  have HL := Lib.hid (cksOf_len (t := false) (acs := acs))
  go_enter Try.func117, Try.ntmps117
  go_wp2_with fail
  go_loopw [5, 6] (fun s5 s6 wr => ∃ (k : Nat) (v : Value) (xs : List Value), k ≤ acs.length ∧ v = s5 ∧ s6 = .int .i64 k ∧ wr.ownsRow w.heap.size 24 3 v ((cksOf false acs).take k).length xs ∧ Lay kCk w ((cksOf false acs).take k) xs ∧ Below w.heap.size w wr) (fun _ s6 _ => acs.length - (intOf s6).toNat)
  case atStart => exact ⟨0, _, [], Nat.zero_le _, rfl, rfl, World.ownsRow_nil _ _ _ _, Lay.nil _ _, Below.refl _ _⟩
  case round =>
    obtain ⟨k, v, xs, hk, rfl, rfl, ho, hE, hB⟩ := hrel
    by_cases hlt : k < acs.length
    rotate_left
    · obtain rfl : k = acs.length := by omega
      rw [← HL.out, List.take_length] at ho hE
      have HO := Lib.hid ho
      have HE := Lib.hid hE
      have HBw := Lib.hid hB
      clear ho hB hE hk hlt HH
      go_wp2_with fail
      go_ret
      obtain ⟨A, c, e, hr⟩ := HE.out.in_ HBw.out HO.out
      exact ⟨A, c, congrArg Ending.returned e, hr, HBw.out⟩
    obtain ⟨a, ha⟩ : ∃ a, acs[k]? = some a := ⟨_, List.getElem?_eq_getElem hlt⟩
    have hK := cksOf_at (t := false) ha
    obtain ⟨ad, A, c, R, d, A', c', R', d', rfl, hb0, hC, hC', hwf, hat0⟩ := (HH.out _ (Below.refl _ _)).actor ha
    have hat := hat0.next hb0 hB
    have c0 := hat.c0
    have c1 := hat.c1
    have c2 := hat.c2
    have hb := Nat.lt_of_lt_of_le hb0 hB.size
    obtain ⟨z1, z2, z3, z4⟩ := idx_facts hlt (by omega)
    have HEl := Lib.hid (show kCk.El w (pick false a) [.int .i64 a.own.len, .slice A a.own.cuts.length c, .slice R a.own.dens.length d] from ⟨A, c, R, d, rfl, hC⟩)
    have HLE := Lib.hid (And.intro (Nat.succ_le_of_lt hlt) (Nat.sub_lt_sub_left hlt (Nat.lt_succ_self k)))
    have HLK := Lib.hid (show ((cksOf false acs).take k).length ≤ 1000 by rw [List.length_take, HL.out]; omega)
    have HT := Lib.hid (take_next hK)
    have HO1 := Lib.hid ho
    have HE := Lib.hid hE
    have HBw := Lib.hid hB
    have hoA := own_next ho (one_alloc wr (.cells #[.int .i64 a.own.len, .slice A a.own.cuts.length c, .slice R a.own.dens.length d] 24))
    have hL : (wr.alloc (.cells #[.int .i64 a.own.len, .slice A a.own.cuts.length c, .slice R a.own.dens.length d] 24)).heap[wr.heap.size]? = some _ := heap_new rfl
    have hbs := Nat.le_trans hB.size (one_alloc wr (.cells #[.int .i64 a.own.len, .slice A a.own.cuts.length c, .slice R a.own.dens.length d] 24)).size
    clear hat0 hat hb0 hC hC' hwf ho hE hB hk hlt hK ha HH HL
    go_upto_region 4 with (at_builtin; refine wpList_append_any _ rfl (.tmp 22) (.tmp 28) 73 rfl w.heap.size 24 i0 (.agg #[.int .i64 0, .slice none 0 0, .slice none 0 0]) 3 56 Try.underlying73 hi0 hz0 hz1 hz2 rfl (by omega) v ((cksOf false acs).take k).length xs rfl hoA _ (some ⟨wr.heap.size, 0, none⟩) 1 1 [.int .i64 a.own.len, .slice A a.own.cuts.length c, .slice R a.own.dens.length d] rfl (reads_lit (n := 1) (s := 3) hL rfl) (one3 _ _ _ _ _ _ _) (by have := HLK.out; unfold maxLen; omega) (by have := HLK.out; omega) hbs ?_; intro v' W1 hown hgr hat)
    have HN := Lib.hid (show W1.ownsRow w.heap.size 24 3 v' ((cksOf false acs).take (k + 1)).length (xs ++ [.int .i64 a.own.len, .slice A a.own.cuts.length c, .slice R a.own.dens.length d]) by rw [HT.out, List.length_append]; exact hown)
    have HN2 := Lib.hid (show Lay kCk w ((cksOf false acs).take (k + 1)) (xs ++ [.int .i64 a.own.len, .slice A a.own.cuts.length c, .slice R a.own.dens.length d]) by rw [HT.out]; exact HE.out.add HO1.out.1 HEl.out)
    have HBn := Lib.hid (own_below HBw.out HO1.out hgr HBw.out.size)
    clear hown hgr hat hoA hL hbs c0 c1 c2 hb
    go_wp2_with fail
    exact ⟨⟨k + 1, v', _, HLE.out.1, rfl, by go_num, HN.out, HN2.out, HBn.out⟩, by simpa [intOf] using HLE.out.2⟩
/-- Actors that are great. -/
def greatA (acs : List Ac) : Bool := decide (10 < acs.length) || greatK (cksOf false acs) || greatK (cksOf true acs)
set_option maxRecDepth 100000 in
set_option maxHeartbeats 4000000 in
theorem fgreata_any (acs : List Ac) (S : Option Addr) (s : Nat) (w : World) (h : AsIn w.heap.size w S s acs) :
    Calls Try.prog 106 #[.slice S acs.length s] w fun e w' => e = .returned (.bool (greatA acs)) ∧ Below w.heap.size w w' := by
  have hm := Nat.le_trans h.len h.cap
  unfold maxLen at hm
  by_cases hn : 10 < acs.length
  · have b1 : decide ((10 : Int) < (acs.length : Int)) = true := decide_eq_true (by omega)
    have HR := Lib.hid (show greatA acs = true by unfold greatA; rw [decide_eq_true hn]; rfl)
    clear h hm hn
    go_enter Try.func106, Try.ntmps106
    go_wp2_with fail
    go_ret
    exact ⟨ret_bool HR.out.symm, Below.refl _ _⟩
  have b1 : decide ((10 : Int) < (acs.length : Int)) = false := decide_eq_false (by omega)
  have HR := Lib.hid (show greatA acs = (greatK (cksOf false acs) || greatK (cksOf true acs)) by unfold greatA; rw [decide_eq_false hn]; rfl)
  have HF := Lib.hid (fun (W : World) (hW : Below w.heap.size w W) => fcakes_false acs S s W (h.next hW) (by omega))
  have HT := Lib.hid (fun (W : World) (hW : Below w.heap.size w W) => fcakes_true acs S s W (h.next hW) (by omega))
  clear h hm hn
  obtain ⟨kf, hkf⟩ : ∃ x, x = cksOf false acs := ⟨_, rfl⟩
  obtain ⟨kt, hkt⟩ : ∃ x, x = cksOf true acs := ⟨_, rfl⟩
  rw [← hkf] at HF HR
  rw [← hkt] at HT HR
  obtain ⟨bf, hbf⟩ : ∃ x, x = greatK kf := ⟨_, rfl⟩
  obtain ⟨bt, hbt⟩ : ∃ x, x = greatK kt := ⟨_, rfl⟩
  rw [← hbf, ← hbt] at HR
  have HGF := Lib.hid (fun (A : Option Addr) (c : Nat) (W : World) (hr : CsIn W.heap.size W A c kf) => show Calls Try.prog 55 #[.slice A kf.length c] W fun e w' => e = .returned (.bool bf) ∧ Below W.heap.size W w' by rw [hbf]; exact fgreatc_any kf A c W hr)
  have HGT := Lib.hid (fun (A : Option Addr) (c : Nat) (W : World) (hr : CsIn W.heap.size W A c kt) => show Calls Try.prog 55 #[.slice A kt.length c] W fun e w' => e = .returned (.bool bt) ∧ Below W.heap.size W w' by rw [hbt]; exact fgreatc_any kt A c W hr)
  clear hkf hkt hbf hbt
  go_enter Try.func106, Try.ntmps106
  go_wp2_with fail
  refine (HF.out _ (Below.refl _ _)).mono ?_
  rintro e w1 ⟨A1, c1, rfl, hr1, hb1⟩
  go_wp2_with fail
  refine (HGF.out A1 c1 w1 hr1).mono ?_
  rintro e w2 ⟨rfl, hb2⟩
  have hb := bcall hb1 hb1.size hb2
  clear hr1 hb1 hb2 HF HGF
  cases bf with
  | true =>
    have HE := Lib.hid (show greatA acs = true by rw [HR.out]; rfl)
    have HBw := Lib.hid hb
    clear HR hb HT HGT
    go_wp2_with fail
    go_ret
    exact ⟨ret_bool HE.out.symm, HBw.out⟩
  | false =>
    have HE := Lib.hid (show greatA acs = bt by rw [HR.out]; rfl)
    clear HR
    go_wp2_with fail
    refine (HT.out _ hb).mono ?_
    rintro e w3 ⟨A1, c1, rfl, hr1, hb1⟩
    go_wp2_with fail
    refine (HGT.out A1 c1 w3 hr1).mono ?_
    rintro e w4 ⟨rfl, hb2⟩
    have HBw := Lib.hid (bcall (bcall hb hb.size hb1) (Nat.le_trans hb.size hb1.size) hb2)
    clear hr1 hb1 hb2 hb HT HGT
    go_wp2_with fail
    go_ret
    exact ⟨ret_bool HE.out.symm, HBw.out⟩
/-- A meeting that is great. -/
def greatM (acs : List Ac) (n : Nat) : Bool := greatA acs || (decide (30 < n) && decide (n ≤ 2000)) || decide (2005 < n)
set_option maxRecDepth 100000 in
set_option maxHeartbeats 4000000 in
theorem fgreatm_any (acs : List Ac) (S : Option Addr) (s : Nat) (l : List Qy) (B : Option Addr) (d : Nat) (w : World) (h : AsIn w.heap.size w S s acs) (hl : l.length ≤ maxLen) :
    Calls Try.prog 38 #[mV S s acs B d l] w fun e w' => e = .returned (.bool (greatM acs l.length)) ∧ Below w.heap.size w w' := by
  unfold maxLen at hl
  have hB0 : Bx w [(w.heap.size, mB S s acs B d l)] (w.alloc (mB S s acs B d l)) := (Bx.start w).new rfl _
  have HG := Lib.hid (fun (W : World) (hW : Below w.heap.size w W) => fgreata_any acs S s W (h.next hW))
  have e1 : decide ((30 : Int) < (l.length : Int)) = decide (30 < l.length) := decide_eq_decide.2 (by omega)
  have e2 : decide ((l.length : Int) ≤ 2000) = decide (l.length ≤ 2000) := decide_eq_decide.2 (by omega)
  have e3 : decide ((2005 : Int) < (l.length : Int)) = decide (2005 < l.length) := decide_eq_decide.2 (by omega)
  have HE := Lib.hid (show greatM acs l.length = (greatA acs || (decide ((30 : Int) < (l.length : Int)) && decide ((l.length : Int) ≤ 2000)) || decide ((2005 : Int) < (l.length : Int))) by rw [e1, e2, e3]; rfl)
  rw [HE.out]
  clear HE h e1 e2 e3 hl
  obtain ⟨b1, h1⟩ : ∃ b, b = greatA acs := ⟨_, rfl⟩
  obtain ⟨b2, h2⟩ : ∃ b, b = decide ((30 : Int) < (l.length : Int)) := ⟨_, rfl⟩
  obtain ⟨b3, h3⟩ : ∃ b, b = decide ((l.length : Int) ≤ 2000) := ⟨_, rfl⟩
  obtain ⟨b4, h4⟩ : ∃ b, b = decide ((2005 : Int) < (l.length : Int)) := ⟨_, rfl⟩
  rw [← h1, ← h2, ← h3, ← h4]
  rw [← h1] at HG
  clear h1
  replace h2 := h2.symm
  replace h3 := h3.symm
  replace h4 := h4.symm
  have c_d := fun j => cell_of_row _ _ j _ _ _ (hB0.get 0 rfl)
  have z_d := hB0.lt 0 rfl
  go_enter Try.func38, Try.ntmps38
  go_wp2_with fail
  refine (HG.out _ hB0.below).mono ?_
  rintro e w1 ⟨rfl, hb⟩
  have hB1 := hB0.next hb
  clear hb hB0 c_d z_d HG
  have c_d := fun j => cell_of_row _ _ j _ _ _ (hB1.get 0 rfl)
  have z_d := hB1.lt 0 rfl
  have HBw := Lib.hid hB1.below
  clear hB1
  cases b1 <;> cases b2 <;> cases b3 <;> cases b4 <;> (go_wp2_with fail; go_ret; exact ⟨rfl, HBw.out⟩)
theorem infoQy' : (Try.prog.info? 84).map (fun i => (i.zero, i.size, i.bytes)) = some (some (.agg #[.int .i64 0, .int .u8 0, .int .i64 0, .int .i64 0, .int .i64 0, .int .i64 0, .int .i64 0, .int .i64 0]), 8, 64) := infoQy
/-- What Of leaves. -/
def OfRes (m : List Qy) (w : World) (e : Ending) (w' : World) : Prop := ∃ A c, e = .returned (.slice A m.length c) ∧ w'.ownsRow w.heap.size 84 8 (.slice A m.length c) m.length (lgV m) ∧ LgIn w'.heap.size w' A c m ∧ Below w.heap.size w w'
theorem OfRes.of {B : Nat} {w : World} {v : Value} {m l : List Qy} (ho : w.ownsRow B 84 8 v m.length (lgV m)) (hw : ∀ q, q ∈ m → q.wf) : ∃ A c, v = .slice A m.length c ∧ w.ownsRow B 84 8 (.slice A m.length c) m.length (lgV m) ∧ LgIn w.heap.size w A c m := by
  obtain ⟨A, c, rfl, hf⟩ := LgIn.of_own ho hw
  exact ⟨A, c, rfl, ho, hf.here⟩
set_option maxRecDepth 100000 in
set_option maxHeartbeats 8000000 in
theorem agof_any (l : List Qy) (B : Option Addr) (d : Nat) (g : Int) (w : World) (h : LgIn w.heap.size w B d l) (hn : l.length ≤ 3000) :
    Calls Try.prog 43 #[.slice B l.length d, .int .i64 g] w (OfRes (ofL l g) w) := by
  obtain ⟨i0, hi0, hz0, hz1, hz2⟩ := info_parts infoQy
  have HW := Lib.hid h.wf
  have HH := Lib.hid (fun (W : World) (hW : Below w.heap.size w W) => h.next hW)
  have HNN := Lib.hid hn
  clear h
  go_enter Try.func43, Try.ntmps43
  go_wp2_with fail
  go_loopw [5, 10] (fun s5 s6 wr => ∃ (k : Nat) (v : Value), k ≤ l.length ∧ v = s5 ∧ s6 = .int .i64 k ∧ wr.ownsRow w.heap.size 84 8 v (ofL (l.take k) g).length (lgV (ofL (l.take k) g)) ∧ Below w.heap.size w wr) (fun _ s6 _ => l.length - (intOf s6).toNat)
  case atStart => exact ⟨0, _, Nat.zero_le _, rfl, rfl, World.ownsRow_nil _ _ _ _, Below.refl _ _⟩
  case round =>
    obtain ⟨k, v, hk, rfl, rfl, ho, hB⟩ := hrel
    by_cases hlt : k < l.length
    rotate_left
    · obtain rfl : k = l.length := by omega
      rw [List.take_length] at ho
      have HO := Lib.hid ho
      have HBw := Lib.hid hB
      clear ho hB hk hlt HH
      go_wp2_with fail
      go_ret
      obtain ⟨A, c, e, h1, h2⟩ := OfRes.of (l := l) HO.out (fun q hq => HW.out q (ofL_mem hq))
      exact ⟨A, c, congrArg Ending.returned e, h1, h2, HBw.out⟩
    obtain ⟨q, hq⟩ : ∃ q, l[k]? = some q := ⟨_, List.getElem?_eq_getElem hlt⟩
    obtain ⟨ad, rfl, hb, hwq, c0, c1, c2, c3, c4, c5, c6, c7⟩ := (HH.out _ hB).query hq
    obtain ⟨z1, z2, z3, z4⟩ := idx_facts hlt (by omega)
    have HLE := Lib.hid (And.intro (Nat.succ_le_of_lt hlt) (Nat.sub_lt_sub_left hlt (Nat.lt_succ_self k)))
    have HLK := Lib.hid (show (ofL (l.take k) g).length ≤ 3000 by have := ofL_le (l.take k) g; rw [List.length_take] at this; omega)
    have hBk := (Bx.start wr).new rfl (qB q)
    have hoq := own_next ho hBk.below
    have hBq := bcall hB hB.size hBk.below
    clear ho hB
    generalize hwq0 : wr.alloc (qB q) = wq at *
    generalize hgq : wr.heap.size = gq at *
    have c_q := fun j => cell_of_row _ _ j _ _ _ (hBk.get 0 rfl)
    have z_q := hBk.lt 0 rfl
    have ho := hoq
    have hB := hBq
    clear hoq hBq
    by_cases e : q.agent = g
    · have b1 : (q.agent == g) = true := by simpa using e
      have HT := Lib.hid (ofL_take_yes hq e)
      have HO1 := Lib.hid ho
      have HBw := Lib.hid hB
      have hoA := own_next ho (one_alloc wq (qB q))
      have hL : (wq.alloc (qB q)).heap[wq.heap.size]? = some _ := heap_new rfl
      have hbs := Nat.le_trans hB.size (one_alloc wq (qB q)).size
      clear ho hB hk hlt hq hwq HH e
      go_upto_region 7 with (at_builtin; refine wpList_append_any _ rfl (.tmp 18) (.tmp 20) 59 rfl w.heap.size 84 i0 (.agg #[.int .i64 0, .int .u8 0, .int .i64 0, .int .i64 0, .int .i64 0, .int .i64 0, .int .i64 0, .int .i64 0]) 8 64 Try.underlying59 hi0 hz0 hz1 hz2 rfl (by omega) v (ofL (l.take k) g).length (lgV (ofL (l.take k) g)) rfl hoA _ (some ⟨wq.heap.size, 0, none⟩) 1 1 [.int .i64 q.agent, .int .u8 q.kind, .int .i64 q.a.n, .int .i64 q.a.d, .int .i64 q.b.n, .int .i64 q.b.d, .int .i64 q.ans.n, .int .i64 q.ans.d] rfl (reads_lit (n := 1) (s := 8) hL rfl) (qyV_cells q) (by have := HLK.out; unfold maxLen; omega) (by have := HLK.out; omega) hbs ?_; intro v' W1 hown hgr hat)
      have HN := Lib.hid (show W1.ownsRow w.heap.size 84 8 v' (ofL (l.take (k + 1)) g).length (lgV (ofL (l.take (k + 1)) g)) by rw [HT.out, List.length_append, ← lgV_push]; exact hown)
      have HBn := Lib.hid (own_below HBw.out HO1.out hgr HBw.out.size)
      clear hown hgr hat hoA hL hbs
      go_wp2_with fail
      exact ⟨⟨k + 1, v', HLE.out.1, rfl, by go_num, HN.out, HBn.out⟩, by simpa [intOf] using HLE.out.2⟩
    · have b1 : (q.agent == g) = false := by simpa using e
      have HT := Lib.hid (ofL_take_no hq e)
      have HN := Lib.hid (show wq.ownsRow w.heap.size 84 8 v (ofL (l.take (k + 1)) g).length (lgV (ofL (l.take (k + 1)) g)) by rw [HT.out]; exact ho)
      have HBn := Lib.hid hB
      clear ho hB hk hlt hq hwq HH e
      go_wp2_with fail
      exact ⟨⟨k + 1, v, HLE.out.1, rfl, by go_num, HN.out, HBn.out⟩, by simpa [intOf] using HLE.out.2⟩
set_option maxRecDepth 100000 in
set_option maxHeartbeats 8000000 in
theorem fagof_any (l : List Qy) (B : Option Addr) (d : Nat) (g : Int) (w : World) (h : LgIn w.heap.size w B d l) (hn : l.length ≤ 3000) :
    Calls Try.prog 44 #[.slice B l.length d, .int .i64 g] w (OfRes (ofL l g) w) := by
  obtain ⟨i0, hi0, hz0, hz1, hz2⟩ := info_parts infoQy
  have HW := Lib.hid h.wf
  have HH := Lib.hid (fun (W : World) (hW : Below w.heap.size w W) => h.next hW)
  have HNN := Lib.hid hn
  clear h
  go_enter Try.func44, Try.ntmps44
  go_wp2_with fail
  go_loopw [5, 6] (fun s5 s6 wr => ∃ (k : Nat) (v : Value), k ≤ l.length ∧ v = s5 ∧ s6 = .int .i64 k ∧ wr.ownsRow w.heap.size 84 8 v (ofL (l.take k) g).length (lgV (ofL (l.take k) g)) ∧ Below w.heap.size w wr) (fun _ s6 _ => l.length - (intOf s6).toNat)
  case atStart => exact ⟨0, _, Nat.zero_le _, rfl, rfl, World.ownsRow_nil _ _ _ _, Below.refl _ _⟩
  case round =>
    obtain ⟨k, v, hk, rfl, rfl, ho, hB⟩ := hrel
    by_cases hlt : k < l.length
    rotate_left
    · obtain rfl : k = l.length := by omega
      rw [List.take_length] at ho
      have HO := Lib.hid ho
      have HBw := Lib.hid hB
      clear ho hB hk hlt HH
      go_wp2_with fail
      go_ret
      obtain ⟨A, c, e, h1, h2⟩ := OfRes.of (l := l) HO.out (fun q hq => HW.out q (ofL_mem hq))
      exact ⟨A, c, congrArg Ending.returned e, h1, h2, HBw.out⟩
    obtain ⟨q, hq⟩ : ∃ q, l[k]? = some q := ⟨_, List.getElem?_eq_getElem hlt⟩
    obtain ⟨ad, rfl, hb, hwq, c0, c1, c2, c3, c4, c5, c6, c7⟩ := (HH.out _ hB).query hq
    obtain ⟨z1, z2, z3, z4⟩ := idx_facts hlt (by omega)
    have HLE := Lib.hid (And.intro (Nat.succ_le_of_lt hlt) (Nat.sub_lt_sub_left hlt (Nat.lt_succ_self k)))
    have HLK := Lib.hid (show (ofL (l.take k) g).length ≤ 3000 by have := ofL_le (l.take k) g; rw [List.length_take] at this; omega)
    by_cases e : q.agent = g
    · have b1 : (q.agent == g) = true := by simpa using e
      have HT := Lib.hid (ofL_take_yes hq e)
      have HO1 := Lib.hid ho
      have HBw := Lib.hid hB
      have hoA := own_next ho (one_alloc wr (qB q))
      have hL : (wr.alloc (qB q)).heap[wr.heap.size]? = some _ := heap_new rfl
      have hbs := Nat.le_trans hB.size (one_alloc wr (qB q)).size
      clear ho hB hk hlt hq hwq HH e
      go_upto_region 4 with (at_builtin; refine wpList_append_any _ rfl (.tmp 20) (.tmp 25) 59 rfl w.heap.size 84 i0 (.agg #[.int .i64 0, .int .u8 0, .int .i64 0, .int .i64 0, .int .i64 0, .int .i64 0, .int .i64 0, .int .i64 0]) 8 64 Try.underlying59 hi0 hz0 hz1 hz2 rfl (by omega) v (ofL (l.take k) g).length (lgV (ofL (l.take k) g)) rfl hoA _ (some ⟨wr.heap.size, 0, none⟩) 1 1 [.int .i64 q.agent, .int .u8 q.kind, .int .i64 q.a.n, .int .i64 q.a.d, .int .i64 q.b.n, .int .i64 q.b.d, .int .i64 q.ans.n, .int .i64 q.ans.d] rfl (reads_lit (n := 1) (s := 8) hL rfl) (qyV_cells q) (by have := HLK.out; unfold maxLen; omega) (by have := HLK.out; omega) hbs ?_; intro v' W1 hown hgr hat)
      have HN := Lib.hid (show W1.ownsRow w.heap.size 84 8 v' (ofL (l.take (k + 1)) g).length (lgV (ofL (l.take (k + 1)) g)) by rw [HT.out, List.length_append, ← lgV_push]; exact hown)
      have HBn := Lib.hid (own_below HBw.out HO1.out hgr HBw.out.size)
      clear hown hgr hat hoA hL hbs
      go_wp2_with fail
      exact ⟨⟨k + 1, v', HLE.out.1, rfl, by go_num, HN.out, HBn.out⟩, by simpa [intOf] using HLE.out.2⟩
    · have b1 : (q.agent == g) = false := by simpa using e
      have HT := Lib.hid (ofL_take_no hq e)
      have HN := Lib.hid (show wr.ownsRow w.heap.size 84 8 v (ofL (l.take (k + 1)) g).length (lgV (ofL (l.take (k + 1)) g)) by rw [HT.out]; exact ho)
      have HBn := Lib.hid hB
      clear ho hB hk hlt hq hwq HH e
      go_wp2_with fail
      exact ⟨⟨k + 1, v, HLE.out.1, rfl, by go_num, HN.out, HBn.out⟩, by simpa [intOf] using HLE.out.2⟩
end Go.Proofs.Ytgcbmnohhbcfiaa
