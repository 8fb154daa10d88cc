/- A desk is asked. -/
import Derived.Test.YtgcbmnohhbcfiaaCm15
namespace Go.Proofs.Ytgcbmnohhbcfiaa
open Go.RowKit Go.Deep
set_option linter.unusedVariables false
set_option linter.unusedSimpArgs false

/-- What a question leaves: a desk, a ratio and an error. -/
def AskRes (ks : List Ck) (l : List Qy) (g kind : Int) (a b : Rt) (w : World) (e : Ending) (w' : World) : Prop := ∃ P cp S cs, e = .returned (.tuple #[dV P cp (askK ks l.length g kind a b) S cs (askL ks l g kind a b), rV (askR ks l.length g kind a b), .int .i64 (askC ks l.length g kind a b)]) ∧
  Fresh w.heap.size w' (fun W => CsIn W.heap.size W P cp (askK ks l.length g kind a b) ∧ LgIn W.heap.size W S cs (askL ks l g kind a b)) ∧ Below w.heap.size w w'
theorem AskRes.bad {ks : List Ck} {l : List Qy} {g kind : Int} {a b : Rt} {w w' : World} {x : Int} (hx : askC ks l.length g kind a b = x) (h0 : x ≠ 0) (hb : Below w.heap.size w w') : AskRes ks l g kind a b w (.returned (.tuple #[.agg #[.slice none 0 0, .slice none 0 0], rV ⟨0, 0⟩, .int .i64 x])) w' := by
  have k1 : askK ks l.length g kind a b = [] := by unfold askK; rw [if_neg (by omega)]
  have k2 : askL ks l g kind a b = [] := by unfold askL; rw [if_neg (by omega)]
  have k3 : askR ks l.length g kind a b = ⟨0, 0⟩ := by unfold askR; rw [if_neg (by omega)]
  refine ⟨none, 0, none, 0, by rw [k1, k2, k3, hx]; rfl, ?_, hb⟩
  rw [k1, k2]
  exact fun W _ _ => ⟨RIn.nil _ _, RIn.nil _ _⟩
theorem askC_desk {ks : List Ck} {n : Nat} {g kind : Int} {a b : Rt} (h : deskC ks n ≠ 0) : askC ks n g kind a b = deskC ks n := by unfold askC; rw [if_pos h]
theorem askC_arg {ks : List Ck} {n : Nat} {g kind : Int} {a b : Rt} (h : deskC ks n = 0) (h2 : hasB ks.length g = false) : askC ks n g kind a b = 2 := by unfold askC; rw [if_neg (by omega), if_pos h2]
theorem askC_ans {ks : List Ck} {n : Nat} {g kind : Int} {a b : Rt} (h : deskC ks n = 0) (h2 : hasB ks.length g = true) (h3 : ansC (ckAt ks g) kind a b ≠ 0) : askC ks n g kind a b = ansC (ckAt ks g) kind a b := by unfold askC; rw [if_neg (by omega), if_neg (by simp [h2]), if_pos h3]
theorem askC_full {ks : List Ck} {n : Nat} {g kind : Int} {a b : Rt} (h : deskC ks n = 0) (h2 : hasB ks.length g = true) (h3 : ansC (ckAt ks g) kind a b = 0) (h4 : 2000 ≤ n) : askC ks n g kind a b = 4 := by unfold askC; rw [if_neg (by omega), if_neg (by simp [h2]), if_neg (by omega), if_pos h4]
theorem has_of {ks : List Ck} {g : Int} (h : hasB ks.length g = true) : ∃ (k : Nat) (K : Ck), g = (k : Int) ∧ ks[k]? = some K ∧ ckAt ks g = K := by
  simp only [hasB, Bool.and_eq_true, decide_eq_true_eq] at h
  have hk : g.toNat < ks.length := by omega
  have e : g = (g.toNat : Int) := by omega
  refine ⟨g.toNat, _, e, List.getElem?_eq_getElem hk, ?_⟩
  have := ckAt_of (List.getElem?_eq_getElem hk)
  rwa [← e] at this
/-- One of the two ways to ask an agent. -/
def AnsFn (f : FuncId) (kind : Int) : Prop := (∀ (args : Array Value) (W : World), Sem.run Try.prog (callFunc f args) W = .ok (.enter f args) W) ∧ ∀ (ks : List Ck) (A : Option Addr) (c : Nat) (l : List Qy) (B : Option Addr) (d : Nat) (k : Nat) (K : Ck), ks[k]? = some K → ∀ (a b : Rt), a.wf → b.wf → ∀ (w : World), CsIn w.heap.size w A c ks →
    Calls Try.prog f #[dV A c ks B d l, .int .i64 k, rV a, rV b] w fun e w' => e = .returned (.tuple #[rV (ansR K kind a b), .int .i64 (ansC K kind a b)]) ∧ Below w.heap.size w w'
theorem ans_value : AnsFn 110 1 := ⟨fun args W => by go_simp, fun ks A c l B d k K hK a b ha hb w h => ovalue_any ks A c l B d k K hK a b ha hb w h⟩
theorem ans_mark : AnsFn 111 2 := ⟨fun args W => by go_simp, fun ks A c l B d k K hK a b ha hb w h => omark_any ks A c l B d k K hK a b ha hb w h⟩
set_option maxRecDepth 100000 in
set_option maxHeartbeats 32000000 in
theorem ask_any (f : FuncId) (kind : Int) (hf : AnsFn f kind) (ks : List Ck) (A : Option Addr) (c : Nat) (l : List Qy) (B : Option Addr) (d : Nat) (q : Qy) (hq : q.wf) (hk : q.kind = kind) (w : World) (h : CsIn w.heap.size w A c ks) (hl : LgIn w.heap.size w B d l) :
    Calls Try.prog 109 #[dV A c ks B d l, qV q, .func (.func f) #[dV A c ks B d l] #[]] w (AskRes ks l q.agent q.kind q.a q.b w) := by
  subst hk
  obtain ⟨i0, hi0, hz0, hz1, hz2⟩ := info_parts infoQy
  have hln := Nat.le_trans hl.len hl.cap
  have hM0 : Mx w [(w.heap.size + 1 + 1 + 1, rB ⟨0, 0⟩), (w.heap.size + 1 + 1, .cells #[(.slice none 0 0), (.slice none 0 0)] 76), (w.heap.size + 1, qB q), (w.heap.size, oB A c ks B d l)] [] ((((w.alloc (oB A c ks B d l)).alloc (qB q)).alloc (.cells #[(.slice none 0 0), (.slice none 0 0)] 76)).alloc (rB ⟨0, 0⟩)) :=
    ((((Mx.of_bx (Bx.start w)).new rfl _).new (by simp) _).new (by simp) _).new (by simp) _
  have HC := Lib.hid (fun (W : World) (hW : Below w.heap.size w W) => dcheck_any ks A c l B d W (h.next hW) hln)
  have HA := Lib.hid (fun (k : Nat) (K : Ck) (hK : ks[k]? = some K) (W : World) (hW : Below w.heap.size w W) => hf.2 ks A c l B d k K hK q.a q.b hq.a hq.b W (h.next hW))
  have HP := Lib.hid (fun (hn : ks.length ≤ 1000) (hs : ∀ (i : Nat) (K : Ck), ks[i]? = some K → K.cuts.length ≤ 1000 ∧ K.dens.length ≤ 1000) (W : World) (hW : Below w.heap.size w W) => copied_any ks A c W (h.next hW) hn hs)
  have HL := Lib.hid (fun (W : World) (hW : Below w.heap.size w W) => LgIn.reads (hl.next hW))
  have hcf := hf.1
  have HQ := Lib.hid hq
  have HW := Lib.hid hl.wf
  unfold maxLen at hln
  clear h hl hq hf
  go_enter Try.func109, Try.ntmps109
  go_upto_region 1 with fail
  generalize hw0 : (((w.alloc (oB A c ks B d l)).alloc (qB q)).alloc (.cells #[(.slice none 0 0), (.slice none 0 0)] 76)).alloc (rB ⟨0, 0⟩) = w0 at *
  clear hw0
  generalize w.heap.size + 1 + 1 + 1 = gV at *
  generalize w.heap.size + 1 + 1 = gD at *
  generalize w.heap.size + 1 = gQ at *
  have c_o := fun j => cell_of_row _ _ j _ _ _ (hM0.get 3 rfl)
  have z_o := hM0.lt 3 rfl
  by_cases hc : deskC ks l.length = 0
  rotate_left
  · have b1 : (deskC ks l.length != 0) = true := by simpa using hc
    have HX := Lib.hid (askC_desk (g := q.agent) (kind := q.kind) (a := q.a) (b := q.b) hc)
    obtain ⟨code, hco⟩ : ∃ x, x = deskC ks l.length := ⟨_, rfl⟩
    have HZ := Lib.hid hc
    rw [← hco] at HC b1 HX HZ
    clear hc hco HA HP HL HQ HW
    go_wp2_with fail
    refine (HC.out _ hM0.below).mono ?_
    rintro e w1 ⟨rfl, hb⟩
    have hB1 := hM0.next hb
    clear c_o z_o hb hM0
    have c_v := fun j => cell_of_row _ _ j _ _ _ (hB1.get 0 rfl)
    have z_v := hB1.lt 0 rfl
    have f_v := fun j => frozen_of_row _ _ j _ _ (hB1.get 0 rfl)
    have c_d := fun j => cell_of_row _ _ j _ _ _ (hB1.get 1 rfl)
    have z_d := hB1.lt 1 rfl
    have f_d := fun j => frozen_of_row _ _ j _ _ (hB1.get 1 rfl)
    have n_dv := hB1.bx.ne 1 0 rfl rfl (by decide)
    have n_vd := hB1.bx.ne 0 1 rfl rfl (by decide)
    simp only at n_dv n_vd
    go_wp2_with fail
    have hE := (hB1.put2 1 rfl (.slice none 0 0) (.slice none 0 0)).put 0 rfl ⟨0, 0⟩
    clear c_v z_v f_v c_d z_d f_d hB1
    generalize (((w1.setCell _ _).setCell _ _).setCell _ _).setCell _ _ = wE at *
    have c_d := fun j => cell_of_row _ _ j _ _ _ (hE.get 1 rfl)
    have z_d := hE.lt 1 rfl
    have c_v := fun j => cell_of_row _ _ j _ _ _ (hE.get 0 rfl)
    have z_v := hE.lt 0 rfl
    refine bodyPost_ret (v := .tuple #[.agg #[.slice none 0 0, .slice none 0 0], rV ⟨0, 0⟩, .int .i64 code]) (by simp [results, Try.results109, go_sem, c_d, z_d, c_v, z_v]) rfl ?_
    exact AskRes.bad HX.out HZ.out hE.below
  have HD := Lib.hid hc
  have HK := Lib.hid (deskC_zero.1 hc)
  rw [hc] at HC
  clear hc
  go_wp2_with fail
  refine (HC.out _ hM0.below).mono ?_
  rintro e w1 ⟨rfl, hb⟩
  have hB1 := hM0.next hb
  clear c_o z_o hb hM0
  clear HC
  have c_q := fun j => cell_of_row _ _ j _ _ _ (hB1.get 2 rfl)
  have z_q := hB1.lt 2 rfl
  have c_o := fun j => cell_of_row _ _ j _ _ _ (hB1.get 3 rfl)
  have z_o := hB1.lt 3 rfl
  by_cases hc : hasB ks.length q.agent = false
  · have HX := Lib.hid (askC_arg (kind := q.kind) (a := q.a) (b := q.b) HD.out hc)
    have HH := Lib.hid (fun (W : World) => has_any ks A c l B d q.agent W)
    rw [hc] at HH
    clear hc HA HP HL HQ HW HD HK
    go_wp2_with fail
    refine (HH.out _).mono ?_
    rintro e w2 ⟨rfl, hb⟩
    have hB2 := hB1.next hb
    clear c_q z_q c_o z_o hb hB1
    have c_v := fun j => cell_of_row _ _ j _ _ _ (hB2.get 0 rfl)
    have z_v := hB2.lt 0 rfl
    have f_v := fun j => frozen_of_row _ _ j _ _ (hB2.get 0 rfl)
    have c_d := fun j => cell_of_row _ _ j _ _ _ (hB2.get 1 rfl)
    have z_d := hB2.lt 1 rfl
    have f_d := fun j => frozen_of_row _ _ j _ _ (hB2.get 1 rfl)
    have n_dv := hB2.bx.ne 1 0 rfl rfl (by decide)
    have n_vd := hB2.bx.ne 0 1 rfl rfl (by decide)
    simp only at n_dv n_vd
    go_wp2_with fail
    have hE := (hB2.put2 1 rfl (.slice none 0 0) (.slice none 0 0)).put 0 rfl ⟨0, 0⟩
    clear c_v z_v f_v c_d z_d f_d hB2
    generalize (((w2.setCell _ _).setCell _ _).setCell _ _).setCell _ _ = wE at *
    have c_d := fun j => cell_of_row _ _ j _ _ _ (hE.get 1 rfl)
    have z_d := hE.lt 1 rfl
    have c_v := fun j => cell_of_row _ _ j _ _ _ (hE.get 0 rfl)
    have z_v := hE.lt 0 rfl
    refine bodyPost_ret (v := .tuple #[.agg #[.slice none 0 0, .slice none 0 0], rV ⟨0, 0⟩, .int .i64 2]) (by simp [results, Try.results109, go_sem, c_d, z_d, c_v, z_v]) rfl ?_
    exact AskRes.bad HX.out (by decide) hE.below
  have hc : hasB ks.length q.agent = true := by simpa using hc
  have HH := Lib.hid (fun (W : World) => has_any ks A c l B d q.agent W)
  rw [hc] at HH
  have HT := Lib.hid hc
  obtain ⟨k, K, hk, hK, hck⟩ := has_of hc
  have HA2 := Lib.hid (HA.out k K hK)
  have HCK := Lib.hid hck
  have ek := Lib.hid hk
  clear HA hc hK hck hk
  go_wp2_with fail
  refine (HH.out _).mono ?_
  rintro e w2 ⟨rfl, hb⟩
  have hB2 := hB1.next hb
  clear c_q z_q c_o z_o hb hB1
  clear HH
  have c_q := fun j => cell_of_row _ _ j _ _ _ (hB2.get 2 rfl)
  have z_q := hB2.lt 2 rfl
  have c_o := fun j => cell_of_row _ _ j _ _ _ (hB2.get 3 rfl)
  have z_o := hB2.lt 3 rfl
  obtain ⟨r, hr⟩ : ∃ x, x = ansR K q.kind q.a q.b := ⟨_, rfl⟩
  obtain ⟨code, hco⟩ : ∃ x, x = ansC K q.kind q.a q.b := ⟨_, rfl⟩
  have HA := Lib.hid (fun (W : World) (hW : Below w.heap.size w W) => by have := HA2.out W hW; rw [← hr, ← hco, ← ek.out] at this; exact this)
  have HR := Lib.hid hr
  have HCO := Lib.hid hco
  have HRW := Lib.hid (show r.wf by rw [hr]; exact ansR_wf _ _ _)
  clear hr hco HA2
  go_wp2_with fail
  refine (HA.out _ hB2.below).mono ?_
  rintro e w3 ⟨rfl, hb⟩
  have hB3 := hB2.next hb
  clear c_q z_q c_o z_o hb hB2
  clear HA hcf
  go_upto_region 7 with fail
  have hB4 := hB3.new rfl (rB r)
  clear hB3
  generalize w3.heap.size = gR at *
  generalize w3.alloc _ = w4 at *
  by_cases hc : code = 0
  rotate_left
  · have b1 : (code != 0) = true := by simpa using hc
    have HX := Lib.hid (show askC ks l.length q.agent q.kind q.a q.b = code by rw [askC_ans HD.out HT.out (by rw [HCK.out, ← HCO.out]; exact hc), HCK.out, ← HCO.out])
    have HZ := Lib.hid hc
    clear hc HP HL HQ HW
    have c_v := fun j => cell_of_row _ _ j _ _ _ (hB4.get 1 rfl)
    have z_v := hB4.lt 1 rfl
    have f_v := fun j => frozen_of_row _ _ j _ _ (hB4.get 1 rfl)
    have c_d := fun j => cell_of_row _ _ j _ _ _ (hB4.get 2 rfl)
    have z_d := hB4.lt 2 rfl
    have f_d := fun j => frozen_of_row _ _ j _ _ (hB4.get 2 rfl)
    have n_dv := hB4.bx.ne 2 1 rfl rfl (by decide)
    have n_vd := hB4.bx.ne 1 2 rfl rfl (by decide)
    simp only at n_dv n_vd
    go_wp2_with fail
    have hE := (hB4.put2 2 rfl (.slice none 0 0) (.slice none 0 0)).put 1 rfl ⟨0, 0⟩
    clear c_v z_v f_v c_d z_d f_d hB4
    generalize (((w4.setCell _ _).setCell _ _).setCell _ _).setCell _ _ = wE at *
    have c_d := fun j => cell_of_row _ _ j _ _ _ (hE.get 2 rfl)
    have z_d := hE.lt 2 rfl
    have c_v := fun j => cell_of_row _ _ j _ _ _ (hE.get 1 rfl)
    have z_v := hE.lt 1 rfl
    refine bodyPost_ret (v := .tuple #[.agg #[.slice none 0 0, .slice none 0 0], rV ⟨0, 0⟩, .int .i64 code]) (by simp [results, Try.results109, go_sem, c_d, z_d, c_v, z_v]) rfl ?_
    exact AskRes.bad HX.out HZ.out hE.below
  have HAZ := Lib.hid (show ansC (ckAt ks q.agent) q.kind q.a q.b = 0 by rw [HCK.out, ← HCO.out]; exact hc)
  subst hc
  have c_o := fun j => cell_of_row _ _ j _ _ _ (hB4.get 4 rfl)
  have z_o := hB4.lt 4 rfl
  by_cases hc : 2000 ≤ l.length
  · have b1 : decide ((2000 : Int) ≤ (l.length : Int)) = true := decide_eq_true (by omega)
    have HX := Lib.hid (askC_full HD.out HT.out HAZ.out hc)
    clear hc HP HL HQ HW
    have c_v := fun j => cell_of_row _ _ j _ _ _ (hB4.get 1 rfl)
    have z_v := hB4.lt 1 rfl
    have f_v := fun j => frozen_of_row _ _ j _ _ (hB4.get 1 rfl)
    have c_d := fun j => cell_of_row _ _ j _ _ _ (hB4.get 2 rfl)
    have z_d := hB4.lt 2 rfl
    have f_d := fun j => frozen_of_row _ _ j _ _ (hB4.get 2 rfl)
    have n_dv := hB4.bx.ne 2 1 rfl rfl (by decide)
    have n_vd := hB4.bx.ne 1 2 rfl rfl (by decide)
    simp only at n_dv n_vd
    go_wp2_with fail
    have hE := (hB4.put2 2 rfl (.slice none 0 0) (.slice none 0 0)).put 1 rfl ⟨0, 0⟩
    clear c_o z_o c_v z_v f_v c_d z_d f_d hB4
    generalize (((w4.setCell _ _).setCell _ _).setCell _ _).setCell _ _ = wE at *
    have c_d := fun j => cell_of_row _ _ j _ _ _ (hE.get 2 rfl)
    have z_d := hE.lt 2 rfl
    have c_v := fun j => cell_of_row _ _ j _ _ _ (hE.get 1 rfl)
    have z_v := hE.lt 1 rfl
    refine bodyPost_ret (v := .tuple #[.agg #[.slice none 0 0, .slice none 0 0], rV ⟨0, 0⟩, .int .i64 4]) (by simp [results, Try.results109, go_sem, c_d, z_d, c_v, z_v]) rfl ?_
    exact AskRes.bad HX.out (by decide) hE.below
  have b1 : decide ((2000 : Int) ≤ (l.length : Int)) = false := decide_eq_false (by omega)
  have HN := Lib.hid (show l.length < 2000 by omega)
  have HZ := Lib.hid (askC_of HD.out HT.out HAZ.out (show l.length < 2000 by omega))
  have y1 : IntKind.i64.wrap ((l.length : Int) + 1) = (l.length : Int) + 1 := IntWalk.i64_in _ (by omega)
  have y2 : wrap64 ((l.length : Int) + 1) = (l.length : Int) + 1 := IntWalk.wrap64_in _ (by omega)
  clear hc
  have c_r := fun j => cell_of_row _ _ j _ _ _ (hB4.get 0 rfl)
  have z_r := hB4.lt 0 rfl
  have c_q := fun j => cell_of_row _ _ j _ _ _ (hB4.get 3 rfl)
  have z_q := hB4.lt 3 rfl
  have f_q := fun j => frozen_of_row _ _ j _ _ (hB4.get 3 rfl)
  have hmk : ∀ W, Sem.run Try.prog (Instr.makeSlice 59 (.int .i64 0) (.int .i64 ((l.length : Int) + 1))) W = .ok (.slice (some ⟨W.heap.size, 0, none⟩) 0 (l.length + 1)) (W.alloc (.cells (madeCells #[.int .i64 0, .int .u8 0, .int .i64 0, .int .i64 0, .int .i64 0, .int .i64 0, .int .i64 0, .int .i64 0] ((l.length + 1) * 8)) 84)) := fun W => by
    have := run_make (P := Try.prog) W 59 84 i0 _ Try.underlying59 hi0 hz0 .i64 .i64 0 ((l.length + 1 : Nat) : Int) (Int.le_refl _) (by omega) (by have := HN.out; rw [hz2]; omega) (by have := HN.out; omega)
    rw [hz1] at this
    simp only [Int.toNat_zero, Int.toNat_natCast] at this
    rw [show ((l.length : Int) + 1) = ((l.length + 1 : Nat) : Int) by omega]
    exact this
  go_upto_region 12 with fail
  have hS : Mx w [(gR, rB r), (gV, rB ⟨0, 0⟩), (gD, .cells #[(.slice none 0 0), (.slice none 0 0)] 76), (gQ, qB (⟨q.agent, q.kind, q.a, q.b, r⟩ : Qy)), (w.heap.size, oB A c ks B d l)] [] _ := (hB4.set 3 rfl 6 (.int .i64 r.n)).set 3 rfl 7 (.int .i64 r.d)
  clear c_o z_o c_r z_r c_q z_q f_q hB4
  generalize (w4.setCell _ _).setCell _ _ = wS at *
  have c_o := fun j => cell_of_row _ _ j _ _ _ (hS.get 4 rfl)
  have z_o := hS.lt 4 rfl
  go_upto_region 13 with fail
  have hL := hS.addR (one_alloc wS (.cells (madeCells #[.int .i64 0, .int .u8 0, .int .i64 0, .int .i64 0, .int .i64 0, .int .i64 0, .int .i64 0, .int .i64 0] ((l.length + 1) * 8)) 84)) ⟨.slice (some ⟨wS.heap.size, 0, none⟩) 0 (l.length + 1), 84, 8, 0, []⟩ (World.ownsRow_made _ _ _ (Nat.le_refl _) (by have := HN.out; unfold maxLen; omega) (by rw [size_madeCells]))
  clear c_o z_o hS hmk y1 y2 b1
  generalize wS.heap.size = gL at *
  generalize wS.alloc _ = wL at *
  have hz3 : ks.length ≤ 1000 := by have := HK.out.m; omega
  have hz4 : ∀ (i : Nat) (K : Ck), ks[i]? = some K → K.cuts.length ≤ 1000 ∧ K.dens.length ≤ 1000 := fun i K hi => by have := Ck.ok_code (HK.out.ok i K hi); have n2 := this.n2; have nc := this.nc; omega
  have HP := Lib.hid (HP.out hz3 hz4)
  clear hz3 hz4
  go_wp2_with fail
  refine wp_region_T (Bx w [(gR, rB r), (gQ, qB (⟨q.agent, q.kind, q.a, q.b, r⟩ : Qy)), (w.heap.size, oB A c ks B d l)]) 17 (by kernel_rfl) (by rfl) ((hL.keep (List.Sublist.cons_cons _ (List.Sublist.cons _ (List.Sublist.cons _ (List.Sublist.cons_cons _ (List.Sublist.cons_cons _ (List.nil_sublist _))))))).drew) (fun wq1 hbq => ?_)
  have hB5 := hL.next hbq
  clear hL hbq
  refine wpAnyT_go (Bx.grows _ _) (hB5.keep (List.Sublist.cons_cons _ (List.Sublist.cons _ (List.Sublist.cons _ (List.Sublist.cons_cons _ (List.Sublist.cons_cons _ (List.nil_sublist _))))))) [0, 1, 2, 4, 5, 6, 7, 9, 13] 8 (by kernel_rfl) ?_
  apply Exists.intro
  refine ⟨fun G hG hN => ?_, ?_⟩
  · have c_r := fun (e : GE (Bx w [(gR, rB r), (gQ, qB (⟨q.agent, q.kind, q.a, q.b, r⟩ : Qy)), (w.heap.size, oB A c ks B d l)]) G) j => cell_of_row e.w _ j _ _ _ ((GE.h e).get 0 rfl)
    have z_r := fun (e : GE (Bx w [(gR, rB r), (gQ, qB (⟨q.agent, q.kind, q.a, q.b, r⟩ : Qy)), (w.heap.size, oB A c ks B d l)]) G) => (GE.h e).lt 0 rfl
    have c_q := fun (e : GE (Bx w [(gR, rB r), (gQ, qB (⟨q.agent, q.kind, q.a, q.b, r⟩ : Qy)), (w.heap.size, oB A c ks B d l)]) G) j => cell_of_row e.w _ j _ _ _ ((GE.h e).get 1 rfl)
    have z_q := fun (e : GE (Bx w [(gR, rB r), (gQ, qB (⟨q.agent, q.kind, q.a, q.b, r⟩ : Qy)), (w.heap.size, oB A c ks B d l)]) G) => (GE.h e).lt 1 rfl
    have c_o := fun (e : GE (Bx w [(gR, rB r), (gQ, qB (⟨q.agent, q.kind, q.a, q.b, r⟩ : Qy)), (w.heap.size, oB A c ks B d l)]) G) j => cell_of_row e.w _ j _ _ _ ((GE.h e).get 2 rfl)
    have z_o := fun (e : GE (Bx w [(gR, rB r), (gQ, qB (⟨q.agent, q.kind, q.a, q.b, r⟩ : Qy)), (w.heap.size, oB A c ks B d l)]) G) => (GE.h e).lt 2 rfl
    simp only [pickOps, List.getElem?_toArray, List.getElem?_cons_zero, List.getElem?_cons_succ]
    repeat (first | go_big_quiet_step (fail) | quiet_step (fail))
    exact wpQuiet_nil rfl
  refine wpAnyT_all (rs := [3, 10]) (by kernel_rfl) (by simp) (fun wa2 hwa2 hRwa2 i hi => ?_)
  have hB6 := hB5.next hwa2
  clear hB5 hwa2 hRwa2
  rcases List.mem_cons.1 hi with rfl | hi
  · refine wpOp_step rfl (fun Kc hKc => ?_)
    go_simp
    refine Calls.mono (HP.out _ hB6.below) ?_
    rintro e wv3 ⟨v0, rfl, hown, hb⟩
    obtain ⟨A2, c2, rfl, hfr⟩ := hown.fresh
    have hB7 := Mf.start hB6 hb hfr
    clear hown hb hfr
    refine hKc _ _ ⟨(hB7.keep (List.Sublist.cons_cons _ (List.Sublist.cons _ (List.Sublist.cons _ (List.Sublist.cons_cons _ (List.Sublist.cons_cons _ (List.nil_sublist _))))))), ?_⟩
    clear hKc Kc hB6
    refine wpAnyT_all (rs := [8, 10]) (by kernel_rfl) (by simp) (fun wa4 hwa4 hRwa4 i hi => ?_)
    have hB8 := hB7.next hwa4
    clear hB7 hwa4 hRwa4
    rcases List.mem_cons.1 hi with rfl | hi
    · refine wpOp_step rfl (fun Kc hKc => ?_)
      refine step_append_any _ rfl (.tmp 63) (.tmp 66) 59 rfl w.heap.size 84 i0 (.agg #[.int .i64 0, .int .u8 0, .int .i64 0, .int .i64 0, .int .i64 0, .int .i64 0, .int .i64 0, .int .i64 0]) 8 64 Try.underlying59 hi0 hz0 hz1 hz2 rfl (by omega) (.slice (some ⟨gL, 0, none⟩) 0 (l.length + 1)) 0 [] rfl (hB8.row 0 rfl) _ B l.length d (lgV l) rfl (HL.out _ hB8.below) (lgV_cells _) (by have := HN.out; unfold maxLen; omega) (by have := HN.out; omega) hB8.below.size ?_
      intro v5 wb5 hown hgr hat
      rw [Nat.zero_add, List.nil_append] at hown
      obtain ⟨A5, c5, rfl, _, _⟩ := own_nil_len hown
      have hB9 := hB8.grow 0 rfl hgr hown hat
      refine hKc _ _ ⟨(hB9.keep (List.Sublist.cons_cons _ (List.Sublist.cons _ (List.Sublist.cons _ (List.Sublist.cons_cons _ (List.Sublist.cons_cons _ (List.nil_sublist _))))))), ?_⟩
      clear hKc Kc hB8 hown hgr hat
      refine wpAnyT_all (rs := [10]) (by kernel_rfl) (by simp) (fun wa6 hwa6 hRwa6 i hi => ?_)
      have hB10 := hB9.next hwa6
      clear hB9 hwa6 hRwa6
      obtain rfl := List.mem_singleton.1 hi
      refine wpOp_step rfl (fun Kc hKc => ?_)
      go_simp
      have hB11 := hB10.new (g := wa6.heap.size) rfl (.cells #[.int .i64 q.agent, .int .u8 q.kind, .int .i64 q.a.n, .int .i64 q.a.d, .int .i64 q.b.n, .int .i64 q.b.d, .int .i64 r.n, .int .i64 r.d] 84)
      refine hKc _ _ ⟨(hB11.keep (List.Sublist.cons _ (List.Sublist.cons_cons _ (List.Sublist.cons _ (List.Sublist.cons _ (List.Sublist.cons_cons _ (List.Sublist.cons_cons _ (List.nil_sublist _)))))))), ?_⟩
      clear hKc Kc hB10
      generalize wa6.heap.size = gl at *
      generalize wa6.alloc _ = wb7 at *
      refine wpAnyT_all (rs := [11]) (by kernel_rfl) (by simp) (fun wa8 hwa8 hRwa8 i hi => ?_)
      have hB12 := hB11.next hwa8
      clear hB11 hwa8 hRwa8
      obtain rfl := List.mem_singleton.1 hi
      refine wpOp_step rfl (fun Kc hKc => ?_)
      refine step_append_any _ rfl (.tmp 67) (.tmp 69) 59 rfl w.heap.size 84 i0 (.agg #[.int .i64 0, .int .u8 0, .int .i64 0, .int .i64 0, .int .i64 0, .int .i64 0, .int .i64 0, .int .i64 0]) 8 64 Try.underlying59 hi0 hz0 hz1 hz2 rfl (by omega) (.slice A5 l.length c5) l.length (lgV l) rfl (hB12.row 0 rfl) _ (some ⟨gl, 0, none⟩) 1 1 (qyV (⟨q.agent, q.kind, q.a, q.b, r⟩ : Qy)) rfl (reads_lit (n := 1) (s := 8) (hB12.get 0 rfl) rfl) (qyV_cells _) (by have := HN.out; unfold maxLen; omega) (by have := HN.out; omega) hB12.below.size ?_
      intro v6 wb9 hown hgr hat
      obtain ⟨A6, c6, rfl, _, _⟩ := own_nil_len hown
      have hB13 := hB12.grow 0 rfl hgr hown hat
      refine hKc _ _ ⟨(hB13.keep (List.Sublist.cons _ (List.Sublist.cons_cons _ (List.Sublist.cons _ (List.Sublist.cons _ (List.Sublist.cons_cons _ (List.Sublist.cons_cons _ (List.nil_sublist _)))))))), ?_⟩
      clear hKc Kc hB12 hown hgr hat
      refine wpAnyT_go (Bx.grows _ _) (hB13.keep (List.Sublist.cons _ (List.Sublist.cons_cons _ (List.Sublist.cons _ (List.Sublist.cons _ (List.Sublist.cons_cons _ (List.Sublist.cons_cons _ (List.nil_sublist _)))))))) [12] 3 (by kernel_rfl) ?_
      apply Exists.intro
      refine ⟨fun G hG hN => ?_, ?_⟩
      · have c_r := fun (e : GE (Bx w [(gR, rB r), (gQ, qB (⟨q.agent, q.kind, q.a, q.b, r⟩ : Qy)), (w.heap.size, oB A c ks B d l)]) G) j => cell_of_row e.w _ j _ _ _ ((GE.h e).get 0 rfl)
        have z_r := fun (e : GE (Bx w [(gR, rB r), (gQ, qB (⟨q.agent, q.kind, q.a, q.b, r⟩ : Qy)), (w.heap.size, oB A c ks B d l)]) G) => (GE.h e).lt 0 rfl
        have c_q := fun (e : GE (Bx w [(gR, rB r), (gQ, qB (⟨q.agent, q.kind, q.a, q.b, r⟩ : Qy)), (w.heap.size, oB A c ks B d l)]) G) j => cell_of_row e.w _ j _ _ _ ((GE.h e).get 1 rfl)
        have z_q := fun (e : GE (Bx w [(gR, rB r), (gQ, qB (⟨q.agent, q.kind, q.a, q.b, r⟩ : Qy)), (w.heap.size, oB A c ks B d l)]) G) => (GE.h e).lt 1 rfl
        have c_o := fun (e : GE (Bx w [(gR, rB r), (gQ, qB (⟨q.agent, q.kind, q.a, q.b, r⟩ : Qy)), (w.heap.size, oB A c ks B d l)]) G) j => cell_of_row e.w _ j _ _ _ ((GE.h e).get 2 rfl)
        have z_o := fun (e : GE (Bx w [(gR, rB r), (gQ, qB (⟨q.agent, q.kind, q.a, q.b, r⟩ : Qy)), (w.heap.size, oB A c ks B d l)]) G) => (GE.h e).lt 2 rfl
        simp only [pickOps, List.getElem?_toArray, List.getElem?_cons_zero, List.getElem?_cons_succ]
        repeat (first | go_big_quiet_step (fail) | quiet_step (fail))
        exact wpQuiet_nil rfl
      refine wpAnyT_all (rs := [14]) (by kernel_rfl) (by simp) (fun wa10 hwa10 hRwa10 i hi => ?_)
      have hB14 := hB13.next hwa10
      clear hB13 hwa10 hRwa10
      obtain rfl := List.mem_singleton.1 hi
      refine wpOp_step rfl (fun Kc hKc => ?_)
      have c_d := fun j => cell_of_row _ _ j _ _ _ (hB14.get 3 rfl)
      have z_d := hB14.lt 3 rfl
      have f_d := fun j => frozen_of_row _ _ j _ _ (hB14.get 3 rfl)
      go_simp
      have hB15 := hB14.put2 3 rfl (.slice A2 ks.length c2) (.slice A6 (l.length + 1) c6)
      refine hKc _ _ ⟨(hB15.keep (List.Sublist.cons _ (List.Sublist.cons_cons _ (List.Sublist.cons _ (List.Sublist.cons _ (List.Sublist.cons_cons _ (List.Sublist.cons_cons _ (List.nil_sublist _)))))))), ?_⟩
      clear c_d z_d f_d hKc Kc hB14
      generalize (wa10.setCell _ _).setCell _ _ = wb11 at *
      refine wpAnyT_all (rs := [15]) (by kernel_rfl) (by simp) (fun wa12 hwa12 hRwa12 i hi => ?_)
      have hB16 := hB15.next hwa12
      clear hB15 hwa12 hRwa12
      obtain rfl := List.mem_singleton.1 hi
      refine wpOp_step rfl (fun Kc hKc => ?_)
      have c_v := fun j => cell_of_row _ _ j _ _ _ (hB16.get 2 rfl)
      have z_v := hB16.lt 2 rfl
      have f_v := fun j => frozen_of_row _ _ j _ _ (hB16.get 2 rfl)
      go_simp
      have hB17 := hB16.put 2 rfl (r)
      refine hKc _ _ ⟨(hB17.keep (List.Sublist.cons _ (List.Sublist.cons_cons _ (List.Sublist.cons _ (List.Sublist.cons _ (List.Sublist.cons_cons _ (List.Sublist.cons_cons _ (List.nil_sublist _)))))))), ?_⟩
      clear c_v z_v f_v hKc Kc hB16
      generalize (wa12.setCell _ _).setCell _ _ = wb13 at *
      refine wpAnyT_go (Bx.grows _ _) (hB17.keep (List.Sublist.cons _ (List.Sublist.cons_cons _ (List.Sublist.cons _ (List.Sublist.cons _ (List.Sublist.cons_cons _ (List.Sublist.cons_cons _ (List.nil_sublist _)))))))) [16] 0 (by kernel_rfl) ?_
      apply Exists.intro
      refine ⟨fun G hG hN => ?_, ?_⟩
      · have c_r := fun (e : GE (Bx w [(gR, rB r), (gQ, qB (⟨q.agent, q.kind, q.a, q.b, r⟩ : Qy)), (w.heap.size, oB A c ks B d l)]) G) j => cell_of_row e.w _ j _ _ _ ((GE.h e).get 0 rfl)
        have z_r := fun (e : GE (Bx w [(gR, rB r), (gQ, qB (⟨q.agent, q.kind, q.a, q.b, r⟩ : Qy)), (w.heap.size, oB A c ks B d l)]) G) => (GE.h e).lt 0 rfl
        have c_q := fun (e : GE (Bx w [(gR, rB r), (gQ, qB (⟨q.agent, q.kind, q.a, q.b, r⟩ : Qy)), (w.heap.size, oB A c ks B d l)]) G) j => cell_of_row e.w _ j _ _ _ ((GE.h e).get 1 rfl)
        have z_q := fun (e : GE (Bx w [(gR, rB r), (gQ, qB (⟨q.agent, q.kind, q.a, q.b, r⟩ : Qy)), (w.heap.size, oB A c ks B d l)]) G) => (GE.h e).lt 1 rfl
        have c_o := fun (e : GE (Bx w [(gR, rB r), (gQ, qB (⟨q.agent, q.kind, q.a, q.b, r⟩ : Qy)), (w.heap.size, oB A c ks B d l)]) G) j => cell_of_row e.w _ j _ _ _ ((GE.h e).get 2 rfl)
        have z_o := fun (e : GE (Bx w [(gR, rB r), (gQ, qB (⟨q.agent, q.kind, q.a, q.b, r⟩ : Qy)), (w.heap.size, oB A c ks B d l)]) G) => (GE.h e).lt 2 rfl
        simp only [pickOps, List.getElem?_toArray, List.getElem?_cons_zero, List.getElem?_cons_succ]
        repeat (first | go_big_quiet_step (fail) | quiet_step (fail))
        exact wpQuiet_nil rfl
      refine wpAnyT_done (by kernel_rfl) (fun wd14 hwd14 hRwd14 => ?_) _
      refine NoPanic.normal ?_
      have hB18 := hB17.next hwd14
      clear hB17 hwd14 hRwd14
      have c_v := fun j => cell_of_row _ _ j _ _ _ (hB18.get 2 rfl)
      have z_v := hB18.lt 2 rfl
      have f_v := fun j => frozen_of_row _ _ j _ _ (hB18.get 2 rfl)
      have c_d := fun j => cell_of_row _ _ j _ _ _ (hB18.get 3 rfl)
      have z_d := hB18.lt 3 rfl
      have f_d := fun j => frozen_of_row _ _ j _ _ (hB18.get 3 rfl)
      have ho := hB18.row 0 rfl
      have HF := Lib.hid hB18.fresh
      have HBw := Lib.hid hB18.below
      have HO := Lib.hid ho
      clear hB18 ho
      go_wp2_with fail
      refine bodyPost_ret (v := .tuple #[.agg #[.slice A2 ks.length c2, .slice A6 (l.length + 1) c6], rV r, .int .i64 0]) (by simp [results, Try.results109, go_sem, c_d, z_d, c_v, z_v]) rfl ?_
      have k1 : askK ks l.length q.agent q.kind q.a q.b = ks := by unfold askK; rw [if_pos HZ.out]
      have k2 : askL ks l q.agent q.kind q.a q.b = l ++ [(⟨q.agent, q.kind, q.a, q.b, r⟩ : Qy)] := by unfold askL; rw [if_pos HZ.out, HCK.out, HR.out]
      have k3 : askR ks l.length q.agent q.kind q.a q.b = r := by unfold askR; rw [if_pos HZ.out, HCK.out, HR.out]
      obtain ⟨A', c', e, hfr⟩ := LgIn.of_own (l := l ++ [(⟨q.agent, q.kind, q.a, q.b, r⟩ : Qy)]) (by rw [List.length_append, ← lgV_push]; exact HO.out) (fun p hp => by
        rcases List.mem_append.1 hp with hp | hp
        · exact HW.out p hp
        · obtain rfl := List.mem_singleton.1 hp
          exact ⟨HQ.out.g0, HQ.out.g1, HQ.out.k0, HQ.out.k1, HQ.out.a, HQ.out.b, HRW.out⟩)
      obtain ⟨rfl, e2, rfl⟩ := Value.slice.inj e
      refine ⟨A2, c2, A6, c6, ?_, ?_, HBw.out⟩
      · rw [k1, k2, k3, HZ.out, show l.length + 1 = (l ++ [(⟨q.agent, q.kind, q.a, q.b, r⟩ : Qy)]).length by rw [List.length_append]; rfl]
      · rw [k1, k2]
        exact fun V h1 h2 => ⟨HF.out V h1 h2, hfr V h1 h2⟩
    · obtain rfl := List.mem_singleton.1 hi
      refine wpOp_step rfl (fun Kc hKc => ?_)
      go_simp
      have hB9 := hB8.new (g := wa4.heap.size) rfl (.cells #[.int .i64 q.agent, .int .u8 q.kind, .int .i64 q.a.n, .int .i64 q.a.d, .int .i64 q.b.n, .int .i64 q.b.d, .int .i64 r.n, .int .i64 r.d] 84)
      refine hKc _ _ ⟨(hB9.keep (List.Sublist.cons _ (List.Sublist.cons_cons _ (List.Sublist.cons _ (List.Sublist.cons _ (List.Sublist.cons_cons _ (List.Sublist.cons_cons _ (List.nil_sublist _)))))))), ?_⟩
      clear hKc Kc hB8
      generalize wa4.heap.size = gl at *
      generalize wa4.alloc _ = wb15 at *
      refine wpAnyT_all (rs := [8]) (by kernel_rfl) (by simp) (fun wa16 hwa16 hRwa16 i hi => ?_)
      have hB10 := hB9.next hwa16
      clear hB9 hwa16 hRwa16
      obtain rfl := List.mem_singleton.1 hi
      refine wpOp_step rfl (fun Kc hKc => ?_)
      refine step_append_any _ rfl (.tmp 63) (.tmp 66) 59 rfl w.heap.size 84 i0 (.agg #[.int .i64 0, .int .u8 0, .int .i64 0, .int .i64 0, .int .i64 0, .int .i64 0, .int .i64 0, .int .i64 0]) 8 64 Try.underlying59 hi0 hz0 hz1 hz2 rfl (by omega) (.slice (some ⟨gL, 0, none⟩) 0 (l.length + 1)) 0 [] rfl (hB10.row 0 rfl) _ B l.length d (lgV l) rfl (HL.out _ hB10.below) (lgV_cells _) (by have := HN.out; unfold maxLen; omega) (by have := HN.out; omega) hB10.below.size ?_
      intro v5 wb17 hown hgr hat
      rw [Nat.zero_add, List.nil_append] at hown
      obtain ⟨A5, c5, rfl, _, _⟩ := own_nil_len hown
      have hB11 := hB10.grow 0 rfl hgr hown hat
      refine hKc _ _ ⟨(hB11.keep (List.Sublist.cons _ (List.Sublist.cons_cons _ (List.Sublist.cons _ (List.Sublist.cons _ (List.Sublist.cons_cons _ (List.Sublist.cons_cons _ (List.nil_sublist _)))))))), ?_⟩
      clear hKc Kc hB10 hown hgr hat
      refine wpAnyT_all (rs := [11]) (by kernel_rfl) (by simp) (fun wa18 hwa18 hRwa18 i hi => ?_)
      have hB12 := hB11.next hwa18
      clear hB11 hwa18 hRwa18
      obtain rfl := List.mem_singleton.1 hi
      refine wpOp_step rfl (fun Kc hKc => ?_)
      refine step_append_any _ rfl (.tmp 67) (.tmp 69) 59 rfl w.heap.size 84 i0 (.agg #[.int .i64 0, .int .u8 0, .int .i64 0, .int .i64 0, .int .i64 0, .int .i64 0, .int .i64 0, .int .i64 0]) 8 64 Try.underlying59 hi0 hz0 hz1 hz2 rfl (by omega) (.slice A5 l.length c5) l.length (lgV l) rfl (hB12.row 0 rfl) _ (some ⟨gl, 0, none⟩) 1 1 (qyV (⟨q.agent, q.kind, q.a, q.b, r⟩ : Qy)) rfl (reads_lit (n := 1) (s := 8) (hB12.get 0 rfl) rfl) (qyV_cells _) (by have := HN.out; unfold maxLen; omega) (by have := HN.out; omega) hB12.below.size ?_
      intro v6 wb19 hown hgr hat
      obtain ⟨A6, c6, rfl, _, _⟩ := own_nil_len hown
      have hB13 := hB12.grow 0 rfl hgr hown hat
      refine hKc _ _ ⟨(hB13.keep (List.Sublist.cons _ (List.Sublist.cons_cons _ (List.Sublist.cons _ (List.Sublist.cons _ (List.Sublist.cons_cons _ (List.Sublist.cons_cons _ (List.nil_sublist _)))))))), ?_⟩
      clear hKc Kc hB12 hown hgr hat
      refine wpAnyT_go (Bx.grows _ _) (hB13.keep (List.Sublist.cons _ (List.Sublist.cons_cons _ (List.Sublist.cons _ (List.Sublist.cons _ (List.Sublist.cons_cons _ (List.Sublist.cons_cons _ (List.nil_sublist _)))))))) [12] 3 (by kernel_rfl) ?_
      apply Exists.intro
      refine ⟨fun G hG hN => ?_, ?_⟩
      · have c_r := fun (e : GE (Bx w [(gR, rB r), (gQ, qB (⟨q.agent, q.kind, q.a, q.b, r⟩ : Qy)), (w.heap.size, oB A c ks B d l)]) G) j => cell_of_row e.w _ j _ _ _ ((GE.h e).get 0 rfl)
        have z_r := fun (e : GE (Bx w [(gR, rB r), (gQ, qB (⟨q.agent, q.kind, q.a, q.b, r⟩ : Qy)), (w.heap.size, oB A c ks B d l)]) G) => (GE.h e).lt 0 rfl
        have c_q := fun (e : GE (Bx w [(gR, rB r), (gQ, qB (⟨q.agent, q.kind, q.a, q.b, r⟩ : Qy)), (w.heap.size, oB A c ks B d l)]) G) j => cell_of_row e.w _ j _ _ _ ((GE.h e).get 1 rfl)
        have z_q := fun (e : GE (Bx w [(gR, rB r), (gQ, qB (⟨q.agent, q.kind, q.a, q.b, r⟩ : Qy)), (w.heap.size, oB A c ks B d l)]) G) => (GE.h e).lt 1 rfl
        have c_o := fun (e : GE (Bx w [(gR, rB r), (gQ, qB (⟨q.agent, q.kind, q.a, q.b, r⟩ : Qy)), (w.heap.size, oB A c ks B d l)]) G) j => cell_of_row e.w _ j _ _ _ ((GE.h e).get 2 rfl)
        have z_o := fun (e : GE (Bx w [(gR, rB r), (gQ, qB (⟨q.agent, q.kind, q.a, q.b, r⟩ : Qy)), (w.heap.size, oB A c ks B d l)]) G) => (GE.h e).lt 2 rfl
        simp only [pickOps, List.getElem?_toArray, List.getElem?_cons_zero, List.getElem?_cons_succ]
        repeat (first | go_big_quiet_step (fail) | quiet_step (fail))
        exact wpQuiet_nil rfl
      refine wpAnyT_all (rs := [14]) (by kernel_rfl) (by simp) (fun wa20 hwa20 hRwa20 i hi => ?_)
      have hB14 := hB13.next hwa20
      clear hB13 hwa20 hRwa20
      obtain rfl := List.mem_singleton.1 hi
      refine wpOp_step rfl (fun Kc hKc => ?_)
      have c_d := fun j => cell_of_row _ _ j _ _ _ (hB14.get 3 rfl)
      have z_d := hB14.lt 3 rfl
      have f_d := fun j => frozen_of_row _ _ j _ _ (hB14.get 3 rfl)
      go_simp
      have hB15 := hB14.put2 3 rfl (.slice A2 ks.length c2) (.slice A6 (l.length + 1) c6)
      refine hKc _ _ ⟨(hB15.keep (List.Sublist.cons _ (List.Sublist.cons_cons _ (List.Sublist.cons _ (List.Sublist.cons _ (List.Sublist.cons_cons _ (List.Sublist.cons_cons _ (List.nil_sublist _)))))))), ?_⟩
      clear c_d z_d f_d hKc Kc hB14
      generalize (wa20.setCell _ _).setCell _ _ = wb21 at *
      refine wpAnyT_all (rs := [15]) (by kernel_rfl) (by simp) (fun wa22 hwa22 hRwa22 i hi => ?_)
      have hB16 := hB15.next hwa22
      clear hB15 hwa22 hRwa22
      obtain rfl := List.mem_singleton.1 hi
      refine wpOp_step rfl (fun Kc hKc => ?_)
      have c_v := fun j => cell_of_row _ _ j _ _ _ (hB16.get 2 rfl)
      have z_v := hB16.lt 2 rfl
      have f_v := fun j => frozen_of_row _ _ j _ _ (hB16.get 2 rfl)
      go_simp
      have hB17 := hB16.put 2 rfl (r)
      refine hKc _ _ ⟨(hB17.keep (List.Sublist.cons _ (List.Sublist.cons_cons _ (List.Sublist.cons _ (List.Sublist.cons _ (List.Sublist.cons_cons _ (List.Sublist.cons_cons _ (List.nil_sublist _)))))))), ?_⟩
      clear c_v z_v f_v hKc Kc hB16
      generalize (wa22.setCell _ _).setCell _ _ = wb23 at *
      refine wpAnyT_go (Bx.grows _ _) (hB17.keep (List.Sublist.cons _ (List.Sublist.cons_cons _ (List.Sublist.cons _ (List.Sublist.cons _ (List.Sublist.cons_cons _ (List.Sublist.cons_cons _ (List.nil_sublist _)))))))) [16] 0 (by kernel_rfl) ?_
      apply Exists.intro
      refine ⟨fun G hG hN => ?_, ?_⟩
      · have c_r := fun (e : GE (Bx w [(gR, rB r), (gQ, qB (⟨q.agent, q.kind, q.a, q.b, r⟩ : Qy)), (w.heap.size, oB A c ks B d l)]) G) j => cell_of_row e.w _ j _ _ _ ((GE.h e).get 0 rfl)
        have z_r := fun (e : GE (Bx w [(gR, rB r), (gQ, qB (⟨q.agent, q.kind, q.a, q.b, r⟩ : Qy)), (w.heap.size, oB A c ks B d l)]) G) => (GE.h e).lt 0 rfl
        have c_q := fun (e : GE (Bx w [(gR, rB r), (gQ, qB (⟨q.agent, q.kind, q.a, q.b, r⟩ : Qy)), (w.heap.size, oB A c ks B d l)]) G) j => cell_of_row e.w _ j _ _ _ ((GE.h e).get 1 rfl)
        have z_q := fun (e : GE (Bx w [(gR, rB r), (gQ, qB (⟨q.agent, q.kind, q.a, q.b, r⟩ : Qy)), (w.heap.size, oB A c ks B d l)]) G) => (GE.h e).lt 1 rfl
        have c_o := fun (e : GE (Bx w [(gR, rB r), (gQ, qB (⟨q.agent, q.kind, q.a, q.b, r⟩ : Qy)), (w.heap.size, oB A c ks B d l)]) G) j => cell_of_row e.w _ j _ _ _ ((GE.h e).get 2 rfl)
        have z_o := fun (e : GE (Bx w [(gR, rB r), (gQ, qB (⟨q.agent, q.kind, q.a, q.b, r⟩ : Qy)), (w.heap.size, oB A c ks B d l)]) G) => (GE.h e).lt 2 rfl
        simp only [pickOps, List.getElem?_toArray, List.getElem?_cons_zero, List.getElem?_cons_succ]
        repeat (first | go_big_quiet_step (fail) | quiet_step (fail))
        exact wpQuiet_nil rfl
      refine wpAnyT_done (by kernel_rfl) (fun wd24 hwd24 hRwd24 => ?_) _
      refine NoPanic.normal ?_
      have hB18 := hB17.next hwd24
      clear hB17 hwd24 hRwd24
      have c_v := fun j => cell_of_row _ _ j _ _ _ (hB18.get 2 rfl)
      have z_v := hB18.lt 2 rfl
      have f_v := fun j => frozen_of_row _ _ j _ _ (hB18.get 2 rfl)
      have c_d := fun j => cell_of_row _ _ j _ _ _ (hB18.get 3 rfl)
      have z_d := hB18.lt 3 rfl
      have f_d := fun j => frozen_of_row _ _ j _ _ (hB18.get 3 rfl)
      have ho := hB18.row 0 rfl
      have HF := Lib.hid hB18.fresh
      have HBw := Lib.hid hB18.below
      have HO := Lib.hid ho
      clear hB18 ho
      go_wp2_with fail
      refine bodyPost_ret (v := .tuple #[.agg #[.slice A2 ks.length c2, .slice A6 (l.length + 1) c6], rV r, .int .i64 0]) (by simp [results, Try.results109, go_sem, c_d, z_d, c_v, z_v]) rfl ?_
      have k1 : askK ks l.length q.agent q.kind q.a q.b = ks := by unfold askK; rw [if_pos HZ.out]
      have k2 : askL ks l q.agent q.kind q.a q.b = l ++ [(⟨q.agent, q.kind, q.a, q.b, r⟩ : Qy)] := by unfold askL; rw [if_pos HZ.out, HCK.out, HR.out]
      have k3 : askR ks l.length q.agent q.kind q.a q.b = r := by unfold askR; rw [if_pos HZ.out, HCK.out, HR.out]
      obtain ⟨A', c', e, hfr⟩ := LgIn.of_own (l := l ++ [(⟨q.agent, q.kind, q.a, q.b, r⟩ : Qy)]) (by rw [List.length_append, ← lgV_push]; exact HO.out) (fun p hp => by
        rcases List.mem_append.1 hp with hp | hp
        · exact HW.out p hp
        · obtain rfl := List.mem_singleton.1 hp
          exact ⟨HQ.out.g0, HQ.out.g1, HQ.out.k0, HQ.out.k1, HQ.out.a, HQ.out.b, HRW.out⟩)
      obtain ⟨rfl, e2, rfl⟩ := Value.slice.inj e
      refine ⟨A2, c2, A6, c6, ?_, ?_, HBw.out⟩
      · rw [k1, k2, k3, HZ.out, show l.length + 1 = (l ++ [(⟨q.agent, q.kind, q.a, q.b, r⟩ : Qy)]).length by rw [List.length_append]; rfl]
      · rw [k1, k2]
        exact fun V h1 h2 => ⟨HF.out V h1 h2, hfr V h1 h2⟩
  · obtain rfl := List.mem_singleton.1 hi
    refine wpOp_step rfl (fun Kc hKc => ?_)
    go_simp
    have hB7 := hB6.new (g := wa2.heap.size) rfl (.cells #[.int .i64 q.agent, .int .u8 q.kind, .int .i64 q.a.n, .int .i64 q.a.d, .int .i64 q.b.n, .int .i64 q.b.d, .int .i64 r.n, .int .i64 r.d] 84)
    refine hKc _ _ ⟨(hB7.keep (List.Sublist.cons _ (List.Sublist.cons_cons _ (List.Sublist.cons _ (List.Sublist.cons _ (List.Sublist.cons_cons _ (List.Sublist.cons_cons _ (List.nil_sublist _)))))))), ?_⟩
    clear hKc Kc hB6
    generalize wa2.heap.size = gl at *
    generalize wa2.alloc _ = wb25 at *
    refine wpAnyT_all (rs := [3]) (by kernel_rfl) (by simp) (fun wa26 hwa26 hRwa26 i hi => ?_)
    have hB8 := hB7.next hwa26
    clear hB7 hwa26 hRwa26
    obtain rfl := List.mem_singleton.1 hi
    refine wpOp_step rfl (fun Kc hKc => ?_)
    go_simp
    refine Calls.mono (HP.out _ hB8.below) ?_
    rintro e wv27 ⟨v0, rfl, hown, hb⟩
    obtain ⟨A2, c2, rfl, hfr⟩ := hown.fresh
    have hB9 := Mf.start hB8 hb hfr
    clear hown hb hfr
    refine hKc _ _ ⟨(hB9.keep (List.Sublist.cons _ (List.Sublist.cons_cons _ (List.Sublist.cons _ (List.Sublist.cons _ (List.Sublist.cons_cons _ (List.Sublist.cons_cons _ (List.nil_sublist _)))))))), ?_⟩
    clear hKc Kc hB8
    refine wpAnyT_all (rs := [8]) (by kernel_rfl) (by simp) (fun wa28 hwa28 hRwa28 i hi => ?_)
    have hB10 := hB9.next hwa28
    clear hB9 hwa28 hRwa28
    obtain rfl := List.mem_singleton.1 hi
    refine wpOp_step rfl (fun Kc hKc => ?_)
    refine step_append_any _ rfl (.tmp 63) (.tmp 66) 59 rfl w.heap.size 84 i0 (.agg #[.int .i64 0, .int .u8 0, .int .i64 0, .int .i64 0, .int .i64 0, .int .i64 0, .int .i64 0, .int .i64 0]) 8 64 Try.underlying59 hi0 hz0 hz1 hz2 rfl (by omega) (.slice (some ⟨gL, 0, none⟩) 0 (l.length + 1)) 0 [] rfl (hB10.row 0 rfl) _ B l.length d (lgV l) rfl (HL.out _ hB10.below) (lgV_cells _) (by have := HN.out; unfold maxLen; omega) (by have := HN.out; omega) hB10.below.size ?_
    intro v5 wb29 hown hgr hat
    rw [Nat.zero_add, List.nil_append] at hown
    obtain ⟨A5, c5, rfl, _, _⟩ := own_nil_len hown
    have hB11 := hB10.grow 0 rfl hgr hown hat
    refine hKc _ _ ⟨(hB11.keep (List.Sublist.cons _ (List.Sublist.cons_cons _ (List.Sublist.cons _ (List.Sublist.cons _ (List.Sublist.cons_cons _ (List.Sublist.cons_cons _ (List.nil_sublist _)))))))), ?_⟩
    clear hKc Kc hB10 hown hgr hat
    refine wpAnyT_all (rs := [11]) (by kernel_rfl) (by simp) (fun wa30 hwa30 hRwa30 i hi => ?_)
    have hB12 := hB11.next hwa30
    clear hB11 hwa30 hRwa30
    obtain rfl := List.mem_singleton.1 hi
    refine wpOp_step rfl (fun Kc hKc => ?_)
    refine step_append_any _ rfl (.tmp 67) (.tmp 69) 59 rfl w.heap.size 84 i0 (.agg #[.int .i64 0, .int .u8 0, .int .i64 0, .int .i64 0, .int .i64 0, .int .i64 0, .int .i64 0, .int .i64 0]) 8 64 Try.underlying59 hi0 hz0 hz1 hz2 rfl (by omega) (.slice A5 l.length c5) l.length (lgV l) rfl (hB12.row 0 rfl) _ (some ⟨gl, 0, none⟩) 1 1 (qyV (⟨q.agent, q.kind, q.a, q.b, r⟩ : Qy)) rfl (reads_lit (n := 1) (s := 8) (hB12.get 0 rfl) rfl) (qyV_cells _) (by have := HN.out; unfold maxLen; omega) (by have := HN.out; omega) hB12.below.size ?_
    intro v6 wb31 hown hgr hat
    obtain ⟨A6, c6, rfl, _, _⟩ := own_nil_len hown
    have hB13 := hB12.grow 0 rfl hgr hown hat
    refine hKc _ _ ⟨(hB13.keep (List.Sublist.cons _ (List.Sublist.cons_cons _ (List.Sublist.cons _ (List.Sublist.cons _ (List.Sublist.cons_cons _ (List.Sublist.cons_cons _ (List.nil_sublist _)))))))), ?_⟩
    clear hKc Kc hB12 hown hgr hat
    refine wpAnyT_go (Bx.grows _ _) (hB13.keep (List.Sublist.cons _ (List.Sublist.cons_cons _ (List.Sublist.cons _ (List.Sublist.cons _ (List.Sublist.cons_cons _ (List.Sublist.cons_cons _ (List.nil_sublist _)))))))) [12] 3 (by kernel_rfl) ?_
    apply Exists.intro
    refine ⟨fun G hG hN => ?_, ?_⟩
    · have c_r := fun (e : GE (Bx w [(gR, rB r), (gQ, qB (⟨q.agent, q.kind, q.a, q.b, r⟩ : Qy)), (w.heap.size, oB A c ks B d l)]) G) j => cell_of_row e.w _ j _ _ _ ((GE.h e).get 0 rfl)
      have z_r := fun (e : GE (Bx w [(gR, rB r), (gQ, qB (⟨q.agent, q.kind, q.a, q.b, r⟩ : Qy)), (w.heap.size, oB A c ks B d l)]) G) => (GE.h e).lt 0 rfl
      have c_q := fun (e : GE (Bx w [(gR, rB r), (gQ, qB (⟨q.agent, q.kind, q.a, q.b, r⟩ : Qy)), (w.heap.size, oB A c ks B d l)]) G) j => cell_of_row e.w _ j _ _ _ ((GE.h e).get 1 rfl)
      have z_q := fun (e : GE (Bx w [(gR, rB r), (gQ, qB (⟨q.agent, q.kind, q.a, q.b, r⟩ : Qy)), (w.heap.size, oB A c ks B d l)]) G) => (GE.h e).lt 1 rfl
      have c_o := fun (e : GE (Bx w [(gR, rB r), (gQ, qB (⟨q.agent, q.kind, q.a, q.b, r⟩ : Qy)), (w.heap.size, oB A c ks B d l)]) G) j => cell_of_row e.w _ j _ _ _ ((GE.h e).get 2 rfl)
      have z_o := fun (e : GE (Bx w [(gR, rB r), (gQ, qB (⟨q.agent, q.kind, q.a, q.b, r⟩ : Qy)), (w.heap.size, oB A c ks B d l)]) G) => (GE.h e).lt 2 rfl
      simp only [pickOps, List.getElem?_toArray, List.getElem?_cons_zero, List.getElem?_cons_succ]
      repeat (first | go_big_quiet_step (fail) | quiet_step (fail))
      exact wpQuiet_nil rfl
    refine wpAnyT_all (rs := [14]) (by kernel_rfl) (by simp) (fun wa32 hwa32 hRwa32 i hi => ?_)
    have hB14 := hB13.next hwa32
    clear hB13 hwa32 hRwa32
    obtain rfl := List.mem_singleton.1 hi
    refine wpOp_step rfl (fun Kc hKc => ?_)
    have c_d := fun j => cell_of_row _ _ j _ _ _ (hB14.get 3 rfl)
    have z_d := hB14.lt 3 rfl
    have f_d := fun j => frozen_of_row _ _ j _ _ (hB14.get 3 rfl)
    go_simp
    have hB15 := hB14.put2 3 rfl (.slice A2 ks.length c2) (.slice A6 (l.length + 1) c6)
    refine hKc _ _ ⟨(hB15.keep (List.Sublist.cons _ (List.Sublist.cons_cons _ (List.Sublist.cons _ (List.Sublist.cons _ (List.Sublist.cons_cons _ (List.Sublist.cons_cons _ (List.nil_sublist _)))))))), ?_⟩
    clear c_d z_d f_d hKc Kc hB14
    generalize (wa32.setCell _ _).setCell _ _ = wb33 at *
    refine wpAnyT_all (rs := [15]) (by kernel_rfl) (by simp) (fun wa34 hwa34 hRwa34 i hi => ?_)
    have hB16 := hB15.next hwa34
    clear hB15 hwa34 hRwa34
    obtain rfl := List.mem_singleton.1 hi
    refine wpOp_step rfl (fun Kc hKc => ?_)
    have c_v := fun j => cell_of_row _ _ j _ _ _ (hB16.get 2 rfl)
    have z_v := hB16.lt 2 rfl
    have f_v := fun j => frozen_of_row _ _ j _ _ (hB16.get 2 rfl)
    go_simp
    have hB17 := hB16.put 2 rfl (r)
    refine hKc _ _ ⟨(hB17.keep (List.Sublist.cons _ (List.Sublist.cons_cons _ (List.Sublist.cons _ (List.Sublist.cons _ (List.Sublist.cons_cons _ (List.Sublist.cons_cons _ (List.nil_sublist _)))))))), ?_⟩
    clear c_v z_v f_v hKc Kc hB16
    generalize (wa34.setCell _ _).setCell _ _ = wb35 at *
    refine wpAnyT_go (Bx.grows _ _) (hB17.keep (List.Sublist.cons _ (List.Sublist.cons_cons _ (List.Sublist.cons _ (List.Sublist.cons _ (List.Sublist.cons_cons _ (List.Sublist.cons_cons _ (List.nil_sublist _)))))))) [16] 0 (by kernel_rfl) ?_
    apply Exists.intro
    refine ⟨fun G hG hN => ?_, ?_⟩
    · have c_r := fun (e : GE (Bx w [(gR, rB r), (gQ, qB (⟨q.agent, q.kind, q.a, q.b, r⟩ : Qy)), (w.heap.size, oB A c ks B d l)]) G) j => cell_of_row e.w _ j _ _ _ ((GE.h e).get 0 rfl)
      have z_r := fun (e : GE (Bx w [(gR, rB r), (gQ, qB (⟨q.agent, q.kind, q.a, q.b, r⟩ : Qy)), (w.heap.size, oB A c ks B d l)]) G) => (GE.h e).lt 0 rfl
      have c_q := fun (e : GE (Bx w [(gR, rB r), (gQ, qB (⟨q.agent, q.kind, q.a, q.b, r⟩ : Qy)), (w.heap.size, oB A c ks B d l)]) G) j => cell_of_row e.w _ j _ _ _ ((GE.h e).get 1 rfl)
      have z_q := fun (e : GE (Bx w [(gR, rB r), (gQ, qB (⟨q.agent, q.kind, q.a, q.b, r⟩ : Qy)), (w.heap.size, oB A c ks B d l)]) G) => (GE.h e).lt 1 rfl
      have c_o := fun (e : GE (Bx w [(gR, rB r), (gQ, qB (⟨q.agent, q.kind, q.a, q.b, r⟩ : Qy)), (w.heap.size, oB A c ks B d l)]) G) j => cell_of_row e.w _ j _ _ _ ((GE.h e).get 2 rfl)
      have z_o := fun (e : GE (Bx w [(gR, rB r), (gQ, qB (⟨q.agent, q.kind, q.a, q.b, r⟩ : Qy)), (w.heap.size, oB A c ks B d l)]) G) => (GE.h e).lt 2 rfl
      simp only [pickOps, List.getElem?_toArray, List.getElem?_cons_zero, List.getElem?_cons_succ]
      repeat (first | go_big_quiet_step (fail) | quiet_step (fail))
      exact wpQuiet_nil rfl
    refine wpAnyT_done (by kernel_rfl) (fun wd36 hwd36 hRwd36 => ?_) _
    refine NoPanic.normal ?_
    have hB18 := hB17.next hwd36
    clear hB17 hwd36 hRwd36
    have c_v := fun j => cell_of_row _ _ j _ _ _ (hB18.get 2 rfl)
    have z_v := hB18.lt 2 rfl
    have f_v := fun j => frozen_of_row _ _ j _ _ (hB18.get 2 rfl)
    have c_d := fun j => cell_of_row _ _ j _ _ _ (hB18.get 3 rfl)
    have z_d := hB18.lt 3 rfl
    have f_d := fun j => frozen_of_row _ _ j _ _ (hB18.get 3 rfl)
    have ho := hB18.row 0 rfl
    have HF := Lib.hid hB18.fresh
    have HBw := Lib.hid hB18.below
    have HO := Lib.hid ho
    clear hB18 ho
    go_wp2_with fail
    refine bodyPost_ret (v := .tuple #[.agg #[.slice A2 ks.length c2, .slice A6 (l.length + 1) c6], rV r, .int .i64 0]) (by simp [results, Try.results109, go_sem, c_d, z_d, c_v, z_v]) rfl ?_
    have k1 : askK ks l.length q.agent q.kind q.a q.b = ks := by unfold askK; rw [if_pos HZ.out]
    have k2 : askL ks l q.agent q.kind q.a q.b = l ++ [(⟨q.agent, q.kind, q.a, q.b, r⟩ : Qy)] := by unfold askL; rw [if_pos HZ.out, HCK.out, HR.out]
    have k3 : askR ks l.length q.agent q.kind q.a q.b = r := by unfold askR; rw [if_pos HZ.out, HCK.out, HR.out]
    obtain ⟨A', c', e, hfr⟩ := LgIn.of_own (l := l ++ [(⟨q.agent, q.kind, q.a, q.b, r⟩ : Qy)]) (by rw [List.length_append, ← lgV_push]; exact HO.out) (fun p hp => by
      rcases List.mem_append.1 hp with hp | hp
      · exact HW.out p hp
      · obtain rfl := List.mem_singleton.1 hp
        exact ⟨HQ.out.g0, HQ.out.g1, HQ.out.k0, HQ.out.k1, HQ.out.a, HQ.out.b, HRW.out⟩)
    obtain ⟨rfl, e2, rfl⟩ := Value.slice.inj e
    refine ⟨A2, c2, A6, c6, ?_, ?_, HBw.out⟩
    · rw [k1, k2, k3, HZ.out, show l.length + 1 = (l ++ [(⟨q.agent, q.kind, q.a, q.b, r⟩ : Qy)]).length by rw [List.length_append]; rfl]
    · rw [k1, k2]
      exact fun V h1 h2 => ⟨HF.out V h1 h2, hfr V h1 h2⟩
end Go.Proofs.Ytgcbmnohhbcfiaa
