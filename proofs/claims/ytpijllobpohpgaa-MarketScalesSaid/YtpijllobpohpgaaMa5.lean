/- Worths and values for prices: the program's. -/
import Derived.Test.YtpijllobpohpgaaMa4
import Derived.Test.YtpijllobpohpgaaMa2
import Derived.Test.YtpijllobpohpgaaMxI
namespace Go.Proofs.Ytpijllobpohpgaa
open Go.RowKit Go.Deep
set_option linter.unusedVariables false
set_option linter.unusedSimpArgs false

abbrev iB (x : Int) : Obj := .cells #[.int .i64 x] 3
theorem int_wf {v : Int} (h : -9223372036854775808 ≤ v ∧ v ≤ 9223372036854775807) : Rt.wf ⟨v, 1⟩ := ⟨h.1, h.2, (by show (-9223372036854775808 : Int) ≤ 1; decide), (by show (1 : Int) ≤ 9223372036854775807; decide)⟩

set_option maxRecDepth 100000 in
set_option maxHeartbeats 4000000 in
theorem worthc_any (bs : List (List Int)) (A : Option Addr) (c i g gG gI : Nat) (w : World) (h : GIn w.heap.size w A c bs) (hi : i < bs.length) (hg : g < (gr bs i).length) (hG : w.heap[gG]? = some (gB A c bs)) (hI : w.heap[gI]? = some (iB i)) :
    Calls Try.prog 65 #[.int .i64 g, .pointer (some ⟨gG, 0, none⟩), .pointer (some ⟨gI, 0, none⟩)] w fun e w' => e = .returned (rV ⟨gi (gr bs i) g, 1⟩) ∧ Below w.heap.size w w' := by
  have hB0 : Bx w [(w.heap.size, rB ⟨0, 0⟩)] (w.alloc (rB ⟨0, 0⟩)) := (Bx.start w).new rfl _
  obtain ⟨ad, R, c', rfl, hb, hc, l1, m1, hr⟩ := h.rows.at_ hi
  obtain ⟨rd, rfl, rb, rc⟩ := hr.at_ hg
  have z1 : (i : Int) < (bs.length : Int) := by omega
  have z2 : (0 : Int) ≤ (i : Int) := by omega
  have z3 : (g : Int) < ((gr bs i).length : Int) := by omega
  have z4 : (0 : Int) ≤ (g : Int) := by omega
  have c_G := fun j => cell_of_row _ _ j _ _ _ (heap_ext hG hB0.below)
  have c_I := fun j => cell_of_row _ _ j _ _ _ (heap_ext hI hB0.below)
  have f1 := (hB0.below.cell (p := ad.add i) (by rw [block_add]; exact hb)).trans hc
  have f2 := (hB0.below.cell (p := rd.add g) (by rw [block_add]; exact rb)).trans rc
  clear h hi hg hG hI hr hc rc hb rb
  generalize gi (gr bs i) g = v at *
  go_enter Try.func65, Try.ntmps65
  go_upto_region 1 with fail
  generalize w.alloc (rB ⟨0, 0⟩) = w0 at *
  go_wp2_with fail
  refine (mwhole_any _ _).mono ?_
  rintro e w1 ⟨rfl, hb⟩
  have hB1 := hB0.next hb
  clear hb hB0
  have c_o := fun j => cell_of_row _ _ j _ _ _ (hB1.get 0 rfl)
  have z_o := hB1.lt 0 rfl
  have f_o := fun j => frozen_of_row _ _ j _ _ (hB1.get 0 rfl)
  have HE := Lib.hid (hB1.put 0 rfl ⟨v, 1⟩).below
  clear hB1 c_G c_I f1 f2
  go_wp2_with fail
  refine bodyPost_ret (v := rV ⟨v, 1⟩) (by simp [results, Try.results65, go_sem, c_o, f_o, z_o]) rfl ⟨rfl, HE.out⟩

set_option maxRecDepth 100000 in
set_option maxHeartbeats 4000000 in
theorem pricec_any (P : List Rt) (B : Option Addr) (d g gP : Nat) (w : World) (h : QIn w.heap.size w B d P) (hg : g < P.length) (hP : w.heap[gP]? = some (.cells #[.slice B P.length d] 27)) :
    Calls Try.prog 40 #[.int .i64 g, .pointer (some ⟨gP, 0, none⟩)] w fun e w' => e = .returned (rV (gR P g)) ∧ Below w.heap.size w w' := by
  have hB0 : Bx w [(w.heap.size, rB ⟨0, 0⟩)] (w.alloc (rB ⟨0, 0⟩)) := (Bx.start w).new rfl _
  obtain ⟨bd, rfl, hb, hc⟩ := h.at_ hg
  obtain ⟨f0, f1, f2⟩ := cell2 (hc.below hb hB0.below) hg
  have f3 : (w.alloc (rB ⟨0, 0⟩)).cell? ⟨(bd.add (g * 2)).block, (bd.add (g * 2)).off + 1, none⟩ = some (.int .i64 (gR P g).d) := f1
  have z3 : (g : Int) < (P.length : Int) := by omega
  have z4 : (0 : Int) ≤ (g : Int) := by omega
  have c_P := fun j => cell_of_row _ _ j _ _ _ (heap_ext hP hB0.below)
  clear h hg hP hc hb
  generalize gR P g = e at *
  go_enter Try.func40, Try.ntmps40
  go_upto_region 1 with fail
  generalize w.alloc (rB ⟨0, 0⟩) = w0 at *
  have c_o := fun j => cell_of_row _ _ j _ _ _ (hB0.get 0 rfl)
  have z_o := hB0.lt 0 rfl
  have f_o := fun j => frozen_of_row _ _ j _ _ (hB0.get 0 rfl)
  have HE := Lib.hid (hB0.put 0 rfl e).below
  clear hB0
  go_wp2_with fail
  refine bodyPost_ret (v := rV e) (by simp [results, Try.results40, go_sem, c_o, f_o, z_o]) rfl ⟨rfl, HE.out⟩

def worthS (bs : List (List Int)) (l : List Rt) (i : Nat) : Option Rt := totS (fun g => ⟨gi (gr bs i) g, 1⟩) (fun g => partR i (gR l g)) l.length
set_option maxRecDepth 100000 in
set_option maxHeartbeats 4000000 in
theorem mworth_any (bs : List (List Int)) (A : Option Addr) (c : Nat) (l : List Rt) (B : Option Addr) (d i : Nat) (t : Rt) (w : World) (h : GIn w.heap.size w A c bs) (hi : i < bs.length) (hl : QIn w.heap.size w B d l) (hn : l.length = (gr bs i).length) (hv : ∀ g, g < l.length → -9223372036854775808 ≤ gi (gr bs i) g ∧ gi (gr bs i) g ≤ 9223372036854775807) (ht : worthS bs l i = some t) :
    Calls Try.prog 31 #[gV A c bs, .slice B l.length d, .int .i64 i] w fun e w' => e = .returned (rV t) ∧ Below w.heap.size w w' := by
  have hB0 : Bx w [(w.heap.size + 1 + 1, rB ⟨0, 0⟩), (w.heap.size + 1, iB i), (w.heap.size, gB A c bs)] (((w.alloc (gB A c bs)).alloc (iB i)).alloc (rB ⟨0, 0⟩)) := (((Bx.start w).new rfl _).new (by simp) _).new (by simp) _
  have HT0 := fun (W : World) (hb : Below w.heap.size w W) (hG : W.heap[w.heap.size]? = some (gB A c bs)) (hI : W.heap[w.heap.size + 1]? = some (iB i)) => total_worth l B d i (fun g => ⟨gi (gr bs i) g, 1⟩) (.pointer (some ⟨w.heap.size, 0, none⟩)) (.pointer (some ⟨w.heap.size + 1, 0, none⟩)) W (hl.next hb) (fun g hg => int_wf (hv g hg)) (Lib.hid fun g W' hg hb' => worthc_any bs A c i g w.heap.size (w.heap.size + 1) W' ((h.next hb).next hb') hi (by omega) (heap_ext hG hb') (heap_ext hI hb'))
  have HT1 := Lib.hid (show ∀ (W : World), Below w.heap.size w W → W.heap[w.heap.size]? = some (gB A c bs) → W.heap[w.heap.size + 1]? = some (iB i) → Calls Try.prog 39 #[.slice B l.length d, .int .i64 i, .func (.func 65) #[] #[.pointer (some ⟨w.heap.size, 0, none⟩), .pointer (some ⟨w.heap.size + 1, 0, none⟩)]] W fun e w' => e = .returned (.tuple #[rV t, .bool true]) ∧ Below W.heap.size W w' from fun W hb hG hI => (HT0 W hb hG hI).mono fun e w' he => by
    obtain ⟨s, e1, e2, e3⟩ := he
    have hs := e2 t ht
    subst hs
    refine ⟨?_, e3⟩
    rw [e1]
    have : (totS (fun g => ⟨gi (gr bs i) g, 1⟩) (fun g => partR i (gR l g)) l.length).isSome = true := by
      have ht' : totS (fun g => ⟨gi (gr bs i) g, 1⟩) (fun g => partR i (gR l g)) l.length = some s := ht
      rw [ht']; rfl
    rw [this])
  clear h hi hl hn hv ht HT0
  go_enter Try.func31, Try.ntmps31
  go_upto_region 1 with fail
  generalize hw0 : ((w.alloc (gB A c bs)).alloc (iB i)).alloc (rB ⟨0, 0⟩) = w0 at *
  clear hw0
  generalize hgo : w.heap.size + 1 + 1 = gO at *
  generalize hgi : w.heap.size + 1 = gI at *
  clear hgo hgi
  have c_i := fun j => cell_of_row _ _ j _ _ _ (hB0.get 1 rfl)
  have z_i := hB0.lt 1 rfl
  go_wp2_with fail
  refine (HT1.out _ hB0.below (hB0.get 2 rfl) (hB0.get 1 rfl)).mono ?_
  rintro e w1 ⟨rfl, hb⟩
  have hB1 := hB0.next hb
  clear c_i z_i hb hB0
  go_upto_region 2 with fail
  have hB2 := hB1.new rfl (rB t)
  clear hB1
  generalize w1.heap.size = gS at *
  generalize w1.alloc _ = w2 at *
  have c_s := fun j => cell_of_row _ _ j _ _ _ (hB2.get 0 rfl)
  have z_s := hB2.lt 0 rfl
  have c_o := fun j => cell_of_row _ _ j _ _ _ (hB2.get 1 rfl)
  have z_o := hB2.lt 1 rfl
  have f_o := fun j => frozen_of_row _ _ j _ _ (hB2.get 1 rfl)
  have HE := Lib.hid (hB2.put 1 rfl t).below
  clear hB2 HT1
  go_wp2_with fail
  refine bodyPost_ret (v := rV t) (by simp [results, Try.results31, go_sem, c_o, f_o, z_o]) rfl ⟨rfl, HE.out⟩

/-- A good has more value for its price than another one, or that is out of range. -/
def betB (V : Nat → Int) (P : Nat → Rt) (h g : Nat) : Bool := decide (mulC (P h) ⟨V g, 1⟩ ≠ 0) || decide (mulC (P g) ⟨V h, 1⟩ ≠ 0) || ltB (mulR (P h) ⟨V g, 1⟩) (mulR (P g) ⟨V h, 1⟩)
theorem cmp_lt {a b : Rt} (ha : a.Ok) (hb : b.Ok) : decide (cmpR a b < 0) = ltB a b := by
  rw [Bool.eq_iff_iff, decide_eq_true_iff, cmpR_neg ha hb]
  unfold ltB; rw [decide_eq_true_iff]
set_option maxRecDepth 100000 in
set_option maxHeartbeats 8000000 in
theorem better_any (V : List Int) (A : Option Addr) (c : Nat) (P : List Rt) (B : Option Addr) (d h g : Nat) (w : World) (hV : Ints w.heap.size w A V) (hP : QIn w.heap.size w B d P) (hv : ∀ g, g < V.length → -9223372036854775808 ≤ gi V g ∧ gi V g ≤ 9223372036854775807)
    (hh : h < V.length) (hg : g < V.length) (hn : P.length = V.length) :
    Calls Try.prog 42 #[.slice A V.length c, .slice B P.length d, .int .i64 h, .int .i64 g] w fun e w' => e = .returned (.bool (betB (gi V) (gR P) h g)) ∧ Below w.heap.size w w' := by
  obtain ⟨ad, rfl, hb, hc⟩ := hV.at_ hh
  obtain ⟨ad2, e2, hb2, hc2⟩ := hV.at_ hg
  obtain rfl : ad = ad2 := by simpa using e2
  obtain ⟨bd, rfl, kb, kc⟩ := hP.at_ (show h < P.length by omega)
  have HF := Lib.hid (fun (W : World) (hW : Below w.heap.size w W) => show (W.cell? (ad.add h) = some (.int .i64 (gi V h)) ∧ (ad.add h).block < W.heap.size) ∧ (W.cell? (ad.add g) = some (.int .i64 (gi V g)) ∧ (ad.add g).block < W.heap.size) from
    ⟨⟨(hW.cell (by rw [block_add]; exact hb)).trans hc, by rw [block_add]; exact Nat.lt_of_lt_of_le hb hW.size⟩, ⟨(hW.cell (by rw [block_add]; exact hb)).trans hc2, by rw [block_add]; exact Nat.lt_of_lt_of_le hb hW.size⟩⟩)
  have HQ := Lib.hid (fun (k : Nat) (hk : k < P.length) (W : World) (hW : Below w.heap.size w W) => cell2 (kc.below kb hW) hk)
  have HQB := Lib.hid (fun (k : Nat) (W : World) (hW : Below w.heap.size w W) => show (bd.add (k * 2)).block < W.heap.size by rw [block_add]; exact Nat.lt_of_lt_of_le kb hW.size)
  have HM1 := Lib.hid (fun (W : World) => rmul_any (gR P h) ⟨gi V g, 1⟩ (hP.wf h (by omega)) (int_wf (hv g hg)) W)
  have HM2 := Lib.hid (fun (W : World) => rmul_any (gR P g) ⟨gi V h, 1⟩ (hP.wf g (by omega)) (int_wf (hv h hh)) W)
  have HLT := Lib.hid (show h < P.length ∧ g < P.length by omega)
  have HBT := Lib.hid (show betB (gi V) (gR P) h g = (decide (mulC (gR P h) ⟨gi V g, 1⟩ ≠ 0) || decide (mulC (gR P g) ⟨gi V h, 1⟩ ≠ 0) || ltB (mulR (gR P h) ⟨gi V g, 1⟩) (mulR (gR P g) ⟨gi V h, 1⟩)) from rfl)
  have z1 : (h : Int) < (V.length : Int) := by omega
  have z2 : (0 : Int) ≤ (h : Int) := by omega
  have z3 : (g : Int) < (V.length : Int) := by omega
  have z4 : (0 : Int) ≤ (g : Int) := by omega
  have z5 : (h : Int) < (P.length : Int) := by omega
  have z6 : (g : Int) < (P.length : Int) := by omega
  have hB0 : Bx w [] w := Bx.start w
  clear hV hP hv hh hg hn hc hc2 kc hb hb2 kb e2
  go_enter Try.func42, Try.ntmps42
  go_upto_region 1 with fail
  refine wp_region_flow 16 (by kernel_rfl) (by rfl) (fun wq hbq => ?_)
  have hB1q := hB0.next hbq
  have HBQ := Lib.hid (fun (W : World) (hW : Below wq.heap.size wq W) => bcall hB1q.below hB1q.below.size hW)
  clear hB0
  refine wpAnyE_go (w0 := wq) (w1 := wq) (X := []) (fun _ h => h) (RK.start _) [0, 1, 2, 3, 4, 5, 6, 7, 8, 9, 10, 11, 12] 3 (by kernel_rfl) ?_
  apply Exists.intro
  refine ⟨fun G hG hN => ?_, ?_⟩
  · have p0 := fun (e : GE (RK wq wq []) G) => (HQ.out h HLT.out.1 e.w ((RK.b (GE.h e)) |> fun hh => (HBQ.out _ hh))).1
    have p1 := fun (e : GE (RK wq wq []) G) => (HQ.out h HLT.out.1 e.w (HBQ.out _ (RK.b (GE.h e)))).2.1
    have p2 := fun (e : GE (RK wq wq []) G) => show e.w.cell? ⟨(bd.add (h * 2)).block, (bd.add (h * 2)).off + 1, none⟩ = some (.int .i64 (gR P h).d) from (HQ.out h HLT.out.1 e.w (HBQ.out _ (RK.b (GE.h e)))).2.1
    have pb := fun (e : GE (RK wq wq []) G) => HQB.out h e.w (HBQ.out _ (RK.b (GE.h e)))
    have v0 := fun (e : GE (RK wq wq []) G) => (HF.out e.w (HBQ.out _ (RK.b (GE.h e)))).2.1
    have vb := fun (e : GE (RK wq wq []) G) => (HF.out e.w (HBQ.out _ (RK.b (GE.h e)))).2.2
    simp only [pickOps, List.getElem?_toArray, List.getElem?_cons_zero, List.getElem?_cons_succ]
    repeat (first | go_big_quiet_step ((first | (go_at_call 34; exact calls_ge (RK.grows _ _ _) hG (mwhole_any _ _)) | (go_at_call 67; exact calls_ge (RK.grows _ _ _) hG (HM1.out _)))) | quiet_step ((first | (go_at_call 34; exact calls_ge (RK.grows _ _ _) hG (mwhole_any _ _)) | (go_at_call 67; exact calls_ge (RK.grows _ _ _) hG (HM1.out _)))))
    exact wpQuiet_nil rfl
  refine wpAnyE_all (rs := [13]) (by kernel_rfl) (by simp) (fun Wa hWa hRWa i hi => ?_)
  obtain rfl := List.mem_singleton.1 hi
  refine wpOp_step rfl (fun K hK => ?_)
  go_simp
  refine hK _ _ ⟨hRWa.grow (one_alloc _ _), ?_⟩
  clear hK K
  have hxa := heap_new (w := Wa) (o := rB ⟨0, 0⟩) rfl
  have hza : wq.heap.size ≤ Wa.heap.size := hRWa.b.size
  refine wpAnyE_all (rs := [14]) (by kernel_rfl) (by simp) (fun Wb hWb hRWb i hi => ?_)
  obtain rfl := List.mem_singleton.1 hi
  have hxb := heap_ext hxa hWb
  have ck := fun j => cell_of_row _ _ j _ _ _ hxb
  have fk := fun j => frozen_of_row _ _ j _ _ hxb
  have zk := lt_some hxb
  refine wpOp_step rfl (fun K hK => ?_)
  go_simp
  refine hK _ _ ⟨(hRWb.set hza (Or.inr hza)).set hza (Or.inr hza), ?_⟩
  clear hK K
  clear ck fk zk
  have hxc := heap_set (j := 1) (u := .int .i64 (mulR (gR P h) ⟨gi V g, 1⟩).d) (heap_set (j := 0) (u := .int .i64 (mulR (gR P h) ⟨gi V g, 1⟩).n) hxb)
  have hsc := (hRWb.set hza (Or.inr hza) (j := 0) (u := .int .i64 (mulR (gR P h) ⟨gi V g, 1⟩).n)).set hza (Or.inr hza) (j := 1) (u := .int .i64 (mulR (gR P h) ⟨gi V g, 1⟩).d)
  generalize (Wb.setCell _ _).setCell _ _ = Wd at *
  refine wpAnyE_go (w0 := wq) (w1 := Wd) (X := []) (RK.move hsc (by simp)) (RK.here hsc) [15] 0 (by kernel_rfl) ?_
  apply Exists.intro
  refine ⟨fun G hG hN => ?_, ?_⟩
  · simp only [pickOps, List.getElem?_toArray, List.getElem?_cons_zero, List.getElem?_cons_succ]
    repeat (first | go_big_quiet_step (fail) | quiet_step (fail))
    exact wpQuiet_nil rfl
  refine wpAnyE_done (by kernel_rfl) (fun Wc hWc hRWc => ?_) _
  refine NoPanic.normal ?_
  have hB1 : Bx w ((Wa.heap.size, rB (mulR (gR P h) ⟨gi V g, 1⟩)) :: _) Wc := hB1q.add hRWc.b hza (heap_ext hxc hWc)
  clear hB1q hxa hxb hxc hWb hWc hRWa hRWb hRWc hza hWa hbq
  generalize Wa.heap.size = gX at *
  generalize Wc = w1 at *
  clear HBQ
  go_upto_region 2 with fail
  refine wp_region_flow 16 (by kernel_rfl) (by rfl) (fun wq hbq => ?_)
  have hB2q := hB1.next hbq
  have HBQ := Lib.hid (fun (W : World) (hW : Below wq.heap.size wq W) => bcall hB2q.below hB2q.below.size hW)
  clear hB1
  refine wpAnyE_go (w0 := wq) (w1 := wq) (X := []) (fun _ h => h) (RK.start _) [0, 1, 2, 3, 4, 5, 6, 7, 8, 9, 10, 11, 12] 3 (by kernel_rfl) ?_
  apply Exists.intro
  refine ⟨fun G hG hN => ?_, ?_⟩
  · have p0 := fun (e : GE (RK wq wq []) G) => (HQ.out g HLT.out.2 e.w ((RK.b (GE.h e)) |> fun hh => (HBQ.out _ hh))).1
    have p1 := fun (e : GE (RK wq wq []) G) => (HQ.out g HLT.out.2 e.w (HBQ.out _ (RK.b (GE.h e)))).2.1
    have p2 := fun (e : GE (RK wq wq []) G) => show e.w.cell? ⟨(bd.add (g * 2)).block, (bd.add (g * 2)).off + 1, none⟩ = some (.int .i64 (gR P g).d) from (HQ.out g HLT.out.2 e.w (HBQ.out _ (RK.b (GE.h e)))).2.1
    have pb := fun (e : GE (RK wq wq []) G) => HQB.out g e.w (HBQ.out _ (RK.b (GE.h e)))
    have v0 := fun (e : GE (RK wq wq []) G) => (HF.out e.w (HBQ.out _ (RK.b (GE.h e)))).1.1
    have vb := fun (e : GE (RK wq wq []) G) => (HF.out e.w (HBQ.out _ (RK.b (GE.h e)))).1.2
    simp only [pickOps, List.getElem?_toArray, List.getElem?_cons_zero, List.getElem?_cons_succ]
    repeat (first | go_big_quiet_step ((first | (go_at_call 34; exact calls_ge (RK.grows _ _ _) hG (mwhole_any _ _)) | (go_at_call 67; exact calls_ge (RK.grows _ _ _) hG (HM2.out _)))) | quiet_step ((first | (go_at_call 34; exact calls_ge (RK.grows _ _ _) hG (mwhole_any _ _)) | (go_at_call 67; exact calls_ge (RK.grows _ _ _) hG (HM2.out _)))))
    exact wpQuiet_nil rfl
  refine wpAnyE_all (rs := [13]) (by kernel_rfl) (by simp) (fun Wa hWa hRWa i hi => ?_)
  obtain rfl := List.mem_singleton.1 hi
  refine wpOp_step rfl (fun K hK => ?_)
  go_simp
  refine hK _ _ ⟨hRWa.grow (one_alloc _ _), ?_⟩
  clear hK K
  have hxa := heap_new (w := Wa) (o := rB ⟨0, 0⟩) rfl
  have hza : wq.heap.size ≤ Wa.heap.size := hRWa.b.size
  refine wpAnyE_all (rs := [14]) (by kernel_rfl) (by simp) (fun Wb hWb hRWb i hi => ?_)
  obtain rfl := List.mem_singleton.1 hi
  have hxb := heap_ext hxa hWb
  have ck := fun j => cell_of_row _ _ j _ _ _ hxb
  have fk := fun j => frozen_of_row _ _ j _ _ hxb
  have zk := lt_some hxb
  refine wpOp_step rfl (fun K hK => ?_)
  go_simp
  refine hK _ _ ⟨(hRWb.set hza (Or.inr hza)).set hza (Or.inr hza), ?_⟩
  clear hK K
  clear ck fk zk
  have hxc := heap_set (j := 1) (u := .int .i64 (mulR (gR P g) ⟨gi V h, 1⟩).d) (heap_set (j := 0) (u := .int .i64 (mulR (gR P g) ⟨gi V h, 1⟩).n) hxb)
  have hsc := (hRWb.set hza (Or.inr hza) (j := 0) (u := .int .i64 (mulR (gR P g) ⟨gi V h, 1⟩).n)).set hza (Or.inr hza) (j := 1) (u := .int .i64 (mulR (gR P g) ⟨gi V h, 1⟩).d)
  generalize (Wb.setCell _ _).setCell _ _ = Wd at *
  refine wpAnyE_go (w0 := wq) (w1 := Wd) (X := []) (RK.move hsc (by simp)) (RK.here hsc) [15] 0 (by kernel_rfl) ?_
  apply Exists.intro
  refine ⟨fun G hG hN => ?_, ?_⟩
  · simp only [pickOps, List.getElem?_toArray, List.getElem?_cons_zero, List.getElem?_cons_succ]
    repeat (first | go_big_quiet_step (fail) | quiet_step (fail))
    exact wpQuiet_nil rfl
  refine wpAnyE_done (by kernel_rfl) (fun Wc hWc hRWc => ?_) _
  refine NoPanic.normal ?_
  have hB2 : Bx w ((Wa.heap.size, rB (mulR (gR P g) ⟨gi V h, 1⟩)) :: _) Wc := hB2q.add hRWc.b hza (heap_ext hxc hWc)
  clear hB2q hxa hxb hxc hWb hWc hRWa hRWb hRWc hza hWa hbq
  generalize Wa.heap.size = gY at *
  generalize Wc = w2 at *
  clear HBQ
  clear HM1 HM2 HF HQ HQB
  have HO1 := Lib.hid (fun (e : mulC (gR P h) ⟨gi V g, 1⟩ = 0) => (mul_zero_ok e).2.2.1)
  have HO2 := Lib.hid (fun (e : mulC (gR P g) ⟨gi V h, 1⟩ = 0) => (mul_zero_ok e).2.2.1)
  have HCM := Lib.hid (fun (W : World) => rcmp_any (mulR (gR P h) ⟨gi V g, 1⟩) (mulR (gR P g) ⟨gi V h, 1⟩) (mulR_wf _ _) (mulR_wf _ _) W)
  have HCL := Lib.hid (fun a b => cmp_lt (a := mulR (gR P h) ⟨gi V g, 1⟩) (b := mulR (gR P g) ⟨gi V h, 1⟩) a b)
  generalize mulC (gR P h) ⟨gi V g, 1⟩ = m1 at *
  generalize mulC (gR P g) ⟨gi V h, 1⟩ = m2 at *
  generalize mulR (gR P h) ⟨gi V g, 1⟩ = x at *
  generalize mulR (gR P g) ⟨gi V h, 1⟩ = y at *
  by_cases h1 : m1 = 0
  rotate_left
  · have q : (m1 != 0) = true := bneT h1
    have HR := Lib.hid (show betB (gi V) (gR P) h g = true by rw [HBT.out]; simp [h1])
    clear h1
    have HE := Lib.hid hB2.below
    clear hB2
    go_wp2_with fail
    go_ret
    exact ⟨ret_bool HR.out.symm, HE.out⟩
  have q : (m1 != 0) = false := bneF h1
  have O1 := Lib.hid (HO1.out h1)
  by_cases h2 : m2 = 0
  rotate_left
  · have q2 : (m2 != 0) = true := bneT h2
    have HR := Lib.hid (show betB (gi V) (gR P) h g = true by rw [HBT.out]; simp [h2])
    clear h2
    have HE := Lib.hid hB2.below
    clear hB2
    go_wp2_with fail
    go_ret
    exact ⟨ret_bool HR.out.symm, HE.out⟩
  have q2 : (m2 != 0) = false := bneF h2
  have O2 := Lib.hid (HO2.out h2)
  have HR := Lib.hid (show betB (gi V) (gR P) h g = decide (cmpR x y < 0) by rw [HBT.out, HCL.out O1.out O2.out]; simp [h1, h2])
  clear h1 h2
  have c_y := fun j => cell_of_row _ _ j _ _ _ (hB2.get 0 rfl)
  have z_y := hB2.lt 0 rfl
  have c_x := fun j => cell_of_row _ _ j _ _ _ (hB2.get 1 rfl)
  have z_x := hB2.lt 1 rfl
  go_wp2_with fail
  refine (HCM.out _).mono ?_
  rintro e w3 ⟨rfl, hb⟩
  have hB3 := hB2.next hb
  clear c_y z_y c_x z_x hb hB2
  clear HCM
  generalize cmpR x y = cc at *
  have HE := Lib.hid hB3.below
  clear hB3
  go_wp2_with fail
  go_ret
  exact ⟨ret_bool HR.out.symm, HE.out⟩
end Go.Proofs.Ytpijllobpohpgaa

namespace Go.Proofs.Ytpijllobpohpgaa
open Go.RowKit Go.Deep
set_option linter.unusedVariables false
set_option linter.unusedSimpArgs false

theorem infoQ : (Try.prog.info? 36).map (fun i => (i.zero, i.size, i.bytes)) = some (some (.agg #[.int .i64 0, .int .i64 0]), 2, 16) := by kernel_rfl
def ratV : List Rt → List Value
  | [] => []
  | r :: l => .int .i64 r.n :: .int .i64 r.d :: ratV l
theorem ratV_len : ∀ l, (ratV l).length = l.length * 2
  | [] => rfl
  | r :: l => by rw [ratV, List.length_cons, List.length_cons, ratV_len l, List.length_cons]; omega
theorem gR_zero (r : Rt) (l : List Rt) : gR (r :: l) 0 = r := rfl
theorem gR_succ (r : Rt) (l : List Rt) (k : Nat) : gR (r :: l) (k + 1) = gR l k := rfl
theorem ratV_at : ∀ {l : List Rt} {k : Nat}, k < l.length → (ratV l)[k * 2]? = some (.int .i64 (gR l k).n) ∧ (ratV l)[k * 2 + 1]? = some (.int .i64 (gR l k).d)
  | [], k, h => by simp at h
  | r :: l, 0, _ => ⟨rfl, rfl⟩
  | r :: l, k + 1, h => by
    have := ratV_at (l := l) (k := k) (by simpa using h)
    rw [gR_succ, ratV, show (k + 1) * 2 = k * 2 + 1 + 1 by omega, show k * 2 + 1 + 1 + 1 = k * 2 + 1 + 1 + 1 from rfl]
    exact this
theorem ratV_append : ∀ (l : List Rt) (r : Rt), ratV (l ++ [r]) = ratV l ++ [.int .i64 r.n, .int .i64 r.d]
  | [], r => rfl
  | x :: l, r => by rw [List.cons_append, ratV, ratV, ratV_append l r]; rfl
theorem ratV_set : ∀ (l : List Rt) (k : Nat) (r : Rt), ((ratV l).set (k * 2) (.int .i64 r.n)).set (k * 2 + 1) (.int .i64 r.d) = ratV (l.set k r)
  | [], k, r => by simp [ratV]
  | x :: l, 0, r => rfl
  | x :: l, k + 1, r => by
    rw [show (k + 1) * 2 = k * 2 + 1 + 1 by omega, ratV, List.set_cons_succ, List.set_cons_succ, List.set_cons_succ, List.set_cons_succ, ratV_set l k r, List.set_cons_succ, ratV]
theorem ratV_rep (n : Nat) (r : Rt) : ratV (List.replicate n r) = (List.replicate n [Value.int .i64 r.n, .int .i64 r.d]).flatten := by
  induction n with
  | zero => rfl
  | succ n ih => rw [List.replicate_succ, ratV, ih, List.replicate_succ, List.flatten_cons]; rfl
abbrev qR (v : Value) (l : List Rt) : Rw := ⟨v, 36, 2, l.length, ratV l⟩
theorem gR_set {l : List Rt} {k j : Nat} {r : Rt} (hk : k < l.length) : gR (l.set k r) j = if j = k then r else gR l j := by
  unfold gR
  rw [List.getD_eq_getElem?_getD, List.getD_eq_getElem?_getD]
  by_cases e : j = k
  · subst e; rw [List.getElem?_set_self hk, if_pos rfl]; rfl
  · rw [List.getElem?_set_ne (Ne.symm e), if_neg e]
theorem gR_app_lt {l m : List Rt} {i : Nat} (h : i < l.length) : gR (l ++ m) i = gR l i := by simp [gR, List.getD_eq_getElem?_getD, List.getElem?_append_left h]
theorem gR_app_at (l : List Rt) (x : Rt) : gR (l ++ [x]) l.length = x := by simp [gR, List.getD_eq_getElem?_getD]
theorem reads_two {W : World} {g : Nat} {u v : Value} {t : TypeId} (h : W.heap[g]? = some (.cells #[u, v] t)) : Reads W W.heap.size 2 (some ⟨g, 0, none⟩) 1 [u, v] := by
  refine ⟨rfl, fun _ => ⟨_, rfl, lt_some h, fun k u' hk => ?_⟩⟩
  match k, hk with
  | 0, hk =>
    have : u = u' := by simpa using hk
    subst this
    rw [add_mk, cell_of_row _ _ _ _ _ _ h]; rfl
  | 1, hk =>
    have : v = u' := by simpa using hk
    subst this
    rw [add_mk, cell_of_row _ _ _ _ _ _ h]; rfl
theorem one_two (a b : Int) : ∀ u ∈ [Value.int .i64 a, .int .i64 b], u.oneCell' = true := by
  intro u hu
  simp at hu
  rcases hu with rfl | rfl <;> rfl
/-- An own row is read as a list. -/
theorem QIn.of_own {B : Nat} {w : World} {A : Option Addr} {c : Nat} {l : List Rt} (h : w.ownsRow B 36 2 (.slice A l.length c) l.length (ratV l)) (hw : ∀ k, k < l.length → (gR l k).wf) : QIn w.heap.size w A c l := by
  obtain ⟨A', c', e', r1, r2⟩ := own_nil_len h
  obtain ⟨rfl, _, rfl⟩ := Value.slice.inj e'
  refine ⟨fun h0 => ?_, hw, r1, r2⟩
  obtain ⟨g, rfl⟩ := own_some h h0
  have hg := (own_ge' h g rfl).2
  refine ⟨_, rfl, hg, ⟨fun k hk => ?_, fun k hk => ?_⟩⟩
  · have := h.cellAt (k * 2) (by omega)
    rw [add_mk, Nat.zero_add, this]; exact (ratV_at hk).1
  · have := h.cellAt (k * 2 + 1) (by omega)
    show w.cell? ⟨g, 0 + (k * 2 + 1), none⟩ = _
    rw [Nat.zero_add, this]; exact (ratV_at hk).2
section
variable {w W W0 : World} {L : List (Nat × Obj)} {R : List Rw}
theorem Mx.setQ {g n cap : Nat} {l : List Rt} (h : Mx w L R W) (i : Nat) (hi : R[i]? = some ⟨.slice (some ⟨g, 0, none⟩) n cap, 36, 2, n, ratV l⟩) (k : Nat) (r : Rt) :
    Mx w L (R.set i ⟨.slice (some ⟨g, 0, none⟩) n cap, 36, 2, n, ratV (l.set k r)⟩) ((W.setCell ⟨g, k * 2, none⟩ (.int .i64 r.n)).setCell ⟨g, k * 2 + 1, none⟩ (.int .i64 r.d)) := by
  have hil : i < R.length := by
    rcases Nat.lt_or_ge i R.length with q | q
    · exact q
    · rw [List.getElem?_eq_none q] at hi; cases hi
  have a := h.setRow i hi (k * 2) (.int .i64 r.n)
  have b := a.setRow i (List.getElem?_set_self hil) (k * 2 + 1) (.int .i64 r.d)
  rw [List.set_set, ratV_set] at b
  exact b
theorem Mx.rowQ {g n cap : Nat} {l : List Rt} (h : Mx w L R W) (i : Nat) (hi : R[i]? = some ⟨.slice (some ⟨g, 0, none⟩) n cap, 36, 2, n, ratV l⟩) {k : Nat} (hk : k < n) (hl : n = l.length) :
    W.cell? ⟨g, k * 2, none⟩ = some (.int .i64 (gR l k).n) ∧ W.cell? ⟨g, k * 2 + 1, none⟩ = some (.int .i64 (gR l k).d) ∧ (∀ j, W.frozen? ⟨g, j, none⟩ = false) ∧ g < W.heap.size := by
  obtain ⟨a, b, c⟩ := h.rowAt i hi
  exact ⟨a _ _ (by omega) (ratV_at (by omega)).1, a _ _ (by omega) (ratV_at (by omega)).2, b, c⟩
end
end Go.Proofs.Ytpijllobpohpgaa

namespace Go.Proofs.Ytpijllobpohpgaa
open Go.RowKit Go.Deep
set_option linter.unusedVariables false
set_option linter.unusedSimpArgs false

/-- An own row of ratios, as a box. -/
theorem own_box {B : Nat} {w : World} {A : Option Addr} {c : Nat} {l : List Rt} (h : w.ownsRow B 36 2 (.slice A l.length c) l.length (ratV l)) (h0 : 0 < l.length) :
    ∃ g cur, A = some ⟨g, 0, none⟩ ∧ B ≤ g ∧ w.heap[g]? = some (.cells cur 36) ∧ ∀ k, k < l.length → cur[k * 2]? = some (.int .i64 (gR l k).n) ∧ cur[k * 2 + 1]? = some (.int .i64 (gR l k).d) := by
  obtain ⟨g, rfl⟩ := own_some h h0
  rcases h.2 with ⟨e, _⟩ | ⟨g', cap, cur, e, hg, hh, _, _, _, ht⟩
  · simp at e
  · obtain ⟨e1, _, _⟩ := Value.slice.inj e
    obtain rfl : g = g' := by simpa using e1
    refine ⟨g, cur, rfl, hg, hh, fun k hk => ?_⟩
    have at_ : ∀ j u, j < l.length * 2 → (ratV l)[j]? = some u → cur[j]? = some u := fun j u hj hu => by
      rw [← ht, List.getElem?_take, if_pos hj] at hu
      rw [← Array.getElem?_toList]; exact hu
    exact ⟨at_ _ _ (by omega) (ratV_at hk).1, at_ _ _ (by omega) (ratV_at hk).2⟩
/-- The parts of an agent. -/
def plist (i : Int) (l : List Rt) : List Rt := l.map (partR i)
theorem plist_len (i : Int) (l : List Rt) : (plist i l).length = l.length := by simp [plist]
theorem gR_map' {f : Rt → Rt} {l : List Rt} {k : Nat} (h : k < l.length) : gR (l.map f) k = f (gR l k) := by
  rw [gR_get (by simpa using h), gR_get h, List.getElem_map]
theorem plist_at {i : Int} {l : List Rt} {k : Nat} (h : k < l.length) : gR (plist i l) k = partR i (gR l k) := gR_map' h
theorem plist_take {i : Int} {l : List Rt} {k : Nat} (h : k < l.length) : plist i (l.take (k + 1)) = plist i (l.take k) ++ [partR i (gR l k)] := by
  unfold plist; rw [List.take_succ_eq_append_getElem h, List.map_append, gR_get h]; rfl

set_option maxRecDepth 100000 in
set_option maxHeartbeats 8000000 in
theorem fparts_any (l : List Rt) (B : Option Addr) (d : Nat) (i : Int) (hi : i = 0 ∨ i = 1) (w : World) (hl : QIn w.heap.size w B d l) (hm : l.length ≤ 1000) :
    Calls Try.prog 51 #[.slice B l.length d, .int .i64 i] w fun e w' => ∃ A c, e = .returned (.slice A l.length c) ∧ QIn w'.heap.size w' A c (plist i l) ∧ w'.ownsRow w.heap.size 36 2 (.slice A (plist i l).length c) (plist i l).length (ratV (plist i l)) ∧ Below w.heap.size w w' := by
  obtain ⟨iq, hiq, hq0, hq1, hq2⟩ := info_parts infoQ
  have HL := Lib.hid hl
  have HI := Lib.hid hi
  clear hl hi
  go_enter Try.func51, Try.ntmps51
  go_wp2_with fail
  go_loopw [5, 6] (fun v s wr => ∃ k : Nat, k ≤ l.length ∧ s = .int .i64 k ∧ Mx w [] [qR v (plist i (l.take k))] wr) (fun _ s _ => l.length - (intOf s).toNat)
  case atStart => exact ⟨0, Nat.zero_le _, rfl, (Mx.of_bx (Bx.start w)).nil 36 2⟩
  case round =>
    obtain ⟨k, hk, rfl, hMr⟩ := hrel
    by_cases hlt : k < l.length
    rotate_left
    · obtain rfl : k = l.length := by omega
      rw [List.take_length] at hMr
      have hrow : wr.ownsRow w.heap.size 36 2 _ (plist i l).length (ratV (plist i l)) := hMr.row 0 rfl
      obtain ⟨A, c, rfl, _, _⟩ := own_nil_len hrow
      have HQ := Lib.hid (QIn.of_own (l := plist i l) (B := w.heap.size) (w := wr) (A := A) (c := c) (by simpa [plist_len] using hrow) (fun g hg => by rw [plist_at (by simpa [plist_len] using hg)]; exact partR_wf _ (HL.out.wf g (by simpa [plist_len] using hg))))
      have HOW := Lib.hid hrow
      have HE := Lib.hid hMr.below
      have HLL := Lib.hid (plist_len i l)
      clear hMr hrow hlt hk
      go_wp2_with fail
      go_ret
      exact ⟨A, c, by first | rfl | (rw [HLL.out]; rfl), HQ.out, HOW.out, HE.out⟩
    obtain ⟨bd, rfl, hb, hc⟩ := HL.out.at_ hlt
    obtain ⟨f0, f1, f2⟩ := cell2 (hc.below hb hMr.below) hlt
    have f3 : wr.cell? ⟨(bd.add (k * 2)).block, (bd.add (k * 2)).off + 1, none⟩ = some (.int .i64 (gR l k).d) := f1
    have z1 : (k : Int) < (l.length : Int) := by omega
    have z3 : (0 : Int) ≤ (k : Int) := by omega
    have y1 : IntKind.i64.wrap ((k : Int) + 1) = (k : Int) + 1 := IntWalk.i64_in _ (by omega)
    have y1' : wrap64 ((k : Int) + 1) = (k : Int) + 1 := IntWalk.wrap64_in _ (by omega)
    have HWF := Lib.hid (HL.out.wf k hlt)
    have HTK := Lib.hid (plist_take (i := i) hlt)
    have HTL := Lib.hid (show (plist i (l.take k)).length = k by rw [plist_len]; simp; omega)
    have HKM := Lib.hid (show k + 1 ≤ maxLen ∧ (k + 1) * 16 ≤ 140737488355328 by unfold maxLen; omega)
    have HME := Lib.hid (And.intro (Nat.succ_le_of_lt hlt) (Nat.sub_lt_sub_left hlt (Nat.lt_succ_self k)))
    clear hc hb hk hlt
    generalize gR l k = e at *
    generalize plist i (l.take k) = pk at *
    go_upto_region 6 with fail
    have hB21 := hMr.new rfl (rB e)
    clear hMr
    generalize wr.heap.size = gX at *
    generalize wr.alloc _ = w21 at *
    clear f0 f1 f2 f3
    by_cases h1 : i = 1
    rotate_left
    · have hi0 : i = 0 := HI.out.resolve_right h1
      have q : (i == 1) = false := by simpa using h1
      have HV := Lib.hid (show partR i e = e by unfold partR; rw [if_pos hi0])
      clear h1 hi0
      have c_x := fun j => cell_of_row _ _ j _ _ _ (hB21.get 0 rfl)
      have z_x := hB21.lt 0 rfl
      have hn := hB21.new rfl (rB (e))
      clear hB21
      go_wp2_with (at_builtin; refine wpList_append_any _ rfl (.tmp 26) (.tmp 28) 27 rfl w.heap.size 36 iq (.agg #[.int .i64 0, .int .i64 0]) 2 16 Try.underlying27 hiq hq0 hq1 hq2 rfl (by omega) _ pk.length (ratV pk) rfl (hn.row 0 rfl) _ (some ⟨w21.heap.size, 0, none⟩) 1 1 [.int .i64 (e).n, .int .i64 (e).d] rfl (reads_two (hn.get 0 rfl)) (one_two _ _) (by rw [HTL.out]; exact HKM.out.1) (by rw [HTL.out]; exact HKM.out.2) hn.below.size ?_; intro v2 wq hown hgr hat; have hg := hn.grow 0 rfl hgr hown hat; clear hown hgr hat)
      refine ⟨⟨k + 1, HME.out.1, by go_num, ?_⟩, by simpa [intOf] using HME.out.2⟩
      rw [HTK.out, HV.out]
      have hz := hg.drop.drop
      have e2 : qR v2 (pk ++ [e]) = ⟨v2, 36, 2, pk.length + 1, ratV pk ++ [.int .i64 (e).n, .int .i64 (e).d]⟩ := by simp only [qR, ratV_append, List.length_append, List.length_singleton]
      rw [e2]; exact hz
    have q : (i == 1) = true := by simpa using h1
    have HV := Lib.hid (show partR i e = subR ⟨1, 1⟩ e by unfold partR; rw [if_neg (by omega)])
    have HS := Lib.hid (fun (W : World) => fsub_any ⟨1, 1⟩ e ok_one.wf HWF.out W)
    clear h1
    go_upto_region 7 with fail
    refine wp_region_R (Bx w []) 7 (by kernel_rfl) (by rfl) ((hB21.keep (List.nil_sublist _)).drew) (fun wq1 hbq => ?_)
    have hB22 := hB21.next hbq
    clear hB21 hbq
    refine wpAnyE_goR (Bx.grows _ _) (hB22.keep (List.nil_sublist _)) [0] 6 (by kernel_rfl) ?_
    apply Exists.intro
    refine ⟨fun G hG hN => ?_, ?_⟩
    · simp only [pickOps, List.getElem?_toArray, List.getElem?_cons_zero, List.getElem?_cons_succ]
      repeat (first | go_big_quiet_step ((first | (go_at_call 57; exact calls_ge (Bx.grows _ _) hG (of_any _ _)) | (go_at_call 78; exact calls_ge (Bx.grows _ _) hG (HS.out _)))) | quiet_step ((first | (go_at_call 57; exact calls_ge (Bx.grows _ _) hG (of_any _ _)) | (go_at_call 78; exact calls_ge (Bx.grows _ _) hG (HS.out _)))))
      exact wpQuiet_nil rfl
    refine wpAnyE_all (rs := [1]) (by kernel_rfl) (by simp) (fun wa2 hwa2 hRwa2 i hi => ?_)
    have hB23 := hB22.next hwa2
    clear hB22 hwa2 hRwa2
    obtain rfl := List.mem_singleton.1 hi
    refine wpOp_step rfl (fun Kc hKc => ?_)
    have c_x := fun j => cell_of_row _ _ j _ _ _ (hB23.get 0 rfl)
    have z_x := hB23.lt 0 rfl
    go_simp
    refine hKc _ _ ⟨(hB23.keep (List.nil_sublist _)), ?_⟩
    clear hKc Kc
    clear c_x z_x
    refine wpAnyE_goR (Bx.grows _ _) (hB23.keep (List.nil_sublist _)) [2, 3, 4, 5] 1 (by kernel_rfl) ?_
    apply Exists.intro
    refine ⟨fun G hG hN => ?_, ?_⟩
    · simp only [pickOps, List.getElem?_toArray, List.getElem?_cons_zero, List.getElem?_cons_succ]
      repeat (first | go_big_quiet_step ((first | (go_at_call 57; exact calls_ge (Bx.grows _ _) hG (of_any _ _)) | (go_at_call 78; exact calls_ge (Bx.grows _ _) hG (HS.out _)))) | quiet_step ((first | (go_at_call 57; exact calls_ge (Bx.grows _ _) hG (of_any _ _)) | (go_at_call 78; exact calls_ge (Bx.grows _ _) hG (HS.out _)))))
      exact wpQuiet_nil rfl
    refine wpAnyE_all (rs := [6]) (by kernel_rfl) (by simp) (fun wa3 hwa3 hRwa3 i hi => ?_)
    have hB24 := hB23.next hwa3
    clear hB23 hwa3 hRwa3
    obtain rfl := List.mem_singleton.1 hi
    refine wpOp_step rfl (fun Kc hKc => ?_)
    have c_x := fun j => cell_of_row _ _ j _ _ _ (hB24.get 0 rfl)
    have z_x := hB24.lt 0 rfl
    have f_x := fun j => frozen_of_row _ _ j _ _ (hB24.get 0 rfl)
    go_simp
    have hB25 := hB24.put 0 rfl (subR ⟨1, 1⟩ e)
    refine hKc _ _ ⟨(hB25.keep (List.nil_sublist _)), ?_⟩
    clear c_x z_x f_x hKc Kc hB24
    generalize (wa3.setCell _ _).setCell _ _ = wb4 at *
    refine wpAnyE_done (by kernel_rfl) (fun wd5 hwd5 hRwd5 => ?_) _
    refine NoPanic.normal ?_
    have hB26 := hB25.next hwd5
    clear hB25 hwd5 hRwd5
    have c_x := fun j => cell_of_row _ _ j _ _ _ (hB26.get 0 rfl)
    have z_x := hB26.lt 0 rfl
    have hn := hB26.new rfl (rB (subR ⟨1, 1⟩ e))
    clear hB26
    go_wp2_with (at_builtin; refine wpList_append_any _ rfl (.tmp 26) (.tmp 28) 27 rfl w.heap.size 36 iq (.agg #[.int .i64 0, .int .i64 0]) 2 16 Try.underlying27 hiq hq0 hq1 hq2 rfl (by omega) _ pk.length (ratV pk) rfl (hn.row 0 rfl) _ (some ⟨wd5.heap.size, 0, none⟩) 1 1 [.int .i64 (subR ⟨1, 1⟩ e).n, .int .i64 (subR ⟨1, 1⟩ e).d] rfl (reads_two (hn.get 0 rfl)) (one_two _ _) (by rw [HTL.out]; exact HKM.out.1) (by rw [HTL.out]; exact HKM.out.2) hn.below.size ?_; intro v2 wq hown hgr hat; have hg := hn.grow 0 rfl hgr hown hat; clear hown hgr hat)
    refine ⟨⟨k + 1, HME.out.1, by go_num, ?_⟩, by simpa [intOf] using HME.out.2⟩
    rw [HTK.out, HV.out]
    have hz := hg.drop.drop
    have e2 : qR v2 (pk ++ [subR ⟨1, 1⟩ e]) = ⟨v2, 36, 2, pk.length + 1, ratV pk ++ [.int .i64 (subR ⟨1, 1⟩ e).n, .int .i64 (subR ⟨1, 1⟩ e).d]⟩ := by simp only [qR, ratV_append, List.length_append, List.length_singleton]
    rw [e2]; exact hz

def paysB (f h : Nat → Rt) (n : Nat) : Bool := match totS f h n with
  | some s => decide (s = ⟨1, 1⟩)
  | none => false
set_option maxRecDepth 100000 in
set_option maxHeartbeats 16000000 in
theorem fpays_any (P : List Rt) (A : Option Addr) (c : Nat) (l : List Rt) (B : Option Addr) (d : Nat) (w : World) (hP : QIn w.heap.size w A c P) (hl : QIn w.heap.size w B d l) (hn : l.length = P.length) :
    Calls Try.prog 52 #[.slice A P.length c, .slice B l.length d] w fun e w' => e = .returned (.bool (paysB (gR P) (gR l) P.length)) ∧ Below w.heap.size w w' := by
  have hm := Nat.le_trans hP.len hP.cap
  unfold maxLen at hm
  have HP := Lib.hid hP
  have HL := Lib.hid hl
  have HNL := Lib.hid hn
  have hB0 : Bx w [] w := Bx.start w
  clear hl hP hn
  go_enter Try.func52, Try.ntmps52
  try dsimp only [List.append]
  go_wp2_with fail
  refine (of_any 0 _).mono ?_
  rintro e w1 ⟨rfl, hb⟩
  have hB1 := hB0.next hb
  clear hb hB0
  go_upto_region 2 with fail
  have hB2 := hB1.new rfl (rB ⟨0, 1⟩)
  clear hB1
  generalize w1.heap.size = gS at *
  generalize w1.alloc _ = w2 at *
  go_wp2_with fail
  have HB2 := Lib.hid hB2
  clear hB2
  go_loopw [6] (fun a wr => ∃ (k : Nat) (s : Rt), k ≤ P.length ∧ a = .int .i64 k ∧ totS (gR P) (gR l) k = some s ∧ Bx w [(gS, rB s)] wr) (fun a _ => P.length - (intOf a).toNat)
  case atStart => exact ⟨0, ⟨0, 1⟩, Nat.zero_le _, rfl, rfl, HB2.out⟩
  case round =>
    as_aux_lemma =>
    obtain ⟨k, s, hk, rfl, hs, hBr⟩ := hrel
    clear HB2
    by_cases hlt : k < P.length
    rotate_left
    · obtain rfl : k = P.length := by omega
      have HR := Lib.hid (show paysB (gR P) (gR l) P.length = decide (s = ⟨1, 1⟩) by unfold paysB; rw [hs])
      clear hs hlt hk
      have c_s := fun j => cell_of_row _ _ j _ _ _ (hBr.get 0 rfl)
      have z_s := hBr.lt 0 rfl
      by_cases e : s = ⟨1, 1⟩
      · rw [decide_eq_true e] at HR
        obtain rfl := e
        have q1 : ((1 : Int) == 1) = true := rfl
        go_wp2_with fail
        refine wp_region_ext (by kernel_rfl) (by kernel_rfl) ?_
        repeat (first | go_big_quiet_step ((first | (go_at_call 57; exact calls_ext (of_any _ _)))) | quiet_step ((first | (go_at_call 57; exact calls_ext (of_any _ _)))))
        refine wpQuiet_nil ?_
        rintro w2 ⟨⟨_, hb⟩, rfl⟩
        have HE := Lib.hid (bcall hBr.below hBr.below.size hb)
        clear hb hBr c_s z_s
        go_wp2_with fail
        go_ret
        exact ⟨ret_bool HR.out.symm, HE.out⟩
      rw [decide_eq_false e] at HR
      by_cases q1 : s.n = 1
      · have p1 : (s.n == 1) = true := by simpa using q1
        have p2 : (s.d == 1) = false := by simpa using (fun q2 => e (Rt.ext_ q1 q2))
        clear q1 e
        go_wp2_with fail
        refine wp_region_ext (by kernel_rfl) (by kernel_rfl) ?_
        repeat (first | go_big_quiet_step ((first | (go_at_call 57; exact calls_ext (of_any _ _)))) | quiet_step ((first | (go_at_call 57; exact calls_ext (of_any _ _)))))
        refine wpQuiet_nil ?_
        rintro w2 ⟨⟨_, hb⟩, rfl⟩
        have HE := Lib.hid (bcall hBr.below hBr.below.size hb)
        clear hb hBr c_s z_s
        go_wp2_with fail
        go_ret
        exact ⟨ret_bool HR.out.symm, HE.out⟩
      have p1 : (s.n == 1) = false := by simpa using q1
      clear q1 e
      go_wp2_with fail
      refine wp_region_ext (by kernel_rfl) (by kernel_rfl) ?_
      repeat (first | go_big_quiet_step ((first | (go_at_call 57; exact calls_ext (of_any _ _)))) | quiet_step ((first | (go_at_call 57; exact calls_ext (of_any _ _)))))
      refine wpQuiet_nil ?_
      rintro w2 ⟨⟨_, hb⟩, rfl⟩
      have HE := Lib.hid (bcall hBr.below hBr.below.size hb)
      clear hb hBr c_s z_s
      go_wp2_with fail
      go_ret
      exact ⟨ret_bool HR.out.symm, HE.out⟩
    obtain ⟨ad, rfl, hb, hc⟩ := HP.out.at_ hlt
    obtain ⟨bd, rfl, kb, kc⟩ := HL.out.at_ (show k < l.length by have := HNL.out; omega)
    have HF := Lib.hid (fun (W : World) (hW : Below w.heap.size w W) => cell2 (hc.below hb hW) hlt)
    have HG := Lib.hid (fun (W : World) (hW : Below w.heap.size w W) => cell2 (kc.below kb hW) (show k < l.length by have := HNL.out; omega))
    have HFB := Lib.hid (fun (W : World) (hW : Below w.heap.size w W) => show (ad.add (k * 2)).block < W.heap.size ∧ (bd.add (k * 2)).block < W.heap.size by rw [block_add, block_add]; exact ⟨Nat.lt_of_lt_of_le hb hW.size, Nat.lt_of_lt_of_le kb hW.size⟩)
    have z1 : (k : Int) < (P.length : Int) := by omega
    have z2 : (k : Int) < (l.length : Int) := by have := HNL.out; omega
    have z3 : (0 : Int) ≤ (k : Int) := by omega
    have y1 : IntKind.i64.wrap ((k : Int) + 1) = (k : Int) + 1 := IntWalk.i64_in _ (by omega)
    have y1' : wrap64 ((k : Int) + 1) = (k : Int) + 1 := IntWalk.wrap64_in _ (by omega)
    have HM := Lib.hid (fun (W : World) => fmul_any (gR P k) (gR l k) (HP.out.wf k hlt) (HL.out.wf k (by have := HNL.out; omega)) W)
    have HST := Lib.hid (totS_step hs)
    have HSW := Lib.hid (totS_q hs).1.wf
    have HME := Lib.hid (And.intro (Nat.succ_le_of_lt hlt) (Nat.sub_lt_sub_left hlt (Nat.lt_succ_self k)))
    clear hs hc hb kc kb hk hlt
    go_upto_region 5 with fail
    refine wp_region_flow 15 (by kernel_rfl) (by rfl) (fun wq hbq => ?_)
    have hB21q := hBr.next hbq
    have HBQ := Lib.hid (fun (W : World) (hW : Below wq.heap.size wq W) => bcall hB21q.below hB21q.below.size hW)
    clear hBr
    refine wpAnyE_go (w0 := wq) (w1 := wq) (X := []) (fun _ h => h) (RK.start _) [0, 1, 2, 3, 4, 5, 6, 7, 8, 9, 10, 11] 3 (by kernel_rfl) ?_
    apply Exists.intro
    refine ⟨fun G hG hN => ?_, ?_⟩
    · have p0 := fun (e : GE (RK wq wq []) G) => (HF.out e.w (HBQ.out _ (RK.b (GE.h e)))).1
      have p1 := fun (e : GE (RK wq wq []) G) => (HF.out e.w (HBQ.out _ (RK.b (GE.h e)))).2.1
      have p2 := fun (e : GE (RK wq wq []) G) => show e.w.cell? ⟨(ad.add (k * 2)).block, (ad.add (k * 2)).off + 1, none⟩ = some (.int .i64 (gR P k).d) from (HF.out e.w (HBQ.out _ (RK.b (GE.h e)))).2.1
      have g0 := fun (e : GE (RK wq wq []) G) => (HG.out e.w (HBQ.out _ (RK.b (GE.h e)))).1
      have g1 := fun (e : GE (RK wq wq []) G) => (HG.out e.w (HBQ.out _ (RK.b (GE.h e)))).2.1
      have g2 := fun (e : GE (RK wq wq []) G) => show e.w.cell? ⟨(bd.add (k * 2)).block, (bd.add (k * 2)).off + 1, none⟩ = some (.int .i64 (gR l k).d) from (HG.out e.w (HBQ.out _ (RK.b (GE.h e)))).2.1
      have pb := fun (e : GE (RK wq wq []) G) => (HFB.out e.w (HBQ.out _ (RK.b (GE.h e)))).1
      have gb := fun (e : GE (RK wq wq []) G) => (HFB.out e.w (HBQ.out _ (RK.b (GE.h e)))).2
      simp only [pickOps, List.getElem?_toArray, List.getElem?_cons_zero, List.getElem?_cons_succ]
      repeat (first | go_big_quiet_step ((first | (go_at_call 20; exact calls_ge (RK.grows _ _ _) hG (HM.out _)))) | quiet_step ((first | (go_at_call 20; exact calls_ge (RK.grows _ _ _) hG (HM.out _)))))
      exact wpQuiet_nil rfl
    refine wpAnyE_all (rs := [12]) (by kernel_rfl) (by simp) (fun Wa hWa hRWa i hi => ?_)
    obtain rfl := List.mem_singleton.1 hi
    refine wpOp_step rfl (fun K hK => ?_)
    go_simp
    refine hK _ _ ⟨hRWa.grow (one_alloc _ _), ?_⟩
    clear hK K
    have hxa := heap_new (w := Wa) (o := rB ⟨0, 0⟩) rfl
    have hza : wq.heap.size ≤ Wa.heap.size := hRWa.b.size
    refine wpAnyE_all (rs := [13]) (by kernel_rfl) (by simp) (fun Wb hWb hRWb i hi => ?_)
    obtain rfl := List.mem_singleton.1 hi
    have hxb := heap_ext hxa hWb
    have ck := fun j => cell_of_row _ _ j _ _ _ hxb
    have fk := fun j => frozen_of_row _ _ j _ _ hxb
    have zk := lt_some hxb
    refine wpOp_step rfl (fun K hK => ?_)
    go_simp
    refine hK _ _ ⟨(hRWb.set hza (Or.inr hza)).set hza (Or.inr hza), ?_⟩
    clear hK K
    clear ck fk zk
    have hxc := heap_set (j := 1) (u := .int .i64 (mulR (gR P k) (gR l k)).d) (heap_set (j := 0) (u := .int .i64 (mulR (gR P k) (gR l k)).n) hxb)
    have hsc := (hRWb.set hza (Or.inr hza) (j := 0) (u := .int .i64 (mulR (gR P k) (gR l k)).n)).set hza (Or.inr hza) (j := 1) (u := .int .i64 (mulR (gR P k) (gR l k)).d)
    generalize (Wb.setCell _ _).setCell _ _ = Wd at *
    refine wpAnyE_go (w0 := wq) (w1 := Wd) (X := []) (RK.move hsc (by simp)) (RK.here hsc) [14] 0 (by kernel_rfl) ?_
    apply Exists.intro
    refine ⟨fun G hG hN => ?_, ?_⟩
    · simp only [pickOps, List.getElem?_toArray, List.getElem?_cons_zero, List.getElem?_cons_succ]
      repeat (first | go_big_quiet_step (fail) | quiet_step (fail))
      exact wpQuiet_nil rfl
    refine wpAnyE_done (by kernel_rfl) (fun Wc hWc hRWc => ?_) _
    refine NoPanic.normal ?_
    have hB21 : Bx w ((Wa.heap.size, rB (mulR (gR P k) (gR l k))) :: _) Wc := hB21q.add hRWc.b hza (heap_ext hxc hWc)
    clear hB21q hxa hxb hxc hWb hWc hRWa hRWb hRWc hza hWa hbq
    generalize Wa.heap.size = gX at *
    generalize Wc = w21 at *
    clear HBQ HF HG HFB HM
    by_cases hm0 : mulC (gR P k) (gR l k) = 0
    rotate_left
    · have q : (mulC (gR P k) (gR l k) == 0) = false := beqF hm0
      have q2 : (mulC (gR P k) (gR l k) != 0) = true := bneT hm0
      have HW := Lib.hid (show totS (gR P) (gR l) (k + 1) = none by rw [HST.out, if_neg (fun q => hm0 q.1)])
      clear hm0
      generalize mulC (gR P k) (gR l k) = mc at *
      have HNO := Lib.hid (totS_none (n := P.length) HW.out HME.out.1)
      have HR := Lib.hid (show paysB (gR P) (gR l) P.length = false by unfold paysB; rw [HNO.out])
      have HE := Lib.hid hB21.below
      clear hB21
      go_wp2_with fail
      go_ret
      exact ⟨ret_bool HR.out.symm, HE.out⟩
    have q : (mulC (gR P k) (gR l k) == 0) = true := beqT hm0
    have HM0 := Lib.hid hm0
    have HA := Lib.hid (fun (W : World) => fadd_any s (mulR (gR P k) (gR l k)) HSW.out (mulR_wf _ _) W)
    clear hm0
    generalize mulC (gR P k) (gR l k) = mc at *
    have c_x := fun j => cell_of_row _ _ j _ _ _ (hB21.get 0 rfl)
    have z_x := hB21.lt 0 rfl
    have c_s := fun j => cell_of_row _ _ j _ _ _ (hB21.get 1 rfl)
    have z_s := hB21.lt 1 rfl
    go_wp2_with fail
    refine (HA.out _).mono ?_
    rintro e w22 ⟨rfl, hb⟩
    have hB22 := hB21.next hb
    clear c_x z_x c_s z_s hb hB21
    clear HA
    have c_s := fun j => cell_of_row _ _ j _ _ _ (hB22.get 1 rfl)
    have z_s := hB22.lt 1 rfl
    have f_s := fun j => frozen_of_row _ _ j _ _ (hB22.get 1 rfl)
    go_upto_region 8 with fail
    have hB23 := hB22.put 1 rfl (addR s (mulR (gR P k) (gR l k)))
    clear c_s z_s f_s hB22
    generalize (w22.setCell _ _).setCell _ _ = w23 at *
    by_cases ha0 : addC s (mulR (gR P k) (gR l k)) = 0
    rotate_left
    · have q2 : (addC s (mulR (gR P k) (gR l k)) != 0) = true := bneT ha0
      have HW := Lib.hid (show totS (gR P) (gR l) (k + 1) = none by rw [HST.out, if_neg (fun q => ha0 q.2)])
      clear ha0
      generalize addC s (mulR (gR P k) (gR l k)) = ac at *
      have HNO := Lib.hid (totS_none (n := P.length) HW.out HME.out.1)
      have HR := Lib.hid (show paysB (gR P) (gR l) P.length = false by unfold paysB; rw [HNO.out])
      have HE := Lib.hid hB23.below
      clear hB23
      go_wp2_with fail
      go_ret
      exact ⟨ret_bool HR.out.symm, HE.out⟩
    have q2 : (addC s (mulR (gR P k) (gR l k)) != 0) = false := bneF ha0
    have HW := Lib.hid (show totS (gR P) (gR l) (k + 1) = some (addR s (mulR (gR P k) (gR l k))) by rw [HST.out, if_pos ⟨HM0.out, ha0⟩])
    clear ha0
    generalize addC s (mulR (gR P k) (gR l k)) = ac at *
    generalize addR s (mulR (gR P k) (gR l k)) = s2 at *
    have HZ := Lib.hid (show Bx w [(gS, rB s2)] _ from hB23.sub (List.Sublist.cons _ (List.Sublist.refl _)))
    clear hB23
    go_wp2_with fail
    exact ⟨⟨k + 1, s2, HME.out.1, by go_num, HW.out, HZ.out⟩, by simpa [intOf] using HME.out.2⟩
end Go.Proofs.Ytpijllobpohpgaa

namespace Go.Proofs.Ytpijllobpohpgaa
open Go.RowKit Go.Deep
set_option linter.unusedVariables false
set_option linter.unusedSimpArgs false

set_option maxRecDepth 100000 in
set_option maxHeartbeats 16000000 in
theorem fworth_any (bs : List (List Int)) (A : Option Addr) (c : Nat) (l : List Rt) (B : Option Addr) (d i : Nat) (t : Rt) (w : World) (h : GIn w.heap.size w A c bs) (hi : i < bs.length) (hi2 : i < 2) (hl : QIn w.heap.size w B d l) (hn : l.length = (gr bs i).length) (h0 : 0 < l.length) (hm : l.length ≤ 1000) (hv : ∀ g, g < l.length → -9223372036854775808 ≤ gi (gr bs i) g ∧ gi (gr bs i) g ≤ 9223372036854775807) (ht : worthS bs l i = some t) :
    Calls Try.prog 54 #[gV A c bs, .slice B l.length d, .int .i64 i] w fun e w' => e = .returned (.tuple #[rV t, .int .i64 0]) ∧ Below w.heap.size w w' := by
  have hB0 : Bx w [(w.heap.size + 1, rB ⟨0, 0⟩), (w.heap.size, gB A c bs)] ((w.alloc (gB A c bs)).alloc (rB ⟨0, 0⟩)) := ((Bx.start w).new rfl _).new (by simp) _
  have HP := Lib.hid (fun (W : World) (hW : Below w.heap.size w W) => fparts_any l B d i (by omega) W (hl.next hW) hm)
  obtain ⟨ad, R, c', rfl, hb, hc, l1, m1, hr⟩ := h.rows.at_ hi
  have HRW := Lib.hid (fun (W : World) (hW : Below w.heap.size w W) => show W.cell? (ad.add i) = some (.slice R (gr bs i).length c') ∧ (ad.add i).block < W.heap.size ∧ Ints W.heap.size W R (gr bs i) from ⟨(hW.cell (by rw [block_add]; exact hb)).trans hc, by rw [block_add]; exact Nat.lt_of_lt_of_le hb hW.size, hr.next hW⟩)
  have HT := Lib.hid (show totS (fun g => ⟨gi (gr bs i) g, 1⟩) (gR (plist i l)) l.length = some t from (totS_congr (fun k hk => ⟨rfl, plist_at hk⟩)).trans ht)
  have HV := Lib.hid (fun k (hk : k < l.length) => int_wf (hv k hk))
  have HPW := Lib.hid (fun k (hk : k < l.length) => show (gR (plist i l) k).wf by rw [plist_at hk]; exact partR_wf _ (hl.wf k hk))
  have HPL := Lib.hid (plist_len i l)
  have HN := Lib.hid hn
  have HNP := Lib.hid h0
  have HM := Lib.hid hm
  have z8 : (i : Int) < (bs.length : Int) := by omega
  have z9 : (0 : Int) ≤ (i : Int) := by omega
  clear h hi hi2 hl hn h0 hm hv ht hb hc hr
  generalize plist (i : Int) l = pl at *
  go_enter Try.func54, Try.ntmps54
  try dsimp only [List.append]
  go_upto_region 1 with fail
  generalize hw0 : (w.alloc (gB (some ad) c bs)).alloc (rB ⟨0, 0⟩) = w0 at *
  clear hw0
  generalize w.heap.size + 1 = gO at *
  go_wp2_with fail
  refine (of_any 0 _).mono ?_
  rintro e w1 ⟨rfl, hb⟩
  have hB1 := hB0.next hb
  clear hb hB0
  go_upto_region 2 with fail
  have hB2 := hB1.new rfl (rB ⟨0, 1⟩)
  clear hB1
  generalize w1.heap.size = gS at *
  generalize w1.alloc _ = w2 at *
  go_wp2_with fail
  refine Calls.mono (HP.out _ hB2.below) ?_
  rintro e w3 ⟨A2, c2, rfl, _, how, hb⟩
  obtain ⟨gp, cur, rfl, hgp, hhp, hcu⟩ := own_box how (by have := HPL.out; have := HNP.out; omega)
  have hB3 := hB2.add hb hgp hhp
  have HCU := Lib.hid hcu
  clear hb how hgp hhp hcu HP hB2
  go_wp2_with fail
  have HB2 := Lib.hid hB3
  clear hB3
  go_loopw [10] (fun a wr => ∃ (k : Nat) (s : Rt), k ≤ l.length ∧ a = .int .i64 k ∧ totS (fun g => ⟨gi (gr bs i) g, 1⟩) (gR pl) k = some s ∧ Bx w [(gp, .cells cur 36), (gS, rB s), (gO, rB ⟨0, 0⟩), (w.heap.size, gB (some ad) c bs)] wr) (fun a _ => l.length - (intOf a).toNat)
  case atStart => exact ⟨0, ⟨0, 1⟩, Nat.zero_le _, rfl, rfl, HB2.out⟩
  case round =>
    as_aux_lemma =>
    obtain ⟨k, s, hk, rfl, hs, hBr⟩ := hrel
    clear HB2
    by_cases hlt : k < l.length
    rotate_left
    · obtain rfl : k = l.length := by omega
      obtain rfl : s = t := Option.some.inj (hs.symm.trans HT.out)
      clear hs hlt hk
      have c_s := fun j => cell_of_row _ _ j _ _ _ (hBr.get 1 rfl)
      have z_s := hBr.lt 1 rfl
      have c_o := fun j => cell_of_row _ _ j _ _ _ (hBr.get 2 rfl)
      have z_o := hBr.lt 2 rfl
      have f_o := fun j => frozen_of_row _ _ j _ _ (hBr.get 2 rfl)
      have HE := Lib.hid (hBr.put 2 rfl s).below
      clear hBr
      go_wp2_with fail
      refine bodyPost_ret (v := .tuple #[rV s, .int .i64 0]) (by simp [results, Try.results54, go_sem, c_o, f_o, z_o]) rfl ⟨rfl, HE.out⟩
    obtain ⟨rd, hrd, rb, rc⟩ := (HRW.out _ hBr.below).2.2.at_ (show k < (gr bs i).length by have := HN.out; omega)
    subst hrd
    have HRC := Lib.hid (fun (W : World) (hW : Below w.heap.size w W) => show W.cell? (rd.add k) = some (.int .i64 (gi (gr bs i) k)) ∧ (rd.add k).block < W.heap.size by
      obtain ⟨x, ex, bx, cx⟩ := (HRW.out _ hW).2.2.at_ (show k < (gr bs i).length by have := HN.out; omega)
      obtain rfl : rd = x := by simpa using ex
      exact ⟨cx, by rw [block_add]; exact bx⟩)
    have hk0 := (HCU.out k (by have := HPL.out; omega)).1
    have hk1 := (HCU.out k (by have := HPL.out; omega)).2
    have z1 : (k : Int) < ((gr bs i).length : Int) := by have := HN.out; omega
    have z2 : (k : Int) < (l.length : Int) := by omega
    have z3 : (0 : Int) ≤ (k : Int) := by omega
    have y1 : IntKind.i64.wrap ((k : Int) + 1) = (k : Int) + 1 := IntWalk.i64_in _ (by have := HM.out; omega)
    have y1' : wrap64 ((k : Int) + 1) = (k : Int) + 1 := IntWalk.wrap64_in _ (by have := HM.out; omega)
    have HMU := Lib.hid (fun (W : World) => fmul_any ⟨gi (gr bs i) k, 1⟩ (gR pl k) (HV.out k hlt) (HPW.out k hlt) W)
    have HCZ := Lib.hid (show mulC ⟨gi (gr bs i) k, 1⟩ (gR pl k) = 0 ∧ addC s (mulR ⟨gi (gr bs i) k, 1⟩ (gR pl k)) = 0 by
      have st := totS_step hs
      by_cases q : mulC ⟨gi (gr bs i) k, 1⟩ (gR pl k) = 0 ∧ addC s (mulR ⟨gi (gr bs i) k, 1⟩ (gR pl k)) = 0
      · exact q
      · rw [if_neg q] at st
        have := totS_none (n := l.length) st (Nat.succ_le_of_lt hlt)
        rw [HT.out] at this; cases this)
    have HST := Lib.hid (show totS (fun g => ⟨gi (gr bs i) g, 1⟩) (gR pl) (k + 1) = some (addR s (mulR ⟨gi (gr bs i) k, 1⟩ (gR pl k))) by rw [totS_step hs, if_pos HCZ.out])
    have HSW := Lib.hid (totS_q hs).1.wf
    have HME := Lib.hid (And.intro (Nat.succ_le_of_lt hlt) (Nat.sub_lt_sub_left hlt (Nat.lt_succ_self k)))
    have HAD := Lib.hid (fun (W : World) => fadd_any s (mulR ⟨gi (gr bs i) k, 1⟩ (gR pl k)) HSW.out (mulR_wf _ _) W)
    rw [HCZ.out.1] at HMU
    rw [HCZ.out.2] at HAD
    clear hs rb rc hk hlt
    have c_s := fun j => cell_of_row _ _ j _ _ _ (hBr.get 1 rfl)
    have z_s := hBr.lt 1 rfl
    have c_G := fun j => cell_of_row _ _ j _ _ _ (hBr.get 3 rfl)
    have z_G := hBr.lt 3 rfl
    go_upto_region 6 with fail
    clear c_s z_s c_G z_G
    refine wp_region_flow 20 (by kernel_rfl) (by rfl) (fun wq hbq => ?_)
    have hB21q := hBr.next hbq
    have HBQ := Lib.hid (fun (W : World) (hW : Below wq.heap.size wq W) => bcall hB21q.below hB21q.below.size hW)
    clear hBr
    refine wpAnyE_go (w0 := wq) (w1 := wq) (X := []) (fun _ h => h) (RK.start _) [0, 1, 2, 3, 4, 5, 6, 7, 8, 9, 10, 11, 12, 13, 14, 15, 16] 3 (by kernel_rfl) ?_
    apply Exists.intro
    refine ⟨fun G hG hN => ?_, ?_⟩
    · have c_pl := fun (e : GE (RK wq wq []) G) j => cell_of_row e.w _ j _ _ _ ((hB21q.next (RK.b (GE.h e))).get 0 rfl)
      have z_pl := fun (e : GE (RK wq wq []) G) => ((hB21q.next (RK.b (GE.h e))).lt 0 rfl)
      have c_G := fun (e : GE (RK wq wq []) G) j => cell_of_row e.w _ j _ _ _ ((hB21q.next (RK.b (GE.h e))).get 3 rfl)
      have z_G := fun (e : GE (RK wq wq []) G) => ((hB21q.next (RK.b (GE.h e))).lt 3 rfl)
      have t0 := fun (e : GE (RK wq wq []) G) => (HRW.out e.w (HBQ.out _ (RK.b (GE.h e)))).1
      have tb := fun (e : GE (RK wq wq []) G) => (HRW.out e.w (HBQ.out _ (RK.b (GE.h e)))).2.1
      have r0 := fun (e : GE (RK wq wq []) G) => (HRC.out e.w (HBQ.out _ (RK.b (GE.h e)))).1
      have rb := fun (e : GE (RK wq wq []) G) => (HRC.out e.w (HBQ.out _ (RK.b (GE.h e)))).2
      simp only [pickOps, List.getElem?_toArray, List.getElem?_cons_zero, List.getElem?_cons_succ]
      repeat (first | go_big_quiet_step ((first | (go_at_call 57; exact calls_ge (RK.grows _ _ _) hG (of_any _ _)) | (go_at_call 20; exact calls_ge (RK.grows _ _ _) hG (HMU.out _)))) | quiet_step ((first | (go_at_call 57; exact calls_ge (RK.grows _ _ _) hG (of_any _ _)) | (go_at_call 20; exact calls_ge (RK.grows _ _ _) hG (HMU.out _)))))
      exact wpQuiet_nil rfl
    refine wpAnyE_all (rs := [17]) (by kernel_rfl) (by simp) (fun Wa hWa hRWa i hi => ?_)
    obtain rfl := List.mem_singleton.1 hi
    refine wpOp_step rfl (fun K hK => ?_)
    go_simp
    refine hK _ _ ⟨hRWa.grow (one_alloc _ _), ?_⟩
    clear hK K
    have hxa := heap_new (w := Wa) (o := rB ⟨0, 0⟩) rfl
    have hza : wq.heap.size ≤ Wa.heap.size := hRWa.b.size
    refine wpAnyE_all (rs := [18]) (by kernel_rfl) (by simp) (fun Wb hWb hRWb i hi => ?_)
    obtain rfl := List.mem_singleton.1 hi
    have hxb := heap_ext hxa hWb
    have ck := fun j => cell_of_row _ _ j _ _ _ hxb
    have fk := fun j => frozen_of_row _ _ j _ _ hxb
    have zk := lt_some hxb
    refine wpOp_step rfl (fun K hK => ?_)
    go_simp
    refine hK _ _ ⟨(hRWb.set hza (Or.inr hza)).set hza (Or.inr hza), ?_⟩
    clear hK K
    clear ck fk zk
    have hxc := heap_set (j := 1) (u := .int .i64 (mulR ⟨gi (gr bs i) k, 1⟩ (gR pl k)).d) (heap_set (j := 0) (u := .int .i64 (mulR ⟨gi (gr bs i) k, 1⟩ (gR pl k)).n) hxb)
    have hsc := (hRWb.set hza (Or.inr hza) (j := 0) (u := .int .i64 (mulR ⟨gi (gr bs i) k, 1⟩ (gR pl k)).n)).set hza (Or.inr hza) (j := 1) (u := .int .i64 (mulR ⟨gi (gr bs i) k, 1⟩ (gR pl k)).d)
    generalize (Wb.setCell _ _).setCell _ _ = Wd at *
    refine wpAnyE_go (w0 := wq) (w1 := Wd) (X := []) (RK.move hsc (by simp)) (RK.here hsc) [19] 0 (by kernel_rfl) ?_
    apply Exists.intro
    refine ⟨fun G hG hN => ?_, ?_⟩
    · simp only [pickOps, List.getElem?_toArray, List.getElem?_cons_zero, List.getElem?_cons_succ]
      repeat (first | go_big_quiet_step (fail) | quiet_step (fail))
      exact wpQuiet_nil rfl
    refine wpAnyE_done (by kernel_rfl) (fun Wc hWc hRWc => ?_) _
    refine NoPanic.normal ?_
    have hB21 : Bx w ((Wa.heap.size, rB (mulR ⟨gi (gr bs i) k, 1⟩ (gR pl k))) :: _) Wc := hB21q.add hRWc.b hza (heap_ext hxc hWc)
    clear hB21q hxa hxb hxc hWb hWc hRWa hRWb hRWc hza hWa hbq
    generalize Wa.heap.size = gX at *
    generalize Wc = w21 at *
    clear HBQ HRC HMU hk0 hk1
    have c_x := fun j => cell_of_row _ _ j _ _ _ (hB21.get 0 rfl)
    have z_x := hB21.lt 0 rfl
    have c_s := fun j => cell_of_row _ _ j _ _ _ (hB21.get 2 rfl)
    have z_s := hB21.lt 2 rfl
    go_wp2_with fail
    refine (HAD.out _).mono ?_
    rintro e w22 ⟨rfl, hb⟩
    have hB22 := hB21.next hb
    clear c_x z_x c_s z_s hb hB21
    clear HAD
    have c_s := fun j => cell_of_row _ _ j _ _ _ (hB22.get 2 rfl)
    have z_s := hB22.lt 2 rfl
    have f_s := fun j => frozen_of_row _ _ j _ _ (hB22.get 2 rfl)
    go_upto_region 9 with fail
    have hB23 := hB22.put 2 rfl (addR s (mulR ⟨gi (gr bs i) k, 1⟩ (gR pl k)))
    clear c_s z_s f_s hB22
    generalize (w22.setCell _ _).setCell _ _ = w23 at *
    generalize addR s (mulR ⟨gi (gr bs i) k, 1⟩ (gR pl k)) = s2 at *
    have HZ := Lib.hid (show Bx w [(gp, .cells cur 36), (gS, rB s2), (gO, rB ⟨0, 0⟩), (w.heap.size, gB (some ad) c bs)] _ from hB23.sub (List.Sublist.cons _ (List.Sublist.refl _)))
    clear hB23
    go_wp2_with fail
    exact ⟨⟨k + 1, s2, HME.out.1, by go_num, HST.out, HZ.out⟩, by simpa [intOf] using HME.out.2⟩

/-- Nobody has a part of a good while another one has more value for its price. -/
def buysB (V : Nat → Int) (P l : Nat → Rt) (n : Nat) : Bool := (List.range n).all fun g => (List.range n).all fun h => !(decide (0 < (l g).n) && betB V P h g)
theorem buys_iff {V : Nat → Int} {P l : Nat → Rt} {n : Nat} : buysB V P l n = true ↔ ∀ g, g < n → ∀ h, h < n → 0 < (l g).n → betB V P h g = false := by
  unfold buysB
  simp only [List.all_eq_true, List.mem_range, Bool.not_eq_true', Bool.and_eq_false_iff, decide_eq_false_iff_not]
  constructor
  · intro a g hg h hh hp; exact (a g hg h hh).resolve_left (fun q => q hp)
  · intro a g hg h hh
    by_cases q : 0 < (l g).n
    · exact Or.inr (a g hg h hh q)
    · exact Or.inl q
theorem buys_no {V : Nat → Int} {P l : Nat → Rt} {n g h : Nat} (hg : g < n) (hh : h < n) (hp : 0 < (l g).n) (hb : betB V P h g = true) : buysB V P l n = false := by
  rcases Bool.eq_false_or_eq_true (buysB V P l n) with q | q
  · have := buys_iff.1 q g hg h hh hp; rw [hb] at this; cases this
  · exact q
set_option maxRecDepth 100000 in
set_option maxHeartbeats 16000000 in
theorem fbuys_any (V : List Int) (A : Option Addr) (c : Nat) (P : List Rt) (B : Option Addr) (d : Nat) (l : List Rt) (D : Option Addr) (e : Nat) (w : World) (hV : Ints w.heap.size w A V) (hP : QIn w.heap.size w B d P) (hl : QIn w.heap.size w D e l) (hv : ∀ g, g < V.length → -9223372036854775808 ≤ gi V g ∧ gi V g ≤ 9223372036854775807)
    (h1 : P.length = V.length) (h2 : l.length = V.length) (hm : V.length ≤ 1000) :
    Calls Try.prog 53 #[.slice A V.length c, .slice B P.length d, .slice D l.length e] w fun e w' => e = .returned (.bool (buysB (gi V) (gR P) (gR l) V.length)) ∧ Below w.heap.size w w' := by
  have HV := Lib.hid hV
  have HP := Lib.hid hP
  have HL := Lib.hid hl
  have HI := Lib.hid hv
  have H1 := Lib.hid (And.intro h1 (And.intro h2 hm))
  have HB0 := Lib.hid (Bx.start w)
  clear hV hP hl hv h1 h2 hm
  go_enter Try.func53, Try.ntmps53
  try dsimp only [List.append]
  go_wp2_with fail
  go_loopw [7] (fun a wr => ∃ k : Nat, k ≤ V.length ∧ a = .int .i64 k ∧ (∀ g, g < k → ∀ h, h < V.length → 0 < (gR l g).n → betB (gi V) (gR P) h g = false) ∧ Bx w [] wr) (fun a _ => V.length - (intOf a).toNat)
  case atStart => exact ⟨0, Nat.zero_le _, rfl, fun g hg => by omega, HB0.out⟩
  case round =>
    as_aux_lemma =>
      obtain ⟨k, hk, rfl, hall, hBr⟩ := hrel
      clear HB0
      have HA := Lib.hid hall
      clear hall
      by_cases hlt : k < V.length
      rotate_left
      · obtain rfl : k = V.length := by omega
        have HR := Lib.hid (buys_iff.2 HA.out)
        have HE := Lib.hid hBr.below
        rw [H1.out.1]
        clear hBr hlt hk
        go_wp2_with fail
        go_ret
        exact ⟨ret_bool HR.out.symm, HE.out⟩
      have z1 : (k : Int) < (P.length : Int) := by have := H1.out; omega
      have z1' : (k : Int) < (V.length : Int) := by omega
      have z2 : (k : Int) < (l.length : Int) := by have := H1.out; omega
      have z3 : (0 : Int) ≤ (k : Int) := by omega
      have HY1 := Lib.hid (show IntKind.i64.wrap ((k : Int) + 1) = (k : Int) + 1 ∧ wrap64 ((k : Int) + 1) = (k : Int) + 1 from ⟨IntWalk.i64_in _ (by have := H1.out; omega), IntWalk.wrap64_in _ (by have := H1.out; omega)⟩)
      have HK := Lib.hid hlt
      have HME := Lib.hid (And.intro (Nat.succ_le_of_lt hlt) (Nat.sub_lt_sub_left hlt (Nat.lt_succ_self k)))
      have HB1 := Lib.hid hBr
      obtain ⟨ad, ea, ab, ac⟩ := HV.out.at_ hlt
      subst ea
      obtain ⟨bd, eb, bb, bc⟩ := HP.out.at_ (show k < P.length by have := H1.out; omega)
      subst eb
      obtain ⟨dd, ed, db, dc⟩ := HL.out.at_ (show k < l.length by have := H1.out; omega)
      subst ed
      have HVC := Lib.hid (fun (j : Nat) (hj : j < V.length) (W : World) (hW : Below w.heap.size w W) => show W.cell? (ad.add j) = some (.int .i64 (gi V j)) ∧ (ad.add j).block < W.heap.size by
        obtain ⟨x, ex, bx, cx⟩ := (HV.out.next hW).at_ hj
        obtain rfl : ad = x := by simpa using ex
        exact ⟨cx, by rw [block_add]; exact bx⟩)
      have HPC := Lib.hid (fun (j : Nat) (hj : j < P.length) (W : World) (hW : Below w.heap.size w W) => cell2 (bc.below bb hW) hj)
      have HPCb := Lib.hid (fun (j : Nat) (W : World) (hW : Below w.heap.size w W) => show (bd.add (j * 2)).block < W.heap.size by rw [block_add]; exact Nat.lt_of_lt_of_le bb hW.size)
      have HLC := Lib.hid (fun (W : World) (hW : Below w.heap.size w W) => cell2 (dc.below db hW) (show k < l.length by have := H1.out; omega))
      have HO := Lib.hid (fun (h : ∀ j, j < V.length → 0 < (gR l k).n → betB (gi V) (gR P) j k = false) => show ∀ g, g < k + 1 → ∀ h, h < V.length → 0 < (gR l g).n → betB (gi V) (gR P) h g = false from fun g hg => by
        by_cases e : g = k
        · subst e; exact h
        · exact HA.out g (by omega))
      clear hk hlt ac bc dc hBr
      go_wp2_with fail
      go_loopw [8] (fun a wr => ∃ j : Nat, j ≤ V.length ∧ a = .int .i64 j ∧ (∀ h, h < j → betB (gi V) (gR P) h k = false) ∧ Bx w [] wr) (fun a _ => V.length - (intOf a).toNat)
      case atStart => exact ⟨0, Nat.zero_le _, rfl, fun g hg => by omega, HB1.out⟩
      case round =>
        as_aux_lemma =>
          obtain ⟨j, hj, rfl, hall, hBs⟩ := hrel
          clear HB1
          have HJ := Lib.hid hall
          clear hall
          have l0 := (HLC.out _ hBs.below).1
          by_cases hlt : j < V.length
          rotate_left
          · have HS := Lib.hid (HO.out (fun h hh _ => HJ.out h (by omega)))
            have q0 : decide ((j : Int) < (P.length : Int)) = false := decide_eq_false (by have := H1.out; omega)
            have q0n : decide (j < P.length) = false := decide_eq_false (by have := H1.out; omega)
            have HZ := Lib.hid hBs
            clear hBs hlt hj
            have y1 := HY1.out.1
            have y1' := HY1.out.2
            go_wp2_with fail
            exact ⟨⟨k + 1, HME.out.1, by go_num, HS.out, HZ.out⟩, by simpa [intOf] using HME.out.2⟩
          have q0 : decide ((j : Int) < (P.length : Int)) = true := decide_eq_true (by have := H1.out; omega)
          have q0' : decide ((j : Int) < (V.length : Int)) = true := decide_eq_true (by omega)
          have q0n : decide (j < P.length) = true := decide_eq_true (by have := H1.out; omega)
          have x1 : (j : Int) < (P.length : Int) := by have := H1.out; omega
          have x2 : (j : Int) < (V.length : Int) := by omega
          have x3 : (0 : Int) ≤ (j : Int) := by omega
          have HY2 := Lib.hid (show IntKind.i64.wrap ((j : Int) + 1) = (j : Int) + 1 ∧ wrap64 ((j : Int) + 1) = (j : Int) + 1 from ⟨IntWalk.i64_in _ (by have := H1.out; omega), IntWalk.wrap64_in _ (by have := H1.out; omega)⟩)
          have HJL := Lib.hid hlt
          have HMJ := Lib.hid (And.intro (Nat.succ_le_of_lt hlt) (Nat.sub_lt_sub_left hlt (Nat.lt_succ_self j)))
          clear hj hlt
          by_cases hp : 0 < (gR l k).n
          rotate_left
          · have q1 : decide (0 < (gR l k).n) = false := by simpa using hp
            have HS := Lib.hid (HO.out (fun h hh hq => absurd hq hp))
            have HZ := Lib.hid hBs
            clear hBs hp
            have y1 := HY1.out.1
            have y1' := HY1.out.2
            go_wp2_with fail
            exact ⟨⟨k + 1, HME.out.1, by go_num, HS.out, HZ.out⟩, by simpa [intOf] using HME.out.2⟩
          have q1 : decide (0 < (gR l k).n) = true := by simpa using hp
          have HPP := Lib.hid hp
          have HM1 := Lib.hid (fun (W : World) => fmul_any (gR P j) ⟨gi V k, 1⟩ (HP.out.wf j (by have := HJL.out; have := H1.out; omega)) (int_wf (HI.out k HK.out)) W)
          have HM2 := Lib.hid (fun (W : World) => fmul_any (gR P k) ⟨gi V j, 1⟩ (HP.out.wf k (by have := HK.out; have := H1.out; omega)) (int_wf (HI.out j HJL.out)) W)
          have HBT := Lib.hid (show betB (gi V) (gR P) j k = (decide (mulC (gR P j) ⟨gi V k, 1⟩ ≠ 0) || decide (mulC (gR P k) ⟨gi V j, 1⟩ ≠ 0) || ltB (mulR (gR P j) ⟨gi V k, 1⟩) (mulR (gR P k) ⟨gi V j, 1⟩)) from rfl)
          have HNB := Lib.hid (fun (e : betB (gi V) (gR P) j k = true) => buys_no (V := gi V) (P := gR P) (l := gR l) HK.out HJL.out hp e)
          have HYB := Lib.hid (fun (e : betB (gi V) (gR P) j k = false) => show ∀ h, h < j + 1 → betB (gi V) (gR P) h k = false from fun h hh => by
            by_cases e2 : h = j
            · subst e2; exact e
            · exact HJ.out h (by omega))
          clear hp
          go_upto_region 7 with fail
          refine wp_region_flow 16 (by kernel_rfl) (by rfl) (fun wq hbq => ?_)
          have hB41q := hBs.next hbq
          have HBQ := Lib.hid (fun (W : World) (hW : Below wq.heap.size wq W) => bcall hB41q.below hB41q.below.size hW)
          clear hBs
          refine wpAnyE_go (w0 := wq) (w1 := wq) (X := []) (fun _ h => h) (RK.start _) [0, 1, 2, 3, 4, 5, 6, 7, 8, 9, 10, 11, 12] 3 (by kernel_rfl) ?_
          apply Exists.intro
          refine ⟨fun G hG hN => ?_, ?_⟩
          · have p0 := fun (e : GE (RK wq wq []) G) => (HPC.out j (by have := HJL.out; have := H1.out; omega) e.w (HBQ.out _ (RK.b (GE.h e)))).1
            have p1 := fun (e : GE (RK wq wq []) G) => (HPC.out j (by have := HJL.out; have := H1.out; omega) e.w (HBQ.out _ (RK.b (GE.h e)))).2.1
            have p2 := fun (e : GE (RK wq wq []) G) => show e.w.cell? ⟨(bd.add (j * 2)).block, (bd.add (j * 2)).off + 1, none⟩ = some (.int .i64 (gR P j).d) from (HPC.out j (by have := HJL.out; have := H1.out; omega) e.w (HBQ.out _ (RK.b (GE.h e)))).2.1
            have pb := fun (e : GE (RK wq wq []) G) => HPCb.out j e.w (HBQ.out _ (RK.b (GE.h e)))
            have v0 := fun (e : GE (RK wq wq []) G) => (HVC.out k HK.out e.w (HBQ.out _ (RK.b (GE.h e)))).1
            have vb := fun (e : GE (RK wq wq []) G) => (HVC.out k HK.out e.w (HBQ.out _ (RK.b (GE.h e)))).2
            simp only [pickOps, List.getElem?_toArray, List.getElem?_cons_zero, List.getElem?_cons_succ]
            repeat (first | go_big_quiet_step ((first | (go_at_call 57; exact calls_ge (RK.grows _ _ _) hG (of_any _ _)) | (go_at_call 20; exact calls_ge (RK.grows _ _ _) hG (HM1.out _)))) | quiet_step ((first | (go_at_call 57; exact calls_ge (RK.grows _ _ _) hG (of_any _ _)) | (go_at_call 20; exact calls_ge (RK.grows _ _ _) hG (HM1.out _)))))
            exact wpQuiet_nil rfl
          refine wpAnyE_all (rs := [13]) (by kernel_rfl) (by simp) (fun Wa hWa hRWa i hi => ?_)
          obtain rfl := List.mem_singleton.1 hi
          refine wpOp_step rfl (fun K hK => ?_)
          go_simp
          refine hK _ _ ⟨hRWa.grow (one_alloc _ _), ?_⟩
          clear hK K
          have hxa := heap_new (w := Wa) (o := rB ⟨0, 0⟩) rfl
          have hza : wq.heap.size ≤ Wa.heap.size := hRWa.b.size
          refine wpAnyE_all (rs := [14]) (by kernel_rfl) (by simp) (fun Wb hWb hRWb i hi => ?_)
          obtain rfl := List.mem_singleton.1 hi
          have hxb := heap_ext hxa hWb
          have ck := fun j => cell_of_row _ _ j _ _ _ hxb
          have fk := fun j => frozen_of_row _ _ j _ _ hxb
          have zk := lt_some hxb
          refine wpOp_step rfl (fun K hK => ?_)
          go_simp
          refine hK _ _ ⟨(hRWb.set hza (Or.inr hza)).set hza (Or.inr hza), ?_⟩
          clear hK K
          clear ck fk zk
          have hxc := heap_set (j := 1) (u := .int .i64 (mulR (gR P j) ⟨gi V k, 1⟩).d) (heap_set (j := 0) (u := .int .i64 (mulR (gR P j) ⟨gi V k, 1⟩).n) hxb)
          have hsc := (hRWb.set hza (Or.inr hza) (j := 0) (u := .int .i64 (mulR (gR P j) ⟨gi V k, 1⟩).n)).set hza (Or.inr hza) (j := 1) (u := .int .i64 (mulR (gR P j) ⟨gi V k, 1⟩).d)
          generalize (Wb.setCell _ _).setCell _ _ = Wd at *
          refine wpAnyE_go (w0 := wq) (w1 := Wd) (X := []) (RK.move hsc (by simp)) (RK.here hsc) [15] 0 (by kernel_rfl) ?_
          apply Exists.intro
          refine ⟨fun G hG hN => ?_, ?_⟩
          · simp only [pickOps, List.getElem?_toArray, List.getElem?_cons_zero, List.getElem?_cons_succ]
            repeat (first | go_big_quiet_step (fail) | quiet_step (fail))
            exact wpQuiet_nil rfl
          refine wpAnyE_done (by kernel_rfl) (fun Wc hWc hRWc => ?_) _
          refine NoPanic.normal ?_
          have hB41 : Bx w ((Wa.heap.size, rB (mulR (gR P j) ⟨gi V k, 1⟩)) :: _) Wc := hB41q.add hRWc.b hza (heap_ext hxc hWc)
          clear hB41q hxa hxb hxc hWb hWc hRWa hRWb hRWc hza hWa hbq
          generalize Wa.heap.size = gX at *
          generalize Wc = w41 at *
          clear HBQ
          go_upto_region 8 with fail
          refine wp_region_flow 16 (by kernel_rfl) (by rfl) (fun wq hbq => ?_)
          have hB42q := hB41.next hbq
          have HBQ := Lib.hid (fun (W : World) (hW : Below wq.heap.size wq W) => bcall hB42q.below hB42q.below.size hW)
          clear hB41
          refine wpAnyE_go (w0 := wq) (w1 := wq) (X := []) (fun _ h => h) (RK.start _) [0, 1, 2, 3, 4, 5, 6, 7, 8, 9, 10, 11, 12] 3 (by kernel_rfl) ?_
          apply Exists.intro
          refine ⟨fun G hG hN => ?_, ?_⟩
          · have p0 := fun (e : GE (RK wq wq []) G) => (HPC.out k (by have := HK.out; have := H1.out; omega) e.w (HBQ.out _ (RK.b (GE.h e)))).1
            have p1 := fun (e : GE (RK wq wq []) G) => (HPC.out k (by have := HK.out; have := H1.out; omega) e.w (HBQ.out _ (RK.b (GE.h e)))).2.1
            have p2 := fun (e : GE (RK wq wq []) G) => show e.w.cell? ⟨(bd.add (k * 2)).block, (bd.add (k * 2)).off + 1, none⟩ = some (.int .i64 (gR P k).d) from (HPC.out k (by have := HK.out; have := H1.out; omega) e.w (HBQ.out _ (RK.b (GE.h e)))).2.1
            have pb := fun (e : GE (RK wq wq []) G) => HPCb.out k e.w (HBQ.out _ (RK.b (GE.h e)))
            have v0 := fun (e : GE (RK wq wq []) G) => (HVC.out j HJL.out e.w (HBQ.out _ (RK.b (GE.h e)))).1
            have vb := fun (e : GE (RK wq wq []) G) => (HVC.out j HJL.out e.w (HBQ.out _ (RK.b (GE.h e)))).2
            simp only [pickOps, List.getElem?_toArray, List.getElem?_cons_zero, List.getElem?_cons_succ]
            repeat (first | go_big_quiet_step ((first | (go_at_call 57; exact calls_ge (RK.grows _ _ _) hG (of_any _ _)) | (go_at_call 20; exact calls_ge (RK.grows _ _ _) hG (HM2.out _)))) | quiet_step ((first | (go_at_call 57; exact calls_ge (RK.grows _ _ _) hG (of_any _ _)) | (go_at_call 20; exact calls_ge (RK.grows _ _ _) hG (HM2.out _)))))
            exact wpQuiet_nil rfl
          refine wpAnyE_all (rs := [13]) (by kernel_rfl) (by simp) (fun Wa hWa hRWa i hi => ?_)
          obtain rfl := List.mem_singleton.1 hi
          refine wpOp_step rfl (fun K hK => ?_)
          go_simp
          refine hK _ _ ⟨hRWa.grow (one_alloc _ _), ?_⟩
          clear hK K
          have hxa := heap_new (w := Wa) (o := rB ⟨0, 0⟩) rfl
          have hza : wq.heap.size ≤ Wa.heap.size := hRWa.b.size
          refine wpAnyE_all (rs := [14]) (by kernel_rfl) (by simp) (fun Wb hWb hRWb i hi => ?_)
          obtain rfl := List.mem_singleton.1 hi
          have hxb := heap_ext hxa hWb
          have ck := fun j => cell_of_row _ _ j _ _ _ hxb
          have fk := fun j => frozen_of_row _ _ j _ _ hxb
          have zk := lt_some hxb
          refine wpOp_step rfl (fun K hK => ?_)
          go_simp
          refine hK _ _ ⟨(hRWb.set hza (Or.inr hza)).set hza (Or.inr hza), ?_⟩
          clear hK K
          clear ck fk zk
          have hxc := heap_set (j := 1) (u := .int .i64 (mulR (gR P k) ⟨gi V j, 1⟩).d) (heap_set (j := 0) (u := .int .i64 (mulR (gR P k) ⟨gi V j, 1⟩).n) hxb)
          have hsc := (hRWb.set hza (Or.inr hza) (j := 0) (u := .int .i64 (mulR (gR P k) ⟨gi V j, 1⟩).n)).set hza (Or.inr hza) (j := 1) (u := .int .i64 (mulR (gR P k) ⟨gi V j, 1⟩).d)
          generalize (Wb.setCell _ _).setCell _ _ = Wd at *
          refine wpAnyE_go (w0 := wq) (w1 := Wd) (X := []) (RK.move hsc (by simp)) (RK.here hsc) [15] 0 (by kernel_rfl) ?_
          apply Exists.intro
          refine ⟨fun G hG hN => ?_, ?_⟩
          · simp only [pickOps, List.getElem?_toArray, List.getElem?_cons_zero, List.getElem?_cons_succ]
            repeat (first | go_big_quiet_step (fail) | quiet_step (fail))
            exact wpQuiet_nil rfl
          refine wpAnyE_done (by kernel_rfl) (fun Wc hWc hRWc => ?_) _
          refine NoPanic.normal ?_
          have hB42 : Bx w ((Wa.heap.size, rB (mulR (gR P k) ⟨gi V j, 1⟩)) :: _) Wc := hB42q.add hRWc.b hza (heap_ext hxc hWc)
          clear hB42q hxa hxb hxc hWb hWc hRWa hRWb hRWc hza hWa hbq
          generalize Wa.heap.size = gY at *
          generalize Wc = w42 at *
          clear HBQ
          clear HM1 HM2 l0
          have HO1 := Lib.hid (fun (e : mulC (gR P j) ⟨gi V k, 1⟩ = 0) => (mul_zero_ok e).2.2.1)
          have HO2 := Lib.hid (fun (e : mulC (gR P k) ⟨gi V j, 1⟩ = 0) => (mul_zero_ok e).2.2.1)
          generalize mulC (gR P j) ⟨gi V k, 1⟩ = m1 at *
          generalize mulC (gR P k) ⟨gi V j, 1⟩ = m2 at *
          generalize mulR (gR P j) ⟨gi V k, 1⟩ = x at *
          generalize mulR (gR P k) ⟨gi V j, 1⟩ = y at *
          by_cases h1 : m1 = 0
          rotate_left
          · have q : (m1 != 0) = true := bneT h1
            have HR := Lib.hid (HNB.out (by rw [HBT.out]; simp [h1]))
            clear h1
            have HE := Lib.hid hB42.below
            clear hB42
            go_wp2_with fail
            go_ret
            exact ⟨ret_bool HR.out.symm, HE.out⟩
          have q : (m1 != 0) = false := bneF h1
          have O1 := Lib.hid (HO1.out h1)
          by_cases h2 : m2 = 0
          rotate_left
          · have q2 : (m2 != 0) = true := bneT h2
            have HR := Lib.hid (HNB.out (by rw [HBT.out]; simp [h2]))
            clear h2
            have HE := Lib.hid hB42.below
            clear hB42
            go_wp2_with fail
            go_ret
            exact ⟨ret_bool HR.out.symm, HE.out⟩
          have q2 : (m2 != 0) = false := bneF h2
          have O2 := Lib.hid (HO2.out h2)
          have HLT := Lib.hid (fun (W : World) => flt_any x y O1.out O2.out W)
          have HBE := Lib.hid (show betB (gi V) (gR P) j k = ltB x y by rw [HBT.out]; simp [h1, h2])
          clear h1 h2
          have c_y := fun j => cell_of_row _ _ j _ _ _ (hB42.get 0 rfl)
          have z_y := hB42.lt 0 rfl
          have c_x := fun j => cell_of_row _ _ j _ _ _ (hB42.get 1 rfl)
          have z_x := hB42.lt 1 rfl
          go_wp2_with fail
          refine (HLT.out _).mono ?_
          rintro e w43 ⟨rfl, hb⟩
          have hB43 := hB42.next hb
          clear c_y z_y c_x z_x hb hB42
          clear HLT
          generalize ltB x y = lb at *
          cases lb with
          | true =>
            have HR := Lib.hid (HNB.out HBE.out)
            have HE := Lib.hid hB43.below
            clear hB43
            go_wp2_with fail
            go_ret
            exact ⟨ret_bool HR.out.symm, HE.out⟩
          | false =>
            have HS := Lib.hid (HYB.out HBE.out)
            have HZ := Lib.hid (show Bx w [] _ from hB43.sub (List.nil_sublist _))
            clear hB43
            have y2 := HY2.out.1
            have y2' := HY2.out.2
            go_wp2_with fail
            exact ⟨⟨j + 1, HMJ.out.1, by go_num, HS.out, HZ.out⟩, by simpa [intOf] using HMJ.out.2⟩
end Go.Proofs.Ytpijllobpohpgaa
