/- The reference's Pay, walked. -/
import Derived.Test.YtedgdmblpjfaiaaFindsD
import Derived.Test.YtedgdmblpjfaiaaGreedy
import Derived.Test.YtedgdmblpjfaiaaPay
namespace Go.Proofs.Ytedgdmblpjfaiaa
open Go.RowKit Go.Deep
set_option linter.unusedVariables false
set_option linter.unusedSimpArgs false

theorem info4 : (Try.prog.info? 4).map (fun i => (i.zero, i.size, i.bytes)) = some (some (.bool false), 1, 1) := by kernel_rfl
theorem under66 : Try.prog.underlying 66 = some (.slice 4) := by kernel_rfl

/-- The rows of what is paid and of what was left out. -/
structure RfW (n : Nat) (w0 : World) (go gr : Nat) (fo fr : Nat → Int) (wr : World) : Prop where
  below : Below w0.heap.size w0 wr
  o : wr.rowIs go 3 n (fun i => .int .i64 (fo i))
  r : wr.rowIs gr 3 n (fun i => .int .i64 (fr i))
  ne : go ≠ gr
  geo : w0.heap.size ≤ go
  ger : w0.heap.size ≤ gr
section
variable {n : Nat} {w0 : World} {go gr : Nat} {fo fr : Nat → Int} {wr : World}
theorem RfW.drew (h : RfW n w0 go gr fo fr wr) : RfW n w0 go gr fo fr wr.drew := ⟨h.below.drew, h.o, h.r, h.ne, h.geo, h.ger⟩
theorem RfW.setR (h : RfW n w0 go gr fo fr wr) {i : Nat} {u : Int} {f : Nat → Int} (hf : ∀ j, j < n → (if j = i then u else fr j) = f j) : RfW n w0 go gr fo f (wr.setCell ⟨gr, i, none⟩ (.int .i64 u)) :=
  ⟨h.below.setCell h.ger _, h.o.setOther h.ne _, (h.r.set i _).congr fun j hj => by rw [← hf j hj]; split <;> rfl, h.ne, h.geo, h.ger⟩
theorem RfW.setO (h : RfW n w0 go gr fo fr wr) {i : Nat} {u : Int} {f : Nat → Int} (hf : ∀ j, j < n → (if j = i then u else fo j) = f j) : RfW n w0 go gr f fr (wr.setCell ⟨go, i, none⟩ (.int .i64 u)) :=
  ⟨h.below.setCell h.geo _, (h.o.set i _).congr fun j hj => by rw [← hf j hj]; split <;> rfl, h.r.setOther (Ne.symm h.ne) _, h.ne, h.geo, h.ger⟩
end
theorem upTo_next {n k : Nat} {f : Nat → Int} : ∀ j, j < n → (if j = k then f k else upTo k f j) = upTo (k + 1) f j := fun j _ => by
  unfold upTo
  by_cases e : j = k
  · subst e; simp
  · rw [if_neg e]; by_cases h : j < k
    · rw [if_pos h, if_pos (by omega)]
    · rw [if_neg h, if_neg (by omega)]
theorem take_next {E : Est} {t o : Nat} (ho : E.order[t]? = some o) : E.order.take (t + 1) = E.order.take t ++ [o] := by
  obtain ⟨hj, e⟩ := List.getElem?_eq_some_iff.1 ho
  rw [List.take_succ_eq_append_getElem hj, e]
theorem payTo_next {E : Est} {t o : Nat} (ho : E.order[t]? = some o) {n : Nat} : ∀ i, i < n → (if i = o then E.payTo t o + 1 else E.payTo t i) = E.payTo (t + 1) i := fun i _ => by
  have hn := Est.order_notin ho
  unfold Est.payTo
  rw [take_next ho]
  by_cases e : i = o
  · subst e; rw [if_pos rfl, if_neg hn, if_pos (by simp)]; omega
  · rw [if_neg e]
    congr 1
    by_cases hm : i ∈ E.order.take t
    · rw [if_pos hm, if_pos (by simp [hm])]
    · rw [if_neg hm, if_neg (by simp [hm, e])]

/-- Who has a cent. -/
def gvn (E : Est) (t i : Nat) : Bool := decide (i ∈ E.order.take t)
theorem gvn_next {E : Est} {t o : Nat} (ho : E.order[t]? = some o) (i : Nat) : (if i = o then true else gvn E t i) = gvn E (t + 1) i := by
  unfold gvn
  rw [take_next ho]
  by_cases e : i = o
  · subst e; simp
  · rw [if_neg e]; simp [e]

/-- The rows when t heirs have a cent. -/
structure RgW (E : Est) (w0 : World) (go gr gg t : Nat) (wr : World) : Prop where
  f : RfW E.sh.length w0 go gr (E.payTo t) E.rest wr
  g : wr.rowIs gg 4 E.sh.length (fun i => .bool (gvn E t i))
  no : gg ≠ go
  nr : gg ≠ gr
  geg : w0.heap.size ≤ gg
theorem RgW.start {E : Est} {w0 : World} {go gr : Nat} {wr : World} (h : RfW E.sh.length w0 go gr (upTo E.sh.length E.whole) (upTo E.sh.length E.rest) wr) :
    RgW E w0 go gr wr.heap.size 0 (wr.alloc (.cells (madeCells #[.bool false] E.sh.length) 4)) := by
  have a := h.o.lt
  have b := h.r.lt
  refine ⟨⟨h.below.alloc h.below.size _, (h.o.alloc _).congr fun i hi => ?_, (h.r.alloc _).congr fun i hi => ?_, h.ne, h.geo, h.ger⟩, (World.rowIs_made wr _ _ 4).congr fun i _ => ?_, by omega, by omega, h.below.size⟩
  · simp [upTo, hi, Est.payTo]
  · simp [upTo, hi]
  · simp [gvn]
theorem RgW.drewN {E : Est} {w0 : World} {go gr gg t : Nat} {wr : World} (h : RgW E w0 go gr gg t wr) (q : Nat) : RgW E w0 go gr gg t (wr.drewN q) :=
  ⟨⟨below_drewN h.f.below q, h.f.o, h.f.r, h.f.ne, h.f.geo, h.f.ger⟩, h.g, h.no, h.nr, h.geg⟩
theorem RgW.next {E : Est} {w0 : World} {go gr gg t o : Nat} {wr : World} (h : RgW E w0 go gr gg t wr) (ho : E.order[t]? = some o) {u : Int} (hu : u = E.payTo t o + 1) :
    RgW E w0 go gr gg (t + 1) ((wr.setCell ⟨gg, o, none⟩ (.bool true)).setCell ⟨go, o, none⟩ (.int .i64 u)) := by
  subst hu
  have f1 : RfW E.sh.length w0 go gr (E.payTo t) E.rest (wr.setCell ⟨gg, o, none⟩ (.bool true)) :=
    ⟨h.f.below.setCell h.geg _, h.f.o.setOther (Ne.symm h.no) _, h.f.r.setOther (Ne.symm h.nr) _, h.f.ne, h.f.geo, h.f.ger⟩
  refine ⟨f1.setO (payTo_next ho), ((h.g.set o _).congr fun i _ => ?_).setOther h.no _, h.no, h.nr, h.geg⟩
  rw [← gvn_next ho]; split <;> rfl

set_option maxRecDepth 100000 in
set_option maxHeartbeats 8000000 in
theorem payref_any (E : Est) (A : Option Addr) (c : Nat) (R : Option Addr) (d : Nat) (w : World) (h : EIn w.heap.size w A c R d E) :
    Calls Try.prog 22 #[eV A c R d E] w (ListRes w (payR E) E.code) := by
  have hW0 := EstIn.start h
  clear h
  go_enter Try.func22, Try.ntmps22
  go_wp2_with fail
  refine (exactref_any E A c R d _ hW0.e).mono ?_
  rintro e w2 ⟨X, xc, rfl, hX, hb2⟩
  have hW := hW0.next hb2
  have cbx := fun j => cell_of_row w2 _ j _ _ _ hW.bx
  have zbx := lt_some hW.bx
  clear hb2 hW0
  by_cases hc : E.code = 0
  rotate_left
  · have q1 : (E.code != 0) = true := by simpa using hc
    have HN := Lib.hid hc
    clear hc
    go_wp2_with fail
    go_ret2
    exact ListRes.nil (by rw [payR, if_neg HN.out]) hW.below
  have hE := Est.ok_of_code hc
  have HC := Lib.hid hc
  have HE := Lib.hid hE
  have q1 : (E.code != 0) = false := by simpa using hc
  have hxr : exactR E = exactL E := by rw [exactR, if_pos hc]
  rw [hxr] at hX ⊢
  rw [show (exactL E).length = E.sh.length from mapL_length _ _]
  clear hxr
  have hn10 : E.sh.length ≤ 10 := hE.n10
  have hn1 : 0 < E.sh.length := hE.n1
  have HSU := Lib.hid (fun (W : World) (hb : Below w2.heap.size w2 W) => sumref_any E HE.out A c R d W (hW.next hb).e)
  have hDD := hE.D_bd
  have hDD' : 1 ≤ E.S * E.S ∧ E.S * E.S ≤ 1000000 := hDD
  have s0 : IntKind.i64.wrap (E.S * E.S) = E.D := (IntWalk.i64_in _ (by omega)).trans rfl
  have hmk := run_make_row' (P := Try.prog) 22 3 (.int .i64 0) 8 Try.underlying22 info3 rfl .i64 .i64 E.sh.length (by omega) (by omega)
  have hmk2 := run_make_row' (P := Try.prog) 66 4 (.bool false) 1 under66 info4 rfl .i64 .i64 E.sh.length (by omega) (by omega)
  clear hc hE hDD'
  go_upto_region 4 with fail
  refine wp_region_ext (by kernel_rfl) (by kernel_rfl) ?_
  repeat (first | go_big_quiet_step ((go_at_call 27; exact calls_ext (HSU.out _ (Ext.h _)))) | quiet_step ((go_at_call 27; exact calls_ext (HSU.out _ (Ext.h _)))))
  refine wpQuiet_nil ?_
  rintro w3 ⟨⟨_, hb3⟩, rfl⟩
  have hW3 := hW.next hb3
  have hX3 := hX.next hb3
  clear hb3 hW hX cbx zbx HSU
  go_upto_region 5 with fail
  go_cut [7, 8] (fun s7 s8 wx => ∃ go gr, s7 = slV go E.sh.length ∧ s8 = slV gr E.sh.length ∧ RfW E.sh.length w3 go gr (fun _ => 0) (fun _ => 0) wx)
  case first =>
    go_region
    all_goals go_wp2_with fail
    all_goals
      go_meet
      apply Exists.intro
      apply Exists.intro
      apply And.intro
      · rfl
      apply And.intro
      · rfl
      apply RfW.mk
      case below => (refine Below.drew ?_; repeat (first | exact Below.refl _ _ | refine Below.alloc ?_ (by first | (simp; done) | (simp; omega)) _))
      case o => (refine World.rowIs.drew ?_; repeat (first | (refine made_row ?_; (first | rfl | (simp; done))) | refine World.rowIs.alloc ?_ _))
      case r => (refine World.rowIs.drew ?_; repeat (first | (refine made_row ?_; (first | rfl | (simp; done))) | refine World.rowIs.alloc ?_ _))
      all_goals omega
  case rest =>
    obtain ⟨go, gr, rfl, rfl, hR⟩ := hcut
    have HBW := Lib.hid hW3.below
    have HX := Lib.hid hX3
    clear hX3 hW3
    have hR0 : RfW E.sh.length w3 go gr (upTo 0 E.whole) (upTo 0 E.rest) wc := ⟨hR.below, hR.o.congr fun i _ => by simp [upTo], hR.r.congr fun i _ => by simp [upTo], hR.ne, hR.geo, hR.ger⟩
    clear hR
    have d1 : 1 ≤ E.D := hDD.1
    have d2 : E.D ≤ 1000000 := hDD.2
    have d3 : ¬ E.D = 0 := by omega
    have d4 : (E.D == 0) = false := by simpa using d3
    go_wp2_with fail
    clear hmk s0
    go_loopw [9, 10] (fun b i wr => ∃ k : Nat, k ≤ E.sh.length ∧ i = .int .i64 k ∧ b = .int .i64 (-sumTo E.whole k) ∧ RfW E.sh.length w3 go gr (upTo k E.whole) (upTo k E.rest) wr) (fun _ i _ => E.sh.length - (intOf i).toNat)
    case atStart => exact ⟨0, Nat.zero_le _, rfl, rfl, hR0⟩
    case round =>
      clear hR0
      obtain ⟨k, hk, rfl, rfl, hP⟩ := hrel
      by_cases hlt : k < E.sh.length
      · obtain ⟨ax, rfl, hax, cx⟩ := (HX.out.below hP.below).at_ (k := k) (by rw [exactL, mapL_length]; exact hlt)
        rw [exactL, mapL_gi hlt] at cx
        have cr := hP.r.cell hlt
        have fr := hP.r.frozen k
        have i1 : (k : Int) < (E.sh.length : Int) := by omega
        have hxb := HE.out.exact_bd k hlt
        have hre := rem_eq (x := E.exact k) (d := E.D) (by omega)
        have hrb := HE.out.rest_bd k
        have HRE := Lib.hid hre
        have hlm := Int.tmod_lt_of_pos (E.exact k) (b := E.D) (by omega)
        have hgm := Int.lt_tmod_of_pos (E.exact k) (b := E.D) (by omega)
        have s1 : IntKind.i64.wrap ((E.exact k).tmod E.D + E.D) = (E.exact k).tmod E.D + E.D := IntWalk.i64_in _ (by omega)
        clear hre
        go_upto_region 11 with fail
        generalize hw6 : wr.setCell _ _ = w6
        have hP2 : RfW E.sh.length w3 go gr (upTo k E.whole) (upTo (k + 1) E.rest) w6 := by
          rw [← hw6]; refine hP.setR (u := _) (f := upTo (k + 1) E.rest) (fun j hj => ?_)
          have hv : ∀ x, x = E.rest k → (if j = k then x else upTo k E.rest j) = upTo (k + 1) E.rest j := fun x hx => by rw [hx]; exact upTo_next j hj
          refine hv _ ?_
          first | exact HRE.out | (rw [Int.tmod_eq_emod_of_nonneg (by omega)] at HRE; exact HRE.out) | (rw [Int.tmod_eq_emod_of_nonneg (by omega), Int.add_emod_right] at HRE; exact HRE.out)
        clear hw6 hP cx cr fr s1 hlm hgm
        obtain ⟨ax2, e2, hax2, cx⟩ := (HX.out.below hP2.below).at_ (k := k) (by rw [exactL, mapL_length]; exact hlt)
        obtain rfl : ax = ax2 := by simpa using e2
        rw [exactL, mapL_gi hlt] at cx
        have cr := hP2.r.cell hlt
        have co := hP2.o.cell hlt
        have fo := hP2.o.frozen k
        simp only [show upTo (k + 1) E.rest k = E.rest k by simp [upTo]] at cr
        have hwb := HE.out.whole_bd k hlt
        have hrb1 := hrb.1
        have hrb2 := hrb.2
        have s2 : IntKind.i64.wrap (E.exact k - E.rest k) = E.exact k - E.rest k := IntWalk.i64_in _ (by omega)
        have s3 : (E.exact k - E.rest k).tdiv E.D = E.whole k := quo_eq (by omega)
        have s4 : IntKind.i64.wrap (E.whole k) = E.whole k := IntWalk.i64_in _ (by omega)
        have hp2 := hP2.drew
        clear e2
        go_still_tail 14, (by kernel_rfl)
        change wpList _ _ _ _ _ w6.drew
        clear cx cr co fo hP2 hax hax2
        generalize w6.drew = w7 at hp2 ⊢
        have co := hp2.o.cell hlt
        have fo := hp2.o.frozen k
        go_upto_region 12 with fail
        have hP3 := hp2.setO (i := k) (u := E.whole k) (f := upTo (k + 1) E.whole) upTo_next
        clear hp2 co fo
        generalize w7.setCell _ _ = w8 at hP3 ⊢
        have co := hP3.o.cell hlt
        simp only [show upTo (k + 1) E.whole k = E.whole k by simp [upTo]] at co
        have HS := Lib.hid (show sumTo E.whole (k + 1) = sumTo E.whole k + E.whole k from rfl)
        have sb := sumTo_bd (f := E.whole) (lo := -400000000000000) (hi := 400000000000000) (k := k) (fun i hi => HE.out.whole_bd i (Nat.lt_trans hi hlt))
        have s5 : IntKind.i64.wrap (-sumTo E.whole k - E.whole k) = -sumTo E.whole k - E.whole k := IntWalk.i64_in _ (by omega)
        clear sb
        go_wp2_with fail
        go_roundw
        case rel => exact ⟨k + 1, by omega, by go_num, by rw [HS.out]; go_num, hP3⟩
        case measure => simp [intOf]; omega
      · obtain rfl : k = E.sh.length := by omega
        obtain ⟨s, hs⟩ : ∃ s : Nat, E.short = (s : Int) := ⟨E.short.toNat, by have := HE.out.short_bd; omega⟩
        have hsb := HE.out.short_bd
        have HSS := Lib.hid hs
        have hsw : -sumTo E.whole E.sh.length = (s : Int) := by rw [← hs]; rfl
        rw [hsw]
        have hsn : s < E.sh.length := by have : E.n = E.sh.length := rfl; omega
        have hG := RgW.start hP
        have hgg : wr.heap.size = wr.heap.size := rfl
        clear hs hsb hsw hP hgg d1 d2 d3 d4
        go_wp2_with fail
        generalize wr.heap.size = gg at hG ⊢
        generalize wr.alloc _ = w9 at hG ⊢
        clear hmk2
        go_loopw [12, 13, 14] (fun i b z wr => ∃ t : Nat, t ≤ s ∧ i = .int .i64 t ∧ RgW E w3 go gr gg t wr) (fun i _ _ _ => s - (intOf i).toNat)
        case atStart => exact ⟨0, Nat.zero_le _, rfl, hG⟩
        case round =>
          clear hG
          obtain ⟨t, ht, rfl, hG⟩ := hrel
          by_cases hts : t < s
          · have hto : t < E.order.length := by rw [E.order_length]; have : E.n = E.sh.length := rfl; omega
            obtain ⟨o, ho⟩ : ∃ o, E.order[t]? = some o := ⟨_, List.getElem?_eq_getElem hto⟩
            have hon : o < E.sh.length := E.order_mem.1 (List.mem_of_getElem? ho)
            have i1 : (t : Int) < (s : Int) := by omega
            have HO := Lib.hid ho
            have HBE := Lib.hid (Est.bst_end ho)
            clear ho hto
            obtain ⟨wo, rfl⟩ : ∃ wo : World, wo = wr := ⟨_, rfl⟩
            go_wp2_with fail
            go_loopw [13, 14] (fun b i wi => ∃ k : Nat, k ≤ E.sh.length ∧ i = .int .i64 k ∧ b = .int .i64 (E.bst t k) ∧ ∃ q, wi = wo.drewN q) (fun _ i _ => E.sh.length - (intOf i).toNat)
            case atStart => exact ⟨0, Nat.zero_le _, rfl, rfl, 0, rfl⟩
            case round =>
              obtain ⟨k, hk, rfl, rfl, q, rfl⟩ := hrel
              by_cases hkt : k < E.sh.length
              · have cg := hG.g.cell hkt
                have cr := hG.f.r.cell hkt
                have i2 : (k : Int) < (E.sh.length : Int) := by omega
                by_cases hin : k ∈ E.order.take t
                · have HF := Lib.hid (Est.bst_no hin)
                  have gv : gvn E t k = true := by simpa [gvn] using hin
                  simp only [gv] at cg
                  clear hin gv
                  rcases E.bst_cases t k with hb | ⟨b, hb, hbk⟩
                  · rw [hb] at HF ⊢
                    clear hb
                    go_wp2_with fail
                    go_quiet (fail)
                    go_wp2_with fail
                    go_roundw
                    case rel => exact ⟨k + 1, by omega, by go_num, vint HF.out.symm, _, rfl⟩
                    case measure => simp [intOf]; omega
                  · rw [hb] at HF ⊢
                    clear hb
                    go_wp2_with fail
                    go_quiet (fail)
                    go_wp2_with fail
                    go_roundw
                    case rel => exact ⟨k + 1, by omega, by go_num, vint HF.out.symm, _, rfl⟩
                    case measure => simp [intOf]; omega
                · have gv : gvn E t k = false := by simpa [gvn] using hin
                  simp only [gv] at cg
                  rcases E.bst_cases t k with hb | ⟨b, hb, hbk⟩
                  · have HF := Lib.hid (Est.bst_fst hin (by omega))
                    rw [hb]
                    clear hb hin gv
                    go_wp2_with fail
                    go_quiet (fail)
                    go_wp2_with fail
                    go_roundw
                    case rel => exact ⟨k + 1, by omega, by go_num, vint HF.out.symm, _, rfl⟩
                    case measure => simp [intOf]; omega
                  · have hbl : b < E.sh.length := by omega
                    have cb := hG.f.r.cell hbl
                    have i3 : (b : Int) < (E.sh.length : Int) := by omega
                    have p0 : decide ((b : Int) < 0) = false := by simp
                    by_cases hr : E.rest b < E.rest k
                    · have HF := Lib.hid (Est.bst_gtr hin hb hr)
                      have p1 : decide (E.rest b < E.rest k) = true := by simpa using hr
                      rw [hb]
                      clear hb hin gv hr
                      go_wp2_with fail
                      go_quiet (fail)
                      go_wp2_with fail
                      go_roundw
                      case rel => exact ⟨k + 1, by omega, by go_num, vint HF.out.symm, _, rfl⟩
                      case measure => simp [intOf]; omega
                    · have HF := Lib.hid (Est.bst_not hin hb hr)
                      have p1 : decide (E.rest b < E.rest k) = false := by simpa using hr
                      rw [hb]
                      clear hb hin gv hr
                      go_wp2_with fail
                      go_quiet (fail)
                      go_wp2_with fail
                      go_roundw
                      case rel => exact ⟨k + 1, by omega, by go_num, vint HF.out.symm, _, rfl⟩
                      case measure => simp [intOf]; omega
              · obtain rfl : k = E.sh.length := by omega
                have hbe : E.bst t E.sh.length = (o : Int) := HBE.out
                rw [hbe]
                have hG2 := hG.drewN q
                clear hG hbe
                generalize wo.drewN q = wi at hG2 ⊢
                have fg := hG2.g.frozen o
                have cg := hG2.g.cell hon
                have co := (hG2.f.o.setOther (a := ⟨gg, o, none⟩) (Ne.symm hG2.no) (.bool true)).cell hon
                have fo := (hG2.f.o.setOther (a := ⟨gg, o, none⟩) (Ne.symm hG2.no) (.bool true)).frozen o
                have i2 : (o : Int) < (E.sh.length : Int) := by omega
                have pb := HE.out.payTo_bd t o hon
                have s1 : IntKind.i64.wrap (E.payTo t o + 1) = E.payTo t o + 1 := IntWalk.i64_in _ (by omega)
                have HNX := Lib.hid (hG2.next HO.out (u := E.payTo t o + 1) rfl)
                clear pb
                go_wp2_with fail
                go_roundw
                case rel => exact ⟨t + 1, by omega, by go_num, HNX.out⟩
                case measure => simp [intOf]; omega
          · obtain rfl : t = s := by omega
            have HI := Lib.hid (Ints.of_own (rowIs_own hG.f.o hG.f.geo (by unfold maxLen; omega))).1
            have HBF := Lib.hid (bcall HBW.out HBW.out.size hG.f.below)
            have HPL := Lib.hid (show payR E = mapL E.sh.length (E.payTo t) by
              rw [payR, if_pos HC.out, payL]
              refine mapL_congr fun i _ => ?_
              rw [Est.pay, HSS.out]; simp)
            have HLN := Lib.hid (show (payR E).length = E.sh.length by rw [HPL.out, mapL_length])
            clear hG
            go_wp2_with fail
            go_ret2
            exact ⟨_, _, ret_two (by rw [HLN.out]; rfl) (vint HC.out.symm), by rw [HPL.out]; exact HI.out, HBF.out⟩
end Go.Proofs.Ytedgdmblpjfaiaa
