/- What spoil may write, and that it writes nothing else. -/
import Derived.Test.YtgcbmnohhbcfiaaAgR
namespace Go.Proofs.Ytgcbmnohhbcfiaa
open Go.RowKit Go.Deep
set_option linter.unusedVariables false
set_option linter.unusedSimpArgs false

/-- A cell that can be written. -/
structure Live (W : World) (p : Addr) : Prop where
  c : ∃ v, W.cell? p = some v
  f : W.frozen? p = false
  b : p.block < W.heap.size
theorem Live.set {W : World} {p : Addr} (h : Live W p) (q : Addr) (u : Value) : Live (W.setCell q u) p := by
  obtain ⟨v, hv⟩ := h.c
  exact ⟨Go.RowKit.cell?_setCell_some hv, by rw [World.frozen?_setCell]; exact h.f, by simpa using h.b⟩
theorem Live.to {W V : World} {p : Addr} (h : Live W p) (hb : V.heap[p.block]? = W.heap[p.block]?) (hs : W.heap.size ≤ V.heap.size) : Live V p := by
  obtain ⟨v, hv⟩ := h.c
  exact ⟨⟨v, (World.cell?_of_block (w := W) hb).trans hv⟩, by rw [frozen_block (V := W) hb]; exact h.f, Nat.lt_of_lt_of_le h.b hs⟩
/-- The blocks N .. M alone may have changed. -/
structure Keep (N M : Nat) (w W : World) : Prop where
  os : W.os = w.os
  tape : W.tape = w.tape
  output : W.output = w.output
  size : w.heap.size ≤ W.heap.size
  block : ∀ g, g < w.heap.size → (g < N ∨ M ≤ g) → W.heap[g]? = w.heap[g]?
theorem Keep.refl (N M : Nat) (w : World) : Keep N M w w := ⟨rfl, rfl, rfl, Nat.le_refl _, fun _ _ _ => rfl⟩
theorem Keep.set {N M : Nat} {w W : World} (h : Keep N M w W) {q : Addr} (h1 : N ≤ q.block) (h2 : q.block < M) (u : Value) : Keep N M w (W.setCell q u) :=
  ⟨h.os, h.tape, h.output, by simpa using h.size, fun g hg hx => (Below.heap_setCell W q u g (by rcases hx with x | x <;> omega)).trans (h.block g hg hx)⟩
theorem Below.keep {B N M : Nat} {a w W : World} (h : Below B a w) (k : Keep N M w W) (hN : B ≤ N) (hB : B ≤ w.heap.size) : Below B a W :=
  ⟨k.os.trans h.os, k.tape.trans h.tape, k.output.trans h.output, Nat.le_trans h.size k.size, fun g hg => (k.block g (by omega) (Or.inl (by omega))).trans (h.block g hg)⟩
theorem off_ne (ad : Addr) (i j : Nat) : (⟨(ad.add (i * 8)).block, (ad.add (i * 8)).off + 7, none⟩ : Addr) ≠ ⟨(ad.add (j * 8)).block, (ad.add (j * 8)).off + 2, none⟩ := by
  intro q
  have q := congrArg Addr.off q
  have e1 : ∀ n, (ad.add n).off = ad.off + n := fun n => by
    unfold Addr.add
    split
    · next h => rw [h]; rfl
    · rfl
  have q : (ad.add (i * 8)).off + 7 = (ad.add (j * 8)).off + 2 := q
  rw [e1, e1] at q
  omega
/-- The cells that spoil writes. -/
structure SpA (N M : Nat) (ad : Addr) (i : Nat) (a : Ac) (R : Option Addr) (d : Nat) (W : World) : Prop where
  sl : W.cell? ⟨(ad.add (i * 8)).block, (ad.add (i * 8)).off + 2, none⟩ = some (.slice R a.own.dens.length d)
  bd : ad.block < W.heap.size
  ak : Live W ⟨(ad.add (i * 8)).block, (ad.add (i * 8)).off + 7, none⟩
  cap : a.own.dens.length ≤ 9223372036854775807
  de : ∀ k, k < a.own.dens.length → ∃ rd, R = some rd ∧ N ≤ rd.block ∧ rd.block < M ∧ rd.block ≠ ad.block ∧ Live W (rd.add k)
def SpL (N M : Nat) (log : List Qy) (S : Option Addr) (W : World) : Prop := ∀ k, k < log.length → ∃ sd, S = some sd ∧ N ≤ sd.block ∧ sd.block < M ∧ Live W (sd.add (k * 8))
theorem SpL.set {N M : Nat} {log : List Qy} {S : Option Addr} {W : World} (h : SpL N M log S W) (q : Addr) (u : Value) : SpL N M log S (W.setCell q u) := fun k hk => by
  obtain ⟨sd, e, h1, h2, h3⟩ := h k hk
  exact ⟨sd, e, h1, h2, h3.set q u⟩
structure Spo (N M : Nat) (acs : List Ac) (log : List Qy) (P S : Option Addr) (W : World) : Prop where
  act : ∀ (i : Nat) (a : Ac), acs[i]? = some a → ∃ ad R d, P = some ad ∧ N ≤ ad.block ∧ ad.block < M ∧ SpA N M ad i a R d W
  log : SpL N M log S W
theorem SpA.to {N M : Nat} {ad : Addr} {i : Nat} {a : Ac} {R : Option Addr} {d : Nat} {W V : World} (h : SpA N M ad i a R d W) (hN : N ≤ ad.block) (hM : ad.block < M) (hb : ∀ g, N ≤ g → g < M → V.heap[g]? = W.heap[g]?) (hs : W.heap.size ≤ V.heap.size) : SpA N M ad i a R d V :=
  ⟨(World.cell?_of_block (w := W) (hb _ (by rw [block_add]; exact hN) (by rw [block_add]; exact hM))).trans h.sl, Nat.lt_of_lt_of_le h.bd hs, h.ak.to (hb _ (by rw [block_add]; exact hN) (by rw [block_add]; exact hM)) hs, h.cap, fun k hk => by
    obtain ⟨rd, e, h1, h2, h3, h4⟩ := h.de k hk
    exact ⟨rd, e, h1, h2, h3, h4.to (hb _ (by rw [block_add]; exact h1) (by rw [block_add]; exact h2)) hs⟩⟩
theorem Spo.to {N M : Nat} {acs : List Ac} {log : List Qy} {P S : Option Addr} {W V : World} (h : Spo N M acs log P S W) (hb : ∀ g, N ≤ g → g < M → V.heap[g]? = W.heap[g]?) (hs : W.heap.size ≤ V.heap.size) : Spo N M acs log P S V :=
  ⟨fun i a hi => by
    obtain ⟨ad, R, d, e, h1, h2, h3⟩ := h.act i a hi
    exact ⟨ad, R, d, e, h1, h2, h3.to h1 h2 hb hs⟩, fun k hk => by
    obtain ⟨sd, e, h1, h2, h3⟩ := h.log k hk
    exact ⟨sd, e, h1, h2, h3.to (hb _ (by rw [block_add]; exact h1) (by rw [block_add]; exact h2)) hs⟩⟩
theorem Spo.set {N M : Nat} {acs : List Ac} {log : List Qy} {P S : Option Addr} {W : World} (h : Spo N M acs log P S W) (q : Addr) (u : Value) (hq : ∀ ad i, P = some ad → q ≠ ⟨(ad.add (i * 8)).block, (ad.add (i * 8)).off + 2, none⟩) : Spo N M acs log P S (W.setCell q u) :=
  ⟨fun i a hi => by
    obtain ⟨ad, R, d, e, h1, h2, h3⟩ := h.act i a hi
    refine ⟨ad, R, d, e, h1, h2, ⟨?_, by simpa using h3.bd, h3.ak.set q u, h3.cap, fun k hk => ?_⟩⟩
    · rw [World.cell?_setCell_other (h := hq ad i e)]; exact h3.sl
    · obtain ⟨rd, e2, k1, k2, k3, k4⟩ := h3.de k hk
      exact ⟨rd, e2, k1, k2, k3, k4.set q u⟩, fun k hk => by
    obtain ⟨sd, e, h1, h2, h3⟩ := h.log k hk
    exact ⟨sd, e, h1, h2, h3.set q u⟩⟩
set_option maxRecDepth 100000 in
set_option maxHeartbeats 16000000 in
theorem spoil_any (acs : List Ac) (log : List Qy) (P : Option Addr) (cp : Nat) (S : Option Addr) (cs : Nat) (N M : Nat) (w : World) (hM : M ≤ w.heap.size) (hcp : acs.length ≤ 9223372036854775807) (hcs : log.length ≤ 9223372036854775807) (h : Spo N M acs log P S w) :
    Calls Try.prog 72 #[mV P cp acs S cs log] w fun e w' => e = .returned (.tuple #[]) ∧ Keep N M w w' := by
  have hV := one_alloc w (mB P cp acs S cs log)
  have hbx : (w.alloc (mB P cp acs S cs log)).heap[w.heap.size]? = some (mB P cp acs S cs log) := heap_new rfl
  have h0 : Spo N M acs log P S (w.alloc (mB P cp acs S cs log)) := h.to (fun g _ hg => hV.block g (by omega)) hV.size
  have HKw := Lib.hid (fun (V : World) (k : Keep N M (w.alloc (mB P cp acs S cs log)) V) => show Keep N M w V from ⟨k.os.trans hV.os, k.tape.trans hV.tape, k.output.trans hV.output, Nat.le_trans hV.size k.size, fun g hg hx => (k.block g (Nat.lt_of_lt_of_le hg hV.size) hx).trans (hV.block g hg)⟩)
  have HBX := Lib.hid (fun (V : World) (k : Keep N M (w.alloc (mB P cp acs S cs log)) V) => show V.heap[w.heap.size]? = some (mB P cp acs S cs log) from (k.block _ (lt_some hbx) (Or.inr hM)).trans hbx)
  have HA := Lib.hid hcp
  have HL := Lib.hid hcs
  clear h hM hcp hcs hV hbx
  go_enter Try.func72, Try.ntmps72
  go_upto_region 1 with fail
  generalize w.alloc (mB P cp acs S cs log) = w1 at *
  have HS0 := Lib.hid h0
  clear h0
  go_wp2_with fail
  go_loopw [2] (fun s2 wr => ∃ i : Nat, i ≤ acs.length ∧ s2 = .int .i64 (i : Int) ∧ Spo N M acs log P S wr ∧ Keep N M w1 wr) (fun s2 _ => acs.length - (intOf s2).toNat)
  case atStart => exact ⟨0, Nat.zero_le _, rfl, HS0.out, Keep.refl _ _ _⟩
  case round =>
    clear HS0
    obtain ⟨i, hi, rfl, hs, hk⟩ := hrel
    have h8 := HBX.out _ hk
    have c_m := fun j => cell_of_row _ _ j _ _ _ h8
    have z_m := lt_some h8
    clear h8
    by_cases hlt : i < acs.length
    rotate_left
    · obtain rfl : i = acs.length := by omega
      have HS1 := Lib.hid hs.log
      have HK1 := Lib.hid hk
      clear hs hk hi hlt
      go_wp2_with fail
      clear c_m z_m
      go_loopw [4] (fun s4 wr => ∃ k : Nat, k ≤ log.length ∧ s4 = .int .i64 (k : Int) ∧ SpL N M log S wr ∧ Keep N M w1 wr) (fun s4 _ => log.length - (intOf s4).toNat)
      case atStart => exact ⟨0, Nat.zero_le _, rfl, HS1.out, HK1.out⟩
      case round =>
        clear HS1 HK1
        obtain ⟨k, hk2, rfl, hs, hk⟩ := hrel
        have h8 := HBX.out _ hk
        have c_m := fun j => cell_of_row _ _ j _ _ _ h8
        have z_m := lt_some h8
        clear h8
        by_cases hlt : k < log.length
        rotate_left
        · obtain rfl : k = log.length := by omega
          have HE := Lib.hid (HKw.out _ hk)
          clear hs hk hk2 hlt
          go_wp2_with fail
          refine bodyPost_end (v := .tuple #[]) (by simp [results, Try.results72, go_sem]) rfl ?_
          exact ⟨rfl, HE.out⟩
        obtain ⟨sd, rfl, n1, n2, hl⟩ := hs k hlt
        obtain ⟨⟨v, hv⟩, hf, hb⟩ := hl
        have hcap := HL.out
        obtain ⟨z1, z2, z3, z4⟩ := idx_facts hlt hcap
        have HLE := Lib.hid (And.intro (Nat.succ_le_of_lt hlt) (Nat.sub_lt_sub_left hlt (Nat.lt_succ_self k)))
        have HK2 := Lib.hid (hk.set (q := sd.add (k * 8)) (by rw [block_add]; exact n1) (by rw [block_add]; exact n2) (.int .i64 99))
        have HS2 := Lib.hid (hs.set (sd.add (k * 8)) (.int .i64 99))
        clear hk hs hk2 hlt hcap n1 n2
        go_upto_region 11 with fail
        generalize wr.setCell _ _ = wn at *
        clear hv hf hb c_m z_m
        go_wp2_with fail
        exact ⟨⟨k + 1, HLE.out.1, by go_num, HS2.out, HK2.out⟩, by simpa [intOf] using HLE.out.2⟩
    obtain ⟨a, ha⟩ : ∃ a, acs[i]? = some a := ⟨_, List.getElem?_eq_getElem hlt⟩
    have HAI := Lib.hid ha
    have hcap := HA.out
    have HIX := Lib.hid (idx_facts hlt hcap)
    have HLE := Lib.hid (And.intro (Nat.succ_le_of_lt hlt) (Nat.sub_lt_sub_left hlt (Nat.lt_succ_self i)))
    have HS1 := Lib.hid hs
    have HK1 := Lib.hid hk
    clear hs hk hi hlt hcap ha
    have z1 := HIX.out.1
    go_wp2_with fail
    clear c_m z_m z1
    go_loopw [3] (fun s3 wr => ∃ k : Nat, k ≤ a.own.dens.length ∧ s3 = .int .i64 (k : Int) ∧ Spo N M acs log P S wr ∧ Keep N M w1 wr) (fun s3 _ => a.own.dens.length - (intOf s3).toNat)
    case atStart => exact ⟨0, Nat.zero_le _, rfl, HS1.out, HK1.out⟩
    case round =>
      clear HS1 HK1
      obtain ⟨k, hk2, rfl, hs, hk⟩ := hrel
      have h8 := HBX.out _ hk
      have c_m := fun j => cell_of_row _ _ j _ _ _ h8
      have z_m := lt_some h8
      clear h8
      obtain ⟨ad, R, d, hP, n1, n2, sl, bd, ak, cap, de⟩ := hs.act i a HAI.out
      subst hP
      have f1 : (ad.add (i * 8)).block < wr.heap.size := by rw [block_add]; exact bd
      obtain ⟨z1, z2, z3, z4⟩ := HIX.out
      by_cases hlt : k < a.own.dens.length
      rotate_left
      · obtain rfl : k = a.own.dens.length := by omega
        obtain ⟨⟨v, hv⟩, hf, hb⟩ := ak
        have HK2 := Lib.hid (hk.set (q := ⟨(ad.add (i * 8)).block, (ad.add (i * 8)).off + 7, none⟩) (by show N ≤ (ad.add (i * 8)).block; rw [block_add]; exact n1) (by show (ad.add (i * 8)).block < M; rw [block_add]; exact n2) (.int .i64 99))
        have HS2 := Lib.hid (hs.set ⟨(ad.add (i * 8)).block, (ad.add (i * 8)).off + 7, none⟩ (.int .i64 99) (fun ad' j e => by
          obtain rfl := Option.some.inj e
          exact off_ne ad i j))
        clear hk hs hk2 hlt cap de n1 n2
        go_upto_region 3 with fail
        generalize wr.setCell _ _ = wn at *
        clear hv hf hb c_m z_m sl bd f1
        go_wp2_with fail
        exact ⟨⟨i + 1, HLE.out.1, by go_num, HS2.out, HK2.out⟩, by simpa [intOf] using HLE.out.2⟩
      obtain ⟨rd, rfl, r1, r2, r3, hl⟩ := de k hlt
      obtain ⟨⟨v, hv⟩, hf, hb⟩ := hl
      obtain ⟨y1, y2, y3, y4⟩ := idx_facts hlt cap
      have HLK := Lib.hid (And.intro (Nat.succ_le_of_lt hlt) (Nat.sub_lt_sub_left hlt (Nat.lt_succ_self k)))
      have HK2 := Lib.hid (hk.set (q := rd.add k) (by rw [block_add]; exact r1) (by rw [block_add]; exact r2) (.int .i64 99))
      have HS2 := Lib.hid (hs.set (rd.add k) (.int .i64 99) (fun ad' j e => by
        obtain rfl := Option.some.inj e
        intro q
        have q := congrArg Addr.block q
        rw [block_add] at q
        have q : rd.block = (ad.add (j * 8)).block := q
        rw [block_add] at q
        exact r3 q))
      clear hk hs hk2 hlt cap de n1 n2 r1 r2 r3 ak
      go_upto_region 6 with fail
      generalize wr.setCell _ _ = wn at *
      clear hv hf hb c_m z_m sl bd f1
      go_wp2_with fail
      exact ⟨⟨k + 1, HLK.out.1, by go_num, HS2.out, HK2.out⟩, by simpa [intOf] using HLK.out.2⟩
end Go.Proofs.Ytgcbmnohhbcfiaa
