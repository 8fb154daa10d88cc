/- Goods, divisions between two agents, and the errors of both: no program in sight. -/
import Derived.Test.YtcjfcfgkejoeeaaRtSpec2
namespace Go.Proofs.Ytcjfcfgkejoeeaa
set_option linter.unusedVariables false
set_option linter.unusedSimpArgs false

/-- The sum of a list. -/
def tot (l : List Int) : Int := sumTo (gi l) l.length

/-- The values of an agent are in order. -/
def RowOk (bs : List (List Int)) (i : Nat) : Prop := (gr bs i).length = (gr bs 0).length ∧ ∀ k, k < (gr bs i).length → 0 ≤ gi (gr bs i) k ∧ gi (gr bs i) k ≤ 1000
instance (bs : List (List Int)) (i : Nat) : Decidable (RowOk bs i) := by unfold RowOk; infer_instance
def GdMany (bs : List (List Int)) : Prop := 6 < bs.length ∨ ∃ i, i < bs.length ∧ 10 < (gr bs i).length
instance (bs : List (List Int)) : Decidable (GdMany bs) := by unfold GdMany; infer_instance
def GdOk (bs : List (List Int)) : Prop := 0 < bs.length ∧ ∀ i, i < bs.length → RowOk bs i
instance (bs : List (List Int)) : Decidable (GdOk bs) := by unfold GdOk; infer_instance
/-- The error of goods. -/
def gdCode (bs : List (List Int)) : Int := if GdMany bs then 4 else if GdOk bs then 0 else 8
theorem gd_many1 {bs : List (List Int)} (h : 6 < bs.length) : gdCode bs = 4 := by exact if_pos (show GdMany bs from Or.inl h)
theorem gd_many2 {bs : List (List Int)} {i : Nat} (hi : i < bs.length) (h : 10 < (gr bs i).length) : gdCode bs = 4 := by exact if_pos (show GdMany bs from Or.inr ⟨i, hi, h⟩)
theorem not_many {bs : List (List Int)} (h1 : bs.length ≤ 6) (h2 : ∀ i, i < bs.length → (gr bs i).length ≤ 10) : ¬ GdMany bs := by
  rintro (h | ⟨i, hi, h⟩)
  · omega
  · have := h2 i hi; omega
theorem gd_none {bs : List (List Int)} (h : ¬ GdMany bs) (h0 : bs.length = 0) : gdCode bs = 8 := by
  unfold gdCode; rw [if_neg h, if_neg]; rintro ⟨h1, _⟩; omega
theorem gd_bad {bs : List (List Int)} (h : ¬ GdMany bs) {i : Nat} (hi : i < bs.length) (hb : ¬ RowOk bs i) : gdCode bs = 8 := by
  unfold gdCode; rw [if_neg h, if_neg]; rintro ⟨_, h1⟩; exact hb (h1 i hi)
theorem gd_good {bs : List (List Int)} (h : ¬ GdMany bs) (h0 : 0 < bs.length) (hb : ∀ i, i < bs.length → RowOk bs i) : gdCode bs = 0 := by
  unfold gdCode; rw [if_neg h, if_pos ⟨h0, hb⟩]
theorem gd_ok {bs : List (List Int)} (h : gdCode bs = 0) : 0 < bs.length ∧ bs.length ≤ 6 ∧ (gr bs 0).length ≤ 10 ∧ ∀ i, i < bs.length → RowOk bs i := by
  unfold gdCode at h
  by_cases h1 : GdMany bs
  · rw [if_pos h1] at h; omega
  · rw [if_neg h1] at h
    by_cases h2 : GdOk bs
    · refine ⟨h2.1, ?_, ?_, h2.2⟩
      · rcases Nat.lt_or_ge 6 bs.length with k | k
        · exact absurd (Or.inl k) h1
        · exact k
      · rcases Nat.lt_or_ge 10 (gr bs 0).length with k | k
        · exact absurd (Or.inr ⟨0, h2.1, k⟩) h1
        · exact k
    · rw [if_neg h2] at h; omega
theorem row_ok {bs : List (List Int)} {i : Nat} (h1 : (gr bs i).length = (gr bs 0).length) (h2 : ∀ k, k < (gr bs i).length → 0 ≤ gi (gr bs i) k ∧ gi (gr bs i) k ≤ 1000) : RowOk bs i := ⟨h1, h2⟩
theorem row_len {bs : List (List Int)} {i : Nat} (h : (gr bs i).length ≠ (gr bs 0).length) : ¬ RowOk bs i := fun k => h k.1
theorem row_out {bs : List (List Int)} {i k : Nat} (hk : k < (gr bs i).length) (h : ¬ (0 ≤ gi (gr bs i) k ∧ gi (gr bs i) k ≤ 1000)) : ¬ RowOk bs i := fun r => h (r.2 k hk)

/-- The error of goods that are divided between two. -/
def adCode (bs : List (List Int)) : Int :=
  if gdCode bs ≠ 0 then gdCode bs else if bs.length ≠ 2 then 2 else if tot (gr bs 0) = 0 then 18 else if tot (gr bs 0) ≠ tot (gr bs 1) then 8 else 0
theorem ad_gd {bs : List (List Int)} (h : gdCode bs ≠ 0) : adCode bs = gdCode bs := by unfold adCode; rw [if_pos h]
theorem ad_arg {bs : List (List Int)} (h : gdCode bs = 0) (h2 : bs.length ≠ 2) : adCode bs = 2 := by unfold adCode; rw [if_neg (by omega), if_pos h2]
theorem ad_zero {bs : List (List Int)} (h : gdCode bs = 0) (h2 : bs.length = 2) (h3 : tot (gr bs 0) = 0) : adCode bs = 18 := by unfold adCode; rw [if_neg (by omega), if_neg (by omega), if_pos h3]
theorem ad_bad {bs : List (List Int)} (h : gdCode bs = 0) (h2 : bs.length = 2) (h3 : tot (gr bs 0) ≠ 0) (h4 : tot (gr bs 0) ≠ tot (gr bs 1)) : adCode bs = 8 := by unfold adCode; rw [if_neg (by omega), if_neg (by omega), if_neg h3, if_pos h4]
theorem ad_good {bs : List (List Int)} (h : gdCode bs = 0) (h2 : bs.length = 2) (h3 : tot (gr bs 0) ≠ 0) (h4 : tot (gr bs 0) = tot (gr bs 1)) : adCode bs = 0 := by unfold adCode; rw [if_neg (by omega), if_neg (by omega), if_neg h3, if_neg (by omega)]

/-- Goods that can be divided between two. -/
structure AdOk (bs : List (List Int)) (n : Nat) : Prop where
  gd : gdCode bs = 0
  two : bs.length = 2
  l0 : (gr bs 0).length = n
  l1 : (gr bs 1).length = n
  n10 : n ≤ 10
  v0 : ∀ k, k < n → 0 ≤ gi (gr bs 0) k ∧ gi (gr bs 0) k ≤ 1000
  v1 : ∀ k, k < n → 0 ≤ gi (gr bs 1) k ∧ gi (gr bs 1) k ≤ 1000
  t0 : tot (gr bs 0) ≠ 0
  t1 : tot (gr bs 0) = tot (gr bs 1)
theorem ad_ok {bs : List (List Int)} (h : adCode bs = 0) : AdOk bs (gr bs 0).length := by
  unfold adCode at h
  by_cases h1 : gdCode bs = 0
  · rw [if_neg (by omega)] at h
    by_cases h2 : bs.length = 2
    · rw [if_neg (by omega)] at h
      by_cases h3 : tot (gr bs 0) = 0
      · rw [if_pos h3] at h; omega
      · rw [if_neg h3] at h
        by_cases h4 : tot (gr bs 0) = tot (gr bs 1)
        · obtain ⟨a, b, c, d⟩ := gd_ok h1
          have r0 := d 0 (by omega); have r1 := d 1 (by omega)
          exact ⟨h1, h2, rfl, r1.1, c, r0.2, fun k hk => r1.2 k (by rw [r1.1]; exact hk), h3, h4⟩
        · rw [if_pos h4] at h; omega
    · rw [if_pos h2] at h; omega
  · rw [if_pos h1] at h; exact absurd h h1
theorem AdOk.code {bs : List (List Int)} {n : Nat} (h : AdOk bs n) : adCode bs = 0 := ad_good h.gd h.two h.t0 h.t1

/-- The error of an allocation of goods. -/
def AlOk (bs : List (List Int)) (a : List Int) : Prop := a.length = (gr bs 0).length ∧ ∀ k, k < a.length → -1 ≤ gi a k ∧ gi a k < bs.length
instance (bs : List (List Int)) (a : List Int) : Decidable (AlOk bs a) := by unfold AlOk; infer_instance
def alCode (bs : List (List Int)) (a : List Int) : Int := if gdCode bs ≠ 0 then gdCode bs else if AlOk bs a then 0 else 8
theorem al_gd {bs : List (List Int)} {a : List Int} (h : gdCode bs ≠ 0) : alCode bs a = gdCode bs := by unfold alCode; rw [if_pos h]
theorem al_bad {bs : List (List Int)} {a : List Int} (h : gdCode bs = 0) (k : ¬ AlOk bs a) : alCode bs a = 8 := by unfold alCode; rw [if_neg (by omega), if_neg k]
theorem al_good {bs : List (List Int)} {a : List Int} (h : gdCode bs = 0) (k : AlOk bs a) : alCode bs a = 0 := by unfold alCode; rw [if_neg (by omega), if_pos k]
theorem al_ok {bs : List (List Int)} {a : List Int} (h : alCode bs a = 0) : gdCode bs = 0 ∧ AlOk bs a := by
  unfold alCode at h
  by_cases h1 : gdCode bs = 0
  · rw [if_neg (by omega)] at h
    by_cases h2 : AlOk bs a
    · exact ⟨h1, h2⟩
    · rw [if_neg h2] at h; omega
  · rw [if_pos h1] at h; exact absurd h h1

/-- A division between two: who has what, which good is split, and the part. -/
structure Pt where
  ow : List Int
  sp : Int
  p : Rt
/-- Who has what is in order. -/
def Pt.OwOk (bs : List (List Int)) (d : Pt) : Prop := AlOk bs d.ow ∧ ∀ k, k < d.ow.length → 0 ≤ gi d.ow k
instance (bs : List (List Int)) (d : Pt) : Decidable (d.OwOk bs) := by unfold Pt.OwOk; infer_instance
def Pt.SpOk (d : Pt) : Prop := (0 ≤ d.sp ∧ d.sp < d.ow.length) ∧ gi d.ow d.sp.toNat = 0
instance (d : Pt) : Decidable d.SpOk := by unfold Pt.SpOk; infer_instance
def Pt.PartOk (d : Pt) : Prop := d.p.code = 0 ∧ 0 < d.p.n ∧ d.p.n < d.p.d ∧ d.p.d ≤ 1000000
instance (d : Pt) : Decidable d.PartOk := by unfold Pt.PartOk; infer_instance
def Pt.code (bs : List (List Int)) (d : Pt) : Int :=
  if adCode bs ≠ 0 then adCode bs else if ¬ d.OwOk bs then 8 else if d.sp = -1 then (if d.p.n = 0 ∧ d.p.d = 1 then 0 else 8) else if d.SpOk ∧ d.PartOk then 0 else 8
section
variable {bs : List (List Int)} {d : Pt}
theorem pt_ad (h : adCode bs ≠ 0) : d.code bs = adCode bs := by unfold Pt.code; rw [if_pos h]
theorem pt_ow (h : adCode bs = 0) (k : ¬ d.OwOk bs) : d.code bs = 8 := by unfold Pt.code; rw [if_neg (by omega), if_pos k]
theorem pt_whole (h : adCode bs = 0) (k : d.OwOk bs) (e : d.sp = -1) (hp : d.p.n = 0 ∧ d.p.d = 1) : d.code bs = 0 := by unfold Pt.code; rw [if_neg (by omega), if_neg (by simpa using k), if_pos e, if_pos hp]
theorem pt_whole_bad (h : adCode bs = 0) (k : d.OwOk bs) (e : d.sp = -1) (hp : ¬ (d.p.n = 0 ∧ d.p.d = 1)) : d.code bs = 8 := by unfold Pt.code; rw [if_neg (by omega), if_neg (by simpa using k), if_pos e, if_neg hp]
theorem pt_good (h : adCode bs = 0) (k : d.OwOk bs) (e : d.sp ≠ -1) (hs : d.SpOk) (hp : d.PartOk) : d.code bs = 0 := by unfold Pt.code; rw [if_neg (by omega), if_neg (by simpa using k), if_neg e, if_pos ⟨hs, hp⟩]
theorem pt_sp (h : adCode bs = 0) (k : d.OwOk bs) (e : d.sp ≠ -1) (hs : ¬ d.SpOk) : d.code bs = 8 := by unfold Pt.code; rw [if_neg (by omega), if_neg (by simpa using k), if_neg e, if_neg (fun x => hs x.1)]
theorem pt_part (h : adCode bs = 0) (k : d.OwOk bs) (e : d.sp ≠ -1) (hp : ¬ d.PartOk) : d.code bs = 8 := by unfold Pt.code; rw [if_neg (by omega), if_neg (by simpa using k), if_neg e, if_neg (fun x => hp x.2)]
theorem pt_ok (h : d.code bs = 0) : adCode bs = 0 ∧ d.OwOk bs ∧ ((d.sp = -1 ∧ d.p = ⟨0, 1⟩) ∨ (d.sp ≠ -1 ∧ d.SpOk ∧ d.PartOk)) := by
  unfold Pt.code at h
  by_cases h1 : adCode bs = 0
  · rw [if_neg (by omega)] at h
    by_cases h2 : d.OwOk bs
    · rw [if_neg (by simpa using h2)] at h
      refine ⟨h1, h2, ?_⟩
      by_cases h3 : d.sp = -1
      · rw [if_pos h3] at h
        by_cases h4 : d.p.n = 0 ∧ d.p.d = 1
        · exact Or.inl ⟨h3, Rt.ext_ h4.1 h4.2⟩
        · rw [if_neg h4] at h; omega
      · rw [if_neg h3] at h
        by_cases h4 : d.SpOk ∧ d.PartOk
        · exact Or.inr ⟨h3, h4.1, h4.2⟩
        · rw [if_neg h4] at h; omega
    · rw [if_pos h2] at h; omega
  · rw [if_pos h1] at h; exact absurd h h1
end
/-- More goods than the statements consider. -/
def Great (bs : List (List Int)) (a : List Int) : Prop := (∃ i, i < bs.length ∧ i < 20 ∧ 50 < (gr bs i).length) ∨ 20 < bs.length ∨ 50 < a.length
instance (bs : List (List Int)) (a : List Int) : Decidable (Great bs a) := by unfold Great; infer_instance
end Go.Proofs.Ytcjfcfgkejoeeaa
