/- A desk is asked. -/
import Derived.Test.YtgcbmnohhbcfiabCm15
namespace Go.Proofs.Ytgcbmnohhbcfiab
open Go.RowKit Go.Deep
set_option linter.unusedVariables false
set_option linter.unusedSimpArgs false

/-- What a question leaves: a desk, a ratio and an error. -/
def AskRes (ks : List Ck) (l : List Qy) (g kind : Int) (a b : Rt) (w : World) (e : Ending) (w' : World) : Prop := ∃ P cp S cs, e = .returned (.tuple #[dV P cp (askK ks l.length g kind a b) S cs (askL ks l g kind a b), rV (askR ks l.length g kind a b), .int .i64 (askC ks l.length g kind a b)]) ∧
  Fresh w.heap.size w' (fun W => CsIn W.heap.size W P cp (askK ks l.length g kind a b) ∧ LgIn W.heap.size W S cs (askL ks l g kind a b)) ∧ Below w.heap.size w w'
theorem AskRes.bad {ks : List Ck} {l : List Qy} {g kind : Int} {a b : Rt} {w w' : World} {x : Int} (hx : askC ks l.length g kind a b = x) (h0 : x ≠ 0) (hb : Below w.heap.size w w') : AskRes ks l g kind a b w (.returned (.tuple #[.agg #[.slice none 0 0, .slice none 0 0], rV ⟨0, 0⟩, .int .i64 x])) w' := by
  have k1 : askK ks l.length g kind a b = [] := by unfold askK; rw [if_neg (by omega)]
  have k2 : askL ks l g kind a b = [] := by unfold askL; rw [if_neg (by omega)]
  have k3 : askR ks l.length g kind a b = ⟨0, 0⟩ := by unfold askR; rw [if_neg (by omega)]
  refine ⟨none, 0, none, 0, by rw [k1, k2, k3, hx]; rfl, ?_, hb⟩
  rw [k1, k2]
  exact fun W _ _ => ⟨RIn.nil _ _, RIn.nil _ _⟩
theorem askC_desk {ks : List Ck} {n : Nat} {g kind : Int} {a b : Rt} (h : deskC ks n ≠ 0) : askC ks n g kind a b = deskC ks n := by unfold askC; rw [if_pos h]
theorem askC_arg {ks : List Ck} {n : Nat} {g kind : Int} {a b : Rt} (h : deskC ks n = 0) (h2 : hasB ks.length g = false) : askC ks n g kind a b = 2 := by unfold askC; rw [if_neg (by omega), if_pos h2]
theorem askC_ans {ks : List Ck} {n : Nat} {g kind : Int} {a b : Rt} (h : deskC ks n = 0) (h2 : hasB ks.length g = true) (h3 : ansC (ckAt ks g) kind a b ≠ 0) : askC ks n g kind a b = ansC (ckAt ks g) kind a b := by unfold askC; rw [if_neg (by omega), if_neg (by simp [h2]), if_pos h3]
theorem askC_full {ks : List Ck} {n : Nat} {g kind : Int} {a b : Rt} (h : deskC ks n = 0) (h2 : hasB ks.length g = true) (h3 : ansC (ckAt ks g) kind a b = 0) (h4 : 2000 ≤ n) : askC ks n g kind a b = 4 := by unfold askC; rw [if_neg (by omega), if_neg (by simp [h2]), if_neg (by omega), if_pos h4]
theorem has_of {ks : List Ck} {g : Int} (h : hasB ks.length g = true) : ∃ (k : Nat) (K : Ck), g = (k : Int) ∧ ks[k]? = some K ∧ ckAt ks g = K := by
  simp only [hasB, Bool.and_eq_true, decide_eq_true_eq] at h
  have hk : g.toNat < ks.length := by omega
  have e : g = (g.toNat : Int) := by omega
  refine ⟨g.toNat, _, e, List.getElem?_eq_getElem hk, ?_⟩
  have := ckAt_of (List.getElem?_eq_getElem hk)
  rwa [← e] at this
/-- One of the two ways to ask an agent. -/
def AnsFn (f : FuncId) (kind : Int) : Prop := (∀ (args : Array Value) (W : World), Sem.run Try.prog (callFunc f args) W = .ok (.enter f args) W) ∧ ∀ (ks : List Ck) (A : Option Addr) (c : Nat) (l : List Qy) (B : Option Addr) (d : Nat) (k : Nat) (K : Ck), ks[k]? = some K → ∀ (a b : Rt), a.wf → b.wf → ∀ (w : World), CsIn w.heap.size w A c ks →
    Calls Try.prog f #[dV A c ks B d l, .int .i64 k, rV a, rV b] w fun e w' => e = .returned (.tuple #[rV (ansR K kind a b), .int .i64 (ansC K kind a b)]) ∧ Below w.heap.size w w'
theorem ans_value : AnsFn 35 1 := ⟨fun args W => by go_simp, fun ks A c l B d k K hK a b ha hb w h => ovalue_any ks A c l B d k K hK a b ha hb w h⟩
theorem ans_mark : AnsFn 36 2 := ⟨fun args W => by go_simp, fun ks A c l B d k K hK a b ha hb w h => omark_any ks A c l B d k K hK a b ha hb w h⟩
end Go.Proofs.Ytgcbmnohhbcfiab
