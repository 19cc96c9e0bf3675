
/- The layer step: rules, find, Valid. -/
import Derived.Test.YteeaccnklkcchaaDoorSite
namespace Go.Proofs.YteeaccnklkcchaaDoor
set_option linter.unusedSimpArgs false
set_option linter.unusedVariables false
open Go
set_option maxRecDepth 100000
set_option linter.unusedSectionVars false
structure RuleD where
  kind : Int
  service : Bool
  version : Bool
  fn : Nat
def ruleC (r : RuleD) : List Value := [.int .u8 r.kind, .bool r.service, .bool r.version, .func (.func r.fn) #[] #[]]
def ruleV (r : RuleD) : Value := .agg (ruleC r).toArray
theorem fidx_cases {α : Type} (p : α → Bool) (xs : List α) : (fidx p xs = -1 ∧ xs.find? p = none) ∨ ∃ i, ∃ h : i < xs.length, fidx p xs = i ∧ xs.find? p = some xs[i] := by
  unfold fidx
  cases h : xs.findIdx? p with
  | none =>
    rw [List.findIdx?_eq_none_iff] at h
    exact .inl ⟨rfl, List.find?_eq_none.2 fun x hx => by simp [h x hx]⟩
  | some i =>
    rw [List.findIdx?_eq_some_iff_getElem] at h
    obtain ⟨hi, hp, hn⟩ := h
    exact .inr ⟨i, hi, rfl, List.find?_eq_some_iff_getElem.2 ⟨hp, i, hi, rfl, fun j hj => by simpa using hn j hj⟩⟩
theorem row_slAgg {w : World} {b t n k : Nat} {l : List (List Value)} (hb : Blk w b t l.flatten) (hk : ∀ c ∈ l, c.length = k) (hn : n = l.length) (hmax : l.length ≤ 9223372036854775807) : Sl w w.heap.size (some k) k (.slice (some ⟨b, 0, none⟩) n n) (l.map fun c => .agg c.toArray) := by
  refine ⟨trivial, by simp [lenN, hn], Nat.le_refl _, by simp only [capN]; omega, fun b' h _ => by simp only [blockOf, Option.some.injEq] at h; subst h; exact hb.lt, fun i hi => ?_⟩
  simp only [List.length_map] at hi
  have key : ∀ (l : List (List Value)) (i : Nat) (h : i < l.length), (∀ c ∈ l, c.length = k) → ∀ j, j < k → l.flatten[i * k + j]? = (l[i])[j]? := by
    intro l
    induction l with
    | nil => intro i h; exact absurd h (by simp)
    | cons c l ih =>
      intro i h hc j hj
      have h1 := hc c (List.mem_cons_self ..)
      cases i with
      | zero => simp only [List.flatten_cons, Nat.zero_mul, Nat.zero_add, List.getElem_cons_zero]; rw [List.getElem?_append_left (by omega)]
      | succ i =>
        simp only [List.flatten_cons, List.getElem_cons_succ]
        rw [List.getElem?_append_right (by rw [h1, Nat.succ_mul]; omega), h1, show (i + 1) * k + j - k = i * k + j by rw [Nat.succ_mul]; omega]
        exact ih i (by simpa using h) (fun c hc' => hc c (List.mem_cons_of_mem _ hc')) j hj
  have hlen : (l[i]).length = k := hk _ (List.getElem_mem hi)
  have hr : ∀ m o, m + o = k → rdB w b (i * k + o) m = some ((l[i]).drop o) := by
    intro m
    induction m with
    | zero => intro o ho; rw [List.drop_eq_nil_of_le (by omega)]; rfl
    | succ m ih =>
      intro o ho
      rw [List.drop_eq_getElem_cons (by omega : o < (l[i]).length)]
      simp only [rdB, hb.cell]
      rw [key l i hi hk o (by omega), List.getElem?_eq_getElem (by omega)]
      have := ih (o + 1) (by omega)
      rw [show i * k + (o + 1) = i * k + o + 1 by omega] at this
      rw [this]
      rfl
  have := hr k 0 (by omega)
  simp only [elemAt, rdv, add_none, Nat.zero_add, rd, rdN_rdB, List.getElem_map]
  simp only [Nat.add_zero] at this ⊢
  rw [this]
  rfl
end Go.Proofs.YteeaccnklkcchaaDoor
