
/- The plain laws of the statements AgentOver and AgentOnce. -/
import Derived.Test.YtblegjdogmcgbaaGreatPure13
namespace Go.Proofs.YtblegjdogmcgbaaGreat
set_option linter.unusedSimpArgs false
set_option linter.unusedVariables false
open Go Go.RowKit
set_option linter.unusedSectionVars false
set_option maxHeartbeats 1000000
section
variable {s : SiteD} {wl : List ServiceD} {x : WorldD} {r : RequestD} {l : List ReplyD} {now : Int}
theorem hand_cases (h1 : validB s wl x = true) (h2 : stepB2 s wl r.step = true) (h3 : 1 ≤ r.id) (h4 : 0 ≤ r.lease) (h5 : 0 ≤ now) (h6 : l.length < 400) :
    (∃ p, knownO l r.id = some p ∧ handleD s wl x l r now = ⟨x, l, p, 0⟩) ∨ (knownO l r.id = none ∧ handleD s wl x l r now = ⟨newW s wl x r now, l ++ [⟨r.id, ansI s wl x r now⟩], ⟨r.id, ansI s wl x r now⟩, 0⟩) := by
  have hok : handOk s wl x r now = true := by simp [handOk, h1, h2, h3, h4, h5]
  unfold handleD
  rw [if_pos hok]
  cases hk : knownO l r.id with
  | some p => exact .inl ⟨p, rfl, rfl⟩
  | none => exact .inr ⟨rfl, by simp only; rw [if_neg (by omega)]⟩
/-- The first cell of a list of replies is not that of an empty reply. -/
theorem head_ne {l : List ReplyD} (h1 : l ≠ []) (h2 : ∀ p ∈ l, 1 ≤ p.id) : ∃ x y, (l.map replyC).flatten[0]? = some x ∧ [intV 0, Value.int .u8 0][0]? = some y ∧ x ≠ y := by
  cases l with
  | nil => exact absurd rfl h1
  | cons a r =>
    refine ⟨intV a.id, intV 0, rfl, rfl, fun e => ?_⟩
    have := h2 a (List.mem_cons_self ..)
    simp only [intV, Value.int.injEq, true_and] at e
    omega
theorem knownO_mem {id : Int} {p : ReplyD} (h : knownO l id = some p) : p ∈ l ∧ p.id = id := ⟨List.mem_of_find?_eq_some h, by simpa using List.find?_some h⟩
end
end Go.Proofs.YtblegjdogmcgbaaGreat
