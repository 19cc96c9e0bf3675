
/- The plain laws of the statements AgentOver and AgentOnce. -/
import Derived.Test.YtblegjdogmcgbaaGreatPure13
namespace Go.Proofs.YtblegjdogmcgbaaGreat
set_option linter.unusedSimpArgs false
set_option linter.unusedVariables false
open Go Go.RowKit
set_option linter.unusedSectionVars false
set_option maxHeartbeats 1000000
section
variable {s : SiteD} {wl : List ServiceD} {x : WorldD} {r : RequestD} {l : List ReplyD} {now : Int}
theorem hand_cases (h1 : validB s wl x = true) (h2 : stepB2 s wl r.step = true) (h3 : 1 ≤ r.id) (h4 : 0 ≤ r.lease) (h5 : 0 ≤ now) (h6 : l.length < 400) :
    (∃ p, knownO l r.id = some p ∧ handleD s wl x l r now = ⟨x, l, p, 0⟩) ∨ (knownO l r.id = none ∧ handleD s wl x l r now = ⟨newW s wl x r now, l ++ [⟨r.id, ansI s wl x r now⟩], ⟨r.id, ansI s wl x r now⟩, 0⟩) := by
  have hok : handOk s wl x r now = true := by simp [handOk, h1, h2, h3, h4, h5]
  unfold handleD
  rw [if_pos hok]
  cases hk : knownO l r.id with
  | some p => exact .inl ⟨p, rfl, rfl⟩
  | none => exact .inr ⟨rfl, by simp only; rw [if_neg (by omega)]⟩
/-- No reply to request 100 says done. -/
def NoDone (l : List ReplyD) : Prop := ∀ p ∈ l, 1 ≤ p.id ∧ (p.id = 100 → p.answer ≠ 1)
/-- The first cell of a list of replies is not that of an empty reply. -/
theorem head_ne {l : List ReplyD} (h1 : l ≠ []) (h2 : ∀ p ∈ l, 1 ≤ p.id) : ∃ x y, (l.map replyC).flatten[0]? = some x ∧ [intV 0, Value.int .u8 0][0]? = some y ∧ x ≠ y := by
  cases l with
  | nil => exact absurd rfl h1
  | cons a r =>
    refine ⟨intV a.id, intV 0, rfl, rfl, fun e => ?_⟩
    have := h2 a (List.mem_cons_self ..)
    simp only [intV, Value.int.injEq, true_and] at e
    omega
theorem knownO_mem {id : Int} {p : ReplyD} (h : knownO l id = some p) : p ∈ l ∧ p.id = id := ⟨List.mem_of_find?_eq_some h, by simpa using List.find?_some h⟩
theorem over_r (h1 : validB s wl x = true) (h2 : stepB2 s wl r.step = true) (h3 : r.id = 100) (h4 : 0 ≤ r.lease) (h5 : r.lease < now) (h6 : l.length < 400) (hl : NoDone l) :
    ∃ l' p, handleD s wl x l r now = ⟨x, l', p, 0⟩ ∧ p.answer ≠ 1 ∧ NoDone l' ∧ l' ≠ [] ∧ l'.length ≤ l.length + 1 := by
  rcases hand_cases (now := now) h1 h2 (by omega) h4 (by omega) h6 with ⟨p, hk, e⟩ | ⟨hk, e⟩
  · obtain ⟨hm, hi⟩ := knownO_mem hk
    exact ⟨l, p, e, (hl p hm).2 (hi.trans h3), hl, List.ne_nil_of_mem hm, by omega⟩
  · have ha := ans_over (s := s) (wl := wl) (x := x) h5
    refine ⟨l ++ [⟨r.id, ansI s wl x r now⟩], ⟨r.id, ansI s wl x r now⟩, e.trans ?_, ha, ?_, by simp, ?_⟩
    · rw [newW, if_neg ha]
    rotate_left
    · rw [List.length_append]; exact Nat.le_refl _
    · intro p hp
      rcases List.mem_append.1 hp with hp | hp
      · exact hl p hp
      · simp only [List.mem_singleton] at hp; subst hp; exact ⟨by simp only; omega, fun _ => ha⟩
theorem over_q (h1 : validB s wl x = true) (h2 : stepB2 s wl r.step = true) (h3 : 1 ≤ r.id ∧ r.id ≤ 40) (h4 : 0 ≤ r.lease) (h5 : 0 ≤ now) (h6 : l.length < 400) (hl : NoDone l) :
    ∃ x' l' p, handleD s wl x l r now = ⟨x', l', p, 0⟩ ∧ validB s wl x' = true ∧ NoDone l' ∧ l' ≠ [] ∧ l'.length ≤ l.length + 1 := by
  rcases hand_cases (now := now) h1 h2 h3.1 h4 h5 h6 with ⟨p, hk, e⟩ | ⟨hk, e⟩
  · exact ⟨x, l, p, e, h1, hl, List.ne_nil_of_mem (knownO_mem hk).1, by omega⟩
  · refine ⟨_, _, _, e, newW_valid h1, ?_, by simp, by simp⟩
    intro p hp
    rcases List.mem_append.1 hp with hp | hp
    · exact hl p hp
    · simp only [List.mem_singleton] at hp; subst hp; exact ⟨h3.1, fun h => by simp only at h; omega⟩
end
end Go.Proofs.YtblegjdogmcgbaaGreat
