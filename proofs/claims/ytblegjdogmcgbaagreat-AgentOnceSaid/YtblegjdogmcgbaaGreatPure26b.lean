
/- The plain laws of the statement AgentOnce. -/
import Derived.Test.YtblegjdogmcgbaaGreatPure26
namespace Go.Proofs.YtblegjdogmcgbaaGreat
set_option linter.unusedSimpArgs false
set_option linter.unusedVariables false
open Go Go.RowKit
set_option linter.unusedSectionVars false
set_option maxHeartbeats 1000000
section
variable {s : SiteD} {wl : List ServiceD} {x : WorldD} {r : RequestD} {l : List ReplyD} {now : Int}
/-- What the agent has answered, by the answers' row. -/
def Told (l : List ReplyD) (a : Int → Int) : Prop := ∀ id, 1 ≤ id → id ≤ 12 → (0 ≤ a id ∧ a id ≤ 4) ∧ knownO l id = if a id = 0 then none else some ⟨id, a id⟩
theorem knownO_snoc {p : ReplyD} {id : Int} : knownO (l ++ [p]) id = match knownO l id with
    | some q => some q
    | none => if p.id = id then some p else none := by
  unfold knownO
  rw [List.find?_append]
  cases h : l.find? fun p => p.id == id with
  | some q => rfl
  | none =>
    by_cases hp : p.id = id
    · simp [hp]
    · simp [hp]
theorem once_r {a : Int → Int} (h1 : validB s wl x = true) (h2 : stepB2 s wl r.step = true) (h3 : 1 ≤ r.id ∧ r.id ≤ 12) (h4 : 0 ≤ r.lease) (h5 : 0 ≤ now) (h6 : l.length < 400) (ht : Told l a) (hp0 : ∀ p ∈ l, 1 ≤ p.id) :
    ∃ l', handleD s wl x l r now = ⟨if ansI s wl x r now = 1 ∧ a r.id = 0 then applyW s wl x r.step else x, l', ⟨r.id, if a r.id = 0 then ansI s wl x r now else a r.id⟩, 0⟩ ∧
      validB s wl (if ansI s wl x r now = 1 ∧ a r.id = 0 then applyW s wl x r.step else x) = true ∧ Told l' (fun i => if i = r.id then (if a r.id = 0 then ansI s wl x r now else a r.id) else a i) ∧ l'.length ≤ l.length + 1 ∧ l' ≠ [] ∧ (∀ p ∈ l', 1 ≤ p.id) := by
  obtain ⟨hr, hkn⟩ := ht r.id h3.1 h3.2
  have hp := ans_pos (s := s) (wl := wl) (x := x) (r := r) (now := now)
  rcases hand_cases (now := now) h1 h2 h3.1 h4 h5 h6 with ⟨p, hk, e⟩ | ⟨hk, e⟩
  · have ha : ¬ a r.id = 0 := by
      intro h0
      rw [if_pos h0, hk] at hkn
      cases hkn
    rw [if_neg ha, hk] at hkn
    obtain rfl := Option.some.inj hkn
    have hn : ¬ (ansI s wl x r now = 1 ∧ a r.id = 0) := fun h => ha h.2
    refine ⟨l, ?_, ?_, ?_, by omega, List.ne_nil_of_mem (knownO_mem hk).1, hp0⟩
    · rw [e, if_neg hn, if_neg ha]
    · rw [if_neg hn]; exact h1
    · intro id hi1 hi2
      have := ht id hi1 hi2
      rw [if_neg ha]
      by_cases hid : id = r.id
      · subst hid; simpa using this
      · simpa [hid] using this
  · have ha : a r.id = 0 := by
      by_cases h0 : a r.id = 0
      · exact h0
      · rw [if_neg h0, hk] at hkn; cases hkn
    have hw : newW s wl x r now = if ansI s wl x r now = 1 ∧ a r.id = 0 then applyW s wl x r.step else x := by
      unfold newW
      by_cases h9 : ansI s wl x r now = 1
      · rw [if_pos h9, if_pos ⟨h9, ha⟩]
      · rw [if_neg h9, if_neg (fun h => h9 h.1)]
    refine ⟨l ++ [⟨r.id, ansI s wl x r now⟩], ?_, ?_, ?_, by rw [List.length_append]; exact Nat.le_refl _, by simp, fun p hp => ?_⟩
    rotate_right
    · rcases List.mem_append.1 hp with hp | hp
      · exact hp0 p hp
      · simp only [List.mem_singleton] at hp; subst hp; exact h3.1
    · rw [e, hw, if_pos ha]
    · rw [← hw]; exact newW_valid h1
    · intro id hi1 hi2
      have := ht id hi1 hi2
      rw [if_pos ha]
      by_cases hid : id = r.id
      · subst hid
        simp only [if_true]
        refine ⟨by omega, ?_⟩
        rw [knownO_snoc, hk]
        simp only [if_true]
        rw [if_neg (by omega)]
      · simp only [if_neg hid]
        refine ⟨this.1, ?_⟩
        rw [knownO_snoc, this.2]
        split
        · rename_i q hq; rw [← hq]
        · rename_i hq
          rw [if_neg (fun h => hid h.symm)]
          exact hq.symm
end
end Go.Proofs.YtblegjdogmcgbaaGreat
