
/- The document's answer, layer 13: Start. -/
import Derived.Test.YtmcdgepfhpakiaaSet13
namespace Go.Proofs.Ytmcdgepfhpakiaa
set_option linter.unusedSimpArgs false
set_option linter.unusedVariables false
open Go Go.RowKit
set_option maxRecDepth 100000
set_option linter.unusedSectionVars false
set_option maxHeartbeats 1000000
def ltB (r a : ReplicaD) : Bool := decide (ordI a r < 0)
def startE (x : WorldD) (r : ReplicaD) : Int := if sortedB x.replicas = true ∧ 0 ≤ r.service ∧ 0 ≤ r.host then if hasB x.replicas r = true then 6 else if 24 ≤ x.replicas.length then 9 else 0 else 1
def startL (r : ReplicaD) (l : List ReplicaD) : List ReplicaD := l.takeWhile (ltB r) ++ r :: l.dropWhile (ltB r)
def startW (x : WorldD) (r : ReplicaD) : WorldD := if startE x r = 0 then ⟨x.hosts, startL r x.replicas⟩ else noW
theorem while_at {α : Type} {p : α → Bool} {l : List α} {k : Nat} (hk : k ≤ l.length) (h1 : (l.take k).all p = true) (h2 : ∀ h : k < l.length, p l[k] = false) : l.takeWhile p = l.take k ∧ l.dropWhile p = l.drop k := by
  induction l generalizing k with
  | nil => simp
  | cons a l ih =>
    cases k with
    | zero =>
      have := h2 (by simp)
      simp at this
      simp [this]
    | succ k =>
      simp only [List.take_succ_cons, List.all_cons, Bool.and_eq_true] at h1
      have h3 := ih (k := k) (by simpa using hk) h1.2 (fun h => by have := h2 (by simpa using h); rwa [List.getElem_cons_succ] at this)
      simp [List.takeWhile_cons, List.dropWhile_cons, h1.1, h3.1, h3.2]
theorem start_at {l : List ReplicaD} {r : ReplicaD} {k : Nat} (hk : k ≤ l.length) (h1 : (l.take k).all (ltB r) = true) (h2 : ∀ h : k < l.length, ltB r l[k] = false) : startL r l = l.take k ++ r :: l.drop k := by
  unfold startL
  rw [(while_at hk h1 h2).1, (while_at hk h1 h2).2]
section
variable {w : World} {B B' : Nat} {hv rv hv' rv' : Value} {x y : WorldD}
end
end Go.Proofs.Ytmcdgepfhpakiaa
