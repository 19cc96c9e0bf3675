
/- Regions of drawn order: what is skipped; worlds of the call's own. -/
import Derived.Test.YtcdeeoakoljlpaaGreatRel2
import Derived.Test.YtcdeeoakoljlpaaGreatSet13
namespace Go.Proofs.YtcdeeoakoljlpaaGreat
set_option linter.unusedSimpArgs false
set_option linter.unusedVariables false
open Go Go.RowKit
set_option linter.unusedSectionVars false
theorem relStep_skip {P : Program} {ops : Array Oper} {o : Oper} {g : Fr} {w : World} {F : Value → World → Prop} {j t : Nat} {want : Bool} (ho : o.guard = some (j, want)) (ht : guardTmp ops j = some t) (hg : boolOf (g t) ≠ some want) (h : F undef w) : relStep P ops o g w F := by
  simp only [relStep, guardOn, ho, ht]
  rw [if_neg (by simpa using hg)]
  exact h
theorem OwnW.ext {B : Nat} {v : Value} {w w' : World} {x : WorldD} (h : OwnW B v w x) (hx : Ext w w') : OwnW B v w' x := by
  obtain ⟨hv, rv, e, h1, h2⟩ := h
  exact ⟨hv, rv, e, Own.ext h1 hx, Own.ext h2 hx⟩
theorem OwnW.more {B B' : Nat} {v : Value} {w : World} {x : WorldD} (h : OwnW B v w x) (hB : B' ≤ B) : OwnW B' v w x := by
  obtain ⟨hv, rv, e, h1, h2⟩ := h
  exact ⟨hv, rv, e, Own.more h1 hB, Own.more h2 hB⟩
end Go.Proofs.YtcdeeoakoljlpaaGreat
