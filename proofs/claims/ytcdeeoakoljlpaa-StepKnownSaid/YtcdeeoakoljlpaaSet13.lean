
/- The document's answer, layer 13: Set. -/
import Derived.Test.YtcdeeoakoljlpaaClone13
import Derived.Test.YtcdeeoakoljlpaaRow3
namespace Go.Proofs.Ytcdeeoakoljlpaa
set_option linter.unusedSimpArgs false
set_option linter.unusedVariables false
open Go Go.RowKit
set_option maxRecDepth 100000
set_option linter.unusedSectionVars false
set_option maxHeartbeats 1000000
def setOk (x : WorldD) (host : Int) : Bool := sortedB x.replicas && idx host x.hosts.length
def setE (x : WorldD) (host : Int) : Int := if setOk x host = true then 0 else 1
def noW : WorldD := ⟨[], []⟩
def setW (x : WorldD) (host : Int) (h : StateD) : WorldD := if setOk x host = true then ⟨x.hosts.set host.toNat h, x.replicas⟩ else noW
theorem own_ne {w : World} {B B' e e' sz sz' b : Nat} {v v' : Value} {cs cs' : List (List Value)} (h : Own w B e sz v cs) (h' : Own w B' e' sz' v' cs') (hne : ¬ e = e') (hb : blockOf v = some b) : ¬ blockOf v' = some b := by
  rcases h.1.2 with ⟨rfl, _⟩ | ⟨g, cap, cur, rfl, _, hg, rest⟩
  · cases hb
  · rcases h'.1.2 with ⟨rfl, _⟩ | ⟨g', cap', cur', rfl, _, hg', rest'⟩
    · intro h9; cases h9
    · intro h9
      have e1 : g = b := Option.some.inj hb
      have e2 : g' = b := Option.some.inj h9
      subst e1
      subst e2
      rw [hg] at hg'
      injection hg' with h3
      injection h3 with _ h4
      exact hne h4
theorem OwnW.none (B : Nat) (w : World) : OwnW B (.agg #[.slice none 0 0, .slice none 0 0]) w noW := ⟨_, _, rfl, Own.nil _ _ _ _, Own.nil _ _ _ _⟩
section
variable {w : World} {B B' : Nat} {hv rv hv' rv' : Value} {x y : WorldD}
end
end Go.Proofs.Ytcdeeoakoljlpaa
