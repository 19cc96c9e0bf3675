
/- The document's answer, layer 13, and the layer world: Where (the document's), Runs, Used. -/
import Derived.Test.YtcdeeoakoljlpaaGreatRef13d
namespace Go.Proofs.YtcdeeoakoljlpaaGreat
set_option linter.unusedSimpArgs false
set_option linter.unusedVariables false
open Go Go.RowKit
set_option maxRecDepth 100000
set_option linter.unusedSectionVars false
set_option maxHeartbeats 1000000
theorem usedF_app (wl : List ServiceD) (host : Int) : ∀ (a b : List ReplicaD) (acc : Int), usedF wl host acc (a ++ b) = usedF wl host (usedF wl host acc a) b
  | [], _, _ => rfl
  | r :: a, b, acc => by rw [List.cons_append, usedF, usedF, usedF_app wl host a b]
theorem used_take {l : List ReplicaD} {k : Nat} (h : k < l.length) (wl : List ServiceD) (host : Int) : usedF wl host 0 (l.take (k + 1)) = if l[k].host = host ∧ idx l[k].service wl.length = true then IntKind.i64.wrap (usedF wl host 0 (l.take k) + coresAt wl l[k].service) else usedF wl host 0 (l.take k) := by
  rw [List.take_succ_eq_append_getElem h, usedF_app, usedF, usedF]
theorem coresAt_nat (l : List SrvV) {j : Nat} (h : j < l.length) : coresAt (l.map (·.x)) (j : Int) = l[j].x.cores := by
  simp [coresAt, h]
section
variable {w : World} {B : Nat} {u : SiteVs} {s : SiteD} {wv hv rv : Value} {l : List SrvV} {x : WorldD}
end
end Go.Proofs.YtcdeeoakoljlpaaGreat
