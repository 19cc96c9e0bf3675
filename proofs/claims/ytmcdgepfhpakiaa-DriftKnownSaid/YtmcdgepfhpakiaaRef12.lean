
/- The document's answer, layer 12. -/
import Derived.Test.YtmcdgepfhpakiaaWorld1
namespace Go.Proofs.Ytmcdgepfhpakiaa
set_option linter.unusedSimpArgs false
set_option linter.unusedVariables false
open Go Go.RowKit
set_option maxRecDepth 100000
set_option linter.unusedSectionVars false
set_option maxHeartbeats 1000000
theorem btw_idx (a n : Int) : btw a 0 (n - 1) = idx a n := by
  unfold btw idx
  congr 1
  rw [decide_eq_decide]; omega
theorem wrap_pred {n : Nat} (h : n ≤ 9223372036854775807) : IntKind.i64.wrap ((n : Int) - 1) = (n : Int) - 1 := by rw [wrap_i64_id] <;> omega
def powerB (s : SiteD) : Bool := btw s.feeds.length 1 4 && btw s.breakers.length 1 8 && s.feeds.all feedB && s.breakers.all (breakerB s)
section
variable {w : World} {B : Nat} {u : SiteVs} {s : SiteD} (hB : B ≤ w.heap.size) (hs : SiteR w B u s)
include hB hs
def roomsB (s : SiteD) : Bool := btw s.loops.length 1 4 && btw s.switches 1 8 && btw s.racks.length 1 8 && decide ((s.links.length : Int) ≤ 16) && s.loops.all loopB && s.racks.all (rackB s) && s.links.all (linkB s)
end
end Go.Proofs.Ytmcdgepfhpakiaa
