
/- The layer step: back, Undo. -/
import Derived.Test.YtblegjdogmcgbaaGreatStep3
import Derived.Test.YtblegjdogmcgbaaGreatRef13
namespace Go.Proofs.YtblegjdogmcgbaaGreat
set_option linter.unusedSimpArgs false
set_option linter.unusedVariables false
open Go Go.RowKit
set_option maxRecDepth 100000
set_option linter.unusedSectionVars false
set_option maxHeartbeats 2000000
section
variable {w : World} {B : Nat} {u : SiteVs} {s : SiteD} {wv hv rv : Value} {l : List SrvV} {x : WorldD} {st : StepD} {wl : List ServiceD}
end
end Go.Proofs.YtblegjdogmcgbaaGreat
