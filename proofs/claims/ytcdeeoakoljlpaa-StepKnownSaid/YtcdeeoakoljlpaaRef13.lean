
/- The document's answer, layer 13: what only looks. -/
import Derived.Test.YtcdeeoakoljlpaaRef12
namespace Go.Proofs.Ytcdeeoakoljlpaa
set_option linter.unusedSimpArgs false
set_option linter.unusedVariables false
open Go Go.RowKit
set_option maxRecDepth 100000
set_option linter.unusedSectionVars false
set_option maxHeartbeats 1000000
end Go.Proofs.Ytcdeeoakoljlpaa
