/- scholiaref03.Next, gone through. -/
import Derived.Test.YtanpphoehajcgaaUTD
set_option linter.unusedSimpArgs false
set_option linter.unusedVariables false
set_option maxRecDepth 100000
set_option maxHeartbeats 8000000
set_option cbv.maxSteps 10000000
namespace Go.Proofs.Ytanpphoehajcgaa
open Go GoV

end Go.Proofs.Ytanpphoehajcgaa
