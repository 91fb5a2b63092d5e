/- The reference: an event of any bytes is read: gone through. -/
import Derived.Test.YtlljgefgbglmbaaELB
set_option linter.unusedSimpArgs false
set_option linter.unusedVariables false
set_option maxRecDepth 100000
set_option maxHeartbeats 2000000
set_option cbv.maxSteps 10000000
namespace Go.Proofs.Ytlljgefgbglmbaa
open Go GoV

end Go.Proofs.Ytlljgefgbglmbaa
