/- The reference: an event's bytes behind others: gone through. -/
import Derived.Test.YtlljgefgbglmbaaELA
set_option linter.unusedSimpArgs false
set_option linter.unusedVariables false
set_option maxRecDepth 100000
set_option maxHeartbeats 1000000
set_option cbv.maxSteps 10000000
namespace Go.Proofs.Ytlljgefgbglmbaa
open Go GoV

end Go.Proofs.Ytlljgefgbglmbaa
