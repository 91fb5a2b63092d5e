/- The reference's numbers behind bytes, and its reader's number: gone through. -/
import Derived.Test.YtlljgefgbglmbaaCGM
set_option linter.unusedSimpArgs false
set_option linter.unusedVariables false
set_option maxRecDepth 100000
set_option maxHeartbeats 1000000
set_option cbv.maxSteps 10000000
namespace Go.Proofs.Ytlljgefgbglmbaa
open Go GoV

/-! ### Its reader -/
end Go.Proofs.Ytlljgefgbglmbaa
