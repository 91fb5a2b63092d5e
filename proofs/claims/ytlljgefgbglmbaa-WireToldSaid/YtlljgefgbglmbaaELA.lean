/- The reference: dots, texts, names and events: gone through. -/
import Derived.Test.YtlljgefgbglmbaaEVF
import Derived.Test.YtlljgefgbglmbaaCGP
set_option linter.unusedSimpArgs false
set_option linter.unusedVariables false
set_option maxRecDepth 100000
set_option maxHeartbeats 1000000
set_option cbv.maxSteps 10000000
namespace Go.Proofs.Ytlljgefgbglmbaa
open Go GoV

/-! ### Names and texts -/
end Go.Proofs.Ytlljgefgbglmbaa
