/- A vector of any bytes is read: gone through. -/
import Derived.Test.YtanpphoehajcgaaCGK
set_option linter.unusedSimpArgs false
set_option linter.unusedVariables false
set_option maxRecDepth 100000
set_option maxHeartbeats 1000000
set_option cbv.maxSteps 10000000
namespace Go.Proofs.Ytanpphoehajcgaa
open Go GoV

def zeros : List Int := List.replicate 64 0
end Go.Proofs.Ytanpphoehajcgaa
