/- scholiaref03.Next, gone through: the same. -/
import Derived.Test.YtlljgefgbglmbaaUTC
import Derived.Lib.SlicesS
set_option linter.unusedSimpArgs false
set_option linter.unusedVariables false
set_option maxRecDepth 100000
set_option maxHeartbeats 4000000
namespace Go.Proofs.Ytlljgefgbglmbaa
open Go GoV

end Go.Proofs.Ytlljgefgbglmbaa
