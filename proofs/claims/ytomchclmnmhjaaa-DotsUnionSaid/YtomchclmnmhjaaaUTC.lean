/- utf.Next, gone through. -/
import Derived.Test.YtomchclmnmhjaaaUTB
set_option linter.unusedSimpArgs false
set_option linter.unusedVariables false
set_option maxRecDepth 100000
set_option maxHeartbeats 4000000
namespace Go.Proofs.Ytomchclmnmhjaaa
open Go GoV

end Go.Proofs.Ytomchclmnmhjaaa
