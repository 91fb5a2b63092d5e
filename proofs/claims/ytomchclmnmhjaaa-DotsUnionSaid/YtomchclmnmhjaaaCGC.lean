/- Operations on bytes and on numbers without a sign, as they are. -/
import Derived.Test.YtomchclmnmhjaaaCGB
set_option linter.unusedSimpArgs false
set_option linter.unusedVariables false
set_option maxRecDepth 100000
set_option maxHeartbeats 1000000
set_option cbv.maxSteps 10000000
namespace Go.Proofs.Ytomchclmnmhjaaa
open Go GoV

section nums
variable {A : Ar} (hA : A = real)
include hA
end nums
end Go.Proofs.Ytomchclmnmhjaaa
