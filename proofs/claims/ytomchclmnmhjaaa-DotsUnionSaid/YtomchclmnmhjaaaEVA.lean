/- Texts behind bytes, and read: gone through. -/
import Derived.Test.YtomchclmnmhjaaaUTE
import Derived.Test.YtomchclmnmhjaaaCGS
import Derived.Test.YtomchclmnmhjaaaCGK
set_option linter.unusedSimpArgs false
set_option linter.unusedVariables false
set_option maxRecDepth 100000
set_option maxHeartbeats 1000000
set_option cbv.maxSteps 10000000
namespace Go.Proofs.Ytomchclmnmhjaaa
open Go GoV

/-! ### Dots -/
abbrev dotF (d : Int × Int) : FV := .agg [.iv (.int .i64 d.1), .iv (.int .i64 d.2)]
end Go.Proofs.Ytomchclmnmhjaaa
