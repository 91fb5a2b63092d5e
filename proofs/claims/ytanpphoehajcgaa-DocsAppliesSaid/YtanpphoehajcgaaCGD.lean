/- How many places a number has, and how many bytes it needs: gone through. -/
import Derived.Test.YtanpphoehajcgaaCGB
set_option linter.unusedSimpArgs false
set_option linter.unusedVariables false
set_option maxRecDepth 100000
set_option maxHeartbeats 1000000
set_option cbv.maxSteps 10000000
namespace Go.Proofs.Ytanpphoehajcgaa
open Go GoV

abbrev u64 (x : Int) : FV := .one (.iv (.int .u64 x))
abbrev u8 (x : Int) : FV := .one (.iv (.int .u8 x))
end Go.Proofs.Ytanpphoehajcgaa
