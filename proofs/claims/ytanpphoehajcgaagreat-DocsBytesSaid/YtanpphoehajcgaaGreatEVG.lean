/- What was written is read: in plain Lean. -/
import Derived.Test.YtanpphoehajcgaaGreatEVF
set_option linter.unusedSimpArgs false
set_option linter.unusedVariables false
set_option maxRecDepth 100000
set_option maxHeartbeats 1000000
namespace Go.Proofs.YtanpphoehajcgaaGreat
open Go GoV
end Go.Proofs.YtanpphoehajcgaaGreat
