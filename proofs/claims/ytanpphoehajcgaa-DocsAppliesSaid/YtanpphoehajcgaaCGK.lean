/- A reader reads numbers that rise: gone through. -/
import Derived.Test.YtanpphoehajcgaaCGH
set_option linter.unusedSimpArgs false
set_option linter.unusedVariables false
set_option maxRecDepth 100000
set_option maxHeartbeats 1000000
set_option cbv.maxSteps 10000000
namespace Go.Proofs.Ytanpphoehajcgaa
open Go GoV

def intsI (l : List Int) : List (List IV) := l.map fun z => [.int .i64 z]
end Go.Proofs.Ytanpphoehajcgaa
