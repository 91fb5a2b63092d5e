/- One form of a context, by the document's answer: gone through. -/
import Derived.Test.YtomchclmnmhjaaaDSD
set_option linter.unusedSimpArgs false
set_option linter.unusedVariables false
set_option maxRecDepth 100000
set_option maxHeartbeats 1000000
set_option cbv.maxSteps 10000000
namespace Go.Proofs.Ytomchclmnmhjaaa
open Go GoV

def refU (v : List Int) (l : List Dt) : List Int := itR l (clampV v) l.length
def refC (v : List Int) (l : List Dt) : List Dt := l.foldl (stC (refU v l)) []
end Go.Proofs.Ytomchclmnmhjaaa
