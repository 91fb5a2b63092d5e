/- Lists of events are read: gone through. -/
import Derived.Test.YtlljgefgbglmbaaELE
set_option linter.unusedSimpArgs false
set_option linter.unusedVariables false
set_option maxRecDepth 100000
set_option maxHeartbeats 1000000
set_option cbv.maxSteps 10000000
namespace Go.Proofs.Ytlljgefgbglmbaa
open Go GoV

abbrev EvX := Ev × Bool × Nat
def exI (x : EvX) : List IV := [.int .i64 x.1.d.1, .int .i64 x.1.d.2, .int .i64 x.1.t, .int .i64 x.1.k, .str x.1.doc, .int .i64 x.1.f, .str x.1.txt, .sl x.2.1 x.2.2 (eDs x.1.gone)]
def okL (l : List Ev) : List EvX := l.map fun e => (e, e.gone.isEmpty, 2)
end Go.Proofs.Ytlljgefgbglmbaa
