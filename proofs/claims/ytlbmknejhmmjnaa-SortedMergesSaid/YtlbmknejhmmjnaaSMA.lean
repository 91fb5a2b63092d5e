/- The example. -/
import Derived.Test.YtlbmknejhmmjnaaSMCode
set_option linter.unusedSimpArgs false
set_option linter.unusedVariables false
set_option maxRecDepth 100000
set_option maxHeartbeats 1000000
namespace Go.Proofs.Ytlbmknejhmmjnaa
open Go GoV
theorem p13 : Pl 13 [] (bl true) [] := ⟨200, by kernel_rfl⟩
end Go.Proofs.Ytlbmknejhmmjnaa
