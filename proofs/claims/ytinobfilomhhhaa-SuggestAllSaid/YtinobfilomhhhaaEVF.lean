/- An event of any bytes is read: gone through. -/
import Derived.Test.YtinobfilomhhhaaEVD
set_option linter.unusedSimpArgs false
set_option linter.unusedVariables false
set_option maxRecDepth 100000
set_option maxHeartbeats 2000000
set_option cbv.maxSteps 10000000
namespace Go.Proofs.Ytinobfilomhhhaa
open Go GoV

def r1 (bs : List Nat) (s : RS) := dotS bs s
def r2 (bs : List Nat) (s : RS) := numS bs 1099511627776 (r1 bs s).2
def r3 (bs : List Nat) (s : RS) := numS bs 2 (r2 bs s).2
def r4 (bs : List Nat) (s : RS) := textS bs 12 (r3 bs s).2
end Go.Proofs.Ytinobfilomhhhaa
