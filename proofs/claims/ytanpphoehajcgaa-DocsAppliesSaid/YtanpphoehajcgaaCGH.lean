/- A reader takes bytes, fails, reads a number: gone through. -/
import Derived.Test.YtanpphoehajcgaaCGF
set_option linter.unusedSimpArgs false
set_option linter.unusedVariables false
set_option maxRecDepth 100000
set_option maxHeartbeats 1000000
set_option cbv.maxSteps 10000000
namespace Go.Proofs.Ytanpphoehajcgaa
open Go GoV

theorem by8E {nt : Nat → Int} (hn : ∀ n, nt n = (n : Int)) (l : List Nat) : l.map (fun b => [IV.int .u8 (nt b)]) = by8 l := by
  unfold by8; exact List.map_congr_left fun b _ => by rw [hn]
/-- n bytes are taken. -/
def takeS (j : Nat) : RS → Option Nat × RS
  | .er f e => (none, .er f e)
  | .ok f o n => if n < j then (none, .er f 4) else (some o, .ok true (o + j) (n - j))
end Go.Proofs.Ytanpphoehajcgaa
