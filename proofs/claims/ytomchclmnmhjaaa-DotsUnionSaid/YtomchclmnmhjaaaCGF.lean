/- Reading of any bytes, in plain Lean. -/
import Derived.Test.YtomchclmnmhjaaaCGE
set_option linter.unusedSimpArgs false
set_option linter.unusedVariables false
set_option maxRecDepth 100000
set_option maxHeartbeats 1000000
set_option cbv.maxSteps 10000000
namespace Go.Proofs.Ytomchclmnmhjaaa
open Go GoV

/-- A reader: how many bytes it has left from where on, or its error; f: is its memory frozen? -/
inductive RS where
  | ok (f : Bool) (o n : Nat)
  | er (f : Bool) (e : Int)
def RS.left : RS → Nat
  | .ok _ _ n => n
  | .er _ _ => 0
/-- So many ones stand ahead in a byte. -/
def lo (b : Nat) : Nat := if b < 128 then 0 else if b < 192 then 1 else if b < 224 then 2 else if b < 240 then 3 else if b < 248 then 4 else if b < 252 then 5 else if b < 254 then 6 else if b < 255 then 7 else 8
def acc (x : Nat) : List Nat → Nat
  | [] => x
  | c :: l => acc (x * 256 + c) l
end Go.Proofs.Ytomchclmnmhjaaa
