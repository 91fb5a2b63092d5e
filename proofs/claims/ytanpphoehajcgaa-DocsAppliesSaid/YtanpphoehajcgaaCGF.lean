/- Reading of any bytes, in plain Lean. -/
import Derived.Test.YtanpphoehajcgaaCGE
set_option linter.unusedSimpArgs false
set_option linter.unusedVariables false
set_option maxRecDepth 100000
set_option maxHeartbeats 1000000
set_option cbv.maxSteps 10000000
namespace Go.Proofs.Ytanpphoehajcgaa
open Go GoV

/-- A reader: how many bytes it has left from where on, or its error; f: is its memory frozen? -/
inductive RS where
  | ok (f : Bool) (o n : Nat)
  | er (f : Bool) (e : Int)
def RS.fail (e : Int) : RS → RS
  | .ok f _ _ => .er f e
  | s => s
def RS.left : RS → Nat
  | .ok _ _ n => n
  | .er _ _ => 0
/-- So many ones stand ahead in a byte. -/
def lo (b : Nat) : Nat := if b < 128 then 0 else if b < 192 then 1 else if b < 224 then 2 else if b < 240 then 3 else if b < 248 then 4 else if b < 252 then 5 else if b < 254 then 6 else if b < 255 then 7 else 8
def hd8 (b : Nat) : Nat := if lo b < 8 then b % 2 ^ (7 - lo b) else 0
def acc (x : Nat) : List Nat → Nat
  | [] => x
  | c :: l => acc (x * 256 + c) l
/-- The number that begins at o. -/
def rawV (bs : List Nat) (o : Nat) : Nat := acc (hd8 (bs.getD o 0)) ((bs.drop (o + 1)).take (lo (bs.getD o 0)))
def rawS (bs : List Nat) : RS → Option Nat × RS
  | .er f e => (none, .er f e)
  | .ok f o n =>
    if n = 0 then (none, .er f 4) else
    if n < lo (bs.getD o 0) + 1 then (none, .er true 4) else
    if nd (rawV bs o) = lo (bs.getD o 0) then (some (rawV bs o), .ok true (o + 1 + lo (bs.getD o 0)) (n - 1 - lo (bs.getD o 0))) else (none, .er true 3)
def numS (bs : List Nat) (most : Int) (s : RS) : Nat × RS :=
  match rawS bs s with
  | (none, s') => (0, s')
  | (some x, s') => if 2 ^ 63 ≤ x ∨ most < (x : Int) then (0, s'.fail 5) else (x, s')
end Go.Proofs.Ytanpphoehajcgaa
