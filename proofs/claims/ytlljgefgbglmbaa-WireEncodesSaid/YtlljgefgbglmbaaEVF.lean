/- An event of any bytes is read: gone through. -/
import Derived.Test.YtlljgefgbglmbaaEVE
set_option linter.unusedSimpArgs false
set_option linter.unusedVariables false
set_option maxRecDepth 100000
set_option maxHeartbeats 2000000
set_option cbv.maxSteps 10000000
namespace Go.Proofs.Ytlljgefgbglmbaa
open Go GoV

def gonGo (bs : List Nat) : Nat → List (Int × Int) → RS → List (Int × Int) × RS
  | 0, l, s => (l, s)
  | n + 1, l, s => if s.err = 0 then gonGo bs n (l ++ [(dotS bs s).1]) (dotS bs s).2 else (l, s)
def r1 (bs : List Nat) (s : RS) := dotS bs s
def r2 (bs : List Nat) (s : RS) := numS bs 1099511627776 (r1 bs s).2
def r3 (bs : List Nat) (s : RS) := numS bs 2 (r2 bs s).2
def r4 (bs : List Nat) (s : RS) := textS bs 12 (r3 bs s).2
def r5 (bs : List Nat) (s : RS) := numS bs 4 (r4 bs s).2
def r6 (bs : List Nat) (s : RS) := textS bs 160 (r5 bs s).2
def r7 (bs : List Nat) (s : RS) := numS bs 120 (r6 bs s).2
def r8 (bs : List Nat) (s : RS) := gonGo bs (r7 bs s).1 [] (r7 bs s).2
def evRaw (bs : List Nat) (s : RS) : Ev := ⟨(r1 bs s).1, (r2 bs s).1, (r3 bs s).1, (r4 bs s).1, (r5 bs s).1, (r6 bs s).1, (r8 bs s).1⟩
def zeroEv : Ev := ⟨(0, 0), 0, 0, ⟨#[]⟩, 0, ⟨#[]⟩, []⟩
/-- An event, read. -/
def evS (bs : List Nat) (s : RS) : Ev × RS := if (r8 bs s).2.err ≠ 0 then (zeroEv, (r8 bs s).2) else if chk (evRaw bs s) ≠ 0 then (zeroEv, (r8 bs s).2.fail 3) else (evRaw bs s, (r8 bs s).2)
end Go.Proofs.Ytlljgefgbglmbaa
