/- Which events may be, and their bytes: gone through. -/
import Derived.Test.YtanpphoehajcgaaEVC
set_option linter.unusedSimpArgs false
set_option linter.unusedVariables false
set_option maxRecDepth 100000
set_option maxHeartbeats 1000000
set_option cbv.maxSteps 10000000
namespace Go.Proofs.Ytanpphoehajcgaa
open Go GoV

structure Ev where
  d : Int × Int
  t : Int
  k : Int
  doc : ByteArray
  f : Int
  txt : ByteArray
  gone : List (Int × Int)
abbrev evF (b : Bool) (z : Nat) (e : Ev) : FV := .agg [.iv (.int .i64 e.d.1), .iv (.int .i64 e.d.2), .iv (.int .i64 e.t), .iv (.int .i64 e.k), .iv (.str e.doc), .iv (.int .i64 e.f), .iv (.str e.txt), .iv (.sl b z (eDs e.gone))]
def chk (e : Ev) : Int := if validB e.d = false ∨ e.t < 1 ∨ 1099511627776 < e.t ∨ nameB e.doc = false ∨ goneB e.d e.gone = false then 1 else if e.k = 2 ∧ e.f = 0 ∧ e.txt.size = 0 then 0 else if e.k ≠ 1 then 1 else textC e.f e.txt
/-! ### An event's bytes -/
end Go.Proofs.Ytanpphoehajcgaa
