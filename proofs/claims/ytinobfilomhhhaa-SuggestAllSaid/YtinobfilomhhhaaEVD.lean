/- Which events may be, and their bytes: gone through. -/
import Derived.Test.YtinobfilomhhhaaEVA
set_option linter.unusedSimpArgs false
set_option linter.unusedVariables false
set_option maxRecDepth 100000
set_option maxHeartbeats 1000000
set_option cbv.maxSteps 10000000
namespace Go.Proofs.Ytinobfilomhhhaa
open Go GoV

structure Ev where
  d : Int × Int
  t : Int
  k : Int
  doc : ByteArray
  f : Int
  txt : ByteArray
  gone : List (Int × Int)
/-! ### An event's bytes -/
def textB (s : ByteArray) : List Nat := enc s.size ++ sbl s
theorem textB_len (s : ByteArray) : (textB s).length ≤ s.size + 9 := by
  unfold textB; rw [List.length_append, enc_len, sbl_len]; have := nd_le s.size; omega
end Go.Proofs.Ytinobfilomhhhaa
