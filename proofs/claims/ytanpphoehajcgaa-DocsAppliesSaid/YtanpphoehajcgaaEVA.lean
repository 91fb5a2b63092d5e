/- Texts behind bytes, and read: gone through. -/
import Derived.Test.YtanpphoehajcgaaUTE
import Derived.Test.YtanpphoehajcgaaCGS
import Derived.Test.YtanpphoehajcgaaCGK
set_option linter.unusedSimpArgs false
set_option linter.unusedVariables false
set_option maxRecDepth 100000
set_option maxHeartbeats 1000000
set_option cbv.maxSteps 10000000
namespace Go.Proofs.Ytanpphoehajcgaa
open Go GoV

/-- A text's bytes. -/
def sbl (s : ByteArray) : List Nat := s.data.toList.map (·.toNat)
theorem sbl_len (s : ByteArray) : (sbl s).length = s.size := by simp [sbl]
theorem s2b_by8 (s : ByteArray) : real .s2b s = by8 (sbl s) := by
  rw [real_s2b]; simp [by8, sbl]
/-- Bytes as a text. -/
def strO (l : List Nat) : ByteArray := ⟨(l.map fun n => UInt8.ofNat n).toArray⟩
def textS (bs : List Nat) (most : Int) (s : RS) : ByteArray × RS :=
  match takeS (numS bs most s).1 (numS bs most s).2 with
  | (none, s') => (⟨#[]⟩, s')
  | (some o, s') => (strO ((bs.drop o).take (numS bs most s).1), s')
/-! ### Dots -/
abbrev dotF (d : Int × Int) : FV := .agg [.iv (.int .i64 d.1), .iv (.int .i64 d.2)]
def dotS (bs : List Nat) (s : RS) : (Int × Int) × RS := (((numS bs 63 s).1, (numS bs 1073741824 (numS bs 63 s).2).1), (numS bs 1073741824 (numS bs 63 s).2).2)
end Go.Proofs.Ytanpphoehajcgaa
