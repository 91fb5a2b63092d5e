/- An event of any bytes is read: gone through. -/
import Derived.Test.YtanpphoehajcgaaGreatEVE
set_option linter.unusedSimpArgs false
set_option linter.unusedVariables false
set_option maxRecDepth 100000
set_option maxHeartbeats 2000000
set_option cbv.maxSteps 10000000
namespace Go.Proofs.YtanpphoehajcgaaGreat
open Go GoV

theorem textS_ee {bs : List Nat} {most : Int} {f : Bool} {e : Int} : textS bs most (.er f e) = (⟨#[]⟩, .er f e) := rfl
def r1 (bs : List Nat) (s : RS) := dotS bs s
def r2 (bs : List Nat) (s : RS) := numS bs 1099511627776 (r1 bs s).2
def r3 (bs : List Nat) (s : RS) := numS bs 2 (r2 bs s).2
def r4 (bs : List Nat) (s : RS) := textS bs 12 (r3 bs s).2
def r5 (bs : List Nat) (s : RS) := numS bs 4 (r4 bs s).2
theorem textS_size {bs : List Nat} {most : Int} {s : RS} : (textS bs most s).1.size ≤ bs.length := by
  unfold textS
  split
  · exact Nat.zero_le _
  · have : ∀ l : List Nat, (strO l).size = l.length := fun l => by simp [strO, ByteArray.size]
    rw [this, List.length_take, List.length_drop]
    omega
end Go.Proofs.YtanpphoehajcgaaGreat
