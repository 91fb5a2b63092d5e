/- Whatever was added, trimmed and collected, one who has the floor is told all that he lacks (PastAll). Proved of every input: true, and the arguments read as they did. -/
import Derived.Test.YtomchclmnmhjaaaPLC
import Derived.Test.YtomchclmnmhjaaaRows
import Derived.WalkKit
import Derived.ProofKit
import Derived.OpenShut
set_option linter.unusedVariables false
namespace Go.Proofs.Ytomchclmnmhjaaa.pastAll
open Go Go.ChangeShapes Go.WideShapes Go.ChangeAt Go.RowKit GoV

theorem own : ownKnob Try.prog.godebug = none := by kernel_rfl
theorem answers (H : Type) (ds : List (DataW H)) (h : ds.length = [.sl evSh 96, iSh, vecSh, vecSh].length) : Rows.pastAllSpec.fn H ds = { results := [.lit (.bool true)], args := ds } := by
  rcases ds with _ | ⟨a4, _ | ⟨a3, _ | ⟨a2, _ | ⟨a1, _ | ⟨a0, _⟩⟩⟩⟩⟩ <;> simp at h
  rfl
set_option maxRecDepth 100000 in
theorem lifted (os : Os) (started : os.Started) (H : Type) (enc : TypeId × Value → H) :
    ReturnsInHanded {} Try.checked os 13 .any (Rows.pastAllSpec.pre6 enc Try.prog Try.f13 Rows.pastAllRow.domain false) (Rows.pastAllSpec.post enc Try.prog Try.f13 false true false false) := by
  refine returnsInHanded_of_change_sized (C := Try.checked) own started (by kernel_rfl) Try.func13
    (ChangeSpec.witness6 (enc := enc) (C := Try.checked) false ⟨#[], #[.slice none 0 0, .int .i64 0, .agg (Array.replicate 64 (.int .i64 0)), .agg (Array.replicate 64 (.int .i64 0))], []⟩ 8 (by kernel_rfl) (by kernel_rfl) (by kernel_rfl) (by kernel_rfl)) ?_
  intro W base args ds gs before hval hW _ hwt _
  exact law_contract mixed tab_ok pr_ok (by kernel_rfl) (fn := Try.f13) (shs := [.sl evSh 96, iSh, vecSh, vecSh]) (by kernel_rfl) (by kernel_rfl) (by kernel_rfl) Try.underlying4 rfl answers lawV hval hW hwt

theorem over : Rows.pastAllRow.holds Try.pinned (OpenSpec.ofChange Rows.pastAllSpec) :=
  OpenClaim.holds_of_wide 13 Try.f13 rfl rfl rfl rfl rfl rfl rfl ⟨rfl, rfl, rfl, rfl, rfl⟩ rfl rfl rfl rfl rfl (by kernel_rfl) Try.func13 (by kernel_rfl)
    (of_decide_eq_true (by kernel_rfl)) (by unfold Func.isWrapper; first | (rw [if_pos (by decide +kernel)]; kernel_rfl) | (rw [if_neg (by decide +kernel)]; exact ⟨rfl, rfl⟩))
    (fun os started H enc _ => lifted os started H enc)

/-- THE STATEMENT. -/
theorem proved : Rows.PastAllSaid := over
#print axioms proved
end Go.Proofs.Ytomchclmnmhjaaa.pastAll
