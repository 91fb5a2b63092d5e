/- 'PastLists' (P13.2): any events' bytes behind any others, and at most so many events of any bytes. Proved of every input: true, and the arguments read as they did. -/
import Derived.Test.YtomchclmnmhjaaaELI
import Derived.Test.YtomchclmnmhjaaaRows
import Derived.WalkKit
import Derived.ProofKit
import Derived.OpenShut
set_option linter.unusedVariables false
namespace Go.Proofs.Ytomchclmnmhjaaa.pastLists
open Go Go.ChangeShapes Go.WideShapes Go.ChangeAt Go.RowKit GoV

theorem own : ownKnob Try.prog.godebug = none := by kernel_rfl
theorem answers (H : Type) (ds : List (DataW H)) (h : ds.length = [byteSh, evsSh, byteSh, iSh].length) : Rows.pastListsSpec.fn H ds = { results := [.lit (.bool true)], args := ds } := by
  rcases ds with _ | ⟨a4, _ | ⟨a3, _ | ⟨a2, _ | ⟨a1, _ | ⟨a0, _⟩⟩⟩⟩⟩ <;> simp at h
  rfl
set_option maxRecDepth 100000 in
theorem lifted (os : Os) (started : os.Started) (H : Type) (enc : TypeId × Value → H) :
    ReturnsInHanded {} Try.checked os 16 .any (Rows.pastListsSpec.pre6 enc Try.prog Try.f16 Rows.pastListsRow.domain false) (Rows.pastListsSpec.post enc Try.prog Try.f16 false true false false) := by
  refine returnsInHanded_of_change_sized (C := Try.checked) own started (by kernel_rfl) Try.func16
    (ChangeSpec.witness6 (enc := enc) (C := Try.checked) false ⟨#[], #[.slice none 0 0, .slice none 0 0, .slice none 0 0, .int .i64 0], []⟩ 8 (by kernel_rfl) (by kernel_rfl) (by kernel_rfl) (by kernel_rfl)) ?_
  intro W base args ds gs before hval hW _ hwt _
  exact law_contract mixed tab_ok pr_ok (by kernel_rfl) (fn := Try.f16) (shs := [byteSh, evsSh, byteSh, iSh]) (by kernel_rfl) (by kernel_rfl) (by kernel_rfl) Try.underlying4 rfl answers lawV hval hW hwt

theorem over : Rows.pastListsRow.holds Try.pinned (OpenSpec.ofChange Rows.pastListsSpec) :=
  OpenClaim.holds_of_wide 16 Try.f16 rfl rfl rfl rfl rfl rfl rfl ⟨rfl, rfl, rfl, rfl, rfl⟩ rfl rfl rfl rfl rfl (by kernel_rfl) Try.func16 (by kernel_rfl)
    (of_decide_eq_true (by kernel_rfl)) (by unfold Func.isWrapper; first | (rw [if_pos (by decide +kernel)]; kernel_rfl) | (rw [if_neg (by decide +kernel)]; exact ⟨rfl, rfl⟩))
    (fun os started H enc _ => lifted os started H enc)

/-- THE STATEMENT. -/
theorem proved : Rows.PastListsSaid := over
#print axioms proved
end Go.Proofs.Ytomchclmnmhjaaa.pastLists
