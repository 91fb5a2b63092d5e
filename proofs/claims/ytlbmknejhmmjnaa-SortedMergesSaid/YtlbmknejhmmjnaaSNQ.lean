/- Lists in order as one, those that stand alike as they stood (SortedMerges). Proved of every input: true, and the arguments read as they did. -/
import Derived.Test.YtlbmknejhmmjnaaSNM
import Derived.Test.YtlbmknejhmmjnaaRows
import Derived.WalkKit
import Derived.ProofKit
import Derived.OpenShut
set_option linter.unusedVariables false
namespace Go.Proofs.Ytlbmknejhmmjnaa.sortedMerges
open Go Go.ChangeShapes Go.WideShapes Go.ChangeAt Go.RowKit GoV

theorem own : ownKnob Try.prog.godebug = none := by kernel_rfl
theorem answers (H : Type) (ds : List (DataW H)) (h : ds.length = [Sh.sl (.sl iSh 8) 24].length) : Rows.sortedMergesSpec.fn H ds = { results := [.lit (.bool true)], args := ds } := by
  rcases ds with _ | ⟨a1, _ | ⟨a0, _⟩⟩ <;> simp at h
  rfl
set_option maxRecDepth 100000 in
theorem lifted (os : Os) (started : os.Started) (H : Type) (enc : TypeId × Value → H) :
    ReturnsInHanded {} Try.checked os 3 .any (Rows.sortedMergesSpec.pre6 enc Try.prog Try.f3 Rows.sortedMergesRow.domain false) (Rows.sortedMergesSpec.post enc Try.prog Try.f3 false true false false) := by
  refine returnsInHanded_of_change_sized (C := Try.checked) own started (by kernel_rfl) Try.func3
    (ChangeSpec.witness6 (enc := enc) (C := Try.checked) false ⟨#[], #[.slice none 0 0], []⟩ 8 (by kernel_rfl) (by kernel_rfl) (by kernel_rfl) (by kernel_rfl)) ?_
  intro W base args ds gs before hval hW _ hwt _
  exact law_contract mixed tab_ok pr_ok (by kernel_rfl) (fn := Try.f3) (shs := [Sh.sl (.sl iSh 8) 24]) (by kernel_rfl) (by kernel_rfl) (by kernel_rfl) Try.underlying4 rfl answers lawV hval hW hwt

theorem over : Rows.sortedMergesRow.holds Try.pinned (OpenSpec.ofChange Rows.sortedMergesSpec) :=
  OpenClaim.holds_of_wide 3 Try.f3 rfl rfl rfl rfl rfl rfl rfl ⟨rfl, rfl, rfl, rfl, rfl⟩ rfl rfl rfl rfl rfl (by kernel_rfl) Try.func3 (by kernel_rfl)
    (of_decide_eq_true (by kernel_rfl)) (by unfold Func.isWrapper; first | (rw [if_pos (by decide +kernel)]; kernel_rfl) | (rw [if_neg (by decide +kernel)]; exact ⟨rfl, rfl⟩))
    (fun os started H enc _ => lifted os started H enc)

/-- THE STATEMENT. -/
theorem proved : Rows.SortedMergesSaid := over
#print axioms proved
end Go.Proofs.Ytlbmknejhmmjnaa.sortedMerges
