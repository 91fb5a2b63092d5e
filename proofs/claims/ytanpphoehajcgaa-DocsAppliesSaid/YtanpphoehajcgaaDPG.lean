/- 'DocsApplies' (P12.2): any state behind any event: as the reference says, and it can be. Proved of every input: true, and the arguments read as they did. -/
import Derived.Test.YtanpphoehajcgaaDPF
import Derived.Test.YtanpphoehajcgaaRows
import Derived.WalkKit
import Derived.ProofKit
import Derived.OpenShut
set_option linter.unusedVariables false
namespace Go.Proofs.Ytanpphoehajcgaa.docsApplies
open Go Go.ChangeShapes Go.WideShapes Go.ChangeAt Go.RowKit GoV

theorem own : ownKnob Try.prog.godebug = none := by kernel_rfl
theorem answers (H : Type) (ds : List (DataW H)) (h : ds.length = [stateSh, evSh].length) : Rows.docsAppliesSpec.fn H ds = { results := [.lit (.bool true)], args := ds } := by
  rcases ds with _ | ⟨a2, _ | ⟨a1, _ | ⟨a0, _⟩⟩⟩ <;> simp at h
  rfl
set_option maxRecDepth 100000 in
theorem lifted (os : Os) (started : os.Started) (H : Type) (enc : TypeId × Value → H) :
    ReturnsInHanded {} Try.checked os 4 .any (Rows.docsAppliesSpec.pre6 enc Try.prog Try.f4 Rows.docsAppliesRow.domain false) (Rows.docsAppliesSpec.post enc Try.prog Try.f4 false true false false) := by
  refine returnsInHanded_of_change_sized (C := Try.checked) own started (by kernel_rfl) Try.func4
    (ChangeSpec.witness6 (enc := enc) (C := Try.checked) false ⟨#[], #[.agg #[.int .i64 0, .int .i64 0, .int .i64 0, .int .i64 0, .int .i64 0, .int .i64 0, .int .i64 0, .int .i64 0, .int .i64 0, .int .i64 0, .int .i64 0, .int .i64 0, .int .i64 0, .int .i64 0, .int .i64 0, .int .i64 0, .int .i64 0, .int .i64 0, .int .i64 0, .int .i64 0, .int .i64 0, .int .i64 0, .int .i64 0, .int .i64 0, .int .i64 0, .int .i64 0, .int .i64 0, .int .i64 0, .int .i64 0, .int .i64 0, .int .i64 0, .int .i64 0, .int .i64 0, .int .i64 0, .int .i64 0, .int .i64 0, .int .i64 0, .int .i64 0, .int .i64 0, .int .i64 0, .int .i64 0, .int .i64 0, .int .i64 0, .int .i64 0, .int .i64 0, .int .i64 0, .int .i64 0, .int .i64 0, .int .i64 0, .int .i64 0, .int .i64 0, .int .i64 0, .int .i64 0, .int .i64 0, .int .i64 0, .int .i64 0, .int .i64 0, .int .i64 0, .int .i64 0, .int .i64 0, .int .i64 0, .int .i64 0, .int .i64 0, .int .i64 0, .slice none 0 0], .agg #[.int .i64 0, .int .i64 0, .int .i64 0, .int .i64 0, .string ⟨#[]⟩, .int .i64 0, .string ⟨#[]⟩, .slice none 0 0]], []⟩ 8 (by kernel_rfl) (by kernel_rfl) (by kernel_rfl) (by kernel_rfl)) ?_
  intro W base args ds gs before hval hW _ hwt _
  exact law_contract mixed tab_ok prJ_ok (by kernel_rfl) (fn := Try.f4) (shs := [stateSh, evSh]) (by kernel_rfl) (by kernel_rfl) (by kernel_rfl) Try.underlying4 rfl answers lawA hval hW hwt

theorem over : Rows.docsAppliesRow.holds Try.pinned (OpenSpec.ofChange Rows.docsAppliesSpec) :=
  OpenClaim.holds_of_wide 4 Try.f4 rfl rfl rfl rfl rfl rfl rfl ⟨rfl, rfl, rfl, rfl, rfl⟩ rfl rfl rfl rfl rfl (by kernel_rfl) Try.func4 (by kernel_rfl)
    (of_decide_eq_true (by kernel_rfl)) (by unfold Func.isWrapper; first | (rw [if_pos (by decide +kernel)]; kernel_rfl) | (rw [if_neg (by decide +kernel)]; exact ⟨rfl, rfl⟩))
    (fun os started H enc _ => lifted os started H enc)

/-- THE STATEMENT. -/
theorem proved : Rows.DocsAppliesSaid := over
#print axioms proved
end Go.Proofs.Ytanpphoehajcgaa.docsApplies
