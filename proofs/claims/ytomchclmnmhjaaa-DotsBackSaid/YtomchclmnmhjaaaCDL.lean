/- 'DotsBack' (P8.5): a vector's bytes are read as it, and nothing behind them. Proved of every input: true, and the arguments read as they did. -/
import Derived.Test.YtomchclmnmhjaaaCDK
import Derived.Test.YtomchclmnmhjaaaRows
import Derived.WalkKit
import Derived.ProofKit
import Derived.OpenShut
set_option linter.unusedVariables false
namespace Go.Proofs.Ytomchclmnmhjaaa.dotsBack
open Go Go.ChangeShapes Go.WideShapes Go.ChangeAt Go.RowKit GoV

theorem own : ownKnob Try.prog.godebug = none := by kernel_rfl
theorem answers (H : Type) (ds : List (DataW H)) (h : ds.length = [vecSh, byteSh].length) : Rows.dotsBackSpec.fn H ds = { results := [.lit (.bool true)], args := ds } := by
  rcases ds with _ | ⟨a2, _ | ⟨a1, _ | ⟨a0, _⟩⟩⟩ <;> simp at h
  rfl
set_option maxRecDepth 100000 in
theorem lifted (os : Os) (started : os.Started) (H : Type) (enc : TypeId × Value → H) :
    ReturnsInHanded {} Try.checked os 9 .any (Rows.dotsBackSpec.pre6 enc Try.prog Try.f9 Rows.dotsBackRow.domain false) (Rows.dotsBackSpec.post enc Try.prog Try.f9 false true false false) := by
  refine returnsInHanded_of_change_sized (C := Try.checked) own started (by kernel_rfl) Try.func9
    (ChangeSpec.witness6 (enc := enc) (C := Try.checked) false ⟨#[], #[.agg (Array.replicate 64 (.int .i64 0)), .slice none 0 0], []⟩ 8 (by kernel_rfl) (by kernel_rfl) (by kernel_rfl) (by kernel_rfl)) ?_
  intro W base args ds gs before hval hW _ hwt _
  exact law_contract mixed tab_ok pr_ok (by kernel_rfl) (fn := Try.f9) (shs := [vecSh, byteSh]) (by kernel_rfl) (by kernel_rfl) (by kernel_rfl) Try.underlying4 rfl answers lawV hval hW hwt

theorem over : Rows.dotsBackRow.holds Try.pinned (OpenSpec.ofChange Rows.dotsBackSpec) :=
  OpenClaim.holds_of_wide 9 Try.f9 rfl rfl rfl rfl rfl rfl rfl ⟨rfl, rfl, rfl, rfl, rfl⟩ rfl rfl rfl rfl rfl (by kernel_rfl) Try.func9 (by kernel_rfl)
    (of_decide_eq_true (by kernel_rfl)) (by unfold Func.isWrapper; first | (rw [if_pos (by decide +kernel)]; kernel_rfl) | (rw [if_neg (by decide +kernel)]; exact ⟨rfl, rfl⟩))
    (fun os started H enc _ => lifted os started H enc)

/-- THE STATEMENT. -/
theorem proved : Rows.DotsBackSaid := over
#print axioms proved
end Go.Proofs.Ytomchclmnmhjaaa.dotsBack
