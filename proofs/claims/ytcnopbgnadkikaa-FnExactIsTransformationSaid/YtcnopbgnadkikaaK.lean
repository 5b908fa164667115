/- The law of IsTransformation holds for all arguments. No condition. -/
import Derived.Test.YtcnopbgnadkikaaJ
import Derived.Test.YtcnopbgnadkikaaRows
import Derived.Test.YtcnopbgnadkikaaChecked
import Derived.ProofKit
namespace Go.Proofs.Ytcnopbgnadkikaa
open Go Go.GL Go.ChangeShapes Go.WideShapes Go.ChangeAt Go.RowKit
theorem own : ownKnob Try.prog.godebug = none := by kernel_rfl
theorem laid : laidOutB Try.prog = true := by kernel_rfl
set_option maxRecDepth 100000 in
theorem isTransformation_lifted (os : Os) (started : os.Started) (H : Type) (enc : TypeId × Value → H) :
    ReturnsInHanded {} Try.checked os 3 .any (Rows.fnExactIsTransformationSpec.pre6 enc Try.prog Try.f3 Rows.fnExactIsTransformationRow.domain false) (Rows.fnExactIsTransformationSpec.post enc Try.prog Try.f3 false true false false) := by
  refine returnsInHanded_of_change (C := Try.checked) own started (by kernel_rfl) Try.func3
    (ChangeSpec.witness6 (enc := enc) (C := Try.checked) false ⟨#[], #[.agg #[.int .i64 0, .slice none 0 0, .slice none 0 0, .slice none 0 0, .slice none 0 0, .int .i64 0, .slice none 0 0, .slice none 0 0, .slice none 0 0, .slice none 0 0, .slice none 0 0, .slice none 0 0, .int .i64 0, .slice none 0 0, .slice none 0 0, .slice none 0 0, .slice none 0 0, .int .i64 0, .slice none 0 0, .slice none 0 0, .slice none 0 0, .slice none 0 0, .slice none 0 0, .slice none 0 0, .slice none 0 0]], []⟩ 12 (by kernel_rfl) (by kernel_rfl) (by kernel_rfl) (by kernel_rfl)) ?_
  intro W base args ds gs before hval hW _ _
  exact law_calls1 (t := 29) (R := RTra) (import_tra (by kernel_rfl)) (by kernel_rfl) rfl
    (fun ρ H cs ⟨m, p, h1, h2, h3⟩ => ⟨_, h1, lawIsTransformation_c h2 h3⟩) hval hW laid (by kernel_rfl) rfl rfl (by kernel_rfl) (fun d => ⟨rfl, rfl, rfl⟩)
theorem isTransformation_holds : Rows.FnExactIsTransformationSaid :=
  OpenClaim.holds_of_wide 3 Try.f3 rfl rfl rfl rfl rfl rfl rfl ⟨rfl, rfl, rfl, rfl, rfl⟩ rfl rfl rfl rfl rfl (by kernel_rfl) Try.func3 (by kernel_rfl)
    (of_decide_eq_true (by kernel_rfl)) (by unfold Func.isWrapper; first | (rw [if_pos (by decide +kernel)]; kernel_rfl) | (rw [if_neg (by decide +kernel)]; exact ⟨rfl, rfl⟩))
    (fun os started H enc _ => isTransformation_lifted os started H enc)
#print axioms isTransformation_holds
end Go.Proofs.Ytcnopbgnadkikaa
