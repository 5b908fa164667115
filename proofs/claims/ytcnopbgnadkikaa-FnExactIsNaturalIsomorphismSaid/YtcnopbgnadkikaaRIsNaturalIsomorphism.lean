/- The law of IsNaturalIsomorphism holds for all arguments. No condition. -/
import Derived.Test.YtcnopbgnadkikaaM
import Derived.Test.YtcnopbgnadkikaaGlS
import Derived.Test.YtcnopbgnadkikaaRows
import Derived.Test.YtcnopbgnadkikaaChecked
import Derived.ProofKit
namespace Go.Proofs.Ytcnopbgnadkikaa
open Go Go.GL Go.ChangeShapes Go.WideShapes Go.ChangeAt Go.RowKit
theorem ownIsNaturalIsomorphism : ownKnob Try.prog.godebug = none := by kernel_rfl
theorem laidIsNaturalIsomorphism : laidOutB Try.prog = true := by kernel_rfl
set_option maxRecDepth 100000 in
theorem isNaturalIsomorphism_lifted (os : Os) (started : os.Started) (H : Type) (enc : TypeId × Value → H) :
    ReturnsInHanded {} Try.checked os 6 .any (Rows.fnExactIsNaturalIsomorphismSpec.pre6 enc Try.prog Try.f6 Rows.fnExactIsNaturalIsomorphismRow.domain false) (Rows.fnExactIsNaturalIsomorphismSpec.post enc Try.prog Try.f6 false true false false) := by
  refine returnsInHanded_of_change (C := Try.checked) ownIsNaturalIsomorphism started (by kernel_rfl) Try.func6
    (ChangeSpec.witness6 (enc := enc) (C := Try.checked) false ⟨#[], #[.agg #[.int .i64 0, .slice none 0 0, .slice none 0 0, .slice none 0 0, .slice none 0 0, .int .i64 0, .slice none 0 0, .slice none 0 0, .slice none 0 0, .slice none 0 0, .slice none 0 0, .slice none 0 0, .int .i64 0, .slice none 0 0, .slice none 0 0, .slice none 0 0, .slice none 0 0, .int .i64 0, .slice none 0 0, .slice none 0 0, .slice none 0 0, .slice none 0 0, .slice none 0 0, .slice none 0 0, .slice none 0 0]], []⟩ 12 (by kernel_rfl) (by kernel_rfl) (by kernel_rfl) (by kernel_rfl)) ?_
  intro W base args ds gs before hval hW _ _
  exact law_calls (ts := [29]) (.cons (imp1_struct (cells := Tra.cells) (I := Tra.In) (W := Tra.Wide) Tra.In.mono (import_tra (by kernel_rfl)) (by kernel_rfl)) .nil) rfl (fun H gs h => by
    obtain ⟨_, _, rfl, ⟨c0, p0, rfl, h0, w0⟩, rfl⟩ := h
    exact lawIsNaturalIsomorphism_c h0 w0) hval hW laidIsNaturalIsomorphism (by kernel_rfl) rfl rfl (by kernel_rfl) (fun ds h => by
    match ds, h with
    | [_], _ => exact ⟨rfl, rfl, rfl⟩)
theorem isNaturalIsomorphism_holds : Rows.FnExactIsNaturalIsomorphismSaid :=
  OpenClaim.holds_of_wide 6 Try.f6 rfl rfl rfl rfl rfl rfl rfl ⟨rfl, rfl, rfl, rfl, rfl⟩ rfl rfl rfl rfl rfl (by kernel_rfl) Try.func6 (by kernel_rfl)
    (of_decide_eq_true (by kernel_rfl)) (by unfold Func.isWrapper; first | (rw [if_pos (by decide +kernel)]; kernel_rfl) | (rw [if_neg (by decide +kernel)]; exact ⟨rfl, rfl⟩))
    (fun os started H enc _ => isNaturalIsomorphism_lifted os started H enc)
#print axioms isNaturalIsomorphism_holds
end Go.Proofs.Ytcnopbgnadkikaa
