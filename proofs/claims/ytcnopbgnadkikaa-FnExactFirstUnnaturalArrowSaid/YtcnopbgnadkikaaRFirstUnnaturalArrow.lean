/- The law of FirstUnnaturalArrow holds for all arguments. No condition. -/
import Derived.Test.YtcnopbgnadkikaaQ
import Derived.Test.YtcnopbgnadkikaaGlS
import Derived.Test.YtcnopbgnadkikaaGlV
import Derived.Test.YtcnopbgnadkikaaRows
import Derived.Test.YtcnopbgnadkikaaChecked
import Derived.ProofKit
namespace Go.Proofs.Ytcnopbgnadkikaa
open Go Go.GL Go.ChangeShapes Go.WideShapes Go.ChangeAt Go.RowKit
theorem ownFirstUnnaturalArrow : ownKnob Try.prog.godebug = none := by kernel_rfl
theorem laidFirstUnnaturalArrow : laidOutB Try.prog = true := by kernel_rfl
set_option maxRecDepth 100000 in
theorem firstUnnaturalArrow_lifted (os : Os) (started : os.Started) (H : Type) (enc : TypeId × Value → H) :
    ReturnsInHanded {} Try.checked os 5 .any (Rows.fnExactFirstUnnaturalArrowSpec.pre6 enc Try.prog Try.f5 Rows.fnExactFirstUnnaturalArrowRow.domain false) (Rows.fnExactFirstUnnaturalArrowSpec.post enc Try.prog Try.f5 false true false false) := by
  refine returnsInHanded_of_change (C := Try.checked) ownFirstUnnaturalArrow started (by kernel_rfl) Try.func5
    (ChangeSpec.witness6 (enc := enc) (C := Try.checked) false ⟨#[], #[.agg #[.int .i64 0, .slice none 0 0, .slice none 0 0, .slice none 0 0, .slice none 0 0, .slice none 0 0, .slice none 0 0, .int .i64 0, .slice none 0 0, .slice none 0 0, .slice none 0 0, .slice none 0 0, .slice none 0 0, .slice none 0 0, .slice none 0 0]], []⟩ 12 (by kernel_rfl) (by kernel_rfl) (by kernel_rfl) (by kernel_rfl)) ?_
  intro W base args ds gs before hval hW _ _
  exact law_calls (ts := [45]) (.cons (imp1_struct (cells := SMap.cells) (I := SMap.In) (W := SMap.Wide) SMap.In.mono (import_smap (by kernel_rfl)) (by kernel_rfl)) .nil) rfl (fun H gs h => by
    obtain ⟨_, _, rfl, ⟨c0, p0, rfl, h0, w0⟩, rfl⟩ := h
    exact lawFirstUnnaturalArrow_c h0 w0) hval hW laidFirstUnnaturalArrow (by kernel_rfl) rfl rfl (by kernel_rfl) (fun ds h => by
    match ds, h with
    | [_], _ => exact ⟨rfl, rfl, rfl⟩)
theorem firstUnnaturalArrow_holds : Rows.FnExactFirstUnnaturalArrowSaid :=
  OpenClaim.holds_of_wide 5 Try.f5 rfl rfl rfl rfl rfl rfl rfl ⟨rfl, rfl, rfl, rfl, rfl⟩ rfl rfl rfl rfl rfl (by kernel_rfl) Try.func5 (by kernel_rfl)
    (of_decide_eq_true (by kernel_rfl)) (by unfold Func.isWrapper; first | (rw [if_pos (by decide +kernel)]; kernel_rfl) | (rw [if_neg (by decide +kernel)]; exact ⟨rfl, rfl⟩))
    (fun os started H enc _ => firstUnnaturalArrow_lifted os started H enc)
#print axioms firstUnnaturalArrow_holds
end Go.Proofs.Ytcnopbgnadkikaa
