/- The law of AllTransformations holds for all arguments. No condition. -/
import Derived.Test.YtnohkokoimmclaaZ11
import Derived.Test.YtnohkokoimmclaaRows
import Derived.Test.YtnohkokoimmclaaChecked
import Derived.ProofKit
namespace Go.Proofs.Ytnohkokoimmclaa
open Go Go.GL Go.ChangeShapes Go.WideShapes Go.ChangeAt Go.RowKit
theorem ownAllTransformations : ownKnob Try.prog.godebug = none := by kernel_rfl
theorem laidAllTransformations : laidOutB Try.prog = true := by kernel_rfl
set_option maxRecDepth 100000 in
theorem allTransformations_lifted (os : Os) (started : os.Started) (H : Type) (enc : TypeId × Value → H) :
    ReturnsInHanded {} Try.checked os 3 .any (Rows.fnExactAllTransformationsSpec.pre6 enc Try.prog Try.f3 Rows.fnExactAllTransformationsRow.domain false) (Rows.fnExactAllTransformationsSpec.post enc Try.prog Try.f3 false true false false) := by
  refine returnsInHanded_of_change (C := Try.checked) ownAllTransformations started (by kernel_rfl) Try.func3
    (ChangeSpec.witness6 (enc := enc) (C := Try.checked) false ⟨#[], #[.agg #[.int .i64 0, .slice none 0 0, .slice none 0 0, .slice none 0 0, .slice none 0 0, .int .i64 0, .slice none 0 0, .slice none 0 0, .slice none 0 0, .slice none 0 0, .slice none 0 0, .slice none 0 0], .agg #[.int .i64 0, .slice none 0 0, .slice none 0 0, .slice none 0 0, .slice none 0 0, .int .i64 0, .slice none 0 0, .slice none 0 0, .slice none 0 0, .slice none 0 0, .slice none 0 0, .slice none 0 0]], []⟩ 12 (by kernel_rfl) (by kernel_rfl) (by kernel_rfl) (by kernel_rfl)) ?_
  intro W base args ds gs before hval hW _ _
  exact law_calls (ts := [27, 27]) (.cons (imp1_struct (cells := Fun.cells) (I := Fun.In) (W := Fun.Wide) Fun.In.mono (import_fun (by kernel_rfl)) (by kernel_rfl)) (.cons (imp1_struct (cells := Fun.cells) (I := Fun.In) (W := Fun.Wide) Fun.In.mono (import_fun (by kernel_rfl)) (by kernel_rfl)) .nil)) rfl (fun H gs h => by
    obtain ⟨_, _, rfl, ⟨c0, p0, rfl, h0, w0⟩, ⟨_, _, rfl, ⟨c1, p1, rfl, h1, w1⟩, rfl⟩⟩ := h
    exact lawAllTransformations_c h0 w0 h1 w1) hval hW laidAllTransformations (by kernel_rfl) rfl rfl (by kernel_rfl) (fun ds h => by
    match ds, h with
    | [_, _], _ => exact ⟨rfl, rfl, rfl⟩)
theorem allTransformations_f1 : (Try.pinned : Pinned).checked.prog.funcNamed Rows.fnExactAllTransformationsRow.func = some 3 := by kernel_rfl
theorem allTransformations_f2 : joinedFacts (Try.pinned : Pinned).checked.prog 3 Try.f3 Rows.fnExactAllTransformationsSpec Rows.fnExactAllTransformationsRow = true := by kernel_rfl
theorem allTransformations_f3 : Try.f3.isInstance (Try.pinned : Pinned).checked.prog Rows.fnExactAllTransformationsRow.origin Rows.fnExactAllTransformationsRow.targs := of_decide_eq_true (by kernel_rfl)
theorem allTransformations_f4 : Try.f3.isWrapper (Try.pinned : Pinned).checked.prog Rows.fnExactAllTransformationsRow.wrapper Rows.fnExactAllTransformationsRow.mainSum := by unfold Func.isWrapper; first | (rw [if_pos (by decide +kernel)]; kernel_rfl) | (rw [if_neg (by decide +kernel)]; exact ⟨rfl, rfl⟩)
theorem allTransformations_holds : Rows.FnExactAllTransformationsSaid :=
  OpenClaim.holds_of_wide 3 Try.f3 rfl rfl rfl rfl rfl rfl rfl ⟨rfl, rfl, rfl, rfl, rfl⟩ rfl rfl rfl rfl rfl allTransformations_f1 Try.func3 allTransformations_f2
    allTransformations_f3 allTransformations_f4 (fun os started H enc _ => allTransformations_lifted os started H enc)
#print axioms allTransformations_holds
end Go.Proofs.Ytnohkokoimmclaa
