/- The law of AllLimits holds for all arguments. No condition. -/
import Derived.Test.YtpmjlhbglcaokaaZ11
import Derived.Test.YtpmjlhbglcaokaaRows
import Derived.Test.YtpmjlhbglcaokaaChecked
import Derived.ProofKit
namespace Go.Proofs.Ytpmjlhbglcaokaa
open Go Go.GL Go.ChangeShapes Go.WideShapes Go.ChangeAt Go.RowKit
theorem ownAllLimits : ownKnob Try.prog.godebug = none := by kernel_rfl
theorem laidAllLimits : laidOutB Try.prog = true := by kernel_rfl
set_option maxRecDepth 100000 in
theorem allLimits_lifted (os : Os) (started : os.Started) (H : Type) (enc : TypeId × Value → H) :
    ReturnsInHanded {} Try.checked os 5 .any (Rows.fnExactAllLimitsSpec.pre6 enc Try.prog Try.f5 Rows.fnExactAllLimitsRow.domain false) (Rows.fnExactAllLimitsSpec.post enc Try.prog Try.f5 false true false false) := by
  refine returnsInHanded_of_change (C := Try.checked) ownAllLimits started (by kernel_rfl) Try.func5
    (ChangeSpec.witness6 (enc := enc) (C := Try.checked) false ⟨#[], #[.agg #[.int .i64 0, .slice none 0 0, .slice none 0 0, .slice none 0 0, .slice none 0 0, .int .i64 0, .slice none 0 0, .slice none 0 0, .slice none 0 0, .slice none 0 0, .slice none 0 0, .slice none 0 0]], []⟩ 12 (by kernel_rfl) (by kernel_rfl) (by kernel_rfl) (by kernel_rfl)) ?_
  intro W base args ds gs before hval hW _ _
  exact law_calls (ts := [27]) (.cons (imp1_struct (cells := Fun.cells) (I := Fun.In) (W := Fun.Wide) Fun.In.mono (import_fun (by kernel_rfl)) (by kernel_rfl)) .nil) rfl (fun H gs h => by
    obtain ⟨_, _, rfl, ⟨c0, p0, rfl, h0, w0⟩, rfl⟩ := h
    exact lawAllLimits_c h0 w0) hval hW laidAllLimits (by kernel_rfl) rfl rfl (by kernel_rfl) (fun ds h => by
    match ds, h with
    | [_], _ => exact ⟨rfl, rfl, rfl⟩)
theorem allLimits_f1 : (Try.pinned : Pinned).checked.prog.funcNamed Rows.fnExactAllLimitsRow.func = some 5 := by kernel_rfl
theorem allLimits_f2 : joinedFacts (Try.pinned : Pinned).checked.prog 5 Try.f5 Rows.fnExactAllLimitsSpec Rows.fnExactAllLimitsRow = true := by kernel_rfl
theorem allLimits_f3 : Try.f5.isInstance (Try.pinned : Pinned).checked.prog Rows.fnExactAllLimitsRow.origin Rows.fnExactAllLimitsRow.targs := of_decide_eq_true (by kernel_rfl)
theorem allLimits_f4 : Try.f5.isWrapper (Try.pinned : Pinned).checked.prog Rows.fnExactAllLimitsRow.wrapper Rows.fnExactAllLimitsRow.mainSum := by unfold Func.isWrapper; first | (rw [if_pos (by decide +kernel)]; kernel_rfl) | (rw [if_neg (by decide +kernel)]; exact ⟨rfl, rfl⟩)
theorem allLimits_holds : Rows.FnExactAllLimitsSaid :=
  OpenClaim.holds_of_wide 5 Try.f5 rfl rfl rfl rfl rfl rfl rfl ⟨rfl, rfl, rfl, rfl, rfl⟩ rfl rfl rfl rfl rfl allLimits_f1 Try.func5 allLimits_f2
    allLimits_f3 allLimits_f4 (fun os started H enc _ => allLimits_lifted os started H enc)
#print axioms allLimits_holds
end Go.Proofs.Ytpmjlhbglcaokaa
