/- The law of LimitOf holds for all arguments. No condition. -/
import Derived.Test.YtpmjlhbglcaokaaZ11
import Derived.Test.YtpmjlhbglcaokaaRows
import Derived.Test.YtpmjlhbglcaokaaChecked
import Derived.ProofKit
namespace Go.Proofs.Ytpmjlhbglcaokaa
open Go Go.GL Go.ChangeShapes Go.WideShapes Go.ChangeAt Go.RowKit
theorem ownLimitOf : ownKnob Try.prog.godebug = none := by kernel_rfl
theorem laidLimitOf : laidOutB Try.prog = true := by kernel_rfl
set_option maxRecDepth 100000 in
theorem limitOf_lifted (os : Os) (started : os.Started) (H : Type) (enc : TypeId × Value → H) :
    ReturnsInHanded {} Try.checked os 4 .any (Rows.fnExactLimitOfSpec.pre6 enc Try.prog Try.f4 Rows.fnExactLimitOfRow.domain false) (Rows.fnExactLimitOfSpec.post enc Try.prog Try.f4 false true false false) := by
  refine returnsInHanded_of_change (C := Try.checked) ownLimitOf started (by kernel_rfl) Try.func4
    (ChangeSpec.witness6 (enc := enc) (C := Try.checked) false ⟨#[], #[.agg #[.int .i64 0, .slice none 0 0, .slice none 0 0, .slice none 0 0, .slice none 0 0, .int .i64 0, .slice none 0 0, .slice none 0 0, .slice none 0 0, .slice none 0 0, .slice none 0 0, .slice none 0 0]], []⟩ 12 (by kernel_rfl) (by kernel_rfl) (by kernel_rfl) (by kernel_rfl)) ?_
  intro W base args ds gs before hval hW _ _
  exact law_calls (ts := [27]) (.cons (imp1_struct (cells := Fun.cells) (I := Fun.In) (W := Fun.Wide) Fun.In.mono (import_fun (by kernel_rfl)) (by kernel_rfl)) .nil) rfl (fun H gs h => by
    obtain ⟨_, _, rfl, ⟨c0, p0, rfl, h0, w0⟩, rfl⟩ := h
    exact lawLimitOf_c h0 w0) hval hW laidLimitOf (by kernel_rfl) rfl rfl (by kernel_rfl) (fun ds h => by
    match ds, h with
    | [_], _ => exact ⟨rfl, rfl, rfl⟩)
theorem limitOf_f1 : (Try.pinned : Pinned).checked.prog.funcNamed Rows.fnExactLimitOfRow.func = some 4 := by kernel_rfl
theorem limitOf_f2 : joinedFacts (Try.pinned : Pinned).checked.prog 4 Try.f4 Rows.fnExactLimitOfSpec Rows.fnExactLimitOfRow = true := by kernel_rfl
theorem limitOf_f3 : Try.f4.isInstance (Try.pinned : Pinned).checked.prog Rows.fnExactLimitOfRow.origin Rows.fnExactLimitOfRow.targs := of_decide_eq_true (by kernel_rfl)
theorem limitOf_f4 : Try.f4.isWrapper (Try.pinned : Pinned).checked.prog Rows.fnExactLimitOfRow.wrapper Rows.fnExactLimitOfRow.mainSum := by unfold Func.isWrapper; first | (rw [if_pos (by decide +kernel)]; kernel_rfl) | (rw [if_neg (by decide +kernel)]; exact ⟨rfl, rfl⟩)
theorem limitOf_holds : Rows.FnExactLimitOfSaid :=
  OpenClaim.holds_of_wide 4 Try.f4 rfl rfl rfl rfl rfl rfl rfl ⟨rfl, rfl, rfl, rfl, rfl⟩ rfl rfl rfl rfl rfl limitOf_f1 Try.func4 limitOf_f2
    limitOf_f3 limitOf_f4 (fun os started H enc _ => limitOf_lifted os started H enc)
#print axioms limitOf_holds
end Go.Proofs.Ytpmjlhbglcaokaa
