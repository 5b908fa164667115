/- The law of FnCancelling holds for all arguments. No condition. -/
import Derived.Test.YtolfggcanbpknaaZ12
import Derived.Test.YtolfggcanbpknaaRows
import Derived.Test.YtolfggcanbpknaaChecked
import Derived.ProofKit
namespace Go.Proofs.Ytolfggcanbpknaa
open Go Go.GL Go.ChangeShapes Go.WideShapes Go.ChangeAt Go.RowKit
theorem ownFnCancelling : ownKnob Try.prog.godebug = none := by kernel_rfl
theorem laidFnCancelling : laidOutB Try.prog = true := by kernel_rfl
set_option maxRecDepth 100000 in
theorem fnCancelling_lifted (os : Os) (started : os.Started) (H : Type) (enc : TypeId × Value → H) :
    ReturnsInHanded {} Try.checked os 5 .any (Rows.fnCancellingSpec.pre6 enc Try.prog Try.f5 Rows.fnCancellingRow.domain false) (Rows.fnCancellingSpec.post enc Try.prog Try.f5 false true false false) := by
  refine returnsInHanded_of_change (C := Try.checked) ownFnCancelling started (by kernel_rfl) Try.func5
    (ChangeSpec.witness6 (enc := enc) (C := Try.checked) false ⟨#[], #[.slice none 0 0], []⟩ 12 (by kernel_rfl) (by kernel_rfl) (by kernel_rfl) (by kernel_rfl)) ?_
  intro W base args ds gs before hval hW _ _
  exact law_calls (ts := [22]) (.cons (imp1_code (by kernel_rfl)) .nil) rfl (fun H gs h => by
    obtain ⟨_, _, rfl, ⟨a0, x0, rfl, h0, w0, v0⟩, rfl⟩ := h
    exact lawFnCancelling_c h0 w0 v0) hval hW laidFnCancelling (by kernel_rfl) rfl rfl (by kernel_rfl) (fun ds h => by
    match ds, h with
    | [_], _ => exact ⟨rfl, rfl, rfl⟩)
theorem fnCancelling_f1 : (Try.pinned : Pinned).checked.prog.funcNamed Rows.fnCancellingRow.func = some 5 := by kernel_rfl
theorem fnCancelling_f2 : joinedFacts (Try.pinned : Pinned).checked.prog 5 Try.f5 Rows.fnCancellingSpec Rows.fnCancellingRow = true := by kernel_rfl
theorem fnCancelling_f3 : Try.f5.isInstance (Try.pinned : Pinned).checked.prog Rows.fnCancellingRow.origin Rows.fnCancellingRow.targs := of_decide_eq_true (by kernel_rfl)
theorem fnCancelling_f4 : Try.f5.isWrapper (Try.pinned : Pinned).checked.prog Rows.fnCancellingRow.wrapper Rows.fnCancellingRow.mainSum := by unfold Func.isWrapper; first | (rw [if_pos (by decide +kernel)]; kernel_rfl) | (rw [if_neg (by decide +kernel)]; exact ⟨rfl, rfl⟩)
theorem fnCancelling_holds : Rows.FnCancellingSaid :=
  OpenClaim.holds_of_wide 5 Try.f5 rfl rfl rfl rfl rfl rfl rfl ⟨rfl, rfl, rfl, rfl, rfl⟩ rfl rfl rfl rfl rfl fnCancelling_f1 Try.func5 fnCancelling_f2
    fnCancelling_f3 fnCancelling_f4 (fun os started H enc _ => fnCancelling_lifted os started H enc)
#print axioms fnCancelling_holds
end Go.Proofs.Ytolfggcanbpknaa
