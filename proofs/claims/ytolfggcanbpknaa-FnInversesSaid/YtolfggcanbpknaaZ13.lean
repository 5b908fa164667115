/- The law of FnInverses holds for all arguments. No condition. -/
import Derived.Test.YtolfggcanbpknaaZ12
import Derived.Test.YtolfggcanbpknaaRows
import Derived.Test.YtolfggcanbpknaaChecked
import Derived.ProofKit
namespace Go.Proofs.Ytolfggcanbpknaa
open Go Go.GL Go.ChangeShapes Go.WideShapes Go.ChangeAt Go.RowKit
theorem ownFnInverses : ownKnob Try.prog.godebug = none := by kernel_rfl
theorem laidFnInverses : laidOutB Try.prog = true := by kernel_rfl
set_option maxRecDepth 100000 in
theorem fnInverses_lifted (os : Os) (started : os.Started) (H : Type) (enc : TypeId × Value → H) :
    ReturnsInHanded {} Try.checked os 4 .any (Rows.fnInversesSpec.pre6 enc Try.prog Try.f4 Rows.fnInversesRow.domain false) (Rows.fnInversesSpec.post enc Try.prog Try.f4 false true false false) := by
  refine returnsInHanded_of_change (C := Try.checked) ownFnInverses started (by kernel_rfl) Try.func4
    (ChangeSpec.witness6 (enc := enc) (C := Try.checked) false ⟨#[], #[.slice none 0 0], []⟩ 12 (by kernel_rfl) (by kernel_rfl) (by kernel_rfl) (by kernel_rfl)) ?_
  intro W base args ds gs before hval hW _ _
  exact law_calls (ts := [22]) (.cons (imp1_code (by kernel_rfl)) .nil) rfl (fun H gs h => by
    obtain ⟨_, _, rfl, ⟨a0, x0, rfl, h0, w0, v0⟩, rfl⟩ := h
    exact lawFnInverses_c h0 w0 v0) hval hW laidFnInverses (by kernel_rfl) rfl rfl (by kernel_rfl) (fun ds h => by
    match ds, h with
    | [_], _ => exact ⟨rfl, rfl, rfl⟩)
theorem fnInverses_f1 : (Try.pinned : Pinned).checked.prog.funcNamed Rows.fnInversesRow.func = some 4 := by kernel_rfl
theorem fnInverses_f2 : joinedFacts (Try.pinned : Pinned).checked.prog 4 Try.f4 Rows.fnInversesSpec Rows.fnInversesRow = true := by kernel_rfl
theorem fnInverses_f3 : Try.f4.isInstance (Try.pinned : Pinned).checked.prog Rows.fnInversesRow.origin Rows.fnInversesRow.targs := of_decide_eq_true (by kernel_rfl)
theorem fnInverses_f4 : Try.f4.isWrapper (Try.pinned : Pinned).checked.prog Rows.fnInversesRow.wrapper Rows.fnInversesRow.mainSum := by unfold Func.isWrapper; first | (rw [if_pos (by decide +kernel)]; kernel_rfl) | (rw [if_neg (by decide +kernel)]; exact ⟨rfl, rfl⟩)
theorem fnInverses_holds : Rows.FnInversesSaid :=
  OpenClaim.holds_of_wide 4 Try.f4 rfl rfl rfl rfl rfl rfl rfl ⟨rfl, rfl, rfl, rfl, rfl⟩ rfl rfl rfl rfl rfl fnInverses_f1 Try.func4 fnInverses_f2
    fnInverses_f3 fnInverses_f4 (fun os started H enc _ => fnInverses_lifted os started H enc)
#print axioms fnInverses_holds
end Go.Proofs.Ytolfggcanbpknaa
