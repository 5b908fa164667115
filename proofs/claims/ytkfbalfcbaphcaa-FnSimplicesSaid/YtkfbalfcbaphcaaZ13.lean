/- The law of FnSimplices holds for all arguments. No condition. -/
import Derived.Test.YtkfbalfcbaphcaaZ12
import Derived.Test.YtkfbalfcbaphcaaRows
import Derived.Test.YtkfbalfcbaphcaaChecked
import Derived.ProofKit
namespace Go.Proofs.Ytkfbalfcbaphcaa
open Go Go.GL Go.ChangeShapes Go.WideShapes Go.ChangeAt Go.RowKit
theorem ownFnSimplices : ownKnob Try.prog.godebug = none := by kernel_rfl
theorem laidFnSimplices : laidOutB Try.prog = true := by kernel_rfl
set_option maxRecDepth 100000 in
theorem fnSimplices_lifted (os : Os) (started : os.Started) (H : Type) (enc : TypeId × Value → H) :
    ReturnsInHanded {} Try.checked os 3 .any (Rows.fnSimplicesSpec.pre6 enc Try.prog Try.f3 Rows.fnSimplicesRow.domain false) (Rows.fnSimplicesSpec.post enc Try.prog Try.f3 false true false false) := by
  refine returnsInHanded_of_change (C := Try.checked) ownFnSimplices started (by kernel_rfl) Try.func3
    (ChangeSpec.witness6 (enc := enc) (C := Try.checked) false ⟨#[], #[.slice none 0 0], []⟩ 12 (by kernel_rfl) (by kernel_rfl) (by kernel_rfl) (by kernel_rfl)) ?_
  intro W base args ds gs before hval hW _ _
  exact law_calls (ts := [22]) (.cons (imp1_code (by kernel_rfl)) .nil) rfl (fun H gs h => by
    obtain ⟨_, _, rfl, ⟨a0, x0, rfl, h0, w0, v0⟩, rfl⟩ := h
    exact lawFnSimplices_c h0 w0 v0) hval hW laidFnSimplices (by kernel_rfl) rfl rfl (by kernel_rfl) (fun ds h => by
    match ds, h with
    | [_], _ => exact ⟨rfl, rfl, rfl⟩)
theorem fnSimplices_f1 : (Try.pinned : Pinned).checked.prog.funcNamed Rows.fnSimplicesRow.func = some 3 := by kernel_rfl
theorem fnSimplices_f2 : joinedFacts (Try.pinned : Pinned).checked.prog 3 Try.f3 Rows.fnSimplicesSpec Rows.fnSimplicesRow = true := by kernel_rfl
theorem fnSimplices_f3 : Try.f3.isInstance (Try.pinned : Pinned).checked.prog Rows.fnSimplicesRow.origin Rows.fnSimplicesRow.targs := of_decide_eq_true (by kernel_rfl)
theorem fnSimplices_f4 : Try.f3.isWrapper (Try.pinned : Pinned).checked.prog Rows.fnSimplicesRow.wrapper Rows.fnSimplicesRow.mainSum := by unfold Func.isWrapper; first | (rw [if_pos (by decide +kernel)]; kernel_rfl) | (rw [if_neg (by decide +kernel)]; exact ⟨rfl, rfl⟩)
theorem fnSimplices_holds : Rows.FnSimplicesSaid :=
  OpenClaim.holds_of_wide 3 Try.f3 rfl rfl rfl rfl rfl rfl rfl ⟨rfl, rfl, rfl, rfl, rfl⟩ rfl rfl rfl rfl rfl fnSimplices_f1 Try.func3 fnSimplices_f2
    fnSimplices_f3 fnSimplices_f4 (fun os started H enc _ => fnSimplices_lifted os started H enc)
#print axioms fnSimplices_holds
end Go.Proofs.Ytkfbalfcbaphcaa
