/- The law of FnProducts holds for all arguments. No condition. -/
import Derived.Test.YtjdedelneppnlaaZ13
import Derived.Test.YtjdedelneppnlaaRows
import Derived.Test.YtjdedelneppnlaaChecked
import Derived.ProofKit
namespace Go.Proofs.Ytjdedelneppnlaa
open Go Go.GL Go.ChangeShapes Go.WideShapes Go.ChangeAt Go.RowKit
theorem ownFnProducts : ownKnob Try.prog.godebug = none := by kernel_rfl
theorem laidFnProducts : laidOutB Try.prog = true := by kernel_rfl
set_option maxRecDepth 100000 in
theorem fnProducts_lifted (os : Os) (started : os.Started) (H : Type) (enc : TypeId × Value → H) :
    ReturnsInHanded {} Try.checked os 4 .any (Rows.fnProductsSpec.pre6 enc Try.prog Try.f4 Rows.fnProductsRow.domain false) (Rows.fnProductsSpec.post enc Try.prog Try.f4 false true false false) := by
  refine returnsInHanded_of_change (C := Try.checked) ownFnProducts started (by kernel_rfl) Try.func4
    (ChangeSpec.witness6 (enc := enc) (C := Try.checked) false ⟨#[], #[.slice none 0 0], []⟩ 12 (by kernel_rfl) (by kernel_rfl) (by kernel_rfl) (by kernel_rfl)) ?_
  intro W base args ds gs before hval hW _ _
  exact law_calls (ts := [36]) (.cons (imp1_code (by kernel_rfl)) .nil) rfl (fun H gs h => by
    obtain ⟨_, _, rfl, ⟨a0, x0, rfl, h0, w0, v0⟩, rfl⟩ := h
    exact lawFnProducts_c h0 w0 v0) hval hW laidFnProducts (by kernel_rfl) rfl rfl (by kernel_rfl) (fun ds h => by
    match ds, h with
    | [_], _ => exact ⟨rfl, rfl, rfl⟩)
theorem fnProducts_f1 : (Try.pinned : Pinned).checked.prog.funcNamed Rows.fnProductsRow.func = some 4 := by kernel_rfl
theorem fnProducts_f2 : joinedFacts (Try.pinned : Pinned).checked.prog 4 Try.f4 Rows.fnProductsSpec Rows.fnProductsRow = true := by kernel_rfl
theorem fnProducts_f3 : Try.f4.isInstance (Try.pinned : Pinned).checked.prog Rows.fnProductsRow.origin Rows.fnProductsRow.targs := of_decide_eq_true (by kernel_rfl)
theorem fnProducts_f4 : Try.f4.isWrapper (Try.pinned : Pinned).checked.prog Rows.fnProductsRow.wrapper Rows.fnProductsRow.mainSum := by unfold Func.isWrapper; first | (rw [if_pos (by decide +kernel)]; kernel_rfl) | (rw [if_neg (by decide +kernel)]; exact ⟨rfl, rfl⟩)
theorem fnProducts_holds : Rows.FnProductsSaid :=
  OpenClaim.holds_of_wide 4 Try.f4 rfl rfl rfl rfl rfl rfl rfl ⟨rfl, rfl, rfl, rfl, rfl⟩ rfl rfl rfl rfl rfl fnProducts_f1 Try.func4 fnProducts_f2
    fnProducts_f3 fnProducts_f4 (fun os started H enc _ => fnProducts_lifted os started H enc)
#print axioms fnProducts_holds
end Go.Proofs.Ytjdedelneppnlaa
