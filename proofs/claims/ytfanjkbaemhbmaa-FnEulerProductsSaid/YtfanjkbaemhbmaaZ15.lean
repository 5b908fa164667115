/- The law of FnEulerProducts holds for all arguments. No condition. -/
import Derived.Test.YtfanjkbaemhbmaaZ14
import Derived.Test.YtfanjkbaemhbmaaRows
import Derived.Test.YtfanjkbaemhbmaaChecked
import Derived.ProofKit
namespace Go.Proofs.Ytfanjkbaemhbmaa
open Go Go.GL Go.ChangeShapes Go.WideShapes Go.ChangeAt Go.RowKit
theorem ownFnEulerProducts : ownKnob Try.prog.godebug = none := by kernel_rfl
theorem laidFnEulerProducts : laidOutB Try.prog = true := by kernel_rfl
set_option maxRecDepth 100000 in
theorem fnEulerProducts_lifted (os : Os) (started : os.Started) (H : Type) (enc : TypeId × Value → H) :
    ReturnsInHanded {} Try.checked os 3 .any (Rows.fnEulerProductsSpec.pre6 enc Try.prog Try.f3 Rows.fnEulerProductsRow.domain false) (Rows.fnEulerProductsSpec.post enc Try.prog Try.f3 false true false false) := by
  refine returnsInHanded_of_change (C := Try.checked) ownFnEulerProducts started (by kernel_rfl) Try.func3
    (ChangeSpec.witness6 (enc := enc) (C := Try.checked) false ⟨#[], #[.slice none 0 0], []⟩ 12 (by kernel_rfl) (by kernel_rfl) (by kernel_rfl) (by kernel_rfl)) ?_
  intro W base args ds gs before hval hW _ _
  exact law_calls (ts := [22]) (.cons (imp1_code (by kernel_rfl)) .nil) rfl (fun H gs h => by
    obtain ⟨_, _, rfl, ⟨a0, x0, rfl, h0, w0, v0⟩, rfl⟩ := h
    exact lawFnEulerProducts_c h0 w0 v0) hval hW laidFnEulerProducts (by kernel_rfl) rfl rfl (by kernel_rfl) (fun ds h => by
    match ds, h with
    | [_], _ => exact ⟨rfl, rfl, rfl⟩)
theorem fnEulerProducts_f1 : (Try.pinned : Pinned).checked.prog.funcNamed Rows.fnEulerProductsRow.func = some 3 := by kernel_rfl
theorem fnEulerProducts_f2 : joinedFacts (Try.pinned : Pinned).checked.prog 3 Try.f3 Rows.fnEulerProductsSpec Rows.fnEulerProductsRow = true := by kernel_rfl
theorem fnEulerProducts_f3 : Try.f3.isInstance (Try.pinned : Pinned).checked.prog Rows.fnEulerProductsRow.origin Rows.fnEulerProductsRow.targs := of_decide_eq_true (by kernel_rfl)
theorem fnEulerProducts_f4 : Try.f3.isWrapper (Try.pinned : Pinned).checked.prog Rows.fnEulerProductsRow.wrapper Rows.fnEulerProductsRow.mainSum := by unfold Func.isWrapper; first | (rw [if_pos (by decide +kernel)]; kernel_rfl) | (rw [if_neg (by decide +kernel)]; exact ⟨rfl, rfl⟩)
theorem fnEulerProducts_holds : Rows.FnEulerProductsSaid :=
  OpenClaim.holds_of_wide 3 Try.f3 rfl rfl rfl rfl rfl rfl rfl ⟨rfl, rfl, rfl, rfl, rfl⟩ rfl rfl rfl rfl rfl fnEulerProducts_f1 Try.func3 fnEulerProducts_f2
    fnEulerProducts_f3 fnEulerProducts_f4 (fun os started H enc _ => fnEulerProducts_lifted os started H enc)
#print axioms fnEulerProducts_holds
end Go.Proofs.Ytfanjkbaemhbmaa
