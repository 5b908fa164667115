/- The law of ElementsCategory holds for all arguments. No condition. -/
import Derived.Test.YtagkeabmdodfiaaZ11
import Derived.Test.YtagkeabmdodfiaaRows
import Derived.Test.YtagkeabmdodfiaaChecked
import Derived.ProofKit
namespace Go.Proofs.Ytagkeabmdodfiaa
open Go Go.GL Go.ChangeShapes Go.WideShapes Go.ChangeAt Go.RowKit
theorem ownElementsCategory : ownKnob Try.prog.godebug = none := by kernel_rfl
theorem laidElementsCategory : laidOutB Try.prog = true := by kernel_rfl
set_option maxRecDepth 100000 in
theorem elementsCategory_lifted (os : Os) (started : os.Started) (H : Type) (enc : TypeId × Value → H) :
    ReturnsInHanded {} Try.checked os 5 .any (Rows.fnExactElementsCategorySpec.pre6 enc Try.prog Try.f5 Rows.fnExactElementsCategoryRow.domain false) (Rows.fnExactElementsCategorySpec.post enc Try.prog Try.f5 false true false false) := by
  refine returnsInHanded_of_change (C := Try.checked) ownElementsCategory started (by kernel_rfl) Try.func5
    (ChangeSpec.witness6 (enc := enc) (C := Try.checked) false ⟨#[], #[.agg #[.int .i64 0, .slice none 0 0, .slice none 0 0, .slice none 0 0, .slice none 0 0, .slice none 0 0, .slice none 0 0]], []⟩ 12 (by kernel_rfl) (by kernel_rfl) (by kernel_rfl) (by kernel_rfl)) ?_
  intro W base args ds gs before hval hW _ _
  exact law_calls (ts := [41]) (.cons (imp1_struct (cells := SFun.cells) (I := SFun.In) (W := SFun.Wide) SFun.In.mono (import_sfun (by kernel_rfl)) (by kernel_rfl)) .nil) rfl (fun H gs h => by
    obtain ⟨_, _, rfl, ⟨c0, p0, rfl, h0, w0⟩, rfl⟩ := h
    exact lawElementsCategory_c h0 w0) hval hW laidElementsCategory (by kernel_rfl) rfl rfl (by kernel_rfl) (fun ds h => by
    match ds, h with
    | [_], _ => exact ⟨rfl, rfl, rfl⟩)
theorem elementsCategory_f1 : (Try.pinned : Pinned).checked.prog.funcNamed Rows.fnExactElementsCategoryRow.func = some 5 := by kernel_rfl
theorem elementsCategory_f2 : joinedFacts (Try.pinned : Pinned).checked.prog 5 Try.f5 Rows.fnExactElementsCategorySpec Rows.fnExactElementsCategoryRow = true := by kernel_rfl
theorem elementsCategory_f3 : Try.f5.isInstance (Try.pinned : Pinned).checked.prog Rows.fnExactElementsCategoryRow.origin Rows.fnExactElementsCategoryRow.targs := of_decide_eq_true (by kernel_rfl)
theorem elementsCategory_f4 : Try.f5.isWrapper (Try.pinned : Pinned).checked.prog Rows.fnExactElementsCategoryRow.wrapper Rows.fnExactElementsCategoryRow.mainSum := by unfold Func.isWrapper; first | (rw [if_pos (by decide +kernel)]; kernel_rfl) | (rw [if_neg (by decide +kernel)]; exact ⟨rfl, rfl⟩)
theorem elementsCategory_holds : Rows.FnExactElementsCategorySaid :=
  OpenClaim.holds_of_wide 5 Try.f5 rfl rfl rfl rfl rfl rfl rfl ⟨rfl, rfl, rfl, rfl, rfl⟩ rfl rfl rfl rfl rfl elementsCategory_f1 Try.func5 elementsCategory_f2
    elementsCategory_f3 elementsCategory_f4 (fun os started H enc _ => elementsCategory_lifted os started H enc)
#print axioms elementsCategory_holds
end Go.Proofs.Ytagkeabmdodfiaa
