/- The law of QuotientCategory holds for all arguments. No condition. -/
import Derived.Test.YtfejmmaeigbfkaaZ11
import Derived.Test.YtfejmmaeigbfkaaRows
import Derived.Test.YtfejmmaeigbfkaaChecked
import Derived.ProofKit
namespace Go.Proofs.Ytfejmmaeigbfkaa
open Go Go.GL Go.ChangeShapes Go.WideShapes Go.ChangeAt Go.RowKit
theorem ownQuotientCategory : ownKnob Try.prog.godebug = none := by kernel_rfl
theorem laidQuotientCategory : laidOutB Try.prog = true := by kernel_rfl
set_option maxRecDepth 100000 in
theorem quotientCategory_lifted (os : Os) (started : os.Started) (H : Type) (enc : TypeId × Value → H) :
    ReturnsInHanded {} Try.checked os 3 .any (Rows.fnExactQuotientCategorySpec.pre6 enc Try.prog Try.f3 Rows.fnExactQuotientCategoryRow.domain false) (Rows.fnExactQuotientCategorySpec.post enc Try.prog Try.f3 false true false false) := by
  refine returnsInHanded_of_change (C := Try.checked) ownQuotientCategory started (by kernel_rfl) Try.func3
    (ChangeSpec.witness6 (enc := enc) (C := Try.checked) false ⟨#[], #[.agg #[.int .i64 0, .slice none 0 0, .slice none 0 0, .slice none 0 0, .slice none 0 0], .slice none 0 0], []⟩ 12 (by kernel_rfl) (by kernel_rfl) (by kernel_rfl) (by kernel_rfl)) ?_
  intro W base args ds gs before hval hW _ _
  exact law_calls (ts := [25, 22]) (.cons (imp1_struct (cells := Cat.cells) (I := Cat.In) (W := Cat.Wide) Cat.In.mono (import_cat (by kernel_rfl)) (by kernel_rfl)) (.cons (imp1_ints (by kernel_rfl)) .nil)) rfl (fun H gs h => by
    obtain ⟨_, _, rfl, ⟨c0, p0, rfl, h0, w0⟩, ⟨_, _, rfl, ⟨a1, x1, rfl, h1, w1⟩, rfl⟩⟩ := h
    exact lawQuotientCategory_c h0 w0 h1 w1) hval hW laidQuotientCategory (by kernel_rfl) rfl rfl (by kernel_rfl) (fun ds h => by
    match ds, h with
    | [_, _], _ => exact ⟨rfl, rfl, rfl⟩)
theorem quotientCategory_f1 : (Try.pinned : Pinned).checked.prog.funcNamed Rows.fnExactQuotientCategoryRow.func = some 3 := by kernel_rfl
theorem quotientCategory_f2 : joinedFacts (Try.pinned : Pinned).checked.prog 3 Try.f3 Rows.fnExactQuotientCategorySpec Rows.fnExactQuotientCategoryRow = true := by kernel_rfl
theorem quotientCategory_f3 : Try.f3.isInstance (Try.pinned : Pinned).checked.prog Rows.fnExactQuotientCategoryRow.origin Rows.fnExactQuotientCategoryRow.targs := of_decide_eq_true (by kernel_rfl)
theorem quotientCategory_f4 : Try.f3.isWrapper (Try.pinned : Pinned).checked.prog Rows.fnExactQuotientCategoryRow.wrapper Rows.fnExactQuotientCategoryRow.mainSum := by unfold Func.isWrapper; first | (rw [if_pos (by decide +kernel)]; kernel_rfl) | (rw [if_neg (by decide +kernel)]; exact ⟨rfl, rfl⟩)
theorem quotientCategory_holds : Rows.FnExactQuotientCategorySaid :=
  OpenClaim.holds_of_wide 3 Try.f3 rfl rfl rfl rfl rfl rfl rfl ⟨rfl, rfl, rfl, rfl, rfl⟩ rfl rfl rfl rfl rfl quotientCategory_f1 Try.func3 quotientCategory_f2
    quotientCategory_f3 quotientCategory_f4 (fun os started H enc _ => quotientCategory_lifted os started H enc)
#print axioms quotientCategory_holds
end Go.Proofs.Ytfejmmaeigbfkaa
