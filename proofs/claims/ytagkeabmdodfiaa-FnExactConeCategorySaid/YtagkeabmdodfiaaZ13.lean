/- The law of ConeCategory holds for all arguments. No condition. -/
import Derived.Test.YtagkeabmdodfiaaZ12
import Derived.Test.YtagkeabmdodfiaaRows
import Derived.Test.YtagkeabmdodfiaaChecked
import Derived.ProofKit
namespace Go.Proofs.Ytagkeabmdodfiaa
open Go Go.GL Go.ChangeShapes Go.WideShapes Go.ChangeAt Go.RowKit
theorem ownConeCategory : ownKnob Try.prog.godebug = none := by kernel_rfl
theorem laidConeCategory : laidOutB Try.prog = true := by kernel_rfl
set_option maxRecDepth 100000 in
theorem coneCategory_lifted (os : Os) (started : os.Started) (H : Type) (enc : TypeId × Value → H) :
    ReturnsInHanded {} Try.checked os 6 .any (Rows.fnExactConeCategorySpec.pre6 enc Try.prog Try.f6 Rows.fnExactConeCategoryRow.domain false) (Rows.fnExactConeCategorySpec.post enc Try.prog Try.f6 false true false false) := by
  refine returnsInHanded_of_change (C := Try.checked) ownConeCategory started (by kernel_rfl) Try.func6
    (ChangeSpec.witness6 (enc := enc) (C := Try.checked) false ⟨#[], #[.agg #[.int .i64 0, .slice none 0 0, .slice none 0 0, .slice none 0 0, .slice none 0 0, .int .i64 0, .slice none 0 0, .slice none 0 0, .slice none 0 0, .slice none 0 0, .slice none 0 0, .slice none 0 0]], []⟩ 12 (by kernel_rfl) (by kernel_rfl) (by kernel_rfl) (by kernel_rfl)) ?_
  intro W base args ds gs before hval hW _ _
  exact law_calls (ts := [27]) (.cons (imp1_struct (cells := Fun.cells) (I := Fun.In) (W := Fun.Wide) Fun.In.mono (import_fun (by kernel_rfl)) (by kernel_rfl)) .nil) rfl (fun H gs h => by
    obtain ⟨_, _, rfl, ⟨c0, p0, rfl, h0, w0⟩, rfl⟩ := h
    exact lawConeCategory_c h0 w0) hval hW laidConeCategory (by kernel_rfl) rfl rfl (by kernel_rfl) (fun ds h => by
    match ds, h with
    | [_], _ => exact ⟨rfl, rfl, rfl⟩)
theorem coneCategory_f1 : (Try.pinned : Pinned).checked.prog.funcNamed Rows.fnExactConeCategoryRow.func = some 6 := by kernel_rfl
theorem coneCategory_f2 : joinedFacts (Try.pinned : Pinned).checked.prog 6 Try.f6 Rows.fnExactConeCategorySpec Rows.fnExactConeCategoryRow = true := by kernel_rfl
theorem coneCategory_f3 : Try.f6.isInstance (Try.pinned : Pinned).checked.prog Rows.fnExactConeCategoryRow.origin Rows.fnExactConeCategoryRow.targs := of_decide_eq_true (by kernel_rfl)
theorem coneCategory_f4 : Try.f6.isWrapper (Try.pinned : Pinned).checked.prog Rows.fnExactConeCategoryRow.wrapper Rows.fnExactConeCategoryRow.mainSum := by unfold Func.isWrapper; first | (rw [if_pos (by decide +kernel)]; kernel_rfl) | (rw [if_neg (by decide +kernel)]; exact ⟨rfl, rfl⟩)
theorem coneCategory_holds : Rows.FnExactConeCategorySaid :=
  OpenClaim.holds_of_wide 6 Try.f6 rfl rfl rfl rfl rfl rfl rfl ⟨rfl, rfl, rfl, rfl, rfl⟩ rfl rfl rfl rfl rfl coneCategory_f1 Try.func6 coneCategory_f2
    coneCategory_f3 coneCategory_f4 (fun os started H enc _ => coneCategory_lifted os started H enc)
#print axioms coneCategory_holds
end Go.Proofs.Ytagkeabmdodfiaa
