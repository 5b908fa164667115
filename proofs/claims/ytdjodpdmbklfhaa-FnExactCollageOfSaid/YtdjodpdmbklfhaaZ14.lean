/- The law of CollageOf holds for all arguments. No condition. -/
import Derived.Test.YtdjodpdmbklfhaaZ13
import Derived.Test.YtdjodpdmbklfhaaRows
import Derived.Test.YtdjodpdmbklfhaaChecked
import Derived.ProofKit
namespace Go.Proofs.Ytdjodpdmbklfhaa
open Go Go.GL Go.ChangeShapes Go.WideShapes Go.ChangeAt Go.RowKit
theorem ownCollageOf : ownKnob Try.prog.godebug = none := by kernel_rfl
theorem laidCollageOf : laidOutB Try.prog = true := by kernel_rfl
set_option maxRecDepth 100000 in
theorem collageOf_lifted (os : Os) (started : os.Started) (H : Type) (enc : TypeId × Value → H) :
    ReturnsInHanded {} Try.checked os 3 .any (Rows.fnExactCollageOfSpec.pre6 enc Try.prog Try.f3 Rows.fnExactCollageOfRow.domain false) (Rows.fnExactCollageOfSpec.post enc Try.prog Try.f3 false true false false) := by
  refine returnsInHanded_of_change (C := Try.checked) ownCollageOf started (by kernel_rfl) Try.func3
    (ChangeSpec.witness6 (enc := enc) (C := Try.checked) false ⟨#[], #[.agg #[.int .i64 0, .slice none 0 0, .slice none 0 0, .slice none 0 0, .slice none 0 0, .int .i64 0, .slice none 0 0, .slice none 0 0, .slice none 0 0, .slice none 0 0, .slice none 0 0, .slice none 0 0, .slice none 0 0]], []⟩ 12 (by kernel_rfl) (by kernel_rfl) (by kernel_rfl) (by kernel_rfl)) ?_
  intro W base args ds gs before hval hW _ _
  exact law_calls (ts := [28]) (.cons (imp1_struct (cells := Prof.cells) (I := Prof.In) (W := Prof.Wide) Prof.In.mono (import_prof (by kernel_rfl)) (by kernel_rfl)) .nil) rfl (fun H gs h => by
    obtain ⟨_, _, rfl, ⟨c0, p0, rfl, h0, w0⟩, rfl⟩ := h
    exact lawCollageOf_c h0 w0) hval hW laidCollageOf (by kernel_rfl) rfl rfl (by kernel_rfl) (fun ds h => by
    match ds, h with
    | [_], _ => exact ⟨rfl, rfl, rfl⟩)
theorem collageOf_f1 : (Try.pinned : Pinned).checked.prog.funcNamed Rows.fnExactCollageOfRow.func = some 3 := by kernel_rfl
theorem collageOf_f2 : joinedFacts (Try.pinned : Pinned).checked.prog 3 Try.f3 Rows.fnExactCollageOfSpec Rows.fnExactCollageOfRow = true := by kernel_rfl
theorem collageOf_f3 : Try.f3.isInstance (Try.pinned : Pinned).checked.prog Rows.fnExactCollageOfRow.origin Rows.fnExactCollageOfRow.targs := of_decide_eq_true (by kernel_rfl)
theorem collageOf_f4 : Try.f3.isWrapper (Try.pinned : Pinned).checked.prog Rows.fnExactCollageOfRow.wrapper Rows.fnExactCollageOfRow.mainSum := by unfold Func.isWrapper; first | (rw [if_pos (by decide +kernel)]; kernel_rfl) | (rw [if_neg (by decide +kernel)]; exact ⟨rfl, rfl⟩)
theorem collageOf_holds : Rows.FnExactCollageOfSaid :=
  OpenClaim.holds_of_wide 3 Try.f3 rfl rfl rfl rfl rfl rfl rfl ⟨rfl, rfl, rfl, rfl, rfl⟩ rfl rfl rfl rfl rfl collageOf_f1 Try.func3 collageOf_f2
    collageOf_f3 collageOf_f4 (fun os started H enc _ => collageOf_lifted os started H enc)
#print axioms collageOf_holds
end Go.Proofs.Ytdjodpdmbklfhaa
