/- The law of EndOf holds for all arguments. No condition. -/
import Derived.Test.YtdfnfdellpfjhaaZ10
import Derived.Test.YtdfnfdellpfjhaaRows
import Derived.Test.YtdfnfdellpfjhaaChecked
import Derived.ProofKit
namespace Go.Proofs.Ytdfnfdellpfjhaa
open Go Go.GL Go.ChangeShapes Go.WideShapes Go.ChangeAt Go.RowKit
theorem ownEndOf : ownKnob Try.prog.godebug = none := by kernel_rfl
theorem laidEndOf : laidOutB Try.prog = true := by kernel_rfl
set_option maxRecDepth 100000 in
theorem endOf_lifted (os : Os) (started : os.Started) (H : Type) (enc : TypeId × Value → H) :
    ReturnsInHanded {} Try.checked os 3 .any (Rows.fnExactEndOfSpec.pre6 enc Try.prog Try.f3 Rows.fnExactEndOfRow.domain false) (Rows.fnExactEndOfSpec.post enc Try.prog Try.f3 false true false false) := by
  refine returnsInHanded_of_change (C := Try.checked) ownEndOf started (by kernel_rfl) Try.func3
    (ChangeSpec.witness6 (enc := enc) (C := Try.checked) false ⟨#[], #[.agg #[.int .i64 0, .slice none 0 0, .slice none 0 0, .slice none 0 0, .slice none 0 0, .int .i64 0, .slice none 0 0, .slice none 0 0, .slice none 0 0, .slice none 0 0, .slice none 0 0, .slice none 0 0, .slice none 0 0]], []⟩ 12 (by kernel_rfl) (by kernel_rfl) (by kernel_rfl) (by kernel_rfl)) ?_
  intro W base args ds gs before hval hW _ _
  exact law_calls (ts := [28]) (.cons (imp1_struct (cells := Prof.cells) (I := Prof.In) (W := Prof.Wide) Prof.In.mono (import_prof (by kernel_rfl)) (by kernel_rfl)) .nil) rfl (fun H gs h => by
    obtain ⟨_, _, rfl, ⟨c0, p0, rfl, h0, w0⟩, rfl⟩ := h
    exact lawEndOf_c h0 w0) hval hW laidEndOf (by kernel_rfl) rfl rfl (by kernel_rfl) (fun ds h => by
    match ds, h with
    | [_], _ => exact ⟨rfl, rfl, rfl⟩)
theorem endOf_f1 : (Try.pinned : Pinned).checked.prog.funcNamed Rows.fnExactEndOfRow.func = some 3 := by kernel_rfl
theorem endOf_f2 : joinedFacts (Try.pinned : Pinned).checked.prog 3 Try.f3 Rows.fnExactEndOfSpec Rows.fnExactEndOfRow = true := by kernel_rfl
theorem endOf_f3 : Try.f3.isInstance (Try.pinned : Pinned).checked.prog Rows.fnExactEndOfRow.origin Rows.fnExactEndOfRow.targs := of_decide_eq_true (by kernel_rfl)
theorem endOf_f4 : Try.f3.isWrapper (Try.pinned : Pinned).checked.prog Rows.fnExactEndOfRow.wrapper Rows.fnExactEndOfRow.mainSum := by unfold Func.isWrapper; first | (rw [if_pos (by decide +kernel)]; kernel_rfl) | (rw [if_neg (by decide +kernel)]; exact ⟨rfl, rfl⟩)
theorem endOf_holds : Rows.FnExactEndOfSaid :=
  OpenClaim.holds_of_wide 3 Try.f3 rfl rfl rfl rfl rfl rfl rfl ⟨rfl, rfl, rfl, rfl, rfl⟩ rfl rfl rfl rfl rfl endOf_f1 Try.func3 endOf_f2
    endOf_f3 endOf_f4 (fun os started H enc _ => endOf_lifted os started H enc)
#print axioms endOf_holds
end Go.Proofs.Ytdfnfdellpfjhaa
