/- The law of CoendOf holds for all arguments. No condition. -/
import Derived.Test.YtkcpjflhjghapaaZ10
import Derived.Test.YtkcpjflhjghapaaRows
import Derived.Test.YtkcpjflhjghapaaChecked
import Derived.ProofKit
namespace Go.Proofs.Ytkcpjflhjghapaa
open Go Go.GL Go.ChangeShapes Go.WideShapes Go.ChangeAt Go.RowKit
theorem ownCoendOf : ownKnob Try.prog.godebug = none := by kernel_rfl
theorem laidCoendOf : laidOutB Try.prog = true := by kernel_rfl
set_option maxRecDepth 100000 in
theorem coendOf_lifted (os : Os) (started : os.Started) (H : Type) (enc : TypeId × Value → H) :
    ReturnsInHanded {} Try.checked os 3 .any (Rows.fnExactCoendOfSpec.pre6 enc Try.prog Try.f3 Rows.fnExactCoendOfRow.domain false) (Rows.fnExactCoendOfSpec.post enc Try.prog Try.f3 false true false false) := by
  refine returnsInHanded_of_change (C := Try.checked) ownCoendOf started (by kernel_rfl) Try.func3
    (ChangeSpec.witness6 (enc := enc) (C := Try.checked) false ⟨#[], #[.agg #[.int .i64 0, .slice none 0 0, .slice none 0 0, .slice none 0 0, .slice none 0 0, .int .i64 0, .slice none 0 0, .slice none 0 0, .slice none 0 0, .slice none 0 0, .slice none 0 0, .slice none 0 0, .slice none 0 0]], []⟩ 12 (by kernel_rfl) (by kernel_rfl) (by kernel_rfl) (by kernel_rfl)) ?_
  intro W base args ds gs before hval hW _ _
  exact law_calls (ts := [28]) (.cons (imp1_struct (cells := Prof.cells) (I := Prof.In) (W := Prof.Wide) Prof.In.mono (import_prof (by kernel_rfl)) (by kernel_rfl)) .nil) rfl (fun H gs h => by
    obtain ⟨_, _, rfl, ⟨c0, p0, rfl, h0, w0⟩, rfl⟩ := h
    exact lawCoendOf_c h0 w0) hval hW laidCoendOf (by kernel_rfl) rfl rfl (by kernel_rfl) (fun ds h => by
    match ds, h with
    | [_], _ => exact ⟨rfl, rfl, rfl⟩)
theorem coendOf_f1 : (Try.pinned : Pinned).checked.prog.funcNamed Rows.fnExactCoendOfRow.func = some 3 := by kernel_rfl
theorem coendOf_f2 : joinedFacts (Try.pinned : Pinned).checked.prog 3 Try.f3 Rows.fnExactCoendOfSpec Rows.fnExactCoendOfRow = true := by kernel_rfl
theorem coendOf_f3 : Try.f3.isInstance (Try.pinned : Pinned).checked.prog Rows.fnExactCoendOfRow.origin Rows.fnExactCoendOfRow.targs := of_decide_eq_true (by kernel_rfl)
theorem coendOf_f4 : Try.f3.isWrapper (Try.pinned : Pinned).checked.prog Rows.fnExactCoendOfRow.wrapper Rows.fnExactCoendOfRow.mainSum := by unfold Func.isWrapper; first | (rw [if_pos (by decide +kernel)]; kernel_rfl) | (rw [if_neg (by decide +kernel)]; exact ⟨rfl, rfl⟩)
theorem coendOf_holds : Rows.FnExactCoendOfSaid :=
  OpenClaim.holds_of_wide 3 Try.f3 rfl rfl rfl rfl rfl rfl rfl ⟨rfl, rfl, rfl, rfl, rfl⟩ rfl rfl rfl rfl rfl coendOf_f1 Try.func3 coendOf_f2
    coendOf_f3 coendOf_f4 (fun os started H enc _ => coendOf_lifted os started H enc)
#print axioms coendOf_holds
end Go.Proofs.Ytkcpjflhjghapaa
