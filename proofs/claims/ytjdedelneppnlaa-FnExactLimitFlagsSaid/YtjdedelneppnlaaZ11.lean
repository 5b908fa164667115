/- The law of LimitFlags holds for all arguments. No condition. -/
import Derived.Test.YtjdedelneppnlaaZ10
import Derived.Test.YtjdedelneppnlaaRows
import Derived.Test.YtjdedelneppnlaaChecked
import Derived.ProofKit
namespace Go.Proofs.Ytjdedelneppnlaa
open Go Go.GL Go.ChangeShapes Go.WideShapes Go.ChangeAt Go.RowKit
theorem ownLimitFlags : ownKnob Try.prog.godebug = none := by kernel_rfl
theorem laidLimitFlags : laidOutB Try.prog = true := by kernel_rfl
set_option maxRecDepth 100000 in
theorem limitFlags_lifted (os : Os) (started : os.Started) (H : Type) (enc : TypeId × Value → H) :
    ReturnsInHanded {} Try.checked os 3 .any (Rows.fnExactLimitFlagsSpec.pre6 enc Try.prog Try.f3 Rows.fnExactLimitFlagsRow.domain false) (Rows.fnExactLimitFlagsSpec.post enc Try.prog Try.f3 false true false false) := by
  refine returnsInHanded_of_change (C := Try.checked) ownLimitFlags started (by kernel_rfl) Try.func3
    (ChangeSpec.witness6 (enc := enc) (C := Try.checked) false ⟨#[], #[.agg #[.int .i64 0, .slice none 0 0, .slice none 0 0, .slice none 0 0, .slice none 0 0]], []⟩ 12 (by kernel_rfl) (by kernel_rfl) (by kernel_rfl) (by kernel_rfl)) ?_
  intro W base args ds gs before hval hW _ _
  exact law_calls (ts := [25]) (.cons (imp1_struct (cells := Cat.cells) (I := Cat.In) (W := Cat.Wide) Cat.In.mono (import_cat (by kernel_rfl)) (by kernel_rfl)) .nil) rfl (fun H gs h => by
    obtain ⟨_, _, rfl, ⟨c0, p0, rfl, h0, w0⟩, rfl⟩ := h
    exact lawLimitFlags_c h0 w0) hval hW laidLimitFlags (by kernel_rfl) rfl rfl (by kernel_rfl) (fun ds h => by
    match ds, h with
    | [_], _ => exact ⟨rfl, rfl, rfl⟩)
theorem limitFlags_f1 : (Try.pinned : Pinned).checked.prog.funcNamed Rows.fnExactLimitFlagsRow.func = some 3 := by kernel_rfl
theorem limitFlags_f2 : joinedFacts (Try.pinned : Pinned).checked.prog 3 Try.f3 Rows.fnExactLimitFlagsSpec Rows.fnExactLimitFlagsRow = true := by kernel_rfl
theorem limitFlags_f3 : Try.f3.isInstance (Try.pinned : Pinned).checked.prog Rows.fnExactLimitFlagsRow.origin Rows.fnExactLimitFlagsRow.targs := of_decide_eq_true (by kernel_rfl)
theorem limitFlags_f4 : Try.f3.isWrapper (Try.pinned : Pinned).checked.prog Rows.fnExactLimitFlagsRow.wrapper Rows.fnExactLimitFlagsRow.mainSum := by unfold Func.isWrapper; first | (rw [if_pos (by decide +kernel)]; kernel_rfl) | (rw [if_neg (by decide +kernel)]; exact ⟨rfl, rfl⟩)
theorem limitFlags_holds : Rows.FnExactLimitFlagsSaid :=
  OpenClaim.holds_of_wide 3 Try.f3 rfl rfl rfl rfl rfl rfl rfl ⟨rfl, rfl, rfl, rfl, rfl⟩ rfl rfl rfl rfl rfl limitFlags_f1 Try.func3 limitFlags_f2
    limitFlags_f3 limitFlags_f4 (fun os started H enc _ => limitFlags_lifted os started H enc)
#print axioms limitFlags_holds
end Go.Proofs.Ytjdedelneppnlaa
