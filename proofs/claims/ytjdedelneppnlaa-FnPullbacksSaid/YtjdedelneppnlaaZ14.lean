/- The law of FnPullbacks holds for all arguments. No condition. -/
import Derived.Test.YtjdedelneppnlaaZ13
import Derived.Test.YtjdedelneppnlaaRows
import Derived.Test.YtjdedelneppnlaaChecked
import Derived.ProofKit
namespace Go.Proofs.Ytjdedelneppnlaa
open Go Go.GL Go.ChangeShapes Go.WideShapes Go.ChangeAt Go.RowKit
theorem ownFnPullbacks : ownKnob Try.prog.godebug = none := by kernel_rfl
theorem laidFnPullbacks : laidOutB Try.prog = true := by kernel_rfl
set_option maxRecDepth 100000 in
theorem fnPullbacks_lifted (os : Os) (started : os.Started) (H : Type) (enc : TypeId × Value → H) :
    ReturnsInHanded {} Try.checked os 5 .any (Rows.fnPullbacksSpec.pre6 enc Try.prog Try.f5 Rows.fnPullbacksRow.domain false) (Rows.fnPullbacksSpec.post enc Try.prog Try.f5 false true false false) := by
  refine returnsInHanded_of_change (C := Try.checked) ownFnPullbacks started (by kernel_rfl) Try.func5
    (ChangeSpec.witness6 (enc := enc) (C := Try.checked) false ⟨#[], #[.slice none 0 0], []⟩ 12 (by kernel_rfl) (by kernel_rfl) (by kernel_rfl) (by kernel_rfl)) ?_
  intro W base args ds gs before hval hW _ _
  exact law_calls (ts := [36]) (.cons (imp1_code (by kernel_rfl)) .nil) rfl (fun H gs h => by
    obtain ⟨_, _, rfl, ⟨a0, x0, rfl, h0, w0, v0⟩, rfl⟩ := h
    exact lawFnPullbacks_c h0 w0 v0) hval hW laidFnPullbacks (by kernel_rfl) rfl rfl (by kernel_rfl) (fun ds h => by
    match ds, h with
    | [_], _ => exact ⟨rfl, rfl, rfl⟩)
theorem fnPullbacks_f1 : (Try.pinned : Pinned).checked.prog.funcNamed Rows.fnPullbacksRow.func = some 5 := by kernel_rfl
theorem fnPullbacks_f2 : joinedFacts (Try.pinned : Pinned).checked.prog 5 Try.f5 Rows.fnPullbacksSpec Rows.fnPullbacksRow = true := by kernel_rfl
theorem fnPullbacks_f3 : Try.f5.isInstance (Try.pinned : Pinned).checked.prog Rows.fnPullbacksRow.origin Rows.fnPullbacksRow.targs := of_decide_eq_true (by kernel_rfl)
theorem fnPullbacks_f4 : Try.f5.isWrapper (Try.pinned : Pinned).checked.prog Rows.fnPullbacksRow.wrapper Rows.fnPullbacksRow.mainSum := by unfold Func.isWrapper; first | (rw [if_pos (by decide +kernel)]; kernel_rfl) | (rw [if_neg (by decide +kernel)]; exact ⟨rfl, rfl⟩)
theorem fnPullbacks_holds : Rows.FnPullbacksSaid :=
  OpenClaim.holds_of_wide 5 Try.f5 rfl rfl rfl rfl rfl rfl rfl ⟨rfl, rfl, rfl, rfl, rfl⟩ rfl rfl rfl rfl rfl fnPullbacks_f1 Try.func5 fnPullbacks_f2
    fnPullbacks_f3 fnPullbacks_f4 (fun os started H enc _ => fnPullbacks_lifted os started H enc)
#print axioms fnPullbacks_holds
end Go.Proofs.Ytjdedelneppnlaa
