/- The law of FnCategoryFaults holds for all arguments. No condition. -/
import Derived.Test.YtfanjkbaemhbmaaZ12
import Derived.Test.YtfanjkbaemhbmaaRows
import Derived.Test.YtfanjkbaemhbmaaChecked
import Derived.ProofKit
namespace Go.Proofs.Ytfanjkbaemhbmaa
open Go Go.GL Go.ChangeShapes Go.WideShapes Go.ChangeAt Go.RowKit
theorem ownFnCategoryFaults : ownKnob Try.prog.godebug = none := by kernel_rfl
theorem laidFnCategoryFaults : laidOutB Try.prog = true := by kernel_rfl
set_option maxRecDepth 100000 in
theorem fnCategoryFaults_lifted (os : Os) (started : os.Started) (H : Type) (enc : TypeId × Value → H) :
    ReturnsInHanded {} Try.checked os 4 .any (Rows.fnCategoryFaultsSpec.pre6 enc Try.prog Try.f4 Rows.fnCategoryFaultsRow.domain false) (Rows.fnCategoryFaultsSpec.post enc Try.prog Try.f4 false true false false) := by
  refine returnsInHanded_of_change (C := Try.checked) ownFnCategoryFaults started (by kernel_rfl) Try.func4
    (ChangeSpec.witness6 (enc := enc) (C := Try.checked) false ⟨#[], #[.slice none 0 0], []⟩ 12 (by kernel_rfl) (by kernel_rfl) (by kernel_rfl) (by kernel_rfl)) ?_
  intro W base args ds gs before hval hW _ _
  exact law_calls (ts := [22]) (.cons (imp1_code (by kernel_rfl)) .nil) rfl (fun H gs h => by
    obtain ⟨_, _, rfl, ⟨a0, x0, rfl, h0, w0, v0⟩, rfl⟩ := h
    exact lawFnCategoryFaults_c h0 w0 v0) hval hW laidFnCategoryFaults (by kernel_rfl) rfl rfl (by kernel_rfl) (fun ds h => by
    match ds, h with
    | [_], _ => exact ⟨rfl, rfl, rfl⟩)
theorem fnCategoryFaults_f1 : (Try.pinned : Pinned).checked.prog.funcNamed Rows.fnCategoryFaultsRow.func = some 4 := by kernel_rfl
theorem fnCategoryFaults_f2 : joinedFacts (Try.pinned : Pinned).checked.prog 4 Try.f4 Rows.fnCategoryFaultsSpec Rows.fnCategoryFaultsRow = true := by kernel_rfl
theorem fnCategoryFaults_f3 : Try.f4.isInstance (Try.pinned : Pinned).checked.prog Rows.fnCategoryFaultsRow.origin Rows.fnCategoryFaultsRow.targs := of_decide_eq_true (by kernel_rfl)
theorem fnCategoryFaults_f4 : Try.f4.isWrapper (Try.pinned : Pinned).checked.prog Rows.fnCategoryFaultsRow.wrapper Rows.fnCategoryFaultsRow.mainSum := by unfold Func.isWrapper; first | (rw [if_pos (by decide +kernel)]; kernel_rfl) | (rw [if_neg (by decide +kernel)]; exact ⟨rfl, rfl⟩)
theorem fnCategoryFaults_holds : Rows.FnCategoryFaultsSaid :=
  OpenClaim.holds_of_wide 4 Try.f4 rfl rfl rfl rfl rfl rfl rfl ⟨rfl, rfl, rfl, rfl, rfl⟩ rfl rfl rfl rfl rfl fnCategoryFaults_f1 Try.func4 fnCategoryFaults_f2
    fnCategoryFaults_f3 fnCategoryFaults_f4 (fun os started H enc _ => fnCategoryFaults_lifted os started H enc)
#print axioms fnCategoryFaults_holds
end Go.Proofs.Ytfanjkbaemhbmaa
