/- The law of FnConservative holds for all arguments. No condition. -/
import Derived.Test.YtfanjkbaemhbmaaZ13
import Derived.Test.YtfanjkbaemhbmaaRows
import Derived.Test.YtfanjkbaemhbmaaChecked
import Derived.ProofKit
namespace Go.Proofs.Ytfanjkbaemhbmaa
open Go Go.GL Go.ChangeShapes Go.WideShapes Go.ChangeAt Go.RowKit
theorem ownFnConservative : ownKnob Try.prog.godebug = none := by kernel_rfl
theorem laidFnConservative : laidOutB Try.prog = true := by kernel_rfl
set_option maxRecDepth 100000 in
theorem fnConservative_lifted (os : Os) (started : os.Started) (H : Type) (enc : TypeId × Value → H) :
    ReturnsInHanded {} Try.checked os 5 .any (Rows.fnConservativeSpec.pre6 enc Try.prog Try.f5 Rows.fnConservativeRow.domain false) (Rows.fnConservativeSpec.post enc Try.prog Try.f5 false true false false) := by
  refine returnsInHanded_of_change (C := Try.checked) ownFnConservative started (by kernel_rfl) Try.func5
    (ChangeSpec.witness6 (enc := enc) (C := Try.checked) false ⟨#[], #[.slice none 0 0], []⟩ 12 (by kernel_rfl) (by kernel_rfl) (by kernel_rfl) (by kernel_rfl)) ?_
  intro W base args ds gs before hval hW _ _
  exact law_calls (ts := [22]) (.cons (imp1_code (by kernel_rfl)) .nil) rfl (fun H gs h => by
    obtain ⟨_, _, rfl, ⟨a0, x0, rfl, h0, w0, v0⟩, rfl⟩ := h
    exact lawFnConservative_c h0 w0 v0) hval hW laidFnConservative (by kernel_rfl) rfl rfl (by kernel_rfl) (fun ds h => by
    match ds, h with
    | [_], _ => exact ⟨rfl, rfl, rfl⟩)
theorem fnConservative_f1 : (Try.pinned : Pinned).checked.prog.funcNamed Rows.fnConservativeRow.func = some 5 := by kernel_rfl
theorem fnConservative_f2 : joinedFacts (Try.pinned : Pinned).checked.prog 5 Try.f5 Rows.fnConservativeSpec Rows.fnConservativeRow = true := by kernel_rfl
theorem fnConservative_f3 : Try.f5.isInstance (Try.pinned : Pinned).checked.prog Rows.fnConservativeRow.origin Rows.fnConservativeRow.targs := of_decide_eq_true (by kernel_rfl)
theorem fnConservative_f4 : Try.f5.isWrapper (Try.pinned : Pinned).checked.prog Rows.fnConservativeRow.wrapper Rows.fnConservativeRow.mainSum := by unfold Func.isWrapper; first | (rw [if_pos (by decide +kernel)]; kernel_rfl) | (rw [if_neg (by decide +kernel)]; exact ⟨rfl, rfl⟩)
theorem fnConservative_holds : Rows.FnConservativeSaid :=
  OpenClaim.holds_of_wide 5 Try.f5 rfl rfl rfl rfl rfl rfl rfl ⟨rfl, rfl, rfl, rfl, rfl⟩ rfl rfl rfl rfl rfl fnConservative_f1 Try.func5 fnConservative_f2
    fnConservative_f3 fnConservative_f4 (fun os started H enc _ => fnConservative_lifted os started H enc)
#print axioms fnConservative_holds
end Go.Proofs.Ytfanjkbaemhbmaa
