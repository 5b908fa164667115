/- The law of FnImages holds for all arguments. No condition. -/
import Derived.Test.YtolfggcanbpknaaZ13
import Derived.Test.YtolfggcanbpknaaRows
import Derived.Test.YtolfggcanbpknaaChecked
import Derived.ProofKit
namespace Go.Proofs.Ytolfggcanbpknaa
open Go Go.GL Go.ChangeShapes Go.WideShapes Go.ChangeAt Go.RowKit
theorem ownFnImages : ownKnob Try.prog.godebug = none := by kernel_rfl
theorem laidFnImages : laidOutB Try.prog = true := by kernel_rfl
set_option maxRecDepth 100000 in
theorem fnImages_lifted (os : Os) (started : os.Started) (H : Type) (enc : TypeId × Value → H) :
    ReturnsInHanded {} Try.checked os 8 .any (Rows.fnImagesSpec.pre6 enc Try.prog Try.f8 Rows.fnImagesRow.domain false) (Rows.fnImagesSpec.post enc Try.prog Try.f8 false true false false) := by
  refine returnsInHanded_of_change (C := Try.checked) ownFnImages started (by kernel_rfl) Try.func8
    (ChangeSpec.witness6 (enc := enc) (C := Try.checked) false ⟨#[], #[.slice none 0 0], []⟩ 12 (by kernel_rfl) (by kernel_rfl) (by kernel_rfl) (by kernel_rfl)) ?_
  intro W base args ds gs before hval hW _ _
  exact law_calls (ts := [22]) (.cons (imp1_code (by kernel_rfl)) .nil) rfl (fun H gs h => by
    obtain ⟨_, _, rfl, ⟨a0, x0, rfl, h0, w0, v0⟩, rfl⟩ := h
    exact lawFnImages_c h0 w0 v0) hval hW laidFnImages (by kernel_rfl) rfl rfl (by kernel_rfl) (fun ds h => by
    match ds, h with
    | [_], _ => exact ⟨rfl, rfl, rfl⟩)
theorem fnImages_f1 : (Try.pinned : Pinned).checked.prog.funcNamed Rows.fnImagesRow.func = some 8 := by kernel_rfl
theorem fnImages_f2 : joinedFacts (Try.pinned : Pinned).checked.prog 8 Try.f8 Rows.fnImagesSpec Rows.fnImagesRow = true := by kernel_rfl
theorem fnImages_f3 : Try.f8.isInstance (Try.pinned : Pinned).checked.prog Rows.fnImagesRow.origin Rows.fnImagesRow.targs := of_decide_eq_true (by kernel_rfl)
theorem fnImages_f4 : Try.f8.isWrapper (Try.pinned : Pinned).checked.prog Rows.fnImagesRow.wrapper Rows.fnImagesRow.mainSum := by unfold Func.isWrapper; first | (rw [if_pos (by decide +kernel)]; kernel_rfl) | (rw [if_neg (by decide +kernel)]; exact ⟨rfl, rfl⟩)
theorem fnImages_holds : Rows.FnImagesSaid :=
  OpenClaim.holds_of_wide 8 Try.f8 rfl rfl rfl rfl rfl rfl rfl ⟨rfl, rfl, rfl, rfl, rfl⟩ rfl rfl rfl rfl rfl fnImages_f1 Try.func8 fnImages_f2
    fnImages_f3 fnImages_f4 (fun os started H enc _ => fnImages_lifted os started H enc)
#print axioms fnImages_holds
end Go.Proofs.Ytolfggcanbpknaa
