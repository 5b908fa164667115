/- The law of FnOpposites holds for all arguments. No condition. -/
import Derived.Test.YtolfggcanbpknaaZ12
import Derived.Test.YtolfggcanbpknaaRows
import Derived.Test.YtolfggcanbpknaaChecked
import Derived.ProofKit
namespace Go.Proofs.Ytolfggcanbpknaa
open Go Go.GL Go.ChangeShapes Go.WideShapes Go.ChangeAt Go.RowKit
theorem ownFnOpposites : ownKnob Try.prog.godebug = none := by kernel_rfl
theorem laidFnOpposites : laidOutB Try.prog = true := by kernel_rfl
set_option maxRecDepth 100000 in
theorem fnOpposites_lifted (os : Os) (started : os.Started) (H : Type) (enc : TypeId × Value → H) :
    ReturnsInHanded {} Try.checked os 6 .any (Rows.fnOppositesSpec.pre6 enc Try.prog Try.f6 Rows.fnOppositesRow.domain false) (Rows.fnOppositesSpec.post enc Try.prog Try.f6 false true false false) := by
  refine returnsInHanded_of_change (C := Try.checked) ownFnOpposites started (by kernel_rfl) Try.func6
    (ChangeSpec.witness6 (enc := enc) (C := Try.checked) false ⟨#[], #[.slice none 0 0], []⟩ 12 (by kernel_rfl) (by kernel_rfl) (by kernel_rfl) (by kernel_rfl)) ?_
  intro W base args ds gs before hval hW _ _
  exact law_calls (ts := [22]) (.cons (imp1_code (by kernel_rfl)) .nil) rfl (fun H gs h => by
    obtain ⟨_, _, rfl, ⟨a0, x0, rfl, h0, w0, v0⟩, rfl⟩ := h
    exact lawFnOpposites_c h0 w0 v0) hval hW laidFnOpposites (by kernel_rfl) rfl rfl (by kernel_rfl) (fun ds h => by
    match ds, h with
    | [_], _ => exact ⟨rfl, rfl, rfl⟩)
theorem fnOpposites_f1 : (Try.pinned : Pinned).checked.prog.funcNamed Rows.fnOppositesRow.func = some 6 := by kernel_rfl
theorem fnOpposites_f2 : joinedFacts (Try.pinned : Pinned).checked.prog 6 Try.f6 Rows.fnOppositesSpec Rows.fnOppositesRow = true := by kernel_rfl
theorem fnOpposites_f3 : Try.f6.isInstance (Try.pinned : Pinned).checked.prog Rows.fnOppositesRow.origin Rows.fnOppositesRow.targs := of_decide_eq_true (by kernel_rfl)
theorem fnOpposites_f4 : Try.f6.isWrapper (Try.pinned : Pinned).checked.prog Rows.fnOppositesRow.wrapper Rows.fnOppositesRow.mainSum := by unfold Func.isWrapper; first | (rw [if_pos (by decide +kernel)]; kernel_rfl) | (rw [if_neg (by decide +kernel)]; exact ⟨rfl, rfl⟩)
theorem fnOpposites_holds : Rows.FnOppositesSaid :=
  OpenClaim.holds_of_wide 6 Try.f6 rfl rfl rfl rfl rfl rfl rfl ⟨rfl, rfl, rfl, rfl, rfl⟩ rfl rfl rfl rfl rfl fnOpposites_f1 Try.func6 fnOpposites_f2
    fnOpposites_f3 fnOpposites_f4 (fun os started H enc _ => fnOpposites_lifted os started H enc)
#print axioms fnOpposites_holds
end Go.Proofs.Ytolfggcanbpknaa
