/- The law of FnSubobjects holds for all arguments. No condition. -/
import Derived.Test.YtolfggcanbpknaaZ12
import Derived.Test.YtolfggcanbpknaaRows
import Derived.Test.YtolfggcanbpknaaChecked
import Derived.ProofKit
namespace Go.Proofs.Ytolfggcanbpknaa
open Go Go.GL Go.ChangeShapes Go.WideShapes Go.ChangeAt Go.RowKit
theorem ownFnSubobjects : ownKnob Try.prog.godebug = none := by kernel_rfl
theorem laidFnSubobjects : laidOutB Try.prog = true := by kernel_rfl
set_option maxRecDepth 100000 in
theorem fnSubobjects_lifted (os : Os) (started : os.Started) (H : Type) (enc : TypeId × Value → H) :
    ReturnsInHanded {} Try.checked os 7 .any (Rows.fnSubobjectsSpec.pre6 enc Try.prog Try.f7 Rows.fnSubobjectsRow.domain false) (Rows.fnSubobjectsSpec.post enc Try.prog Try.f7 false true false false) := by
  refine returnsInHanded_of_change (C := Try.checked) ownFnSubobjects started (by kernel_rfl) Try.func7
    (ChangeSpec.witness6 (enc := enc) (C := Try.checked) false ⟨#[], #[.slice none 0 0], []⟩ 12 (by kernel_rfl) (by kernel_rfl) (by kernel_rfl) (by kernel_rfl)) ?_
  intro W base args ds gs before hval hW _ _
  exact law_calls (ts := [22]) (.cons (imp1_code (by kernel_rfl)) .nil) rfl (fun H gs h => by
    obtain ⟨_, _, rfl, ⟨a0, x0, rfl, h0, w0, v0⟩, rfl⟩ := h
    exact lawFnSubobjects_c h0 w0 v0) hval hW laidFnSubobjects (by kernel_rfl) rfl rfl (by kernel_rfl) (fun ds h => by
    match ds, h with
    | [_], _ => exact ⟨rfl, rfl, rfl⟩)
theorem fnSubobjects_f1 : (Try.pinned : Pinned).checked.prog.funcNamed Rows.fnSubobjectsRow.func = some 7 := by kernel_rfl
theorem fnSubobjects_f2 : joinedFacts (Try.pinned : Pinned).checked.prog 7 Try.f7 Rows.fnSubobjectsSpec Rows.fnSubobjectsRow = true := by kernel_rfl
theorem fnSubobjects_f3 : Try.f7.isInstance (Try.pinned : Pinned).checked.prog Rows.fnSubobjectsRow.origin Rows.fnSubobjectsRow.targs := of_decide_eq_true (by kernel_rfl)
theorem fnSubobjects_f4 : Try.f7.isWrapper (Try.pinned : Pinned).checked.prog Rows.fnSubobjectsRow.wrapper Rows.fnSubobjectsRow.mainSum := by unfold Func.isWrapper; first | (rw [if_pos (by decide +kernel)]; kernel_rfl) | (rw [if_neg (by decide +kernel)]; exact ⟨rfl, rfl⟩)
theorem fnSubobjects_holds : Rows.FnSubobjectsSaid :=
  OpenClaim.holds_of_wide 7 Try.f7 rfl rfl rfl rfl rfl rfl rfl ⟨rfl, rfl, rfl, rfl, rfl⟩ rfl rfl rfl rfl rfl fnSubobjects_f1 Try.func7 fnSubobjects_f2
    fnSubobjects_f3 fnSubobjects_f4 (fun os started H enc _ => fnSubobjects_lifted os started H enc)
#print axioms fnSubobjects_holds
end Go.Proofs.Ytolfggcanbpknaa
