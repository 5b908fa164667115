/- The law of FnTerminalObjects holds for all arguments. No condition. -/
import Derived.Test.YtppinbcdndmoaaaZ13
import Derived.Test.YtppinbcdndmoaaaRows
import Derived.Test.YtppinbcdndmoaaaChecked
import Derived.ProofKit
namespace Go.Proofs.Ytppinbcdndmoaaa
open Go Go.GL Go.ChangeShapes Go.WideShapes Go.ChangeAt Go.RowKit
theorem ownFnTerminalObjects : ownKnob Try.prog.godebug = none := by kernel_rfl
theorem laidFnTerminalObjects : laidOutB Try.prog = true := by kernel_rfl
set_option maxRecDepth 100000 in
theorem fnTerminalObjects_lifted (os : Os) (started : os.Started) (H : Type) (enc : TypeId × Value → H) :
    ReturnsInHanded {} Try.checked os 3 .any (Rows.fnTerminalObjectsSpec.pre6 enc Try.prog Try.f3 Rows.fnTerminalObjectsRow.domain false) (Rows.fnTerminalObjectsSpec.post enc Try.prog Try.f3 false true false false) := by
  refine returnsInHanded_of_change (C := Try.checked) ownFnTerminalObjects started (by kernel_rfl) Try.func3
    (ChangeSpec.witness6 (enc := enc) (C := Try.checked) false ⟨#[], #[.slice none 0 0], []⟩ 12 (by kernel_rfl) (by kernel_rfl) (by kernel_rfl) (by kernel_rfl)) ?_
  intro W base args ds gs before hval hW _ _
  exact law_calls (ts := [22]) (.cons (imp1_code (by kernel_rfl)) .nil) rfl (fun H gs h => by
    obtain ⟨_, _, rfl, ⟨a0, x0, rfl, h0, w0, v0⟩, rfl⟩ := h
    exact lawFnTerminalObjects_c h0 w0 v0) hval hW laidFnTerminalObjects (by kernel_rfl) rfl rfl (by kernel_rfl) (fun ds h => by
    match ds, h with
    | [_], _ => exact ⟨rfl, rfl, rfl⟩)
theorem fnTerminalObjects_f1 : (Try.pinned : Pinned).checked.prog.funcNamed Rows.fnTerminalObjectsRow.func = some 3 := by kernel_rfl
theorem fnTerminalObjects_f2 : joinedFacts (Try.pinned : Pinned).checked.prog 3 Try.f3 Rows.fnTerminalObjectsSpec Rows.fnTerminalObjectsRow = true := by kernel_rfl
theorem fnTerminalObjects_f3 : Try.f3.isInstance (Try.pinned : Pinned).checked.prog Rows.fnTerminalObjectsRow.origin Rows.fnTerminalObjectsRow.targs := of_decide_eq_true (by kernel_rfl)
theorem fnTerminalObjects_f4 : Try.f3.isWrapper (Try.pinned : Pinned).checked.prog Rows.fnTerminalObjectsRow.wrapper Rows.fnTerminalObjectsRow.mainSum := by unfold Func.isWrapper; first | (rw [if_pos (by decide +kernel)]; kernel_rfl) | (rw [if_neg (by decide +kernel)]; exact ⟨rfl, rfl⟩)
theorem fnTerminalObjects_holds : Rows.FnTerminalObjectsSaid :=
  OpenClaim.holds_of_wide 3 Try.f3 rfl rfl rfl rfl rfl rfl rfl ⟨rfl, rfl, rfl, rfl, rfl⟩ rfl rfl rfl rfl rfl fnTerminalObjects_f1 Try.func3 fnTerminalObjects_f2
    fnTerminalObjects_f3 fnTerminalObjects_f4 (fun os started H enc _ => fnTerminalObjects_lifted os started H enc)
#print axioms fnTerminalObjects_holds
end Go.Proofs.Ytppinbcdndmoaaa
