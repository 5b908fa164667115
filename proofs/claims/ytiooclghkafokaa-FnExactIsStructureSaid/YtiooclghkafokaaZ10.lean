/- The law of IsStructure holds for all arguments. No condition. -/
import Derived.Test.YtiooclghkafokaaZ9
import Derived.Test.YtiooclghkafokaaRows
import Derived.Test.YtiooclghkafokaaChecked
import Derived.ProofKit
namespace Go.Proofs.Ytiooclghkafokaa
open Go Go.GL Go.ChangeShapes Go.WideShapes Go.ChangeAt Go.RowKit
theorem ownIsStructure : ownKnob Try.prog.godebug = none := by kernel_rfl
theorem laidIsStructure : laidOutB Try.prog = true := by kernel_rfl
set_option maxRecDepth 100000 in
theorem isStructure_lifted (os : Os) (started : os.Started) (H : Type) (enc : TypeId × Value → H) :
    ReturnsInHanded {} Try.checked os 7 .any (Rows.fnExactIsStructureSpec.pre6 enc Try.prog Try.f7 Rows.fnExactIsStructureRow.domain false) (Rows.fnExactIsStructureSpec.post enc Try.prog Try.f7 false true false false) := by
  refine returnsInHanded_of_change (C := Try.checked) ownIsStructure started (by kernel_rfl) Try.func7
    (ChangeSpec.witness6 (enc := enc) (C := Try.checked) false ⟨#[], #[.agg #[.slice none 0 0, .slice none 0 0]], []⟩ 12 (by kernel_rfl) (by kernel_rfl) (by kernel_rfl) (by kernel_rfl)) ?_
  intro W base args ds gs before hval hW _ _
  exact law_calls (ts := [54]) (.cons (imp1_struct (cells := Str.cells) (I := Str.In) (W := Str.Wide) Str.In.mono (import_str (by kernel_rfl)) (by kernel_rfl)) .nil) rfl (fun H gs h => by
    obtain ⟨_, _, rfl, ⟨c0, p0, rfl, h0, w0⟩, rfl⟩ := h
    exact lawIsStructure_c h0 w0) hval hW laidIsStructure (by kernel_rfl) rfl rfl (by kernel_rfl) (fun ds h => by
    match ds, h with
    | [_], _ => exact ⟨rfl, rfl, rfl⟩)
theorem isStructure_f1 : (Try.pinned : Pinned).checked.prog.funcNamed Rows.fnExactIsStructureRow.func = some 7 := by kernel_rfl
theorem isStructure_f2 : joinedFacts (Try.pinned : Pinned).checked.prog 7 Try.f7 Rows.fnExactIsStructureSpec Rows.fnExactIsStructureRow = true := by kernel_rfl
theorem isStructure_f3 : Try.f7.isInstance (Try.pinned : Pinned).checked.prog Rows.fnExactIsStructureRow.origin Rows.fnExactIsStructureRow.targs := of_decide_eq_true (by kernel_rfl)
theorem isStructure_f4 : Try.f7.isWrapper (Try.pinned : Pinned).checked.prog Rows.fnExactIsStructureRow.wrapper Rows.fnExactIsStructureRow.mainSum := by unfold Func.isWrapper; first | (rw [if_pos (by decide +kernel)]; kernel_rfl) | (rw [if_neg (by decide +kernel)]; exact ⟨rfl, rfl⟩)
theorem isStructure_holds : Rows.FnExactIsStructureSaid :=
  OpenClaim.holds_of_wide 7 Try.f7 rfl rfl rfl rfl rfl rfl rfl ⟨rfl, rfl, rfl, rfl, rfl⟩ rfl rfl rfl rfl rfl isStructure_f1 Try.func7 isStructure_f2
    isStructure_f3 isStructure_f4 (fun os started H enc _ => isStructure_lifted os started H enc)
#print axioms isStructure_holds
end Go.Proofs.Ytiooclghkafokaa
