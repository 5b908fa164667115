/- The law of IsSetMap holds for all arguments. No condition. -/
import Derived.Test.YtfffkhjifgkhiaaS
import Derived.Test.YtfffkhjifgkhiaaGlS
import Derived.Test.YtfffkhjifgkhiaaRows
import Derived.Test.YtfffkhjifgkhiaaChecked
import Derived.ProofKit
namespace Go.Proofs.Ytfffkhjifgkhiaa
open Go Go.GL Go.ChangeShapes Go.WideShapes Go.ChangeAt Go.RowKit
theorem ownIsSetMap : ownKnob Try.prog.godebug = none := by kernel_rfl
theorem laidIsSetMap : laidOutB Try.prog = true := by kernel_rfl
set_option maxRecDepth 100000 in
theorem isSetMap_lifted (os : Os) (started : os.Started) (H : Type) (enc : TypeId × Value → H) :
    ReturnsInHanded {} Try.checked os 4 .any (Rows.fnExactIsSetMapSpec.pre6 enc Try.prog Try.f4 Rows.fnExactIsSetMapRow.domain false) (Rows.fnExactIsSetMapSpec.post enc Try.prog Try.f4 false true false false) := by
  refine returnsInHanded_of_change (C := Try.checked) ownIsSetMap started (by kernel_rfl) Try.func4
    (ChangeSpec.witness6 (enc := enc) (C := Try.checked) false ⟨#[], #[.agg #[.int .i64 0, .slice none 0 0, .slice none 0 0, .slice none 0 0, .slice none 0 0, .slice none 0 0, .slice none 0 0, .int .i64 0, .slice none 0 0, .slice none 0 0, .slice none 0 0, .slice none 0 0, .slice none 0 0, .slice none 0 0, .slice none 0 0]], []⟩ 12 (by kernel_rfl) (by kernel_rfl) (by kernel_rfl) (by kernel_rfl)) ?_
  intro W base args ds gs before hval hW _ _
  exact law_calls (ts := [44]) (.cons (imp1_struct (cells := SMap.cells) (I := SMap.In) (W := SMap.Wide) SMap.In.mono (import_smap (by kernel_rfl)) (by kernel_rfl)) .nil) rfl (fun H gs h => by
    obtain ⟨_, _, rfl, ⟨c0, p0, rfl, h0, w0⟩, rfl⟩ := h
    exact lawIsSetMap_c h0 w0) hval hW laidIsSetMap (by kernel_rfl) rfl rfl (by kernel_rfl) (fun ds h => by
    match ds, h with
    | [_], _ => exact ⟨rfl, rfl, rfl⟩)
theorem isSetMap_f1 : (Try.pinned : Pinned).checked.prog.funcNamed Rows.fnExactIsSetMapRow.func = some 4 := by kernel_rfl
theorem isSetMap_f2 : joinedFacts (Try.pinned : Pinned).checked.prog 4 Try.f4 Rows.fnExactIsSetMapSpec Rows.fnExactIsSetMapRow = true := by kernel_rfl
theorem isSetMap_f3 : Try.f4.isInstance (Try.pinned : Pinned).checked.prog Rows.fnExactIsSetMapRow.origin Rows.fnExactIsSetMapRow.targs := of_decide_eq_true (by kernel_rfl)
theorem isSetMap_f4 : Try.f4.isWrapper (Try.pinned : Pinned).checked.prog Rows.fnExactIsSetMapRow.wrapper Rows.fnExactIsSetMapRow.mainSum := by unfold Func.isWrapper; first | (rw [if_pos (by decide +kernel)]; kernel_rfl) | (rw [if_neg (by decide +kernel)]; exact ⟨rfl, rfl⟩)
theorem isSetMap_holds : Rows.FnExactIsSetMapSaid :=
  OpenClaim.holds_of_wide 4 Try.f4 rfl rfl rfl rfl rfl rfl rfl ⟨rfl, rfl, rfl, rfl, rfl⟩ rfl rfl rfl rfl rfl isSetMap_f1 Try.func4 isSetMap_f2
    isSetMap_f3 isSetMap_f4 (fun os started H enc _ => isSetMap_lifted os started H enc)
#print axioms isSetMap_holds
end Go.Proofs.Ytfffkhjifgkhiaa
