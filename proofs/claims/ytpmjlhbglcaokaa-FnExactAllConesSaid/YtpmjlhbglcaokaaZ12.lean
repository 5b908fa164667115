/- The law of AllCones holds for all arguments. No condition. -/
import Derived.Test.YtpmjlhbglcaokaaZ11
import Derived.Test.YtpmjlhbglcaokaaRows
import Derived.Test.YtpmjlhbglcaokaaChecked
import Derived.ProofKit
namespace Go.Proofs.Ytpmjlhbglcaokaa
open Go Go.GL Go.ChangeShapes Go.WideShapes Go.ChangeAt Go.RowKit
theorem ownAllCones : ownKnob Try.prog.godebug = none := by kernel_rfl
theorem laidAllCones : laidOutB Try.prog = true := by kernel_rfl
set_option maxRecDepth 100000 in
theorem allCones_lifted (os : Os) (started : os.Started) (H : Type) (enc : TypeId × Value → H) :
    ReturnsInHanded {} Try.checked os 3 .any (Rows.fnExactAllConesSpec.pre6 enc Try.prog Try.f3 Rows.fnExactAllConesRow.domain false) (Rows.fnExactAllConesSpec.post enc Try.prog Try.f3 false true false false) := by
  refine returnsInHanded_of_change (C := Try.checked) ownAllCones started (by kernel_rfl) Try.func3
    (ChangeSpec.witness6 (enc := enc) (C := Try.checked) false ⟨#[], #[.agg #[.int .i64 0, .slice none 0 0, .slice none 0 0, .slice none 0 0, .slice none 0 0, .int .i64 0, .slice none 0 0, .slice none 0 0, .slice none 0 0, .slice none 0 0, .slice none 0 0, .slice none 0 0]], []⟩ 12 (by kernel_rfl) (by kernel_rfl) (by kernel_rfl) (by kernel_rfl)) ?_
  intro W base args ds gs before hval hW _ _
  exact law_calls (ts := [27]) (.cons (imp1_struct (cells := Fun.cells) (I := Fun.In) (W := Fun.Wide) Fun.In.mono (import_fun (by kernel_rfl)) (by kernel_rfl)) .nil) rfl (fun H gs h => by
    obtain ⟨_, _, rfl, ⟨c0, p0, rfl, h0, w0⟩, rfl⟩ := h
    exact lawAllCones_c h0 w0) hval hW laidAllCones (by kernel_rfl) rfl rfl (by kernel_rfl) (fun ds h => by
    match ds, h with
    | [_], _ => exact ⟨rfl, rfl, rfl⟩)
theorem allCones_f1 : (Try.pinned : Pinned).checked.prog.funcNamed Rows.fnExactAllConesRow.func = some 3 := by kernel_rfl
theorem allCones_f2 : joinedFacts (Try.pinned : Pinned).checked.prog 3 Try.f3 Rows.fnExactAllConesSpec Rows.fnExactAllConesRow = true := by kernel_rfl
theorem allCones_f3 : Try.f3.isInstance (Try.pinned : Pinned).checked.prog Rows.fnExactAllConesRow.origin Rows.fnExactAllConesRow.targs := of_decide_eq_true (by kernel_rfl)
theorem allCones_f4 : Try.f3.isWrapper (Try.pinned : Pinned).checked.prog Rows.fnExactAllConesRow.wrapper Rows.fnExactAllConesRow.mainSum := by unfold Func.isWrapper; first | (rw [if_pos (by decide +kernel)]; kernel_rfl) | (rw [if_neg (by decide +kernel)]; exact ⟨rfl, rfl⟩)
theorem allCones_holds : Rows.FnExactAllConesSaid :=
  OpenClaim.holds_of_wide 3 Try.f3 rfl rfl rfl rfl rfl rfl rfl ⟨rfl, rfl, rfl, rfl, rfl⟩ rfl rfl rfl rfl rfl allCones_f1 Try.func3 allCones_f2
    allCones_f3 allCones_f4 (fun os started H enc _ => allCones_lifted os started H enc)
#print axioms allCones_holds
end Go.Proofs.Ytpmjlhbglcaokaa
