/- The law of CommaObjects holds for all arguments. No condition. -/
import Derived.Test.YtiooclghkafokaaZ11
import Derived.Test.YtiooclghkafokaaRows
import Derived.Test.YtiooclghkafokaaChecked
import Derived.ProofKit
namespace Go.Proofs.Ytiooclghkafokaa
open Go Go.GL Go.ChangeShapes Go.WideShapes Go.ChangeAt Go.RowKit
theorem ownCommaObjects : ownKnob Try.prog.godebug = none := by kernel_rfl
theorem laidCommaObjects : laidOutB Try.prog = true := by kernel_rfl
set_option maxRecDepth 100000 in
theorem commaObjects_lifted (os : Os) (started : os.Started) (H : Type) (enc : TypeId × Value → H) :
    ReturnsInHanded {} Try.checked os 6 .any (Rows.fnExactCommaObjectsSpec.pre6 enc Try.prog Try.f6 Rows.fnExactCommaObjectsRow.domain false) (Rows.fnExactCommaObjectsSpec.post enc Try.prog Try.f6 false true false false) := by
  refine returnsInHanded_of_change (C := Try.checked) ownCommaObjects started (by kernel_rfl) Try.func6
    (ChangeSpec.witness6 (enc := enc) (C := Try.checked) false ⟨#[], #[.agg #[.int .i64 0, .slice none 0 0, .slice none 0 0, .slice none 0 0, .slice none 0 0, .int .i64 0, .slice none 0 0, .slice none 0 0, .slice none 0 0, .slice none 0 0, .slice none 0 0, .slice none 0 0], .agg #[.int .i64 0, .slice none 0 0, .slice none 0 0, .slice none 0 0, .slice none 0 0, .int .i64 0, .slice none 0 0, .slice none 0 0, .slice none 0 0, .slice none 0 0, .slice none 0 0, .slice none 0 0]], []⟩ 12 (by kernel_rfl) (by kernel_rfl) (by kernel_rfl) (by kernel_rfl)) ?_
  intro W base args ds gs before hval hW _ _
  exact law_calls (ts := [41, 41]) (.cons (imp1_struct (cells := Fun.cells) (I := Fun.In) (W := Fun.Wide) Fun.In.mono (import_fun (by kernel_rfl)) (by kernel_rfl)) (.cons (imp1_struct (cells := Fun.cells) (I := Fun.In) (W := Fun.Wide) Fun.In.mono (import_fun (by kernel_rfl)) (by kernel_rfl)) .nil)) rfl (fun H gs h => by
    obtain ⟨_, _, rfl, ⟨c0, p0, rfl, h0, w0⟩, ⟨_, _, rfl, ⟨c1, p1, rfl, h1, w1⟩, rfl⟩⟩ := h
    exact lawCommaObjects_c h0 w0 h1 w1) hval hW laidCommaObjects (by kernel_rfl) rfl rfl (by kernel_rfl) (fun ds h => by
    match ds, h with
    | [_, _], _ => exact ⟨rfl, rfl, rfl⟩)
theorem commaObjects_f1 : (Try.pinned : Pinned).checked.prog.funcNamed Rows.fnExactCommaObjectsRow.func = some 6 := by kernel_rfl
theorem commaObjects_f2 : joinedFacts (Try.pinned : Pinned).checked.prog 6 Try.f6 Rows.fnExactCommaObjectsSpec Rows.fnExactCommaObjectsRow = true := by kernel_rfl
theorem commaObjects_f3 : Try.f6.isInstance (Try.pinned : Pinned).checked.prog Rows.fnExactCommaObjectsRow.origin Rows.fnExactCommaObjectsRow.targs := of_decide_eq_true (by kernel_rfl)
theorem commaObjects_f4 : Try.f6.isWrapper (Try.pinned : Pinned).checked.prog Rows.fnExactCommaObjectsRow.wrapper Rows.fnExactCommaObjectsRow.mainSum := by unfold Func.isWrapper; first | (rw [if_pos (by decide +kernel)]; kernel_rfl) | (rw [if_neg (by decide +kernel)]; exact ⟨rfl, rfl⟩)
theorem commaObjects_holds : Rows.FnExactCommaObjectsSaid :=
  OpenClaim.holds_of_wide 6 Try.f6 rfl rfl rfl rfl rfl rfl rfl ⟨rfl, rfl, rfl, rfl, rfl⟩ rfl rfl rfl rfl rfl commaObjects_f1 Try.func6 commaObjects_f2
    commaObjects_f3 commaObjects_f4 (fun os started H enc _ => commaObjects_lifted os started H enc)
#print axioms commaObjects_holds
end Go.Proofs.Ytiooclghkafokaa
