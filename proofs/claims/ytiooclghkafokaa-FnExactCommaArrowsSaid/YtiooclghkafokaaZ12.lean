/- The law of CommaArrows holds for all arguments. No condition. -/
import Derived.Test.YtiooclghkafokaaZ11
import Derived.Test.YtiooclghkafokaaRows
import Derived.Test.YtiooclghkafokaaChecked
import Derived.ProofKit
namespace Go.Proofs.Ytiooclghkafokaa
open Go Go.GL Go.ChangeShapes Go.WideShapes Go.ChangeAt Go.RowKit
theorem ownCommaArrows : ownKnob Try.prog.godebug = none := by kernel_rfl
theorem laidCommaArrows : laidOutB Try.prog = true := by kernel_rfl
set_option maxRecDepth 100000 in
theorem commaArrows_lifted (os : Os) (started : os.Started) (H : Type) (enc : TypeId × Value → H) :
    ReturnsInHanded {} Try.checked os 5 .any (Rows.fnExactCommaArrowsSpec.pre6 enc Try.prog Try.f5 Rows.fnExactCommaArrowsRow.domain false) (Rows.fnExactCommaArrowsSpec.post enc Try.prog Try.f5 false true false false) := by
  refine returnsInHanded_of_change (C := Try.checked) ownCommaArrows started (by kernel_rfl) Try.func5
    (ChangeSpec.witness6 (enc := enc) (C := Try.checked) false ⟨#[], #[.agg #[.int .i64 0, .slice none 0 0, .slice none 0 0, .slice none 0 0, .slice none 0 0, .int .i64 0, .slice none 0 0, .slice none 0 0, .slice none 0 0, .slice none 0 0, .slice none 0 0, .slice none 0 0], .agg #[.int .i64 0, .slice none 0 0, .slice none 0 0, .slice none 0 0, .slice none 0 0, .int .i64 0, .slice none 0 0, .slice none 0 0, .slice none 0 0, .slice none 0 0, .slice none 0 0, .slice none 0 0]], []⟩ 12 (by kernel_rfl) (by kernel_rfl) (by kernel_rfl) (by kernel_rfl)) ?_
  intro W base args ds gs before hval hW _ _
  exact law_calls (ts := [41, 41]) (.cons (imp1_struct (cells := Fun.cells) (I := Fun.In) (W := Fun.Wide) Fun.In.mono (import_fun (by kernel_rfl)) (by kernel_rfl)) (.cons (imp1_struct (cells := Fun.cells) (I := Fun.In) (W := Fun.Wide) Fun.In.mono (import_fun (by kernel_rfl)) (by kernel_rfl)) .nil)) rfl (fun H gs h => by
    obtain ⟨_, _, rfl, ⟨c0, p0, rfl, h0, w0⟩, ⟨_, _, rfl, ⟨c1, p1, rfl, h1, w1⟩, rfl⟩⟩ := h
    exact lawCommaArrows_c h0 w0 h1 w1) hval hW laidCommaArrows (by kernel_rfl) rfl rfl (by kernel_rfl) (fun ds h => by
    match ds, h with
    | [_, _], _ => exact ⟨rfl, rfl, rfl⟩)
theorem commaArrows_f1 : (Try.pinned : Pinned).checked.prog.funcNamed Rows.fnExactCommaArrowsRow.func = some 5 := by kernel_rfl
theorem commaArrows_f2 : joinedFacts (Try.pinned : Pinned).checked.prog 5 Try.f5 Rows.fnExactCommaArrowsSpec Rows.fnExactCommaArrowsRow = true := by kernel_rfl
theorem commaArrows_f3 : Try.f5.isInstance (Try.pinned : Pinned).checked.prog Rows.fnExactCommaArrowsRow.origin Rows.fnExactCommaArrowsRow.targs := of_decide_eq_true (by kernel_rfl)
theorem commaArrows_f4 : Try.f5.isWrapper (Try.pinned : Pinned).checked.prog Rows.fnExactCommaArrowsRow.wrapper Rows.fnExactCommaArrowsRow.mainSum := by unfold Func.isWrapper; first | (rw [if_pos (by decide +kernel)]; kernel_rfl) | (rw [if_neg (by decide +kernel)]; exact ⟨rfl, rfl⟩)
theorem commaArrows_holds : Rows.FnExactCommaArrowsSaid :=
  OpenClaim.holds_of_wide 5 Try.f5 rfl rfl rfl rfl rfl rfl rfl ⟨rfl, rfl, rfl, rfl, rfl⟩ rfl rfl rfl rfl rfl commaArrows_f1 Try.func5 commaArrows_f2
    commaArrows_f3 commaArrows_f4 (fun os started H enc _ => commaArrows_lifted os started H enc)
#print axioms commaArrows_holds
end Go.Proofs.Ytiooclghkafokaa
