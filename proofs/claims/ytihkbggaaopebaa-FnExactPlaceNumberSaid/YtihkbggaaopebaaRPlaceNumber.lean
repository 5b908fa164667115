/- The law of PlaceNumber holds for all arguments. No condition. -/
import Derived.Test.YtihkbggaaopebaaY
import Derived.Test.YtihkbggaaopebaaGlS
import Derived.Test.YtihkbggaaopebaaRows
import Derived.Test.YtihkbggaaopebaaChecked
import Derived.ProofKit
namespace Go.Proofs.Ytihkbggaaopebaa
open Go Go.GL Go.ChangeShapes Go.WideShapes Go.ChangeAt Go.RowKit
theorem ownPlaceNumber : ownKnob Try.prog.godebug = none := by kernel_rfl
theorem laidPlaceNumber : laidOutB Try.prog = true := by kernel_rfl
set_option maxRecDepth 100000 in
theorem placeNumber_lifted (os : Os) (started : os.Started) (H : Type) (enc : TypeId × Value → H) :
    ReturnsInHanded {} Try.checked os 4 .any (Rows.fnExactPlaceNumberSpec.pre6 enc Try.prog Try.f4 Rows.fnExactPlaceNumberRow.domain false) (Rows.fnExactPlaceNumberSpec.post enc Try.prog Try.f4 false true false false) := by
  refine returnsInHanded_of_change (C := Try.checked) ownPlaceNumber started (by kernel_rfl) Try.func4
    (ChangeSpec.witness6 (enc := enc) (C := Try.checked) false ⟨#[], #[.agg #[.int .i64 0, .slice none 0 0, .slice none 0 0, .slice none 0 0, .slice none 0 0, .int .i64 0, .slice none 0 0, .slice none 0 0, .slice none 0 0, .slice none 0 0, .slice none 0 0, .slice none 0 0, .slice none 0 0], .int .i64 0, .int .i64 0], []⟩ 12 (by kernel_rfl) (by kernel_rfl) (by kernel_rfl) (by kernel_rfl)) ?_
  intro W base args ds gs before hval hW _ _
  exact law_calls (ts := [28, 2, 2]) (.cons (imp1_struct (cells := Prof.cells) (I := Prof.In) (W := Prof.Wide) Prof.In.mono (import_prof (by kernel_rfl)) (by kernel_rfl)) (.cons (imp1_int (by kernel_rfl)) (.cons (imp1_int (by kernel_rfl)) .nil))) rfl (fun H gs h => by
    obtain ⟨_, _, rfl, ⟨c0, p0, rfl, h0, w0⟩, ⟨_, _, rfl, ⟨n1, rfl, w1⟩, ⟨_, _, rfl, ⟨n2, rfl, w2⟩, rfl⟩⟩⟩ := h
    exact lawPlaceNumber_c h0 w0) hval hW laidPlaceNumber (by kernel_rfl) rfl rfl (by kernel_rfl) (fun ds h => by
    match ds, h with
    | [_, _, _], _ => exact ⟨rfl, rfl, rfl⟩)
theorem placeNumber_f1 : (Try.pinned : Pinned).checked.prog.funcNamed Rows.fnExactPlaceNumberRow.func = some 4 := by kernel_rfl
theorem placeNumber_f2 : joinedFacts (Try.pinned : Pinned).checked.prog 4 Try.f4 Rows.fnExactPlaceNumberSpec Rows.fnExactPlaceNumberRow = true := by kernel_rfl
theorem placeNumber_f3 : Try.f4.isInstance (Try.pinned : Pinned).checked.prog Rows.fnExactPlaceNumberRow.origin Rows.fnExactPlaceNumberRow.targs := of_decide_eq_true (by kernel_rfl)
theorem placeNumber_f4 : Try.f4.isWrapper (Try.pinned : Pinned).checked.prog Rows.fnExactPlaceNumberRow.wrapper Rows.fnExactPlaceNumberRow.mainSum := by unfold Func.isWrapper; first | (rw [if_pos (by decide +kernel)]; kernel_rfl) | (rw [if_neg (by decide +kernel)]; exact ⟨rfl, rfl⟩)
theorem placeNumber_holds : Rows.FnExactPlaceNumberSaid :=
  OpenClaim.holds_of_wide 4 Try.f4 rfl rfl rfl rfl rfl rfl rfl ⟨rfl, rfl, rfl, rfl, rfl⟩ rfl rfl rfl rfl rfl placeNumber_f1 Try.func4 placeNumber_f2
    placeNumber_f3 placeNumber_f4 (fun os started H enc _ => placeNumber_lifted os started H enc)
#print axioms placeNumber_holds
end Go.Proofs.Ytihkbggaaopebaa
