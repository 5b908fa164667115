/- The law of CompositeClasses holds for all arguments. No condition. -/
import Derived.Test.YtgnfekfdmgnhcaaZ12
import Derived.Test.YtgnfekfdmgnhcaaRows
import Derived.Test.YtgnfekfdmgnhcaaChecked
import Derived.ProofKit
namespace Go.Proofs.Ytgnfekfdmgnhcaa
open Go Go.GL Go.ChangeShapes Go.WideShapes Go.ChangeAt Go.RowKit
theorem ownCompositeClasses : ownKnob Try.prog.godebug = none := by kernel_rfl
theorem laidCompositeClasses : laidOutB Try.prog = true := by kernel_rfl
set_option maxRecDepth 100000 in
theorem compositeClasses_lifted (os : Os) (started : os.Started) (H : Type) (enc : TypeId × Value → H) :
    ReturnsInHanded {} Try.checked os 6 .any (Rows.fnExactCompositeClassesSpec.pre6 enc Try.prog Try.f6 Rows.fnExactCompositeClassesRow.domain false) (Rows.fnExactCompositeClassesSpec.post enc Try.prog Try.f6 false true false false) := by
  refine returnsInHanded_of_change (C := Try.checked) ownCompositeClasses started (by kernel_rfl) Try.func6
    (ChangeSpec.witness6 (enc := enc) (C := Try.checked) false ⟨#[], #[.agg #[.int .i64 0, .slice none 0 0, .slice none 0 0, .slice none 0 0, .slice none 0 0, .int .i64 0, .slice none 0 0, .slice none 0 0, .slice none 0 0, .slice none 0 0, .slice none 0 0, .slice none 0 0, .slice none 0 0], .agg #[.int .i64 0, .slice none 0 0, .slice none 0 0, .slice none 0 0, .slice none 0 0, .int .i64 0, .slice none 0 0, .slice none 0 0, .slice none 0 0, .slice none 0 0, .slice none 0 0, .slice none 0 0, .slice none 0 0], .int .i64 0, .int .i64 0], []⟩ 12 (by kernel_rfl) (by kernel_rfl) (by kernel_rfl) (by kernel_rfl)) ?_
  intro W base args ds gs before hval hW _ _
  exact law_calls (ts := [36, 36, 2, 2]) (.cons (imp1_struct (cells := Prof.cells) (I := Prof.In) (W := Prof.Wide) Prof.In.mono (import_prof (by kernel_rfl)) (by kernel_rfl)) (.cons (imp1_struct (cells := Prof.cells) (I := Prof.In) (W := Prof.Wide) Prof.In.mono (import_prof (by kernel_rfl)) (by kernel_rfl)) (.cons (imp1_int (by kernel_rfl)) (.cons (imp1_int (by kernel_rfl)) .nil)))) rfl (fun H gs h => by
    obtain ⟨_, _, rfl, ⟨c0, p0, rfl, h0, w0⟩, ⟨_, _, rfl, ⟨c1, p1, rfl, h1, w1⟩, ⟨_, _, rfl, ⟨n2, rfl, w2⟩, ⟨_, _, rfl, ⟨n3, rfl, w3⟩, rfl⟩⟩⟩⟩ := h
    exact lawCompositeClasses_c h0 w0 h1 w1 w2 w3) hval hW laidCompositeClasses (by kernel_rfl) rfl rfl (by kernel_rfl) (fun ds h => by
    match ds, h with
    | [_, _, _, _], _ => exact ⟨rfl, rfl, rfl⟩)
theorem compositeClasses_f1 : (Try.pinned : Pinned).checked.prog.funcNamed Rows.fnExactCompositeClassesRow.func = some 6 := by kernel_rfl
theorem compositeClasses_f2 : joinedFacts (Try.pinned : Pinned).checked.prog 6 Try.f6 Rows.fnExactCompositeClassesSpec Rows.fnExactCompositeClassesRow = true := by kernel_rfl
theorem compositeClasses_f3 : Try.f6.isInstance (Try.pinned : Pinned).checked.prog Rows.fnExactCompositeClassesRow.origin Rows.fnExactCompositeClassesRow.targs := of_decide_eq_true (by kernel_rfl)
theorem compositeClasses_f4 : Try.f6.isWrapper (Try.pinned : Pinned).checked.prog Rows.fnExactCompositeClassesRow.wrapper Rows.fnExactCompositeClassesRow.mainSum := by unfold Func.isWrapper; first | (rw [if_pos (by decide +kernel)]; kernel_rfl) | (rw [if_neg (by decide +kernel)]; exact ⟨rfl, rfl⟩)
theorem compositeClasses_holds : Rows.FnExactCompositeClassesSaid :=
  OpenClaim.holds_of_wide 6 Try.f6 rfl rfl rfl rfl rfl rfl rfl ⟨rfl, rfl, rfl, rfl, rfl⟩ rfl rfl rfl rfl rfl compositeClasses_f1 Try.func6 compositeClasses_f2
    compositeClasses_f3 compositeClasses_f4 (fun os started H enc _ => compositeClasses_lifted os started H enc)
#print axioms compositeClasses_holds
end Go.Proofs.Ytgnfekfdmgnhcaa
