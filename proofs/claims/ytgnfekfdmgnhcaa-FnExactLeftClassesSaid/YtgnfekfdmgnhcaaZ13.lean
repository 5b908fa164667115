/- The law of LeftClasses holds for all arguments. No condition. -/
import Derived.Test.YtgnfekfdmgnhcaaZ12
import Derived.Test.YtgnfekfdmgnhcaaRows
import Derived.Test.YtgnfekfdmgnhcaaChecked
import Derived.ProofKit
namespace Go.Proofs.Ytgnfekfdmgnhcaa
open Go Go.GL Go.ChangeShapes Go.WideShapes Go.ChangeAt Go.RowKit
theorem ownLeftClasses : ownKnob Try.prog.godebug = none := by kernel_rfl
theorem laidLeftClasses : laidOutB Try.prog = true := by kernel_rfl
set_option maxRecDepth 100000 in
theorem leftClasses_lifted (os : Os) (started : os.Started) (H : Type) (enc : TypeId × Value → H) :
    ReturnsInHanded {} Try.checked os 7 .any (Rows.fnExactLeftClassesSpec.pre6 enc Try.prog Try.f7 Rows.fnExactLeftClassesRow.domain false) (Rows.fnExactLeftClassesSpec.post enc Try.prog Try.f7 false true false false) := by
  refine returnsInHanded_of_change (C := Try.checked) ownLeftClasses started (by kernel_rfl) Try.func7
    (ChangeSpec.witness6 (enc := enc) (C := Try.checked) false ⟨#[], #[.agg #[.int .i64 0, .slice none 0 0, .slice none 0 0, .slice none 0 0, .slice none 0 0, .int .i64 0, .slice none 0 0, .slice none 0 0, .slice none 0 0, .slice none 0 0, .slice none 0 0, .slice none 0 0], .agg #[.int .i64 0, .slice none 0 0, .slice none 0 0, .slice none 0 0, .slice none 0 0, .slice none 0 0, .slice none 0 0], .int .i64 0], []⟩ 12 (by kernel_rfl) (by kernel_rfl) (by kernel_rfl) (by kernel_rfl)) ?_
  intro W base args ds gs before hval hW _ _
  exact law_calls (ts := [55, 57, 2]) (.cons (imp1_struct (cells := Fun.cells) (I := Fun.In) (W := Fun.Wide) Fun.In.mono (import_fun (by kernel_rfl)) (by kernel_rfl)) (.cons (imp1_struct (cells := SFun.cells) (I := SFun.In) (W := SFun.Wide) SFun.In.mono (import_sfun (by kernel_rfl)) (by kernel_rfl)) (.cons (imp1_int (by kernel_rfl)) .nil))) rfl (fun H gs h => by
    obtain ⟨_, _, rfl, ⟨c0, p0, rfl, h0, w0⟩, ⟨_, _, rfl, ⟨c1, p1, rfl, h1, w1⟩, ⟨_, _, rfl, ⟨n2, rfl, w2⟩, rfl⟩⟩⟩ := h
    exact lawLeftClasses_c h0 w0 h1 w1 w2) hval hW laidLeftClasses (by kernel_rfl) rfl rfl (by kernel_rfl) (fun ds h => by
    match ds, h with
    | [_, _, _], _ => exact ⟨rfl, rfl, rfl⟩)
theorem leftClasses_f1 : (Try.pinned : Pinned).checked.prog.funcNamed Rows.fnExactLeftClassesRow.func = some 7 := by kernel_rfl
theorem leftClasses_f2 : joinedFacts (Try.pinned : Pinned).checked.prog 7 Try.f7 Rows.fnExactLeftClassesSpec Rows.fnExactLeftClassesRow = true := by kernel_rfl
theorem leftClasses_f3 : Try.f7.isInstance (Try.pinned : Pinned).checked.prog Rows.fnExactLeftClassesRow.origin Rows.fnExactLeftClassesRow.targs := of_decide_eq_true (by kernel_rfl)
theorem leftClasses_f4 : Try.f7.isWrapper (Try.pinned : Pinned).checked.prog Rows.fnExactLeftClassesRow.wrapper Rows.fnExactLeftClassesRow.mainSum := by unfold Func.isWrapper; first | (rw [if_pos (by decide +kernel)]; kernel_rfl) | (rw [if_neg (by decide +kernel)]; exact ⟨rfl, rfl⟩)
theorem leftClasses_holds : Rows.FnExactLeftClassesSaid :=
  OpenClaim.holds_of_wide 7 Try.f7 rfl rfl rfl rfl rfl rfl rfl ⟨rfl, rfl, rfl, rfl, rfl⟩ rfl rfl rfl rfl rfl leftClasses_f1 Try.func7 leftClasses_f2
    leftClasses_f3 leftClasses_f4 (fun os started H enc _ => leftClasses_lifted os started H enc)
#print axioms leftClasses_holds
end Go.Proofs.Ytgnfekfdmgnhcaa
