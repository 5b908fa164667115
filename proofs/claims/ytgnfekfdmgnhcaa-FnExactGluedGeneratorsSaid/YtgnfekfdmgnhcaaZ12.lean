/- The law of GluedGenerators holds for all arguments. No condition. -/
import Derived.Test.YtgnfekfdmgnhcaaZ11
import Derived.Test.YtgnfekfdmgnhcaaRows
import Derived.Test.YtgnfekfdmgnhcaaChecked
import Derived.ProofKit
namespace Go.Proofs.Ytgnfekfdmgnhcaa
open Go Go.GL Go.ChangeShapes Go.WideShapes Go.ChangeAt Go.RowKit
theorem ownGluedGenerators : ownKnob Try.prog.godebug = none := by kernel_rfl
theorem laidGluedGenerators : laidOutB Try.prog = true := by kernel_rfl
set_option maxRecDepth 100000 in
theorem gluedGenerators_lifted (os : Os) (started : os.Started) (H : Type) (enc : TypeId × Value → H) :
    ReturnsInHanded {} Try.checked os 8 .any (Rows.fnExactGluedGeneratorsSpec.pre6 enc Try.prog Try.f8 Rows.fnExactGluedGeneratorsRow.domain false) (Rows.fnExactGluedGeneratorsSpec.post enc Try.prog Try.f8 false true false false) := by
  refine returnsInHanded_of_change (C := Try.checked) ownGluedGenerators started (by kernel_rfl) Try.func8
    (ChangeSpec.witness6 (enc := enc) (C := Try.checked) false ⟨#[], #[.agg #[.int .i64 0, .slice none 0 0, .slice none 0 0, .slice none 0 0, .slice none 0 0, .slice none 0 0, .slice none 0 0], .int .i64 0], []⟩ 12 (by kernel_rfl) (by kernel_rfl) (by kernel_rfl) (by kernel_rfl)) ?_
  intro W base args ds gs before hval hW _ _
  exact law_calls (ts := [57, 2]) (.cons (imp1_struct (cells := SFun.cells) (I := SFun.In) (W := SFun.Wide) SFun.In.mono (import_sfun (by kernel_rfl)) (by kernel_rfl)) (.cons (imp1_int (by kernel_rfl)) .nil)) rfl (fun H gs h => by
    obtain ⟨_, _, rfl, ⟨c0, p0, rfl, h0, w0⟩, ⟨_, _, rfl, ⟨n1, rfl, w1⟩, rfl⟩⟩ := h
    exact lawGluedGenerators_c h0 w0 w1) hval hW laidGluedGenerators (by kernel_rfl) rfl rfl (by kernel_rfl) (fun ds h => by
    match ds, h with
    | [_, _], _ => exact ⟨rfl, rfl, rfl⟩)
theorem gluedGenerators_f1 : (Try.pinned : Pinned).checked.prog.funcNamed Rows.fnExactGluedGeneratorsRow.func = some 8 := by kernel_rfl
theorem gluedGenerators_f2 : joinedFacts (Try.pinned : Pinned).checked.prog 8 Try.f8 Rows.fnExactGluedGeneratorsSpec Rows.fnExactGluedGeneratorsRow = true := by kernel_rfl
theorem gluedGenerators_f3 : Try.f8.isInstance (Try.pinned : Pinned).checked.prog Rows.fnExactGluedGeneratorsRow.origin Rows.fnExactGluedGeneratorsRow.targs := of_decide_eq_true (by kernel_rfl)
theorem gluedGenerators_f4 : Try.f8.isWrapper (Try.pinned : Pinned).checked.prog Rows.fnExactGluedGeneratorsRow.wrapper Rows.fnExactGluedGeneratorsRow.mainSum := by unfold Func.isWrapper; first | (rw [if_pos (by decide +kernel)]; kernel_rfl) | (rw [if_neg (by decide +kernel)]; exact ⟨rfl, rfl⟩)
theorem gluedGenerators_holds : Rows.FnExactGluedGeneratorsSaid :=
  OpenClaim.holds_of_wide 8 Try.f8 rfl rfl rfl rfl rfl rfl rfl ⟨rfl, rfl, rfl, rfl, rfl⟩ rfl rfl rfl rfl rfl gluedGenerators_f1 Try.func8 gluedGenerators_f2
    gluedGenerators_f3 gluedGenerators_f4 (fun os started H enc _ => gluedGenerators_lifted os started H enc)
#print axioms gluedGenerators_holds
end Go.Proofs.Ytgnfekfdmgnhcaa
