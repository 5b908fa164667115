/- The law of SetComponents holds for all arguments. No condition. -/
import Derived.Test.YtkcpjflhjghapaaZ8
import Derived.Test.YtkcpjflhjghapaaRows
import Derived.Test.YtkcpjflhjghapaaChecked
import Derived.ProofKit
namespace Go.Proofs.Ytkcpjflhjghapaa
open Go Go.GL Go.ChangeShapes Go.WideShapes Go.ChangeAt Go.RowKit
theorem ownSetComponents : ownKnob Try.prog.godebug = none := by kernel_rfl
theorem laidSetComponents : laidOutB Try.prog = true := by kernel_rfl
set_option maxRecDepth 100000 in
theorem setComponents_lifted (os : Os) (started : os.Started) (H : Type) (enc : TypeId × Value → H) :
    ReturnsInHanded {} Try.checked os 4 .any (Rows.fnExactSetComponentsSpec.pre6 enc Try.prog Try.f4 Rows.fnExactSetComponentsRow.domain false) (Rows.fnExactSetComponentsSpec.post enc Try.prog Try.f4 false true false false) := by
  refine returnsInHanded_of_change (C := Try.checked) ownSetComponents started (by kernel_rfl) Try.func4
    (ChangeSpec.witness6 (enc := enc) (C := Try.checked) false ⟨#[], #[.agg #[.int .i64 0, .slice none 0 0, .slice none 0 0, .slice none 0 0, .slice none 0 0, .slice none 0 0, .slice none 0 0]], []⟩ 12 (by kernel_rfl) (by kernel_rfl) (by kernel_rfl) (by kernel_rfl)) ?_
  intro W base args ds gs before hval hW _ _
  exact law_calls (ts := [42]) (.cons (imp1_struct (cells := SFun.cells) (I := SFun.In) (W := SFun.Wide) SFun.In.mono (import_sfun (by kernel_rfl)) (by kernel_rfl)) .nil) rfl (fun H gs h => by
    obtain ⟨_, _, rfl, ⟨c0, p0, rfl, h0, w0⟩, rfl⟩ := h
    exact lawSetComponents_c h0 w0) hval hW laidSetComponents (by kernel_rfl) rfl rfl (by kernel_rfl) (fun ds h => by
    match ds, h with
    | [_], _ => exact ⟨rfl, rfl, rfl⟩)
theorem setComponents_f1 : (Try.pinned : Pinned).checked.prog.funcNamed Rows.fnExactSetComponentsRow.func = some 4 := by kernel_rfl
theorem setComponents_f2 : joinedFacts (Try.pinned : Pinned).checked.prog 4 Try.f4 Rows.fnExactSetComponentsSpec Rows.fnExactSetComponentsRow = true := by kernel_rfl
theorem setComponents_f3 : Try.f4.isInstance (Try.pinned : Pinned).checked.prog Rows.fnExactSetComponentsRow.origin Rows.fnExactSetComponentsRow.targs := of_decide_eq_true (by kernel_rfl)
theorem setComponents_f4 : Try.f4.isWrapper (Try.pinned : Pinned).checked.prog Rows.fnExactSetComponentsRow.wrapper Rows.fnExactSetComponentsRow.mainSum := by unfold Func.isWrapper; first | (rw [if_pos (by decide +kernel)]; kernel_rfl) | (rw [if_neg (by decide +kernel)]; exact ⟨rfl, rfl⟩)
theorem setComponents_holds : Rows.FnExactSetComponentsSaid :=
  OpenClaim.holds_of_wide 4 Try.f4 rfl rfl rfl rfl rfl rfl rfl ⟨rfl, rfl, rfl, rfl, rfl⟩ rfl rfl rfl rfl rfl setComponents_f1 Try.func4 setComponents_f2
    setComponents_f3 setComponents_f4 (fun os started H enc _ => setComponents_lifted os started H enc)
#print axioms setComponents_holds
end Go.Proofs.Ytkcpjflhjghapaa
