/- The law of IsEquivalence holds for all arguments. No condition. -/
import Derived.Test.YthdnpbpiadkcmaaN
import Derived.Test.YthdnpbpiadkcmaaGlS
import Derived.Test.YthdnpbpiadkcmaaRows
import Derived.Test.YthdnpbpiadkcmaaChecked
import Derived.ProofKit
namespace Go.Proofs.Ythdnpbpiadkcmaa
open Go Go.GL Go.ChangeShapes Go.WideShapes Go.ChangeAt Go.RowKit
theorem ownIsEquivalence : ownKnob Try.prog.godebug = none := by kernel_rfl
theorem laidIsEquivalence : laidOutB Try.prog = true := by kernel_rfl
set_option maxRecDepth 100000 in
theorem isEquivalence_lifted (os : Os) (started : os.Started) (H : Type) (enc : TypeId × Value → H) :
    ReturnsInHanded {} Try.checked os 3 .any (Rows.fnExactIsEquivalenceSpec.pre6 enc Try.prog Try.f3 Rows.fnExactIsEquivalenceRow.domain false) (Rows.fnExactIsEquivalenceSpec.post enc Try.prog Try.f3 false true false false) := by
  refine returnsInHanded_of_change (C := Try.checked) ownIsEquivalence started (by kernel_rfl) Try.func3
    (ChangeSpec.witness6 (enc := enc) (C := Try.checked) false ⟨#[], #[.agg #[.int .i64 0, .slice none 0 0, .slice none 0 0, .slice none 0 0, .slice none 0 0, .int .i64 0, .slice none 0 0, .slice none 0 0, .slice none 0 0, .slice none 0 0, .slice none 0 0, .slice none 0 0]], []⟩ 12 (by kernel_rfl) (by kernel_rfl) (by kernel_rfl) (by kernel_rfl)) ?_
  intro W base args ds gs before hval hW _ _
  exact law_calls (ts := [27]) (.cons (imp1_struct (cells := Fun.cells) (I := Fun.In) (W := Fun.Wide) Fun.In.mono (import_fun (by kernel_rfl)) (by kernel_rfl)) .nil) rfl (fun H gs h => by
    obtain ⟨_, _, rfl, ⟨c0, p0, rfl, h0, w0⟩, rfl⟩ := h
    exact lawIsEquivalence_c h0 w0) hval hW laidIsEquivalence (by kernel_rfl) rfl rfl (by kernel_rfl) (fun ds h => by
    match ds, h with
    | [_], _ => exact ⟨rfl, rfl, rfl⟩)
theorem isEquivalence_holds : Rows.FnExactIsEquivalenceSaid :=
  OpenClaim.holds_of_wide 3 Try.f3 rfl rfl rfl rfl rfl rfl rfl ⟨rfl, rfl, rfl, rfl, rfl⟩ rfl rfl rfl rfl rfl (by kernel_rfl) Try.func3 (by kernel_rfl)
    (of_decide_eq_true (by kernel_rfl)) (by unfold Func.isWrapper; first | (rw [if_pos (by decide +kernel)]; kernel_rfl) | (rw [if_neg (by decide +kernel)]; exact ⟨rfl, rfl⟩))
    (fun os started H enc _ => isEquivalence_lifted os started H enc)
#print axioms isEquivalence_holds
end Go.Proofs.Ythdnpbpiadkcmaa
