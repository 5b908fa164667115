/- The law of IsProfunctor holds for all arguments. No condition. -/
import Derived.Test.YtihkbggaaopebaaT
import Derived.Test.YtihkbggaaopebaaGlS
import Derived.Test.YtihkbggaaopebaaRows
import Derived.Test.YtihkbggaaopebaaChecked
import Derived.ProofKit
namespace Go.Proofs.Ytihkbggaaopebaa
open Go Go.GL Go.ChangeShapes Go.WideShapes Go.ChangeAt Go.RowKit
theorem ownIsProfunctor : ownKnob Try.prog.godebug = none := by kernel_rfl
theorem laidIsProfunctor : laidOutB Try.prog = true := by kernel_rfl
set_option maxRecDepth 100000 in
theorem isProfunctor_lifted (os : Os) (started : os.Started) (H : Type) (enc : TypeId × Value → H) :
    ReturnsInHanded {} Try.checked os 3 .any (Rows.fnExactIsProfunctorSpec.pre6 enc Try.prog Try.f3 Rows.fnExactIsProfunctorRow.domain false) (Rows.fnExactIsProfunctorSpec.post enc Try.prog Try.f3 false true false false) := by
  refine returnsInHanded_of_change (C := Try.checked) ownIsProfunctor started (by kernel_rfl) Try.func3
    (ChangeSpec.witness6 (enc := enc) (C := Try.checked) false ⟨#[], #[.agg #[.int .i64 0, .slice none 0 0, .slice none 0 0, .slice none 0 0, .slice none 0 0, .int .i64 0, .slice none 0 0, .slice none 0 0, .slice none 0 0, .slice none 0 0, .slice none 0 0, .slice none 0 0, .slice none 0 0]], []⟩ 12 (by kernel_rfl) (by kernel_rfl) (by kernel_rfl) (by kernel_rfl)) ?_
  intro W base args ds gs before hval hW _ _
  exact law_calls (ts := [28]) (.cons (imp1_struct (cells := Prof.cells) (I := Prof.In) (W := Prof.Wide) Prof.In.mono (import_prof (by kernel_rfl)) (by kernel_rfl)) .nil) rfl (fun H gs h => by
    obtain ⟨_, _, rfl, ⟨c0, p0, rfl, h0, w0⟩, rfl⟩ := h
    exact lawIsProfunctor_c h0 w0) hval hW laidIsProfunctor (by kernel_rfl) rfl rfl (by kernel_rfl) (fun ds h => by
    match ds, h with
    | [_], _ => exact ⟨rfl, rfl, rfl⟩)
theorem isProfunctor_f1 : (Try.pinned : Pinned).checked.prog.funcNamed Rows.fnExactIsProfunctorRow.func = some 3 := by kernel_rfl
theorem isProfunctor_f2 : joinedFacts (Try.pinned : Pinned).checked.prog 3 Try.f3 Rows.fnExactIsProfunctorSpec Rows.fnExactIsProfunctorRow = true := by kernel_rfl
theorem isProfunctor_f3 : Try.f3.isInstance (Try.pinned : Pinned).checked.prog Rows.fnExactIsProfunctorRow.origin Rows.fnExactIsProfunctorRow.targs := of_decide_eq_true (by kernel_rfl)
theorem isProfunctor_f4 : Try.f3.isWrapper (Try.pinned : Pinned).checked.prog Rows.fnExactIsProfunctorRow.wrapper Rows.fnExactIsProfunctorRow.mainSum := by unfold Func.isWrapper; first | (rw [if_pos (by decide +kernel)]; kernel_rfl) | (rw [if_neg (by decide +kernel)]; exact ⟨rfl, rfl⟩)
theorem isProfunctor_holds : Rows.FnExactIsProfunctorSaid :=
  OpenClaim.holds_of_wide 3 Try.f3 rfl rfl rfl rfl rfl rfl rfl ⟨rfl, rfl, rfl, rfl, rfl⟩ rfl rfl rfl rfl rfl isProfunctor_f1 Try.func3 isProfunctor_f2
    isProfunctor_f3 isProfunctor_f4 (fun os started H enc _ => isProfunctor_lifted os started H enc)
#print axioms isProfunctor_holds
end Go.Proofs.Ytihkbggaaopebaa
