/- The law of CompositeTriples holds for all arguments. No condition. -/
import Derived.Test.YtbdaddkbkdiglaaZ9
import Derived.Test.YtbdaddkbkdiglaaRows
import Derived.Test.YtbdaddkbkdiglaaChecked
import Derived.ProofKit
namespace Go.Proofs.Ytbdaddkbkdiglaa
open Go Go.GL Go.ChangeShapes Go.WideShapes Go.ChangeAt Go.RowKit
theorem ownCompositeTriples : ownKnob Try.prog.godebug = none := by kernel_rfl
theorem laidCompositeTriples : laidOutB Try.prog = true := by kernel_rfl
set_option maxRecDepth 100000 in
theorem compositeTriples_lifted (os : Os) (started : os.Started) (H : Type) (enc : TypeId × Value → H) :
    ReturnsInHanded {} Try.checked os 4 .any (Rows.fnExactCompositeTriplesSpec.pre6 enc Try.prog Try.f4 Rows.fnExactCompositeTriplesRow.domain false) (Rows.fnExactCompositeTriplesSpec.post enc Try.prog Try.f4 false true false false) := by
  refine returnsInHanded_of_change (C := Try.checked) ownCompositeTriples started (by kernel_rfl) Try.func4
    (ChangeSpec.witness6 (enc := enc) (C := Try.checked) false ⟨#[], #[.agg #[.int .i64 0, .slice none 0 0, .slice none 0 0, .slice none 0 0, .slice none 0 0, .int .i64 0, .slice none 0 0, .slice none 0 0, .slice none 0 0, .slice none 0 0, .slice none 0 0, .slice none 0 0, .slice none 0 0], .agg #[.int .i64 0, .slice none 0 0, .slice none 0 0, .slice none 0 0, .slice none 0 0, .int .i64 0, .slice none 0 0, .slice none 0 0, .slice none 0 0, .slice none 0 0, .slice none 0 0, .slice none 0 0, .slice none 0 0], .int .i64 0, .int .i64 0], []⟩ 12 (by kernel_rfl) (by kernel_rfl) (by kernel_rfl) (by kernel_rfl)) ?_
  intro W base args ds gs before hval hW _ _
  exact law_calls (ts := [49, 49, 2, 2]) (.cons (imp1_struct (cells := Prof.cells) (I := Prof.In) (W := Prof.Wide) Prof.In.mono (import_prof (by kernel_rfl)) (by kernel_rfl)) (.cons (imp1_struct (cells := Prof.cells) (I := Prof.In) (W := Prof.Wide) Prof.In.mono (import_prof (by kernel_rfl)) (by kernel_rfl)) (.cons (imp1_int (by kernel_rfl)) (.cons (imp1_int (by kernel_rfl)) .nil)))) rfl (fun H gs h => by
    obtain ⟨_, _, rfl, ⟨c0, p0, rfl, h0, w0⟩, ⟨_, _, rfl, ⟨c1, p1, rfl, h1, w1⟩, ⟨_, _, rfl, ⟨n2, rfl, w2⟩, ⟨_, _, rfl, ⟨n3, rfl, w3⟩, rfl⟩⟩⟩⟩ := h
    exact lawCompositeTriples_c h0 w0 h1 w1 w2 w3) hval hW laidCompositeTriples (by kernel_rfl) rfl rfl (by kernel_rfl) (fun ds h => by
    match ds, h with
    | [_, _, _, _], _ => exact ⟨rfl, rfl, rfl⟩)
theorem compositeTriples_f1 : (Try.pinned : Pinned).checked.prog.funcNamed Rows.fnExactCompositeTriplesRow.func = some 4 := by kernel_rfl
theorem compositeTriples_f2 : joinedFacts (Try.pinned : Pinned).checked.prog 4 Try.f4 Rows.fnExactCompositeTriplesSpec Rows.fnExactCompositeTriplesRow = true := by kernel_rfl
theorem compositeTriples_f3 : Try.f4.isInstance (Try.pinned : Pinned).checked.prog Rows.fnExactCompositeTriplesRow.origin Rows.fnExactCompositeTriplesRow.targs := of_decide_eq_true (by kernel_rfl)
theorem compositeTriples_f4 : Try.f4.isWrapper (Try.pinned : Pinned).checked.prog Rows.fnExactCompositeTriplesRow.wrapper Rows.fnExactCompositeTriplesRow.mainSum := by unfold Func.isWrapper; first | (rw [if_pos (by decide +kernel)]; kernel_rfl) | (rw [if_neg (by decide +kernel)]; exact ⟨rfl, rfl⟩)
theorem compositeTriples_holds : Rows.FnExactCompositeTriplesSaid :=
  OpenClaim.holds_of_wide 4 Try.f4 rfl rfl rfl rfl rfl rfl rfl ⟨rfl, rfl, rfl, rfl, rfl⟩ rfl rfl rfl rfl rfl compositeTriples_f1 Try.func4 compositeTriples_f2
    compositeTriples_f3 compositeTriples_f4 (fun os started H enc _ => compositeTriples_lifted os started H enc)
#print axioms compositeTriples_holds
end Go.Proofs.Ytbdaddkbkdiglaa
