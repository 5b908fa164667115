/- The law of IsProfunctorMap holds for all arguments. No condition. -/
import Derived.Test.YtihkbggaaopebaaZ
import Derived.Test.YtihkbggaaopebaaGlS
import Derived.Test.YtihkbggaaopebaaRows
import Derived.Test.YtihkbggaaopebaaChecked
import Derived.ProofKit
namespace Go.Proofs.Ytihkbggaaopebaa
open Go Go.GL Go.ChangeShapes Go.WideShapes Go.ChangeAt Go.RowKit
theorem ownIsProfunctorMap : ownKnob Try.prog.godebug = none := by kernel_rfl
theorem laidIsProfunctorMap : laidOutB Try.prog = true := by kernel_rfl
set_option maxRecDepth 100000 in
theorem isProfunctorMap_lifted (os : Os) (started : os.Started) (H : Type) (enc : TypeId × Value → H) :
    ReturnsInHanded {} Try.checked os 5 .any (Rows.fnExactIsProfunctorMapSpec.pre6 enc Try.prog Try.f5 Rows.fnExactIsProfunctorMapRow.domain false) (Rows.fnExactIsProfunctorMapSpec.post enc Try.prog Try.f5 false true false false) := by
  refine returnsInHanded_of_change (C := Try.checked) ownIsProfunctorMap started (by kernel_rfl) Try.func5
    (ChangeSpec.witness6 (enc := enc) (C := Try.checked) false ⟨#[], #[.agg #[.int .i64 0, .slice none 0 0, .slice none 0 0, .slice none 0 0, .slice none 0 0, .int .i64 0, .slice none 0 0, .slice none 0 0, .slice none 0 0, .slice none 0 0, .slice none 0 0, .slice none 0 0, .slice none 0 0], .agg #[.int .i64 0, .slice none 0 0, .slice none 0 0, .slice none 0 0, .slice none 0 0, .int .i64 0, .slice none 0 0, .slice none 0 0, .slice none 0 0, .slice none 0 0, .slice none 0 0, .slice none 0 0, .slice none 0 0], .slice none 0 0], []⟩ 12 (by kernel_rfl) (by kernel_rfl) (by kernel_rfl) (by kernel_rfl)) ?_
  intro W base args ds gs before hval hW _ _
  exact law_calls (ts := [28, 28, 26]) (.cons (imp1_struct (cells := Prof.cells) (I := Prof.In) (W := Prof.Wide) Prof.In.mono (import_prof (by kernel_rfl)) (by kernel_rfl)) (.cons (imp1_struct (cells := Prof.cells) (I := Prof.In) (W := Prof.Wide) Prof.In.mono (import_prof (by kernel_rfl)) (by kernel_rfl)) (.cons (imp1_intsss (by kernel_rfl)) .nil))) rfl (fun H gs h => by
    obtain ⟨_, _, rfl, ⟨c0, p0, rfl, h0, w0⟩, ⟨_, _, rfl, ⟨c1, p1, rfl, h1, w1⟩, ⟨_, _, rfl, ⟨a2, x2, r2, s2, rfl, h2, w2⟩, rfl⟩⟩⟩ := h
    exact lawIsProfunctorMap_c h0 w0 h1 w1 h2 w2) hval hW laidIsProfunctorMap (by kernel_rfl) rfl rfl (by kernel_rfl) (fun ds h => by
    match ds, h with
    | [_, _, _], _ => exact ⟨rfl, rfl, rfl⟩)
theorem isProfunctorMap_f1 : (Try.pinned : Pinned).checked.prog.funcNamed Rows.fnExactIsProfunctorMapRow.func = some 5 := by kernel_rfl
theorem isProfunctorMap_f2 : joinedFacts (Try.pinned : Pinned).checked.prog 5 Try.f5 Rows.fnExactIsProfunctorMapSpec Rows.fnExactIsProfunctorMapRow = true := by kernel_rfl
theorem isProfunctorMap_f3 : Try.f5.isInstance (Try.pinned : Pinned).checked.prog Rows.fnExactIsProfunctorMapRow.origin Rows.fnExactIsProfunctorMapRow.targs := of_decide_eq_true (by kernel_rfl)
theorem isProfunctorMap_f4 : Try.f5.isWrapper (Try.pinned : Pinned).checked.prog Rows.fnExactIsProfunctorMapRow.wrapper Rows.fnExactIsProfunctorMapRow.mainSum := by unfold Func.isWrapper; first | (rw [if_pos (by decide +kernel)]; kernel_rfl) | (rw [if_neg (by decide +kernel)]; exact ⟨rfl, rfl⟩)
theorem isProfunctorMap_holds : Rows.FnExactIsProfunctorMapSaid :=
  OpenClaim.holds_of_wide 5 Try.f5 rfl rfl rfl rfl rfl rfl rfl ⟨rfl, rfl, rfl, rfl, rfl⟩ rfl rfl rfl rfl rfl isProfunctorMap_f1 Try.func5 isProfunctorMap_f2
    isProfunctorMap_f3 isProfunctorMap_f4 (fun os started H enc _ => isProfunctorMap_lifted os started H enc)
#print axioms isProfunctorMap_holds
end Go.Proofs.Ytihkbggaaopebaa
