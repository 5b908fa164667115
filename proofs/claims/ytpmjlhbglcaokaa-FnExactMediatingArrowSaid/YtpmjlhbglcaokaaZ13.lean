/- The law of MediatingArrow holds for all arguments. No condition. -/
import Derived.Test.YtpmjlhbglcaokaaZ12
import Derived.Test.YtpmjlhbglcaokaaRows
import Derived.Test.YtpmjlhbglcaokaaChecked
import Derived.ProofKit
namespace Go.Proofs.Ytpmjlhbglcaokaa
open Go Go.GL Go.ChangeShapes Go.WideShapes Go.ChangeAt Go.RowKit
theorem ownMediatingArrow : ownKnob Try.prog.godebug = none := by kernel_rfl
theorem laidMediatingArrow : laidOutB Try.prog = true := by kernel_rfl
set_option maxRecDepth 100000 in
theorem mediatingArrow_lifted (os : Os) (started : os.Started) (H : Type) (enc : TypeId × Value → H) :
    ReturnsInHanded {} Try.checked os 6 .any (Rows.fnExactMediatingArrowSpec.pre6 enc Try.prog Try.f6 Rows.fnExactMediatingArrowRow.domain false) (Rows.fnExactMediatingArrowSpec.post enc Try.prog Try.f6 false true false false) := by
  refine returnsInHanded_of_change (C := Try.checked) ownMediatingArrow started (by kernel_rfl) Try.func6
    (ChangeSpec.witness6 (enc := enc) (C := Try.checked) false ⟨#[], #[.agg #[.int .i64 0, .slice none 0 0, .slice none 0 0, .slice none 0 0, .slice none 0 0, .int .i64 0, .slice none 0 0, .slice none 0 0, .slice none 0 0, .slice none 0 0, .slice none 0 0, .slice none 0 0], .agg #[.int .i64 0, .slice none 0 0], .agg #[.int .i64 0, .slice none 0 0]], []⟩ 12 (by kernel_rfl) (by kernel_rfl) (by kernel_rfl) (by kernel_rfl)) ?_
  intro W base args ds gs before hval hW _ _
  exact law_calls (ts := [27, 47, 47]) (.cons (imp1_struct (cells := Fun.cells) (I := Fun.In) (W := Fun.Wide) Fun.In.mono (import_fun (by kernel_rfl)) (by kernel_rfl)) (.cons (imp1_struct (cells := Con.cells) (I := Con.In) (W := Con.Wide) Con.In.mono (import_con (by kernel_rfl)) (by kernel_rfl)) (.cons (imp1_struct (cells := Con.cells) (I := Con.In) (W := Con.Wide) Con.In.mono (import_con (by kernel_rfl)) (by kernel_rfl)) .nil))) rfl (fun H gs h => by
    obtain ⟨_, _, rfl, ⟨c0, p0, rfl, h0, w0⟩, ⟨_, _, rfl, ⟨c1, p1, rfl, h1, w1⟩, ⟨_, _, rfl, ⟨c2, p2, rfl, h2, w2⟩, rfl⟩⟩⟩ := h
    exact lawMediatingArrow_c h0 w0 h1 w1 h2 w2) hval hW laidMediatingArrow (by kernel_rfl) rfl rfl (by kernel_rfl) (fun ds h => by
    match ds, h with
    | [_, _, _], _ => exact ⟨rfl, rfl, rfl⟩)
theorem mediatingArrow_f1 : (Try.pinned : Pinned).checked.prog.funcNamed Rows.fnExactMediatingArrowRow.func = some 6 := by kernel_rfl
theorem mediatingArrow_f2 : joinedFacts (Try.pinned : Pinned).checked.prog 6 Try.f6 Rows.fnExactMediatingArrowSpec Rows.fnExactMediatingArrowRow = true := by kernel_rfl
theorem mediatingArrow_f3 : Try.f6.isInstance (Try.pinned : Pinned).checked.prog Rows.fnExactMediatingArrowRow.origin Rows.fnExactMediatingArrowRow.targs := of_decide_eq_true (by kernel_rfl)
theorem mediatingArrow_f4 : Try.f6.isWrapper (Try.pinned : Pinned).checked.prog Rows.fnExactMediatingArrowRow.wrapper Rows.fnExactMediatingArrowRow.mainSum := by unfold Func.isWrapper; first | (rw [if_pos (by decide +kernel)]; kernel_rfl) | (rw [if_neg (by decide +kernel)]; exact ⟨rfl, rfl⟩)
theorem mediatingArrow_holds : Rows.FnExactMediatingArrowSaid :=
  OpenClaim.holds_of_wide 6 Try.f6 rfl rfl rfl rfl rfl rfl rfl ⟨rfl, rfl, rfl, rfl, rfl⟩ rfl rfl rfl rfl rfl mediatingArrow_f1 Try.func6 mediatingArrow_f2
    mediatingArrow_f3 mediatingArrow_f4 (fun os started H enc _ => mediatingArrow_lifted os started H enc)
#print axioms mediatingArrow_holds
end Go.Proofs.Ytpmjlhbglcaokaa
