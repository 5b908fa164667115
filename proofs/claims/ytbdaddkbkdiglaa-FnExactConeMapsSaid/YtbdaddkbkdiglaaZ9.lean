/- The law of ConeMaps holds for all arguments. No condition. -/
import Derived.Test.YtbdaddkbkdiglaaZ8
import Derived.Test.YtbdaddkbkdiglaaRows
import Derived.Test.YtbdaddkbkdiglaaChecked
import Derived.ProofKit
namespace Go.Proofs.Ytbdaddkbkdiglaa
open Go Go.GL Go.ChangeShapes Go.WideShapes Go.ChangeAt Go.RowKit
theorem ownConeMaps : ownKnob Try.prog.godebug = none := by kernel_rfl
theorem laidConeMaps : laidOutB Try.prog = true := by kernel_rfl
set_option maxRecDepth 100000 in
theorem coneMaps_lifted (os : Os) (started : os.Started) (H : Type) (enc : TypeId × Value → H) :
    ReturnsInHanded {} Try.checked os 3 .any (Rows.fnExactConeMapsSpec.pre6 enc Try.prog Try.f3 Rows.fnExactConeMapsRow.domain false) (Rows.fnExactConeMapsSpec.post enc Try.prog Try.f3 false true false false) := by
  refine returnsInHanded_of_change (C := Try.checked) ownConeMaps started (by kernel_rfl) Try.func3
    (ChangeSpec.witness6 (enc := enc) (C := Try.checked) false ⟨#[], #[.agg #[.int .i64 0, .slice none 0 0, .slice none 0 0, .slice none 0 0, .slice none 0 0, .int .i64 0, .slice none 0 0, .slice none 0 0, .slice none 0 0, .slice none 0 0, .slice none 0 0, .slice none 0 0], .agg #[.int .i64 0, .slice none 0 0], .agg #[.int .i64 0, .slice none 0 0]], []⟩ 12 (by kernel_rfl) (by kernel_rfl) (by kernel_rfl) (by kernel_rfl)) ?_
  intro W base args ds gs before hval hW _ _
  exact law_calls (ts := [27, 29, 29]) (.cons (imp1_struct (cells := Fun.cells) (I := Fun.In) (W := Fun.Wide) Fun.In.mono (import_fun (by kernel_rfl)) (by kernel_rfl)) (.cons (imp1_struct (cells := Con.cells) (I := Con.In) (W := Con.Wide) Con.In.mono (import_con (by kernel_rfl)) (by kernel_rfl)) (.cons (imp1_struct (cells := Con.cells) (I := Con.In) (W := Con.Wide) Con.In.mono (import_con (by kernel_rfl)) (by kernel_rfl)) .nil))) rfl (fun H gs h => by
    obtain ⟨_, _, rfl, ⟨c0, p0, rfl, h0, w0⟩, ⟨_, _, rfl, ⟨c1, p1, rfl, h1, w1⟩, ⟨_, _, rfl, ⟨c2, p2, rfl, h2, w2⟩, rfl⟩⟩⟩ := h
    exact lawConeMaps_c h0 w0 h1 w1 h2 w2) hval hW laidConeMaps (by kernel_rfl) rfl rfl (by kernel_rfl) (fun ds h => by
    match ds, h with
    | [_, _, _], _ => exact ⟨rfl, rfl, rfl⟩)
theorem coneMaps_f1 : (Try.pinned : Pinned).checked.prog.funcNamed Rows.fnExactConeMapsRow.func = some 3 := by kernel_rfl
theorem coneMaps_f2 : joinedFacts (Try.pinned : Pinned).checked.prog 3 Try.f3 Rows.fnExactConeMapsSpec Rows.fnExactConeMapsRow = true := by kernel_rfl
theorem coneMaps_f3 : Try.f3.isInstance (Try.pinned : Pinned).checked.prog Rows.fnExactConeMapsRow.origin Rows.fnExactConeMapsRow.targs := of_decide_eq_true (by kernel_rfl)
theorem coneMaps_f4 : Try.f3.isWrapper (Try.pinned : Pinned).checked.prog Rows.fnExactConeMapsRow.wrapper Rows.fnExactConeMapsRow.mainSum := by unfold Func.isWrapper; first | (rw [if_pos (by decide +kernel)]; kernel_rfl) | (rw [if_neg (by decide +kernel)]; exact ⟨rfl, rfl⟩)
theorem coneMaps_holds : Rows.FnExactConeMapsSaid :=
  OpenClaim.holds_of_wide 3 Try.f3 rfl rfl rfl rfl rfl rfl rfl ⟨rfl, rfl, rfl, rfl, rfl⟩ rfl rfl rfl rfl rfl coneMaps_f1 Try.func3 coneMaps_f2
    coneMaps_f3 coneMaps_f4 (fun os started H enc _ => coneMaps_lifted os started H enc)
#print axioms coneMaps_holds
end Go.Proofs.Ytbdaddkbkdiglaa
