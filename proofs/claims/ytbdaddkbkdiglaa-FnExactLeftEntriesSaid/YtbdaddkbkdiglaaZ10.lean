/- The law of LeftEntries holds for all arguments. No condition. -/
import Derived.Test.YtbdaddkbkdiglaaZ9
import Derived.Test.YtbdaddkbkdiglaaRows
import Derived.Test.YtbdaddkbkdiglaaChecked
import Derived.ProofKit
namespace Go.Proofs.Ytbdaddkbkdiglaa
open Go Go.GL Go.ChangeShapes Go.WideShapes Go.ChangeAt Go.RowKit
theorem ownLeftEntries : ownKnob Try.prog.godebug = none := by kernel_rfl
theorem laidLeftEntries : laidOutB Try.prog = true := by kernel_rfl
set_option maxRecDepth 100000 in
theorem leftEntries_lifted (os : Os) (started : os.Started) (H : Type) (enc : TypeId × Value → H) :
    ReturnsInHanded {} Try.checked os 5 .any (Rows.fnExactLeftEntriesSpec.pre6 enc Try.prog Try.f5 Rows.fnExactLeftEntriesRow.domain false) (Rows.fnExactLeftEntriesSpec.post enc Try.prog Try.f5 false true false false) := by
  refine returnsInHanded_of_change (C := Try.checked) ownLeftEntries started (by kernel_rfl) Try.func5
    (ChangeSpec.witness6 (enc := enc) (C := Try.checked) false ⟨#[], #[.agg #[.int .i64 0, .slice none 0 0, .slice none 0 0, .slice none 0 0, .slice none 0 0, .int .i64 0, .slice none 0 0, .slice none 0 0, .slice none 0 0, .slice none 0 0, .slice none 0 0, .slice none 0 0], .agg #[.int .i64 0, .slice none 0 0, .slice none 0 0, .slice none 0 0, .slice none 0 0, .slice none 0 0, .slice none 0 0], .int .i64 0], []⟩ 12 (by kernel_rfl) (by kernel_rfl) (by kernel_rfl) (by kernel_rfl)) ?_
  intro W base args ds gs before hval hW _ _
  exact law_calls (ts := [27, 62, 2]) (.cons (imp1_struct (cells := Fun.cells) (I := Fun.In) (W := Fun.Wide) Fun.In.mono (import_fun (by kernel_rfl)) (by kernel_rfl)) (.cons (imp1_struct (cells := SFun.cells) (I := SFun.In) (W := SFun.Wide) SFun.In.mono (import_sfun (by kernel_rfl)) (by kernel_rfl)) (.cons (imp1_int (by kernel_rfl)) .nil))) rfl (fun H gs h => by
    obtain ⟨_, _, rfl, ⟨c0, p0, rfl, h0, w0⟩, ⟨_, _, rfl, ⟨c1, p1, rfl, h1, w1⟩, ⟨_, _, rfl, ⟨n2, rfl, w2⟩, rfl⟩⟩⟩ := h
    exact lawLeftEntries_c h0 w0 h1 w1 w2) hval hW laidLeftEntries (by kernel_rfl) rfl rfl (by kernel_rfl) (fun ds h => by
    match ds, h with
    | [_, _, _], _ => exact ⟨rfl, rfl, rfl⟩)
theorem leftEntries_f1 : (Try.pinned : Pinned).checked.prog.funcNamed Rows.fnExactLeftEntriesRow.func = some 5 := by kernel_rfl
theorem leftEntries_f2 : joinedFacts (Try.pinned : Pinned).checked.prog 5 Try.f5 Rows.fnExactLeftEntriesSpec Rows.fnExactLeftEntriesRow = true := by kernel_rfl
theorem leftEntries_f3 : Try.f5.isInstance (Try.pinned : Pinned).checked.prog Rows.fnExactLeftEntriesRow.origin Rows.fnExactLeftEntriesRow.targs := of_decide_eq_true (by kernel_rfl)
theorem leftEntries_f4 : Try.f5.isWrapper (Try.pinned : Pinned).checked.prog Rows.fnExactLeftEntriesRow.wrapper Rows.fnExactLeftEntriesRow.mainSum := by unfold Func.isWrapper; first | (rw [if_pos (by decide +kernel)]; kernel_rfl) | (rw [if_neg (by decide +kernel)]; exact ⟨rfl, rfl⟩)
theorem leftEntries_holds : Rows.FnExactLeftEntriesSaid :=
  OpenClaim.holds_of_wide 5 Try.f5 rfl rfl rfl rfl rfl rfl rfl ⟨rfl, rfl, rfl, rfl, rfl⟩ rfl rfl rfl rfl rfl leftEntries_f1 Try.func5 leftEntries_f2
    leftEntries_f3 leftEntries_f4 (fun os started H enc _ => leftEntries_lifted os started H enc)
#print axioms leftEntries_holds
end Go.Proofs.Ytbdaddkbkdiglaa
