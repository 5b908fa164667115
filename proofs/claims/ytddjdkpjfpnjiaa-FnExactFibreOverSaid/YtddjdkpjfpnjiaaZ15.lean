/- The law of FibreOver holds for all arguments. No condition. -/
import Derived.Test.YtddjdkpjfpnjiaaZ14
import Derived.Test.YtddjdkpjfpnjiaaRows
import Derived.Test.YtddjdkpjfpnjiaaChecked
import Derived.ProofKit
import Derived.Conc.LeavingOf
import Derived.Conc.Holds
set_option linter.unusedSectionVars false
namespace Go.Proofs.Ytddjdkpjfpnjiaa
open Go Go.GL Go.ChangeShapes Go.WideShapes Go.ChangeAt Go.RowKit
theorem ownFibreOver : ownKnob Try.prog.godebug = none := by kernel_rfl
theorem laidFibreOver : laidOutB Try.prog = true := by kernel_rfl
set_option maxRecDepth 100000 in
theorem fibreOver_lifted (os : Os) (started : os.Started) (H : Type) (enc : TypeId × Value → H) :
    ReturnsInLeavingWide {} Try.checked os 4 .any (Rows.fnExactFibreOverSpec.pre6 enc Try.prog Try.f4 Rows.fnExactFibreOverRow.domain false) (Rows.fnExactFibreOverSpec.post enc Try.prog Try.f4 false true false false) := by
  refine returnsInLeavingWide_of_change_sized (C := Try.checked) ownFibreOver started Try.func4
    (ChangeSpec.witness6 (enc := enc) (C := Try.checked) false ⟨#[], #[.agg #[.int .i64 0, .slice none 0 0, .slice none 0 0, .slice none 0 0, .slice none 0 0, .int .i64 0, .slice none 0 0, .slice none 0 0, .slice none 0 0, .slice none 0 0, .slice none 0 0, .slice none 0 0], .int .i64 0], []⟩ 12 (by kernel_rfl) (by kernel_rfl) (by kernel_rfl) (by kernel_rfl)) ?_
  intro W base args ds gs before hval hW _ _ _
  letI : MainFlag := ⟨true⟩
  exact law_goods rfl (by kernel_rfl) (ts := [41, 2]) (.cons (imp1_struct (cells := Fun.cells) (I := Fun.In) (W := Fun.Wide) Fun.In.mono (import_fun (by kernel_rfl)) (by kernel_rfl)) (.cons (imp1_int (by kernel_rfl)) .nil)) rfl (fun H gs h => by
    obtain ⟨_, _, rfl, ⟨c0, p0, rfl, h0, w0⟩, ⟨_, _, rfl, ⟨n1, rfl, w1⟩, rfl⟩⟩ := h
    exact lawFibreOver_c rfl h0 w0 w1) hval hW laidFibreOver (by kernel_rfl) rfl rfl (by kernel_rfl) (fun ds h => by
    match ds, h with
    | [_, _], _ => exact ⟨rfl, rfl, rfl⟩)
theorem fibreOver_f1 : (Try.pinned : Pinned).checked.prog.funcNamed Rows.fnExactFibreOverRow.func = some 4 := by kernel_rfl
theorem fibreOver_f2 : joinedFacts (Try.pinned : Pinned).checked.prog 4 Try.f4 Rows.fnExactFibreOverSpec Rows.fnExactFibreOverRow = true := by kernel_rfl
theorem fibreOver_f3 : Try.f4.isInstance (Try.pinned : Pinned).checked.prog Rows.fnExactFibreOverRow.origin Rows.fnExactFibreOverRow.targs := of_decide_eq_true (by kernel_rfl)
theorem fibreOver_f4 : Try.f4.isWrapper (Try.pinned : Pinned).checked.prog Rows.fnExactFibreOverRow.wrapper Rows.fnExactFibreOverRow.mainSum := by unfold Func.isWrapper; first | (rw [if_pos (by decide +kernel)]; kernel_rfl) | (rw [if_neg (by decide +kernel)]; exact ⟨rfl, rfl⟩)
theorem fibreOver_holds : Rows.FnExactFibreOverSaid :=
  OpenClaim.holds_of_wide_leaving 4 Try.f4 rfl rfl rfl rfl rfl rfl rfl ⟨rfl, rfl, rfl, rfl, rfl⟩ rfl rfl rfl rfl rfl fibreOver_f1 Try.func4 fibreOver_f2
    fibreOver_f3 fibreOver_f4 (fun os started H enc _ => fibreOver_lifted os started H enc)
#print axioms fibreOver_holds
end Go.Proofs.Ytddjdkpjfpnjiaa
