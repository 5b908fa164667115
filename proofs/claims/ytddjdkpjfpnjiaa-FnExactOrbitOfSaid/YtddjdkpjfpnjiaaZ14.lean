/- The law of OrbitOf holds for all arguments. No condition. -/
import Derived.Test.YtddjdkpjfpnjiaaZ13
import Derived.Test.YtddjdkpjfpnjiaaRows
import Derived.Test.YtddjdkpjfpnjiaaChecked
import Derived.ProofKit
import Derived.Conc.LeavingOf
import Derived.Conc.Holds
set_option linter.unusedSectionVars false
namespace Go.Proofs.Ytddjdkpjfpnjiaa
open Go Go.GL Go.ChangeShapes Go.WideShapes Go.ChangeAt Go.RowKit
theorem ownOrbitOf : ownKnob Try.prog.godebug = none := by kernel_rfl
theorem laidOrbitOf : laidOutB Try.prog = true := by kernel_rfl
set_option maxRecDepth 100000 in
theorem orbitOf_lifted (os : Os) (started : os.Started) (H : Type) (enc : TypeId × Value → H) :
    ReturnsInLeavingWide {} Try.checked os 3 .any (Rows.fnExactOrbitOfSpec.pre6 enc Try.prog Try.f3 Rows.fnExactOrbitOfRow.domain false) (Rows.fnExactOrbitOfSpec.post enc Try.prog Try.f3 false true false false) := by
  refine returnsInLeavingWide_of_change_sized (C := Try.checked) ownOrbitOf started Try.func3
    (ChangeSpec.witness6 (enc := enc) (C := Try.checked) false ⟨#[], #[.agg #[.int .i64 0, .slice none 0 0, .slice none 0 0, .slice none 0 0, .slice none 0 0, .slice none 0 0, .slice none 0 0], .int .i64 0, .int .i64 0], []⟩ 12 (by kernel_rfl) (by kernel_rfl) (by kernel_rfl) (by kernel_rfl)) ?_
  intro W base args ds gs before hval hW _ _ _
  letI : MainFlag := ⟨true⟩
  exact law_goods rfl (by kernel_rfl) (ts := [27, 2, 2]) (.cons (imp1_struct (cells := SFun.cells) (I := SFun.In) (W := SFun.Wide) SFun.In.mono (import_sfun (by kernel_rfl)) (by kernel_rfl)) (.cons (imp1_int (by kernel_rfl)) (.cons (imp1_int (by kernel_rfl)) .nil))) rfl (fun H gs h => by
    obtain ⟨_, _, rfl, ⟨c0, p0, rfl, h0, w0⟩, ⟨_, _, rfl, ⟨n1, rfl, w1⟩, ⟨_, _, rfl, ⟨n2, rfl, w2⟩, rfl⟩⟩⟩ := h
    exact lawOrbitOf_c rfl h0 w0 w1 w2) hval hW laidOrbitOf (by kernel_rfl) rfl rfl (by kernel_rfl) (fun ds h => by
    match ds, h with
    | [_, _, _], _ => exact ⟨rfl, rfl, rfl⟩)
theorem orbitOf_f1 : (Try.pinned : Pinned).checked.prog.funcNamed Rows.fnExactOrbitOfRow.func = some 3 := by kernel_rfl
theorem orbitOf_f2 : joinedFacts (Try.pinned : Pinned).checked.prog 3 Try.f3 Rows.fnExactOrbitOfSpec Rows.fnExactOrbitOfRow = true := by kernel_rfl
theorem orbitOf_f3 : Try.f3.isInstance (Try.pinned : Pinned).checked.prog Rows.fnExactOrbitOfRow.origin Rows.fnExactOrbitOfRow.targs := of_decide_eq_true (by kernel_rfl)
theorem orbitOf_f4 : Try.f3.isWrapper (Try.pinned : Pinned).checked.prog Rows.fnExactOrbitOfRow.wrapper Rows.fnExactOrbitOfRow.mainSum := by unfold Func.isWrapper; first | (rw [if_pos (by decide +kernel)]; kernel_rfl) | (rw [if_neg (by decide +kernel)]; exact ⟨rfl, rfl⟩)
theorem orbitOf_holds : Rows.FnExactOrbitOfSaid :=
  OpenClaim.holds_of_wide_leaving 3 Try.f3 rfl rfl rfl rfl rfl rfl rfl ⟨rfl, rfl, rfl, rfl, rfl⟩ rfl rfl rfl rfl rfl orbitOf_f1 Try.func3 orbitOf_f2
    orbitOf_f3 orbitOf_f4 (fun os started H enc _ => orbitOf_lifted os started H enc)
#print axioms orbitOf_holds
end Go.Proofs.Ytddjdkpjfpnjiaa
