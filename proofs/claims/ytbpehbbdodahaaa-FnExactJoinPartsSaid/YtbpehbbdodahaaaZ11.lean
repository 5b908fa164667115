/- The law of JoinParts holds for all arguments. No condition. -/
import Derived.Test.YtbpehbbdodahaaaZ10
import Derived.Test.YtbpehbbdodahaaaRows
import Derived.Test.YtbpehbbdodahaaaChecked
import Derived.ProofKit
namespace Go.Proofs.Ytbpehbbdodahaaa
open Go Go.GL Go.ChangeShapes Go.WideShapes Go.ChangeAt Go.RowKit
theorem ownJoinParts : ownKnob Try.prog.godebug = none := by kernel_rfl
theorem laidJoinParts : laidOutB Try.prog = true := by kernel_rfl
set_option maxRecDepth 100000 in
theorem joinParts_lifted (os : Os) (started : os.Started) (H : Type) (enc : TypeId × Value → H) :
    ReturnsInHanded {} Try.checked os 5 .any (Rows.fnExactJoinPartsSpec.pre6 enc Try.prog Try.f5 Rows.fnExactJoinPartsRow.domain false) (Rows.fnExactJoinPartsSpec.post enc Try.prog Try.f5 false true false false) := by
  refine returnsInHanded_of_change (C := Try.checked) ownJoinParts started (by kernel_rfl) Try.func5
    (ChangeSpec.witness6 (enc := enc) (C := Try.checked) false ⟨#[], #[.agg #[.int .i64 0, .slice none 0 0, .slice none 0 0, .slice none 0 0, .slice none 0 0, .slice none 0 0, .slice none 0 0], .agg #[.slice none 0 0], .agg #[.slice none 0 0]], []⟩ 12 (by kernel_rfl) (by kernel_rfl) (by kernel_rfl) (by kernel_rfl)) ?_
  intro W base args ds gs before hval hW _ _
  exact law_calls (ts := [27, 31, 31]) (.cons (imp1_struct (cells := SFun.cells) (I := SFun.In) (W := SFun.Wide) SFun.In.mono (import_sfun (by kernel_rfl)) (by kernel_rfl)) (.cons (imp1_struct (cells := Prt.cells) (I := Prt.In) (W := Prt.Wide) Prt.In.mono (import_prt (by kernel_rfl)) (by kernel_rfl)) (.cons (imp1_struct (cells := Prt.cells) (I := Prt.In) (W := Prt.Wide) Prt.In.mono (import_prt (by kernel_rfl)) (by kernel_rfl)) .nil))) rfl (fun H gs h => by
    obtain ⟨_, _, rfl, ⟨c0, p0, rfl, h0, w0⟩, ⟨_, _, rfl, ⟨c1, p1, rfl, h1, w1⟩, ⟨_, _, rfl, ⟨c2, p2, rfl, h2, w2⟩, rfl⟩⟩⟩ := h
    exact lawJoinParts_c h0 w0 h1 w1 h2 w2) hval hW laidJoinParts (by kernel_rfl) rfl rfl (by kernel_rfl) (fun ds h => by
    match ds, h with
    | [_, _, _], _ => exact ⟨rfl, rfl, rfl⟩)
theorem joinParts_f1 : (Try.pinned : Pinned).checked.prog.funcNamed Rows.fnExactJoinPartsRow.func = some 5 := by kernel_rfl
theorem joinParts_f2 : joinedFacts (Try.pinned : Pinned).checked.prog 5 Try.f5 Rows.fnExactJoinPartsSpec Rows.fnExactJoinPartsRow = true := by kernel_rfl
theorem joinParts_f3 : Try.f5.isInstance (Try.pinned : Pinned).checked.prog Rows.fnExactJoinPartsRow.origin Rows.fnExactJoinPartsRow.targs := of_decide_eq_true (by kernel_rfl)
theorem joinParts_f4 : Try.f5.isWrapper (Try.pinned : Pinned).checked.prog Rows.fnExactJoinPartsRow.wrapper Rows.fnExactJoinPartsRow.mainSum := by unfold Func.isWrapper; first | (rw [if_pos (by decide +kernel)]; kernel_rfl) | (rw [if_neg (by decide +kernel)]; exact ⟨rfl, rfl⟩)
theorem joinParts_holds : Rows.FnExactJoinPartsSaid :=
  OpenClaim.holds_of_wide 5 Try.f5 rfl rfl rfl rfl rfl rfl rfl ⟨rfl, rfl, rfl, rfl, rfl⟩ rfl rfl rfl rfl rfl joinParts_f1 Try.func5 joinParts_f2
    joinParts_f3 joinParts_f4 (fun os started H enc _ => joinParts_lifted os started H enc)
#print axioms joinParts_holds
end Go.Proofs.Ytbpehbbdodahaaa
