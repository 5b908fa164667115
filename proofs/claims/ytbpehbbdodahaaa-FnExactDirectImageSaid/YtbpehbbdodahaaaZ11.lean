/- The law of DirectImage holds for all arguments. No condition. -/
import Derived.Test.YtbpehbbdodahaaaZ10
import Derived.Test.YtbpehbbdodahaaaRows
import Derived.Test.YtbpehbbdodahaaaChecked
import Derived.ProofKit
namespace Go.Proofs.Ytbpehbbdodahaaa
open Go Go.GL Go.ChangeShapes Go.WideShapes Go.ChangeAt Go.RowKit
theorem ownDirectImage : ownKnob Try.prog.godebug = none := by kernel_rfl
theorem laidDirectImage : laidOutB Try.prog = true := by kernel_rfl
set_option maxRecDepth 100000 in
theorem directImage_lifted (os : Os) (started : os.Started) (H : Type) (enc : TypeId × Value → H) :
    ReturnsInHanded {} Try.checked os 6 .any (Rows.fnExactDirectImageSpec.pre6 enc Try.prog Try.f6 Rows.fnExactDirectImageRow.domain false) (Rows.fnExactDirectImageSpec.post enc Try.prog Try.f6 false true false false) := by
  refine returnsInHanded_of_change (C := Try.checked) ownDirectImage started (by kernel_rfl) Try.func6
    (ChangeSpec.witness6 (enc := enc) (C := Try.checked) false ⟨#[], #[.agg #[.int .i64 0, .slice none 0 0, .slice none 0 0, .slice none 0 0, .slice none 0 0, .slice none 0 0, .slice none 0 0, .int .i64 0, .slice none 0 0, .slice none 0 0, .slice none 0 0, .slice none 0 0, .slice none 0 0, .slice none 0 0, .slice none 0 0], .agg #[.slice none 0 0]], []⟩ 12 (by kernel_rfl) (by kernel_rfl) (by kernel_rfl) (by kernel_rfl)) ?_
  intro W base args ds gs before hval hW _ _
  exact law_calls (ts := [29, 31]) (.cons (imp1_struct (cells := SMap.cells) (I := SMap.In) (W := SMap.Wide) SMap.In.mono (import_smap (by kernel_rfl)) (by kernel_rfl)) (.cons (imp1_struct (cells := Prt.cells) (I := Prt.In) (W := Prt.Wide) Prt.In.mono (import_prt (by kernel_rfl)) (by kernel_rfl)) .nil)) rfl (fun H gs h => by
    obtain ⟨_, _, rfl, ⟨c0, p0, rfl, h0, w0⟩, ⟨_, _, rfl, ⟨c1, p1, rfl, h1, w1⟩, rfl⟩⟩ := h
    exact lawDirectImage_c h0 w0 h1 w1) hval hW laidDirectImage (by kernel_rfl) rfl rfl (by kernel_rfl) (fun ds h => by
    match ds, h with
    | [_, _], _ => exact ⟨rfl, rfl, rfl⟩)
theorem directImage_f1 : (Try.pinned : Pinned).checked.prog.funcNamed Rows.fnExactDirectImageRow.func = some 6 := by kernel_rfl
theorem directImage_f2 : joinedFacts (Try.pinned : Pinned).checked.prog 6 Try.f6 Rows.fnExactDirectImageSpec Rows.fnExactDirectImageRow = true := by kernel_rfl
theorem directImage_f3 : Try.f6.isInstance (Try.pinned : Pinned).checked.prog Rows.fnExactDirectImageRow.origin Rows.fnExactDirectImageRow.targs := of_decide_eq_true (by kernel_rfl)
theorem directImage_f4 : Try.f6.isWrapper (Try.pinned : Pinned).checked.prog Rows.fnExactDirectImageRow.wrapper Rows.fnExactDirectImageRow.mainSum := by unfold Func.isWrapper; first | (rw [if_pos (by decide +kernel)]; kernel_rfl) | (rw [if_neg (by decide +kernel)]; exact ⟨rfl, rfl⟩)
theorem directImage_holds : Rows.FnExactDirectImageSaid :=
  OpenClaim.holds_of_wide 6 Try.f6 rfl rfl rfl rfl rfl rfl rfl ⟨rfl, rfl, rfl, rfl, rfl⟩ rfl rfl rfl rfl rfl directImage_f1 Try.func6 directImage_f2
    directImage_f3 directImage_f4 (fun os started H enc _ => directImage_lifted os started H enc)
#print axioms directImage_holds
end Go.Proofs.Ytbpehbbdodahaaa
