/- The law of PreimagePart holds for all arguments. No condition. -/
import Derived.Test.YtbpehbbdodahaaaLPreimagePart
import Derived.Test.YtbpehbbdodahaaaGlS
import Derived.Test.YtbpehbbdodahaaaRows
import Derived.Test.YtbpehbbdodahaaaChecked
import Derived.ProofKit
namespace Go.Proofs.Ytbpehbbdodahaaa
open Go Go.GL Go.ChangeShapes Go.WideShapes Go.ChangeAt Go.RowKit
theorem ownPreimagePart : ownKnob Try.prog.godebug = none := by kernel_rfl
theorem laidPreimagePart : laidOutB Try.prog = true := by kernel_rfl
set_option maxRecDepth 100000 in
theorem preimagePart_lifted (os : Os) (started : os.Started) (H : Type) (enc : TypeId × Value → H) :
    ReturnsInHanded {} Try.checked os 3 .any (Rows.fnExactPreimagePartSpec.pre6 enc Try.prog Try.f3 Rows.fnExactPreimagePartRow.domain false) (Rows.fnExactPreimagePartSpec.post enc Try.prog Try.f3 false true false false) := by
  refine returnsInHanded_of_change (C := Try.checked) ownPreimagePart started (by kernel_rfl) Try.func3
    (ChangeSpec.witness6 (enc := enc) (C := Try.checked) false ⟨#[], #[.agg #[.int .i64 0, .slice none 0 0, .slice none 0 0, .slice none 0 0, .slice none 0 0, .slice none 0 0, .slice none 0 0, .int .i64 0, .slice none 0 0, .slice none 0 0, .slice none 0 0, .slice none 0 0, .slice none 0 0, .slice none 0 0, .slice none 0 0], .agg #[.slice none 0 0]], []⟩ 12 (by kernel_rfl) (by kernel_rfl) (by kernel_rfl) (by kernel_rfl)) ?_
  intro W base args ds gs before hval hW _ _
  exact law_calls (ts := [29, 31]) (.cons (imp1_struct (cells := SMap.cells) (I := SMap.In) (W := SMap.Wide) SMap.In.mono (import_smap (by kernel_rfl)) (by kernel_rfl)) (.cons (imp1_struct (cells := Prt.cells) (I := Prt.In) (W := Prt.Wide) Prt.In.mono (import_prt (by kernel_rfl)) (by kernel_rfl)) .nil)) rfl (fun H gs h => by
    obtain ⟨_, _, rfl, ⟨c0, p0, rfl, h0, w0⟩, ⟨_, _, rfl, ⟨c1, p1, rfl, h1, w1⟩, rfl⟩⟩ := h
    exact lawPreimagePart_c h0 w0 h1 w1) hval hW laidPreimagePart (by kernel_rfl) rfl rfl (by kernel_rfl) (fun ds h => by
    match ds, h with
    | [_, _], _ => exact ⟨rfl, rfl, rfl⟩)
theorem preimagePart_f1 : (Try.pinned : Pinned).checked.prog.funcNamed Rows.fnExactPreimagePartRow.func = some 3 := by kernel_rfl
theorem preimagePart_f2 : joinedFacts (Try.pinned : Pinned).checked.prog 3 Try.f3 Rows.fnExactPreimagePartSpec Rows.fnExactPreimagePartRow = true := by kernel_rfl
theorem preimagePart_f3 : Try.f3.isInstance (Try.pinned : Pinned).checked.prog Rows.fnExactPreimagePartRow.origin Rows.fnExactPreimagePartRow.targs := of_decide_eq_true (by kernel_rfl)
theorem preimagePart_f4 : Try.f3.isWrapper (Try.pinned : Pinned).checked.prog Rows.fnExactPreimagePartRow.wrapper Rows.fnExactPreimagePartRow.mainSum := by unfold Func.isWrapper; first | (rw [if_pos (by decide +kernel)]; kernel_rfl) | (rw [if_neg (by decide +kernel)]; exact ⟨rfl, rfl⟩)
theorem preimagePart_holds : Rows.FnExactPreimagePartSaid :=
  OpenClaim.holds_of_wide 3 Try.f3 rfl rfl rfl rfl rfl rfl rfl ⟨rfl, rfl, rfl, rfl, rfl⟩ rfl rfl rfl rfl rfl preimagePart_f1 Try.func3 preimagePart_f2
    preimagePart_f3 preimagePart_f4 (fun os started H enc _ => preimagePart_lifted os started H enc)
#print axioms preimagePart_holds
end Go.Proofs.Ytbpehbbdodahaaa
