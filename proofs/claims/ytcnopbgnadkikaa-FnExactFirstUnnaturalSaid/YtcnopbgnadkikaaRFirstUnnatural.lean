/- The law of FirstUnnatural holds for all arguments. No condition. -/
import Derived.Test.YtcnopbgnadkikaaM
import Derived.Test.YtcnopbgnadkikaaGlS
import Derived.Test.YtcnopbgnadkikaaRows
import Derived.Test.YtcnopbgnadkikaaChecked
import Derived.ProofKit
namespace Go.Proofs.Ytcnopbgnadkikaa
open Go Go.GL Go.ChangeShapes Go.WideShapes Go.ChangeAt Go.RowKit
theorem ownFirstUnnatural : ownKnob Try.prog.godebug = none := by kernel_rfl
theorem laidFirstUnnatural : laidOutB Try.prog = true := by kernel_rfl
set_option maxRecDepth 100000 in
theorem firstUnnatural_lifted (os : Os) (started : os.Started) (H : Type) (enc : TypeId × Value → H) :
    ReturnsInHanded {} Try.checked os 4 .any (Rows.fnExactFirstUnnaturalSpec.pre6 enc Try.prog Try.f4 Rows.fnExactFirstUnnaturalRow.domain false) (Rows.fnExactFirstUnnaturalSpec.post enc Try.prog Try.f4 false true false false) := by
  refine returnsInHanded_of_change (C := Try.checked) ownFirstUnnatural started (by kernel_rfl) Try.func4
    (ChangeSpec.witness6 (enc := enc) (C := Try.checked) false ⟨#[], #[.agg #[.int .i64 0, .slice none 0 0, .slice none 0 0, .slice none 0 0, .slice none 0 0, .int .i64 0, .slice none 0 0, .slice none 0 0, .slice none 0 0, .slice none 0 0, .slice none 0 0, .slice none 0 0, .int .i64 0, .slice none 0 0, .slice none 0 0, .slice none 0 0, .slice none 0 0, .int .i64 0, .slice none 0 0, .slice none 0 0, .slice none 0 0, .slice none 0 0, .slice none 0 0, .slice none 0 0, .slice none 0 0]], []⟩ 12 (by kernel_rfl) (by kernel_rfl) (by kernel_rfl) (by kernel_rfl)) ?_
  intro W base args ds gs before hval hW _ _
  exact law_calls (ts := [29]) (.cons (imp1_struct (cells := Tra.cells) (I := Tra.In) (W := Tra.Wide) Tra.In.mono (import_tra (by kernel_rfl)) (by kernel_rfl)) .nil) rfl (fun H gs h => by
    obtain ⟨_, _, rfl, ⟨c0, p0, rfl, h0, w0⟩, rfl⟩ := h
    exact lawFirstUnnatural_c h0 w0) hval hW laidFirstUnnatural (by kernel_rfl) rfl rfl (by kernel_rfl) (fun ds h => by
    match ds, h with
    | [_], _ => exact ⟨rfl, rfl, rfl⟩)
theorem firstUnnatural_holds : Rows.FnExactFirstUnnaturalSaid :=
  OpenClaim.holds_of_wide 4 Try.f4 rfl rfl rfl rfl rfl rfl rfl ⟨rfl, rfl, rfl, rfl, rfl⟩ rfl rfl rfl rfl rfl (by kernel_rfl) Try.func4 (by kernel_rfl)
    (of_decide_eq_true (by kernel_rfl)) (by unfold Func.isWrapper; first | (rw [if_pos (by decide +kernel)]; kernel_rfl) | (rw [if_neg (by decide +kernel)]; exact ⟨rfl, rfl⟩))
    (fun os started H enc _ => firstUnnatural_lifted os started H enc)
#print axioms firstUnnatural_holds
end Go.Proofs.Ytcnopbgnadkikaa
