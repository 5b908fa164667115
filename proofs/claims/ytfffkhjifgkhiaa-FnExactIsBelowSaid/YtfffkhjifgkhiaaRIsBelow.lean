/- The law of IsBelow holds for all arguments. No condition. -/
import Derived.Test.YtfffkhjifgkhiaaS
import Derived.Test.YtfffkhjifgkhiaaGlS
import Derived.Test.YtfffkhjifgkhiaaRows
import Derived.Test.YtfffkhjifgkhiaaChecked
import Derived.ProofKit
namespace Go.Proofs.Ytfffkhjifgkhiaa
open Go Go.GL Go.ChangeShapes Go.WideShapes Go.ChangeAt Go.RowKit
theorem ownIsBelow : ownKnob Try.prog.godebug = none := by kernel_rfl
theorem laidIsBelow : laidOutB Try.prog = true := by kernel_rfl
set_option maxRecDepth 100000 in
theorem isBelow_lifted (os : Os) (started : os.Started) (H : Type) (enc : TypeId × Value → H) :
    ReturnsInHanded {} Try.checked os 3 .any (Rows.fnExactIsBelowSpec.pre6 enc Try.prog Try.f3 Rows.fnExactIsBelowRow.domain false) (Rows.fnExactIsBelowSpec.post enc Try.prog Try.f3 false true false false) := by
  refine returnsInHanded_of_change (C := Try.checked) ownIsBelow started (by kernel_rfl) Try.func3
    (ChangeSpec.witness6 (enc := enc) (C := Try.checked) false ⟨#[], #[.agg #[.int .i64 0, .slice none 0 0, .slice none 0 0, .slice none 0 0, .slice none 0 0, .slice none 0 0, .slice none 0 0], .agg #[.slice none 0 0], .agg #[.slice none 0 0]], []⟩ 12 (by kernel_rfl) (by kernel_rfl) (by kernel_rfl) (by kernel_rfl)) ?_
  intro W base args ds gs before hval hW _ _
  exact law_calls (ts := [27, 29, 29]) (.cons (imp1_struct (cells := SFun.cells) (I := SFun.In) (W := SFun.Wide) SFun.In.mono (import_sfun (by kernel_rfl)) (by kernel_rfl)) (.cons (imp1_struct (cells := Prt.cells) (I := Prt.In) (W := Prt.Wide) Prt.In.mono (import_prt (by kernel_rfl)) (by kernel_rfl)) (.cons (imp1_struct (cells := Prt.cells) (I := Prt.In) (W := Prt.Wide) Prt.In.mono (import_prt (by kernel_rfl)) (by kernel_rfl)) .nil))) rfl (fun H gs h => by
    obtain ⟨_, _, rfl, ⟨c0, p0, rfl, h0, w0⟩, ⟨_, _, rfl, ⟨c1, p1, rfl, h1, w1⟩, ⟨_, _, rfl, ⟨c2, p2, rfl, h2, w2⟩, rfl⟩⟩⟩ := h
    exact lawIsBelow_c h0 w0 h1 w1 h2 w2) hval hW laidIsBelow (by kernel_rfl) rfl rfl (by kernel_rfl) (fun ds h => by
    match ds, h with
    | [_, _, _], _ => exact ⟨rfl, rfl, rfl⟩)
theorem isBelow_f1 : (Try.pinned : Pinned).checked.prog.funcNamed Rows.fnExactIsBelowRow.func = some 3 := by kernel_rfl
theorem isBelow_f2 : joinedFacts (Try.pinned : Pinned).checked.prog 3 Try.f3 Rows.fnExactIsBelowSpec Rows.fnExactIsBelowRow = true := by kernel_rfl
theorem isBelow_f3 : Try.f3.isInstance (Try.pinned : Pinned).checked.prog Rows.fnExactIsBelowRow.origin Rows.fnExactIsBelowRow.targs := of_decide_eq_true (by kernel_rfl)
theorem isBelow_f4 : Try.f3.isWrapper (Try.pinned : Pinned).checked.prog Rows.fnExactIsBelowRow.wrapper Rows.fnExactIsBelowRow.mainSum := by unfold Func.isWrapper; first | (rw [if_pos (by decide +kernel)]; kernel_rfl) | (rw [if_neg (by decide +kernel)]; exact ⟨rfl, rfl⟩)
theorem isBelow_holds : Rows.FnExactIsBelowSaid :=
  OpenClaim.holds_of_wide 3 Try.f3 rfl rfl rfl rfl rfl rfl rfl ⟨rfl, rfl, rfl, rfl, rfl⟩ rfl rfl rfl rfl rfl isBelow_f1 Try.func3 isBelow_f2
    isBelow_f3 isBelow_f4 (fun os started H enc _ => isBelow_lifted os started H enc)
#print axioms isBelow_holds
end Go.Proofs.Ytfffkhjifgkhiaa
