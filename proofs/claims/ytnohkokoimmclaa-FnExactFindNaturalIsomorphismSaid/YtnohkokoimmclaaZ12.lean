/- The law of FindNaturalIsomorphism holds for all arguments. No condition. -/
import Derived.Test.YtnohkokoimmclaaZ11
import Derived.Test.YtnohkokoimmclaaRows
import Derived.Test.YtnohkokoimmclaaChecked
import Derived.ProofKit
namespace Go.Proofs.Ytnohkokoimmclaa
open Go Go.GL Go.ChangeShapes Go.WideShapes Go.ChangeAt Go.RowKit
theorem ownFindNaturalIsomorphism : ownKnob Try.prog.godebug = none := by kernel_rfl
theorem laidFindNaturalIsomorphism : laidOutB Try.prog = true := by kernel_rfl
set_option maxRecDepth 100000 in
theorem findNaturalIsomorphism_lifted (os : Os) (started : os.Started) (H : Type) (enc : TypeId × Value → H) :
    ReturnsInHanded {} Try.checked os 4 .any (Rows.fnExactFindNaturalIsomorphismSpec.pre6 enc Try.prog Try.f4 Rows.fnExactFindNaturalIsomorphismRow.domain false) (Rows.fnExactFindNaturalIsomorphismSpec.post enc Try.prog Try.f4 false true false false) := by
  refine returnsInHanded_of_change (C := Try.checked) ownFindNaturalIsomorphism started (by kernel_rfl) Try.func4
    (ChangeSpec.witness6 (enc := enc) (C := Try.checked) false ⟨#[], #[.agg #[.int .i64 0, .slice none 0 0, .slice none 0 0, .slice none 0 0, .slice none 0 0, .int .i64 0, .slice none 0 0, .slice none 0 0, .slice none 0 0, .slice none 0 0, .slice none 0 0, .slice none 0 0], .agg #[.int .i64 0, .slice none 0 0, .slice none 0 0, .slice none 0 0, .slice none 0 0, .int .i64 0, .slice none 0 0, .slice none 0 0, .slice none 0 0, .slice none 0 0, .slice none 0 0, .slice none 0 0]], []⟩ 12 (by kernel_rfl) (by kernel_rfl) (by kernel_rfl) (by kernel_rfl)) ?_
  intro W base args ds gs before hval hW _ _
  exact law_calls (ts := [27, 27]) (.cons (imp1_struct (cells := Fun.cells) (I := Fun.In) (W := Fun.Wide) Fun.In.mono (import_fun (by kernel_rfl)) (by kernel_rfl)) (.cons (imp1_struct (cells := Fun.cells) (I := Fun.In) (W := Fun.Wide) Fun.In.mono (import_fun (by kernel_rfl)) (by kernel_rfl)) .nil)) rfl (fun H gs h => by
    obtain ⟨_, _, rfl, ⟨c0, p0, rfl, h0, w0⟩, ⟨_, _, rfl, ⟨c1, p1, rfl, h1, w1⟩, rfl⟩⟩ := h
    exact lawFindNaturalIsomorphism_c h0 w0 h1 w1) hval hW laidFindNaturalIsomorphism (by kernel_rfl) rfl rfl (by kernel_rfl) (fun ds h => by
    match ds, h with
    | [_, _], _ => exact ⟨rfl, rfl, rfl⟩)
theorem findNaturalIsomorphism_f1 : (Try.pinned : Pinned).checked.prog.funcNamed Rows.fnExactFindNaturalIsomorphismRow.func = some 4 := by kernel_rfl
theorem findNaturalIsomorphism_f2 : joinedFacts (Try.pinned : Pinned).checked.prog 4 Try.f4 Rows.fnExactFindNaturalIsomorphismSpec Rows.fnExactFindNaturalIsomorphismRow = true := by kernel_rfl
theorem findNaturalIsomorphism_f3 : Try.f4.isInstance (Try.pinned : Pinned).checked.prog Rows.fnExactFindNaturalIsomorphismRow.origin Rows.fnExactFindNaturalIsomorphismRow.targs := of_decide_eq_true (by kernel_rfl)
theorem findNaturalIsomorphism_f4 : Try.f4.isWrapper (Try.pinned : Pinned).checked.prog Rows.fnExactFindNaturalIsomorphismRow.wrapper Rows.fnExactFindNaturalIsomorphismRow.mainSum := by unfold Func.isWrapper; first | (rw [if_pos (by decide +kernel)]; kernel_rfl) | (rw [if_neg (by decide +kernel)]; exact ⟨rfl, rfl⟩)
theorem findNaturalIsomorphism_holds : Rows.FnExactFindNaturalIsomorphismSaid :=
  OpenClaim.holds_of_wide 4 Try.f4 rfl rfl rfl rfl rfl rfl rfl ⟨rfl, rfl, rfl, rfl, rfl⟩ rfl rfl rfl rfl rfl findNaturalIsomorphism_f1 Try.func4 findNaturalIsomorphism_f2
    findNaturalIsomorphism_f3 findNaturalIsomorphism_f4 (fun os started H enc _ => findNaturalIsomorphism_lifted os started H enc)
#print axioms findNaturalIsomorphism_holds
end Go.Proofs.Ytnohkokoimmclaa
