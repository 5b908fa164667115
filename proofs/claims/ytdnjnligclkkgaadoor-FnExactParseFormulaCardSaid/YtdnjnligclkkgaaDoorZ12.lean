/- The law of ParseFormula holds for all arguments; the variables that its row lists read as the program's text lays them. No condition beside. -/
import Derived.Test.YtdnjnligclkkgaaDoorZ11
import Derived.Test.YtdnjnligclkkgaaDoorRows
import Derived.Test.YtdnjnligclkkgaaDoorTie
import Derived.Test.YtdnjnligclkkgaaDoorCards
import Derived.Test.YtdnjnligclkkgaaDoorChecked
import Derived.ProofKit
import Derived.LaidMore
import Derived.OpenShut
import Derived.Stop.Joined
import Derived.SevenTiedAt
namespace Go.Proofs.YtdnjnligclkkgaaDoor
open Go Go.GL Go.ChangeShapes Go.WideShapes Go.ChangeAt Go.WideMaps Go.WideElems Go.RowKit
theorem ownParseFormula : ownKnob Tryd.prog.godebug = none := by kernel_rfl
theorem laidParseFormula : laidOutB Tryd.prog = true := by kernel_rfl
theorem parseFormula_door (os : Os) (args : Array Value) : laidMetH Tryd.prog Rows.fnExactParseFormulaRow.laid ((World.doorLaid Tryd.prog 24 os).forCall (fun _ _ => 0) ⟨#[], args, []⟩).memory :=
  laidMetH_of_parts3 (fuel := 8) (laidMet_of_run' 8 (by kernel_rfl) (by kernel_rfl)) (by kernel_rfl) (by kernel_rfl)
set_option maxRecDepth 100000 in
theorem parseFormula_lifted (os : Os) (started : os.Started) (H : Type) (enc : TypeId × Value → H) :
    ReturnsInHanded {} Tryd.checked os 3 .any (fun w args => (Rows.fnExactParseFormulaSpec.pre enc Tryd.prog Tryd.f3 [] false w args ∧ laidMetH Tryd.prog Rows.fnExactParseFormulaRow.laid w) ∧ sizedMet enc Tryd.prog Tryd.f3 (OpenSpec.ofChange Rows.fnExactParseFormulaSpec) false w args)
      (Rows.fnExactParseFormulaSpec.post enc Tryd.prog Tryd.f3 false true false false) := by
  refine returnsInHanded_of_change_and (C := Tryd.checked) (X := fun w _ => laidMetH Tryd.prog Rows.fnExactParseFormulaRow.laid w) (fun _ _ _ hh h => h.of_heap hh) ownParseFormula started (by kernel_rfl) Tryd.func3
    (ChangeSpec.witness_shaped (enc := enc) (C := Tryd.checked) (os := os) (X := fun w _ => laidMetH Tryd.prog Rows.fnExactParseFormulaRow.laid w) false (World.doorLaid Tryd.prog 24 os) #[.string ⟨#[]⟩] 12 rfl (World.shaped_of_RefB (by kernel_rfl) (by kernel_rfl)) (by kernel_rfl) (by kernel_rfl) (by kernel_rfl) (parseFormula_door os _)) ?_
  intro W base args ds gs before hval hW _ _ _ _
  exact law_calls (ts := [9]) (.cons (imp1_str (by kernel_rfl)) .nil) rfl (fun H gs h => by
    obtain ⟨_, _, rfl, ⟨s0, rfl⟩, rfl⟩ := h
    exact lawParseFormula_c ) hval hW laidParseFormula (by kernel_rfl) rfl rfl (by kernel_rfl) (fun ds h => by
    match ds, h with
    | [_], _ => exact ⟨rfl, rfl, rfl⟩)
theorem parseFormula_f1 : (Tryd.pinned : Pinned).checked.prog.funcNamed Rows.fnExactParseFormulaRow.func = some 3 := by kernel_rfl
theorem parseFormula_f2 : joinedFacts (Tryd.pinned : Pinned).checked.prog 3 Tryd.f3 Rows.fnExactParseFormulaSpec Rows.fnExactParseFormulaRow = true := by kernel_rfl
theorem parseFormula_f3 : Tryd.f3.isInstance (Tryd.pinned : Pinned).checked.prog Rows.fnExactParseFormulaRow.origin Rows.fnExactParseFormulaRow.targs := of_decide_eq_true (by kernel_rfl)
theorem parseFormula_f4 : Tryd.f3.isWrapper (Tryd.pinned : Pinned).checked.prog Rows.fnExactParseFormulaRow.wrapper Rows.fnExactParseFormulaRow.mainSum := by unfold Func.isWrapper; first | (rw [if_pos (by decide +kernel)]; kernel_rfl) | (rw [if_neg (by decide +kernel)]; exact ⟨rfl, rfl⟩)
theorem parseFormula_row : Rows.FnExactParseFormulaSaid :=
  OpenClaim.holds_of_wide 3 Tryd.f3 rfl rfl rfl rfl rfl rfl rfl ⟨rfl, rfl, rfl, rfl, rfl⟩ rfl rfl rfl rfl rfl parseFormula_f1 Tryd.func3 parseFormula_f2
    parseFormula_f3 parseFormula_f4 (fun os started H enc _ => parseFormula_lifted os started H enc)
theorem parseFormula_holds : Rows.FnExactParseFormulaCardSaid :=
  Claim7.holds_tied_plain_at .later [] [.data, .data, .data] true (true, "777de7d1bb4fee2fbbc97516609dcdb40199dc8910d85475a7eaad45062d4450") false
    parseFormula_row (fun _ h => by cases h) (by kernel_rfl) (fun _ h => by cases h) fnExactParseFormula_row_tie rfl ⟨rfl, rfl⟩ (by kernel_rfl) rfl
    (fun f fn hf hfn => by
      obtain rfl : f = 3 := Option.some.inj (parseFormula_f1.symm.trans hf) |>.symm
      obtain rfl : fn = Tryd.f3 := (Option.some.inj (Tryd.func3.symm.trans hfn)).symm
      exact ⟨by kernel_rfl, fun j t ht => by
        have hm : t ∈ Tryd.f3.params.toList := by simpa using Array.mem_of_getElem? ht
        have hall : (Tryd.f3.params.toList.all fun u => !Tryd.prog.wantsStandIn u) = true := by kernel_rfl
        exact (show Tryd.prog.wantsStandIn t = false by simpa using List.all_eq_true.1 hall t hm)⟩)
    (by kernel_rfl)
#print axioms parseFormula_holds
end Go.Proofs.YtdnjnligclkkgaaDoor
