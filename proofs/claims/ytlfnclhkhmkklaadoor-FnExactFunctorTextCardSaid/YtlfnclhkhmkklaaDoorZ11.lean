/- The law of FunctorText holds for all arguments; the variables that its row lists read as the program's text lays them. No condition beside. -/
import Derived.Test.YtlfnclhkhmkklaaDoorZ10
import Derived.Test.YtlfnclhkhmkklaaDoorRows
import Derived.Test.YtlfnclhkhmkklaaDoorTie
import Derived.Test.YtlfnclhkhmkklaaDoorCards
import Derived.Test.YtlfnclhkhmkklaaDoorChecked
import Derived.ProofKit
import Derived.LaidMore
import Derived.OpenShut
import Derived.Stop.Joined
import Derived.SevenTiedAt
namespace Go.Proofs.YtlfnclhkhmkklaaDoor
open Go Go.GL Go.ChangeShapes Go.WideShapes Go.ChangeAt Go.WideMaps Go.WideElems Go.RowKit
theorem ownFunctorText : ownKnob Tryd.prog.godebug = none := by kernel_rfl
theorem laidFunctorText : laidOutB Tryd.prog = true := by kernel_rfl
theorem functorText_door (os : Os) (args : Array Value) : laidMetH Tryd.prog Rows.fnExactFunctorTextRow.laid ((World.doorLaid Tryd.prog 24 os).forCall (fun _ _ => 0) ⟨#[], args, []⟩).memory :=
  laidMetH_of_parts3 (fuel := 8) (laidMet_of_run' 8 (by kernel_rfl) (by kernel_rfl)) (by kernel_rfl) (by kernel_rfl)
set_option maxRecDepth 100000 in
theorem functorText_lifted (os : Os) (started : os.Started) (H : Type) (enc : TypeId × Value → H) :
    ReturnsInHanded {} Tryd.checked os 4 .any (fun w args => (Rows.fnExactFunctorTextSpec.pre enc Tryd.prog Tryd.f4 [] false w args ∧ laidMetH Tryd.prog Rows.fnExactFunctorTextRow.laid w) ∧ sizedMet enc Tryd.prog Tryd.f4 (OpenSpec.ofChange Rows.fnExactFunctorTextSpec) false w args)
      (Rows.fnExactFunctorTextSpec.post enc Tryd.prog Tryd.f4 false true false false) := by
  refine returnsInHanded_of_change_and (C := Tryd.checked) (X := fun w _ => laidMetH Tryd.prog Rows.fnExactFunctorTextRow.laid w) (fun _ _ _ hh h => h.of_heap hh) ownFunctorText started (by kernel_rfl) Tryd.func4
    (ChangeSpec.witness_shaped (enc := enc) (C := Tryd.checked) (os := os) (X := fun w _ => laidMetH Tryd.prog Rows.fnExactFunctorTextRow.laid w) false (World.doorLaid Tryd.prog 24 os) #[.agg #[.int .i64 0, .slice none 0 0, .slice none 0 0, .slice none 0 0, .slice none 0 0, .int .i64 0, .slice none 0 0, .slice none 0 0, .slice none 0 0, .slice none 0 0, .slice none 0 0, .slice none 0 0]] 12 rfl (World.shaped_of_RefB (by kernel_rfl) (by kernel_rfl)) (by kernel_rfl) (by kernel_rfl) (by kernel_rfl) (functorText_door os _)) ?_
  intro W base args ds gs before hval hW _ _ _ _
  exact law_calls (ts := [34]) (.cons (imp1_struct (cells := Fun.cells) (I := Fun.In) (W := Fun.Wide) Fun.In.mono (import_fun (by kernel_rfl)) (by kernel_rfl)) .nil) rfl (fun H gs h => by
    obtain ⟨_, _, rfl, ⟨c0, p0, rfl, h0, w0⟩, rfl⟩ := h
    exact lawFunctorText_c h0 w0) hval hW laidFunctorText (by kernel_rfl) rfl rfl (by kernel_rfl) (fun ds h => by
    match ds, h with
    | [_], _ => exact ⟨rfl, rfl, rfl⟩)
theorem functorText_f1 : (Tryd.pinned : Pinned).checked.prog.funcNamed Rows.fnExactFunctorTextRow.func = some 4 := by kernel_rfl
theorem functorText_f2 : joinedFacts (Tryd.pinned : Pinned).checked.prog 4 Tryd.f4 Rows.fnExactFunctorTextSpec Rows.fnExactFunctorTextRow = true := by kernel_rfl
theorem functorText_f3 : Tryd.f4.isInstance (Tryd.pinned : Pinned).checked.prog Rows.fnExactFunctorTextRow.origin Rows.fnExactFunctorTextRow.targs := of_decide_eq_true (by kernel_rfl)
theorem functorText_f4 : Tryd.f4.isWrapper (Tryd.pinned : Pinned).checked.prog Rows.fnExactFunctorTextRow.wrapper Rows.fnExactFunctorTextRow.mainSum := by unfold Func.isWrapper; first | (rw [if_pos (by decide +kernel)]; kernel_rfl) | (rw [if_neg (by decide +kernel)]; exact ⟨rfl, rfl⟩)
theorem functorText_row : Rows.FnExactFunctorTextSaid :=
  OpenClaim.holds_of_wide 4 Tryd.f4 rfl rfl rfl rfl rfl rfl rfl ⟨rfl, rfl, rfl, rfl, rfl⟩ rfl rfl rfl rfl rfl functorText_f1 Tryd.func4 functorText_f2
    functorText_f3 functorText_f4 (fun os started H enc _ => functorText_lifted os started H enc)
theorem functorText_holds : Rows.FnExactFunctorTextCardSaid :=
  Claim7.holds_tied_plain_at .later [] [.data, .data, .data] true (true, "a953a4468bcc6152fd1be6ae1805ab132318d3880cab686b31a1ee7edc175b47") false
    functorText_row (fun _ h => by cases h) (by kernel_rfl) (fun _ h => by cases h) fnExactFunctorText_row_tie rfl ⟨rfl, rfl⟩ (by kernel_rfl) rfl
    (fun f fn hf hfn => by
      obtain rfl : f = 4 := Option.some.inj (functorText_f1.symm.trans hf) |>.symm
      obtain rfl : fn = Tryd.f4 := (Option.some.inj (Tryd.func4.symm.trans hfn)).symm
      exact ⟨by kernel_rfl, fun j t ht => by
        have hm : t ∈ Tryd.f4.params.toList := by simpa using Array.mem_of_getElem? ht
        have hall : (Tryd.f4.params.toList.all fun u => !Tryd.prog.wantsStandIn u) = true := by kernel_rfl
        exact (show Tryd.prog.wantsStandIn t = false by simpa using List.all_eq_true.1 hall t hm)⟩)
    (by kernel_rfl)
#print axioms functorText_holds
end Go.Proofs.YtlfnclhkhmkklaaDoor
