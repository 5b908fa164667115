/- The law of CategoryLine holds for all arguments; the variables that its row lists read as the program's text lays them. No condition beside. -/
import Derived.Test.YtlfnclhkhmkklaaDoorZ7
import Derived.Test.YtlfnclhkhmkklaaDoorRows
import Derived.Test.YtlfnclhkhmkklaaDoorTie
import Derived.Test.YtlfnclhkhmkklaaDoorCards
import Derived.Test.YtlfnclhkhmkklaaDoorChecked
import Derived.ProofKit
import Derived.LaidMore
import Derived.OpenShut
import Derived.Stop.Joined
import Derived.SevenTiedAt
namespace Go.Proofs.YtlfnclhkhmkklaaDoor
open Go Go.GL Go.ChangeShapes Go.WideShapes Go.ChangeAt Go.WideMaps Go.WideElems Go.RowKit
theorem ownCategoryLine : ownKnob Tryd.prog.godebug = none := by kernel_rfl
theorem laidCategoryLine : laidOutB Tryd.prog = true := by kernel_rfl
theorem categoryLine_door (os : Os) (args : Array Value) : laidMetH Tryd.prog Rows.fnExactCategoryLineRow.laid ((World.doorLaid Tryd.prog 24 os).forCall (fun _ _ => 0) ⟨#[], args, []⟩).memory :=
  laidMetH_of_parts3 (fuel := 8) (laidMet_of_run' 8 (by kernel_rfl) (by kernel_rfl)) (by kernel_rfl) (by kernel_rfl)
set_option maxRecDepth 100000 in
theorem categoryLine_lifted (os : Os) (started : os.Started) (H : Type) (enc : TypeId × Value → H) :
    ReturnsInHanded {} Tryd.checked os 3 .any (fun w args => (Rows.fnExactCategoryLineSpec.pre enc Tryd.prog Tryd.f3 [] false w args ∧ laidMetH Tryd.prog Rows.fnExactCategoryLineRow.laid w) ∧ sizedMet enc Tryd.prog Tryd.f3 (OpenSpec.ofChange Rows.fnExactCategoryLineSpec) false w args)
      (Rows.fnExactCategoryLineSpec.post enc Tryd.prog Tryd.f3 false true false false) := by
  refine returnsInHanded_of_change_and (C := Tryd.checked) (X := fun w _ => laidMetH Tryd.prog Rows.fnExactCategoryLineRow.laid w) (fun _ _ _ hh h => h.of_heap hh) ownCategoryLine started (by kernel_rfl) Tryd.func3
    (ChangeSpec.witness_shaped (enc := enc) (C := Tryd.checked) (os := os) (X := fun w _ => laidMetH Tryd.prog Rows.fnExactCategoryLineRow.laid w) false (World.doorLaid Tryd.prog 24 os) #[.agg #[.int .i64 0, .slice none 0 0, .slice none 0 0, .slice none 0 0, .slice none 0 0], .int .i64 0] 12 rfl (World.shaped_of_RefB (by kernel_rfl) (by kernel_rfl)) (by kernel_rfl) (by kernel_rfl) (by kernel_rfl) (categoryLine_door os _)) ?_
  intro W base args ds gs before hval hW _ _ _ _
  exact law_calls (ts := [25, 2]) (.cons (imp1_struct (cells := Cat.cells) (I := Cat.In) (W := Cat.Wide) Cat.In.mono (import_cat (by kernel_rfl)) (by kernel_rfl)) (.cons (imp1_int (by kernel_rfl)) .nil)) rfl (fun H gs h => by
    obtain ⟨_, _, rfl, ⟨c0, p0, rfl, h0, w0⟩, ⟨_, _, rfl, ⟨n1, rfl, w1⟩, rfl⟩⟩ := h
    exact lawCategoryLine_c h0 w0 w1) hval hW laidCategoryLine (by kernel_rfl) rfl rfl (by kernel_rfl) (fun ds h => by
    match ds, h with
    | [_, _], _ => exact ⟨rfl, rfl, rfl⟩)
theorem categoryLine_f1 : (Tryd.pinned : Pinned).checked.prog.funcNamed Rows.fnExactCategoryLineRow.func = some 3 := by kernel_rfl
theorem categoryLine_f2 : joinedFacts (Tryd.pinned : Pinned).checked.prog 3 Tryd.f3 Rows.fnExactCategoryLineSpec Rows.fnExactCategoryLineRow = true := by kernel_rfl
theorem categoryLine_f3 : Tryd.f3.isInstance (Tryd.pinned : Pinned).checked.prog Rows.fnExactCategoryLineRow.origin Rows.fnExactCategoryLineRow.targs := of_decide_eq_true (by kernel_rfl)
theorem categoryLine_f4 : Tryd.f3.isWrapper (Tryd.pinned : Pinned).checked.prog Rows.fnExactCategoryLineRow.wrapper Rows.fnExactCategoryLineRow.mainSum := by unfold Func.isWrapper; first | (rw [if_pos (by decide +kernel)]; kernel_rfl) | (rw [if_neg (by decide +kernel)]; exact ⟨rfl, rfl⟩)
theorem categoryLine_row : Rows.FnExactCategoryLineSaid :=
  OpenClaim.holds_of_wide 3 Tryd.f3 rfl rfl rfl rfl rfl rfl rfl ⟨rfl, rfl, rfl, rfl, rfl⟩ rfl rfl rfl rfl rfl categoryLine_f1 Tryd.func3 categoryLine_f2
    categoryLine_f3 categoryLine_f4 (fun os started H enc _ => categoryLine_lifted os started H enc)
theorem categoryLine_holds : Rows.FnExactCategoryLineCardSaid :=
  Claim7.holds_tied_plain_at .later [] [.data, .data, .data] true (true, "a953a4468bcc6152fd1be6ae1805ab132318d3880cab686b31a1ee7edc175b47") false
    categoryLine_row (fun _ h => by cases h) (by kernel_rfl) (fun _ h => by cases h) fnExactCategoryLine_row_tie rfl ⟨rfl, rfl⟩ (by kernel_rfl) rfl
    (fun f fn hf hfn => by
      obtain rfl : f = 3 := Option.some.inj (categoryLine_f1.symm.trans hf) |>.symm
      obtain rfl : fn = Tryd.f3 := (Option.some.inj (Tryd.func3.symm.trans hfn)).symm
      exact ⟨by kernel_rfl, fun j t ht => by
        have hm : t ∈ Tryd.f3.params.toList := by simpa using Array.mem_of_getElem? ht
        have hall : (Tryd.f3.params.toList.all fun u => !Tryd.prog.wantsStandIn u) = true := by kernel_rfl
        exact (show Tryd.prog.wantsStandIn t = false by simpa using List.all_eq_true.1 hall t hm)⟩)
    (by kernel_rfl)
#print axioms categoryLine_holds
end Go.Proofs.YtlfnclhkhmkklaaDoor
