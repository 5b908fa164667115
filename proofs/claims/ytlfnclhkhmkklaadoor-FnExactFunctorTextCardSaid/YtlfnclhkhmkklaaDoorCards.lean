/-
  DERIVED. GIVEN WITH THE SEED: THE CARDS: each row of YtlfnclhkhmkklaaDoorRows.lean that lists a variable, with what it lists TIED to the program's text (the seventh form; the later family's looks); each row that meets fmt, with fmt's text TOLD by the authors' own Lean function (tested against real Go, not proved from fmt's source: count such statements apart). THE CARD IS WHAT COUNTS. Prove the row's statement (the work); the ties are given (YtlfnclhkhmkklaaDoorTie.lean); close each card by the builder's one call (the guide's Derived/Test/ToyasCard.lean, 'card_holds'). Laid BY PROGRAM, IN A SANDBOX (cutbox-door.mjs). By AI agents, Wed Nov 11 2026. No macro, syntax, notation, axiom, sorry.
-/
import Derived.Test.YtlfnclhkhmkklaaDoorRows
import GoSem.ClaimSeven
namespace Go.Proofs.YtlfnclhkhmkklaaDoor
namespace Rows

/-- THE TIED CARD OF 'laws.FnExactCategoryLine'. -/
def fnExactCategoryLineCard : Claim7 := { stood := { row := fnExactCategoryLineRow, standIns := [], harness := (true, "a953a4468bcc6152fd1be6ae1805ab132318d3880cab686b31a1ee7edc175b47"), looks := false }, kinds := [], alts := [], laidByText := true, laidKinds := [.data, .data, .data], laidTests := true, laidLooks := .later }
def FnExactCategoryLineCardSaid : Prop := Claim7.holds Tryd.pinned (.plain (OpenSpec.ofChange fnExactCategoryLineSpec)) fnExactCategoryLineCard

/-- THE TIED CARD OF 'laws.FnExactFunctorText'. -/
def fnExactFunctorTextCard : Claim7 := { stood := { row := fnExactFunctorTextRow, standIns := [], harness := (true, "a953a4468bcc6152fd1be6ae1805ab132318d3880cab686b31a1ee7edc175b47"), looks := false }, kinds := [], alts := [], laidByText := true, laidKinds := [.data, .data, .data], laidTests := true, laidLooks := .later }
def FnExactFunctorTextCardSaid : Prop := Claim7.holds Tryd.pinned (.plain (OpenSpec.ofChange fnExactFunctorTextSpec)) fnExactFunctorTextCard

/-- THE TIED CARD OF 'laws.FnExactParseFormula'. -/
def fnExactParseFormulaCard : Claim7 := { stood := { row := fnExactParseFormulaRow, standIns := [], harness := (true, "a953a4468bcc6152fd1be6ae1805ab132318d3880cab686b31a1ee7edc175b47"), looks := false }, kinds := [], alts := [], laidByText := true, laidKinds := [.data, .data, .data], laidTests := true, laidLooks := .later }
def FnExactParseFormulaCardSaid : Prop := Claim7.holds Tryd.pinned (.plain (OpenSpec.ofChange fnExactParseFormulaSpec)) fnExactParseFormulaCard

/-- THE SECOND FORM's CARD OF 'laws.FnExactCategoryLine'. -/
def fnExactCategoryLineUptoCard : Claim7 := { stood := { row := fnExactCategoryLineUptoRow, standIns := [], harness := (true, "a953a4468bcc6152fd1be6ae1805ab132318d3880cab686b31a1ee7edc175b47"), looks := false }, kinds := [], alts := [], laidByText := true, laidKinds := [.data, .data, .data], laidTests := true, laidLooks := .later }
def FnExactCategoryLineUptoCardSaid : Prop := Claim7.holds Tryd.pinned (.plain (OpenSpec.upto fnExactCategoryLineSpec)) fnExactCategoryLineUptoCard

/-- THE SECOND FORM's CARD OF 'laws.FnExactFunctorText'. -/
def fnExactFunctorTextUptoCard : Claim7 := { stood := { row := fnExactFunctorTextUptoRow, standIns := [], harness := (true, "a953a4468bcc6152fd1be6ae1805ab132318d3880cab686b31a1ee7edc175b47"), looks := false }, kinds := [], alts := [], laidByText := true, laidKinds := [.data, .data, .data], laidTests := true, laidLooks := .later }
def FnExactFunctorTextUptoCardSaid : Prop := Claim7.holds Tryd.pinned (.plain (OpenSpec.upto fnExactFunctorTextSpec)) fnExactFunctorTextUptoCard

/-- THE SECOND FORM's CARD OF 'laws.FnExactParseFormula'. -/
def fnExactParseFormulaUptoCard : Claim7 := { stood := { row := fnExactParseFormulaUptoRow, standIns := [], harness := (true, "a953a4468bcc6152fd1be6ae1805ab132318d3880cab686b31a1ee7edc175b47"), looks := false }, kinds := [], alts := [], laidByText := true, laidKinds := [.data, .data, .data], laidTests := true, laidLooks := .later }
def FnExactParseFormulaUptoCardSaid : Prop := Claim7.holds Tryd.pinned (.plain (OpenSpec.upto fnExactParseFormulaSpec)) fnExactParseFormulaUptoCard
end Rows
end Go.Proofs.YtlfnclhkhmkklaaDoor
