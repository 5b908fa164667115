/-
  No cell of these rows narrows 'for every input' (looked for: loops, veiled, ifaces, maps, wideKeys, modest, calm, conditions, laid).
  DERIVED. THE GIVEN ROWS OF THIS SEAT. 5 by the template 'for every input the law returns true; each argument reads behind the call as it read before'; 0 by the template 'total and deterministic' (their statements: YtpmjlhbglcaokaaTotals.lean).
  GIVEN WITH THE SEED: the statements are not yours to turn. If you find one false, say at which input.
  Laid BY PROGRAM, IN A SANDBOX (cutbox-rows.mjs): the forced cells as the released guide's own fill.sh prints them over the translation 029cd6c8b3e02d7e… (all of the seat's roots in one cut). By AI agents, Wed Nov 11 2026. No macro, syntax, notation, axiom, sorry.
-/
import Derived.Test.YtpmjlhbglcaokaaChecked
import GoSem.Claim
import GoSem.ClaimJoined
import GoSem.ClaimMapViews
import Derived.JoinedTies
import Derived.KernelRfl
namespace Go.Proofs.Ytpmjlhbglcaokaa
/- THE CELL 'sum', in the pinned program and in every row, IS THE sha256 OF THE DUMP (.gsa) THAT YtpmjlhbglcaokaaProg.lean LOADS. Nothing in Lean hashes anything: it is a label: what it is worth is what the hold of that sum in a sandbox is worth. -/
noncomputable def Try.pinned : Pinned := { name := "ytpmjlhbglcaokaa", sum := "029cd6c8b3e02d7eb2761e752f0c8e87e0c0e6d2bdd923279bd4663b86f51772", checked := Try.checked }
namespace Rows
def none {H : Type} : Left H := { results := [], args := [] }

/-- 'laws.FnExactAllCones': WHATEVER THE INPUT: true; the input reads as it did. -/
def fnExactAllConesSpec : ChangeSpec := { name := "fnExactAllCones", fn := fun _ => fun
  | [d] => { results := [.lit (.bool true)], args := [d] }
  | _ => none }
def fnExactAllConesRow : OpenClaim := { program := "ytpmjlhbglcaokaa", sum := "029cd6c8b3e02d7eb2761e752f0c8e87e0c0e6d2bdd923279bd4663b86f51772", func := "loop.example/g01083/laws.FnExactAllCones", spec := "fnExactAllCones", unfollowed := true, recurses := true, apart := false }
def FnExactAllConesSaid : Prop := fnExactAllConesRow.holds Try.pinned (OpenSpec.ofChange fnExactAllConesSpec)

/-- ITS FALSE NEIGHBOUR: 'it returns false'. Refute it at one input. -/
def fnExactAllConesWrong : ChangeSpec := { name := "fnExactAllCones", fn := fun _ => fun
  | [d] => { results := [.lit (.bool false)], args := [d] }
  | _ => none }
def FnExactAllConesWrongFalsely : Prop := fnExactAllConesRow.holds Try.pinned (OpenSpec.ofChange fnExactAllConesWrong)

/-- 'laws.FnExactLimitOf': WHATEVER THE INPUT: true; the input reads as it did. -/
def fnExactLimitOfSpec : ChangeSpec := { name := "fnExactLimitOf", fn := fun _ => fun
  | [d] => { results := [.lit (.bool true)], args := [d] }
  | _ => none }
def fnExactLimitOfRow : OpenClaim := { program := "ytpmjlhbglcaokaa", sum := "029cd6c8b3e02d7eb2761e752f0c8e87e0c0e6d2bdd923279bd4663b86f51772", func := "loop.example/g01083/laws.FnExactLimitOf", spec := "fnExactLimitOf", unfollowed := true, recurses := true, apart := false }
def FnExactLimitOfSaid : Prop := fnExactLimitOfRow.holds Try.pinned (OpenSpec.ofChange fnExactLimitOfSpec)

/-- ITS FALSE NEIGHBOUR: 'it returns false'. Refute it at one input. -/
def fnExactLimitOfWrong : ChangeSpec := { name := "fnExactLimitOf", fn := fun _ => fun
  | [d] => { results := [.lit (.bool false)], args := [d] }
  | _ => none }
def FnExactLimitOfWrongFalsely : Prop := fnExactLimitOfRow.holds Try.pinned (OpenSpec.ofChange fnExactLimitOfWrong)

/-- 'laws.FnExactAllLimits': WHATEVER THE INPUT: true; the input reads as it did. -/
def fnExactAllLimitsSpec : ChangeSpec := { name := "fnExactAllLimits", fn := fun _ => fun
  | [d] => { results := [.lit (.bool true)], args := [d] }
  | _ => none }
def fnExactAllLimitsRow : OpenClaim := { program := "ytpmjlhbglcaokaa", sum := "029cd6c8b3e02d7eb2761e752f0c8e87e0c0e6d2bdd923279bd4663b86f51772", func := "loop.example/g01083/laws.FnExactAllLimits", spec := "fnExactAllLimits", unfollowed := true, recurses := true, apart := false }
def FnExactAllLimitsSaid : Prop := fnExactAllLimitsRow.holds Try.pinned (OpenSpec.ofChange fnExactAllLimitsSpec)

/-- ITS FALSE NEIGHBOUR: 'it returns false'. Refute it at one input. -/
def fnExactAllLimitsWrong : ChangeSpec := { name := "fnExactAllLimits", fn := fun _ => fun
  | [d] => { results := [.lit (.bool false)], args := [d] }
  | _ => none }
def FnExactAllLimitsWrongFalsely : Prop := fnExactAllLimitsRow.holds Try.pinned (OpenSpec.ofChange fnExactAllLimitsWrong)

/-- 'laws.FnExactMediatingArrow': WHATEVER THE INPUT: true; the input reads as it did. -/
def fnExactMediatingArrowSpec : ChangeSpec := { name := "fnExactMediatingArrow", fn := fun _ => fun
  | [d1, d2, d3] => { results := [.lit (.bool true)], args := [d1, d2, d3] }
  | _ => none }
def fnExactMediatingArrowRow : OpenClaim := { program := "ytpmjlhbglcaokaa", sum := "029cd6c8b3e02d7eb2761e752f0c8e87e0c0e6d2bdd923279bd4663b86f51772", func := "loop.example/g01083/laws.FnExactMediatingArrow", spec := "fnExactMediatingArrow", unfollowed := true, recurses := true, apart := false }
def FnExactMediatingArrowSaid : Prop := fnExactMediatingArrowRow.holds Try.pinned (OpenSpec.ofChange fnExactMediatingArrowSpec)

/-- ITS FALSE NEIGHBOUR: 'it returns false'. Refute it at one input. -/
def fnExactMediatingArrowWrong : ChangeSpec := { name := "fnExactMediatingArrow", fn := fun _ => fun
  | [d1, d2, d3] => { results := [.lit (.bool false)], args := [d1, d2, d3] }
  | _ => none }
def FnExactMediatingArrowWrongFalsely : Prop := fnExactMediatingArrowRow.holds Try.pinned (OpenSpec.ofChange fnExactMediatingArrowWrong)

/-- 'laws.FnExactConeCategory': WHATEVER THE INPUT: true; the input reads as it did. -/
def fnExactConeCategorySpec : ChangeSpec := { name := "fnExactConeCategory", fn := fun _ => fun
  | [d] => { results := [.lit (.bool true)], args := [d] }
  | _ => none }
def fnExactConeCategoryRow : OpenClaim := { program := "ytpmjlhbglcaokaa", sum := "029cd6c8b3e02d7eb2761e752f0c8e87e0c0e6d2bdd923279bd4663b86f51772", func := "loop.example/g01083/laws.FnExactConeCategory", spec := "fnExactConeCategory", unfollowed := true, recurses := true, apart := false }
def FnExactConeCategorySaid : Prop := fnExactConeCategoryRow.holds Try.pinned (OpenSpec.ofChange fnExactConeCategorySpec)

/-- ITS FALSE NEIGHBOUR: 'it returns false'. Refute it at one input. -/
def fnExactConeCategoryWrong : ChangeSpec := { name := "fnExactConeCategory", fn := fun _ => fun
  | [d] => { results := [.lit (.bool false)], args := [d] }
  | _ => none }
def FnExactConeCategoryWrongFalsely : Prop := fnExactConeCategoryRow.holds Try.pinned (OpenSpec.ofChange fnExactConeCategoryWrong)

/- THE SECOND FORM. 'bulk': how many values and letters a reading holds, each counted each time it is reached (what is shared counts as often as it is met; a slice's spare places count too). A statement '..UptoSaid' is the law's where the arguments, and the package variables that the reading takes, are together of bulk at most 1048576: NARROWER than '..Said'. Prove '..Said' where nothing that the law and all that it calls make is longer than what came in: it says more and counts as full. Else prove '..UptoSaid'. A law counts once. -/
mutual
def uptoBulk {H : Type} : DataW H → Nat
  | .lit (.string bytes) => bytes.length + 1
  | .lit _ => 1
  | .nil => 1
  | .ptr d => uptoBulk d + 1
  | .slice elems spare => uptoBulkAll elems + uptoBulkAll spare + 1
  | .agg parts => uptoBulkAll parts + 1
  | .iface _ d => uptoBulk d + 1
  | .map entries => uptoBulkEntries entries + 1
  | .held _ => 1
def uptoBulkAll {H : Type} : List (DataW H) → Nat
  | [] => 0
  | d :: r => uptoBulk d + uptoBulkAll r
def uptoBulkEntries {H : Type} : List (Lit × DataW H) → Nat
  | [] => 0
  | x :: r => uptoBulkEntry x + uptoBulkEntries r
def uptoBulkEntry {H : Type} : Lit × DataW H → Nat
  | (.string bytes, d) => bytes.length + uptoBulk d + 1
  | (_, d) => uptoBulk d + 1
 end
def uptoSmall : (H : Type) → List (DataW H) → Bool := fun _ ds => decide (uptoBulkAll ds ≤ 1048576)
def OpenSpec.upto (s : _root_.Go.ChangeSpec) : _root_.Go.OpenSpec := { _root_.Go.OpenSpec.ofChange s with cond := some uptoSmall }

/-- 'laws.FnExactAllCones', WHERE WHAT IT READS IS OF BULK AT MOST 1048576: true; the input reads as it did. -/
def fnExactAllConesUptoRow : OpenClaim := { program := "ytpmjlhbglcaokaa", sum := "029cd6c8b3e02d7eb2761e752f0c8e87e0c0e6d2bdd923279bd4663b86f51772", func := "loop.example/g01083/laws.FnExactAllCones", spec := "fnExactAllCones", unfollowed := true, recurses := true, apart := false, narrowed := true }
def FnExactAllConesUptoSaid : Prop := fnExactAllConesUptoRow.holds Try.pinned (OpenSpec.upto fnExactAllConesSpec)

/-- 'laws.FnExactLimitOf', WHERE WHAT IT READS IS OF BULK AT MOST 1048576: true; the input reads as it did. -/
def fnExactLimitOfUptoRow : OpenClaim := { program := "ytpmjlhbglcaokaa", sum := "029cd6c8b3e02d7eb2761e752f0c8e87e0c0e6d2bdd923279bd4663b86f51772", func := "loop.example/g01083/laws.FnExactLimitOf", spec := "fnExactLimitOf", unfollowed := true, recurses := true, apart := false, narrowed := true }
def FnExactLimitOfUptoSaid : Prop := fnExactLimitOfUptoRow.holds Try.pinned (OpenSpec.upto fnExactLimitOfSpec)

/-- 'laws.FnExactAllLimits', WHERE WHAT IT READS IS OF BULK AT MOST 1048576: true; the input reads as it did. -/
def fnExactAllLimitsUptoRow : OpenClaim := { program := "ytpmjlhbglcaokaa", sum := "029cd6c8b3e02d7eb2761e752f0c8e87e0c0e6d2bdd923279bd4663b86f51772", func := "loop.example/g01083/laws.FnExactAllLimits", spec := "fnExactAllLimits", unfollowed := true, recurses := true, apart := false, narrowed := true }
def FnExactAllLimitsUptoSaid : Prop := fnExactAllLimitsUptoRow.holds Try.pinned (OpenSpec.upto fnExactAllLimitsSpec)

/-- 'laws.FnExactMediatingArrow', WHERE WHAT IT READS IS OF BULK AT MOST 1048576: true; the input reads as it did. -/
def fnExactMediatingArrowUptoRow : OpenClaim := { program := "ytpmjlhbglcaokaa", sum := "029cd6c8b3e02d7eb2761e752f0c8e87e0c0e6d2bdd923279bd4663b86f51772", func := "loop.example/g01083/laws.FnExactMediatingArrow", spec := "fnExactMediatingArrow", unfollowed := true, recurses := true, apart := false, narrowed := true }
def FnExactMediatingArrowUptoSaid : Prop := fnExactMediatingArrowUptoRow.holds Try.pinned (OpenSpec.upto fnExactMediatingArrowSpec)

/-- 'laws.FnExactConeCategory', WHERE WHAT IT READS IS OF BULK AT MOST 1048576: true; the input reads as it did. -/
def fnExactConeCategoryUptoRow : OpenClaim := { program := "ytpmjlhbglcaokaa", sum := "029cd6c8b3e02d7eb2761e752f0c8e87e0c0e6d2bdd923279bd4663b86f51772", func := "loop.example/g01083/laws.FnExactConeCategory", spec := "fnExactConeCategory", unfollowed := true, recurses := true, apart := false, narrowed := true }
def FnExactConeCategoryUptoSaid : Prop := fnExactConeCategoryUptoRow.holds Try.pinned (OpenSpec.upto fnExactConeCategorySpec)

end Rows
end Go.Proofs.Ytpmjlhbglcaokaa
