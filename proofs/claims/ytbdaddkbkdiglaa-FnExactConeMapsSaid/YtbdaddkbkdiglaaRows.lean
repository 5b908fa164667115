/-
  No cell of these rows narrows 'for every input' (looked for: loops, veiled, ifaces, maps, wideKeys, modest, calm, conditions, laid).
  DERIVED. THE GIVEN ROWS OF THIS SEAT. 4 by the template 'for every input the law returns true; each argument reads behind the call as it read before'; 0 by the template 'total and deterministic' (their statements: YtbdaddkbkdiglaaTotals.lean).
  GIVEN WITH THE SEED: the statements are not yours to turn. If you find one false, say at which input.
  Laid BY PROGRAM, IN A SANDBOX (cutbox-rows.mjs): the forced cells as the released guide's own fill.sh prints them over the translation a77a0aba4320fd85… (all of the seat's roots in one cut). By AI agents, Wed Nov 11 2026. No macro, syntax, notation, axiom, sorry.
-/
import Derived.Test.YtbdaddkbkdiglaaChecked
import GoSem.Claim
import GoSem.ClaimJoined
import GoSem.ClaimMapViews
import Derived.JoinedTies
import Derived.KernelRfl
namespace Go.Proofs.Ytbdaddkbkdiglaa
/- THE CELL 'sum', in the pinned program and in every row, IS THE sha256 OF THE DUMP (.gsa) THAT YtbdaddkbkdiglaaProg.lean LOADS. Nothing in Lean hashes anything: it is a label: what it is worth is what the hold of that sum in a sandbox is worth. -/
noncomputable def Try.pinned : Pinned := { name := "ytbdaddkbkdiglaa", sum := "a77a0aba4320fd85171772474b1dea875966e3c99577474c10c8cb288c4767da", checked := Try.checked }
namespace Rows
def none {H : Type} : Left H := { results := [], args := [] }

/-- 'laws.FnExactConeMaps': WHATEVER THE INPUT: true; the input reads as it did. -/
def fnExactConeMapsSpec : ChangeSpec := { name := "fnExactConeMaps", fn := fun _ => fun
  | [d1, d2, d3] => { results := [.lit (.bool true)], args := [d1, d2, d3] }
  | _ => none }
def fnExactConeMapsRow : OpenClaim := { program := "ytbdaddkbkdiglaa", sum := "a77a0aba4320fd85171772474b1dea875966e3c99577474c10c8cb288c4767da", func := "loop.example/g01083/laws.FnExactConeMaps", spec := "fnExactConeMaps", unfollowed := true, recurses := true, apart := false }
def FnExactConeMapsSaid : Prop := fnExactConeMapsRow.holds Try.pinned (OpenSpec.ofChange fnExactConeMapsSpec)

/-- ITS FALSE NEIGHBOUR: 'it returns false'. Refute it at one input. -/
def fnExactConeMapsWrong : ChangeSpec := { name := "fnExactConeMaps", fn := fun _ => fun
  | [d1, d2, d3] => { results := [.lit (.bool false)], args := [d1, d2, d3] }
  | _ => none }
def FnExactConeMapsWrongFalsely : Prop := fnExactConeMapsRow.holds Try.pinned (OpenSpec.ofChange fnExactConeMapsWrong)

/-- 'laws.FnExactCompositeTriples': WHATEVER THE INPUT: true; the input reads as it did. -/
def fnExactCompositeTriplesSpec : ChangeSpec := { name := "fnExactCompositeTriples", fn := fun _ => fun
  | [d1, d2, d3, d4] => { results := [.lit (.bool true)], args := [d1, d2, d3, d4] }
  | _ => none }
def fnExactCompositeTriplesRow : OpenClaim := { program := "ytbdaddkbkdiglaa", sum := "a77a0aba4320fd85171772474b1dea875966e3c99577474c10c8cb288c4767da", func := "loop.example/g01083/laws.FnExactCompositeTriples", spec := "fnExactCompositeTriples", apart := false }
def FnExactCompositeTriplesSaid : Prop := fnExactCompositeTriplesRow.holds Try.pinned (OpenSpec.ofChange fnExactCompositeTriplesSpec)

/-- ITS FALSE NEIGHBOUR: 'it returns false'. Refute it at one input. -/
def fnExactCompositeTriplesWrong : ChangeSpec := { name := "fnExactCompositeTriples", fn := fun _ => fun
  | [d1, d2, d3, d4] => { results := [.lit (.bool false)], args := [d1, d2, d3, d4] }
  | _ => none }
def FnExactCompositeTriplesWrongFalsely : Prop := fnExactCompositeTriplesRow.holds Try.pinned (OpenSpec.ofChange fnExactCompositeTriplesWrong)

/-- 'laws.FnExactLeftEntries': WHATEVER THE INPUT: true; the input reads as it did. -/
def fnExactLeftEntriesSpec : ChangeSpec := { name := "fnExactLeftEntries", fn := fun _ => fun
  | [d1, d2, d3] => { results := [.lit (.bool true)], args := [d1, d2, d3] }
  | _ => none }
def fnExactLeftEntriesRow : OpenClaim := { program := "ytbdaddkbkdiglaa", sum := "a77a0aba4320fd85171772474b1dea875966e3c99577474c10c8cb288c4767da", func := "loop.example/g01083/laws.FnExactLeftEntries", spec := "fnExactLeftEntries", apart := false }
def FnExactLeftEntriesSaid : Prop := fnExactLeftEntriesRow.holds Try.pinned (OpenSpec.ofChange fnExactLeftEntriesSpec)

/-- ITS FALSE NEIGHBOUR: 'it returns false'. Refute it at one input. -/
def fnExactLeftEntriesWrong : ChangeSpec := { name := "fnExactLeftEntries", fn := fun _ => fun
  | [d1, d2, d3] => { results := [.lit (.bool false)], args := [d1, d2, d3] }
  | _ => none }
def FnExactLeftEntriesWrongFalsely : Prop := fnExactLeftEntriesRow.holds Try.pinned (OpenSpec.ofChange fnExactLeftEntriesWrong)

/-- 'laws.FnExactQuotientCategory': WHATEVER THE INPUT: true; the input reads as it did. -/
def fnExactQuotientCategorySpec : ChangeSpec := { name := "fnExactQuotientCategory", fn := fun _ => fun
  | [d1, d2] => { results := [.lit (.bool true)], args := [d1, d2] }
  | _ => none }
def fnExactQuotientCategoryRow : OpenClaim := { program := "ytbdaddkbkdiglaa", sum := "a77a0aba4320fd85171772474b1dea875966e3c99577474c10c8cb288c4767da", func := "loop.example/g01083/laws.FnExactQuotientCategory", spec := "fnExactQuotientCategory", unfollowed := true, recurses := true, apart := false }
def FnExactQuotientCategorySaid : Prop := fnExactQuotientCategoryRow.holds Try.pinned (OpenSpec.ofChange fnExactQuotientCategorySpec)

/-- ITS FALSE NEIGHBOUR: 'it returns false'. Refute it at one input. -/
def fnExactQuotientCategoryWrong : ChangeSpec := { name := "fnExactQuotientCategory", fn := fun _ => fun
  | [d1, d2] => { results := [.lit (.bool false)], args := [d1, d2] }
  | _ => none }
def FnExactQuotientCategoryWrongFalsely : Prop := fnExactQuotientCategoryRow.holds Try.pinned (OpenSpec.ofChange fnExactQuotientCategoryWrong)

/- THE SECOND FORM. 'bulk': how many values and letters a reading holds, each counted each time it is reached (what is shared counts as often as it is met; a slice's spare places count too). A statement '..UptoSaid' is the law's where the arguments, and the package variables that the reading takes, are together of bulk at most 1048576: NARROWER than '..Said'. Prove '..Said' where nothing that the law and all that it calls make is longer than what came in: it says more and counts as full. Else prove '..UptoSaid'. A law counts once. -/
mutual
def uptoBulk {H : Type} : DataW H → Nat
  | .lit (.string bytes) => bytes.length + 1
  | .lit _ => 1
  | .nil => 1
  | .ptr d => uptoBulk d + 1
  | .slice elems spare => uptoBulkAll elems + uptoBulkAll spare + 1
  | .agg parts => uptoBulkAll parts + 1
  | .iface _ d => uptoBulk d + 1
  | .map entries => uptoBulkEntries entries + 1
  | .held _ => 1
def uptoBulkAll {H : Type} : List (DataW H) → Nat
  | [] => 0
  | d :: r => uptoBulk d + uptoBulkAll r
def uptoBulkEntries {H : Type} : List (Lit × DataW H) → Nat
  | [] => 0
  | x :: r => uptoBulkEntry x + uptoBulkEntries r
def uptoBulkEntry {H : Type} : Lit × DataW H → Nat
  | (.string bytes, d) => bytes.length + uptoBulk d + 1
  | (_, d) => uptoBulk d + 1
 end
def uptoSmall : (H : Type) → List (DataW H) → Bool := fun _ ds => decide (uptoBulkAll ds ≤ 1048576)
def OpenSpec.upto (s : _root_.Go.ChangeSpec) : _root_.Go.OpenSpec := { _root_.Go.OpenSpec.ofChange s with cond := some uptoSmall }

/-- 'laws.FnExactConeMaps', WHERE WHAT IT READS IS OF BULK AT MOST 1048576: true; the input reads as it did. -/
def fnExactConeMapsUptoRow : OpenClaim := { program := "ytbdaddkbkdiglaa", sum := "a77a0aba4320fd85171772474b1dea875966e3c99577474c10c8cb288c4767da", func := "loop.example/g01083/laws.FnExactConeMaps", spec := "fnExactConeMaps", unfollowed := true, recurses := true, apart := false, narrowed := true }
def FnExactConeMapsUptoSaid : Prop := fnExactConeMapsUptoRow.holds Try.pinned (OpenSpec.upto fnExactConeMapsSpec)

/-- 'laws.FnExactCompositeTriples', WHERE WHAT IT READS IS OF BULK AT MOST 1048576: true; the input reads as it did. -/
def fnExactCompositeTriplesUptoRow : OpenClaim := { program := "ytbdaddkbkdiglaa", sum := "a77a0aba4320fd85171772474b1dea875966e3c99577474c10c8cb288c4767da", func := "loop.example/g01083/laws.FnExactCompositeTriples", spec := "fnExactCompositeTriples", apart := false, narrowed := true }
def FnExactCompositeTriplesUptoSaid : Prop := fnExactCompositeTriplesUptoRow.holds Try.pinned (OpenSpec.upto fnExactCompositeTriplesSpec)

/-- 'laws.FnExactLeftEntries', WHERE WHAT IT READS IS OF BULK AT MOST 1048576: true; the input reads as it did. -/
def fnExactLeftEntriesUptoRow : OpenClaim := { program := "ytbdaddkbkdiglaa", sum := "a77a0aba4320fd85171772474b1dea875966e3c99577474c10c8cb288c4767da", func := "loop.example/g01083/laws.FnExactLeftEntries", spec := "fnExactLeftEntries", apart := false, narrowed := true }
def FnExactLeftEntriesUptoSaid : Prop := fnExactLeftEntriesUptoRow.holds Try.pinned (OpenSpec.upto fnExactLeftEntriesSpec)

/-- 'laws.FnExactQuotientCategory', WHERE WHAT IT READS IS OF BULK AT MOST 1048576: true; the input reads as it did. -/
def fnExactQuotientCategoryUptoRow : OpenClaim := { program := "ytbdaddkbkdiglaa", sum := "a77a0aba4320fd85171772474b1dea875966e3c99577474c10c8cb288c4767da", func := "loop.example/g01083/laws.FnExactQuotientCategory", spec := "fnExactQuotientCategory", unfollowed := true, recurses := true, apart := false, narrowed := true }
def FnExactQuotientCategoryUptoSaid : Prop := fnExactQuotientCategoryUptoRow.holds Try.pinned (OpenSpec.upto fnExactQuotientCategorySpec)

end Rows
end Go.Proofs.Ytbdaddkbkdiglaa
