/-
  No cell of these rows narrows 'for every input' (looked for: loops, veiled, ifaces, maps, wideKeys, modest, calm, conditions, laid).
  DERIVED. THE GIVEN ROWS OF THIS SEAT. 4 by the template 'for every input the law returns true; each argument reads behind the call as it read before'; 0 by the template 'total and deterministic' (their statements: YtkfbalfcbaphcaaTotals.lean).
  GIVEN WITH THE SEED: the statements are not yours to turn. If you find one false, say at which input.
  Laid BY PROGRAM, IN A SANDBOX (cutbox-rows.mjs): the forced cells as the released guide's own fill.sh prints them over the translation c1a71a78f55af53b… (all of the seat's roots in one cut). By AI agents, Wed Nov 11 2026. No macro, syntax, notation, axiom, sorry.
-/
import Derived.Test.YtkfbalfcbaphcaaChecked
import GoSem.Claim
import GoSem.ClaimJoined
import GoSem.ClaimMapViews
import Derived.JoinedTies
import Derived.KernelRfl
namespace Go.Proofs.Ytkfbalfcbaphcaa
/- THE CELL 'sum', in the pinned program and in every row, IS THE sha256 OF THE DUMP (.gsa) THAT YtkfbalfcbaphcaaProg.lean LOADS. Nothing in Lean hashes anything: it is a label: what it is worth is what the hold of that sum in a sandbox is worth. -/
noncomputable def Try.pinned : Pinned := { name := "ytkfbalfcbaphcaa", sum := "c1a71a78f55af53b7260ecf3f33005d6b76665200ad078ceb0607af282c5b2d8", checked := Try.checked }
namespace Rows
def none {H : Type} : Left H := { results := [], args := [] }

/-- 'laws.FnSimplices': WHATEVER THE INPUT: true; the input reads as it did. -/
def fnSimplicesSpec : ChangeSpec := { name := "fnSimplices", fn := fun _ => fun
  | [d] => { results := [.lit (.bool true)], args := [d] }
  | _ => none }
def fnSimplicesRow : OpenClaim := { program := "ytkfbalfcbaphcaa", sum := "c1a71a78f55af53b7260ecf3f33005d6b76665200ad078ceb0607af282c5b2d8", func := "loop.example/g01083/laws.FnSimplices", spec := "fnSimplices", plainKeys := false, apart := false }
def FnSimplicesSaid : Prop := fnSimplicesRow.holds Try.pinned (OpenSpec.ofChange fnSimplicesSpec)

/-- ITS FALSE NEIGHBOUR: 'it returns false'. Refute it at one input. -/
def fnSimplicesWrong : ChangeSpec := { name := "fnSimplices", fn := fun _ => fun
  | [d] => { results := [.lit (.bool false)], args := [d] }
  | _ => none }
def FnSimplicesWrongFalsely : Prop := fnSimplicesRow.holds Try.pinned (OpenSpec.ofChange fnSimplicesWrong)

/-- 'laws.FnPullbacks': WHATEVER THE INPUT: true; the input reads as it did. -/
def fnPullbacksSpec : ChangeSpec := { name := "fnPullbacks", fn := fun _ => fun
  | [d] => { results := [.lit (.bool true)], args := [d] }
  | _ => none }
def fnPullbacksRow : OpenClaim := { program := "ytkfbalfcbaphcaa", sum := "c1a71a78f55af53b7260ecf3f33005d6b76665200ad078ceb0607af282c5b2d8", func := "loop.example/g01083/laws.FnPullbacks", spec := "fnPullbacks", unfollowed := true, recurses := true, plainKeys := false, apart := false }
def FnPullbacksSaid : Prop := fnPullbacksRow.holds Try.pinned (OpenSpec.ofChange fnPullbacksSpec)

/-- ITS FALSE NEIGHBOUR: 'it returns false'. Refute it at one input. -/
def fnPullbacksWrong : ChangeSpec := { name := "fnPullbacks", fn := fun _ => fun
  | [d] => { results := [.lit (.bool false)], args := [d] }
  | _ => none }
def FnPullbacksWrongFalsely : Prop := fnPullbacksRow.holds Try.pinned (OpenSpec.ofChange fnPullbacksWrong)

/-- 'laws.FnExactLimitFlags': WHATEVER THE INPUT: true; the input reads as it did. -/
def fnExactLimitFlagsSpec : ChangeSpec := { name := "fnExactLimitFlags", fn := fun _ => fun
  | [d] => { results := [.lit (.bool true)], args := [d] }
  | _ => none }
def fnExactLimitFlagsRow : OpenClaim := { program := "ytkfbalfcbaphcaa", sum := "c1a71a78f55af53b7260ecf3f33005d6b76665200ad078ceb0607af282c5b2d8", func := "loop.example/g01083/laws.FnExactLimitFlags", spec := "fnExactLimitFlags", unfollowed := true, recurses := true, plainKeys := false, apart := false }
def FnExactLimitFlagsSaid : Prop := fnExactLimitFlagsRow.holds Try.pinned (OpenSpec.ofChange fnExactLimitFlagsSpec)

/-- ITS FALSE NEIGHBOUR: 'it returns false'. Refute it at one input. -/
def fnExactLimitFlagsWrong : ChangeSpec := { name := "fnExactLimitFlags", fn := fun _ => fun
  | [d] => { results := [.lit (.bool false)], args := [d] }
  | _ => none }
def FnExactLimitFlagsWrongFalsely : Prop := fnExactLimitFlagsRow.holds Try.pinned (OpenSpec.ofChange fnExactLimitFlagsWrong)

/-- 'laws.FnCategoryFaults': WHATEVER THE INPUT: true; the input reads as it did. -/
def fnCategoryFaultsSpec : ChangeSpec := { name := "fnCategoryFaults", fn := fun _ => fun
  | [d] => { results := [.lit (.bool true)], args := [d] }
  | _ => none }
def fnCategoryFaultsRow : OpenClaim := { program := "ytkfbalfcbaphcaa", sum := "c1a71a78f55af53b7260ecf3f33005d6b76665200ad078ceb0607af282c5b2d8", func := "loop.example/g01083/laws.FnCategoryFaults", spec := "fnCategoryFaults", plainKeys := false, apart := false }
def FnCategoryFaultsSaid : Prop := fnCategoryFaultsRow.holds Try.pinned (OpenSpec.ofChange fnCategoryFaultsSpec)

/-- ITS FALSE NEIGHBOUR: 'it returns false'. Refute it at one input. -/
def fnCategoryFaultsWrong : ChangeSpec := { name := "fnCategoryFaults", fn := fun _ => fun
  | [d] => { results := [.lit (.bool false)], args := [d] }
  | _ => none }
def FnCategoryFaultsWrongFalsely : Prop := fnCategoryFaultsRow.holds Try.pinned (OpenSpec.ofChange fnCategoryFaultsWrong)

/- THE SECOND FORM. 'bulk': how many values and letters a reading holds, each counted each time it is reached (what is shared counts as often as it is met; a slice's spare places count too). A statement '..UptoSaid' is the law's where the arguments, and the package variables that the reading takes, are together of bulk at most 1048576: NARROWER than '..Said'. Prove '..Said' where nothing that the law and all that it calls make is longer than what came in: it says more and counts as full. Else prove '..UptoSaid'. A law counts once. -/
mutual
def uptoBulk {H : Type} : DataW H → Nat
  | .lit (.string bytes) => bytes.length + 1
  | .lit _ => 1
  | .nil => 1
  | .ptr d => uptoBulk d + 1
  | .slice elems spare => uptoBulkAll elems + uptoBulkAll spare + 1
  | .agg parts => uptoBulkAll parts + 1
  | .iface _ d => uptoBulk d + 1
  | .map entries => uptoBulkEntries entries + 1
  | .held _ => 1
def uptoBulkAll {H : Type} : List (DataW H) → Nat
  | [] => 0
  | d :: r => uptoBulk d + uptoBulkAll r
def uptoBulkEntries {H : Type} : List (Lit × DataW H) → Nat
  | [] => 0
  | x :: r => uptoBulkEntry x + uptoBulkEntries r
def uptoBulkEntry {H : Type} : Lit × DataW H → Nat
  | (.string bytes, d) => bytes.length + uptoBulk d + 1
  | (_, d) => uptoBulk d + 1
 end
def uptoSmall : (H : Type) → List (DataW H) → Bool := fun _ ds => decide (uptoBulkAll ds ≤ 1048576)
def OpenSpec.upto (s : _root_.Go.ChangeSpec) : _root_.Go.OpenSpec := { _root_.Go.OpenSpec.ofChange s with cond := some uptoSmall }

/-- 'laws.FnSimplices', WHERE WHAT IT READS IS OF BULK AT MOST 1048576: true; the input reads as it did. -/
def fnSimplicesUptoRow : OpenClaim := { program := "ytkfbalfcbaphcaa", sum := "c1a71a78f55af53b7260ecf3f33005d6b76665200ad078ceb0607af282c5b2d8", func := "loop.example/g01083/laws.FnSimplices", spec := "fnSimplices", plainKeys := false, apart := false, narrowed := true }
def FnSimplicesUptoSaid : Prop := fnSimplicesUptoRow.holds Try.pinned (OpenSpec.upto fnSimplicesSpec)

/-- 'laws.FnPullbacks', WHERE WHAT IT READS IS OF BULK AT MOST 1048576: true; the input reads as it did. -/
def fnPullbacksUptoRow : OpenClaim := { program := "ytkfbalfcbaphcaa", sum := "c1a71a78f55af53b7260ecf3f33005d6b76665200ad078ceb0607af282c5b2d8", func := "loop.example/g01083/laws.FnPullbacks", spec := "fnPullbacks", unfollowed := true, recurses := true, plainKeys := false, apart := false, narrowed := true }
def FnPullbacksUptoSaid : Prop := fnPullbacksUptoRow.holds Try.pinned (OpenSpec.upto fnPullbacksSpec)

/-- 'laws.FnExactLimitFlags', WHERE WHAT IT READS IS OF BULK AT MOST 1048576: true; the input reads as it did. -/
def fnExactLimitFlagsUptoRow : OpenClaim := { program := "ytkfbalfcbaphcaa", sum := "c1a71a78f55af53b7260ecf3f33005d6b76665200ad078ceb0607af282c5b2d8", func := "loop.example/g01083/laws.FnExactLimitFlags", spec := "fnExactLimitFlags", unfollowed := true, recurses := true, plainKeys := false, apart := false, narrowed := true }
def FnExactLimitFlagsUptoSaid : Prop := fnExactLimitFlagsUptoRow.holds Try.pinned (OpenSpec.upto fnExactLimitFlagsSpec)

/-- 'laws.FnCategoryFaults', WHERE WHAT IT READS IS OF BULK AT MOST 1048576: true; the input reads as it did. -/
def fnCategoryFaultsUptoRow : OpenClaim := { program := "ytkfbalfcbaphcaa", sum := "c1a71a78f55af53b7260ecf3f33005d6b76665200ad078ceb0607af282c5b2d8", func := "loop.example/g01083/laws.FnCategoryFaults", spec := "fnCategoryFaults", plainKeys := false, apart := false, narrowed := true }
def FnCategoryFaultsUptoSaid : Prop := fnCategoryFaultsUptoRow.holds Try.pinned (OpenSpec.upto fnCategoryFaultsSpec)

end Rows
end Go.Proofs.Ytkfbalfcbaphcaa
