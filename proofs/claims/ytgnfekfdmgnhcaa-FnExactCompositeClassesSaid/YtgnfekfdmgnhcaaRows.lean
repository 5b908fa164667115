/-
  No cell of these rows narrows 'for every input' (looked for: loops, veiled, ifaces, maps, wideKeys, modest, calm, conditions, laid).
  DERIVED. THE GIVEN ROWS OF THIS SEAT. 6 by the template 'for every input the law returns true; each argument reads behind the call as it read before'; 0 by the template 'total and deterministic' (their statements: YtgnfekfdmgnhcaaTotals.lean).
  GIVEN WITH THE SEED: the statements are not yours to turn. If you find one false, say at which input.
  Laid BY PROGRAM, IN A SANDBOX (cutbox-rows.mjs): the forced cells as the released guide's own fill.sh prints them over the translation 6c5f2ea623520e6d… (all of the seat's roots in one cut). By AI agents, Wed Nov 11 2026. No macro, syntax, notation, axiom, sorry.
-/
import Derived.Test.YtgnfekfdmgnhcaaChecked
import GoSem.Claim
import GoSem.ClaimJoined
import GoSem.ClaimMapViews
import Derived.JoinedTies
import Derived.KernelRfl
namespace Go.Proofs.Ytgnfekfdmgnhcaa
/- THE CELL 'sum', in the pinned program and in every row, IS THE sha256 OF THE DUMP (.gsa) THAT YtgnfekfdmgnhcaaProg.lean LOADS. Nothing in Lean hashes anything: it is a label: what it is worth is what the hold of that sum in a sandbox is worth. -/
noncomputable def Try.pinned : Pinned := { name := "ytgnfekfdmgnhcaa", sum := "6c5f2ea623520e6df76a9bc62778347807798d2b66c7d4cfaf486091b00e84fb", checked := Try.checked }
namespace Rows
def none {H : Type} : Left H := { results := [], args := [] }

/-- 'laws.FnExactSkeletonOf': WHATEVER THE INPUT: true; the input reads as it did. -/
def fnExactSkeletonOfSpec : ChangeSpec := { name := "fnExactSkeletonOf", fn := fun _ => fun
  | [d] => { results := [.lit (.bool true)], args := [d] }
  | _ => none }
def fnExactSkeletonOfRow : OpenClaim := { program := "ytgnfekfdmgnhcaa", sum := "6c5f2ea623520e6df76a9bc62778347807798d2b66c7d4cfaf486091b00e84fb", func := "loop.example/g01083/laws.FnExactSkeletonOf", spec := "fnExactSkeletonOf", plainKeys := false, apart := false }
def FnExactSkeletonOfSaid : Prop := fnExactSkeletonOfRow.holds Try.pinned (OpenSpec.ofChange fnExactSkeletonOfSpec)

/-- ITS FALSE NEIGHBOUR: 'it returns false'. Refute it at one input. -/
def fnExactSkeletonOfWrong : ChangeSpec := { name := "fnExactSkeletonOf", fn := fun _ => fun
  | [d] => { results := [.lit (.bool false)], args := [d] }
  | _ => none }
def FnExactSkeletonOfWrongFalsely : Prop := fnExactSkeletonOfRow.holds Try.pinned (OpenSpec.ofChange fnExactSkeletonOfWrong)

/-- 'laws.FnExactCollageOf': WHATEVER THE INPUT: true; the input reads as it did. -/
def fnExactCollageOfSpec : ChangeSpec := { name := "fnExactCollageOf", fn := fun _ => fun
  | [d] => { results := [.lit (.bool true)], args := [d] }
  | _ => none }
def fnExactCollageOfRow : OpenClaim := { program := "ytgnfekfdmgnhcaa", sum := "6c5f2ea623520e6df76a9bc62778347807798d2b66c7d4cfaf486091b00e84fb", func := "loop.example/g01083/laws.FnExactCollageOf", spec := "fnExactCollageOf", unfollowed := true, recurses := true, plainKeys := false, apart := false }
def FnExactCollageOfSaid : Prop := fnExactCollageOfRow.holds Try.pinned (OpenSpec.ofChange fnExactCollageOfSpec)

/-- ITS FALSE NEIGHBOUR: 'it returns false'. Refute it at one input. -/
def fnExactCollageOfWrong : ChangeSpec := { name := "fnExactCollageOf", fn := fun _ => fun
  | [d] => { results := [.lit (.bool false)], args := [d] }
  | _ => none }
def FnExactCollageOfWrongFalsely : Prop := fnExactCollageOfRow.holds Try.pinned (OpenSpec.ofChange fnExactCollageOfWrong)

/-- 'laws.FnExactEndOf': WHATEVER THE INPUT: true; the input reads as it did. -/
def fnExactEndOfSpec : ChangeSpec := { name := "fnExactEndOf", fn := fun _ => fun
  | [d] => { results := [.lit (.bool true)], args := [d] }
  | _ => none }
def fnExactEndOfRow : OpenClaim := { program := "ytgnfekfdmgnhcaa", sum := "6c5f2ea623520e6df76a9bc62778347807798d2b66c7d4cfaf486091b00e84fb", func := "loop.example/g01083/laws.FnExactEndOf", spec := "fnExactEndOf", unfollowed := true, recurses := true, plainKeys := false, apart := false }
def FnExactEndOfSaid : Prop := fnExactEndOfRow.holds Try.pinned (OpenSpec.ofChange fnExactEndOfSpec)

/-- ITS FALSE NEIGHBOUR: 'it returns false'. Refute it at one input. -/
def fnExactEndOfWrong : ChangeSpec := { name := "fnExactEndOf", fn := fun _ => fun
  | [d] => { results := [.lit (.bool false)], args := [d] }
  | _ => none }
def FnExactEndOfWrongFalsely : Prop := fnExactEndOfRow.holds Try.pinned (OpenSpec.ofChange fnExactEndOfWrong)

/-- 'laws.FnExactCompositeClasses': WHATEVER THE INPUT: true; the input reads as it did. -/
def fnExactCompositeClassesSpec : ChangeSpec := { name := "fnExactCompositeClasses", fn := fun _ => fun
  | [d1, d2, d3, d4] => { results := [.lit (.bool true)], args := [d1, d2, d3, d4] }
  | _ => none }
def fnExactCompositeClassesRow : OpenClaim := { program := "ytgnfekfdmgnhcaa", sum := "6c5f2ea623520e6df76a9bc62778347807798d2b66c7d4cfaf486091b00e84fb", func := "loop.example/g01083/laws.FnExactCompositeClasses", spec := "fnExactCompositeClasses", plainKeys := false, apart := false }
def FnExactCompositeClassesSaid : Prop := fnExactCompositeClassesRow.holds Try.pinned (OpenSpec.ofChange fnExactCompositeClassesSpec)

/-- ITS FALSE NEIGHBOUR: 'it returns false'. Refute it at one input. -/
def fnExactCompositeClassesWrong : ChangeSpec := { name := "fnExactCompositeClasses", fn := fun _ => fun
  | [d1, d2, d3, d4] => { results := [.lit (.bool false)], args := [d1, d2, d3, d4] }
  | _ => none }
def FnExactCompositeClassesWrongFalsely : Prop := fnExactCompositeClassesRow.holds Try.pinned (OpenSpec.ofChange fnExactCompositeClassesWrong)

/-- 'laws.FnExactLeftClasses': WHATEVER THE INPUT: true; the input reads as it did. -/
def fnExactLeftClassesSpec : ChangeSpec := { name := "fnExactLeftClasses", fn := fun _ => fun
  | [d1, d2, d3] => { results := [.lit (.bool true)], args := [d1, d2, d3] }
  | _ => none }
def fnExactLeftClassesRow : OpenClaim := { program := "ytgnfekfdmgnhcaa", sum := "6c5f2ea623520e6df76a9bc62778347807798d2b66c7d4cfaf486091b00e84fb", func := "loop.example/g01083/laws.FnExactLeftClasses", spec := "fnExactLeftClasses", plainKeys := false, apart := false }
def FnExactLeftClassesSaid : Prop := fnExactLeftClassesRow.holds Try.pinned (OpenSpec.ofChange fnExactLeftClassesSpec)

/-- ITS FALSE NEIGHBOUR: 'it returns false'. Refute it at one input. -/
def fnExactLeftClassesWrong : ChangeSpec := { name := "fnExactLeftClasses", fn := fun _ => fun
  | [d1, d2, d3] => { results := [.lit (.bool false)], args := [d1, d2, d3] }
  | _ => none }
def FnExactLeftClassesWrongFalsely : Prop := fnExactLeftClassesRow.holds Try.pinned (OpenSpec.ofChange fnExactLeftClassesWrong)

/-- 'laws.FnExactGluedGenerators': WHATEVER THE INPUT: true; the input reads as it did. -/
def fnExactGluedGeneratorsSpec : ChangeSpec := { name := "fnExactGluedGenerators", fn := fun _ => fun
  | [d1, d2] => { results := [.lit (.bool true)], args := [d1, d2] }
  | _ => none }
def fnExactGluedGeneratorsRow : OpenClaim := { program := "ytgnfekfdmgnhcaa", sum := "6c5f2ea623520e6df76a9bc62778347807798d2b66c7d4cfaf486091b00e84fb", func := "loop.example/g01083/laws.FnExactGluedGenerators", spec := "fnExactGluedGenerators", plainKeys := false, apart := false }
def FnExactGluedGeneratorsSaid : Prop := fnExactGluedGeneratorsRow.holds Try.pinned (OpenSpec.ofChange fnExactGluedGeneratorsSpec)

/-- ITS FALSE NEIGHBOUR: 'it returns false'. Refute it at one input. -/
def fnExactGluedGeneratorsWrong : ChangeSpec := { name := "fnExactGluedGenerators", fn := fun _ => fun
  | [d1, d2] => { results := [.lit (.bool false)], args := [d1, d2] }
  | _ => none }
def FnExactGluedGeneratorsWrongFalsely : Prop := fnExactGluedGeneratorsRow.holds Try.pinned (OpenSpec.ofChange fnExactGluedGeneratorsWrong)

/- THE SECOND FORM. 'bulk': how many values and letters a reading holds, each counted each time it is reached (what is shared counts as often as it is met; a slice's spare places count too). A statement '..UptoSaid' is the law's where the arguments, and the package variables that the reading takes, are together of bulk at most 1048576: NARROWER than '..Said'. Prove '..Said' where nothing that the law and all that it calls make is longer than what came in: it says more and counts as full. Else prove '..UptoSaid'. A law counts once. -/
mutual
def uptoBulk {H : Type} : DataW H → Nat
  | .lit (.string bytes) => bytes.length + 1
  | .lit _ => 1
  | .nil => 1
  | .ptr d => uptoBulk d + 1
  | .slice elems spare => uptoBulkAll elems + uptoBulkAll spare + 1
  | .agg parts => uptoBulkAll parts + 1
  | .iface _ d => uptoBulk d + 1
  | .map entries => uptoBulkEntries entries + 1
  | .held _ => 1
def uptoBulkAll {H : Type} : List (DataW H) → Nat
  | [] => 0
  | d :: r => uptoBulk d + uptoBulkAll r
def uptoBulkEntries {H : Type} : List (Lit × DataW H) → Nat
  | [] => 0
  | x :: r => uptoBulkEntry x + uptoBulkEntries r
def uptoBulkEntry {H : Type} : Lit × DataW H → Nat
  | (.string bytes, d) => bytes.length + uptoBulk d + 1
  | (_, d) => uptoBulk d + 1
 end
def uptoSmall : (H : Type) → List (DataW H) → Bool := fun _ ds => decide (uptoBulkAll ds ≤ 1048576)
def OpenSpec.upto (s : _root_.Go.ChangeSpec) : _root_.Go.OpenSpec := { _root_.Go.OpenSpec.ofChange s with cond := some uptoSmall }

/-- 'laws.FnExactSkeletonOf', WHERE WHAT IT READS IS OF BULK AT MOST 1048576: true; the input reads as it did. -/
def fnExactSkeletonOfUptoRow : OpenClaim := { program := "ytgnfekfdmgnhcaa", sum := "6c5f2ea623520e6df76a9bc62778347807798d2b66c7d4cfaf486091b00e84fb", func := "loop.example/g01083/laws.FnExactSkeletonOf", spec := "fnExactSkeletonOf", plainKeys := false, apart := false, narrowed := true }
def FnExactSkeletonOfUptoSaid : Prop := fnExactSkeletonOfUptoRow.holds Try.pinned (OpenSpec.upto fnExactSkeletonOfSpec)

/-- 'laws.FnExactCollageOf', WHERE WHAT IT READS IS OF BULK AT MOST 1048576: true; the input reads as it did. -/
def fnExactCollageOfUptoRow : OpenClaim := { program := "ytgnfekfdmgnhcaa", sum := "6c5f2ea623520e6df76a9bc62778347807798d2b66c7d4cfaf486091b00e84fb", func := "loop.example/g01083/laws.FnExactCollageOf", spec := "fnExactCollageOf", unfollowed := true, recurses := true, plainKeys := false, apart := false, narrowed := true }
def FnExactCollageOfUptoSaid : Prop := fnExactCollageOfUptoRow.holds Try.pinned (OpenSpec.upto fnExactCollageOfSpec)

/-- 'laws.FnExactEndOf', WHERE WHAT IT READS IS OF BULK AT MOST 1048576: true; the input reads as it did. -/
def fnExactEndOfUptoRow : OpenClaim := { program := "ytgnfekfdmgnhcaa", sum := "6c5f2ea623520e6df76a9bc62778347807798d2b66c7d4cfaf486091b00e84fb", func := "loop.example/g01083/laws.FnExactEndOf", spec := "fnExactEndOf", unfollowed := true, recurses := true, plainKeys := false, apart := false, narrowed := true }
def FnExactEndOfUptoSaid : Prop := fnExactEndOfUptoRow.holds Try.pinned (OpenSpec.upto fnExactEndOfSpec)

/-- 'laws.FnExactCompositeClasses', WHERE WHAT IT READS IS OF BULK AT MOST 1048576: true; the input reads as it did. -/
def fnExactCompositeClassesUptoRow : OpenClaim := { program := "ytgnfekfdmgnhcaa", sum := "6c5f2ea623520e6df76a9bc62778347807798d2b66c7d4cfaf486091b00e84fb", func := "loop.example/g01083/laws.FnExactCompositeClasses", spec := "fnExactCompositeClasses", plainKeys := false, apart := false, narrowed := true }
def FnExactCompositeClassesUptoSaid : Prop := fnExactCompositeClassesUptoRow.holds Try.pinned (OpenSpec.upto fnExactCompositeClassesSpec)

/-- 'laws.FnExactLeftClasses', WHERE WHAT IT READS IS OF BULK AT MOST 1048576: true; the input reads as it did. -/
def fnExactLeftClassesUptoRow : OpenClaim := { program := "ytgnfekfdmgnhcaa", sum := "6c5f2ea623520e6df76a9bc62778347807798d2b66c7d4cfaf486091b00e84fb", func := "loop.example/g01083/laws.FnExactLeftClasses", spec := "fnExactLeftClasses", plainKeys := false, apart := false, narrowed := true }
def FnExactLeftClassesUptoSaid : Prop := fnExactLeftClassesUptoRow.holds Try.pinned (OpenSpec.upto fnExactLeftClassesSpec)

/-- 'laws.FnExactGluedGenerators', WHERE WHAT IT READS IS OF BULK AT MOST 1048576: true; the input reads as it did. -/
def fnExactGluedGeneratorsUptoRow : OpenClaim := { program := "ytgnfekfdmgnhcaa", sum := "6c5f2ea623520e6df76a9bc62778347807798d2b66c7d4cfaf486091b00e84fb", func := "loop.example/g01083/laws.FnExactGluedGenerators", spec := "fnExactGluedGenerators", plainKeys := false, apart := false, narrowed := true }
def FnExactGluedGeneratorsUptoSaid : Prop := fnExactGluedGeneratorsUptoRow.holds Try.pinned (OpenSpec.upto fnExactGluedGeneratorsSpec)

end Rows
end Go.Proofs.Ytgnfekfdmgnhcaa
