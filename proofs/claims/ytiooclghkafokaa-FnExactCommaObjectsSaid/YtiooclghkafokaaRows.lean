/-
  No cell of these rows narrows 'for every input' (looked for: loops, veiled, ifaces, maps, wideKeys, modest, calm, conditions, laid).
  DERIVED. THE GIVEN ROWS OF THIS SEAT. 6 by the template 'for every input the law returns true; each argument reads behind the call as it read before'; 0 by the template 'total and deterministic' (their statements: YtiooclghkafokaaTotals.lean).
  GIVEN WITH THE SEED: the statements are not yours to turn. If you find one false, say at which input.
  Laid BY PROGRAM, IN A SANDBOX (cutbox-rows.mjs): the forced cells as the released guide's own fill.sh prints them over the translation 6fec667f528fc796… (all of the seat's roots in one cut). By AI agents, Wed Nov 11 2026. No macro, syntax, notation, axiom, sorry.
-/
import Derived.Test.YtiooclghkafokaaChecked
import GoSem.Claim
import GoSem.ClaimJoined
import GoSem.ClaimMapViews
import Derived.JoinedTies
import Derived.KernelRfl
namespace Go.Proofs.Ytiooclghkafokaa
/- THE CELL 'sum', in the pinned program and in every row, IS THE sha256 OF THE DUMP (.gsa) THAT YtiooclghkafokaaProg.lean LOADS. Nothing in Lean hashes anything: it is a label: what it is worth is what the hold of that sum in a sandbox is worth. -/
noncomputable def Try.pinned : Pinned := { name := "ytiooclghkafokaa", sum := "6fec667f528fc796046bc5d5c323e002d84f51fe642a16247f8737183166b4ea", checked := Try.checked }
namespace Rows
def none {H : Type} : Left H := { results := [], args := [] }

/-- 'laws.FnCategoryFaults': WHATEVER THE INPUT: true; the input reads as it did. -/
def fnCategoryFaultsSpec : ChangeSpec := { name := "fnCategoryFaults", fn := fun _ => fun
  | [d] => { results := [.lit (.bool true)], args := [d] }
  | _ => none }
def fnCategoryFaultsRow : OpenClaim := { program := "ytiooclghkafokaa", sum := "6fec667f528fc796046bc5d5c323e002d84f51fe642a16247f8737183166b4ea", func := "loop.example/g01083/laws.FnCategoryFaults", spec := "fnCategoryFaults", apart := false }
def FnCategoryFaultsSaid : Prop := fnCategoryFaultsRow.holds Try.pinned (OpenSpec.ofChange fnCategoryFaultsSpec)

/-- ITS FALSE NEIGHBOUR: 'it returns false'. Refute it at one input. -/
def fnCategoryFaultsWrong : ChangeSpec := { name := "fnCategoryFaults", fn := fun _ => fun
  | [d] => { results := [.lit (.bool false)], args := [d] }
  | _ => none }
def FnCategoryFaultsWrongFalsely : Prop := fnCategoryFaultsRow.holds Try.pinned (OpenSpec.ofChange fnCategoryFaultsWrong)

/-- 'laws.FnConservative': WHATEVER THE INPUT: true; the input reads as it did. -/
def fnConservativeSpec : ChangeSpec := { name := "fnConservative", fn := fun _ => fun
  | [d] => { results := [.lit (.bool true)], args := [d] }
  | _ => none }
def fnConservativeRow : OpenClaim := { program := "ytiooclghkafokaa", sum := "6fec667f528fc796046bc5d5c323e002d84f51fe642a16247f8737183166b4ea", func := "loop.example/g01083/laws.FnConservative", spec := "fnConservative", unfollowed := true, recurses := true, apart := false }
def FnConservativeSaid : Prop := fnConservativeRow.holds Try.pinned (OpenSpec.ofChange fnConservativeSpec)

/-- ITS FALSE NEIGHBOUR: 'it returns false'. Refute it at one input. -/
def fnConservativeWrong : ChangeSpec := { name := "fnConservative", fn := fun _ => fun
  | [d] => { results := [.lit (.bool false)], args := [d] }
  | _ => none }
def FnConservativeWrongFalsely : Prop := fnConservativeRow.holds Try.pinned (OpenSpec.ofChange fnConservativeWrong)

/-- 'laws.FnExactCommaArrows': WHATEVER THE INPUT: true; the input reads as it did. -/
def fnExactCommaArrowsSpec : ChangeSpec := { name := "fnExactCommaArrows", fn := fun _ => fun
  | [d1, d2] => { results := [.lit (.bool true)], args := [d1, d2] }
  | _ => none }
def fnExactCommaArrowsRow : OpenClaim := { program := "ytiooclghkafokaa", sum := "6fec667f528fc796046bc5d5c323e002d84f51fe642a16247f8737183166b4ea", func := "loop.example/g01083/laws.FnExactCommaArrows", spec := "fnExactCommaArrows", unfollowed := true, recurses := true, apart := false }
def FnExactCommaArrowsSaid : Prop := fnExactCommaArrowsRow.holds Try.pinned (OpenSpec.ofChange fnExactCommaArrowsSpec)

/-- ITS FALSE NEIGHBOUR: 'it returns false'. Refute it at one input. -/
def fnExactCommaArrowsWrong : ChangeSpec := { name := "fnExactCommaArrows", fn := fun _ => fun
  | [d1, d2] => { results := [.lit (.bool false)], args := [d1, d2] }
  | _ => none }
def FnExactCommaArrowsWrongFalsely : Prop := fnExactCommaArrowsRow.holds Try.pinned (OpenSpec.ofChange fnExactCommaArrowsWrong)

/-- 'laws.FnExactCommaObjects': WHATEVER THE INPUT: true; the input reads as it did. -/
def fnExactCommaObjectsSpec : ChangeSpec := { name := "fnExactCommaObjects", fn := fun _ => fun
  | [d1, d2] => { results := [.lit (.bool true)], args := [d1, d2] }
  | _ => none }
def fnExactCommaObjectsRow : OpenClaim := { program := "ytiooclghkafokaa", sum := "6fec667f528fc796046bc5d5c323e002d84f51fe642a16247f8737183166b4ea", func := "loop.example/g01083/laws.FnExactCommaObjects", spec := "fnExactCommaObjects", unfollowed := true, recurses := true, apart := false }
def FnExactCommaObjectsSaid : Prop := fnExactCommaObjectsRow.holds Try.pinned (OpenSpec.ofChange fnExactCommaObjectsSpec)

/-- ITS FALSE NEIGHBOUR: 'it returns false'. Refute it at one input. -/
def fnExactCommaObjectsWrong : ChangeSpec := { name := "fnExactCommaObjects", fn := fun _ => fun
  | [d1, d2] => { results := [.lit (.bool false)], args := [d1, d2] }
  | _ => none }
def FnExactCommaObjectsWrongFalsely : Prop := fnExactCommaObjectsRow.holds Try.pinned (OpenSpec.ofChange fnExactCommaObjectsWrong)

/-- 'laws.FnExactIsStructure': WHATEVER THE INPUT: true; the input reads as it did. -/
def fnExactIsStructureSpec : ChangeSpec := { name := "fnExactIsStructure", fn := fun _ => fun
  | [d] => { results := [.lit (.bool true)], args := [d] }
  | _ => none }
def fnExactIsStructureRow : OpenClaim := { program := "ytiooclghkafokaa", sum := "6fec667f528fc796046bc5d5c323e002d84f51fe642a16247f8737183166b4ea", func := "loop.example/g01083/laws.FnExactIsStructure", spec := "fnExactIsStructure", apart := false }
def FnExactIsStructureSaid : Prop := fnExactIsStructureRow.holds Try.pinned (OpenSpec.ofChange fnExactIsStructureSpec)

/-- ITS FALSE NEIGHBOUR: 'it returns false'. Refute it at one input. -/
def fnExactIsStructureWrong : ChangeSpec := { name := "fnExactIsStructure", fn := fun _ => fun
  | [d] => { results := [.lit (.bool false)], args := [d] }
  | _ => none }
def FnExactIsStructureWrongFalsely : Prop := fnExactIsStructureRow.holds Try.pinned (OpenSpec.ofChange fnExactIsStructureWrong)

/-- 'laws.FnEulerProducts': WHATEVER THE INPUT: true; the input reads as it did. -/
def fnEulerProductsSpec : ChangeSpec := { name := "fnEulerProducts", fn := fun _ => fun
  | [d] => { results := [.lit (.bool true)], args := [d] }
  | _ => none }
def fnEulerProductsRow : OpenClaim := { program := "ytiooclghkafokaa", sum := "6fec667f528fc796046bc5d5c323e002d84f51fe642a16247f8737183166b4ea", func := "loop.example/g01083/laws.FnEulerProducts", spec := "fnEulerProducts", unfollowed := true, recurses := true, apart := false }
def FnEulerProductsSaid : Prop := fnEulerProductsRow.holds Try.pinned (OpenSpec.ofChange fnEulerProductsSpec)

/-- ITS FALSE NEIGHBOUR: 'it returns false'. Refute it at one input. -/
def fnEulerProductsWrong : ChangeSpec := { name := "fnEulerProducts", fn := fun _ => fun
  | [d] => { results := [.lit (.bool false)], args := [d] }
  | _ => none }
def FnEulerProductsWrongFalsely : Prop := fnEulerProductsRow.holds Try.pinned (OpenSpec.ofChange fnEulerProductsWrong)

/- THE SECOND FORM. 'bulk': how many values and letters a reading holds, each counted each time it is reached (what is shared counts as often as it is met; a slice's spare places count too). A statement '..UptoSaid' is the law's where the arguments, and the package variables that the reading takes, are together of bulk at most 1048576: NARROWER than '..Said'. Prove '..Said' where nothing that the law and all that it calls make is longer than what came in: it says more and counts as full. Else prove '..UptoSaid'. A law counts once. -/
mutual
def uptoBulk {H : Type} : DataW H → Nat
  | .lit (.string bytes) => bytes.length + 1
  | .lit _ => 1
  | .nil => 1
  | .ptr d => uptoBulk d + 1
  | .slice elems spare => uptoBulkAll elems + uptoBulkAll spare + 1
  | .agg parts => uptoBulkAll parts + 1
  | .iface _ d => uptoBulk d + 1
  | .map entries => uptoBulkEntries entries + 1
  | .held _ => 1
def uptoBulkAll {H : Type} : List (DataW H) → Nat
  | [] => 0
  | d :: r => uptoBulk d + uptoBulkAll r
def uptoBulkEntries {H : Type} : List (Lit × DataW H) → Nat
  | [] => 0
  | x :: r => uptoBulkEntry x + uptoBulkEntries r
def uptoBulkEntry {H : Type} : Lit × DataW H → Nat
  | (.string bytes, d) => bytes.length + uptoBulk d + 1
  | (_, d) => uptoBulk d + 1
 end
def uptoSmall : (H : Type) → List (DataW H) → Bool := fun _ ds => decide (uptoBulkAll ds ≤ 1048576)
def OpenSpec.upto (s : _root_.Go.ChangeSpec) : _root_.Go.OpenSpec := { _root_.Go.OpenSpec.ofChange s with cond := some uptoSmall }

/-- 'laws.FnCategoryFaults', WHERE WHAT IT READS IS OF BULK AT MOST 1048576: true; the input reads as it did. -/
def fnCategoryFaultsUptoRow : OpenClaim := { program := "ytiooclghkafokaa", sum := "6fec667f528fc796046bc5d5c323e002d84f51fe642a16247f8737183166b4ea", func := "loop.example/g01083/laws.FnCategoryFaults", spec := "fnCategoryFaults", apart := false, narrowed := true }
def FnCategoryFaultsUptoSaid : Prop := fnCategoryFaultsUptoRow.holds Try.pinned (OpenSpec.upto fnCategoryFaultsSpec)

/-- 'laws.FnConservative', WHERE WHAT IT READS IS OF BULK AT MOST 1048576: true; the input reads as it did. -/
def fnConservativeUptoRow : OpenClaim := { program := "ytiooclghkafokaa", sum := "6fec667f528fc796046bc5d5c323e002d84f51fe642a16247f8737183166b4ea", func := "loop.example/g01083/laws.FnConservative", spec := "fnConservative", unfollowed := true, recurses := true, apart := false, narrowed := true }
def FnConservativeUptoSaid : Prop := fnConservativeUptoRow.holds Try.pinned (OpenSpec.upto fnConservativeSpec)

/-- 'laws.FnExactCommaArrows', WHERE WHAT IT READS IS OF BULK AT MOST 1048576: true; the input reads as it did. -/
def fnExactCommaArrowsUptoRow : OpenClaim := { program := "ytiooclghkafokaa", sum := "6fec667f528fc796046bc5d5c323e002d84f51fe642a16247f8737183166b4ea", func := "loop.example/g01083/laws.FnExactCommaArrows", spec := "fnExactCommaArrows", unfollowed := true, recurses := true, apart := false, narrowed := true }
def FnExactCommaArrowsUptoSaid : Prop := fnExactCommaArrowsUptoRow.holds Try.pinned (OpenSpec.upto fnExactCommaArrowsSpec)

/-- 'laws.FnExactCommaObjects', WHERE WHAT IT READS IS OF BULK AT MOST 1048576: true; the input reads as it did. -/
def fnExactCommaObjectsUptoRow : OpenClaim := { program := "ytiooclghkafokaa", sum := "6fec667f528fc796046bc5d5c323e002d84f51fe642a16247f8737183166b4ea", func := "loop.example/g01083/laws.FnExactCommaObjects", spec := "fnExactCommaObjects", unfollowed := true, recurses := true, apart := false, narrowed := true }
def FnExactCommaObjectsUptoSaid : Prop := fnExactCommaObjectsUptoRow.holds Try.pinned (OpenSpec.upto fnExactCommaObjectsSpec)

/-- 'laws.FnExactIsStructure', WHERE WHAT IT READS IS OF BULK AT MOST 1048576: true; the input reads as it did. -/
def fnExactIsStructureUptoRow : OpenClaim := { program := "ytiooclghkafokaa", sum := "6fec667f528fc796046bc5d5c323e002d84f51fe642a16247f8737183166b4ea", func := "loop.example/g01083/laws.FnExactIsStructure", spec := "fnExactIsStructure", apart := false, narrowed := true }
def FnExactIsStructureUptoSaid : Prop := fnExactIsStructureUptoRow.holds Try.pinned (OpenSpec.upto fnExactIsStructureSpec)

/-- 'laws.FnEulerProducts', WHERE WHAT IT READS IS OF BULK AT MOST 1048576: true; the input reads as it did. -/
def fnEulerProductsUptoRow : OpenClaim := { program := "ytiooclghkafokaa", sum := "6fec667f528fc796046bc5d5c323e002d84f51fe642a16247f8737183166b4ea", func := "loop.example/g01083/laws.FnEulerProducts", spec := "fnEulerProducts", unfollowed := true, recurses := true, apart := false, narrowed := true }
def FnEulerProductsUptoSaid : Prop := fnEulerProductsUptoRow.holds Try.pinned (OpenSpec.upto fnEulerProductsSpec)

end Rows
end Go.Proofs.Ytiooclghkafokaa
