/-
  No cell of these rows narrows 'for every input' (looked for: loops, veiled, ifaces, maps, wideKeys, modest, calm, conditions, laid).
  DERIVED. THE GIVEN ROWS OF THIS SEAT. 3 by the template 'for every input the law returns true; each argument reads behind the call as it read before'; 0 by the template 'total and deterministic' (their statements: YtfanjkbaemhbmaaTotals.lean).
  GIVEN WITH THE SEED: the statements are not yours to turn. If you find one false, say at which input.
  Laid BY PROGRAM, IN A SANDBOX (cutbox-rows.mjs): the forced cells as the released guide's own fill.sh prints them over the translation 0576fbe7480d23fe… (all of the seat's roots in one cut). By AI agents, Wed Nov 11 2026. No macro, syntax, notation, axiom, sorry.
-/
import Derived.Test.YtfanjkbaemhbmaaChecked
import GoSem.Claim
import GoSem.ClaimJoined
import GoSem.ClaimMapViews
import Derived.JoinedTies
import Derived.KernelRfl
namespace Go.Proofs.Ytfanjkbaemhbmaa
/- THE CELL 'sum', in the pinned program and in every row, IS THE sha256 OF THE DUMP (.gsa) THAT YtfanjkbaemhbmaaProg.lean LOADS. Nothing in Lean hashes anything: it is a label: what it is worth is what the hold of that sum in a sandbox is worth. -/
noncomputable def Try.pinned : Pinned := { name := "ytfanjkbaemhbmaa", sum := "0576fbe7480d23fe42cdf6794dca9d137849627a87ec3f6698588f99e48211fe", checked := Try.checked }
namespace Rows
def none {H : Type} : Left H := { results := [], args := [] }

/-- 'laws.FnEulerProducts': WHATEVER THE INPUT: true; the input reads as it did. -/
def fnEulerProductsSpec : ChangeSpec := { name := "fnEulerProducts", fn := fun _ => fun
  | [d] => { results := [.lit (.bool true)], args := [d] }
  | _ => none }
def fnEulerProductsRow : OpenClaim := { program := "ytfanjkbaemhbmaa", sum := "0576fbe7480d23fe42cdf6794dca9d137849627a87ec3f6698588f99e48211fe", func := "loop.example/g01083/laws.FnEulerProducts", spec := "fnEulerProducts", unfollowed := true, recurses := true, apart := false }
def FnEulerProductsSaid : Prop := fnEulerProductsRow.holds Try.pinned (OpenSpec.ofChange fnEulerProductsSpec)

/-- ITS FALSE NEIGHBOUR: 'it returns false'. Refute it at one input. -/
def fnEulerProductsWrong : ChangeSpec := { name := "fnEulerProducts", fn := fun _ => fun
  | [d] => { results := [.lit (.bool false)], args := [d] }
  | _ => none }
def FnEulerProductsWrongFalsely : Prop := fnEulerProductsRow.holds Try.pinned (OpenSpec.ofChange fnEulerProductsWrong)

/-- 'laws.FnCategoryFaults': WHATEVER THE INPUT: true; the input reads as it did. -/
def fnCategoryFaultsSpec : ChangeSpec := { name := "fnCategoryFaults", fn := fun _ => fun
  | [d] => { results := [.lit (.bool true)], args := [d] }
  | _ => none }
def fnCategoryFaultsRow : OpenClaim := { program := "ytfanjkbaemhbmaa", sum := "0576fbe7480d23fe42cdf6794dca9d137849627a87ec3f6698588f99e48211fe", func := "loop.example/g01083/laws.FnCategoryFaults", spec := "fnCategoryFaults", apart := false }
def FnCategoryFaultsSaid : Prop := fnCategoryFaultsRow.holds Try.pinned (OpenSpec.ofChange fnCategoryFaultsSpec)

/-- ITS FALSE NEIGHBOUR: 'it returns false'. Refute it at one input. -/
def fnCategoryFaultsWrong : ChangeSpec := { name := "fnCategoryFaults", fn := fun _ => fun
  | [d] => { results := [.lit (.bool false)], args := [d] }
  | _ => none }
def FnCategoryFaultsWrongFalsely : Prop := fnCategoryFaultsRow.holds Try.pinned (OpenSpec.ofChange fnCategoryFaultsWrong)

/-- 'laws.FnConservative': WHATEVER THE INPUT: true; the input reads as it did. -/
def fnConservativeSpec : ChangeSpec := { name := "fnConservative", fn := fun _ => fun
  | [d] => { results := [.lit (.bool true)], args := [d] }
  | _ => none }
def fnConservativeRow : OpenClaim := { program := "ytfanjkbaemhbmaa", sum := "0576fbe7480d23fe42cdf6794dca9d137849627a87ec3f6698588f99e48211fe", func := "loop.example/g01083/laws.FnConservative", spec := "fnConservative", unfollowed := true, recurses := true, apart := false }
def FnConservativeSaid : Prop := fnConservativeRow.holds Try.pinned (OpenSpec.ofChange fnConservativeSpec)

/-- ITS FALSE NEIGHBOUR: 'it returns false'. Refute it at one input. -/
def fnConservativeWrong : ChangeSpec := { name := "fnConservative", fn := fun _ => fun
  | [d] => { results := [.lit (.bool false)], args := [d] }
  | _ => none }
def FnConservativeWrongFalsely : Prop := fnConservativeRow.holds Try.pinned (OpenSpec.ofChange fnConservativeWrong)

/- THE SECOND FORM. 'bulk': how many values and letters a reading holds, each counted each time it is reached (what is shared counts as often as it is met; a slice's spare places count too). A statement '..UptoSaid' is the law's where the arguments, and the package variables that the reading takes, are together of bulk at most 1048576: NARROWER than '..Said'. Prove '..Said' where nothing that the law and all that it calls make is longer than what came in: it says more and counts as full. Else prove '..UptoSaid'. A law counts once. -/
mutual
def uptoBulk {H : Type} : DataW H → Nat
  | .lit (.string bytes) => bytes.length + 1
  | .lit _ => 1
  | .nil => 1
  | .ptr d => uptoBulk d + 1
  | .slice elems spare => uptoBulkAll elems + uptoBulkAll spare + 1
  | .agg parts => uptoBulkAll parts + 1
  | .iface _ d => uptoBulk d + 1
  | .map entries => uptoBulkEntries entries + 1
  | .held _ => 1
def uptoBulkAll {H : Type} : List (DataW H) → Nat
  | [] => 0
  | d :: r => uptoBulk d + uptoBulkAll r
def uptoBulkEntries {H : Type} : List (Lit × DataW H) → Nat
  | [] => 0
  | x :: r => uptoBulkEntry x + uptoBulkEntries r
def uptoBulkEntry {H : Type} : Lit × DataW H → Nat
  | (.string bytes, d) => bytes.length + uptoBulk d + 1
  | (_, d) => uptoBulk d + 1
 end
def uptoSmall : (H : Type) → List (DataW H) → Bool := fun _ ds => decide (uptoBulkAll ds ≤ 1048576)
def OpenSpec.upto (s : _root_.Go.ChangeSpec) : _root_.Go.OpenSpec := { _root_.Go.OpenSpec.ofChange s with cond := some uptoSmall }

/-- 'laws.FnEulerProducts', WHERE WHAT IT READS IS OF BULK AT MOST 1048576: true; the input reads as it did. -/
def fnEulerProductsUptoRow : OpenClaim := { program := "ytfanjkbaemhbmaa", sum := "0576fbe7480d23fe42cdf6794dca9d137849627a87ec3f6698588f99e48211fe", func := "loop.example/g01083/laws.FnEulerProducts", spec := "fnEulerProducts", unfollowed := true, recurses := true, apart := false, narrowed := true }
def FnEulerProductsUptoSaid : Prop := fnEulerProductsUptoRow.holds Try.pinned (OpenSpec.upto fnEulerProductsSpec)

/-- 'laws.FnCategoryFaults', WHERE WHAT IT READS IS OF BULK AT MOST 1048576: true; the input reads as it did. -/
def fnCategoryFaultsUptoRow : OpenClaim := { program := "ytfanjkbaemhbmaa", sum := "0576fbe7480d23fe42cdf6794dca9d137849627a87ec3f6698588f99e48211fe", func := "loop.example/g01083/laws.FnCategoryFaults", spec := "fnCategoryFaults", apart := false, narrowed := true }
def FnCategoryFaultsUptoSaid : Prop := fnCategoryFaultsUptoRow.holds Try.pinned (OpenSpec.upto fnCategoryFaultsSpec)

/-- 'laws.FnConservative', WHERE WHAT IT READS IS OF BULK AT MOST 1048576: true; the input reads as it did. -/
def fnConservativeUptoRow : OpenClaim := { program := "ytfanjkbaemhbmaa", sum := "0576fbe7480d23fe42cdf6794dca9d137849627a87ec3f6698588f99e48211fe", func := "loop.example/g01083/laws.FnConservative", spec := "fnConservative", unfollowed := true, recurses := true, apart := false, narrowed := true }
def FnConservativeUptoSaid : Prop := fnConservativeUptoRow.holds Try.pinned (OpenSpec.upto fnConservativeSpec)

end Rows
end Go.Proofs.Ytfanjkbaemhbmaa
