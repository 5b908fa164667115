/-
  No cell of these rows narrows 'for every input' (looked for: loops, veiled, ifaces, maps, wideKeys, modest, calm, conditions, laid).
  DERIVED. THE GIVEN ROWS OF THIS SEAT. 3 by the template 'for every input the law returns true; each argument reads behind the call as it read before'; 0 by the template 'total and deterministic' (their statements: YtihkbggaaopebaaTotals.lean).
  GIVEN WITH THE SEED: the statements are not yours to turn. If you find one false, say at which input.
  Laid BY PROGRAM, IN A SANDBOX (cutbox-rows.mjs): the forced cells as the released guide's own fill.sh prints them over the translation 5535b7fbeed442e0… (all of the seat's roots in one cut). By AI agents, Wed Nov 11 2026. No macro, syntax, notation, axiom, sorry.
-/
import Derived.Test.YtihkbggaaopebaaChecked
import GoSem.Claim
import GoSem.ClaimJoined
import GoSem.ClaimMapViews
import Derived.JoinedTies
import Derived.KernelRfl
namespace Go.Proofs.Ytihkbggaaopebaa
/- THE CELL 'sum', in the pinned program and in every row, IS THE sha256 OF THE DUMP (.gsa) THAT YtihkbggaaopebaaProg.lean LOADS. Nothing in Lean hashes anything: it is a label: what it is worth is what the hold of that sum in a sandbox is worth. -/
noncomputable def Try.pinned : Pinned := { name := "ytihkbggaaopebaa", sum := "5535b7fbeed442e0005c7302cdb34512fc19a3dd7007c65d34e07b45b573ed82", checked := Try.checked }
namespace Rows
def none {H : Type} : Left H := { results := [], args := [] }

/-- 'laws.FnExactIsProfunctor': WHATEVER THE INPUT: true; the input reads as it did. -/
def fnExactIsProfunctorSpec : ChangeSpec := { name := "fnExactIsProfunctor", fn := fun _ => fun
  | [d] => { results := [.lit (.bool true)], args := [d] }
  | _ => none }
def fnExactIsProfunctorRow : OpenClaim := { program := "ytihkbggaaopebaa", sum := "5535b7fbeed442e0005c7302cdb34512fc19a3dd7007c65d34e07b45b573ed82", func := "loop.example/g01083/laws.FnExactIsProfunctor", spec := "fnExactIsProfunctor", apart := false }
def FnExactIsProfunctorSaid : Prop := fnExactIsProfunctorRow.holds Try.pinned (OpenSpec.ofChange fnExactIsProfunctorSpec)

/-- ITS FALSE NEIGHBOUR: 'it returns false'. Refute it at one input. -/
def fnExactIsProfunctorWrong : ChangeSpec := { name := "fnExactIsProfunctor", fn := fun _ => fun
  | [d] => { results := [.lit (.bool false)], args := [d] }
  | _ => none }
def FnExactIsProfunctorWrongFalsely : Prop := fnExactIsProfunctorRow.holds Try.pinned (OpenSpec.ofChange fnExactIsProfunctorWrong)

/-- 'laws.FnExactPlaceNumber': WHATEVER THE INPUT: true; the input reads as it did. -/
def fnExactPlaceNumberSpec : ChangeSpec := { name := "fnExactPlaceNumber", fn := fun _ => fun
  | [d1, d2, d3] => { results := [.lit (.bool true)], args := [d1, d2, d3] }
  | _ => none }
def fnExactPlaceNumberRow : OpenClaim := { program := "ytihkbggaaopebaa", sum := "5535b7fbeed442e0005c7302cdb34512fc19a3dd7007c65d34e07b45b573ed82", func := "loop.example/g01083/laws.FnExactPlaceNumber", spec := "fnExactPlaceNumber", apart := false }
def FnExactPlaceNumberSaid : Prop := fnExactPlaceNumberRow.holds Try.pinned (OpenSpec.ofChange fnExactPlaceNumberSpec)

/-- ITS FALSE NEIGHBOUR: 'it returns false'. Refute it at one input. -/
def fnExactPlaceNumberWrong : ChangeSpec := { name := "fnExactPlaceNumber", fn := fun _ => fun
  | [d1, d2, d3] => { results := [.lit (.bool false)], args := [d1, d2, d3] }
  | _ => none }
def FnExactPlaceNumberWrongFalsely : Prop := fnExactPlaceNumberRow.holds Try.pinned (OpenSpec.ofChange fnExactPlaceNumberWrong)

/-- 'laws.FnExactIsProfunctorMap': WHATEVER THE INPUT: true; the input reads as it did. -/
def fnExactIsProfunctorMapSpec : ChangeSpec := { name := "fnExactIsProfunctorMap", fn := fun _ => fun
  | [d1, d2, d3] => { results := [.lit (.bool true)], args := [d1, d2, d3] }
  | _ => none }
def fnExactIsProfunctorMapRow : OpenClaim := { program := "ytihkbggaaopebaa", sum := "5535b7fbeed442e0005c7302cdb34512fc19a3dd7007c65d34e07b45b573ed82", func := "loop.example/g01083/laws.FnExactIsProfunctorMap", spec := "fnExactIsProfunctorMap", apart := false }
def FnExactIsProfunctorMapSaid : Prop := fnExactIsProfunctorMapRow.holds Try.pinned (OpenSpec.ofChange fnExactIsProfunctorMapSpec)

/-- ITS FALSE NEIGHBOUR: 'it returns false'. Refute it at one input. -/
def fnExactIsProfunctorMapWrong : ChangeSpec := { name := "fnExactIsProfunctorMap", fn := fun _ => fun
  | [d1, d2, d3] => { results := [.lit (.bool false)], args := [d1, d2, d3] }
  | _ => none }
def FnExactIsProfunctorMapWrongFalsely : Prop := fnExactIsProfunctorMapRow.holds Try.pinned (OpenSpec.ofChange fnExactIsProfunctorMapWrong)

/- THE SECOND FORM. 'bulk': how many values and letters a reading holds, each counted each time it is reached (what is shared counts as often as it is met; a slice's spare places count too). A statement '..UptoSaid' is the law's where the arguments, and the package variables that the reading takes, are together of bulk at most 1048576: NARROWER than '..Said'. Prove '..Said' where nothing that the law and all that it calls make is longer than what came in: it says more and counts as full. Else prove '..UptoSaid'. A law counts once. -/
mutual
def uptoBulk {H : Type} : DataW H → Nat
  | .lit (.string bytes) => bytes.length + 1
  | .lit _ => 1
  | .nil => 1
  | .ptr d => uptoBulk d + 1
  | .slice elems spare => uptoBulkAll elems + uptoBulkAll spare + 1
  | .agg parts => uptoBulkAll parts + 1
  | .iface _ d => uptoBulk d + 1
  | .map entries => uptoBulkEntries entries + 1
  | .held _ => 1
def uptoBulkAll {H : Type} : List (DataW H) → Nat
  | [] => 0
  | d :: r => uptoBulk d + uptoBulkAll r
def uptoBulkEntries {H : Type} : List (Lit × DataW H) → Nat
  | [] => 0
  | x :: r => uptoBulkEntry x + uptoBulkEntries r
def uptoBulkEntry {H : Type} : Lit × DataW H → Nat
  | (.string bytes, d) => bytes.length + uptoBulk d + 1
  | (_, d) => uptoBulk d + 1
 end
def uptoSmall : (H : Type) → List (DataW H) → Bool := fun _ ds => decide (uptoBulkAll ds ≤ 1048576)
def OpenSpec.upto (s : _root_.Go.ChangeSpec) : _root_.Go.OpenSpec := { _root_.Go.OpenSpec.ofChange s with cond := some uptoSmall }

/-- 'laws.FnExactIsProfunctor', WHERE WHAT IT READS IS OF BULK AT MOST 1048576: true; the input reads as it did. -/
def fnExactIsProfunctorUptoRow : OpenClaim := { program := "ytihkbggaaopebaa", sum := "5535b7fbeed442e0005c7302cdb34512fc19a3dd7007c65d34e07b45b573ed82", func := "loop.example/g01083/laws.FnExactIsProfunctor", spec := "fnExactIsProfunctor", apart := false, narrowed := true }
def FnExactIsProfunctorUptoSaid : Prop := fnExactIsProfunctorUptoRow.holds Try.pinned (OpenSpec.upto fnExactIsProfunctorSpec)

/-- 'laws.FnExactPlaceNumber', WHERE WHAT IT READS IS OF BULK AT MOST 1048576: true; the input reads as it did. -/
def fnExactPlaceNumberUptoRow : OpenClaim := { program := "ytihkbggaaopebaa", sum := "5535b7fbeed442e0005c7302cdb34512fc19a3dd7007c65d34e07b45b573ed82", func := "loop.example/g01083/laws.FnExactPlaceNumber", spec := "fnExactPlaceNumber", apart := false, narrowed := true }
def FnExactPlaceNumberUptoSaid : Prop := fnExactPlaceNumberUptoRow.holds Try.pinned (OpenSpec.upto fnExactPlaceNumberSpec)

/-- 'laws.FnExactIsProfunctorMap', WHERE WHAT IT READS IS OF BULK AT MOST 1048576: true; the input reads as it did. -/
def fnExactIsProfunctorMapUptoRow : OpenClaim := { program := "ytihkbggaaopebaa", sum := "5535b7fbeed442e0005c7302cdb34512fc19a3dd7007c65d34e07b45b573ed82", func := "loop.example/g01083/laws.FnExactIsProfunctorMap", spec := "fnExactIsProfunctorMap", apart := false, narrowed := true }
def FnExactIsProfunctorMapUptoSaid : Prop := fnExactIsProfunctorMapUptoRow.holds Try.pinned (OpenSpec.upto fnExactIsProfunctorMapSpec)

end Rows
end Go.Proofs.Ytihkbggaaopebaa
