/-
  No cell of these rows narrows 'for every input' (looked for: loops, veiled, ifaces, maps, wideKeys, modest, calm, conditions, laid).
  DERIVED. THE GIVEN ROWS OF THIS SEAT. 4 by the template 'for every input the law returns true; each argument reads behind the call as it read before'; 0 by the template 'total and deterministic' (their statements: YtcnopbgnadkikaaTotals.lean).
  GIVEN WITH THE SEED: the statements are not yours to turn. If you find one false, say at which input.
  Laid BY PROGRAM, IN A SANDBOX (cutbox-rows.mjs): the forced cells as the released guide's own fill.sh prints them over the translation 7da185d0127646e7… (all of the seat's roots in one cut). By AI agents, Wed Nov 11 2026. No macro, syntax, notation, axiom, sorry.
-/
import Derived.Test.YtcnopbgnadkikaaChecked
import GoSem.Claim
import GoSem.ClaimJoined
import GoSem.ClaimMapViews
import Derived.JoinedTies
import Derived.KernelRfl
namespace Go.Proofs.Ytcnopbgnadkikaa
/- THE CELL 'sum', in the pinned program and in every row, IS THE sha256 OF THE DUMP (.gsa) THAT YtcnopbgnadkikaaProg.lean LOADS. Nothing in Lean hashes anything: it is a label: what it is worth is what the hold of that sum in a sandbox is worth. -/
noncomputable def Try.pinned : Pinned := { name := "ytcnopbgnadkikaa", sum := "7da185d0127646e7a3960eb1933e2f0edb2815a396f533fadeff1a5ac3c4611c", checked := Try.checked }
namespace Rows
def none {H : Type} : Left H := { results := [], args := [] }

/-- 'laws.FnExactIsTransformation': WHATEVER THE INPUT: true; the input reads as it did. -/
def fnExactIsTransformationSpec : ChangeSpec := { name := "fnExactIsTransformation", fn := fun _ => fun
  | [d] => { results := [.lit (.bool true)], args := [d] }
  | _ => none }
def fnExactIsTransformationRow : OpenClaim := { program := "ytcnopbgnadkikaa", sum := "7da185d0127646e7a3960eb1933e2f0edb2815a396f533fadeff1a5ac3c4611c", func := "loop.example/g01083/laws.FnExactIsTransformation", spec := "fnExactIsTransformation", unfollowed := true, recurses := true, apart := false }
def FnExactIsTransformationSaid : Prop := fnExactIsTransformationRow.holds Try.pinned (OpenSpec.ofChange fnExactIsTransformationSpec)

/-- ITS FALSE NEIGHBOUR: 'it returns false'. Refute it at one input. -/
def fnExactIsTransformationWrong : ChangeSpec := { name := "fnExactIsTransformation", fn := fun _ => fun
  | [d] => { results := [.lit (.bool false)], args := [d] }
  | _ => none }
def FnExactIsTransformationWrongFalsely : Prop := fnExactIsTransformationRow.holds Try.pinned (OpenSpec.ofChange fnExactIsTransformationWrong)

/-- 'laws.FnExactFirstUnnatural': WHATEVER THE INPUT: true; the input reads as it did. -/
def fnExactFirstUnnaturalSpec : ChangeSpec := { name := "fnExactFirstUnnatural", fn := fun _ => fun
  | [d] => { results := [.lit (.bool true)], args := [d] }
  | _ => none }
def fnExactFirstUnnaturalRow : OpenClaim := { program := "ytcnopbgnadkikaa", sum := "7da185d0127646e7a3960eb1933e2f0edb2815a396f533fadeff1a5ac3c4611c", func := "loop.example/g01083/laws.FnExactFirstUnnatural", spec := "fnExactFirstUnnatural", unfollowed := true, recurses := true, apart := false }
def FnExactFirstUnnaturalSaid : Prop := fnExactFirstUnnaturalRow.holds Try.pinned (OpenSpec.ofChange fnExactFirstUnnaturalSpec)

/-- ITS FALSE NEIGHBOUR: 'it returns false'. Refute it at one input. -/
def fnExactFirstUnnaturalWrong : ChangeSpec := { name := "fnExactFirstUnnatural", fn := fun _ => fun
  | [d] => { results := [.lit (.bool false)], args := [d] }
  | _ => none }
def FnExactFirstUnnaturalWrongFalsely : Prop := fnExactFirstUnnaturalRow.holds Try.pinned (OpenSpec.ofChange fnExactFirstUnnaturalWrong)

/-- 'laws.FnExactFirstUnnaturalArrow': WHATEVER THE INPUT: true; the input reads as it did. -/
def fnExactFirstUnnaturalArrowSpec : ChangeSpec := { name := "fnExactFirstUnnaturalArrow", fn := fun _ => fun
  | [d] => { results := [.lit (.bool true)], args := [d] }
  | _ => none }
def fnExactFirstUnnaturalArrowRow : OpenClaim := { program := "ytcnopbgnadkikaa", sum := "7da185d0127646e7a3960eb1933e2f0edb2815a396f533fadeff1a5ac3c4611c", func := "loop.example/g01083/laws.FnExactFirstUnnaturalArrow", spec := "fnExactFirstUnnaturalArrow", apart := false }
def FnExactFirstUnnaturalArrowSaid : Prop := fnExactFirstUnnaturalArrowRow.holds Try.pinned (OpenSpec.ofChange fnExactFirstUnnaturalArrowSpec)

/-- ITS FALSE NEIGHBOUR: 'it returns false'. Refute it at one input. -/
def fnExactFirstUnnaturalArrowWrong : ChangeSpec := { name := "fnExactFirstUnnaturalArrow", fn := fun _ => fun
  | [d] => { results := [.lit (.bool false)], args := [d] }
  | _ => none }
def FnExactFirstUnnaturalArrowWrongFalsely : Prop := fnExactFirstUnnaturalArrowRow.holds Try.pinned (OpenSpec.ofChange fnExactFirstUnnaturalArrowWrong)

/-- 'laws.FnExactIsNaturalIsomorphism': WHATEVER THE INPUT: true; the input reads as it did. -/
def fnExactIsNaturalIsomorphismSpec : ChangeSpec := { name := "fnExactIsNaturalIsomorphism", fn := fun _ => fun
  | [d] => { results := [.lit (.bool true)], args := [d] }
  | _ => none }
def fnExactIsNaturalIsomorphismRow : OpenClaim := { program := "ytcnopbgnadkikaa", sum := "7da185d0127646e7a3960eb1933e2f0edb2815a396f533fadeff1a5ac3c4611c", func := "loop.example/g01083/laws.FnExactIsNaturalIsomorphism", spec := "fnExactIsNaturalIsomorphism", unfollowed := true, recurses := true, apart := false }
def FnExactIsNaturalIsomorphismSaid : Prop := fnExactIsNaturalIsomorphismRow.holds Try.pinned (OpenSpec.ofChange fnExactIsNaturalIsomorphismSpec)

/-- ITS FALSE NEIGHBOUR: 'it returns false'. Refute it at one input. -/
def fnExactIsNaturalIsomorphismWrong : ChangeSpec := { name := "fnExactIsNaturalIsomorphism", fn := fun _ => fun
  | [d] => { results := [.lit (.bool false)], args := [d] }
  | _ => none }
def FnExactIsNaturalIsomorphismWrongFalsely : Prop := fnExactIsNaturalIsomorphismRow.holds Try.pinned (OpenSpec.ofChange fnExactIsNaturalIsomorphismWrong)

/- THE SECOND FORM. 'bulk': how many values and letters a reading holds, each counted each time it is reached (what is shared counts as often as it is met; a slice's spare places count too). A statement '..UptoSaid' is the law's where the arguments, and the package variables that the reading takes, are together of bulk at most 1048576: NARROWER than '..Said'. Prove '..Said' where nothing that the law and all that it calls make is longer than what came in: it says more and counts as full. Else prove '..UptoSaid'. A law counts once. -/
mutual
def uptoBulk {H : Type} : DataW H → Nat
  | .lit (.string bytes) => bytes.length + 1
  | .lit _ => 1
  | .nil => 1
  | .ptr d => uptoBulk d + 1
  | .slice elems spare => uptoBulkAll elems + uptoBulkAll spare + 1
  | .agg parts => uptoBulkAll parts + 1
  | .iface _ d => uptoBulk d + 1
  | .map entries => uptoBulkEntries entries + 1
  | .held _ => 1
def uptoBulkAll {H : Type} : List (DataW H) → Nat
  | [] => 0
  | d :: r => uptoBulk d + uptoBulkAll r
def uptoBulkEntries {H : Type} : List (Lit × DataW H) → Nat
  | [] => 0
  | x :: r => uptoBulkEntry x + uptoBulkEntries r
def uptoBulkEntry {H : Type} : Lit × DataW H → Nat
  | (.string bytes, d) => bytes.length + uptoBulk d + 1
  | (_, d) => uptoBulk d + 1
 end
def uptoSmall : (H : Type) → List (DataW H) → Bool := fun _ ds => decide (uptoBulkAll ds ≤ 1048576)
def OpenSpec.upto (s : _root_.Go.ChangeSpec) : _root_.Go.OpenSpec := { _root_.Go.OpenSpec.ofChange s with cond := some uptoSmall }

/-- 'laws.FnExactIsTransformation', WHERE WHAT IT READS IS OF BULK AT MOST 1048576: true; the input reads as it did. -/
def fnExactIsTransformationUptoRow : OpenClaim := { program := "ytcnopbgnadkikaa", sum := "7da185d0127646e7a3960eb1933e2f0edb2815a396f533fadeff1a5ac3c4611c", func := "loop.example/g01083/laws.FnExactIsTransformation", spec := "fnExactIsTransformation", unfollowed := true, recurses := true, apart := false, narrowed := true }
def FnExactIsTransformationUptoSaid : Prop := fnExactIsTransformationUptoRow.holds Try.pinned (OpenSpec.upto fnExactIsTransformationSpec)

/-- 'laws.FnExactFirstUnnatural', WHERE WHAT IT READS IS OF BULK AT MOST 1048576: true; the input reads as it did. -/
def fnExactFirstUnnaturalUptoRow : OpenClaim := { program := "ytcnopbgnadkikaa", sum := "7da185d0127646e7a3960eb1933e2f0edb2815a396f533fadeff1a5ac3c4611c", func := "loop.example/g01083/laws.FnExactFirstUnnatural", spec := "fnExactFirstUnnatural", unfollowed := true, recurses := true, apart := false, narrowed := true }
def FnExactFirstUnnaturalUptoSaid : Prop := fnExactFirstUnnaturalUptoRow.holds Try.pinned (OpenSpec.upto fnExactFirstUnnaturalSpec)

/-- 'laws.FnExactFirstUnnaturalArrow', WHERE WHAT IT READS IS OF BULK AT MOST 1048576: true; the input reads as it did. -/
def fnExactFirstUnnaturalArrowUptoRow : OpenClaim := { program := "ytcnopbgnadkikaa", sum := "7da185d0127646e7a3960eb1933e2f0edb2815a396f533fadeff1a5ac3c4611c", func := "loop.example/g01083/laws.FnExactFirstUnnaturalArrow", spec := "fnExactFirstUnnaturalArrow", apart := false, narrowed := true }
def FnExactFirstUnnaturalArrowUptoSaid : Prop := fnExactFirstUnnaturalArrowUptoRow.holds Try.pinned (OpenSpec.upto fnExactFirstUnnaturalArrowSpec)

/-- 'laws.FnExactIsNaturalIsomorphism', WHERE WHAT IT READS IS OF BULK AT MOST 1048576: true; the input reads as it did. -/
def fnExactIsNaturalIsomorphismUptoRow : OpenClaim := { program := "ytcnopbgnadkikaa", sum := "7da185d0127646e7a3960eb1933e2f0edb2815a396f533fadeff1a5ac3c4611c", func := "loop.example/g01083/laws.FnExactIsNaturalIsomorphism", spec := "fnExactIsNaturalIsomorphism", unfollowed := true, recurses := true, apart := false, narrowed := true }
def FnExactIsNaturalIsomorphismUptoSaid : Prop := fnExactIsNaturalIsomorphismUptoRow.holds Try.pinned (OpenSpec.upto fnExactIsNaturalIsomorphismSpec)

end Rows
end Go.Proofs.Ytcnopbgnadkikaa
