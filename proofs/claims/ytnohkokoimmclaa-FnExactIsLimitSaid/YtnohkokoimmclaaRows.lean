/-
  No cell of these rows narrows 'for every input' (looked for: loops, veiled, ifaces, maps, wideKeys, modest, calm, conditions, laid).
  DERIVED. THE GIVEN ROWS OF THIS SEAT. 4 by the template 'for every input the law returns true; each argument reads behind the call as it read before'; 0 by the template 'total and deterministic' (their statements: YtnohkokoimmclaaTotals.lean).
  GIVEN WITH THE SEED: the statements are not yours to turn. If you find one false, say at which input.
  Laid BY PROGRAM, IN A SANDBOX (cutbox-rows.mjs): the forced cells as the released guide's own fill.sh prints them over the translation d76d1fb16f6f6629… (all of the seat's roots in one cut). By AI agents, Wed Nov 11 2026. No macro, syntax, notation, axiom, sorry.
-/
import Derived.Test.YtnohkokoimmclaaChecked
import GoSem.Claim
import GoSem.ClaimJoined
import GoSem.ClaimMapViews
import Derived.JoinedTies
import Derived.KernelRfl
namespace Go.Proofs.Ytnohkokoimmclaa
/- THE CELL 'sum', in the pinned program and in every row, IS THE sha256 OF THE DUMP (.gsa) THAT YtnohkokoimmclaaProg.lean LOADS. Nothing in Lean hashes anything: it is a label: what it is worth is what the hold of that sum in a sandbox is worth. -/
noncomputable def Try.pinned : Pinned := { name := "ytnohkokoimmclaa", sum := "d76d1fb16f6f6629a1e21d942a329c674360b6351bb361ee9539db35c23fcd63", checked := Try.checked }
namespace Rows
def none {H : Type} : Left H := { results := [], args := [] }

/-- 'laws.FnExactAllTransformations': WHATEVER THE INPUT: true; the input reads as it did. -/
def fnExactAllTransformationsSpec : ChangeSpec := { name := "fnExactAllTransformations", fn := fun _ => fun
  | [d1, d2] => { results := [.lit (.bool true)], args := [d1, d2] }
  | _ => none }
def fnExactAllTransformationsRow : OpenClaim := { program := "ytnohkokoimmclaa", sum := "d76d1fb16f6f6629a1e21d942a329c674360b6351bb361ee9539db35c23fcd63", func := "loop.example/g01083/laws.FnExactAllTransformations", spec := "fnExactAllTransformations", unfollowed := true, recurses := true, apart := false }
def FnExactAllTransformationsSaid : Prop := fnExactAllTransformationsRow.holds Try.pinned (OpenSpec.ofChange fnExactAllTransformationsSpec)

/-- ITS FALSE NEIGHBOUR: 'it returns false'. Refute it at one input. -/
def fnExactAllTransformationsWrong : ChangeSpec := { name := "fnExactAllTransformations", fn := fun _ => fun
  | [d1, d2] => { results := [.lit (.bool false)], args := [d1, d2] }
  | _ => none }
def FnExactAllTransformationsWrongFalsely : Prop := fnExactAllTransformationsRow.holds Try.pinned (OpenSpec.ofChange fnExactAllTransformationsWrong)

/-- 'laws.FnExactFindNaturalIsomorphism': WHATEVER THE INPUT: true; the input reads as it did. -/
def fnExactFindNaturalIsomorphismSpec : ChangeSpec := { name := "fnExactFindNaturalIsomorphism", fn := fun _ => fun
  | [d1, d2] => { results := [.lit (.bool true)], args := [d1, d2] }
  | _ => none }
def fnExactFindNaturalIsomorphismRow : OpenClaim := { program := "ytnohkokoimmclaa", sum := "d76d1fb16f6f6629a1e21d942a329c674360b6351bb361ee9539db35c23fcd63", func := "loop.example/g01083/laws.FnExactFindNaturalIsomorphism", spec := "fnExactFindNaturalIsomorphism", unfollowed := true, recurses := true, apart := false }
def FnExactFindNaturalIsomorphismSaid : Prop := fnExactFindNaturalIsomorphismRow.holds Try.pinned (OpenSpec.ofChange fnExactFindNaturalIsomorphismSpec)

/-- ITS FALSE NEIGHBOUR: 'it returns false'. Refute it at one input. -/
def fnExactFindNaturalIsomorphismWrong : ChangeSpec := { name := "fnExactFindNaturalIsomorphism", fn := fun _ => fun
  | [d1, d2] => { results := [.lit (.bool false)], args := [d1, d2] }
  | _ => none }
def FnExactFindNaturalIsomorphismWrongFalsely : Prop := fnExactFindNaturalIsomorphismRow.holds Try.pinned (OpenSpec.ofChange fnExactFindNaturalIsomorphismWrong)

/-- 'laws.FnExactAllCones': WHATEVER THE INPUT: true; the input reads as it did. -/
def fnExactAllConesSpec : ChangeSpec := { name := "fnExactAllCones", fn := fun _ => fun
  | [d] => { results := [.lit (.bool true)], args := [d] }
  | _ => none }
def fnExactAllConesRow : OpenClaim := { program := "ytnohkokoimmclaa", sum := "d76d1fb16f6f6629a1e21d942a329c674360b6351bb361ee9539db35c23fcd63", func := "loop.example/g01083/laws.FnExactAllCones", spec := "fnExactAllCones", unfollowed := true, recurses := true, apart := false }
def FnExactAllConesSaid : Prop := fnExactAllConesRow.holds Try.pinned (OpenSpec.ofChange fnExactAllConesSpec)

/-- ITS FALSE NEIGHBOUR: 'it returns false'. Refute it at one input. -/
def fnExactAllConesWrong : ChangeSpec := { name := "fnExactAllCones", fn := fun _ => fun
  | [d] => { results := [.lit (.bool false)], args := [d] }
  | _ => none }
def FnExactAllConesWrongFalsely : Prop := fnExactAllConesRow.holds Try.pinned (OpenSpec.ofChange fnExactAllConesWrong)

/-- 'laws.FnExactIsLimit': WHATEVER THE INPUT: true; the input reads as it did. -/
def fnExactIsLimitSpec : ChangeSpec := { name := "fnExactIsLimit", fn := fun _ => fun
  | [d1, d2] => { results := [.lit (.bool true)], args := [d1, d2] }
  | _ => none }
def fnExactIsLimitRow : OpenClaim := { program := "ytnohkokoimmclaa", sum := "d76d1fb16f6f6629a1e21d942a329c674360b6351bb361ee9539db35c23fcd63", func := "loop.example/g01083/laws.FnExactIsLimit", spec := "fnExactIsLimit", unfollowed := true, recurses := true, apart := false }
def FnExactIsLimitSaid : Prop := fnExactIsLimitRow.holds Try.pinned (OpenSpec.ofChange fnExactIsLimitSpec)

/-- ITS FALSE NEIGHBOUR: 'it returns false'. Refute it at one input. -/
def fnExactIsLimitWrong : ChangeSpec := { name := "fnExactIsLimit", fn := fun _ => fun
  | [d1, d2] => { results := [.lit (.bool false)], args := [d1, d2] }
  | _ => none }
def FnExactIsLimitWrongFalsely : Prop := fnExactIsLimitRow.holds Try.pinned (OpenSpec.ofChange fnExactIsLimitWrong)

/- THE SECOND FORM. 'bulk': how many values and letters a reading holds, each counted each time it is reached (what is shared counts as often as it is met; a slice's spare places count too). A statement '..UptoSaid' is the law's where the arguments, and the package variables that the reading takes, are together of bulk at most 1048576: NARROWER than '..Said'. Prove '..Said' where nothing that the law and all that it calls make is longer than what came in: it says more and counts as full. Else prove '..UptoSaid'. A law counts once. -/
mutual
def uptoBulk {H : Type} : DataW H → Nat
  | .lit (.string bytes) => bytes.length + 1
  | .lit _ => 1
  | .nil => 1
  | .ptr d => uptoBulk d + 1
  | .slice elems spare => uptoBulkAll elems + uptoBulkAll spare + 1
  | .agg parts => uptoBulkAll parts + 1
  | .iface _ d => uptoBulk d + 1
  | .map entries => uptoBulkEntries entries + 1
  | .held _ => 1
def uptoBulkAll {H : Type} : List (DataW H) → Nat
  | [] => 0
  | d :: r => uptoBulk d + uptoBulkAll r
def uptoBulkEntries {H : Type} : List (Lit × DataW H) → Nat
  | [] => 0
  | x :: r => uptoBulkEntry x + uptoBulkEntries r
def uptoBulkEntry {H : Type} : Lit × DataW H → Nat
  | (.string bytes, d) => bytes.length + uptoBulk d + 1
  | (_, d) => uptoBulk d + 1
 end
def uptoSmall : (H : Type) → List (DataW H) → Bool := fun _ ds => decide (uptoBulkAll ds ≤ 1048576)
def OpenSpec.upto (s : _root_.Go.ChangeSpec) : _root_.Go.OpenSpec := { _root_.Go.OpenSpec.ofChange s with cond := some uptoSmall }

/-- 'laws.FnExactAllTransformations', WHERE WHAT IT READS IS OF BULK AT MOST 1048576: true; the input reads as it did. -/
def fnExactAllTransformationsUptoRow : OpenClaim := { program := "ytnohkokoimmclaa", sum := "d76d1fb16f6f6629a1e21d942a329c674360b6351bb361ee9539db35c23fcd63", func := "loop.example/g01083/laws.FnExactAllTransformations", spec := "fnExactAllTransformations", unfollowed := true, recurses := true, apart := false, narrowed := true }
def FnExactAllTransformationsUptoSaid : Prop := fnExactAllTransformationsUptoRow.holds Try.pinned (OpenSpec.upto fnExactAllTransformationsSpec)

/-- 'laws.FnExactFindNaturalIsomorphism', WHERE WHAT IT READS IS OF BULK AT MOST 1048576: true; the input reads as it did. -/
def fnExactFindNaturalIsomorphismUptoRow : OpenClaim := { program := "ytnohkokoimmclaa", sum := "d76d1fb16f6f6629a1e21d942a329c674360b6351bb361ee9539db35c23fcd63", func := "loop.example/g01083/laws.FnExactFindNaturalIsomorphism", spec := "fnExactFindNaturalIsomorphism", unfollowed := true, recurses := true, apart := false, narrowed := true }
def FnExactFindNaturalIsomorphismUptoSaid : Prop := fnExactFindNaturalIsomorphismUptoRow.holds Try.pinned (OpenSpec.upto fnExactFindNaturalIsomorphismSpec)

/-- 'laws.FnExactAllCones', WHERE WHAT IT READS IS OF BULK AT MOST 1048576: true; the input reads as it did. -/
def fnExactAllConesUptoRow : OpenClaim := { program := "ytnohkokoimmclaa", sum := "d76d1fb16f6f6629a1e21d942a329c674360b6351bb361ee9539db35c23fcd63", func := "loop.example/g01083/laws.FnExactAllCones", spec := "fnExactAllCones", unfollowed := true, recurses := true, apart := false, narrowed := true }
def FnExactAllConesUptoSaid : Prop := fnExactAllConesUptoRow.holds Try.pinned (OpenSpec.upto fnExactAllConesSpec)

/-- 'laws.FnExactIsLimit', WHERE WHAT IT READS IS OF BULK AT MOST 1048576: true; the input reads as it did. -/
def fnExactIsLimitUptoRow : OpenClaim := { program := "ytnohkokoimmclaa", sum := "d76d1fb16f6f6629a1e21d942a329c674360b6351bb361ee9539db35c23fcd63", func := "loop.example/g01083/laws.FnExactIsLimit", spec := "fnExactIsLimit", unfollowed := true, recurses := true, apart := false, narrowed := true }
def FnExactIsLimitUptoSaid : Prop := fnExactIsLimitUptoRow.holds Try.pinned (OpenSpec.upto fnExactIsLimitSpec)

end Rows
end Go.Proofs.Ytnohkokoimmclaa
