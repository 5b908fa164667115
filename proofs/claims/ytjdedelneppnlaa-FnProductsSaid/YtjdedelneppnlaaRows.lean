/-
  No cell of these rows narrows 'for every input' (looked for: loops, veiled, ifaces, maps, wideKeys, modest, calm, conditions, laid).
  DERIVED. THE GIVEN ROWS OF THIS SEAT. 4 by the template 'for every input the law returns true; each argument reads behind the call as it read before'; 0 by the template 'total and deterministic' (their statements: YtjdedelneppnlaaTotals.lean).
  GIVEN WITH THE SEED: the statements are not yours to turn. If you find one false, say at which input.
  Laid BY PROGRAM, IN A SANDBOX (cutbox-rows.mjs): the forced cells as the released guide's own fill.sh prints them over the translation d19c6738ceab6266… (all of the seat's roots in one cut). By AI agents, Wed Nov 11 2026. No macro, syntax, notation, axiom, sorry.
-/
import Derived.Test.YtjdedelneppnlaaChecked
import GoSem.Claim
import GoSem.ClaimJoined
import GoSem.ClaimMapViews
import Derived.JoinedTies
import Derived.KernelRfl
namespace Go.Proofs.Ytjdedelneppnlaa
/- THE CELL 'sum', in the pinned program and in every row, IS THE sha256 OF THE DUMP (.gsa) THAT YtjdedelneppnlaaProg.lean LOADS. Nothing in Lean hashes anything: it is a label: what it is worth is what the hold of that sum in a sandbox is worth. -/
noncomputable def Try.pinned : Pinned := { name := "ytjdedelneppnlaa", sum := "d19c6738ceab62665658b1d443f309ab39062c97a5aa756f7ab9b89d6bab9df3", checked := Try.checked }
namespace Rows
def none {H : Type} : Left H := { results := [], args := [] }

/-- 'laws.FnExactLimitFlags': WHATEVER THE INPUT: true; the input reads as it did. -/
def fnExactLimitFlagsSpec : ChangeSpec := { name := "fnExactLimitFlags", fn := fun _ => fun
  | [d] => { results := [.lit (.bool true)], args := [d] }
  | _ => none }
def fnExactLimitFlagsRow : OpenClaim := { program := "ytjdedelneppnlaa", sum := "d19c6738ceab62665658b1d443f309ab39062c97a5aa756f7ab9b89d6bab9df3", func := "loop.example/g01083/laws.FnExactLimitFlags", spec := "fnExactLimitFlags", unfollowed := true, recurses := true, plainKeys := false, apart := false }
def FnExactLimitFlagsSaid : Prop := fnExactLimitFlagsRow.holds Try.pinned (OpenSpec.ofChange fnExactLimitFlagsSpec)

/-- ITS FALSE NEIGHBOUR: 'it returns false'. Refute it at one input. -/
def fnExactLimitFlagsWrong : ChangeSpec := { name := "fnExactLimitFlags", fn := fun _ => fun
  | [d] => { results := [.lit (.bool false)], args := [d] }
  | _ => none }
def FnExactLimitFlagsWrongFalsely : Prop := fnExactLimitFlagsRow.holds Try.pinned (OpenSpec.ofChange fnExactLimitFlagsWrong)

/-- 'laws.FnProducts': WHATEVER THE INPUT: true; the input reads as it did. -/
def fnProductsSpec : ChangeSpec := { name := "fnProducts", fn := fun _ => fun
  | [d] => { results := [.lit (.bool true)], args := [d] }
  | _ => none }
def fnProductsRow : OpenClaim := { program := "ytjdedelneppnlaa", sum := "d19c6738ceab62665658b1d443f309ab39062c97a5aa756f7ab9b89d6bab9df3", func := "loop.example/g01083/laws.FnProducts", spec := "fnProducts", unfollowed := true, recurses := true, plainKeys := false, apart := false }
def FnProductsSaid : Prop := fnProductsRow.holds Try.pinned (OpenSpec.ofChange fnProductsSpec)

/-- ITS FALSE NEIGHBOUR: 'it returns false'. Refute it at one input. -/
def fnProductsWrong : ChangeSpec := { name := "fnProducts", fn := fun _ => fun
  | [d] => { results := [.lit (.bool false)], args := [d] }
  | _ => none }
def FnProductsWrongFalsely : Prop := fnProductsRow.holds Try.pinned (OpenSpec.ofChange fnProductsWrong)

/-- 'laws.FnPullbacks': WHATEVER THE INPUT: true; the input reads as it did. -/
def fnPullbacksSpec : ChangeSpec := { name := "fnPullbacks", fn := fun _ => fun
  | [d] => { results := [.lit (.bool true)], args := [d] }
  | _ => none }
def fnPullbacksRow : OpenClaim := { program := "ytjdedelneppnlaa", sum := "d19c6738ceab62665658b1d443f309ab39062c97a5aa756f7ab9b89d6bab9df3", func := "loop.example/g01083/laws.FnPullbacks", spec := "fnPullbacks", unfollowed := true, recurses := true, plainKeys := false, apart := false }
def FnPullbacksSaid : Prop := fnPullbacksRow.holds Try.pinned (OpenSpec.ofChange fnPullbacksSpec)

/-- ITS FALSE NEIGHBOUR: 'it returns false'. Refute it at one input. -/
def fnPullbacksWrong : ChangeSpec := { name := "fnPullbacks", fn := fun _ => fun
  | [d] => { results := [.lit (.bool false)], args := [d] }
  | _ => none }
def FnPullbacksWrongFalsely : Prop := fnPullbacksRow.holds Try.pinned (OpenSpec.ofChange fnPullbacksWrong)

/-- 'laws.FnEulerProducts': WHATEVER THE INPUT: true; the input reads as it did. -/
def fnEulerProductsSpec : ChangeSpec := { name := "fnEulerProducts", fn := fun _ => fun
  | [d] => { results := [.lit (.bool true)], args := [d] }
  | _ => none }
def fnEulerProductsRow : OpenClaim := { program := "ytjdedelneppnlaa", sum := "d19c6738ceab62665658b1d443f309ab39062c97a5aa756f7ab9b89d6bab9df3", func := "loop.example/g01083/laws.FnEulerProducts", spec := "fnEulerProducts", unfollowed := true, recurses := true, plainKeys := false, apart := false }
def FnEulerProductsSaid : Prop := fnEulerProductsRow.holds Try.pinned (OpenSpec.ofChange fnEulerProductsSpec)

/-- ITS FALSE NEIGHBOUR: 'it returns false'. Refute it at one input. -/
def fnEulerProductsWrong : ChangeSpec := { name := "fnEulerProducts", fn := fun _ => fun
  | [d] => { results := [.lit (.bool false)], args := [d] }
  | _ => none }
def FnEulerProductsWrongFalsely : Prop := fnEulerProductsRow.holds Try.pinned (OpenSpec.ofChange fnEulerProductsWrong)

/- THE SECOND FORM. 'bulk': how many values and letters a reading holds, each counted each time it is reached (what is shared counts as often as it is met; a slice's spare places count too). A statement '..UptoSaid' is the law's where the arguments, and the package variables that the reading takes, are together of bulk at most 1048576: NARROWER than '..Said'. Prove '..Said' where nothing that the law and all that it calls make is longer than what came in: it says more and counts as full. Else prove '..UptoSaid'. A law counts once. -/
mutual
def uptoBulk {H : Type} : DataW H → Nat
  | .lit (.string bytes) => bytes.length + 1
  | .lit _ => 1
  | .nil => 1
  | .ptr d => uptoBulk d + 1
  | .slice elems spare => uptoBulkAll elems + uptoBulkAll spare + 1
  | .agg parts => uptoBulkAll parts + 1
  | .iface _ d => uptoBulk d + 1
  | .map entries => uptoBulkEntries entries + 1
  | .held _ => 1
def uptoBulkAll {H : Type} : List (DataW H) → Nat
  | [] => 0
  | d :: r => uptoBulk d + uptoBulkAll r
def uptoBulkEntries {H : Type} : List (Lit × DataW H) → Nat
  | [] => 0
  | x :: r => uptoBulkEntry x + uptoBulkEntries r
def uptoBulkEntry {H : Type} : Lit × DataW H → Nat
  | (.string bytes, d) => bytes.length + uptoBulk d + 1
  | (_, d) => uptoBulk d + 1
 end
def uptoSmall : (H : Type) → List (DataW H) → Bool := fun _ ds => decide (uptoBulkAll ds ≤ 1048576)
def OpenSpec.upto (s : _root_.Go.ChangeSpec) : _root_.Go.OpenSpec := { _root_.Go.OpenSpec.ofChange s with cond := some uptoSmall }

/-- 'laws.FnExactLimitFlags', WHERE WHAT IT READS IS OF BULK AT MOST 1048576: true; the input reads as it did. -/
def fnExactLimitFlagsUptoRow : OpenClaim := { program := "ytjdedelneppnlaa", sum := "d19c6738ceab62665658b1d443f309ab39062c97a5aa756f7ab9b89d6bab9df3", func := "loop.example/g01083/laws.FnExactLimitFlags", spec := "fnExactLimitFlags", unfollowed := true, recurses := true, plainKeys := false, apart := false, narrowed := true }
def FnExactLimitFlagsUptoSaid : Prop := fnExactLimitFlagsUptoRow.holds Try.pinned (OpenSpec.upto fnExactLimitFlagsSpec)

/-- 'laws.FnProducts', WHERE WHAT IT READS IS OF BULK AT MOST 1048576: true; the input reads as it did. -/
def fnProductsUptoRow : OpenClaim := { program := "ytjdedelneppnlaa", sum := "d19c6738ceab62665658b1d443f309ab39062c97a5aa756f7ab9b89d6bab9df3", func := "loop.example/g01083/laws.FnProducts", spec := "fnProducts", unfollowed := true, recurses := true, plainKeys := false, apart := false, narrowed := true }
def FnProductsUptoSaid : Prop := fnProductsUptoRow.holds Try.pinned (OpenSpec.upto fnProductsSpec)

/-- 'laws.FnPullbacks', WHERE WHAT IT READS IS OF BULK AT MOST 1048576: true; the input reads as it did. -/
def fnPullbacksUptoRow : OpenClaim := { program := "ytjdedelneppnlaa", sum := "d19c6738ceab62665658b1d443f309ab39062c97a5aa756f7ab9b89d6bab9df3", func := "loop.example/g01083/laws.FnPullbacks", spec := "fnPullbacks", unfollowed := true, recurses := true, plainKeys := false, apart := false, narrowed := true }
def FnPullbacksUptoSaid : Prop := fnPullbacksUptoRow.holds Try.pinned (OpenSpec.upto fnPullbacksSpec)

/-- 'laws.FnEulerProducts', WHERE WHAT IT READS IS OF BULK AT MOST 1048576: true; the input reads as it did. -/
def fnEulerProductsUptoRow : OpenClaim := { program := "ytjdedelneppnlaa", sum := "d19c6738ceab62665658b1d443f309ab39062c97a5aa756f7ab9b89d6bab9df3", func := "loop.example/g01083/laws.FnEulerProducts", spec := "fnEulerProducts", unfollowed := true, recurses := true, plainKeys := false, apart := false, narrowed := true }
def FnEulerProductsUptoSaid : Prop := fnEulerProductsUptoRow.holds Try.pinned (OpenSpec.upto fnEulerProductsSpec)

end Rows
end Go.Proofs.Ytjdedelneppnlaa
