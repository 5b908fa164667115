/- Functors, in the program. No condition but those of each statement. -/
import Derived.Test.YtbpehbbdodahaaaF
import Derived.Test.YtbpehbbdodahaaaGlP
namespace Go.Proofs.Ytbpehbbdodahaaa
open Go Go.GL Go.RowKit Go.Proofs
theorem two_sl {H : GHeap} {e : TypeId} {own : Bool} {g1 o1 g2 o2 k : Nat} (h : H.get k = some (.row [.pointer (some ⟨g1, o1, none⟩), .pointer (some ⟨g2, o2, none⟩)] e own)) :
    SlA H (some ⟨k, 0, none⟩) 2 (fun i => .pointer (some ⟨(if i = 0 then g1 else g2), (if i = 0 then o1 else o2), none⟩)) := by
  refine .inr ⟨k, 0, rfl, fun i hi => ?_⟩
  rw [GHeap.cell_of h, Nat.zero_add]
  match i, hi with
  | 0, _ => rfl
  | 1, _ => rfl
end Go.Proofs.Ytbpehbbdodahaaa
