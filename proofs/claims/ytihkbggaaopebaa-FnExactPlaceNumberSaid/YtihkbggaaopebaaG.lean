/- Functors, in the program. No condition but those of each statement. -/
import Derived.Test.YtihkbggaaopebaaF
import Derived.Test.YtihkbggaaopebaaGlP
namespace Go.Proofs.Ytihkbggaaopebaa
open Go Go.GL Go.RowKit Go.Proofs
theorem two_sl {H : GHeap} {e : TypeId} {own : Bool} {g1 o1 g2 o2 k : Nat} (h : H.get k = some (.row [.pointer (some ⟨g1, o1, none⟩), .pointer (some ⟨g2, o2, none⟩)] e own)) :
    SlA H (some ⟨k, 0, none⟩) 2 (fun i => .pointer (some ⟨(if i = 0 then g1 else g2), (if i = 0 then o1 else o2), none⟩)) := by
  refine .inr ⟨k, 0, rfl, fun i hi => ?_⟩
  rw [GHeap.cell_of h, Nat.zero_add]
  match i, hi with
  | 0, _ => rfl
  | 1, _ => rfl
theorem areCategories2_c {k g1 o1 g2 o2 : Nat} {e : TypeId} {c1 c2 : Cat} {p1 p2 : CatP} {H : GHeap} (h : H.get k = some (.row [.pointer (some ⟨g1, o1, none⟩), .pointer (some ⟨g2, o2, none⟩)] e true) := by assumption)
    (h1 : Cat.At H g1 o1 c1 p1 := by assumption) (h2 : Cat.At H g2 o2 c2 p2 := by assumption) (hs1 : c1.Small := by assumption) (hs2 : c2.Small := by assumption) :
    GCalls Try.prog 57 [.slice (some ⟨k, 0, none⟩) 2 2] H (Ret (.bool (B (c1.Is ∧ c2.Is))) H) := by
  have := areCategories_c (two_sl h) (by omega) (C := fun i => if i = 0 then c1 else c2) (P := fun i => if i = 0 then p1 else p2)
    (fun i hi => by match i, hi with | 0, _ => exact h1 | 1, _ => exact h2) (fun i hi => by match i, hi with | 0, _ => exact hs1 | 1, _ => exact hs2)
  rw [B_congr (q := c1.Is ∧ c2.Is)] at this
  · exact this
  · exact ⟨fun h => ⟨h 0 (by omega), h 1 (by omega)⟩, fun h i hi => by match i, hi with | 0, _ => exact h.1 | 1, _ => exact h.2⟩
end Go.Proofs.Ytihkbggaaopebaa
