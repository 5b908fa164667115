/- Maps behind maps; full, faithful and essentially surjective functors. No condition. -/
import Derived.Test.YtbpehbbdodahaaaGlR
namespace Go.GL
open Go.RowKit

theorem CDo.makeIN {P : Program} {H : GHeap} {fr : Slots} {o : Oper} {t e : TypeId} {x y : Operand} {k k' : IntKind} {l c bytes : Nat} (ho : o.op = .makeSlice t x y) (ht : sliceT P t = some (e, 1)) (hz : zeroT P e = some ([.int .i64 0], 1)) (hb : (P.info? e).map (·.bytes) = some bytes)
    (hx : ev fr x = some (.int k (l : Int))) (hy : ev fr y = some (.int k' (c : Int))) (hlc : l ≤ c) (hsm : bytes * c ≤ 281474976710656) (hsc : c ≤ 9223372036854775807) :
    CDo P o fr H (fun r H' => ∃ g, r = some (.slice (some ⟨g, 0, none⟩) l l) ∧ H.Le H' ∧ H.next ≤ g ∧ H'.get g = some (.row (ints (List.replicate l 0)) e true)) := by
  have := CDo.makeI (P := P) (H := H) (fr := fr) (o := o) ho ht hz hb hx hy (by omega) (by omega) (by omega) (by omega)
  simpa using this

/-- f then g. -/
def thenL (f g : List Int) : List Int := f.map fun y => g.getD y.toNat 0
@[simp] theorem length_thenL (f g : List Int) : (thenL f g).length = f.length := by simp [thenL]
theorem thenL_get {f g : List Int} {i : Nat} (h : i < f.length) : (thenL f g).getD i 0 = g.getD (f.getD i 0).toNat 0 := by
  simp [thenL, List.getD_eq_getElem?_getD, h]
theorem thenL_eq {f g ys : List Int} (hl : ys.length = f.length) (h : ∀ i, i < f.length → ys.getD i 0 = g.getD (f.getD i 0).toNat 0) : ys = thenL f g := by
  refine eq_of_getD (by rw [hl, length_thenL]) fun i hi => ?_
  rw [length_thenL] at hi
  rw [h i hi, thenL_get hi]
theorem mem_thenL {f g : List Int} {b : Int} : b ∈ thenL f g ↔ ∃ y ∈ f, g.getD y.toNat 0 = b := by simp [thenL]
theorem thenL_take_succ {f g : List Int} {k : Nat} (h : k < f.length) : thenL (f.take (k + 1)) g = thenL (f.take k) g ++ [g.getD (f.getD k 0).toNat 0] := by
  unfold thenL
  rw [List.take_add_one, List.map_append, List.getElem?_eq_getElem h]
  simp [List.getD_eq_getElem?_getD, h]

/-- There is an isomorphism from x to y. -/
def Cat.Alike (c : Cat) (x y : Int) : Prop := ∃ g ∈ c.hom x y, 0 ≤ c.inv g
noncomputable def Cat.iso (c : Cat) (x y : Int) : Int := firstIn (c.hom x y) fun g => decide (0 ≤ c.inv g)
theorem Cat.iso_ge {c : Cat} {x y : Int} : 0 ≤ c.iso x y ↔ c.Alike x y := by
  unfold Cat.iso Cat.Alike
  rw [firstIn_ge (fun g hg => by obtain ⟨f, _, _, _, rfl⟩ := Cat.mem_hom.1 hg; omega)]
  simp
def Fun.Full (f : Fun) : Prop := ∀ x : Nat, (x : Int) < f.s.obj → ∀ y : Nat, (y : Int) < f.s.obj → ∀ i, i < (f.t.hom (f.ob.getD x 0) (f.ob.getD y 0)).length → (f.t.hom (f.ob.getD x 0) (f.ob.getD y 0)).getD i 0 ∈ thenL (f.s.hom x y) f.ar
def Fun.Faithful (f : Fun) : Prop := ∀ a : Nat, a < f.ar.length → ∀ b : Nat, b < a → ¬ (f.s.src.getD a 0 = f.s.src.getD b 0 ∧ f.s.tgt.getD a 0 = f.s.tgt.getD b 0 ∧ f.ar.getD a 0 = f.ar.getD b 0)
def Fun.Onto (f : Fun) : Prop := ∀ y : Nat, (y : Int) < f.t.obj → ∃ x, x < f.ob.length ∧ f.t.Alike (f.ob.getD x 0) y
def Fun.Equiv (f : Fun) : Prop := f.Full ∧ f.Faithful ∧ f.Onto
end Go.GL
