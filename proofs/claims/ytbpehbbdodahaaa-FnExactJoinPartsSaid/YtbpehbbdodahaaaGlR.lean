/- Hom sets and inverses: plain laws. No condition. -/
import Derived.Test.YtbpehbbdodahaaaGlQ
namespace Go.GL

def Cat.hom (c : Cat) (x y : Int) : List Int := filtN c.src.length fun f => decide (c.src.getD f 0 = x) && decide (c.tgt.getD f 0 = y)
/-- g is the inverse of f, for f; g and g; f that are there. -/
def Cat.invB (c : Cat) (f g : Int) : Bool := decide (c.th f g = c.idn.getD (c.src.getD f.toNat 0).toNat 0) && decide (c.th g f = c.idn.getD (c.tgt.getD f.toNat 0).toNat 0)
/-- The inverse of an arrow, or -1. -/
def Cat.inv (c : Cat) (f : Int) : Int := firstIn (c.hom (c.tgt.getD f.toNat 0) (c.src.getD f.toNat 0)) (c.invB f)
theorem Cat.hom_get {c : Cat} {x y : Int} {i : Nat} (h : i < (c.hom x y).length) : ∃ f : Nat, f < c.src.length ∧ c.src.getD f 0 = x ∧ c.tgt.getD f 0 = y ∧ (c.hom x y).getD i 0 = f := by
  obtain ⟨j, h1, h2, h3⟩ := filtN_get h
  simp only [sps] at h2
  exact ⟨j, h1, h2.1, h2.2, h3⟩
theorem Cat.mem_hom {c : Cat} {x y g : Int} : g ∈ c.hom x y ↔ ∃ f : Nat, f < c.src.length ∧ c.src.getD f 0 = x ∧ c.tgt.getD f 0 = y ∧ g = f := by
  unfold Cat.hom
  rw [mem_filtN]
  simp only [sps]
  exact ⟨fun ⟨f, h1, h2, h3⟩ => ⟨f, h1, h2.1, h2.2, h3⟩, fun ⟨f, h1, h2, h3, h4⟩ => ⟨f, h1, ⟨h2, h3⟩, h4⟩⟩
theorem Cat.hom_le (c : Cat) (x y : Int) : (c.hom x y).length ≤ c.src.length := filtN_le _ _

def Cat.retr (c : Cat) (f : Int) : List Int := filtN c.src.length fun g => (decide (c.src.getD g 0 = c.T f) && decide (c.tgt.getD g 0 = c.S f)) && decide (c.th f g = c.I (c.S f))
def Cat.sect (c : Cat) (f : Int) : List Int := filtN c.src.length fun g => (decide (c.src.getD g 0 = c.T f) && decide (c.tgt.getD g 0 = c.S f)) && decide (c.th g f = c.I (c.T f))
theorem Cat.mem_sect {c : Cat} {f g : Int} : g ∈ c.sect f ↔ ∃ k : Nat, k < c.src.length ∧ c.src.getD k 0 = c.T f ∧ c.tgt.getD k 0 = c.S f ∧ c.th k f = c.I (c.T f) ∧ g = k := by
  unfold Cat.sect
  rw [mem_filtN]
  simp only [sps]
  exact ⟨fun ⟨f, h1, h2, h3⟩ => ⟨f, h1, h2.1.1, h2.1.2, h2.2, h3⟩, fun ⟨f, h1, h2, h3, h4, h5⟩ => ⟨f, h1, ⟨⟨h2, h3⟩, h4⟩, h5⟩⟩
theorem firstIn_filt {n : Nat} {p q : Nat → Bool} {r s : Int → Bool} (h : ∀ i : Nat, i < n → (p i && r i) = (q i && s i)) : firstIn (filtN n p) r = firstIn (filtN n q) s := by
  unfold firstIn filtN
  congr 1
  rw [List.find?_map, List.find?_map, List.find?_filter, List.find?_filter]
  congr 1
  have : ∀ l : List Nat, (∀ i ∈ l, i < n) → l.find? (fun a => p a && (r ∘ fun (i : Nat) => (i : Int)) a) = l.find? (fun a => q a && (s ∘ fun (i : Nat) => (i : Int)) a) := by
    intro l
    induction l with
    | nil => intro _; rfl
    | cons a l ih =>
      intro hl
      simp only [List.find?_cons, Function.comp]
      rw [h a (hl a (by simp))]
      rw [show List.find? (fun a => p a && r ↑a) l = List.find? (fun a => q a && s ↑a) l from ih fun i hi => hl i (by simp [hi])]
  have h2 := this _ fun i hi => List.mem_range.1 hi
  simpa using h2
theorem Cat.inv_retr (c : Cat) (f : Int) : firstIn (c.retr f) (fun g => (c.sect f).contains g) = c.inv f := by
  unfold Cat.inv Cat.retr Cat.hom
  refine firstIn_filt fun i hi => ?_
  rw [Bool.eq_iff_iff]
  simp only [sps, Cat.invB, List.contains_iff_mem, Cat.mem_sect]
  refine ⟨fun ⟨⟨⟨h1, h2⟩, h3⟩, k, h4, h5, h6, h7, h8⟩ => ⟨⟨h1, h2⟩, h3, ?_⟩, fun ⟨⟨h1, h2⟩, h3, h4⟩ => ⟨⟨⟨h1, h2⟩, h3⟩, i, hi, h1, h2, h4, rfl⟩⟩
  obtain rfl : i = k := by omega
  exact h7
end Go.GL
