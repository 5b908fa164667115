/- Categories, functors and transformations as they lie in a ghost heap. No condition. -/
import Derived.Test.YtbpehbbdodahaaaGlM
namespace Go.GL
open Go.RowKit

/-- n cells, one behind the other, at an address. -/
def MemN (H : GHeap) (g o n : Nat) (cs : List Value) : Prop := cs.length = n ∧ Mem H g o cs
theorem MStep.loadM {P : Program} {fr : Slots} {H : GHeap} {t : TypeId} {x : Operand} {g o n : Nat} {vs : List Value} (ht : aggT P t = some n) (h : ev fr x = some (.pointer (some ⟨g, o, none⟩))) (hm : MemN H g o n vs) :
    MStep P fr H (.load t x) (.agg vs.toArray) := .loadN ht h hm.1 hm.2

structure Cat where
  obj : Int
  src : List Int
  tgt : List Int
  idn : List Int
  comp : List (List Int)

/-- Where a category's lists lie. -/
structure CatP where
  a1 : Option Addr
  a2 : Option Addr
  a3 : Option Addr
  a4 : Option Addr
  r : Nat → Option Addr

def sl (a : Option Addr) (n : Nat) : Value := .slice a n n

def Cat.cells (c : Cat) (p : CatP) : List Value :=
  [.int .i64 c.obj, .slice p.a1 c.src.length c.src.length, .slice p.a2 c.tgt.length c.tgt.length, .slice p.a3 c.idn.length c.idn.length, .slice p.a4 c.comp.length c.comp.length]
def Cat.In (H : GHeap) (c : Cat) (p : CatP) : Prop := Ints H p.a1 c.src ∧ Ints H p.a2 c.tgt ∧ Ints H p.a3 c.idn ∧ Intss H p.a4 c.comp p.r
theorem Cat.In.mono {H H' : GHeap} {c : Cat} {p : CatP} (h : c.In H p) (hle : H.Le H') : c.In H' p := ⟨h.1.mono hle, h.2.1.mono hle, h.2.2.1.mono hle, h.2.2.2.mono hle⟩

/-- A category at an address. -/
def Cat.At (H : GHeap) (g o : Nat) (c : Cat) (p : CatP) : Prop := Mem H g o (c.cells p) ∧ c.In H p
theorem Cat.At.mono {H H' : GHeap} {g o : Nat} {c : Cat} {p : CatP} (h : Cat.At H g o c p) (hle : H.Le H') : Cat.At H' g o c p := ⟨h.1.mono hle, h.2.mono hle⟩

/-- What a category holds is small. -/
def Cat.Small (c : Cat) : Prop := c.src.length ≤ 1048576 ∧ c.tgt.length ≤ 1048576 ∧ c.idn.length ≤ 1048576 ∧ c.comp.length ≤ 1048576 ∧ (∀ i, (c.comp.getD i []).length ≤ 1048576) ∧ (-9223372036854775808 ≤ c.obj ∧ c.obj ≤ 9223372036854775807)

structure Fun where
  s : Cat
  t : Cat
  ob : List Int
  ar : List Int
structure FunP where
  s : CatP
  t : CatP
  b1 : Option Addr
  b2 : Option Addr
def Fun.cells (f : Fun) (p : FunP) : List Value := f.s.cells p.s ++ (f.t.cells p.t ++ [.slice p.b1 f.ob.length f.ob.length, .slice p.b2 f.ar.length f.ar.length])
def Fun.In (H : GHeap) (f : Fun) (p : FunP) : Prop := f.s.In H p.s ∧ f.t.In H p.t ∧ Ints H p.b1 f.ob ∧ Ints H p.b2 f.ar
theorem Fun.In.mono {H H' : GHeap} {f : Fun} {p : FunP} (h : f.In H p) (hle : H.Le H') : f.In H' p := ⟨h.1.mono hle, h.2.1.mono hle, h.2.2.1.mono hle, h.2.2.2.mono hle⟩
def Fun.At (H : GHeap) (g o : Nat) (f : Fun) (p : FunP) : Prop := Mem H g o (f.cells p) ∧ f.In H p
theorem Fun.At.mono {H H' : GHeap} {g o : Nat} {f : Fun} {p : FunP} (h : Fun.At H g o f p) (hle : H.Le H') : Fun.At H' g o f p := ⟨h.1.mono hle, h.2.mono hle⟩
def Fun.Small (f : Fun) : Prop := f.s.Small ∧ f.t.Small ∧ f.ob.length ≤ 1048576 ∧ f.ar.length ≤ 1048576

structure Tra where
  s : Fun
  t : Fun
  co : List Int
structure TraP where
  s : FunP
  t : FunP
  d : Option Addr
def Tra.cells (m : Tra) (p : TraP) : List Value := m.s.cells p.s ++ (m.t.cells p.t ++ [.slice p.d m.co.length m.co.length])
def Tra.In (H : GHeap) (m : Tra) (p : TraP) : Prop := m.s.In H p.s ∧ m.t.In H p.t ∧ Ints H p.d m.co
theorem Tra.In.mono {H H' : GHeap} {m : Tra} {p : TraP} (h : m.In H p) (hle : H.Le H') : m.In H' p := ⟨h.1.mono hle, h.2.1.mono hle, h.2.2.mono hle⟩
def Tra.At (H : GHeap) (g o : Nat) (m : Tra) (p : TraP) : Prop := Mem H g o (m.cells p) ∧ m.In H p
theorem Tra.At.mono {H H' : GHeap} {g o : Nat} {m : Tra} {p : TraP} (h : Tra.At H g o m p) (hle : H.Le H') : Tra.At H' g o m p := ⟨h.1.mono hle, h.2.mono hle⟩
def Tra.Small (m : Tra) : Prop := m.s.Small ∧ m.t.Small ∧ m.co.length ≤ 1048576

section
variable {H : GHeap} {g o : Nat}
/-- The cells, one by one. -/
theorem Cat.At.get {c : Cat} {p : CatP} (h : Cat.At H g o c p) : H.cell g (o + 0) = some (.int .i64 c.obj) ∧ H.cell g (o + 1) = some (.slice p.a1 c.src.length c.src.length) ∧ H.cell g (o + 2) = some (.slice p.a2 c.tgt.length c.tgt.length) ∧
    H.cell g (o + 3) = some (.slice p.a3 c.idn.length c.idn.length) ∧ H.cell g (o + 4) = some (.slice p.a4 c.comp.length c.comp.length) ∧ Ints H p.a1 c.src ∧ Ints H p.a2 c.tgt ∧ Ints H p.a3 c.idn ∧ Intss H p.a4 c.comp p.r :=
  ⟨h.1 0 _ rfl, h.1 1 _ rfl, h.1 2 _ rfl, h.1 3 _ rfl, h.1 4 _ rfl, h.2.1, h.2.2.1, h.2.2.2.1, h.2.2.2.2⟩
theorem Fun.At.get {f : Fun} {p : FunP} (h : Fun.At H g o f p) : Cat.At H g (o + 0) f.s p.s ∧ Cat.At H g (o + 5) f.t p.t ∧ H.cell g (o + 10) = some (.slice p.b1 f.ob.length f.ob.length) ∧ H.cell g (o + 11) = some (.slice p.b2 f.ar.length f.ar.length) ∧ Ints H p.b1 f.ob ∧ Ints H p.b2 f.ar :=
  ⟨⟨h.1.left, h.2.1⟩, ⟨(h.1.right (n := 5) rfl).left, h.2.2.1⟩, ((h.1.right (n := 5) rfl).right (n := 5) rfl) 0 _ rfl, ((h.1.right (n := 5) rfl).right (n := 5) rfl) 1 _ rfl, h.2.2.2.1, h.2.2.2.2⟩
theorem Tra.At.get {m : Tra} {p : TraP} (h : Tra.At H g o m p) : Fun.At H g (o + 0) m.s p.s ∧ Fun.At H g (o + 12) m.t p.t ∧ H.cell g (o + 24) = some (.slice p.d m.co.length m.co.length) ∧ Ints H p.d m.co :=
  ⟨⟨h.1.left, h.2.1⟩, ⟨(h.1.right (n := 12) rfl).left, h.2.2.1⟩, ((h.1.right (n := 12) rfl).right (n := 12) rfl) 0 _ rfl, h.2.2.2⟩
end

abbrev Cat.S (c : Cat) (f : Int) : Int := c.src.getD f.toNat 0
abbrev Cat.T (c : Cat) (f : Int) : Int := c.tgt.getD f.toNat 0
abbrev Cat.I (c : Cat) (x : Int) : Int := c.idn.getD x.toNat 0
/-- f; g. -/
abbrev Cat.th (c : Cat) (f g : Int) : Int := (c.comp.getD f.toNat []).getD g.toNat 0
abbrev Cat.n (c : Cat) : Nat := c.src.length

/-- The table's cell at f, g. -/
def Cat.Cell (c : Cat) (f g : Nat) : Prop :=
  if c.tgt.getD f 0 = c.src.getD g 0 then
    0 ≤ (c.comp.getD f []).getD g 0 ∧ (c.comp.getD f []).getD g 0 < c.src.length ∧ c.src.getD ((c.comp.getD f []).getD g 0).toNat 0 = c.src.getD f 0 ∧ c.tgt.getD ((c.comp.getD f []).getD g 0).toNat 0 = c.tgt.getD g 0
  else (c.comp.getD f []).getD g 0 = -1
theorem Cat.Cell.pos {c : Cat} {f g : Nat} (h : c.tgt.getD f 0 = c.src.getD g 0) : c.Cell f g ↔ (0 ≤ (c.comp.getD f []).getD g 0 ∧ (c.comp.getD f []).getD g 0 < c.src.length ∧ c.src.getD ((c.comp.getD f []).getD g 0).toNat 0 = c.src.getD f 0 ∧ c.tgt.getD ((c.comp.getD f []).getD g 0).toNat 0 = c.tgt.getD g 0) := by
  unfold Cat.Cell; rw [if_pos h]
theorem Cat.Cell.neg {c : Cat} {f g : Nat} (h : ¬ c.tgt.getD f 0 = c.src.getD g 0) : c.Cell f g ↔ (c.comp.getD f []).getD g 0 = -1 := by
  unfold Cat.Cell; rw [if_neg h]

structure Cat.Shape (c : Cat) : Prop where
  obj : 0 ≤ c.obj ∧ c.obj ≤ 8
  n40 : c.src.length ≤ 40
  tl : c.tgt.length = c.src.length
  src : ∀ i, i < c.src.length → 0 ≤ c.src.getD i 0 ∧ c.src.getD i 0 < c.obj
  tgt : ∀ i, i < c.tgt.length → 0 ≤ c.tgt.getD i 0 ∧ c.tgt.getD i 0 < c.obj
  il : (c.idn.length : Int) = c.obj
  idn : ∀ i, i < c.idn.length → 0 ≤ c.idn.getD i 0 ∧ c.idn.getD i 0 < c.src.length
  cl : c.comp.length = c.src.length
  ids : ∀ x, x < c.idn.length → c.src.getD (c.idn.getD x 0).toNat 0 = x ∧ c.tgt.getD (c.idn.getD x 0).toNat 0 = x
  row : ∀ f, f < c.comp.length → (c.comp.getD f []).length = c.src.length
  cell : ∀ f, f < c.comp.length → ∀ g, g < c.src.length → c.Cell f g

/-- The identities at f. -/
def Cat.IdOk (c : Cat) (f : Nat) : Prop := c.th (c.idn.getD (c.src.getD f 0).toNat 0) f = f ∧ c.th f (c.idn.getD (c.tgt.getD f 0).toNat 0) = f
structure Cat.Laws (c : Cat) : Prop where
  ids : ∀ f, f < c.src.length → c.IdOk f
  as : ∀ f, f < c.src.length → ∀ g, g < c.src.length → c.tgt.getD f 0 = c.src.getD g 0 → ∀ h, h < c.src.length → c.tgt.getD g 0 = c.src.getD h 0 → c.th (c.th f g) h = c.th f (c.th g h)
/-- A category. -/
def Cat.Is (c : Cat) : Prop := c.Shape ∧ c.Laws

theorem Cat.th_nat (c : Cat) (f g : Nat) : c.th f g = (c.comp.getD f []).getD g 0 := rfl
theorem Cat.Shape.th_ge {c : Cat} (h : c.Shape) {f g : Nat} (hf : f < c.src.length) (hg : g < c.src.length) : 0 ≤ c.th f g ↔ c.tgt.getD f 0 = c.src.getD g 0 := by
  have hc := h.cell f (by have := h.cl; omega) g hg
  rw [Cat.th_nat]
  by_cases e : c.tgt.getD f 0 = c.src.getD g 0
  · have := (Cat.Cell.pos e).1 hc
    exact ⟨fun _ => e, fun _ => this.1⟩
  · have := (Cat.Cell.neg e).1 hc
    exact ⟨fun hp => by omega, fun h' => absurd h' e⟩
theorem Cat.Shape.th_lt {c : Cat} (h : c.Shape) {f g : Nat} (hf : f < c.src.length) (hg : g < c.src.length) : c.th f g < c.src.length ∧ -1 ≤ c.th f g := by
  have hc := h.cell f (by have := h.cl; omega) g hg
  rw [Cat.th_nat]
  by_cases e : c.tgt.getD f 0 = c.src.getD g 0
  · have := (Cat.Cell.pos e).1 hc
    omega
  · have := (Cat.Cell.neg e).1 hc
    omega
theorem Cat.Shape.idn_lt {c : Cat} (h : c.Shape) {x : Int} (h0 : 0 ≤ x) (h1 : x < c.obj) : 0 ≤ c.idn.getD x.toNat 0 ∧ c.idn.getD x.toNat 0 < c.src.length := h.idn _ (by have := h.il; omega)
end Go.GL
