/- Classes of composites' triples: where a triple lies. No condition. -/
import Derived.Test.YtdfnfdellpfjhaaZ9
namespace Go.GL
def ccF (m k : Prof) (x z : Int) (y : Nat) : Int := (m.sz.getD x.toNat []).getD y 0 * (k.sz.getD y []).getD z.toNat 0
def ccSt (m k : Prof) (x z : Int) (n : Nat) : List Int := (List.range n).map (sumN (ccF m k x z))
def ccL (m k : Prof) (x z : Int) : List (List Int) := ctL m k x z m.t.obj.toNat 0 0
def ccT (m : Prof) (x : Int) (b e d : Nat) : List Int := [m.t.tgt.getD b 0, ((m.bh.getD b []).getD x.toNat []).getD e 0, (d : Int)]
def ccU (m k : Prof) (z : Int) (b e d : Nat) : List Int := [m.t.src.getD b 0, (e : Int), ((k.be.getD b []).getD z.toNat []).getD d 0]
def ccRow (m k : Prof) (x z : Int) (b e d : Nat) : List Int := [idxLL (ccL m k x z) (ccT m x b e d), idxLL (ccL m k x z) (ccU m k z b e d)]
structure CcOk (m k : Prof) (x z : Int) : Prop where
  hm : m.Is
  hk : k.Is
  x0 : 0 ≤ x
  x1 : x < m.s.obj
  z0 : 0 ≤ z
  z1 : z < k.t.obj
  he : m.t = k.s
structure CcA (m k : Prof) (x z : Int) (b : Nat) : Prop where
  s0 : 0 ≤ m.t.src.getD b 0
  s1 : m.t.src.getD b 0 < m.t.obj
  t0 : 0 ≤ m.t.tgt.getD b 0
  t1 : m.t.tgt.getD b 0 < m.t.obj
  b1 : x.toNat < (m.bh.getD b []).length
  b2 : (((m.bh.getD b []).getD x.toNat []).length : Int) = (m.sz.getD x.toNat []).getD (m.t.src.getD b 0).toNat 0
  b3 : ∀ e, e < ((m.bh.getD b []).getD x.toNat []).length → 0 ≤ ((m.bh.getD b []).getD x.toNat []).getD e 0 ∧ ((m.bh.getD b []).getD x.toNat []).getD e 0 < (m.sz.getD x.toNat []).getD (m.t.tgt.getD b 0).toNat 0
  k1 : z.toNat < (k.be.getD b []).length
  k2 : (((k.be.getD b []).getD z.toNat []).length : Int) = (k.sz.getD (m.t.tgt.getD b 0).toNat []).getD z.toNat 0
  k3 : ∀ d, d < ((k.be.getD b []).getD z.toNat []).length → 0 ≤ ((k.be.getD b []).getD z.toNat []).getD d 0 ∧ ((k.be.getD b []).getD z.toNat []).getD d 0 < (k.sz.getD (m.t.src.getD b 0).toNat []).getD z.toNat 0
  z1 : 0 ≤ (m.sz.getD x.toNat []).getD (m.t.src.getD b 0).toNat 0 ∧ (m.sz.getD x.toNat []).getD (m.t.src.getD b 0).toNat 0 ≤ 64
  z2 : 0 ≤ (k.sz.getD (m.t.tgt.getD b 0).toNat []).getD z.toNat 0 ∧ (k.sz.getD (m.t.tgt.getD b 0).toNat []).getD z.toNat 0 ≤ 64
structure CcP (m k : Prof) (x z : Int) (b e d : Nat) : Prop where
  mT : ccT m x b e d ∈ ccL m k x z
  mU : ccU m k z b e d ∈ ccL m k x z
  iT : idxLL (ccL m k x z) (ccT m x b e d) = (ccSt m k x z m.t.obj.toNat).getD (m.t.tgt.getD b 0).toNat 0 + ((m.bh.getD b []).getD x.toNat []).getD e 0 * (k.sz.getD (m.t.tgt.getD b 0).toNat []).getD z.toNat 0 + (d : Int)
  iU : idxLL (ccL m k x z) (ccU m k z b e d) = (ccSt m k x z m.t.obj.toNat).getD (m.t.src.getD b 0).toNat 0 + (e : Int) * (k.sz.getD (m.t.src.getD b 0).toNat []).getD z.toNat 0 + ((k.be.getD b []).getD z.toNat []).getD d 0
  lT : idxLL (ccL m k x z) (ccT m x b e d) < (ccL m k x z).length
  lU : idxLL (ccL m k x z) (ccU m k z b e d) < (ccL m k x z).length
  t0 : 0 ≤ (ccSt m k x z m.t.obj.toNat).getD (m.t.tgt.getD b 0).toNat 0
  t1 : 0 ≤ ((m.bh.getD b []).getD x.toNat []).getD e 0 * (k.sz.getD (m.t.tgt.getD b 0).toNat []).getD z.toNat 0
  u0 : 0 ≤ (ccSt m k x z m.t.obj.toNat).getD (m.t.src.getD b 0).toNat 0
  u1 : 0 ≤ (e : Int) * (k.sz.getD (m.t.src.getD b 0).toNat []).getD z.toNat 0
structure CcV (m k : Prof) (x z : Int) (b e d : Nat) : Prop where
  row : ccRow m k x z b e d = [(ccSt m k x z m.t.obj.toNat).getD (m.t.tgt.getD b 0).toNat 0 + ((m.bh.getD b []).getD x.toNat []).getD e 0 * (k.sz.getD (m.t.tgt.getD b 0).toNat []).getD z.toNat 0 + (d : Int), (ccSt m k x z m.t.obj.toNat).getD (m.t.src.getD b 0).toNat 0 + (e : Int) * (k.sz.getD (m.t.src.getD b 0).toNat []).getD z.toNat 0 + ((k.be.getD b []).getD z.toNat []).getD d 0]
  lT : (ccSt m k x z m.t.obj.toNat).getD (m.t.tgt.getD b 0).toNat 0 + ((m.bh.getD b []).getD x.toNat []).getD e 0 * (k.sz.getD (m.t.tgt.getD b 0).toNat []).getD z.toNat 0 + (d : Int) < (ccL m k x z).length
  lU : (ccSt m k x z m.t.obj.toNat).getD (m.t.src.getD b 0).toNat 0 + (e : Int) * (k.sz.getD (m.t.src.getD b 0).toNat []).getD z.toNat 0 + ((k.be.getD b []).getD z.toNat []).getD d 0 < (ccL m k x z).length
end Go.GL
namespace Go.GL
theorem nest3_pre3 {α : Type} {pr : Nat → Nat → Nat → α} {s1 : Nat → Nat} {s2 : Nat → Nat → Nat} {k t u : Nat} : ∀ j, nest3 pr s1 s2 k t u <+: nest3 pr s1 s2 k t (u + j)
  | 0 => List.prefix_refl _
  | j + 1 => by rw [← Nat.add_assoc, nest3_snoc]; exact (nest3_pre3 j).trans (List.prefix_append _ _)
theorem nest3_pre2 {α : Type} {pr : Nat → Nat → Nat → α} {s1 : Nat → Nat} {s2 : Nat → Nat → Nat} {k t : Nat} : ∀ j, nest3 pr s1 s2 k t 0 <+: nest3 pr s1 s2 k (t + j) 0
  | 0 => List.prefix_refl _
  | j + 1 => by
    rw [← Nat.add_assoc, nest3_next2]
    have := nest3_pre3 (pr := pr) (s1 := s1) (s2 := s2) (k := k) (t := t + j) (u := 0) (s2 k (t + j))
    rw [Nat.zero_add] at this
    exact (nest3_pre2 j).trans this
theorem nest3_pre1 {α : Type} {pr : Nat → Nat → Nat → α} {s1 : Nat → Nat} {s2 : Nat → Nat → Nat} {k : Nat} : ∀ j, nest3 pr s1 s2 k 0 0 <+: nest3 pr s1 s2 (k + j) 0 0
  | 0 => List.prefix_refl _
  | j + 1 => by
    rw [← Nat.add_assoc, nest3_next1]
    have := nest3_pre2 (pr := pr) (s1 := s1) (s2 := s2) (k := k + j) (t := 0) (s1 (k + j))
    rw [Nat.zero_add] at this
    exact (nest3_pre1 j).trans this
theorem nest3_preR {α : Type} {pr : Nat → Nat → Nat → α} {s1 : Nat → Nat} {s2 : Nat → Nat → Nat} {n k t : Nat} (hk : k < n) (ht : t ≤ s1 k) : nest3 pr s1 s2 k t 0 <+: nest3 pr s1 s2 n 0 0 := by
  have h2 := nest3_pre2 (pr := pr) (s1 := s1) (s2 := s2) (k := k) (t := t) (s1 k - t)
  rw [show t + (s1 k - t) = s1 k by omega, ← nest3_next1] at h2
  have h3 := nest3_pre1 (pr := pr) (s1 := s1) (s2 := s2) (k := k + 1) (n - (k + 1))
  rw [show k + 1 + (n - (k + 1)) = n by omega] at h3
  exact h2.trans h3
theorem getD_set2 {xss : List (List Int)} {i j : Nat} {ys : List Int} (h : i < xss.length) : (xss.set i ys).getD j [] = if i = j then ys else xss.getD j [] := by
  rw [List.getD_eq_getElem?_getD, List.getElem?_set]
  by_cases e : i = j
  · subst e; rw [if_pos rfl, if_pos rfl, if_pos h]; rfl
  · rw [if_neg e, if_neg e, ← List.getD_eq_getElem?_getD]
theorem slsL_set {r : Nat → Option Addr} {xss : List (List Int)} {i n : Nat} {a : Option Addr} {ys : List Int} (_ : i < xss.length) (hn : n = ys.length) : (slsL r xss).set i (.slice a n n) = slsL (upd r i a) (xss.set i ys) := by
  subst hn
  unfold slsL slsOf
  apply List.ext_getElem (by simp)
  intro j h1 h2
  simp only [List.length_set, List.length_map, List.length_range] at h1
  simp only [List.getElem_set, List.getElem_map, List.getElem_range]
  by_cases e : i = j
  · subst e
    rw [if_pos rfl, upd_eq, getD_set2 h1, if_pos rfl]
  · rw [if_neg e, upd_ne (Ne.symm e), getD_set2 (by omega), if_neg e]
theorem slsL_cell {r : Nat → Option Addr} {xss : List (List Int)} {H : GHeap} {g i : Nat} {e : TypeId} {own : Bool} (h : H.get g = some (.row (slsL r xss) e own)) (hi : i < xss.length) : H.cell g (0 + i) = some (.slice (r i) (xss.getD i []).length (xss.getD i []).length) := by
  rw [GHeap.cell_of h, Nat.zero_add]
  simp [slsL, slsOf, hi]
theorem ne_upd {g g' i n : Nat} {r : Nat → Option Addr} (h : ∀ j, j < n → r j ≠ some ⟨g, 0, none⟩) (hg : g' ≠ g) : ∀ j, j < n → upd r i (some ⟨g', 0, none⟩) j ≠ some ⟨g, 0, none⟩ := fun j hj => by
  by_cases e : j = i
  · subst e
    rw [upd_eq]
    intro e
    cases e
    exact hg rfl
  · rw [upd_ne e]
    exact h j hj
structure OwnCat (eI eS : TypeId) (b : Nat) (H : GHeap) (c : Cat) (g1 g2 g3 g4 : Nat) (rr : Nat → Option Addr) : Prop where
  a1 : H.get g1 = some (.row (ints c.src) eI true)
  a2 : H.get g2 = some (.row (ints c.tgt) eI true)
  a3 : H.get g3 = some (.row (ints c.idn) eI true)
  a4 : H.get g4 = some (.row (slsL rr c.comp) eS true)
  b1 : b ≤ g1
  b2 : b ≤ g2
  b3 : b ≤ g3
  b4 : b ≤ g4
  n12 : g1 ≠ g2
  n13 : g1 ≠ g3
  n23 : g2 ≠ g3
  rows : OwnL b H eI rr c.comp
  r1 : ∀ i, i < c.comp.length → rr i ≠ some ⟨g1, 0, none⟩
  r2 : ∀ i, i < c.comp.length → rr i ≠ some ⟨g2, 0, none⟩
  r3 : ∀ i, i < c.comp.length → rr i ≠ some ⟨g3, 0, none⟩
structure Cat.Rect (c : Cat) (N : Nat) : Prop where
  obj : 0 ≤ c.obj ∧ c.obj ≤ N
  n : c.src.length ≤ N
  tl : c.tgt.length = c.src.length
  src : ∀ i, i < c.src.length → 0 ≤ c.src.getD i 0 ∧ c.src.getD i 0 ≤ N
  tgt : ∀ i, i < c.tgt.length → 0 ≤ c.tgt.getD i 0 ∧ c.tgt.getD i 0 ≤ N
  il : (c.idn.length : Int) = c.obj
  idn : ∀ i, i < c.idn.length → 0 ≤ c.idn.getD i 0 ∧ c.idn.getD i 0 ≤ N
  cl : c.comp.length = c.src.length
  row : ∀ f, f < c.comp.length → (c.comp.getD f []).length = c.src.length
  cell : ∀ f, f < c.comp.length → ∀ g, g < c.src.length → -(N : Int) - 1 ≤ (c.comp.getD f []).getD g 0 ∧ (c.comp.getD f []).getD g 0 ≤ N
def sumRow (n : Nat) (row : List Int) : List Int := List.replicate n (-1) ++ row.map fun h => if 0 ≤ h then h + (n : Int) else h
def Cat.sumL (c d : Cat) : List (List Int) := c.comp.map (· ++ List.replicate d.src.length (-1))
def Cat.sum (c d : Cat) : Cat where
  obj := c.obj + d.obj
  src := c.src ++ d.src.map (· + c.obj)
  tgt := c.tgt ++ d.tgt.map (· + c.obj)
  idn := c.idn ++ d.idn.map (· + (c.src.length : Int))
  comp := c.sumL d ++ d.comp.map (sumRow c.src.length)
def extL (xss : List (List Int)) (k f j : Nat) : List (List Int) := (List.range xss.length).map fun i => xss.getD i [] ++ List.replicate (if i < f then k else if i = f then j else 0) (-1)
structure SumSt (eI eS eT : TypeId) (H0 H : GHeap) (c d : Cat) (q : CatP) (gd gR gS gF gT gI gC : Nat) (zs : List Value) (rr : Nat → Option Addr) (f j : Nat) : Prop where
  hle : H0.Le H
  gc : H0.next ≤ gC
  ad : H.get gd = some (.row (d.cells q) eT true)
  aR : H.get gR = some (.row zs eT true)
  aS : H.get gS = some (.row [.int .i64 (c.obj + d.obj), .slice (some ⟨gF, 0, none⟩) c.src.length c.src.length, .slice (some ⟨gT, 0, none⟩) c.tgt.length c.tgt.length, .slice (some ⟨gI, 0, none⟩) (c.idn.length + d.obj.toNat) (c.idn.length + d.obj.toNat), .slice (some ⟨gC, 0, none⟩) c.comp.length c.comp.length] eT true)
  aF : H.get gF = some (.row (ints c.src) eI true)
  aT : H.get gT = some (.row (ints c.tgt) eI true)
  aI : H.get gI = some (.row (ints (c.sum d).idn) eI true)
  aC : H.get gC = some (.row (slsL rr (extL c.comp d.src.length f j)) eS true)
  rows : OwnL H0.next H eI rr (extL c.comp d.src.length f j)
  r1 : ∀ i, i < c.comp.length → rr i ≠ some ⟨gF, 0, none⟩
  r2 : ∀ i, i < c.comp.length → rr i ≠ some ⟨gT, 0, none⟩
  r3 : ∀ i, i < c.comp.length → rr i ≠ some ⟨gI, 0, none⟩
def colPr (x y e : Nat) : List Int := [(x : Int), (y : Int), (e : Int)]
def Prof.colS2 (m : Prof) (x y : Nat) : Nat := ((m.sz.getD x []).getD y 0).toNat
def Prof.colP (m : Prof) (x y e : Nat) : List (List Int) := nest3 colPr (fun _ => m.t.obj.toNat) m.colS2 x y e
def Prof.colL (m : Prof) : List (List Int) := m.colP m.s.obj.toNat 0 0
def Prof.colA (m : Prof) (x y : Nat) : Int := (m.colP x y 0).length
theorem Prof.Sized.at {m : Prof} (z : m.Sized) {x y : Nat} (hx : (x : Int) < m.s.obj) (hy : (y : Int) < m.t.obj) : x < m.sz.length ∧ y < (m.sz.getD x []).length ∧ 0 ≤ (m.sz.getD x []).getD y 0 ∧ (m.sz.getD x []).getD y 0 ≤ 64 := by
  have h1 := z.sl
  have h2 := z.row x (by omega)
  exact ⟨by omega, by omega, z.rng x (by omega) y (by omega)⟩
structure Prof.Cok (m : Prof) : Prop where
  z : m.Sized
  s0 : 0 ≤ m.s.obj
  s8 : m.s.obj ≤ 8
  t0 : 0 ≤ m.t.obj
  t8 : m.t.obj ≤ 8
theorem Prof.Cok.s2 {m : Prof} (h : m.Cok) {x y : Nat} (hx : (x : Int) < m.s.obj) (hy : (y : Int) < m.t.obj) : (m.colS2 x y : Int) = (m.sz.getD x []).getD y 0 ∧ m.colS2 x y ≤ 64 := by
  have := h.z.at hx hy
  unfold Prof.colS2
  omega
theorem Prof.Cok.all {m : Prof} (h : m.Cok) : m.colL.length ≤ 4096 := by
  have h1 := h.s8
  have h2 := h.t8
  have := nest3_all (pr := colPr) (s1 := fun _ => m.t.obj.toNat) (s2 := m.colS2) (c := 64) (d := 8) (n := m.s.obj.toNat) (fun a _ => by show m.t.obj.toNat ≤ 8; omega) (fun a ha b hb => (h.s2 (by omega) (by omega)).2)
  unfold Prof.colL Prof.colP
  omega
theorem Prof.Cok.leY {m : Prof} (h : m.Cok) {x y : Nat} (hx : (x : Int) < m.s.obj) (hy : (y : Int) ≤ m.t.obj) : (m.colP x y 0).length ≤ m.colL.length := by
  obtain ⟨r, hr⟩ := nest3_preR (pr := colPr) (s1 := fun _ => m.t.obj.toNat) (s2 := m.colS2) (n := m.s.obj.toNat) (k := x) (t := y) (by omega) (by omega)
  unfold Prof.colL Prof.colP
  rw [← hr, List.length_append]
  omega
def Prof.colQx (m : Prof) (x y : Nat) : List Int := (List.range y).map (m.colA x)
def Prof.colQ (m : Prof) (k : Nat) : List (List Int) := (List.range k).map fun x => m.colQx x (m.sz.getD x []).length
@[simp] theorem Prof.length_colQx (m : Prof) (x y : Nat) : (m.colQx x y).length = y := by simp [Prof.colQx]
@[simp] theorem Prof.length_colQ (m : Prof) (k : Nat) : (m.colQ k).length = k := by simp [Prof.colQ]
theorem Prof.colQx_get {m : Prof} {x y i : Nat} (h : i < y) : (m.colQx x y).getD i 0 = m.colA x i := by simp [Prof.colQx, List.getD_eq_getElem?_getD, h]
theorem Prof.colQ_get {m : Prof} {k x : Nat} (h : x < k) : (m.colQ k).getD x [] = m.colQx x (m.sz.getD x []).length := by simp [Prof.colQ, List.getD_eq_getElem?_getD, h]
theorem Prof.Cok.colA_bd {m : Prof} (h : m.Cok) {x y : Nat} (hx : (x : Int) < m.s.obj) (hy : (y : Int) ≤ m.t.obj) : 0 ≤ m.colA x y ∧ m.colA x y ≤ 4096 := by
  have h1 := h.leY hx hy
  have h2 := h.all
  unfold Prof.colA
  omega
theorem Prof.Cok.q {m : Prof} (h : m.Cok) {x y : Int} (x0 : 0 ≤ x) (x1 : x < m.s.obj) (y0 : 0 ≤ y) (y1 : y < m.t.obj) : x < (m.colQ m.sz.length).length ∧ (((m.colQ m.sz.length).getD x.toNat []).length : Int) = m.t.obj ∧ ((m.colQ m.sz.length).getD x.toNat []).getD y.toNat 0 = m.colA x.toNat y.toNat ∧ 0 ≤ m.colA x.toNat y.toNat ∧ m.colA x.toNat y.toNat ≤ 4096 := by
  have h1 := h.z.sl
  have h2 := h.z.row x.toNat (by omega)
  have h3 := h.colA_bd (x := x.toNat) (y := y.toNat) (by omega) (by omega)
  rw [Prof.length_colQ, Prof.colQ_get (by omega), Prof.length_colQx, Prof.colQx_get (by omega)]
  exact ⟨by omega, h2, rfl, h3⟩
def Prof.colN (m : Prof) : Nat := m.s.src.length + m.t.src.length
def Prof.colS (m : Prof) : List Int := (m.s.sum m.t).src ++ m.colL.map fun t => t.getD 0 0
def Prof.colT (m : Prof) : List Int := (m.s.sum m.t).tgt ++ m.colL.map fun t => m.s.obj + t.getD 1 0
def Prof.colR (m : Prof) (i : Nat) : List Int := m.colL.getD (i - m.colN) []
def Prof.colB (m : Prof) (f g : Nat) : Int := ((m.be.getD f []).getD ((m.colR g).getD 1 0).toNat []).getD ((m.colR g).getD 2 0).toNat 0
def Prof.colH (m : Prof) (f g : Nat) : Int := ((m.bh.getD (g - m.s.src.length) []).getD ((m.colR f).getD 0 0).toNat []).getD ((m.colR f).getD 2 0).toNat 0
def Prof.colK1 (m : Prof) (f g : Nat) : List Int := [m.colS.getD f 0, (m.colR g).getD 1 0, m.colB f g]
def Prof.colK2 (m : Prof) (f g : Nat) : List Int := [(m.colR f).getD 0 0, m.colT.getD g 0 - m.s.obj, m.colH f g]
structure Prof.ColB (m : Prof) (f g : Nat) : Prop where
  fM : f < m.s.src.length
  sf : m.colS.getD f 0 = m.s.src.getD f 0
  tg : m.colT.getD g 0 = m.s.obj + (m.colR g).getD 1 0
  r3 : (m.colR g).length = 3
  y0 : 0 ≤ (m.colR g).getD 1 0
  y1 : (m.colR g).getD 1 0 < m.t.obj
  e0 : 0 ≤ (m.colR g).getD 2 0
  b0 : f < m.be.length
  b1 : ((m.colR g).getD 1 0).toNat < (m.be.getD f []).length
  b2 : ((m.colR g).getD 2 0).toNat < ((m.be.getD f []).getD ((m.colR g).getD 1 0).toNat []).length
  s0 : 0 ≤ m.s.src.getD f 0
  s1 : m.s.src.getD f 0 < m.s.obj
  t0 : 0 ≤ m.s.tgt.getD f 0
  t1 : m.s.tgt.getD f 0 < m.s.obj
  ae : (g : Int) - m.colN - m.colA (m.s.tgt.getD f 0).toNat ((m.colR g).getD 1 0).toNat = (m.colR g).getD 2 0
  ix : idxLL m.colL (m.colK1 f g) = m.colA (m.s.src.getD f 0).toNat ((m.colR g).getD 1 0).toNat + m.colB f g
  lt : idxLL m.colL (m.colK1 f g) < m.colL.length
  ca : 0 ≤ m.colA (m.s.src.getD f 0).toNat ((m.colR g).getD 1 0).toNat
  bb : 0 ≤ m.colB f g
structure Prof.ColH (m : Prof) (f g : Nat) : Prop where
  gM : m.s.src.length ≤ g
  gN : g < m.colN
  sf : m.colS.getD f 0 = (m.colR f).getD 0 0
  tg : m.colT.getD g 0 - m.s.obj = m.t.tgt.getD (g - m.s.src.length) 0
  r3 : (m.colR f).length = 3
  x0 : 0 ≤ (m.colR f).getD 0 0
  x1 : (m.colR f).getD 0 0 < m.s.obj
  e0 : 0 ≤ (m.colR f).getD 2 0
  b0 : g - m.s.src.length < m.bh.length
  b1 : ((m.colR f).getD 0 0).toNat < (m.bh.getD (g - m.s.src.length) []).length
  b2 : ((m.colR f).getD 2 0).toNat < ((m.bh.getD (g - m.s.src.length) []).getD ((m.colR f).getD 0 0).toNat []).length
  s0 : 0 ≤ m.t.src.getD (g - m.s.src.length) 0
  s1 : m.t.src.getD (g - m.s.src.length) 0 < m.t.obj
  t0 : 0 ≤ m.t.tgt.getD (g - m.s.src.length) 0
  t1 : m.t.tgt.getD (g - m.s.src.length) 0 < m.t.obj
  ae : (f : Int) - m.colN - m.colA ((m.colR f).getD 0 0).toNat (m.t.src.getD (g - m.s.src.length) 0).toNat = (m.colR f).getD 2 0
  ix : idxLL m.colL (m.colK2 f g) = m.colA ((m.colR f).getD 0 0).toNat (m.t.tgt.getD (g - m.s.src.length) 0).toNat + m.colH f g
  lt : idxLL m.colL (m.colK2 f g) < m.colL.length
  ca : 0 ≤ m.colA ((m.colR f).getD 0 0).toNat (m.t.tgt.getD (g - m.s.src.length) 0).toNat
  bb : 0 ≤ m.colH f g
def Prof.colSp (m : Prof) (x y e : Nat) : List Int := (m.s.sum m.t).src ++ (m.colP x y e).map fun t => t.getD 0 0
def Prof.colTp (m : Prof) (x y e : Nat) : List Int := (m.s.sum m.t).tgt ++ (m.colP x y e).map fun t => m.s.obj + t.getD 1 0
structure ColSt (eI eS eT eP : TypeId) (H0 H : GHeap) (m : Prof) (p : ProfP) (g1 g2 g3 g4 g5 gI gC : Nat) (r0 : Nat → Option Addr) (zs : List Value) (x y e : Nat) (r1 : Nat → Option Addr) (gV gF gT : Nat) : Prop where
  hle : H0.Le H
  a1 : H.get g1 = some (.row (m.cells p) eP true)
  a2 : H.get g2 = some (.row zs eT true)
  a3 : H.get g3 = some (.row (m.s.cells p.s) eT true)
  a4 : H.get g4 = some (.row (m.t.cells p.t) eT true)
  a5 : H.get g5 = some (.row [.int .i64 (m.s.obj + m.t.obj), .slice (some ⟨gF, 0, none⟩) (m.colSp x y e).length (m.colSp x y e).length, .slice (some ⟨gT, 0, none⟩) (m.colTp x y e).length (m.colTp x y e).length, .slice (some ⟨gI, 0, none⟩) (m.s.sum m.t).idn.length (m.s.sum m.t).idn.length, .slice (some ⟨gC, 0, none⟩) (m.s.sum m.t).comp.length (m.s.sum m.t).comp.length] eT true)
  aF : H.get gF = some (.row (ints (m.colSp x y e)) eI true)
  aT : H.get gT = some (.row (ints (m.colTp x y e)) eI true)
  aI : H.get gI = some (.row (ints (m.s.sum m.t).idn) eI true)
  aC : H.get gC = some (.row (slsL r0 (m.s.sum m.t).comp) eS true)
  aV : H.get gV = some (.row (slsL r1 (m.colP x y e)) eS true)
  rows0 : OwnL H0.next H eI r0 (m.s.sum m.t).comp
  rows1 : OwnL H0.next H eI r1 (m.colP x y e)
  z1 : ∀ i, i < (m.s.sum m.t).comp.length → r0 i ≠ some ⟨gF, 0, none⟩
  z2 : ∀ i, i < (m.s.sum m.t).comp.length → r0 i ≠ some ⟨gT, 0, none⟩
  z3 : ∀ i, i < (m.s.sum m.t).comp.length → r0 i ≠ some ⟨gI, 0, none⟩
  w1 : ∀ i, i < (m.colP x y e).length → r1 i ≠ some ⟨gF, 0, none⟩
  w2 : ∀ i, i < (m.colP x y e).length → r1 i ≠ some ⟨gT, 0, none⟩
  bF : H0.next ≤ gF
  bT : H0.next ≤ gT
  bI : H0.next ≤ gI
  bC : H0.next ≤ gC
  bV : H0.next ≤ gV
  b5 : H0.next ≤ g5
  n12 : gF ≠ gT
  n13 : gF ≠ gI
  n23 : gT ≠ gI
  nV : gV ≠ gC
  n15 : g1 ≠ g5
  n25 : g2 ≠ g5
  n35 : g3 ≠ g5
  n45 : g4 ≠ g5
end Go.GL
namespace Go.GL
theorem Prof.lnk_1 {m : Prof} {co : List Int} {n a : Nat} {e : Int} (h1 : m.s.src.getD a 0 = (n : Int)) (h2 : m.s.tgt.getD a 0 = (n : Int)) : m.lnk co n e a = ((m.enL a).getD e.toNat 0 == (m.enR a).getD e.toNat 0) := by
  unfold lnk; rw [if_pos ⟨by omega, by omega⟩]; rfl
theorem Prof.lnk_2 {m : Prof} {co : List Int} {n a : Nat} {e : Int} (h0 : 0 ≤ m.s.tgt.getD a 0) (h1 : m.s.src.getD a 0 = (n : Int)) (h2 : ¬ m.s.tgt.getD a 0 = (n : Int)) (h3 : 0 ≤ co.getD (m.s.tgt.getD a 0).toNat 0) : m.lnk co n e a = ((m.enL a).getD e.toNat 0 == (m.enR a).getD (co.getD (m.s.tgt.getD a 0).toNat 0).toNat 0) := by
  unfold lnk; rw [if_neg (by omega), if_pos ⟨by omega, h3⟩]; rfl
theorem Prof.lnk_3 {m : Prof} {co : List Int} {n a : Nat} {e : Int} (h0 : 0 ≤ m.s.src.getD a 0) (h1 : ¬ m.s.src.getD a 0 = (n : Int)) (h2 : m.s.tgt.getD a 0 = (n : Int)) (h3 : 0 ≤ co.getD (m.s.src.getD a 0).toNat 0) : m.lnk co n e a = ((m.enL a).getD (co.getD (m.s.src.getD a 0).toNat 0).toNat 0 == (m.enR a).getD e.toNat 0) := by
  unfold lnk; rw [if_neg (by omega), if_neg (by omega), if_pos ⟨by omega, h3⟩]; rfl
theorem Prof.lnk_4 {m : Prof} {co : List Int} {n a : Nat} {e : Int} (h0 : 0 ≤ m.s.src.getD a 0) (h0' : 0 ≤ m.s.tgt.getD a 0) (h1 : ¬ (m.s.src.getD a 0 = (n : Int) ∧ m.s.tgt.getD a 0 = (n : Int))) (h2 : ¬ (m.s.src.getD a 0 = (n : Int) ∧ 0 ≤ co.getD (m.s.tgt.getD a 0).toNat 0)) (h3 : ¬ (m.s.tgt.getD a 0 = (n : Int) ∧ 0 ≤ co.getD (m.s.src.getD a 0).toNat 0)) : m.lnk co n e a = true := by
  unfold lnk; rw [if_neg (by omega), if_neg (by omega), if_neg (by omega)]
def Prof.enT (m : Prof) (co : List Int) (n : Nat) (e : Int) (t : Nat) : Bool := m.lnk co n e ((m.atN n m.s.src.length).getD t 0).toNat
def Prof.enP (m : Prof) (co : List Int) (n : Nat) (e : Int) : Bool := allN (m.atN n m.s.src.length).length (m.enT co n e)
theorem Prof.fits_all {m : Prof} {co : List Int} {n : Nat} {e : Int} (hn : n < co.length) (h0 : 0 ≤ e) : m.enet.fits (co.set n e) n = m.enP co n e := by
  rw [Bool.eq_iff_iff, Prof.fits_lnk hn h0]
  unfold Prof.enP
  rw [allN_iff]
  constructor
  · exact fun h t ht => h _ (getD_mem ht)
  · intro h a ha
    obtain ⟨t, ht, rfl⟩ := List.mem_iff_getElem.1 ha
    have := h t ht
    unfold Prof.enT at this
    rwa [List.getD_eq_getElem?_getD, List.getElem?_eq_getElem ht] at this
theorem Prof.choices_eq {m : Prof} {co : List Int} {n : Nat} (hn : n < co.length) : m.enet.choices co n = (numsL (m.diag n).toNat).filter (m.enP co n) := by
  unfold Net.choices
  exact List.filter_congr fun h hh => Prof.fits_all hn (numsL_ge hh).1
theorem Prof.choices_mem {m : Prof} {co : List Int} {n : Nat} {h : Int} (hh : h ∈ m.enet.choices co n) : 0 ≤ h ∧ h < m.diag n := by
  have := numsL_ge (List.mem_filter.1 hh).1
  omega
theorem Prof.choices_le {m : Prof} {co : List Int} {n : Nat} : (m.enet.choices co n).length ≤ (m.diag n).toNat := by
  refine Nat.le_trans (List.length_filter_le _ _) ?_
  rw [show m.enet.cand n = numsL (m.diag n).toNat from rfl, length_numsL]
  exact Nat.le_refl _
def Prof.lnkC (m : Prof) (p : ProfP) (k : Nat) : List Value := [.int .i64 (m.s.src.getD k 0), .int .i64 (m.s.tgt.getD k 0), .slice (p.s4 k (m.s.src.getD k 0).toNat) (m.enL k).length (m.enL k).length, .slice (p.s3 k (m.s.tgt.getD k 0).toNat) (m.enR k).length (m.enR k).length]
def Prof.lnkV (m : Prof) (p : ProfP) (n : Nat) : List Value := (List.range n).flatMap (m.lnkC p)
theorem Prof.lnkV_succ {m : Prof} {p : ProfP} {n : Nat} : m.lnkV p (n + 1) = m.lnkV p n ++ m.lnkC p n := by unfold lnkV; rw [List.range_succ, List.flatMap_append]; simp
@[simp] theorem Prof.length_lnkV (m : Prof) (p : ProfP) (n : Nat) : (m.lnkV p n).length = n * 4 := by
  induction n with
  | zero => rfl
  | succ n ih => rw [Prof.lnkV_succ, List.length_append, ih]; simp [Prof.lnkC]; omega
theorem flat4_get {α : Type} {f : Nat → List α} (hf : ∀ i, (f i).length = 4) : ∀ {n i j : Nat}, i < n → j < 4 → ((List.range n).flatMap f)[i * 4 + j]? = (f i)[j]?
  | n + 1, i, j, hi, hj => by
    have hl : ((List.range n).flatMap f).length = n * 4 := by
      clear hi hj
      induction n with
      | zero => rfl
      | succ n ih => rw [List.range_succ, List.flatMap_append, List.length_append, ih]; simp [hf]; omega
    rw [List.range_succ, List.flatMap_append]
    by_cases e : i < n
    · rw [List.getElem?_append_left (by rw [hl]; omega)]
      exact flat4_get hf e hj
    · obtain rfl : i = n := by omega
      rw [List.getElem?_append_right (by rw [hl]; omega), hl]
      simp
theorem Prof.lnkV_mem {m : Prof} {p : ProfP} {H : GHeap} {g n : Nat} {e : TypeId} {own : Bool} (hg : H.get g = some (.row (m.lnkV p n) e own)) {v : Int} (h0 : 0 ≤ v) (hv : v < n) : MemN H g (0 + v.toNat * 4) 4 (m.lnkC p v.toNat) := by
  refine ⟨rfl, fun j w hw => ?_⟩
  have hj : j < 4 := (List.getElem?_eq_some_iff.1 hw).1
  rw [GHeap.cell_of hg, Nat.zero_add]
  unfold Prof.lnkV
  rw [flat4_get (f := m.lnkC p) (fun _ => rfl) (by omega) hj]
  exact hw
def Prof.diagL (m : Prof) (n : Nat) : List Int := (List.range n).map m.diag
@[simp] theorem Prof.length_diagL (m : Prof) (n : Nat) : (m.diagL n).length = n := by simp [diagL]
theorem Prof.diagL_succ {m : Prof} {n : Nat} : m.diagL (n + 1) = m.diagL n ++ [(m.sz.getD n []).getD n 0] := rangeS
theorem Prof.diagL_get {m : Prof} {n i : Nat} (h : i < n) : (m.diagL n).getD i 0 = m.diag i := by simp [diagL, List.getD_eq_getElem?_getD, h]
def Prof.atL (m : Prof) (N k : Nat) : List (List Int) := (List.range N).map fun n => m.atN n k
@[simp] theorem Prof.length_atL (m : Prof) (N k : Nat) : (m.atL N k).length = N := by simp [atL]
theorem Prof.atL_get {m : Prof} {N k i : Nat} (h : i < N) : (m.atL N k).getD i [] = m.atN i k := by simp [atL, List.getD_eq_getElem?_getD, h]
theorem Prof.atL_zero (m : Prof) (N : Nat) : m.atL N 0 = List.replicate N [] := by
  refine List.eq_replicate_iff.2 ⟨by simp, fun b hb => ?_⟩
  obtain ⟨i, _, rfl⟩ := List.mem_map.1 hb
  rfl
theorem Prof.atN_T {m : Prof} {n k : Nat} (h : (m.s.src.getD k 0).toNat = n ∨ (m.s.tgt.getD k 0).toNat = n) : m.atN n (k + 1) = m.atN n k ++ [(k : Int)] := filtN_T (by rw [Bool.or_eq_true, decide_eq_true_eq, decide_eq_true_eq]; exact h)
theorem Prof.atN_F {m : Prof} {n k : Nat} (h : ¬ ((m.s.src.getD k 0).toNat = n ∨ (m.s.tgt.getD k 0).toNat = n)) : m.atN n (k + 1) = m.atN n k := filtN_F (by
  cases e : (decide ((m.s.src.getD k 0).toNat = n) || decide ((m.s.tgt.getD k 0).toNat = n)) with
  | false => rfl
  | true => rw [Bool.or_eq_true, decide_eq_true_eq, decide_eq_true_eq] at e; exact absurd e h)
theorem Prof.atN_lt {m : Prof} {n k i : Nat} (h : i < (m.atN n k).length) : 0 ≤ (m.atN n k).getD i 0 ∧ (m.atN n k).getD i 0 < k := filtN_lt h
theorem Prof.atN_le (m : Prof) (n k : Nat) : (m.atN n k).length ≤ k := filtN_le _ _
theorem Prof.atL_1 {m : Prof} {N k : Nat} (h1 : (m.s.src.getD k 0).toNat < N) (he : (m.s.src.getD k 0).toNat = (m.s.tgt.getD k 0).toNat) : (m.atL N k).set (m.s.src.getD k 0).toNat ((m.atL N k).getD (m.s.src.getD k 0).toNat [] ++ [(k : Int)]) = m.atL N (k + 1) := by
  refine eq_of_getD2 (by simp) fun i hi => ?_
  simp only [List.length_set, Prof.length_atL] at hi
  rw [getD_set2 (by simpa using h1), Prof.atL_get hi, Prof.atL_get hi, Prof.atL_get h1]
  by_cases e : (m.s.src.getD k 0).toNat = i
  · rw [if_pos e, Prof.atN_T (.inl e), e]
  · rw [if_neg e, Prof.atN_F (by omega)]
theorem Prof.atL_2 {m : Prof} {N k : Nat} (h1 : (m.s.src.getD k 0).toNat < N) (h2 : (m.s.tgt.getD k 0).toNat < N) (he : ¬ (m.s.src.getD k 0).toNat = (m.s.tgt.getD k 0).toNat) {X : List (List Int)} (hX : X = (m.atL N k).set (m.s.src.getD k 0).toNat ((m.atL N k).getD (m.s.src.getD k 0).toNat [] ++ [(k : Int)])) :
    X.set (m.s.tgt.getD k 0).toNat (X.getD (m.s.tgt.getD k 0).toNat [] ++ [(k : Int)]) = m.atL N (k + 1) := by
  have hxl : X.length = N := by rw [hX]; simp
  refine eq_of_getD2 (by simp [hxl]) fun i hi => ?_
  simp only [List.length_set, hxl] at hi
  rw [getD_set2 (by omega), Prof.atL_get hi, hX, getD_set2 (by simpa using h1), getD_set2 (by simpa using h1), if_neg he, Prof.atL_get h2, Prof.atL_get h1, Prof.atL_get hi]
  by_cases e : (m.s.tgt.getD k 0).toNat = i
  · rw [if_pos e, Prof.atN_T (.inr e), e]
  · rw [if_neg e]
    by_cases e2 : (m.s.src.getD k 0).toNat = i
    · rw [if_pos e2, Prof.atN_T (.inl e2), e2]
    · rw [if_neg e2, Prof.atN_F (by omega)]
theorem Prof.atL_s {m : Prof} {N k s : Nat} (hs : m.s.src.getD k 0 = (s : Int)) (ht : m.s.tgt.getD k 0 = (s : Int)) (h1 : s < N) : (m.atL N k).set s ((m.atL N k).getD s [] ++ [(k : Int)]) = m.atL N (k + 1) := by
  have e1 : (m.s.src.getD k 0).toNat = s := by omega
  have h := Prof.atL_1 (m := m) (N := N) (k := k) (by omega) (by omega)
  rwa [e1] at h
theorem Prof.atL_d {m : Prof} {N k s t : Nat} (hs : m.s.src.getD k 0 = (s : Int)) (ht : m.s.tgt.getD k 0 = (t : Int)) (h1 : s < N) (h2 : t < N) (he : ¬ s = t) {X : List (List Int)} (hX : X = (m.atL N k).set s ((m.atL N k).getD s [] ++ [(k : Int)])) : X.set t (X.getD t [] ++ [(k : Int)]) = m.atL N (k + 1) := by
  have e1 : (m.s.src.getD k 0).toNat = s := by omega
  have e2 : (m.s.tgt.getD k 0).toNat = t := by omega
  have h := Prof.atL_2 (m := m) (N := N) (k := k) (by omega) (by omega) (by omega) (X := X) (by rw [e1]; exact hX)
  rwa [e2] at h
structure OwnO (b : Nat) (H : GHeap) (e : TypeId) (r : Nat → Option Addr) (xss : List (List Int)) : Prop where
  row : ∀ i, i < xss.length → (r i = none ∧ xss.getD i [] = []) ∨ ∃ g, r i = some ⟨g, 0, none⟩ ∧ b ≤ g ∧ H.get g = some (.row (ints (xss.getD i [])) e true)
  inj : ∀ i j, i < xss.length → j < xss.length → ∀ g, r i = some ⟨g, 0, none⟩ → r j = some ⟨g, 0, none⟩ → i = j
theorem OwnO.start (b : Nat) (H : GHeap) (e : TypeId) (N : Nat) : OwnO b H e (fun _ => none) (List.replicate N []) :=
  ⟨fun i hi => .inl ⟨rfl, by rw [List.getD_eq_getElem?_getD, List.getElem?_replicate]; split <;> rfl⟩, fun _ _ _ _ _ h => by cases h⟩
theorem OwnO.mono {b : Nat} {H H' : GHeap} {e : TypeId} {r : Nat → Option Addr} {xss : List (List Int)} (h : OwnO b H e r xss) (s : H.Le H') : OwnO b H' e r xss :=
  ⟨fun i hi => (h.row i hi).imp id fun ⟨g, h1, h2, h3⟩ => ⟨g, h1, h2, s.2 _ _ h3⟩, h.inj⟩
theorem OwnO.st {b : Nat} {bs : List Nat} {H H' : GHeap} {e : TypeId} {r : Nat → Option Addr} {xss : List (List Int)} (h : OwnO b H e r xss) (s : St bs H H') (ho : Off r xss.length bs) : OwnO b H' e r xss :=
  ⟨fun i hi => (h.row i hi).imp id fun ⟨g, h1, h2, h3⟩ => ⟨g, h1, h2, s.same _ _ (ho i hi g h1) h3⟩, h.inj⟩
theorem OwnO.neT {b g : Nat} {H : GHeap} {e e' : TypeId} {cs : List Value} {r : Nat → Option Addr} {xss : List (List Int)} (h : OwnO b H e r xss) (hg : H.get g = some (.row cs e' true)) (hne : (e != e') = true) : ∀ i, i < xss.length → r i ≠ some ⟨g, 0, none⟩ := fun i hi ei => by
  rcases h.row i hi with ⟨h1, _⟩ | ⟨x, h1, _, h3⟩
  · rw [h1] at ei; cases ei
  · rw [h1] at ei
    cases ei
    rw [hg] at h3
    cases h3
    simp at hne
theorem OwnO.ne {b g : Nat} {H : GHeap} {e : TypeId} {r : Nat → Option Addr} {xss : List (List Int)} (h : OwnO b H e r xss) (hg : H.next ≤ g) : ∀ i, i < xss.length → r i ≠ some ⟨g, 0, none⟩ := fun i hi ei => by
  rcases h.row i hi with ⟨h1, _⟩ | ⟨x, h1, _, h3⟩
  · rw [h1] at ei; cases ei
  · rw [h1] at ei
    cases ei
    have := GHeap.ltg h3
    omega
theorem OwnO.lt {b g : Nat} {H : GHeap} {e : TypeId} {r : Nat → Option Addr} {xss : List (List Int)} (h : OwnO b H e r xss) {i : Nat} (hi : i < xss.length) (hg : r i = some ⟨g, 0, none⟩) : g < H.next := by
  rcases h.row i hi with ⟨h1, _⟩ | ⟨x, h1, _, h3⟩
  · rw [h1] at hg; cases hg
  · rw [h1] at hg; cases hg; exact GHeap.ltg h3
theorem OwnO.app {b gi g' i : Nat} {H H1 : GHeap} {e : TypeId} {r : Nat → Option Addr} {xss : List (List Int)} {ys : List Int} (h : OwnO b H e r xss) (s : St [gi] H H1) (hi : i < xss.length) (hne : ∀ j, j < xss.length → j ≠ i → r j ≠ some ⟨gi, 0, none⟩) (hg : H1.get g' = some (.row (ints ys) e true)) (hn : H.next ≤ g') (hb : b ≤ g') :
    OwnO b H1 e (upd r i (some ⟨g', 0, none⟩)) (xss.set i ys) := by
  have lt : ∀ j, j < xss.length → ∀ g, r j = some ⟨g, 0, none⟩ → g < H.next := fun j hj g hr => h.lt hj hr
  refine ⟨fun j hj => ?_, fun j k hj hk g hrj hrk => ?_⟩
  · rw [List.length_set] at hj
    rw [getD_set2 hi]
    by_cases ej : j = i
    · subst ej
      exact .inr ⟨g', upd_eq _ _ _, hb, by rw [if_pos rfl]; exact hg⟩
    · rw [upd_ne ej, if_neg (Ne.symm ej)]
      exact (h.row j hj).imp id fun ⟨x, h1, h2, h3⟩ => ⟨x, h1, h2, s.same x _ ⟨fun ex => hne j hj ej (by rw [h1, ex]), trivial⟩ h3⟩
  · rw [List.length_set] at hj hk
    by_cases ej : j = i
    · by_cases ek : k = i
      · omega
      · rw [ej, upd_eq] at hrj
        cases hrj
        rw [upd_ne ek] at hrk
        have := lt k hk _ hrk
        omega
    · rw [upd_ne ej] at hrj
      have h1 := lt j hj _ hrj
      by_cases ek : k = i
      · rw [ek, upd_eq] at hrk
        cases hrk
        omega
      · rw [upd_ne ek] at hrk
        exact h.inj j k hj hk g hrj hrk
theorem OwnO.ints {b : Nat} {H : GHeap} {e : TypeId} {r : Nat → Option Addr} {xss : List (List Int)} (h : OwnO b H e r xss) : ∀ i, i < xss.length → Ints H (r i) (xss.getD i []) := fun i hi => by
  rcases h.row i hi with ⟨h1, h2⟩ | ⟨g, h1, _, h3⟩
  · rw [h1, h2]; exact .inl rfl
  · rw [h1]; exact Ints.of_get h3
def Apart (r : Nat → Option Addr) (n : Nat) (r' : Nat → Option Addr) (n' : Nat) : Prop := ∀ i, i < n → ∀ j, j < n' → ∀ g, r i = some ⟨g, 0, none⟩ → r' j ≠ some ⟨g, 0, none⟩
theorem Apart.zero (r r' : Nat → Option Addr) (n' : Nat) : Apart r 0 r' n' := fun i hi => by omega
theorem Apart.snoc {r r' : Nat → Option Addr} {n n' g : Nat} (h : Apart r n r' n') (hg : ∀ j, j < n' → r' j ≠ some ⟨g, 0, none⟩) : Apart (upd r n (some ⟨g, 0, none⟩)) (n + 1) r' n' := fun i hi j hj x hx => by
  by_cases e : i = n
  · rw [e, upd_eq] at hx
    cases hx
    exact hg j hj
  · rw [upd_ne e] at hx
    exact h i (by omega) j hj x hx
theorem Apart.upd {r r' : Nat → Option Addr} {n n' g k : Nat} (h : Apart r n r' n') (hg : ∀ i, i < n → r i ≠ some ⟨g, 0, none⟩) : Apart r n (upd r' k (some ⟨g, 0, none⟩)) n' := fun i hi j hj x hx hy => by
  by_cases e : j = k
  · rw [e, upd_eq] at hy
    cases hy
    exact hg i hi hx
  · rw [upd_ne e] at hy
    exact h i hi j hj x hx hy
def tkCells (aS aK aA : Option Addr) (N A : Nat) (most : Int) (a : Option Addr) (n : Nat) : List Value := [.slice aS N N, .slice aK A A, .slice aA N N, .int .i64 most, .slice a n n]
structure TkIn (T1 T2 : TypeId) (H : GHeap) (m : Prof) (p : ProfP) (aS : Option Addr) (gK gA : Nat) (ra : Nat → Option Addr) : Prop where
  inn : m.In H p
  sz : Ints H aS (m.diagL m.sz.length)
  lk : H.get gK = some (.row (m.lnkV p m.s.src.length) T1 true)
  at' : H.get gA = some (.row (slsL ra (m.atL m.sz.length m.s.src.length)) T2 true)
  rows : ∀ i, i < m.sz.length → Ints H (ra i) (m.atN i m.s.src.length)
theorem TkIn.mono {T1 T2 : TypeId} {H H' : GHeap} {m : Prof} {p : ProfP} {aS : Option Addr} {gK gA : Nat} {ra : Nat → Option Addr} (h : TkIn T1 T2 H m p aS gK gA ra) (s : H.Le H') : TkIn T1 T2 H' m p aS gK gA ra :=
  ⟨Prof.In.mono h.inn s, h.sz.mono s, s.2 _ _ h.lk, s.2 _ _ h.at', fun i hi => (h.rows i hi).mono s⟩
theorem TkIn.u3 {T1 T2 : TypeId} {H : GHeap} {m : Prof} {p : ProfP} {aS : Option Addr} {gK gA : Nat} {ra : Nat → Option Addr} (h : TkIn T1 T2 H m p aS gK gA ra) {a : Nat} (hS : m.Shape) (e : m.s = m.t) (ha : a < m.s.src.length) :
    Ints H (p.s4 a (m.s.src.getD a 0).toNat) (m.enL a) ∧ Ints H (p.s3 a (m.s.tgt.getD a 0).toNat) (m.enR a) := by
  have q := hS.en e ha
  exact ⟨(h.inn.2.2.2.2.2 a q.hh).2 _ q.hx, (h.inn.2.2.2.1.2 a q.hb).2 _ q.by'⟩
structure FoundE (T e e' : TypeId) (b : Nat) (H : GHeap) (gs gF : Nat) (aS aK aA : Option Addr) (N A M : Nat) (fs : List (List Int)) : Prop where
  ex : ∃ a r, H.get gs = some (.row (tkCells aS aK aA N A (M : Int) a fs.length) T true) ∧ SlO b H a gF (slsL r fs) e fs.length ∧ OwnL b H e' r fs
theorem FoundE.mono {T e e' : TypeId} {b gs gF : Nat} {H H' : GHeap} {aS aK aA : Option Addr} {N A M : Nat} {fs : List (List Int)} (h : FoundE T e e' b H gs gF aS aK aA N A M fs) (s : H.Le H') : FoundE T e e' b H' gs gF aS aK aA N A M fs := by
  obtain ⟨a, r, h1, h2, h3⟩ := h.ex
  exact ⟨a, r, s.2 _ _ h1, h2.mono s, h3.mono s⟩
theorem slsL_repl (N : Nat) : slsL (fun _ => none) (List.replicate N []) = List.replicate N (.slice none 0 0) := by
  unfold slsL slsOf
  refine List.eq_replicate_iff.2 ⟨by simp, fun b hb => ?_⟩
  obtain ⟨i, hi, rfl⟩ := List.mem_map.1 hb
  have e : (List.replicate N ([] : List Int)).getD i [] = [] := by rw [List.getD_eq_getElem?_getD, List.getElem?_replicate]; split <;> rfl
  show Value.slice none ((List.replicate N ([] : List Int)).getD i []).length ((List.replicate N ([] : List Int)).getD i []).length = _
  rw [e]; rfl
def topC (cls : List Int) : Nat → Int
  | 0 => 0
  | n + 1 => max (topC cls n) (cls.getD n 0 + 1)
theorem topC_bd {cls : List Int} {c : Int} (hc : 0 ≤ c) (h : ∀ i, i < cls.length → cls.getD i 0 < c) : ∀ {n}, n ≤ cls.length → 0 ≤ topC cls n ∧ topC cls n ≤ c
  | 0, _ => ⟨Int.le_refl _, hc⟩
  | n + 1, hn => by
    have h1 := topC_bd hc h (n := n) (by omega)
    have h2 := h n (by omega)
    show 0 ≤ max _ _ ∧ max _ _ ≤ c
    omega
theorem topC_pos {cls : List Int} {n : Nat} (h : 0 < topC cls n) : 0 < n := by
  cases n with
  | zero => exact absurd h (Int.lt_irrefl 0)
  | succ n => omega
theorem joinL_in {n : Nat} {ps : List (Nat × Nat)} {i : Nat} (hi : i < (joinL n ps).length) : 0 ≤ (joinL n ps).getD i 0 ∧ (joinL n ps).getD i 0 < n := by
  rw [length_joinL] at hi
  have := clsL_range (K := joinK ps) hi
  unfold joinL
  omega
theorem ints_snoc1 (xs : List Int) (k : Int) : ints (xs ++ [k]) = ints xs ++ [.int .i64 k] := by unfold ints; rw [List.map_append]; rfl
structure EnSt (b : Nat) (H : GHeap) (e : TypeId) (rr : Nat → Option Addr) (xs : List (List Int)) (ra : Nat → Option Addr) (ys : List (List Int)) : Prop where
  R : OwnL b H e rr xs
  O : OwnO b H e ra ys
  A : Apart rr xs.length ra ys.length
section
variable {b : Nat} {H H' : GHeap} {e : TypeId} {rr ra : Nat → Option Addr} {xs ys : List (List Int)}
theorem EnSt.mono (h : EnSt b H e rr xs ra ys) (s : H.Le H') : EnSt b H' e rr xs ra ys := ⟨h.R.mono s, h.O.mono s, h.A⟩
theorem EnSt.st0 {g : Nat} (h : EnSt b H e rr xs ra ys) (s : St [g] H H') (hr : ∀ i, i < xs.length → rr i ≠ some ⟨g, 0, none⟩) (ho : ∀ i, i < ys.length → ra i ≠ some ⟨g, 0, none⟩) : EnSt b H' e rr xs ra ys := ⟨h.R.st s (.cons hr (.nil _ _)), h.O.st s (.cons ho (.nil _ _)), h.A⟩
theorem EnSt.snoc {g : Nat} {x : List Int} (h : EnSt b H e rr xs ra ys) (hg : H.get g = some (.row (ints x) e true)) (hr : ∀ i, i < xs.length → rr i ≠ some ⟨g, 0, none⟩) (ho : ∀ i, i < ys.length → ra i ≠ some ⟨g, 0, none⟩) (hb : b ≤ g) : EnSt b H e (upd rr xs.length (some ⟨g, 0, none⟩)) (xs ++ [x]) ra ys :=
  ⟨h.R.snoc2 hg hr hb, h.O, by rw [List.length_append, List.length_singleton]; exact h.A.snoc ho⟩
theorem EnSt.pick {gX i : Nat} (h : EnSt b H e rr xs ra ys) (hi : i < ys.length) (hr : ∀ i, i < xs.length → rr i ≠ some ⟨gX, 0, none⟩) (ho : ∀ i, i < ys.length → ra i ≠ some ⟨gX, 0, none⟩) :
    ∃ gi, SlO b H (ra i) gi (ints (ys.getD i [])) e (ys.getD i []).length ∧ (∀ a, a < xs.length → rr a ≠ some ⟨gi, 0, none⟩) ∧ (∀ j, j < ys.length → j ≠ i → ra j ≠ some ⟨gi, 0, none⟩) ∧ (gi = gX ∨ (ra i = some ⟨gi, 0, none⟩ ∧ b ≤ gi ∧ ∃ cs, H.get gi = some (.row cs e true))) := by
  rcases h.O.row i hi with ⟨h1, h2⟩ | ⟨g, h1, h2, h3⟩
  · exact ⟨gX, .inl ⟨h1, by rw [h2]; rfl, by rw [h2]; rfl⟩, hr, fun j hj _ => ho j hj, .inl rfl⟩
  · exact ⟨g, .inr ⟨h1, h2, h3⟩, fun a ha ea => h.A a ha i hi g ea h1, fun j hj hne hr => hne (h.O.inj j i hj hi g hr h1), .inr ⟨h1, h2, _, h3⟩⟩
theorem EnSt.app {gi g' i : Nat} {z : List Int} (h : EnSt b H e rr xs ra ys) (s : St [gi] H H') (hi : i < ys.length) (hr : ∀ a, a < xs.length → rr a ≠ some ⟨gi, 0, none⟩) (hne : ∀ j, j < ys.length → j ≠ i → ra j ≠ some ⟨gi, 0, none⟩) (hg : H'.get g' = some (.row (ints z) e true)) (hn : H.next ≤ g') (hb : b ≤ g') : EnSt b H' e rr xs (upd ra i (some ⟨g', 0, none⟩)) (ys.set i z) :=
  ⟨h.R.st s (.cons hr (.nil _ _)), h.O.app s hi hne hg hn hb, by rw [List.length_set]; exact h.A.upd (h.R.ne hn)⟩
end
end Go.GL
namespace Go.Proofs.Ytdfnfdellpfjhaa
open Go Go.GL Go.RowKit Go.Proofs
theorem sl_86_Nb : sliceT Try.prog 86 = some (88, 4) := by kernel_rfl
theorem ag_88_Nb : aggT Try.prog 88 = some 4 := by kernel_rfl
theorem fo_116_0_Nb : fieldOff Try.prog 116 0 = some 0 := by kernel_rfl
theorem fo_116_2_Nb : fieldOff Try.prog 116 2 = some 2 := by kernel_rfl
theorem fo_116_1_Nb : fieldOff Try.prog 116 1 = some 1 := by kernel_rfl
theorem on_86_Nb : oneT Try.prog 86 = true := by kernel_rfl
theorem ze_88_Nb : zeroT Try.prog 88 = some ([.int .i64 0, .int .i64 0, .slice none 0 0, .slice none 0 0], 4) := by kernel_rfl
theorem sz_88_Nb : (Try.prog.info? 88).map (·.size) = some 4 := by kernel_rfl
theorem fo_88_0_Nb : fieldOff Try.prog 88 0 = some 0 := by kernel_rfl
theorem fo_88_1_Nb : fieldOff Try.prog 88 1 = some 1 := by kernel_rfl
theorem fo_88_2_Nb : fieldOff Try.prog 88 2 = some 2 := by kernel_rfl
theorem fo_88_3_Nb : fieldOff Try.prog 88 3 = some 3 := by kernel_rfl
theorem fo_116_4_Nb : fieldOff Try.prog 116 4 = some 4 := by kernel_rfl
theorem fo_116_3_Nb : fieldOff Try.prog 116 3 = some 3 := by kernel_rfl
theorem on_3_Nb : oneT Try.prog 3 = true := by kernel_rfl
set_option maxHeartbeats 4000000 in
theorem l22Choices_c {gs : Nat} {m : Prof} {p : ProfP} {aS : Option Addr} {gK gA : Nat} {ra : Nat → Option Addr} {most : Int} {af d : Option Addr} {nf x : Nat} {co : List Int} {H : GHeap} (hS : Mem H gs 0 (tkCells aS (some ⟨gK, 0, none⟩) (some ⟨gA, 0, none⟩) m.sz.length m.s.src.length most af nf)) (hT : TkIn 88 22 H m p aS gK gA ra) (hd : Ints H d co) (hP : m.Shape) (he : m.s = m.t) (hn : co.length = m.sz.length) (hx : x < m.sz.length)
    (hc : ∀ i, i < co.length → co.getD i 0 < m.diag i) :
    GCalls Try.prog 103 [.pointer (some ⟨gs, 0, none⟩), .slice d co.length co.length, .int .i64 (x : Int)] H (NewInts 2 H (m.enet.choices co x)) := by
  have hs := hP.s.1
  have n40 := hs.n40
  have hdx := hP.z.diag he (i := x) (by omega)
  have hnl : (numsL (m.diag x).toNat).length = (m.diag x).toNat := length_numsL _
  have hal := m.atN_le x m.s.src.length
  have hdl := m.length_diagL m.sz.length
  have hdg : (m.diagL m.sz.length).getD x 0 = m.diag x := Prof.diagL_get hx
  have hag : (m.atL m.sz.length m.s.src.length).getD x [] = m.atN x m.s.src.length := Prof.atL_get hx
  refine GCalls.body (N := 139) (rs := [.tmp 6]) Try.func103 rfl rfl rfl rfl (fun Qx d0 hend => ?_)
  refine .fg [0, 1, 2] rfl ?_
  have y := GHeap.Le.refl H
  have a4 := hS
  have h := hT
  have b0 := hd
  refine .seq (fun K1 e6 => .region (.mv rfl (.nil (e6 _ _ (.seq (fun K2 e9 => .region ?_))))))
  refine .R rfl (.litA rfl sl_22_A ze_2_E rfl rfl rfl rfl) ?_
  rintro _ d9 ⟨e1, rfl, d4, ge12, a6⟩
  replace y := y.trans d4
  have lt_at12 := GHeap.ltg a6
  replace a6 : GHeap.get d9 e1 = some (.row (ints []) 2 true) := a6
  refine .mv rfl (.nil (e9 _ _ (.seq (fun K3 f0 => .seq (fun K4 e7 => .region (.mv rfl (.nil (e7 _ _ ?_))))))))
  refine .block ?_
  refine .loopR (σ := Nat × Nat × Nat) [(0, some _), (1, some _), (2, some _)] (fun (j, a8, b3) => [(8, some (.int .i64 (j : Int))), (7, some (.slice (some ⟨a8, 0, none⟩) b3 b3))]) (fun (j, a8, b3) H' => St [e1] d9 H' ∧ H'.get a8 = some (.row (ints (((numsL (m.diag x).toNat).take j).filter (m.enP co x))) 2 true) ∧ (a8 = e1 ∨ d9.next ≤ a8) ∧ b3 = (((numsL (m.diag x).toNat).take j).filter (m.enP co x)).length ∧ j ≤ (m.diag x).toNat) (fun (j, a8, b3) => (m.diag x).toNat - j) ((0, _, _)) ⟨rfl, rfl, rfl, trivial⟩ ⟨rfl, rfl, trivial⟩ ?_ ?_
  ·
   refine ⟨.refl _ _, by first | assumption | exact a6 | simpa using a6, .inl rfl, by first | rfl | assumption | simp | omega, ?_⟩
   omega
  rintro ⟨j, a8, b3⟩ HL1 ⟨l, w, pl_L7, b4, hI⟩ KL1 b2
  refine .forget (fr' := [(8, some (.int .i64 (j : Int))), (7, some (.slice (some ⟨a8, 0, none⟩) b3 b3)), (0, some _), (1, some _), (2, some _)]) ⟨rfl, rfl, rfl, rfl, rfl, trivial⟩ ?_
  have ge_L7 : H.next ≤ a8 := by omega
  have nx_HL1 := l.nx
  replace y := y.st l (fun k hk => ⟨by omega, trivial⟩)
  replace hS := a4.mono y
  replace hT := h.mono y
  have z0 : GHeap.cell _ gs (0 + 0) = some (.slice aS m.sz.length m.sz.length) := hS 0 _ rfl
  have iS := hT.sz
  have iSs : SlA _ _ _ _ := iS
  rw [hdl] at iSs
  have hfl := filtTake_le (xs := numsL (m.diag x).toNat) (P := m.enP co x) (i := j)
  refine .seq (fun K5 f1 => .seq (fun K6 e8 => .region (.mv rfl (.mv rfl (.q rfl (.nilCheck rfl) (.q rfl (.fieldAddr fo_116_0_Nb rfl) ?_))))))
  refine .q rfl (.load on_22_B rfl (by assumption)) ?_
  refine .mv rfl ?_
  refine .q rfl (.idxN sl_22_A (by assumption) rfl rfl (by omega)) ?_
  refine .q rfl (.loadI on_2_A (by assumption) rfl (by omega)) ?_
  refine .q rfl (.cmp rfl rfl rfl) (.nil (e8 _ _ ?_))
  refine .cond rfl (fun d6 => ?_) (fun d6 => ?_)
  ·
   simp only [sps] at d6
   have hgj : (numsL (m.diag x).toNat).getD j 0 = (j : Int) := numsL_get (by omega)
   refine .skip ?_
   refine f1 _ _ (.seq (fun K7 c9 => ?_))
   refine .block ?_
   refine .seq (fun K8 f2 => .region (.mv rfl (.nil (f2 _ _ (.seq (fun K9 e4 => .seq (fun K10 e0 => .region (.mv rfl (.nil (e0 _ _ ?_))))))))))
   refine .block ?_
   refine .loopR (σ := Nat × Bool) [(0, some _), (1, some _), (2, some _), (7, some _), (8, some _)] (fun (i, b) => [(10, some (.int .i64 (i : Int))), (9, some (.bool b))]) (fun (i, b) H' => St [] HL1 H' ∧ i ≤ (m.atN x m.s.src.length).length ∧ b = allN i (m.enT co x (j : Int))) (fun (i, b) => (m.atN x m.s.src.length).length - i) ((0, true)) ⟨rfl, rfl, rfl, rfl, rfl, trivial⟩ ⟨rfl, rfl, trivial⟩ ?_ ?_
   ·
    refine ⟨.refl _ _, ?_⟩
    exact ⟨by omega, rfl⟩
   rintro ⟨i, b⟩ HL2 ⟨g, hI⟩ KL2 o
   refine .forget (fr' := [(10, some (.int .i64 (i : Int))), (9, some (.bool b)), (0, some _), (1, some _), (2, some _), (7, some _), (8, some _)]) ⟨rfl, rfl, rfl, rfl, rfl, rfl, rfl, trivial⟩ ?_
   have nx_HL2 := g.nx
   replace y := y.st g (fun k hk => trivial)
   replace l := l.sA g
   replace w := g.same _ _ trivial w
   replace hS := a4.mono y
   replace hT := h.mono y
   clear z0 iS iSs
   have z1 : GHeap.cell _ gs (0 + 1) = some (.slice (some ⟨gK, 0, none⟩) m.s.src.length m.s.src.length) := hS 1 _ rfl
   have z2 : GHeap.cell _ gs (0 + 2) = some (.slice (some ⟨gA, 0, none⟩) m.sz.length m.sz.length) := hS 2 _ rfl
   have hK := hT.lk
   have hA := hT.at'
   have hKs : SlA _ (some ⟨gK, 0, none⟩) (m.s.src.length * 4) _ := SlA.of_row hK (by simp)
   have iR := hT.rows x hx
   have cR := slsL_cell hA (i := x) (by simpa using hx)
   rw [hag] at cR
   obtain ⟨hi, hb⟩ := hI
   refine .seq (fun K11 e2 => .seq (fun K12 b9 => .region (.mv rfl (.mv rfl (.q rfl (.nilCheck rfl) (.q rfl (.fieldAddr fo_116_2_Nb rfl) ?_))))))
   refine .q rfl (.load on_23_B rfl (by assumption)) ?_
   refine .mv rfl ?_
   refine .q rfl (.idxN sl_23_B (SlA.of_row hA (by simp)) rfl rfl (by omega)) ?_
   refine .q rfl (.load on_22_B rfl cR) (.q rfl (.len sl_22_A rfl) (.q rfl (.cmp rfl rfl rfl) (.mv rfl ?_)))
   refine .split (fun d8 => ?_) (fun d8 => ?_)
   ·
    simp only [sps] at d8
    have hav := m.atN_lt (n := x) (k := m.s.src.length) (i := i) (by omega)
    obtain ⟨-, -, -, q4, q5, q6, q7, -, -, q10, q11, -, q13⟩ := hP.en he (a := ((m.atN x m.s.src.length).getD i 0).toNat) (by omega)
    have w3 := hc (m.s.tgt.getD ((m.atN x m.s.src.length).getD i 0).toNat 0).toNat (by omega)
    have w4 := hc (m.s.src.getD ((m.atN x m.s.src.length).getD i 0).toNat 0).toNat (by omega)
    have hml : MemN _ gK (0 + ((m.atN x m.s.src.length).getD i 0).toNat * 4) 4 (m.lnkC p ((m.atN x m.s.src.length).getD i 0).toNat) := Prof.lnkV_mem hK hav.1 hav.2
    refine .qg rfl (.move rfl) (.q rfl (.pickT rfl rfl) (.nil (b9 _ _ ?_)))
    refine .cond rfl (fun a0 => ?_) (fun a0 => ?_)
    ·
     refine .skip ?_
     refine e2 _ _ (.seq (fun K13 v => ?_))
     refine .block ?_
     refine .seq (fun K14 d2 => ?_)
     refine .regionD mo_B (.q 0 (.q 1 (.q 2 (.q 3 (.q 4 (.q 5 (.q 6 (.q 7 (.q 8 (.q 9 (.q 10 (.q 11 (.q 12 (.q 13 (.q 14 (.q 15 (.c 16 1 (.c 17 0 (.done))))))))))))))))))) (by kernel_rfl) ?_
     refine .mv rfl rfl (.q rfl (.nilCheck rfl) (.q rfl (.fieldAddr fo_116_1_Nb rfl) ?_))
     refine .q rfl (.load on_86_Nb rfl (by assumption)) ?_
     refine .mv rfl rfl (.q rfl (.nilCheck rfl) (.q rfl (.fieldAddr fo_116_2_Nb rfl) ?_))
     refine .q rfl (.load on_23_B rfl (by assumption)) ?_
     refine .mv rfl rfl ?_
     refine .q rfl (.idxN sl_23_B (SlA.of_row hA (by simp)) rfl rfl (by omega)) ?_
     refine .q rfl (.load on_22_B rfl cR) (.mv rfl rfl ?_)
     refine .q rfl (.idxN sl_22_A (by assumption) rfl rfl (by omega)) ?_
     refine .q rfl (.loadI on_2_A (by assumption) rfl (by omega)) ?_
     refine .q rfl (.idx sl_86_Nb hKs (by omega) rfl rfl (by omega) (by omega) rfl) ?_
     refine .q rfl (.loadM ag_88_Nb rfl hml) ?_
     refine .c1 rfl rfl rfl rfl (.allocR rfl ze_88_Nb rfl) ?_
     rintro _ H11 ⟨g11, rfl, b7, ge11, at11⟩
     have e5 := b7
     refine ⟨e5, ?_⟩
     replace y := y.trans b7
     replace g := g.le b7
     replace hT := h.mono y
     clear z1 z2 hK hA hKs iR cR
     clear hml
     refine .r0 rfl rfl rfl (.fillA rfl sz_88_Nb rfl rfl rfl rfl) ?_
     rintro _ H9017 ⟨rfl, a7, f⟩
     replace y := y.st a7 (fun k hk => ⟨by omega, trivial⟩)
     replace g := g.sA a7
     replace hT := h.mono y
     replace hd := b0.mono y
     obtain ⟨u1, u2⟩ := hT.u3 hP he (a := ((m.atN x m.s.src.length).getD i 0).toNat) (by omega)
     refine .done ?_
     refine d2 _ _ ?_
     refine .block ?_
     refine .seq (fun K15 c0 => .region (.q rfl (.fieldAddr fo_88_0_Nb rfl) ?_))
     refine .q rfl (.load on_2_A rfl (by first | assumption | exact Mem.of_get f 0 _ rfl)) ?_
     refine .mv rfl (.q rfl (.cmp rfl rfl rfl) (.mv rfl ?_))
     refine .split (fun d3 => ?_) (fun d3 => ?_)
     ·
      simp only [sps] at d3
      have w1 : m.diag (m.s.src.getD ((m.atN x m.s.src.length).getD i 0).toNat 0).toNat = m.diag x := by rw [show (m.s.src.getD ((m.atN x m.s.src.length).getD i 0).toNat 0).toNat = x by omega]
      refine .qg rfl (.fieldAddr fo_88_1_Nb rfl) ?_
      refine .qg rfl (.load on_2_A rfl (by first | assumption | exact Mem.of_get f 1 _ rfl)) ?_
      refine .qg rfl (.move rfl) (.qg rfl (.cmp rfl rfl rfl) (.q rfl (.pickT rfl rfl) (.mv rfl (.nil (c0 _ _ ?_)))))
      refine .cond rfl (fun e3 => ?_) (fun e3 => ?_)
      ·
       simp only [sps] at e3
       have w2 : m.diag (m.s.tgt.getD ((m.atN x m.s.src.length).getD i 0).toNat 0).toNat = m.diag x := by rw [show (m.s.tgt.getD ((m.atN x m.s.src.length).getD i 0).toNat 0).toNat = x by omega]
       refine .regionD mo_B (.q 0 (.q 1 (.q 2 (.q 3 (.q 4 (.q 5 (.q 6 (.q 7 (.q 8 (.q 9 (.q 10 (.q 11 (.done))))))))))))) (by kernel_rfl) ?_
       refine .q rfl (.fieldAddr fo_88_2_Nb rfl) ?_
       refine .q rfl (.load on_22_B rfl (by first | assumption | exact Mem.of_get f 2 _ rfl)) ?_
       refine .mv rfl rfl ?_
       refine .q rfl (.idxN sl_22_A (by assumption) rfl rfl (by omega)) ?_
       refine .q rfl (.loadI on_2_A (by assumption) rfl (by omega)) ?_
       refine .q rfl (.fieldAddr fo_88_3_Nb rfl) ?_
       refine .q rfl (.load on_22_B rfl (by first | assumption | exact Mem.of_get f 3 _ rfl)) ?_
       refine .mv rfl rfl ?_
       refine .q rfl (.idxN sl_22_A (by assumption) rfl rfl (by omega)) ?_
       refine .q rfl (.loadI on_2_A (by assumption) rfl (by omega)) ?_
       refine .q rfl (.cmp rfl rfl rfl) (.mv rfl rfl ?_)
       refine .done ?_
       refine v _ _ (.region (.mv rfl ?_))
       refine .q rfl (.add rfl rfl rfl (by omega) (by omega)) ?_
       refine .mv rfl (.nil ?_)
       refine o ((i + 1, _)) _ _ ?_ ?_ ⟨rfl, rfl, rfl, rfl, rfl, rfl, rfl, trivial⟩
       ·
        refine ⟨g, ?_⟩
        exact ⟨by omega, by
        rw [allN_succ, ← hb, a0, Bool.true_and]
        first
        | exact (Prof.lnk_1 (co := co) (n := x) (e := (j : Int)) (a := ((m.atN x m.s.src.length).getD i 0).toNat) (by assumption) (by assumption)).symm
        | exact (Prof.lnk_2 (co := co) (n := x) (e := (j : Int)) (a := ((m.atN x m.s.src.length).getD i 0).toNat) q6 (by assumption) (by assumption) (by assumption)).symm
        | exact (Prof.lnk_3 (co := co) (n := x) (e := (j : Int)) (a := ((m.atN x m.s.src.length).getD i 0).toNat) q4 (by assumption) (by assumption) (by assumption)).symm
        | exact (Prof.lnk_4 (co := co) (n := x) (e := (j : Int)) (a := ((m.atN x m.s.src.length).getD i 0).toNat) (by omega) (by omega) (by omega) (by omega) (by omega)).symm
        | (exfalso; omega)⟩
       (dsimp only; omega)
      simp only [sps] at e3
      refine .seq (fun K16 c6 => .region (.q rfl (.fieldAddr fo_88_0_Nb rfl) ?_))
      refine .q rfl (.load on_2_A rfl (by first | assumption | exact Mem.of_get f 0 _ rfl)) ?_
      refine .mv rfl (.q rfl (.cmp rfl rfl rfl) (.mv rfl ?_))
      refine .split (fun b8 => ?_) (fun b8 => ?_)
      ·
       simp only [sps] at b8
       refine .qg rfl (.move rfl) (.qg rfl (.fieldAddr fo_88_1_Nb rfl) ?_)
       refine .qg rfl (.load on_2_A rfl (by first | assumption | exact Mem.of_get f 1 _ rfl)) ?_
       refine .qg rfl (.idx1 sl_22_A (by assumption) rfl rfl (by omega) (by omega)) ?_
       refine .qg rfl (.loadI on_2_A (by assumption) rfl (by omega)) ?_
       refine .qg rfl (.cmp rfl rfl rfl) (.q rfl (.pickT rfl rfl) (.mv rfl (.nil (c6 _ _ ?_))))
       refine .cond rfl (fun b6 => ?_) (fun b6 => ?_)
       ·
        simp only [sps] at b6
        refine .regionD mo_B (.q 0 (.q 1 (.q 2 (.q 3 (.q 4 (.q 5 (.q 6 (.q 7 (.q 8 (.q 9 (.q 10 (.q 11 (.q 12 (.q 13 (.q 14 (.q 15 (.done))))))))))))))))) (by kernel_rfl) ?_
        refine .q rfl (.fieldAddr fo_88_2_Nb rfl) ?_
        refine .q rfl (.load on_22_B rfl (by first | assumption | exact Mem.of_get f 2 _ rfl)) ?_
        refine .mv rfl rfl ?_
        refine .q rfl (.idxN sl_22_A (by assumption) rfl rfl (by omega)) ?_
        refine .q rfl (.loadI on_2_A (by assumption) rfl (by omega)) ?_
        refine .q rfl (.fieldAddr fo_88_3_Nb rfl) ?_
        refine .q rfl (.load on_22_B rfl (by first | assumption | exact Mem.of_get f 3 _ rfl)) ?_
        refine .mv rfl rfl (.q rfl (.fieldAddr fo_88_1_Nb rfl) ?_)
        refine .q rfl (.load on_2_A rfl (by first | assumption | exact Mem.of_get f 1 _ rfl)) ?_
        refine .q rfl (.idx1 sl_22_A (by assumption) rfl rfl (by omega) (by omega)) ?_
        refine .q rfl (.loadI on_2_A (by assumption) rfl (by omega)) ?_
        refine .q rfl (.idx1 sl_22_A (by assumption) rfl rfl (by omega) (by omega)) ?_
        refine .q rfl (.loadI on_2_A (by assumption) rfl (by omega)) ?_
        refine .q rfl (.cmp rfl rfl rfl) (.mv rfl rfl ?_)
        refine .done ?_
        refine v _ _ (.region (.mv rfl ?_))
        refine .q rfl (.add rfl rfl rfl (by omega) (by omega)) ?_
        refine .mv rfl (.nil ?_)
        refine o ((i + 1, _)) _ _ ?_ ?_ ⟨rfl, rfl, rfl, rfl, rfl, rfl, rfl, trivial⟩
        ·
         refine ⟨g, ?_⟩
         exact ⟨by omega, by
         rw [allN_succ, ← hb, a0, Bool.true_and]
         first
         | exact (Prof.lnk_1 (co := co) (n := x) (e := (j : Int)) (a := ((m.atN x m.s.src.length).getD i 0).toNat) (by assumption) (by assumption)).symm
         | exact (Prof.lnk_2 (co := co) (n := x) (e := (j : Int)) (a := ((m.atN x m.s.src.length).getD i 0).toNat) q6 (by assumption) (by assumption) (by assumption)).symm
         | exact (Prof.lnk_3 (co := co) (n := x) (e := (j : Int)) (a := ((m.atN x m.s.src.length).getD i 0).toNat) q4 (by assumption) (by assumption) (by assumption)).symm
         | exact (Prof.lnk_4 (co := co) (n := x) (e := (j : Int)) (a := ((m.atN x m.s.src.length).getD i 0).toNat) (by omega) (by omega) (by omega) (by omega) (by omega)).symm
         | (exfalso; omega)⟩
        (dsimp only; omega)
       simp only [sps] at b6
       refine .seq (fun K17 c2 => .region (.q rfl (.fieldAddr fo_88_1_Nb rfl) ?_))
       refine .q rfl (.load on_2_A rfl (by first | assumption | exact Mem.of_get f 1 _ rfl)) ?_
       refine .mv rfl (.q rfl (.cmp rfl rfl rfl) (.mv rfl ?_))
       refine .split (fun u => ?_) (fun u => ?_)
       ·
        simp only [sps] at u
        have w2 : m.diag (m.s.tgt.getD ((m.atN x m.s.src.length).getD i 0).toNat 0).toNat = m.diag x := by rw [show (m.s.tgt.getD ((m.atN x m.s.src.length).getD i 0).toNat 0).toNat = x by omega]
        refine .qg rfl (.move rfl) (.qg rfl (.fieldAddr fo_88_0_Nb rfl) ?_)
        refine .qg rfl (.load on_2_A rfl (by first | assumption | exact Mem.of_get f 0 _ rfl)) ?_
        refine .qg rfl (.idx1 sl_22_A (by assumption) rfl rfl (by omega) (by omega)) ?_
        refine .qg rfl (.loadI on_2_A (by assumption) rfl (by omega)) ?_
        refine .qg rfl (.cmp rfl rfl rfl) (.q rfl (.pickT rfl rfl) (.mv rfl (.nil (c2 _ _ ?_))))
        refine .cond rfl (fun r => ?_) (fun r => ?_)
        ·
         simp only [sps] at r
         refine .regionD mo_B (.q 0 (.q 1 (.q 2 (.q 3 (.q 4 (.q 5 (.q 6 (.q 7 (.q 8 (.q 9 (.q 10 (.q 11 (.q 12 (.q 13 (.q 14 (.q 15 (.done))))))))))))))))) (by kernel_rfl) ?_
         refine .q rfl (.fieldAddr fo_88_2_Nb rfl) ?_
         refine .q rfl (.load on_22_B rfl (by first | assumption | exact Mem.of_get f 2 _ rfl)) ?_
         refine .mv rfl rfl (.q rfl (.fieldAddr fo_88_0_Nb rfl) ?_)
         refine .q rfl (.load on_2_A rfl (by first | assumption | exact Mem.of_get f 0 _ rfl)) ?_
         refine .q rfl (.idx1 sl_22_A (by assumption) rfl rfl (by omega) (by omega)) ?_
         refine .q rfl (.loadI on_2_A (by assumption) rfl (by omega)) ?_
         refine .q rfl (.idx1 sl_22_A (by assumption) rfl rfl (by omega) (by omega)) ?_
         refine .q rfl (.loadI on_2_A (by assumption) rfl (by omega)) ?_
         refine .q rfl (.fieldAddr fo_88_3_Nb rfl) ?_
         refine .q rfl (.load on_22_B rfl (by first | assumption | exact Mem.of_get f 3 _ rfl)) ?_
         refine .mv rfl rfl ?_
         refine .q rfl (.idxN sl_22_A (by assumption) rfl rfl (by omega)) ?_
         refine .q rfl (.loadI on_2_A (by assumption) rfl (by omega)) ?_
         refine .q rfl (.cmp rfl rfl rfl) (.mv rfl rfl ?_)
         refine .done ?_
         refine v _ _ (.region (.mv rfl ?_))
         refine .q rfl (.add rfl rfl rfl (by omega) (by omega)) ?_
         refine .mv rfl (.nil ?_)
         refine o ((i + 1, _)) _ _ ?_ ?_ ⟨rfl, rfl, rfl, rfl, rfl, rfl, rfl, trivial⟩
         ·
          refine ⟨g, ?_⟩
          exact ⟨by omega, by
          rw [allN_succ, ← hb, a0, Bool.true_and]
          first
          | exact (Prof.lnk_1 (co := co) (n := x) (e := (j : Int)) (a := ((m.atN x m.s.src.length).getD i 0).toNat) (by assumption) (by assumption)).symm
          | exact (Prof.lnk_2 (co := co) (n := x) (e := (j : Int)) (a := ((m.atN x m.s.src.length).getD i 0).toNat) q6 (by assumption) (by assumption) (by assumption)).symm
          | exact (Prof.lnk_3 (co := co) (n := x) (e := (j : Int)) (a := ((m.atN x m.s.src.length).getD i 0).toNat) q4 (by assumption) (by assumption) (by assumption)).symm
          | exact (Prof.lnk_4 (co := co) (n := x) (e := (j : Int)) (a := ((m.atN x m.s.src.length).getD i 0).toNat) (by omega) (by omega) (by omega) (by omega) (by omega)).symm
          | (exfalso; omega)⟩
         (dsimp only; omega)
        simp only [sps] at r
        refine .skip ?_
        refine v _ _ (.region (.mv rfl ?_))
        refine .q rfl (.add rfl rfl rfl (by omega) (by omega)) ?_
        refine .mv rfl (.nil ?_)
        refine o ((i + 1, _)) _ _ ?_ ?_ ⟨rfl, rfl, rfl, rfl, rfl, rfl, rfl, trivial⟩
        ·
         refine ⟨g, ?_⟩
         exact ⟨by omega, by
         rw [allN_succ, ← hb, a0, Bool.true_and]
         first
         | exact (Prof.lnk_1 (co := co) (n := x) (e := (j : Int)) (a := ((m.atN x m.s.src.length).getD i 0).toNat) (by assumption) (by assumption)).symm
         | exact (Prof.lnk_2 (co := co) (n := x) (e := (j : Int)) (a := ((m.atN x m.s.src.length).getD i 0).toNat) q6 (by assumption) (by assumption) (by assumption)).symm
         | exact (Prof.lnk_3 (co := co) (n := x) (e := (j : Int)) (a := ((m.atN x m.s.src.length).getD i 0).toNat) q4 (by assumption) (by assumption) (by assumption)).symm
         | exact (Prof.lnk_4 (co := co) (n := x) (e := (j : Int)) (a := ((m.atN x m.s.src.length).getD i 0).toNat) (by omega) (by omega) (by omega) (by omega) (by omega)).symm
         | (exfalso; omega)⟩
        (dsimp only; omega)
       simp only [sps] at u
       refine .z rfl (.z rfl (.z rfl (.z rfl (.z rfl (.z rfl (.q rfl (.pickF rfl rfl) (.mv rfl (.nil (c2 _ _ ?_)))))))))
       refine .condF rfl ?_
       refine .skip ?_
       refine v _ _ (.region (.mv rfl ?_))
       refine .q rfl (.add rfl rfl rfl (by omega) (by omega)) ?_
       refine .mv rfl (.nil ?_)
       refine o ((i + 1, _)) _ _ ?_ ?_ ⟨rfl, rfl, rfl, rfl, rfl, rfl, rfl, trivial⟩
       ·
        refine ⟨g, ?_⟩
        exact ⟨by omega, by
        rw [allN_succ, ← hb, a0, Bool.true_and]
        first
        | exact (Prof.lnk_1 (co := co) (n := x) (e := (j : Int)) (a := ((m.atN x m.s.src.length).getD i 0).toNat) (by assumption) (by assumption)).symm
        | exact (Prof.lnk_2 (co := co) (n := x) (e := (j : Int)) (a := ((m.atN x m.s.src.length).getD i 0).toNat) q6 (by assumption) (by assumption) (by assumption)).symm
        | exact (Prof.lnk_3 (co := co) (n := x) (e := (j : Int)) (a := ((m.atN x m.s.src.length).getD i 0).toNat) q4 (by assumption) (by assumption) (by assumption)).symm
        | exact (Prof.lnk_4 (co := co) (n := x) (e := (j : Int)) (a := ((m.atN x m.s.src.length).getD i 0).toNat) (by omega) (by omega) (by omega) (by omega) (by omega)).symm
        | (exfalso; omega)⟩
       (dsimp only; omega)
      simp only [sps] at b8
      refine .z rfl (.z rfl (.z rfl (.z rfl (.z rfl (.z rfl (.q rfl (.pickF rfl rfl) (.mv rfl (.nil (c6 _ _ ?_)))))))))
      refine .condF rfl ?_
      refine .seq (fun K18 c5 => .region (.q rfl (.fieldAddr fo_88_1_Nb rfl) ?_))
      refine .q rfl (.load on_2_A rfl (by first | assumption | exact Mem.of_get f 1 _ rfl)) ?_
      refine .mv rfl (.q rfl (.cmp rfl rfl rfl) (.mv rfl ?_))
      refine .split (fun u => ?_) (fun u => ?_)
      ·
       simp only [sps] at u
       have w2 : m.diag (m.s.tgt.getD ((m.atN x m.s.src.length).getD i 0).toNat 0).toNat = m.diag x := by rw [show (m.s.tgt.getD ((m.atN x m.s.src.length).getD i 0).toNat 0).toNat = x by omega]
       refine .qg rfl (.move rfl) (.qg rfl (.fieldAddr fo_88_0_Nb rfl) ?_)
       refine .qg rfl (.load on_2_A rfl (by first | assumption | exact Mem.of_get f 0 _ rfl)) ?_
       refine .qg rfl (.idx1 sl_22_A (by assumption) rfl rfl (by omega) (by omega)) ?_
       refine .qg rfl (.loadI on_2_A (by assumption) rfl (by omega)) ?_
       refine .qg rfl (.cmp rfl rfl rfl) (.q rfl (.pickT rfl rfl) (.mv rfl (.nil (c5 _ _ ?_))))
       refine .cond rfl (fun r => ?_) (fun r => ?_)
       ·
        simp only [sps] at r
        refine .regionD mo_B (.q 0 (.q 1 (.q 2 (.q 3 (.q 4 (.q 5 (.q 6 (.q 7 (.q 8 (.q 9 (.q 10 (.q 11 (.q 12 (.q 13 (.q 14 (.q 15 (.done))))))))))))))))) (by kernel_rfl) ?_
        refine .q rfl (.fieldAddr fo_88_2_Nb rfl) ?_
        refine .q rfl (.load on_22_B rfl (by first | assumption | exact Mem.of_get f 2 _ rfl)) ?_
        refine .mv rfl rfl (.q rfl (.fieldAddr fo_88_0_Nb rfl) ?_)
        refine .q rfl (.load on_2_A rfl (by first | assumption | exact Mem.of_get f 0 _ rfl)) ?_
        refine .q rfl (.idx1 sl_22_A (by assumption) rfl rfl (by omega) (by omega)) ?_
        refine .q rfl (.loadI on_2_A (by assumption) rfl (by omega)) ?_
        refine .q rfl (.idx1 sl_22_A (by assumption) rfl rfl (by omega) (by omega)) ?_
        refine .q rfl (.loadI on_2_A (by assumption) rfl (by omega)) ?_
        refine .q rfl (.fieldAddr fo_88_3_Nb rfl) ?_
        refine .q rfl (.load on_22_B rfl (by first | assumption | exact Mem.of_get f 3 _ rfl)) ?_
        refine .mv rfl rfl ?_
        refine .q rfl (.idxN sl_22_A (by assumption) rfl rfl (by omega)) ?_
        refine .q rfl (.loadI on_2_A (by assumption) rfl (by omega)) ?_
        refine .q rfl (.cmp rfl rfl rfl) (.mv rfl rfl ?_)
        refine .done ?_
        refine v _ _ (.region (.mv rfl ?_))
        refine .q rfl (.add rfl rfl rfl (by omega) (by omega)) ?_
        refine .mv rfl (.nil ?_)
        refine o ((i + 1, _)) _ _ ?_ ?_ ⟨rfl, rfl, rfl, rfl, rfl, rfl, rfl, trivial⟩
        ·
         refine ⟨g, ?_⟩
         exact ⟨by omega, by
         rw [allN_succ, ← hb, a0, Bool.true_and]
         first
         | exact (Prof.lnk_1 (co := co) (n := x) (e := (j : Int)) (a := ((m.atN x m.s.src.length).getD i 0).toNat) (by assumption) (by assumption)).symm
         | exact (Prof.lnk_2 (co := co) (n := x) (e := (j : Int)) (a := ((m.atN x m.s.src.length).getD i 0).toNat) q6 (by assumption) (by assumption) (by assumption)).symm
         | exact (Prof.lnk_3 (co := co) (n := x) (e := (j : Int)) (a := ((m.atN x m.s.src.length).getD i 0).toNat) q4 (by assumption) (by assumption) (by assumption)).symm
         | exact (Prof.lnk_4 (co := co) (n := x) (e := (j : Int)) (a := ((m.atN x m.s.src.length).getD i 0).toNat) (by omega) (by omega) (by omega) (by omega) (by omega)).symm
         | (exfalso; omega)⟩
        (dsimp only; omega)
       simp only [sps] at r
       refine .skip ?_
       refine v _ _ (.region (.mv rfl ?_))
       refine .q rfl (.add rfl rfl rfl (by omega) (by omega)) ?_
       refine .mv rfl (.nil ?_)
       refine o ((i + 1, _)) _ _ ?_ ?_ ⟨rfl, rfl, rfl, rfl, rfl, rfl, rfl, trivial⟩
       ·
        refine ⟨g, ?_⟩
        exact ⟨by omega, by
        rw [allN_succ, ← hb, a0, Bool.true_and]
        first
        | exact (Prof.lnk_1 (co := co) (n := x) (e := (j : Int)) (a := ((m.atN x m.s.src.length).getD i 0).toNat) (by assumption) (by assumption)).symm
        | exact (Prof.lnk_2 (co := co) (n := x) (e := (j : Int)) (a := ((m.atN x m.s.src.length).getD i 0).toNat) q6 (by assumption) (by assumption) (by assumption)).symm
        | exact (Prof.lnk_3 (co := co) (n := x) (e := (j : Int)) (a := ((m.atN x m.s.src.length).getD i 0).toNat) q4 (by assumption) (by assumption) (by assumption)).symm
        | exact (Prof.lnk_4 (co := co) (n := x) (e := (j : Int)) (a := ((m.atN x m.s.src.length).getD i 0).toNat) (by omega) (by omega) (by omega) (by omega) (by omega)).symm
        | (exfalso; omega)⟩
       (dsimp only; omega)
      simp only [sps] at u
      refine .z rfl (.z rfl (.z rfl (.z rfl (.z rfl (.z rfl (.q rfl (.pickF rfl rfl) (.mv rfl (.nil (c5 _ _ ?_)))))))))
      refine .condF rfl ?_
      refine .skip ?_
      refine v _ _ (.region (.mv rfl ?_))
      refine .q rfl (.add rfl rfl rfl (by omega) (by omega)) ?_
      refine .mv rfl (.nil ?_)
      refine o ((i + 1, _)) _ _ ?_ ?_ ⟨rfl, rfl, rfl, rfl, rfl, rfl, rfl, trivial⟩
      ·
       refine ⟨g, ?_⟩
       exact ⟨by omega, by
       rw [allN_succ, ← hb, a0, Bool.true_and]
       first
       | exact (Prof.lnk_1 (co := co) (n := x) (e := (j : Int)) (a := ((m.atN x m.s.src.length).getD i 0).toNat) (by assumption) (by assumption)).symm
       | exact (Prof.lnk_2 (co := co) (n := x) (e := (j : Int)) (a := ((m.atN x m.s.src.length).getD i 0).toNat) q6 (by assumption) (by assumption) (by assumption)).symm
       | exact (Prof.lnk_3 (co := co) (n := x) (e := (j : Int)) (a := ((m.atN x m.s.src.length).getD i 0).toNat) q4 (by assumption) (by assumption) (by assumption)).symm
       | exact (Prof.lnk_4 (co := co) (n := x) (e := (j : Int)) (a := ((m.atN x m.s.src.length).getD i 0).toNat) (by omega) (by omega) (by omega) (by omega) (by omega)).symm
       | (exfalso; omega)⟩
      (dsimp only; omega)
     simp only [sps] at d3
     refine .z rfl (.z rfl (.z rfl (.z rfl (.q rfl (.pickF rfl rfl) (.mv rfl (.nil (c0 _ _ ?_)))))))
     refine .condF rfl ?_
     refine .seq (fun K19 c8 => .region (.q rfl (.fieldAddr fo_88_0_Nb rfl) ?_))
     refine .q rfl (.load on_2_A rfl (by first | assumption | exact Mem.of_get f 0 _ rfl)) ?_
     refine .mv rfl (.q rfl (.cmp rfl rfl rfl) (.mv rfl ?_))
     refine .split (fun b8 => ?_) (fun b8 => ?_)
     ·
      simp only [sps] at b8
      refine .qg rfl (.move rfl) (.qg rfl (.fieldAddr fo_88_1_Nb rfl) ?_)
      refine .qg rfl (.load on_2_A rfl (by first | assumption | exact Mem.of_get f 1 _ rfl)) ?_
      refine .qg rfl (.idx1 sl_22_A (by assumption) rfl rfl (by omega) (by omega)) ?_
      refine .qg rfl (.loadI on_2_A (by assumption) rfl (by omega)) ?_
      refine .qg rfl (.cmp rfl rfl rfl) (.q rfl (.pickT rfl rfl) (.mv rfl (.nil (c8 _ _ ?_))))
      refine .cond rfl (fun b6 => ?_) (fun b6 => ?_)
      ·
       simp only [sps] at b6
       refine .regionD mo_B (.q 0 (.q 1 (.q 2 (.q 3 (.q 4 (.q 5 (.q 6 (.q 7 (.q 8 (.q 9 (.q 10 (.q 11 (.q 12 (.q 13 (.q 14 (.q 15 (.done))))))))))))))))) (by kernel_rfl) ?_
       refine .q rfl (.fieldAddr fo_88_2_Nb rfl) ?_
       refine .q rfl (.load on_22_B rfl (by first | assumption | exact Mem.of_get f 2 _ rfl)) ?_
       refine .mv rfl rfl ?_
       refine .q rfl (.idxN sl_22_A (by assumption) rfl rfl (by omega)) ?_
       refine .q rfl (.loadI on_2_A (by assumption) rfl (by omega)) ?_
       refine .q rfl (.fieldAddr fo_88_3_Nb rfl) ?_
       refine .q rfl (.load on_22_B rfl (by first | assumption | exact Mem.of_get f 3 _ rfl)) ?_
       refine .mv rfl rfl (.q rfl (.fieldAddr fo_88_1_Nb rfl) ?_)
       refine .q rfl (.load on_2_A rfl (by first | assumption | exact Mem.of_get f 1 _ rfl)) ?_
       refine .q rfl (.idx1 sl_22_A (by assumption) rfl rfl (by omega) (by omega)) ?_
       refine .q rfl (.loadI on_2_A (by assumption) rfl (by omega)) ?_
       refine .q rfl (.idx1 sl_22_A (by assumption) rfl rfl (by omega) (by omega)) ?_
       refine .q rfl (.loadI on_2_A (by assumption) rfl (by omega)) ?_
       refine .q rfl (.cmp rfl rfl rfl) (.mv rfl rfl ?_)
       refine .done ?_
       refine v _ _ (.region (.mv rfl ?_))
       refine .q rfl (.add rfl rfl rfl (by omega) (by omega)) ?_
       refine .mv rfl (.nil ?_)
       refine o ((i + 1, _)) _ _ ?_ ?_ ⟨rfl, rfl, rfl, rfl, rfl, rfl, rfl, trivial⟩
       ·
        refine ⟨g, ?_⟩
        exact ⟨by omega, by
        rw [allN_succ, ← hb, a0, Bool.true_and]
        first
        | exact (Prof.lnk_1 (co := co) (n := x) (e := (j : Int)) (a := ((m.atN x m.s.src.length).getD i 0).toNat) (by assumption) (by assumption)).symm
        | exact (Prof.lnk_2 (co := co) (n := x) (e := (j : Int)) (a := ((m.atN x m.s.src.length).getD i 0).toNat) q6 (by assumption) (by assumption) (by assumption)).symm
        | exact (Prof.lnk_3 (co := co) (n := x) (e := (j : Int)) (a := ((m.atN x m.s.src.length).getD i 0).toNat) q4 (by assumption) (by assumption) (by assumption)).symm
        | exact (Prof.lnk_4 (co := co) (n := x) (e := (j : Int)) (a := ((m.atN x m.s.src.length).getD i 0).toNat) (by omega) (by omega) (by omega) (by omega) (by omega)).symm
        | (exfalso; omega)⟩
       (dsimp only; omega)
      simp only [sps] at b6
      refine .seq (fun K20 c4 => .region (.q rfl (.fieldAddr fo_88_1_Nb rfl) ?_))
      refine .q rfl (.load on_2_A rfl (by first | assumption | exact Mem.of_get f 1 _ rfl)) ?_
      refine .mv rfl (.q rfl (.cmp rfl rfl rfl) (.mv rfl ?_))
      refine .split (fun u => ?_) (fun u => ?_)
      ·
       simp only [sps] at u
       have w2 : m.diag (m.s.tgt.getD ((m.atN x m.s.src.length).getD i 0).toNat 0).toNat = m.diag x := by rw [show (m.s.tgt.getD ((m.atN x m.s.src.length).getD i 0).toNat 0).toNat = x by omega]
       refine .qg rfl (.move rfl) (.qg rfl (.fieldAddr fo_88_0_Nb rfl) ?_)
       refine .qg rfl (.load on_2_A rfl (by first | assumption | exact Mem.of_get f 0 _ rfl)) ?_
       refine .qg rfl (.idx1 sl_22_A (by assumption) rfl rfl (by omega) (by omega)) ?_
       refine .qg rfl (.loadI on_2_A (by assumption) rfl (by omega)) ?_
       refine .qg rfl (.cmp rfl rfl rfl) (.q rfl (.pickT rfl rfl) (.mv rfl (.nil (c4 _ _ ?_))))
       refine .cond rfl (fun r => ?_) (fun r => ?_)
       ·
        simp only [sps] at r
        refine .regionD mo_B (.q 0 (.q 1 (.q 2 (.q 3 (.q 4 (.q 5 (.q 6 (.q 7 (.q 8 (.q 9 (.q 10 (.q 11 (.q 12 (.q 13 (.q 14 (.q 15 (.done))))))))))))))))) (by kernel_rfl) ?_
        refine .q rfl (.fieldAddr fo_88_2_Nb rfl) ?_
        refine .q rfl (.load on_22_B rfl (by first | assumption | exact Mem.of_get f 2 _ rfl)) ?_
        refine .mv rfl rfl (.q rfl (.fieldAddr fo_88_0_Nb rfl) ?_)
        refine .q rfl (.load on_2_A rfl (by first | assumption | exact Mem.of_get f 0 _ rfl)) ?_
        refine .q rfl (.idx1 sl_22_A (by assumption) rfl rfl (by omega) (by omega)) ?_
        refine .q rfl (.loadI on_2_A (by assumption) rfl (by omega)) ?_
        refine .q rfl (.idx1 sl_22_A (by assumption) rfl rfl (by omega) (by omega)) ?_
        refine .q rfl (.loadI on_2_A (by assumption) rfl (by omega)) ?_
        refine .q rfl (.fieldAddr fo_88_3_Nb rfl) ?_
        refine .q rfl (.load on_22_B rfl (by first | assumption | exact Mem.of_get f 3 _ rfl)) ?_
        refine .mv rfl rfl ?_
        refine .q rfl (.idxN sl_22_A (by assumption) rfl rfl (by omega)) ?_
        refine .q rfl (.loadI on_2_A (by assumption) rfl (by omega)) ?_
        refine .q rfl (.cmp rfl rfl rfl) (.mv rfl rfl ?_)
        refine .done ?_
        refine v _ _ (.region (.mv rfl ?_))
        refine .q rfl (.add rfl rfl rfl (by omega) (by omega)) ?_
        refine .mv rfl (.nil ?_)
        refine o ((i + 1, _)) _ _ ?_ ?_ ⟨rfl, rfl, rfl, rfl, rfl, rfl, rfl, trivial⟩
        ·
         refine ⟨g, ?_⟩
         exact ⟨by omega, by
         rw [allN_succ, ← hb, a0, Bool.true_and]
         first
         | exact (Prof.lnk_1 (co := co) (n := x) (e := (j : Int)) (a := ((m.atN x m.s.src.length).getD i 0).toNat) (by assumption) (by assumption)).symm
         | exact (Prof.lnk_2 (co := co) (n := x) (e := (j : Int)) (a := ((m.atN x m.s.src.length).getD i 0).toNat) q6 (by assumption) (by assumption) (by assumption)).symm
         | exact (Prof.lnk_3 (co := co) (n := x) (e := (j : Int)) (a := ((m.atN x m.s.src.length).getD i 0).toNat) q4 (by assumption) (by assumption) (by assumption)).symm
         | exact (Prof.lnk_4 (co := co) (n := x) (e := (j : Int)) (a := ((m.atN x m.s.src.length).getD i 0).toNat) (by omega) (by omega) (by omega) (by omega) (by omega)).symm
         | (exfalso; omega)⟩
        (dsimp only; omega)
       simp only [sps] at r
       refine .skip ?_
       refine v _ _ (.region (.mv rfl ?_))
       refine .q rfl (.add rfl rfl rfl (by omega) (by omega)) ?_
       refine .mv rfl (.nil ?_)
       refine o ((i + 1, _)) _ _ ?_ ?_ ⟨rfl, rfl, rfl, rfl, rfl, rfl, rfl, trivial⟩
       ·
        refine ⟨g, ?_⟩
        exact ⟨by omega, by
        rw [allN_succ, ← hb, a0, Bool.true_and]
        first
        | exact (Prof.lnk_1 (co := co) (n := x) (e := (j : Int)) (a := ((m.atN x m.s.src.length).getD i 0).toNat) (by assumption) (by assumption)).symm
        | exact (Prof.lnk_2 (co := co) (n := x) (e := (j : Int)) (a := ((m.atN x m.s.src.length).getD i 0).toNat) q6 (by assumption) (by assumption) (by assumption)).symm
        | exact (Prof.lnk_3 (co := co) (n := x) (e := (j : Int)) (a := ((m.atN x m.s.src.length).getD i 0).toNat) q4 (by assumption) (by assumption) (by assumption)).symm
        | exact (Prof.lnk_4 (co := co) (n := x) (e := (j : Int)) (a := ((m.atN x m.s.src.length).getD i 0).toNat) (by omega) (by omega) (by omega) (by omega) (by omega)).symm
        | (exfalso; omega)⟩
       (dsimp only; omega)
      simp only [sps] at u
      refine .z rfl (.z rfl (.z rfl (.z rfl (.z rfl (.z rfl (.q rfl (.pickF rfl rfl) (.mv rfl (.nil (c4 _ _ ?_)))))))))
      refine .condF rfl ?_
      refine .skip ?_
      refine v _ _ (.region (.mv rfl ?_))
      refine .q rfl (.add rfl rfl rfl (by omega) (by omega)) ?_
      refine .mv rfl (.nil ?_)
      refine o ((i + 1, _)) _ _ ?_ ?_ ⟨rfl, rfl, rfl, rfl, rfl, rfl, rfl, trivial⟩
      ·
       refine ⟨g, ?_⟩
       exact ⟨by omega, by
       rw [allN_succ, ← hb, a0, Bool.true_and]
       first
       | exact (Prof.lnk_1 (co := co) (n := x) (e := (j : Int)) (a := ((m.atN x m.s.src.length).getD i 0).toNat) (by assumption) (by assumption)).symm
       | exact (Prof.lnk_2 (co := co) (n := x) (e := (j : Int)) (a := ((m.atN x m.s.src.length).getD i 0).toNat) q6 (by assumption) (by assumption) (by assumption)).symm
       | exact (Prof.lnk_3 (co := co) (n := x) (e := (j : Int)) (a := ((m.atN x m.s.src.length).getD i 0).toNat) q4 (by assumption) (by assumption) (by assumption)).symm
       | exact (Prof.lnk_4 (co := co) (n := x) (e := (j : Int)) (a := ((m.atN x m.s.src.length).getD i 0).toNat) (by omega) (by omega) (by omega) (by omega) (by omega)).symm
       | (exfalso; omega)⟩
      (dsimp only; omega)
     simp only [sps] at b8
     refine .z rfl (.z rfl (.z rfl (.z rfl (.z rfl (.z rfl (.q rfl (.pickF rfl rfl) (.mv rfl (.nil (c8 _ _ ?_)))))))))
     refine .condF rfl ?_
     refine .seq (fun K21 c7 => .region (.q rfl (.fieldAddr fo_88_1_Nb rfl) ?_))
     refine .q rfl (.load on_2_A rfl (by first | assumption | exact Mem.of_get f 1 _ rfl)) ?_
     refine .mv rfl (.q rfl (.cmp rfl rfl rfl) (.mv rfl ?_))
     refine .split (fun u => ?_) (fun u => ?_)
     ·
      simp only [sps] at u
      have w2 : m.diag (m.s.tgt.getD ((m.atN x m.s.src.length).getD i 0).toNat 0).toNat = m.diag x := by rw [show (m.s.tgt.getD ((m.atN x m.s.src.length).getD i 0).toNat 0).toNat = x by omega]
      refine .qg rfl (.move rfl) (.qg rfl (.fieldAddr fo_88_0_Nb rfl) ?_)
      refine .qg rfl (.load on_2_A rfl (by first | assumption | exact Mem.of_get f 0 _ rfl)) ?_
      refine .qg rfl (.idx1 sl_22_A (by assumption) rfl rfl (by omega) (by omega)) ?_
      refine .qg rfl (.loadI on_2_A (by assumption) rfl (by omega)) ?_
      refine .qg rfl (.cmp rfl rfl rfl) (.q rfl (.pickT rfl rfl) (.mv rfl (.nil (c7 _ _ ?_))))
      refine .cond rfl (fun r => ?_) (fun r => ?_)
      ·
       simp only [sps] at r
       refine .regionD mo_B (.q 0 (.q 1 (.q 2 (.q 3 (.q 4 (.q 5 (.q 6 (.q 7 (.q 8 (.q 9 (.q 10 (.q 11 (.q 12 (.q 13 (.q 14 (.q 15 (.done))))))))))))))))) (by kernel_rfl) ?_
       refine .q rfl (.fieldAddr fo_88_2_Nb rfl) ?_
       refine .q rfl (.load on_22_B rfl (by first | assumption | exact Mem.of_get f 2 _ rfl)) ?_
       refine .mv rfl rfl (.q rfl (.fieldAddr fo_88_0_Nb rfl) ?_)
       refine .q rfl (.load on_2_A rfl (by first | assumption | exact Mem.of_get f 0 _ rfl)) ?_
       refine .q rfl (.idx1 sl_22_A (by assumption) rfl rfl (by omega) (by omega)) ?_
       refine .q rfl (.loadI on_2_A (by assumption) rfl (by omega)) ?_
       refine .q rfl (.idx1 sl_22_A (by assumption) rfl rfl (by omega) (by omega)) ?_
       refine .q rfl (.loadI on_2_A (by assumption) rfl (by omega)) ?_
       refine .q rfl (.fieldAddr fo_88_3_Nb rfl) ?_
       refine .q rfl (.load on_22_B rfl (by first | assumption | exact Mem.of_get f 3 _ rfl)) ?_
       refine .mv rfl rfl ?_
       refine .q rfl (.idxN sl_22_A (by assumption) rfl rfl (by omega)) ?_
       refine .q rfl (.loadI on_2_A (by assumption) rfl (by omega)) ?_
       refine .q rfl (.cmp rfl rfl rfl) (.mv rfl rfl ?_)
       refine .done ?_
       refine v _ _ (.region (.mv rfl ?_))
       refine .q rfl (.add rfl rfl rfl (by omega) (by omega)) ?_
       refine .mv rfl (.nil ?_)
       refine o ((i + 1, _)) _ _ ?_ ?_ ⟨rfl, rfl, rfl, rfl, rfl, rfl, rfl, trivial⟩
       ·
        refine ⟨g, ?_⟩
        exact ⟨by omega, by
        rw [allN_succ, ← hb, a0, Bool.true_and]
        first
        | exact (Prof.lnk_1 (co := co) (n := x) (e := (j : Int)) (a := ((m.atN x m.s.src.length).getD i 0).toNat) (by assumption) (by assumption)).symm
        | exact (Prof.lnk_2 (co := co) (n := x) (e := (j : Int)) (a := ((m.atN x m.s.src.length).getD i 0).toNat) q6 (by assumption) (by assumption) (by assumption)).symm
        | exact (Prof.lnk_3 (co := co) (n := x) (e := (j : Int)) (a := ((m.atN x m.s.src.length).getD i 0).toNat) q4 (by assumption) (by assumption) (by assumption)).symm
        | exact (Prof.lnk_4 (co := co) (n := x) (e := (j : Int)) (a := ((m.atN x m.s.src.length).getD i 0).toNat) (by omega) (by omega) (by omega) (by omega) (by omega)).symm
        | (exfalso; omega)⟩
       (dsimp only; omega)
      simp only [sps] at r
      refine .skip ?_
      refine v _ _ (.region (.mv rfl ?_))
      refine .q rfl (.add rfl rfl rfl (by omega) (by omega)) ?_
      refine .mv rfl (.nil ?_)
      refine o ((i + 1, _)) _ _ ?_ ?_ ⟨rfl, rfl, rfl, rfl, rfl, rfl, rfl, trivial⟩
      ·
       refine ⟨g, ?_⟩
       exact ⟨by omega, by
       rw [allN_succ, ← hb, a0, Bool.true_and]
       first
       | exact (Prof.lnk_1 (co := co) (n := x) (e := (j : Int)) (a := ((m.atN x m.s.src.length).getD i 0).toNat) (by assumption) (by assumption)).symm
       | exact (Prof.lnk_2 (co := co) (n := x) (e := (j : Int)) (a := ((m.atN x m.s.src.length).getD i 0).toNat) q6 (by assumption) (by assumption) (by assumption)).symm
       | exact (Prof.lnk_3 (co := co) (n := x) (e := (j : Int)) (a := ((m.atN x m.s.src.length).getD i 0).toNat) q4 (by assumption) (by assumption) (by assumption)).symm
       | exact (Prof.lnk_4 (co := co) (n := x) (e := (j : Int)) (a := ((m.atN x m.s.src.length).getD i 0).toNat) (by omega) (by omega) (by omega) (by omega) (by omega)).symm
       | (exfalso; omega)⟩
      (dsimp only; omega)
     simp only [sps] at u
     refine .z rfl (.z rfl (.z rfl (.z rfl (.z rfl (.z rfl (.q rfl (.pickF rfl rfl) (.mv rfl (.nil (c7 _ _ ?_)))))))))
     refine .condF rfl ?_
     refine .skip ?_
     refine v _ _ (.region (.mv rfl ?_))
     refine .q rfl (.add rfl rfl rfl (by omega) (by omega)) ?_
     refine .mv rfl (.nil ?_)
     refine o ((i + 1, _)) _ _ ?_ ?_ ⟨rfl, rfl, rfl, rfl, rfl, rfl, rfl, trivial⟩
     ·
      refine ⟨g, ?_⟩
      exact ⟨by omega, by
      rw [allN_succ, ← hb, a0, Bool.true_and]
      first
      | exact (Prof.lnk_1 (co := co) (n := x) (e := (j : Int)) (a := ((m.atN x m.s.src.length).getD i 0).toNat) (by assumption) (by assumption)).symm
      | exact (Prof.lnk_2 (co := co) (n := x) (e := (j : Int)) (a := ((m.atN x m.s.src.length).getD i 0).toNat) q6 (by assumption) (by assumption) (by assumption)).symm
      | exact (Prof.lnk_3 (co := co) (n := x) (e := (j : Int)) (a := ((m.atN x m.s.src.length).getD i 0).toNat) q4 (by assumption) (by assumption) (by assumption)).symm
      | exact (Prof.lnk_4 (co := co) (n := x) (e := (j : Int)) (a := ((m.atN x m.s.src.length).getD i 0).toNat) (by omega) (by omega) (by omega) (by omega) (by omega)).symm
      | (exfalso; omega)⟩
     (dsimp only; omega)
    refine .exit ?_
    refine e4 _ _ (.seq (fun K22 d7 => .region ?_))
    have hfit : b = m.enP co x ((numsL (m.diag x).toNat).getD j 0) := by
      rw [hgj]
      unfold Prof.enP
      cases hbb : b with
      | false => exact (allN_early (hb.symm.trans hbb) hi).symm
      | true =>
        first
        | exact absurd hbb a0
        | exact absurd (show true = false from hbb.symm.trans a0) Bool.noConfusion
        | (obtain rfl : i = (m.atN x m.s.src.length).length := by omega
           exact hbb.symm.trans hb)
    refine .mv rfl (.nil (d7 _ _ ?_))
    refine .cond rfl (fun a2 => ?_) (fun a2 => ?_)
    ·
     have a1 := hfit.symm.trans a2
     refine .region (.mv rfl (.mv rfl ?_))
     refine .R rfl (.litA rfl sl_22_A ze_2_E rfl rfl rfl rfl) ?_
     rintro _ H136 ⟨g136, rfl, a5, ge136, c3⟩
     replace y := y.trans a5
     replace l := l.le a5
     replace w := a5.2 _ _ w
     have lt_at136 := GHeap.ltg c3
     replace hT := h.mono y
     refine .R rfl (.appendI rfl sl_22_A ze_2_E rfl by_2_E sl_22_A rfl rfl (by assumption) (by assumption) (by first | omega | (simp <;> omega)) (by omega) (by omega)) ?_
     rintro _ H137 ⟨g137, rfl, b5, ge137, at137⟩
     replace y := y.st b5 (fun k hk => ⟨by omega, trivial⟩)
     replace l := l.sA b5
     replace hT := h.mono y
     refine .mv rfl (.nil (c9 _ _ (.region (.mv rfl ?_))))
     refine .q rfl (.add rfl rfl rfl (by omega) (by omega)) ?_
     refine .mv rfl (.nil ?_)
     refine b2 ((j + 1, _, _)) _ _ ?_ ?_ ⟨rfl, rfl, rfl, rfl, rfl, trivial⟩
     ·
      refine ⟨l, by first | assumption | (rw [filtTake_T (by omega) a1, hgj]; assumption) | (rw [filtTake_F (by omega) a1]; assumption), by omega, by first | omega | (simp only [List.length_append, List.length_cons, List.length_nil] <;> omega) | (rw [filtTake_T (by omega) a1, hgj] <;> (first | omega | (simp only [List.length_append, List.length_cons, List.length_nil] <;> omega))) | (rw [filtTake_F (by omega) a1] <;> (first | omega | (simp only [List.length_append, List.length_cons, List.length_nil] <;> omega))), ?_⟩
      omega
     (dsimp only; omega)
    have a1 := hfit.symm.trans (by simpa using a2)
    refine .skip ?_
    refine c9 _ _ (.region (.mv rfl ?_))
    refine .q rfl (.add rfl rfl rfl (by omega) (by omega)) ?_
    refine .mv rfl (.nil ?_)
    refine b2 ((j + 1, _, _)) _ _ ?_ ?_ ⟨rfl, rfl, rfl, rfl, rfl, trivial⟩
    ·
     refine ⟨l, by first | assumption | (rw [filtTake_T (by omega) a1, hgj]; assumption) | (rw [filtTake_F (by omega) a1]; assumption), by omega, by first | omega | (simp only [List.length_append, List.length_cons, List.length_nil] <;> omega) | (rw [filtTake_T (by omega) a1, hgj] <;> (first | omega | (simp only [List.length_append, List.length_cons, List.length_nil] <;> omega))) | (rw [filtTake_F (by omega) a1] <;> (first | omega | (simp only [List.length_append, List.length_cons, List.length_nil] <;> omega))), ?_⟩
     omega
    (dsimp only; omega)
   simp only [sps] at d8
   refine .z rfl (.q rfl (.pickF rfl rfl) (.nil (b9 _ _ ?_)))
   refine .condF rfl ?_
   refine .exit ?_
   refine e4 _ _ (.seq (fun K23 d5 => .region ?_))
   have hfit : b = m.enP co x ((numsL (m.diag x).toNat).getD j 0) := by
     rw [hgj]
     unfold Prof.enP
     cases hbb : b with
     | false => exact (allN_early (hb.symm.trans hbb) hi).symm
     | true =>
       first
       | exact absurd hbb a0
       | exact absurd (show true = false from hbb.symm.trans a0) Bool.noConfusion
       | (obtain rfl : i = (m.atN x m.s.src.length).length := by omega
          exact hbb.symm.trans hb)
   refine .mv rfl (.nil (d5 _ _ ?_))
   refine .cond rfl (fun a2 => ?_) (fun a2 => ?_)
   ·
    have a1 := hfit.symm.trans a2
    refine .region (.mv rfl (.mv rfl ?_))
    refine .R rfl (.litA rfl sl_22_A ze_2_E rfl rfl rfl rfl) ?_
    rintro _ H136x2 ⟨g136x2, rfl, a3, ge136x2, b1⟩
    replace l := l.le a3
    replace w := a3.2 _ _ w
    have lt_at136x2 := GHeap.ltg b1
    refine .R rfl (.appendI rfl sl_22_A ze_2_E rfl by_2_E sl_22_A rfl rfl (by assumption) (by assumption) (by first | omega | (simp <;> omega)) (by omega) (by omega)) ?_
    rintro _ H137x2 ⟨g137x2, rfl, a9, ge137x2, at137x2⟩
    replace l := l.sA a9
    refine .mv rfl (.nil (c9 _ _ (.region (.mv rfl ?_))))
    refine .q rfl (.add rfl rfl rfl (by omega) (by omega)) ?_
    refine .mv rfl (.nil ?_)
    refine b2 ((j + 1, _, _)) _ _ ?_ ?_ ⟨rfl, rfl, rfl, rfl, rfl, trivial⟩
    ·
     refine ⟨l, by first | assumption | (rw [filtTake_T (by omega) a1, hgj]; assumption) | (rw [filtTake_F (by omega) a1]; assumption), by omega, by first | omega | (simp only [List.length_append, List.length_cons, List.length_nil] <;> omega) | (rw [filtTake_T (by omega) a1, hgj] <;> (first | omega | (simp only [List.length_append, List.length_cons, List.length_nil] <;> omega))) | (rw [filtTake_F (by omega) a1] <;> (first | omega | (simp only [List.length_append, List.length_cons, List.length_nil] <;> omega))), ?_⟩
     omega
    (dsimp only; omega)
   have a1 := hfit.symm.trans (by simpa using a2)
   refine .skip ?_
   refine c9 _ _ (.region (.mv rfl ?_))
   refine .q rfl (.add rfl rfl rfl (by omega) (by omega)) ?_
   refine .mv rfl (.nil ?_)
   refine b2 ((j + 1, _, _)) _ _ ?_ ?_ ⟨rfl, rfl, rfl, rfl, rfl, trivial⟩
   ·
    refine ⟨l, by first | assumption | (rw [filtTake_T (by omega) a1, hgj]; assumption) | (rw [filtTake_F (by omega) a1]; assumption), by omega, by first | omega | (simp only [List.length_append, List.length_cons, List.length_nil] <;> omega) | (rw [filtTake_T (by omega) a1, hgj] <;> (first | omega | (simp only [List.length_append, List.length_cons, List.length_nil] <;> omega))) | (rw [filtTake_F (by omega) a1] <;> (first | omega | (simp only [List.length_append, List.length_cons, List.length_nil] <;> omega))), ?_⟩
    omega
   (dsimp only; omega)
  simp only [sps] at d6
  refine .exit ?_
  refine f0 _ _ (.seq (fun K24 d1 => .region (.mv rfl (.mv rfl (.nil (d1 _ _ ?_))))))
  refine .ret ?_
  refine d0 _ _ ?_
  refine ⟨_, rfl, ?_⟩
  obtain rfl : j = (m.diag x).toNat := by omega
  rw [List.take_of_length_le (by omega), ← Prof.choices_eq (by omega)] at w b4
  exact ⟨y, a8, by rw [b4], w, by omega⟩
def EGoSpec (m : Prof) (p : ProfP) (aS : Option Addr) (gK gA : Nat) (ra : Nat → Option Addr) (M : Nat) (H0 : GHeap) (c : Nat) : Prop :=
  ∀ (gs gF gc b N : Nat) (co : List Int) (fs : List (List Int)) (H : GHeap), cntU co = c → H0.Le H → H0.next ≤ gs → H0.next ≤ gF → gs ≠ gF → gc ≠ gs → gc ≠ gF → gF < H.next → b ≤ H.next → H.get gc = some (.row (ints co) 2 true) → co.length = N → N = m.sz.length →
    (∀ i, i < N → co.getD i 0 < m.diag i) → FoundE 116 22 2 b H gs gF aS (some ⟨gK, 0, none⟩) (some ⟨gA, 0, none⟩) m.sz.length m.s.src.length M fs → fs.length < M →
    GCalls Try.prog 80 [.pointer (some ⟨gs, 0, none⟩), .slice (some ⟨gc, 0, none⟩) N N] H (fun _ H' => ∃ gF', (gF' = gF ∨ H.next ≤ gF') ∧ St [gs, gF] H H' ∧ gF' < H'.next ∧ FoundE 116 22 2 b H' gs gF' aS (some ⟨gK, 0, none⟩) (some ⟨gA, 0, none⟩) m.sz.length m.s.src.length M ((fs ++ m.enet.go co).take M))
set_option maxHeartbeats 4000000 in
theorem l22Go_c {m : Prof} {p : ProfP} {aS : Option Addr} {gK gA : Nat} {ra : Nat → Option Addr} {M : Nat} {H0 : GHeap} (hT0 : TkIn 88 22 H0 m p aS gK gA ra) (hP : m.Shape) (he : m.s = m.t) (hM : M ≤ 1048576) (c : Nat) : EGoSpec m p aS gK gA ra M H0 c := by
  refine Nat.strongRecOn (motive := EGoSpec m p aS gK gA ra M H0) c (fun c ih => ?_)
  intro gs gF gc b N co fs H hm hle0 n1 n2 n3 n4 n5 n6 n7 hgc hl hN hco hFA hfs
  subst hl
  obtain ⟨af, r, hst, hSl, hOw⟩ := hFA.ex
  have hpos := m.enet_pos
  have hob := hP.s.1.obj
  have hsl0 := hP.z.sl
  have hfl : (slsL r fs).length = fs.length := length_slsL _ _
  refine GCalls.body (N := 73) (rs := []) Try.func80 rfl rfl rfl rfl (fun Qx hret hend => ?_)
  refine .fg [0, 1] rfl ?_
  have lt_hst := GHeap.ltg hst
  have lt_hgc := GHeap.ltg hgc
  have hfo := St.refl [gs, gF] H
  have hgr := St.refl [] H
  have hst0 := hst
  refine .seq (fun K1 hK1 => .region (.mv rfl (.nil (hK1 _ _ (.seq (fun K2 hK2 => .region ?_))))))
  refine .R rfl (.litA rfl sl_22_A ze_2_E rfl rfl rfl rfl) ?_
  rintro _ H9 ⟨g9, rfl, le9, ge9, at9⟩
  replace hfo := hfo.le le9
  replace hgr := hgr.le le9
  replace hst := le9.2 _ _ hst
  replace hgc := le9.2 _ _ hgc
  have lt_at9 := GHeap.ltg at9
  replace at9 : GHeap.get H9 g9 = some (.row (ints []) 2 true) := at9
  refine .mv rfl (.nil (hK2 _ _ (.seq (fun K3 hK3 => .seq (fun K4 hK4 => .region (.mv rfl (.q rfl (.len sl_22_A rfl) ?_)))))))
  refine .q rfl (.sub rfl rfl rfl (by omega) (by omega)) ?_
  refine .mv rfl (.nil (hK4 _ _ ?_))
  refine .block ?_
  refine .loopR (σ := Nat × Int × List Int × Nat × Nat) [(0, some _), (1, some _)] (fun (y, x, cs, gL5, nL5) => [(6, some (.int .i64 ((y : Int) - 1))), (4, some (.int .i64 x)), (5, some (.slice (some ⟨gL5, 0, none⟩) nL5 nL5))]) (fun (y, x, cs, gL5, nL5) H' => St [g9] H9 H' ∧ H'.get gL5 = some (.row (ints cs) 2 true) ∧ (gL5 = g9 ∨ H9.next ≤ gL5) ∧ nL5 = cs.length ∧ y ≤ co.length ∧ SeenU m.enet co y x ∧ (x < 0 ∨ cs = m.enet.choices co x.toNat)) (fun (y, x, cs, gL5, nL5) => y) ((co.length, -1, [], _, _)) ⟨rfl, rfl, trivial⟩ ⟨rfl, rfl, rfl, trivial⟩ ?_ ?_
  ·
   refine ⟨.refl _ _, by first | assumption | exact at9 | simpa using at9, .inl rfl, by first | rfl | assumption | simp | omega, ?_⟩
   exact ⟨Nat.le_refl _, .start _ _, .inl (by omega)⟩
  rintro ⟨y, x, cs, gL5, nL5⟩ HL1 ⟨lst1, at_L5, pl_L5, ln_L5, hI⟩ KL1 hKL1
  refine .forget (fr' := [(6, some (.int .i64 ((y : Int) - 1))), (4, some (.int .i64 x)), (5, some (.slice (some ⟨gL5, 0, none⟩) nL5 nL5)), (0, some _), (1, some _)]) ⟨rfl, rfl, rfl, rfl, rfl, trivial⟩ ?_
  have nx_HL1 := lst1.nx
  replace hfo := hfo.sA lst1
  replace hgr := hgr.sA lst1
  replace hst := lst1.s hst
  replace hgc := lst1.s hgc
  have hz := hle0.st hfo (fun k hk => ⟨by omega, by omega, trivial⟩)
  have hT := hT0.mono hz
  obtain ⟨hy, hU, hcs⟩ := hI
  refine .seq (fun K5 hK5 => .seq (fun K6 hK6 => .region (.mv rfl (.q rfl (.cmp rfl rfl rfl) (.nil (hK6 _ _ ?_))))))
  refine .cond rfl (fun h14 => ?_) (fun h14 => ?_)
  ·
   simp only [sps] at h14
   obtain ⟨y', rfl⟩ : ∃ y', y = y' + 1 := ⟨y - 1, by omega⟩
   have e8 : ((y' + 1 : Nat) : Int) - 1 = (y' : Int) := by omega
   rw [e8]
   refine .skip ?_
   refine hK5 _ _ (.seq (fun K7 hK7 => ?_))
   refine .block ?_
   refine .seq (fun K8 hK8 => .region (.mv rfl (.mv rfl ?_)))
   refine .q rfl (.idxN sl_22_A (by first | assumption | exact SlA.of_row hgc (by first | rfl | (simp; done) | (simp <;> omega))) rfl rfl (by omega)) ?_
   refine .q rfl (.loadI on_2_A (by first | assumption | exact Ints.of_get hgc) rfl (by omega)) ?_
   refine .q rfl (.cmp rfl rfl rfl) (.nil (hK8 _ _ ?_))
   refine .cond rfl (fun h21 => ?_) (fun h21 => ?_)
   ·
    simp only [sps] at h21
    refine .seq (fun K9 hK9 => .region (.mv rfl (.mv rfl (.nil (hK9 _ _ (.seq (fun K10 hK10 => .region (.mv rfl (.mv rfl (.mv rfl ?_))))))))))
    refine .call rfl rfl rfl rfl @Try.call103 rfl (l22Choices_c (x := y') (Mem.of_get hst) hT (Ints.of_get hgc) hP he hN (by omega) hco) ?_
    rintro _ H26 ⟨le26, g26, rfl, at26, ge26⟩
    replace hfo := hfo.le le26
    replace hgr := hgr.le le26
    replace lst1 := lst1.le le26
    have lt_at26 := GHeap.ltg at26
    clear hz hT
    refine .mv rfl (.nil (hK10 _ _ (.seq (fun K11 hK11 => .region (.mv rfl (.q rfl (.len sl_22_A rfl) (.q rfl (.cmp rfl rfl rfl) (.nil (hK11 _ _ ?_)))))))))
    refine .cond rfl (fun h29 => ?_) (fun h29 => ?_)
    ·
     simp only [sps] at h29
     refine .ret ?_
     refine hret _ _ ?_
     rw [Net.go_stuck (by omega) h21 (by omega) hpos, take_less hfs]
     exact ⟨gF, .inl rfl, hfo, by omega, hFA.mono hgr.le_of_nil⟩
    simp only [sps] at h29
    obtain ⟨csX, hcsX⟩ : ∃ z, z = m.enet.choices co y' := ⟨_, rfl⟩
    have hcsl := congrArg List.length hcsX
    refine .skip ?_
    refine hK7 _ _ (.region (.mv rfl ?_))
    refine .q rfl (.sub (r := (y' : Int) - 1) rfl rfl (by omega) (by omega) (by omega)) ?_
    refine .mv rfl (.nil ?_)
    refine hKL1 ((y', _, csX, _, _)) _ _ ?_ ?_ ⟨rfl, rfl, rfl, rfl, rfl, trivial⟩
    ·
     refine ⟨lst1, by first | assumption | (rw [hcsX]; assumption), by omega, by first | omega | (simp only [List.length_append, List.length_cons, List.length_nil] <;> omega), ?_⟩
     first
     | exact ⟨by omega, hU.hit (by omega) h21 (by omega), .inr (by rw [Int.toNat_natCast]; exact hcsX)⟩
     | exact ⟨by omega, hU.miss h21, by rw [hcsX]; exact hcs⟩
    (dsimp only; omega)
   simp only [sps] at h21
   obtain ⟨csX, hcsX⟩ : ∃ z, z = cs := ⟨_, rfl⟩
   have hcsl := congrArg List.length hcsX
   refine .skip ?_
   refine hK7 _ _ (.region (.mv rfl ?_))
   refine .q rfl (.sub (r := (y' : Int) - 1) rfl rfl (by omega) (by omega) (by omega)) ?_
   refine .mv rfl (.nil ?_)
   refine hKL1 ((y', _, csX, _, _)) _ _ ?_ ?_ ⟨rfl, rfl, rfl, rfl, rfl, trivial⟩
   ·
    refine ⟨lst1, by first | assumption | (rw [hcsX]; assumption), by omega, by first | omega | (simp only [List.length_append, List.length_cons, List.length_nil] <;> omega), ?_⟩
    first
    | exact ⟨by omega, hU.hit (by omega) h21 (by omega), .inr (by rw [Int.toNat_natCast]; exact hcsX)⟩
    | exact ⟨by omega, hU.miss h21, by rw [hcsX]; exact hcs⟩
   (dsimp only; omega)
  simp only [sps] at h14
  obtain rfl : y = 0 := by omega
  refine .exit ?_
  refine hK3 _ _ (.seq (fun K12 hK12 => .seq (fun K13 hK13 => .region (.mv rfl (.q rfl (.cmp rfl rfl rfl) (.nil (hK13 _ _ ?_)))))))
  refine .cond rfl (fun h31 => ?_) (fun h31 => ?_)
  ·
   simp only [sps] at h31
   have hgo := hU.none h31 hpos
   refine .seq (fun K14 hK14 => ?_)
   refine .regionDB mo_B (.q 0 (.q 1 (.q 2 (.q 3 (.q 4 (.q 5 (.c 6 1 (.c 7 1 (.c 8 1 (.q 9 (.q 10 (.c 11 0 (.done))))))))))))) (by kernel_rfl) (GHeap.le_erase HL1 gF) ?_
   have hbl := GHeap.le_erase HL1 gF
   have hstB := GHeap.get_erase_of hst n3
   refine .qB rfl hbl (.move rfl) (.qB rfl hbl (.move rfl) (.qB rfl hbl (.nilCheck rfl) (.qB rfl hbl (.fieldAddr fo_116_4_Nb rfl) (.qB rfl hbl (.load on_23_B rfl (Mem.of_get hstB 4 _ rfl)) (.qB rfl hbl (.move rfl) ?_)))))
   refine .call1 rfl rfl rfl rfl rfl @Try.call104 rfl (l01Own_c (Ints.of_get hgc)) ?_
   rintro _ H38 ⟨le38, g38, rfl, at38, ge38⟩
   replace hbl := hbl.trans le38
   refine ⟨hbl, ?_⟩
   replace hfo := hfo.le le38
   replace hgr := hgr.le le38
   replace hst := le38.2 _ _ hst
   have lt_at38 := GHeap.ltg at38
   refine .c1 rfl rfl rfl rfl (.litA rfl sl_23_B ze_22_E rfl rfl rfl rfl) ?_
   rintro _ H39 ⟨g39, rfl, le39, ge39, at39⟩
   replace hbl := hbl.trans le39
   refine ⟨hbl, ?_⟩
   replace hfo := hfo.le le39
   replace hgr := hgr.le le39
   replace hst := le39.2 _ _ hst
   replace at38 := le39.2 _ _ at38
   have lt_at39 := GHeap.ltg at39
   have hSl2 := hSl.mono hgr.le_of_nil
   refine .c1 rfl rfl rfl rfl (.appendVO rfl sl_23_B ze_22_E rfl by_22_E sl_23_B rfl rfl hSl2 (by assumption) (by simp) (by omega) rfl rfl (by omega) (by omega)) ?_
   rintro _ H40 ⟨g40, rfl, st40, ge40, at40⟩
   refine ⟨(hbl.erase_st st40), ?_⟩
   replace hfo := hfo.sA st40
   replace hst := st40.s hst
   replace at38 := st40.s at38
   have lt_at40 := GHeap.ltg at40
   replace hbl := hbl.erase_st st40
   refine .qB rfl hbl (.nilCheck rfl) (.qB rfl hbl (.fieldAddr fo_116_4_Nb rfl) ?_)
   refine .r0 rfl rfl rfl (.storeR rfl sz_23_E rfl rfl rfl (by assumption) (by first | exact Nat.le_of_ble_eq_true rfl | (simp; done) | (simp <;> omega))) ?_
   rintro _ H10011 ⟨rfl, st10011, at10011⟩
   have nx_H10011 := st10011.nx
   replace hfo := hfo.sA st10011
   replace at38 := st10011.s at38
   replace at40 := st10011.s at40
   try simp only [Nat.zero_add, List.set_cons_succ, List.set_cons_zero] at at10011
   refine .done ?_
   refine hK14 _ _ ?_
   refine .ret ?_
   refine hret _ _ ?_
   have hw1 := hSl.neR hOw rfl
   have hw2 := hOw.st hfo (.cons (hOw.neT hst0 rfl) (.cons hw1 (.nil _ _)))
   have hw3 := hw2.snoc2 at38 (hOw.ne (by omega)) (by omega)
   have hfl2 : (fs ++ [co]).length = fs.length + 1 := by simp
   rw [hgo, take_one hfs]
   exact ⟨g40, .inr (by omega), hfo, by omega, ⟨⟨_, _, by rw [hfl2]; exact at10011, .inr ⟨rfl, by omega, by rw [slsL_snoc]; exact at40⟩, hw3⟩⟩⟩
  simp only [sps] at h31
  obtain ⟨m', rfl, hm1, hm2, hgo⟩ := hU.some (by omega) hpos
  have hcs2 := hcs.resolve_left (by omega)
  rw [Int.toNat_natCast] at hcs2
  subst hcs2
  refine .skip ?_
  refine hK12 _ _ (.seq (fun K15 hK15 => .region ?_))
  have hcl := Prof.choices_le (m := m) (co := co) (n := m')
  have hdm := hP.z.diag he (i := m') (by omega)
  refine .mv rfl (.nil (hK15 _ _ ?_))
  refine .block ?_
  refine .loopR (σ := Nat × Nat) [(0, some _), (1, some _), (4, some _), (5, some _)] (fun (j, gV) => [(7, some (.int .i64 (j : Int)))]) (fun (j, gV) H' => St [gs, gF] HL1 H' ∧ j ≤ (m.enet.choices co m').length ∧ (gV = gF ∨ HL1.next ≤ gV) ∧ gV < H'.next ∧ FoundE 116 22 2 b H' gs gV aS (some ⟨gK, 0, none⟩) (some ⟨gA, 0, none⟩) m.sz.length m.s.src.length M ((fs ++ ((m.enet.choices co m').take j).flatMap fun h => m.enet.go (co.set m' h)).take M)) (fun (j, gV) => (m.enet.choices co m').length - j) ((0, gF)) ⟨rfl, rfl, rfl, rfl, trivial⟩ ⟨rfl, trivial⟩ ?_ ?_
  ·
   refine ⟨.refl _ _, ?_⟩
   refine ⟨by omega, .inl rfl, by omega, ?_⟩
   rw [List.take_zero, List.flatMap_nil, take_less hfs]
   exact hFA.mono (hgr.le_of_nil)
  rintro ⟨j, gV⟩ HL2 ⟨lst2, hI⟩ KL2 hKL2
  refine .forget (fr' := [(7, some (.int .i64 (j : Int))), (0, some _), (1, some _), (4, some _), (5, some _)]) ⟨rfl, rfl, rfl, rfl, rfl, trivial⟩ ?_
  have nx_HL2 := lst2.nx
  replace hfo := hfo.sA lst2
  replace hgc := lst2.same _ _ ⟨(by first | assumption | omega), (by first | assumption | omega), trivial⟩ hgc
  replace at_L5 := lst2.same _ _ ⟨(by first | assumption | omega), (by first | assumption | omega), trivial⟩ at_L5
  have rk := St.refl [] HL2
  obtain ⟨hj, hgV, hgl, hFV⟩ := hI
  obtain ⟨af2, r2, e1, _, _⟩ := hFV.ex
  have c25 : GHeap.cell HL2 gs (0 + 3) = some (.int .i64 (M : Int)) := Mem.of_get e1 3 _ rfl
  have c26 : GHeap.cell HL2 gs (0 + 4) = some (.slice af2 _ _) := Mem.of_get e1 4 _ rfl
  refine .seq (fun K16 hK16 => .seq (fun K17 hK17 => ?_))
  refine .regionD mo_B (.q 0 (.q 1 (.q 2 (.q 3 (.q 4 (.q 5 (.q 6 (.q 7 (.q 8 (.q 9 (.q 10 (.q 11 (.q 12 (.q 13 (.q 14 (.q 15 (.done))))))))))))))))) (by kernel_rfl) ?_
  refine .mv rfl rfl (.mv rfl rfl (.q rfl (.len sl_22_A rfl) (.q rfl (.cmp rfl rfl rfl) (.mv rfl rfl ?_))))
  refine .split (fun h47 => ?_) (fun h47 => ?_)
  ·
   simp only [sps] at h47
   refine .qg rfl (.move rfl) (.qg rfl (.nilCheck rfl) (.qg rfl (.fieldAddr fo_116_4_Nb rfl) ?_))
   refine .qg rfl (.load on_23_B rfl (by assumption)) ?_
   refine .qg rfl (.len sl_23_B rfl) (.qg rfl (.move rfl) (.qg rfl (.nilCheck rfl) (.qg rfl (.fieldAddr fo_116_3_Nb rfl) ?_)))
   refine .qg rfl (.load on_3_Nb rfl (by assumption)) ?_
   refine .qg rfl (.cmp rfl rfl rfl) (.q rfl (.pickT rfl rfl) ?_)
   refine .done ?_
   refine hK17 _ _ ?_
   refine .cond rfl (fun h58 => ?_) (fun h58 => ?_)
   ·
    simp only [sps] at h58
    refine .skip ?_
    refine hK16 _ _ (.seq (fun K18 hK18 => ?_))
    refine .block ?_
    refine .seq (fun K19 hK19 => .region (.mv rfl ?_))
    refine .call rfl rfl rfl rfl @Try.call104 rfl (l01Own_c (Ints.of_get hgc)) ?_
    rintro _ H62 ⟨le62, g62, rfl, at62, ge62⟩
    have nx_H62 := le62.1
    replace hfo := hfo.le le62
    replace lst2 := lst2.le le62
    replace rk := rk.le le62
    replace at_L5 := le62.2 _ _ at_L5
    have i62 := Ints.of_get at62
    refine .mv rfl (.nil (hK19 _ _ (.seq (fun K20 hK20 => .region (.mv rfl (.mv rfl (.mv rfl (.mv rfl ?_))))))))
    refine .q rfl (.idxN sl_22_A (by first | assumption | exact SlA.of_row at_L5 (by first | rfl | (simp; done) | (simp <;> omega))) rfl rfl (by omega)) ?_
    refine .q rfl (.loadI on_2_A (by first | assumption | exact Ints.of_get at_L5) rfl (by omega)) ?_
    refine .q rfl (.idxN sl_22_A (by first | assumption | exact SlA.of_row at62 (by first | rfl | (simp; done) | (simp <;> omega))) rfl rfl (by omega)) ?_
    refine .r0 rfl rfl (.storeI rfl sz_2_E rfl rfl (by assumption) (by first | omega | (simp <;> omega))) ?_
    rintro _ H15007 ⟨rfl, st15007, at15007⟩
    have nx_H15007 := st15007.nx
    replace hfo := hfo.sA st15007
    replace lst2 := lst2.sA st15007
    replace rk := rk.sA st15007
    have lt_at15007 := GHeap.ltg at15007
    have hz := hle0.st hfo (fun k hk => ⟨by omega, by omega, trivial⟩)
    clear i62
    rw [Nat.zero_add] at at15007
    refine .nil (hK20 _ _ (.region (.mv rfl (.mv rfl ?_))))
    have hhm := getD_mem_list (d := (0 : Int)) (show j < (m.enet.choices co m').length by omega)
    have ha1 := Prof.choices_mem hhm
    have hcn := cntU_set hm1 hm2 (h := (m.enet.choices co m').getD j 0) (by omega)
    have hcs : ∀ i, i < co.length → (co.set m' ((m.enet.choices co m').getD j 0)).getD i 0 < m.diag i := fun i hi => by
      rw [getD_set (by omega)]
      split
      · subst i; omega
      · exact hco i hi
    refine .call rfl rfl rfl rfl @Try.call80 rfl ((ih (cntU (co.set m' ((m.enet.choices co m').getD j 0))) (by omega) gs gV g62 b co.length _ _ _ rfl hz n1 (by omega) (by omega) (by omega) (by omega) (by omega) (by omega) at15007 (by simp) hN hcs (hFV.mono rk.le_of_nil) (by omega))) ?_
    rintro _ H72 ⟨gF72, hg72, st72, hl72, hF72⟩
    replace lst2 := lst2.sA st72
    clear hz
    refine .nil (hK18 _ _ (.region (.mv rfl ?_)))
    refine .q rfl (.add rfl rfl rfl (by omega) (by omega)) ?_
    refine .mv rfl (.nil ?_)
    refine hKL2 ((j + 1, gF72)) _ _ ?_ ?_ ⟨rfl, rfl, rfl, rfl, rfl, trivial⟩
    ·
     refine ⟨lst2, ?_⟩
     refine ⟨by omega, by omega, hl72, ?_⟩
     rw [← foldG_more (d := 0) (by omega) (by omega)]
     exact hF72
    (dsimp only; omega)
   simp only [sps] at h58
   refine .exit ?_
   refine hend _ _ ?_
   have hge := foldG_done (M := M) (fs := fs) (C := m.enet.choices co m') (G := fun h => m.enet.go (co.set m' h)) (k := j) (.inr (by omega))
   rw [hgo, ← hge]
   exact ⟨gV, by omega, hfo, hgl, hFV⟩
  simp only [sps] at h47
  refine .z rfl (.z rfl (.z rfl (.z rfl (.z rfl (.z rfl (.z rfl (.z rfl (.z rfl (.z rfl (.q rfl (.pickF rfl rfl) ?_))))))))))
  refine .done ?_
  refine hK17 _ _ ?_
  refine .condF rfl ?_
  refine .exit ?_
  refine hend _ _ ?_
  have hge := foldG_done (M := M) (fs := fs) (C := m.enet.choices co m') (G := fun h => m.enet.go (co.set m' h)) (k := j) (.inl (by omega))
  rw [hgo, ← hge]
  exact ⟨gV, by omega, hfo, hgl, hFV⟩
end Go.Proofs.Ytdfnfdellpfjhaa
namespace Go.Proofs.Ytdfnfdellpfjhaa
open Go Go.GL Go.RowKit Go.Proofs
theorem bt_116_Nc : buildT Try.prog 116 = some ([.slice none 0 0, .slice none 0 0, .slice none 0 0, .int .i64 0, .slice none 0 0], [(0, 1), (1, 1), (2, 1), (3, 1), (4, 1)]) := by kernel_rfl
theorem sz_116_Nc : (Try.prog.info? 116).map (·.size) = some 5 := by kernel_rfl
theorem bt_88_Nc : buildT Try.prog 88 = some ([.int .i64 0, .int .i64 0, .slice none 0 0, .slice none 0 0], [(0, 1), (1, 1), (2, 1), (3, 1)]) := by kernel_rfl
theorem by_88_Nc : (Try.prog.info? 88).map (·.bytes) = some 64 := by kernel_rfl
theorem tk_build1 {aS aK aA : Option Addr} {N A : Nat} {most : Int} : fillL ([(0, 1), (1, 1), (2, 1), (3, 1), (4, 1)][·]?) [.slice none 0 0, .slice none 0 0, .slice none 0 0, .int .i64 0, .slice none 0 0] [(0, .slice aS N N), (1, .slice aK A A), (2, .slice aA N N), (3, .int .i64 most)] = some (tkCells aS aK aA N A most none 0) := by kernel_rfl
theorem tk_build2 {aS aK aA a : Option Addr} {N A : Nat} {most : Int} : fillL ([(0, 1), (1, 1), (2, 1), (3, 1), (4, 1)][·]?) [.slice none 0 0, .slice none 0 0, .slice none 0 0, .int .i64 0, .slice none 0 0] [(0, .slice aS N N), (1, .slice aK A A), (2, .slice aA N N), (3, .int .i64 most), (4, .slice a 0 0)] = some (tkCells aS aK aA N A most a 0) := by kernel_rfl
theorem l22Top_c {a : Option Addr} {cls : List Int} {H : GHeap} (h : Ints H a cls := by assumption) (hc : ∀ i, i < cls.length → 0 ≤ cls.getD i 0 ∧ cls.getD i 0 < 1048576) (hl : cls.length ≤ 1048576) :
    GCalls Try.prog 79 [.slice a cls.length cls.length] H (Ret (.int .i64 (topC cls cls.length)) H) := by
  refine GCalls.ret rfl ?_
  refine GCalls.body (N := 19) (rs := [.tmp 2]) Try.func79 rfl rfl rfl rfl (fun Qx f hend => ?_)
  refine .fg [0] rfl ?_
  have e := GHeap.Le.refl H
  have b := h
  refine .seq (fun K1 p => .region (.mv rfl (.nil (p _ _ (.seq (fun K2 m => .region (.mv rfl (.nil (m _ _ (.seq (fun K3 s => .seq (fun K4 r => .region (.mv rfl (.nil (r _ _ ?_)))))))))))))))
  refine .block ?_
  refine .loopR (σ := Nat) [(0, some _)] (fun k => [(4, some (.int .i64 (k : Int))), (3, some (.int .i64 (topC cls k)))]) (fun k H' => St [] H H' ∧ k ≤ cls.length) (fun k => cls.length - k) (0) ⟨rfl, trivial⟩ ⟨rfl, rfl, trivial⟩ ?_ ?_
  ·
   refine ⟨.refl _ _, ?_⟩
   omega
  rintro k HL1 ⟨d, hI⟩ KL1 g
  refine .forget (fr' := [(4, some (.int .i64 (k : Int))), (3, some (.int .i64 (topC cls k))), (0, some _)]) ⟨rfl, rfl, rfl, trivial⟩ ?_
  replace e := e.st d (fun k hk => trivial)
  replace h := b.mono e
  have hb := topC_bd (cls := cls) (c := 1048577) (by omega) (fun i hi => by have := hc i hi; omega) hI
  refine .seq (fun K5 l => .seq (fun K6 j => .region (.mv rfl (.mv rfl (.q rfl (.len sl_22_A rfl) (.q rfl (.cmp rfl rfl rfl) (.nil (j _ _ ?_))))))))
  refine .cond rfl (fun h8 => ?_) (fun h8 => ?_)
  ·
   simp only [sps] at h8
   have hck := hc k (by omega)
   refine .skip ?_
   refine l _ _ (.seq (fun K7 o => ?_))
   refine .block ?_
   refine .region (.mv rfl (.mv rfl (.mv rfl ?_)))
   refine .q rfl (.idxN sl_22_A (by assumption) rfl rfl (by omega)) ?_
   refine .q rfl (.loadI on_2_A (by assumption) rfl (by omega)) ?_
   refine .q rfl (.add rfl rfl rfl (by omega) (by omega)) ?_
   refine .q rfl (.max2 rfl rfl) (.mv rfl (.nil (o _ _ (.region (.mv rfl ?_)))))
   refine .q rfl (.add rfl rfl rfl (by omega) (by omega)) ?_
   refine .mv rfl (.nil ?_)
   refine g (k + 1) _ _ ?_ ?_ ⟨rfl, rfl, rfl, trivial⟩
   ·
    refine ⟨d, ?_⟩
    omega
   omega
  try simp only [sps] at h8
  refine .exit ?_
  refine s _ _ (.seq (fun K8 n => .region (.mv rfl (.mv rfl (.nil (n _ _ ?_))))))
  refine .ret ?_
  refine f _ _ ?_
  refine ⟨_, rfl, ?_⟩
  obtain rfl : k = cls.length := by omega
  exact ⟨rfl, e⟩
theorem l22Repeat_c {v : Int} {n : Nat} {H : GHeap} (hn : n ≤ 1048576) :
    GCalls Try.prog 81 [.int .i64 v, .int .i64 (n : Int)] H (NewInts 2 H (List.replicate n v)) := by
  refine GCalls.body (N := 18) (rs := [.tmp 4]) Try.func81 rfl rfl rfl rfl (fun Qx i hend => ?_)
  refine .fg [0, 1] rfl ?_
  have f := GHeap.Le.refl H
  refine .seq (fun K1 z => .region (.mv rfl (.nil (z _ _ (.seq (fun K2 t => .region ?_))))))
  refine .R rfl (.litA rfl sl_22_A ze_2_E rfl rfl rfl rfl) ?_
  rintro _ H7 ⟨g7, rfl, r, ge7, e⟩
  replace f := f.trans r
  have lt_at7 := GHeap.ltg e
  replace e : GHeap.get H7 g7 = some (.row (ints []) 2 true) := e
  refine .mv rfl (.nil (t _ _ (.seq (fun K3 u => .seq (fun K4 p => .region (.mv rfl (.nil (p _ _ ?_))))))))
  refine .block ?_
  refine .loopR (σ := Nat × Nat × Nat) [(0, some _), (1, some _)] (fun (k, c, d) => [(6, some (.int .i64 (k : Int))), (5, some (.slice (some ⟨c, 0, none⟩) d d))]) (fun (k, c, d) H' => St [g7] H7 H' ∧ H'.get c = some (.row (ints (List.replicate k v)) 2 true) ∧ (c = g7 ∨ H7.next ≤ c) ∧ d = (List.replicate k v).length ∧ k ≤ n) (fun (k, c, d) => n - k) ((0, _, _)) ⟨rfl, rfl, trivial⟩ ⟨rfl, rfl, trivial⟩ ?_ ?_
  ·
   refine ⟨.refl _ _, by first | assumption | exact e | simpa using e, .inl rfl, by first | rfl | assumption | simp | omega, ?_⟩
   omega
  rintro ⟨k, c, d⟩ HL1 ⟨a, b, pl_L5, g, hI⟩ KL1 m
  refine .forget (fr' := [(6, some (.int .i64 (k : Int))), (5, some (.slice (some ⟨c, 0, none⟩) d d)), (0, some _), (1, some _)]) ⟨rfl, rfl, rfl, rfl, trivial⟩ ?_
  have ge_L5 : H.next ≤ c := by omega
  have nx_HL1 := a.nx
  replace f := f.st a (fun k hk => ⟨by omega, trivial⟩)
  have hrl : (List.replicate k v).length = k := List.length_replicate
  refine .seq (fun K5 w => .seq (fun K6 s => .region (.mv rfl (.mv rfl (.q rfl (.cmp rfl rfl rfl) (.nil (s _ _ ?_)))))))
  refine .cond rfl (fun l => ?_) (fun l => ?_)
  ·
   simp only [sps] at l
   refine .skip ?_
   refine w _ _ (.seq (fun K7 y => ?_))
   refine .block ?_
   refine .region (.mv rfl (.mv rfl ?_))
   refine .R rfl (.litA rfl sl_22_A ze_2_E rfl rfl rfl rfl) ?_
   rintro _ H15 ⟨g15, rfl, h, ge15, j⟩
   replace a := a.le h
   replace b := h.2 _ _ b
   have lt_at15 := GHeap.ltg j
   refine .R rfl (.appendI rfl sl_22_A ze_2_E rfl by_2_E sl_22_A rfl rfl (by assumption) (by assumption) (by first | omega | (simp <;> omega)) (by omega) (by omega)) ?_
   rintro _ H16 ⟨g16, rfl, o, ge16, at16⟩
   replace a := a.sA o
   refine .mv rfl (.nil (y _ _ (.region (.mv rfl ?_))))
   refine .q rfl (.add rfl rfl rfl (by omega) (by omega)) ?_
   refine .mv rfl (.nil ?_)
   refine m ((k + 1, _, _)) _ _ ?_ ?_ ⟨rfl, rfl, rfl, rfl, trivial⟩
   ·
    refine ⟨a, by first | assumption | (rw [List.replicate_succ']; assumption), by omega, by first | omega | (simp only [List.length_append, List.length_cons, List.length_nil] <;> omega) | (rw [List.replicate_succ'] <;> (first | omega | (simp only [List.length_append, List.length_cons, List.length_nil] <;> omega))), ?_⟩
    omega
   (dsimp only; omega)
  try simp only [sps] at l
  refine .exit ?_
  refine u _ _ (.seq (fun K8 x => .region (.mv rfl (.mv rfl (.nil (x _ _ ?_))))))
  refine .ret ?_
  refine i _ _ ?_
  refine ⟨_, rfl, ?_⟩
  obtain rfl : k = n := by omega
  exact ⟨f, c, by rw [g], b, by omega⟩
set_option maxHeartbeats 4000000 in
theorem l22Solve_c {m : Prof} {p : ProfP} {aS : Option Addr} {gK : Nat} {H : GHeap} (hin : m.In H p) (hP : m.Shape) (he : m.s = m.t) (hsz : Ints H aS (m.diagL m.sz.length)) (hK0 : H.get gK = some (.row (m.lnkV p m.s.src.length) 88 true)) :
    GCalls Try.prog 51 [.slice aS m.sz.length m.sz.length, .slice (some ⟨gK, 0, none⟩) m.s.src.length m.s.src.length, .int .i64 201] H (NewIntssR H (m.ends.take 201)) := by
  have hs := hP.s.1
  have b1 := hs.n40
  have b2 := hs.tl
  have b3 := hs.obj
  have b4 := hP.z.sl
  have hgood := Prof.enet_good hP he
  have hjl : (joinL m.sz.length ((m.s.endL m.s.src.length).map fun p => (pA p, pB p))).length = m.sz.length := length_joinL _ _
  refine GCalls.body (N := 127) (rs := [.tmp 6]) Try.func51 rfl rfl rfl rfl (fun Qx i2 hend => ?_)
  refine .fg [0, 1, 2] rfl ?_
  have b := GHeap.Le.refl H
  have f := hin
  have e := hsz
  refine .seq (fun K1 q9 => .region (.mv rfl (.nil (q9 _ _ (.seq (fun K2 p1 => ?_))))))
  refine .regionD mo_B (.q 1 (.q 2 (.or (.c 0 1 (.q 4 (.c 3 1 (.q 5 (.done))))) (.c 3 1 (.c 0 1 (.q 4 (.q 5 (.done)))))))) (by kernel_rfl) ?_
  refine .cut [(0, some _), (1, some _), (2, some _), (6, some _)] ⟨rfl, rfl, rfl, rfl, trivial⟩ (fun rest fr' H' => ∃ f2 c9, Sub ((18, some (.slice (some ⟨f2, 0, none⟩) 0 0)) :: (21, some (.slice (some ⟨c9, 0, none⟩) m.sz.length m.sz.length)) :: (7, some (.slice (some ⟨f2, 0, none⟩) 0 0)) :: (8, some (.slice (some ⟨c9, 0, none⟩) m.sz.length m.sz.length)) :: rest) fr' ∧ H.Le H' ∧ H.next ≤ f2 ∧ H.next ≤ c9 ∧ H'.get f2 = some (.row ([]) 22 true) ∧ H'.get c9 = some (.row (List.replicate m.sz.length (.slice none 0 0)) 22 true) ∧ f2 ≠ c9) ?_ ?_
  ·
   have e6 := GHeap.Le.refl H
   refine .qB rfl (.refl _) (.move rfl) (.q rfl (.len sl_22_A rfl) ?_)
   refine .orI ?_ ?_
   ·
    refine .c1 rfl rfl rfl rfl (.litA rfl sl_23_B ze_22_E rfl rfl rfl rfl) ?_
    rintro _ H18x2 ⟨g5, rfl, c5, ge18x2, b8⟩
    have d5 := c5
    refine ⟨d5, ?_⟩
    replace b := b.trans c5
    have lt_at18x2 := GHeap.ltg b8
    replace e6 := e6.trans c5
    refine .qB rfl d5 (.assign rfl) ?_
    refine .c1 rfl rfl rfl rfl (.makeV rfl sl_23_B ze_22_E by_22_E rfl rfl rfl (by omega) (by omega) (by omega) (by omega)) ?_
    rintro _ H21x2 ⟨g7, rfl, b6, ge21x2, g0⟩
    replace d5 := d5.trans b6
    refine ⟨d5, ?_⟩
    replace b := b.trans b6
    replace b8 := b6.2 _ _ b8
    replace e6 := e6.trans b6
    refine .qB rfl d5 (.assign rfl) ?_
    refine .done ?_
    exact ⟨g5, g7, ⟨rfl, rfl, rfl, rfl, rfl, rfl, rfl, rfl, trivial⟩, e6, by omega, by omega, by first | assumption | simpa using b8, by first | assumption | simpa using g0, by omega⟩
   refine .c1 rfl rfl rfl rfl (.makeV rfl sl_23_B ze_22_E by_22_E rfl rfl rfl (by omega) (by omega) (by omega) (by omega)) ?_
   rintro _ H21x3 ⟨h5, rfl, c2, ge21x3, b5⟩
   have d5 := c2
   refine ⟨d5, ?_⟩
   replace b := b.trans c2
   have lt_at21x3 := GHeap.ltg b5
   replace e6 := e6.trans c2
   refine .c1 rfl rfl rfl rfl (.litA rfl sl_23_B ze_22_E rfl rfl rfl rfl) ?_
   rintro _ H18x3 ⟨g2, rfl, a9, ge18x3, e5⟩
   replace d5 := d5.trans a9
   refine ⟨d5, ?_⟩
   replace b := b.trans a9
   replace b5 := a9.2 _ _ b5
   have lt_at18x3 := GHeap.ltg e5
   replace e6 := e6.trans a9
   refine .qB rfl d5 (.assign rfl) (.qB rfl d5 (.assign rfl) ?_)
   refine .done ?_
   exact ⟨g2, h5, ⟨rfl, rfl, rfl, rfl, rfl, rfl, rfl, rfl, trivial⟩, e6, by omega, by omega, by first | assumption | simpa using e5, by first | assumption | simpa using b5, by omega⟩
  rintro fr21 h4 ⟨f2, c9, f6, h7, ge18, ge21, m5, o0, ne21_0⟩
  have nx_H21 := h7.1
  replace b := b.trans h7
  have lt_at18 := GHeap.ltg m5
  have lt_at21 := GHeap.ltg o0
  replace hin := f.mono b
  replace hsz := e.mono b
  have hKc : GHeap.get _ gK = some (.row (m.lnkV p m.s.src.length) 88 true) := b.2 _ _ hK0
  have hKs : SlA _ (some ⟨gK, 0, none⟩) (m.s.src.length * 4) _ := SlA.of_row hKc (by simp)
  have szs : SlA _ _ _ _ := hsz
  rw [m.length_diagL m.sz.length] at szs
  refine p1 _ _ ?_
  refine .forget f6 ?_
  refine .seq (fun K3 p2 => .seq (fun K4 p0 => .region (.mv rfl (.nil (p0 _ _ ?_)))))
  refine .block ?_
  refine .loopR (σ := Nat × (Nat → Option Addr) × (Nat → Option Addr) × Nat × Nat) [(0, some _), (1, some _), (2, some _), (8, some _)] (fun (k, rr, ra, d4, f1) => [(9, some (.int .i64 (k : Int))), (7, some (.slice (some ⟨d4, 0, none⟩) f1 f1))]) (fun (k, rr, ra, d4, f1) H' => St [f2, c9] h4 H' ∧ H'.get d4 = some (.row ((slsL rr (m.s.endL k))) 22 true) ∧ (d4 = f2 ∨ h4.next ≤ d4) ∧ f1 = (slsL rr (m.s.endL k)).length ∧ H'.get c9 = some (.row ((slsL ra (m.atL m.sz.length k))) 22 true) ∧ d4 ≠ c9 ∧ k ≤ m.s.src.length ∧ EnSt h4.next H' 2 rr (m.s.endL k) ra (m.atL m.sz.length k)) (fun (k, rr, ra, d4, f1) => m.s.src.length - k) ((0, fun _ => none, fun _ => none, _, _)) ⟨rfl, rfl, rfl, rfl, trivial⟩ ⟨rfl, rfl, trivial⟩ ?_ ?_
  ·
   refine ⟨.refl _ _, by first | assumption | (rw [Prof.atL_zero, slsL_repl]; assumption), .inl rfl, by first | rfl | assumption | simp | omega, by first | assumption | (rw [Prof.atL_zero, slsL_repl]; assumption), by omega, ?_⟩
   exact ⟨by omega, .nil _ _ _ _, by rw [Prof.atL_zero]; exact .start _ _ _ _, .zero _ _ _⟩
  rintro ⟨k, rr, ra, d4, f1⟩ HL1 ⟨l, a2, pl_L7, ln_L7, d, h8, hI⟩ KL1 g8
  refine .forget (fr' := [(9, some (.int .i64 (k : Int))), (7, some (.slice (some ⟨d4, 0, none⟩) f1 f1)), (0, some _), (1, some _), (2, some _), (8, some _)]) ⟨rfl, rfl, rfl, rfl, rfl, rfl, trivial⟩ ?_
  have ge_L7 : H.next ≤ d4 := by omega
  have nx_HL1 := l.nx
  replace b := b.st l (fun k hk => ⟨by omega, by omega, trivial⟩)
  have lt_at_L7 := GHeap.ltg a2
  have lt_at_L8 := GHeap.ltg d
  replace hin := f.mono b
  replace hsz := e.mono b
  clear hKc hKs szs
  have hKc : GHeap.get _ gK = some (.row (m.lnkV p m.s.src.length) 88 true) := b.2 _ _ hK0
  have hKs : SlA _ (some ⟨gK, 0, none⟩) (m.s.src.length * 4) _ := SlA.of_row hKc (by simp)
  have szs : SlA _ _ _ _ := hsz
  rw [m.length_diagL m.sz.length] at szs
  have rk := St.refl [d4] HL1
  obtain ⟨hk, hE⟩ := hI
  have d7 := a2
  have hfl : (slsL rr (m.s.endL k)).length = (m.s.endL k).length := length_slsL _ _
  have hpl := Cat.length_endL m.s k
  have hal := m.length_atL m.sz.length k
  have hfl8 : (slsL ra (m.atL m.sz.length k)).length = (m.atL m.sz.length k).length := length_slsL _ _
  refine .seq (fun K5 q1 => .seq (fun K6 p8 => .region (.mv rfl (.mv rfl (.q rfl (.len sl_86_Nb rfl) (.q rfl (.cmp rfl rfl rfl) (.nil (p8 _ _ ?_))))))))
  refine .cond rfl (fun m9 => ?_) (fun m9 => ?_)
  ·
   simp only [sps] at m9
   obtain ⟨-, -, -, q4, q5, q6, q7, -, -, -, -, -, -⟩ := hP.en he (a := k) (by omega)
   obtain ⟨sv, hsv⟩ : ∃ s : Nat, m.s.src.getD k 0 = (s : Int) := ⟨_, (Int.toNat_of_nonneg q4).symm⟩
   obtain ⟨tv, htv⟩ : ∃ s : Nat, m.s.tgt.getD k 0 = (s : Int) := ⟨_, (Int.toNat_of_nonneg q6).symm⟩
   have a3 := (Prof.lnkV_mem hKc (v := (k : Int)) (by omega) (by omega)).2
   have c0 : GHeap.cell _ gK (0 + (k : Int).toNat * 4 + 0) = some (.int .i64 (sv : Int)) := a3 0 (.int .i64 (sv : Int)) (show some (Value.int .i64 (m.s.src.getD k 0)) = _ by rw [hsv])
   have c1 : GHeap.cell _ gK (0 + (k : Int).toNat * 4 + 1) = some (.int .i64 (tv : Int)) := a3 1 (.int .i64 (tv : Int)) (show some (Value.int .i64 (m.s.tgt.getD k 0)) = _ by rw [htv])
   refine .skip ?_
   refine q1 _ _ (.seq (fun K7 o8 => ?_))
   refine .block ?_
   refine .seq (fun K8 q2 => ?_)
   refine .regionD mo_B (.q 0 (.q 1 (.q 2 (.q 3 (.q 4 (.q 5 (.q 6 (.q 7 (.q 8 (.q 9 (.q 10 (.q 11 (.done))))))))))))) (by kernel_rfl) ?_
   refine .mv rfl rfl (.mv rfl rfl ?_)
   refine .q rfl (.idx sl_86_Nb hKs (by omega) rfl rfl (by omega) (by omega) rfl) ?_
   refine .q rfl (.fieldAddr fo_88_0_Nb rfl) ?_
   refine .q rfl (.load on_2_A rfl (by assumption)) ?_
   refine .mv rfl rfl (.mv rfl rfl ?_)
   refine .q rfl (.idx sl_86_Nb hKs (by omega) rfl rfl (by omega) (by omega) rfl) ?_
   refine .q rfl (.fieldAddr fo_88_1_Nb rfl) ?_
   refine .q rfl (.load on_2_A rfl (by assumption)) ?_
   refine .mv rfl rfl (.mv rfl rfl ?_)
   refine .done ?_
   refine q2 _ _ (.seq (fun K9 p7 => .region (.mv rfl (.mv rfl (.mv rfl ?_)))))
   refine .R rfl (.litA rfl sl_22_A ze_2_E rfl rfl rfl rfl) ?_
   rintro _ H41 ⟨l4, rfl, d6, ge41, a5⟩
   have nx_H41 := d6.1
   replace b := b.trans d6
   replace l := l.le d6
   replace rk := rk.le d6
   replace a2 := d6.2 _ _ a2
   replace d := d6.2 _ _ d
   have lt_at41 := GHeap.ltg a5
   replace hin := f.mono b
   replace hsz := e.mono b
   clear hKc hKs szs
   have hKc : GHeap.get _ gK = some (.row (m.lnkV p m.s.src.length) 88 true) := b.2 _ _ hK0
   have hKs : SlA _ (some ⟨gK, 0, none⟩) (m.s.src.length * 4) _ := SlA.of_row hKc (by simp)
   have szs : SlA _ _ _ _ := hsz
   rw [m.length_diagL m.sz.length] at szs
   clear a3 c0 c1
   have a3 := (Prof.lnkV_mem hKc (v := (k : Int)) (by omega) (by omega)).2
   have c0 : GHeap.cell _ gK (0 + (k : Int).toNat * 4 + 0) = some (.int .i64 (sv : Int)) := a3 0 (.int .i64 (sv : Int)) (show some (Value.int .i64 (m.s.src.getD k 0)) = _ by rw [hsv])
   have c1 : GHeap.cell _ gK (0 + (k : Int).toNat * 4 + 1) = some (.int .i64 (tv : Int)) := a3 1 (.int .i64 (tv : Int)) (show some (Value.int .i64 (m.s.tgt.getD k 0)) = _ by rw [htv])
   refine .R rfl (.litA rfl sl_23_B ze_22_E rfl rfl rfl rfl) ?_
   rintro _ H42 ⟨g42, rfl, c8, ge42, c7⟩
   have nx_H42 := c8.1
   replace b := b.trans c8
   replace l := l.le c8
   replace rk := rk.le c8
   replace a2 := c8.2 _ _ a2
   replace d := c8.2 _ _ d
   replace a5 := c8.2 _ _ a5
   have lt_at42 := GHeap.ltg c7
   replace hin := f.mono b
   replace hsz := e.mono b
   clear hKc hKs szs
   have hKc : GHeap.get _ gK = some (.row (m.lnkV p m.s.src.length) 88 true) := b.2 _ _ hK0
   have hKs : SlA _ (some ⟨gK, 0, none⟩) (m.s.src.length * 4) _ := SlA.of_row hKc (by simp)
   have szs : SlA _ _ _ _ := hsz
   rw [m.length_diagL m.sz.length] at szs
   clear a3 c0 c1
   have a3 := (Prof.lnkV_mem hKc (v := (k : Int)) (by omega) (by omega)).2
   have c0 : GHeap.cell _ gK (0 + (k : Int).toNat * 4 + 0) = some (.int .i64 (sv : Int)) := a3 0 (.int .i64 (sv : Int)) (show some (Value.int .i64 (m.s.src.getD k 0)) = _ by rw [hsv])
   have c1 : GHeap.cell _ gK (0 + (k : Int).toNat * 4 + 1) = some (.int .i64 (tv : Int)) := a3 1 (.int .i64 (tv : Int)) (show some (Value.int .i64 (m.s.tgt.getD k 0)) = _ by rw [htv])
   refine .R rfl (.appendV rfl sl_23_B ze_22_E rfl by_22_E sl_23_B rfl rfl (by assumption) (by assumption) (by first | omega | (simp <;> omega)) rfl rfl (by omega) (by omega)) ?_
   rintro _ H43 ⟨p5, rfl, c3, ge43, w⟩
   have nx_H43 := c3.nx
   replace b := b.st c3 (fun k hk => ⟨by omega, trivial⟩)
   replace l := l.sA c3
   replace rk := rk.sA c3
   replace d := c3.same _ _ ⟨(Ne.symm h8), trivial⟩ d
   replace a5 := c3.s a5
   replace c7 := c3.s c7
   have lt_at43 := GHeap.ltg w
   replace hin := f.mono b
   replace hsz := e.mono b
   clear hKc hKs szs
   have hKc : GHeap.get _ gK = some (.row (m.lnkV p m.s.src.length) 88 true) := b.2 _ _ hK0
   have hKs : SlA _ (some ⟨gK, 0, none⟩) (m.s.src.length * 4) _ := SlA.of_row hKc (by simp)
   have szs : SlA _ _ _ _ := hsz
   rw [m.length_diagL m.sz.length] at szs
   clear a3 c0 c1
   have a3 := (Prof.lnkV_mem hKc (v := (k : Int)) (by omega) (by omega)).2
   have c0 : GHeap.cell _ gK (0 + (k : Int).toNat * 4 + 0) = some (.int .i64 (sv : Int)) := a3 0 (.int .i64 (sv : Int)) (show some (Value.int .i64 (m.s.src.getD k 0)) = _ by rw [hsv])
   have c1 : GHeap.cell _ gK (0 + (k : Int).toNat * 4 + 1) = some (.int .i64 (tv : Int)) := a3 1 (.int .i64 (tv : Int)) (show some (Value.int .i64 (m.s.tgt.getD k 0)) = _ by rw [htv])
   refine .mv rfl (.nil (p7 _ _ (.seq (fun K10 l6 => .region (.mv rfl (.mv rfl (.mv rfl (.mv rfl ?_))))))))
   have cC := slsL_cell d (i := sv) (by omega)
   refine .q rfl (.idxN sl_23_B (by first | exact (Intss.sl (by assumption)) | exact SlA.of_row d (by first | rfl | (simp; done) | (simp <;> omega))) rfl rfl (by omega)) ?_
   refine .q rfl (.load on_22_B rfl cC) (.mv rfl ?_)
   refine .R rfl (.litA rfl sl_22_A ze_2_E rfl rfl rfl rfl) ?_
   rintro _ H51 ⟨g51, rfl, b9, ge51, e8⟩
   have nx_H51 := b9.1
   replace b := b.trans b9
   replace l := l.le b9
   replace rk := rk.le b9
   replace d := b9.2 _ _ d
   replace a5 := b9.2 _ _ a5
   replace c7 := b9.2 _ _ c7
   replace w := b9.2 _ _ w
   have lt_at51 := GHeap.ltg e8
   replace hin := f.mono b
   replace hsz := e.mono b
   clear hKc hKs szs
   have hKc : GHeap.get _ gK = some (.row (m.lnkV p m.s.src.length) 88 true) := b.2 _ _ hK0
   have hKs : SlA _ (some ⟨gK, 0, none⟩) (m.s.src.length * 4) _ := SlA.of_row hKc (by simp)
   have szs : SlA _ _ _ _ := hsz
   rw [m.length_diagL m.sz.length] at szs
   clear a3 c0 c1
   have a3 := (Prof.lnkV_mem hKc (v := (k : Int)) (by omega) (by omega)).2
   have c0 : GHeap.cell _ gK (0 + (k : Int).toNat * 4 + 0) = some (.int .i64 (sv : Int)) := a3 0 (.int .i64 (sv : Int)) (show some (Value.int .i64 (m.s.src.getD k 0)) = _ by rw [hsv])
   have c1 : GHeap.cell _ gK (0 + (k : Int).toNat * 4 + 1) = some (.int .i64 (tv : Int)) := a3 1 (.int .i64 (tv : Int)) (show some (Value.int .i64 (m.s.tgt.getD k 0)) = _ by rw [htv])
   have o9 := hE.st0 rk (hE.R.neT d7 rfl) (hE.O.neT d7 rfl)
   have o6 := o9.snoc (x := [(sv : Int), (tv : Int)]) a5 (hE.R.ne (by omega)) (hE.O.ne (by omega)) (by omega)
   have o2 := ne_snoc (x := [(sv : Int), (tv : Int)]) (hE.R.neT d7 rfl) (k := l4) (by omega)
   obtain ⟨gi, hSl, hgr, hgo, hor⟩ := o6.pick (i := sv) (by omega) o2 (hE.O.neT d7 rfl)
   have hlt : gi < HL1.next := by
     rcases hor with h | ⟨h, _⟩
     · omega
     · exact hE.O.lt (by omega) h
   have hge : gi = d4 ∨ h4.next ≤ gi := hor.imp id fun h => h.2.1
   have m1 : c9 ≠ gi := by
     rcases hor with h | ⟨_, _, cs, h⟩
     · omega
     · exact row_ne d h rfl
   have hrl : ((m.atL m.sz.length k).getD sv []).length ≤ k := by rw [Prof.atL_get (by omega)]; exact Prof.atN_le _ _ _
   refine .R rfl (.appendVO rfl sl_22_A ze_2_E rfl by_2_E sl_22_A rfl rfl hSl e8 (by simp) (by omega) rfl rfl (by omega) (by omega)) ?_
   rintro _ q3 ⟨j4, rfl, b0, j7, j2⟩
   have nx_H52 := b0.nx
   replace b := b.st b0 (fun k hk => ⟨by omega, trivial⟩)
   replace l := l.sA b0
   replace d := b0.s d
   replace a5 := b0.s a5
   replace c7 := b0.s c7
   replace w := b0.s w
   replace e8 := b0.s e8
   have lt_at52 := GHeap.ltg j2
   replace hin := f.mono b
   replace hsz := e.mono b
   clear hKc hKs szs
   have hKc : GHeap.get _ gK = some (.row (m.lnkV p m.s.src.length) 88 true) := b.2 _ _ hK0
   have hKs : SlA _ (some ⟨gK, 0, none⟩) (m.s.src.length * 4) _ := SlA.of_row hKc (by simp)
   have szs : SlA _ _ _ _ := hsz
   rw [m.length_diagL m.sz.length] at szs
   clear a3 c0 c1
   have a3 := (Prof.lnkV_mem hKc (v := (k : Int)) (by omega) (by omega)).2
   have c0 : GHeap.cell _ gK (0 + (k : Int).toNat * 4 + 0) = some (.int .i64 (sv : Int)) := a3 0 (.int .i64 (sv : Int)) (show some (Value.int .i64 (m.s.src.getD k 0)) = _ by rw [hsv])
   have c1 : GHeap.cell _ gK (0 + (k : Int).toNat * 4 + 1) = some (.int .i64 (tv : Int)) := a3 1 (.int .i64 (tv : Int)) (show some (Value.int .i64 (m.s.tgt.getD k 0)) = _ by rw [htv])
   have i7 : GHeap.get q3 j4 = some (.row (ints ((m.atL m.sz.length k).getD sv [] ++ [(k : Int)])) 2 true) := by rw [ints_snoc1]; exact j2
   have j8 := o6.app b0 (by omega) hgr hgo i7 j7 (by omega)
   have i9 := d
   refine .q rfl (.idxN sl_23_B (by first | exact (Intss.sl (by assumption)) | exact SlA.of_row d (by first | rfl | (simp; done) | (simp <;> omega))) rfl rfl (by omega)) ?_
   refine .r0 rfl rfl (.storeR rfl sz_22_E rfl rfl rfl (by assumption) (by first | exact Nat.le_of_ble_eq_true rfl | (simp; done) | (simp <;> omega))) ?_
   rintro _ H7010 ⟨rfl, b7, g⟩
   have nx_H7010 := b7.nx
   replace l := l.sA b7
   have a1 : NE p5 c9 := .a
   replace w := b7.s w a1.ne
   clear hKc hKs szs
   clear a3 c0 c1
   have l7 := j8.st0 b7 (j8.R.neT i9 rfl) (j8.O.neT i9 rfl)
   rw [Nat.zero_add, slsL_set (ys := (m.atL m.sz.length k).getD sv [] ++ [(k : Int)]) (by omega) (by rw [List.length_append, List.length_singleton])] at g
   have p3 := ne_upd (r := ra) (i := sv) (hE.O.neT d7 rfl) (show j4 ≠ d4 by omega)
   refine .nil (l6 _ _ (.seq (fun K11 l9 => .region (.mv rfl (.mv rfl (.q rfl (.cmp rfl rfl rfl) (.nil (l9 _ _ ?_))))))))
   refine .cond rfl (fun n0 => ?_) (fun n0 => ?_)
   ·
    simp only [sps] at n0
    refine .region (.mv rfl (.mv rfl (.mv rfl (.mv rfl ?_))))
    obtain ⟨rows, hrows⟩ : ∃ z, z = (m.atL m.sz.length k).set sv ((m.atL m.sz.length k).getD sv [] ++ [(k : Int)]) := ⟨_, rfl⟩
    have hrwl : rows.length = m.sz.length := by rw [hrows, List.length_set]; omega
    rw [← hrows] at g l7
    have hrl2 : (rows.getD tv []).length ≤ k := by rw [hrows, getD_set2 (by omega), if_neg (by omega), Prof.atL_get (by omega)]; exact Prof.atN_le _ _ _
    have cC := slsL_cell g (i := tv) (by omega)
    refine .q rfl (.idxN sl_23_B (by first | exact (Intss.sl (by assumption)) | exact SlA.of_row g (by first | rfl | (simp; done) | (simp <;> omega))) rfl rfl (by omega)) ?_
    refine .q rfl (.load on_22_B rfl cC) (.mv rfl ?_)
    refine .R rfl (.litA rfl sl_22_A ze_2_E rfl rfl rfl rfl) ?_
    rintro _ H64 ⟨g64, rfl, f0, ge64, g9⟩
    replace l := l.le f0
    replace w := f0.2 _ _ w
    replace g := f0.2 _ _ g
    have lt_at64 := GHeap.ltg g9
    have o4 := l7.mono f0
    obtain ⟨gj, hSl, hgr, hgo, hor⟩ := o4.pick (i := tv) (by omega) o2 (fun j hj => p3 j (by omega))
    have hlj : gj < HL1.next := by
      rcases hor with h | ⟨h, _⟩
      · omega
      · rw [upd_ne (by omega)] at h
        exact hE.O.lt (by omega) h
    have hge2 : gj = d4 ∨ h4.next ≤ gj := hor.imp id fun h => h.2.1
    have m2 : c9 ≠ gj := by
      rcases hor with h | ⟨_, _, cs, h⟩
      · omega
      · exact row_ne g h rfl
    refine .R rfl (.appendVO rfl sl_22_A ze_2_E rfl by_2_E sl_22_A rfl rfl hSl g9 (by simp) (by omega) rfl rfl (by omega) (by omega)) ?_
    rintro _ p6 ⟨o5, rfl, e7, n2, k8⟩
    replace l := l.sA e7
    replace w := e7.s w
    replace g := e7.s g
    have g6 : GHeap.get p6 o5 = some (.row (ints (rows.getD tv [] ++ [(k : Int)])) 2 true) := by rw [ints_snoc1]; exact k8
    have k5 := o4.app e7 (by omega) hgr hgo g6 n2 (by omega)
    have i5 := g
    refine .q rfl (.idxN sl_23_B (by first | exact (Intss.sl (by assumption)) | exact SlA.of_row g (by first | rfl | (simp; done) | (simp <;> omega))) rfl rfl (by omega)) ?_
    refine .r0 rfl rfl (.storeR rfl sz_22_E rfl rfl rfl (by assumption) (by first | exact Nat.le_of_ble_eq_true rfl | (simp; done) | (simp <;> omega))) ?_
    rintro _ H9010 ⟨rfl, c4, e4⟩
    replace l := l.sA c4
    replace w := c4.s w a1.ne
    have q8 := k5.st0 c4 (k5.R.neT i5 rfl) (k5.O.neT i5 rfl)
    rw [Nat.zero_add, slsL_set (ys := rows.getD tv [] ++ [(k : Int)]) (by omega) (by rw [List.length_append, List.length_singleton])] at e4
    obtain ⟨rX, hrX⟩ : ∃ r, r = upd (upd ra sv (some ⟨j4, 0, none⟩)) tv (some ⟨o5, 0, none⟩) := ⟨_, rfl⟩
    have hEN := q8
    have p4 := Prof.atL_d (m := m) (N := m.sz.length) (k := k) hsv htv (by omega) (by omega) (by omega) hrows
    rw [← hrX, p4] at hEN e4
    refine .nil (o8 _ _ (.region (.mv rfl ?_)))
    refine .q rfl (.add rfl rfl rfl (by omega) (by omega)) ?_
    refine .mv rfl (.nil ?_)
    refine g8 ((k + 1, upd rr (m.s.endL k).length (some ⟨l4, 0, none⟩), rX, _, _)) _ _ ?_ ?_ ⟨rfl, rfl, rfl, rfl, rfl, rfl, trivial⟩
    ·
     refine ⟨l, by first | assumption | (rw [Cat.endL_succ, hsv, htv, slsL_snoc]; assumption), by omega, by first | omega | (simp only [List.length_append, List.length_cons, List.length_nil] <;> omega) | (rw [Cat.endL_succ, hsv, htv, slsL_snoc] <;> (first | omega | (simp only [List.length_append, List.length_cons, List.length_nil] <;> omega))), by first | assumption | (rw [Cat.endL_succ, hsv, htv, slsL_snoc]; assumption), by omega, ?_⟩
     exact ⟨by omega, by rw [Cat.endL_succ, hsv, htv]; exact hEN⟩
    (dsimp only; omega)
   simp only [sps] at n0
   obtain ⟨rX, hrX⟩ : ∃ r, r = upd ra sv (some ⟨j4, 0, none⟩) := ⟨_, rfl⟩
   have hEN := l7
   have p9 := Prof.atL_s (m := m) (N := m.sz.length) (k := k) hsv (s := sv) (by omega) (by omega)
   rw [← hrX, p9] at hEN g
   refine .skip ?_
   refine o8 _ _ (.region (.mv rfl ?_))
   refine .q rfl (.add rfl rfl rfl (by omega) (by omega)) ?_
   refine .mv rfl (.nil ?_)
   refine g8 ((k + 1, upd rr (m.s.endL k).length (some ⟨l4, 0, none⟩), rX, _, _)) _ _ ?_ ?_ ⟨rfl, rfl, rfl, rfl, rfl, rfl, trivial⟩
   ·
    refine ⟨l, by first | assumption | (rw [Cat.endL_succ, hsv, htv, slsL_snoc]; assumption), by omega, by first | omega | (simp only [List.length_append, List.length_cons, List.length_nil] <;> omega) | (rw [Cat.endL_succ, hsv, htv, slsL_snoc] <;> (first | omega | (simp only [List.length_append, List.length_cons, List.length_nil] <;> omega))), by first | assumption | (rw [Cat.endL_succ, hsv, htv, slsL_snoc]; assumption), by omega, ?_⟩
    exact ⟨by omega, by rw [Cat.endL_succ, hsv, htv]; exact hEN⟩
   (dsimp only; omega)
  simp only [sps] at m9
  obtain rfl : k = m.s.src.length := by omega
  have hiss := (hE.R.low (b' := 0) (by omega)).intss a2 (by omega)
  refine .exit ?_
  refine p2 _ _ (.seq (fun K12 n7 => .region (.mv rfl (.q rfl (.len sl_22_A rfl) (.mv rfl ?_)))))
  refine .call rfl rfl rfl rfl @Try.call78 rfl (l01JoinN_c (n := m.sz.length) (by omega) (by omega) hiss (by omega) (by omega) (fun i hi => by rw [Cat.endL_get (by omega)]; have w1 := hs.src i (by omega); have w2 := hs.tgt i (by omega); exact ⟨Nat.le_refl _, w1.1, by show m.s.src.getD i 0 < _; omega, w2.1, by show m.s.tgt.getD i 0 < _; omega⟩)) ?_
  rintro _ o3 ⟨f9, g70, rfl, a4, ge70⟩
  replace b := b.trans f9
  replace d := f9.2 _ _ d
  have lt_at70 := GHeap.ltg a4
  replace hin := f.mono b
  replace hsz := e.mono b
  have hKc : GHeap.get _ gK = some (.row (m.lnkV p m.s.src.length) 88 true) := b.2 _ _ hK0
  refine .mv rfl (.nil (n7 _ _ (.seq (fun K13 o1 => .seq (fun K14 m6 => .region ?_)))))
  have hTk : TkIn 88 22 o3 m p aS gK c9 ra := ⟨hin, hsz, hKc, d, fun i hi => by have := (hE.O.mono f9).ints i (by omega); rwa [Prof.atL_get hi] at this⟩
  have htb := topC_bd (cls := (joinL m.sz.length ((m.s.endL m.s.src.length).map fun p => (pA p, pB p)))) (c := 1048577) (by omega) (fun i hi => by have := joinL_in hi; omega) (n := (joinL m.sz.length ((m.s.endL m.s.src.length).map fun p => (pA p, pB p))).length) (Nat.le_refl _)
  refine .mv rfl (.nil (m6 _ _ ?_))
  refine .block ?_
  refine .loopR (σ := Nat) [(0, some _), (1, some _), (2, some _), (8, some _), (12, some _)] (fun x => [(13, some (.int .i64 (x : Int)))]) (fun x H' => St [] o3 H' ∧ (x : Int) ≤ topC (joinL m.sz.length ((m.s.endL m.s.src.length).map fun p => (pA p, pB p))) (joinL m.sz.length ((m.s.endL m.s.src.length).map fun p => (pA p, pB p))).length ∧ TkIn 88 22 H' m p aS gK c9 ra) (fun x => (topC (joinL m.sz.length ((m.s.endL m.s.src.length).map fun p => (pA p, pB p))) (joinL m.sz.length ((m.s.endL m.s.src.length).map fun p => (pA p, pB p))).length).toNat - x) (0) ⟨rfl, rfl, rfl, rfl, rfl, trivial⟩ ⟨rfl, trivial⟩ ?_ ?_
  ·
   refine ⟨.refl _ _, ?_⟩
   exact ⟨by omega, hTk⟩
  rintro x HL2 ⟨a0, hI⟩ KL2 n8
  refine .forget (fr' := [(13, some (.int .i64 (x : Int))), (0, some _), (1, some _), (2, some _), (8, some _), (12, some _)]) ⟨rfl, rfl, rfl, rfl, rfl, rfl, trivial⟩ ?_
  have nx_HL2 := a0.nx
  replace b := b.st a0 (fun k hk => trivial)
  replace a4 := a0.same _ _ trivial a4
  clear hKc
  have k7 := Ints.of_get a4
  have g1 := St.refl [] HL2
  obtain ⟨-, f7⟩ := hI
  refine .seq (fun K15 j6 => .seq (fun K16 n9 => .region (.mv rfl (.mv rfl ?_))))
  refine .call rfl rfl rfl rfl @Try.call79 rfl (l22Top_c (cls := (joinL m.sz.length ((m.s.endL m.s.src.length).map fun p => (pA p, pB p)))) (hc := fun i hi => by have := joinL_in hi; omega) (hl := by omega)) ?_
  rintro _ _ ⟨rfl, rfl⟩
  refine .q rfl (.cmp rfl rfl rfl) (.nil (n9 _ _ ?_))
  refine .cond rfl (fun m8 => ?_) (fun m8 => ?_)
  ·
   simp only [sps] at m8
   have hNp := topC_pos (cls := (joinL m.sz.length ((m.s.endL m.s.src.length).map fun p => (pA p, pB p)))) (n := (joinL m.sz.length ((m.s.endL m.s.src.length).map fun p => (pA p, pB p))).length) (by omega)
   refine .skip ?_
   refine j6 _ _ (.seq (fun K17 j5 => ?_))
   refine .block ?_
   refine .seq (fun K18 k1 => .region ?_)
   refine .R rfl (.litA rfl sl_22_A ze_2_E rfl rfl rfl rfl) ?_
   rintro _ l2 ⟨h3, rfl, e9, ge77, d8⟩
   replace b := b.trans e9
   replace a0 := a0.le e9
   replace g1 := g1.le e9
   replace a4 := e9.2 _ _ a4
   have lt_at77 := GHeap.ltg d8
   clear k7
   replace d8 : GHeap.get l2 h3 = some (.row (ints []) 2 true) := d8
   refine .mv rfl (.nil (k1 _ _ (.seq (fun K19 m0 => .seq (fun K20 k0 => .region (.mv rfl (.nil (k0 _ _ ?_))))))))
   refine .block ?_
   refine .loopR (σ := Nat × Nat × Nat) [(0, some _), (1, some _), (2, some _), (8, some _), (12, some _), (13, some _)] (fun (y, a6, a8) => [(15, some (.int .i64 (y : Int))), (14, some (.slice (some ⟨a6, 0, none⟩) a8 a8))]) (fun (y, a6, a8) H' => St [h3] l2 H' ∧ H'.get a6 = some (.row (ints (startL (joinL m.sz.length ((m.s.endL m.s.src.length).map fun p => (pA p, pB p))) x y)) 2 true) ∧ (a6 = h3 ∨ l2.next ≤ a6) ∧ a8 = (startL (joinL m.sz.length ((m.s.endL m.s.src.length).map fun p => (pA p, pB p))) x y).length ∧ y ≤ m.sz.length ∧ (y = 0 ∨ a6 ≠ h3)) (fun (y, a6, a8) => m.sz.length - y) ((0, _, _)) ⟨rfl, rfl, rfl, rfl, rfl, rfl, trivial⟩ ⟨rfl, rfl, trivial⟩ ?_ ?_
   ·
    refine ⟨.refl _ _, by first | assumption | exact d8 | simpa using d8, .inl rfl, by first | rfl | assumption | simp | omega, ?_⟩
    exact ⟨by omega, .inl rfl⟩
   rintro ⟨y, a6, a8⟩ HL3 ⟨u, o, pl_L14, c6, hI⟩ KL3 i1
   refine .forget (fr' := [(15, some (.int .i64 (y : Int))), (14, some (.slice (some ⟨a6, 0, none⟩) a8 a8)), (0, some _), (1, some _), (2, some _), (8, some _), (12, some _), (13, some _)]) ⟨rfl, rfl, rfl, rfl, rfl, rfl, rfl, rfl, trivial⟩ ?_
   have nx_HL3 := u.nx
   replace b := b.st u (fun k hk => ⟨by omega, trivial⟩)
   replace a0 := a0.sA u
   replace g1 := g1.sA u
   replace a4 := u.s a4
   have lt_at_L14 := GHeap.ltg o
   have k7 := Ints.of_get a4
   obtain ⟨hy, hyg⟩ := hI
   have hyl := length_startL (joinL m.sz.length ((m.s.endL m.s.src.length).map fun p => (pA p, pB p))) x y
   refine .seq (fun K21 k4 => .seq (fun K22 n3 => .region (.mv rfl (.mv rfl (.q rfl (.len sl_22_A rfl) (.q rfl (.cmp rfl rfl rfl) (.nil (n3 _ _ ?_))))))))
   refine .cond rfl (fun n1 => ?_) (fun n1 => ?_)
   ·
    simp only [sps, length_joinL] at n1
    refine .skip ?_
    refine k4 _ _ (.seq (fun K23 i0 => ?_))
    refine .block ?_
    refine .seq (fun K24 k6 => .region (.mv rfl (.mv rfl ?_)))
    refine .q rfl (.idxN sl_22_A (by first | assumption | exact SlA.of_row a4 (by first | rfl | (simp; done) | (simp <;> omega))) rfl rfl (by omega)) ?_
    refine .q rfl (.loadI on_2_A (by first | assumption | exact Ints.of_get a4) rfl (by omega)) ?_
    refine .mv rfl (.q rfl (.cmp rfl rfl rfl) (.nil (k6 _ _ ?_)))
    refine .cond rfl (fun d9 => ?_) (fun d9 => ?_)
    ·
     simp only [sps] at d9
     refine .region (.mv rfl ?_)
     refine .R rfl (.litA rfl sl_22_A ze_2_E rfl rfl rfl rfl) ?_
     rintro _ H91 ⟨g91, rfl, g3, ge91, m7⟩
     replace u := u.le g3
     replace o := g3.2 _ _ o
     have lt_at91 := GHeap.ltg m7
     clear k7
     refine .R rfl (.appendI rfl sl_22_A ze_2_E rfl by_2_E sl_22_A rfl rfl (by assumption) (by assumption) (by first | omega | (simp <;> omega)) (by omega) (by omega)) ?_
     rintro _ H92 ⟨g92, rfl, n4, ge92, at92⟩
     replace u := u.sA n4
     refine .mv rfl (.nil (i0 _ _ (.region (.mv rfl ?_))))
     refine .q rfl (.add rfl rfl rfl (by omega) (by omega)) ?_
     refine .mv rfl (.nil ?_)
     refine i1 ((y + 1, _, _)) _ _ ?_ ?_ ⟨rfl, rfl, rfl, rfl, rfl, rfl, rfl, rfl, trivial⟩
     ·
      refine ⟨u, by first | assumption | (rw [startL_T d9]; assumption) | (rw [startL_F d9]; assumption), by omega, by first | omega | (simp only [List.length_append, List.length_cons, List.length_nil] <;> omega) | (rw [startL_T d9] <;> (first | omega | (simp only [List.length_append, List.length_cons, List.length_nil] <;> omega))) | (rw [startL_F d9] <;> (first | omega | (simp only [List.length_append, List.length_cons, List.length_nil] <;> omega))), ?_⟩
      exact ⟨by omega, .inr (by omega)⟩
     (dsimp only; omega)
    simp only [sps] at d9
    refine .region (.mv rfl ?_)
    refine .R rfl (.litA rfl sl_22_A ze_2_E rfl rfl rfl rfl) ?_
    rintro _ H94 ⟨g94, rfl, i4, ge94, k2⟩
    replace u := u.le i4
    replace o := i4.2 _ _ o
    have lt_at94 := GHeap.ltg k2
    refine .R rfl (.appendI rfl sl_22_A ze_2_E rfl by_2_E sl_22_A rfl rfl (by assumption) (by assumption) (by first | omega | (simp <;> omega)) (by omega) (by omega)) ?_
    rintro _ H95 ⟨g95, rfl, l8, ge95, at95⟩
    replace u := u.sA l8
    refine .mv rfl (.nil (i0 _ _ (.region (.mv rfl ?_))))
    refine .q rfl (.add rfl rfl rfl (by omega) (by omega)) ?_
    refine .mv rfl (.nil ?_)
    refine i1 ((y + 1, _, _)) _ _ ?_ ?_ ⟨rfl, rfl, rfl, rfl, rfl, rfl, rfl, rfl, trivial⟩
    ·
     refine ⟨u, by first | assumption | (rw [startL_T d9]; assumption) | (rw [startL_F d9]; assumption), by omega, by first | omega | (simp only [List.length_append, List.length_cons, List.length_nil] <;> omega) | (rw [startL_T d9] <;> (first | omega | (simp only [List.length_append, List.length_cons, List.length_nil] <;> omega))) | (rw [startL_F d9] <;> (first | omega | (simp only [List.length_append, List.length_cons, List.length_nil] <;> omega))), ?_⟩
     exact ⟨by omega, .inr (by omega)⟩
    (dsimp only; omega)
   simp only [sps, length_joinL] at n1
   obtain rfl : y = m.sz.length := by omega
   refine .exit ?_
   refine m0 _ _ (.seq (fun K25 l1 => .region (.mv rfl (.mv rfl (.mv rfl (.q rfl (.build bt_116_Nc rfl rfl tk_build1) ?_))))))
   refine .R rfl (.boxR rfl sz_116_Nc rfl) ?_
   rintro _ H100 ⟨i6, rfl, d0, ge100, f3⟩
   replace b := b.trans d0
   replace a0 := a0.le d0
   replace g1 := g1.le d0
   replace o := d0.2 _ _ o
   have lt_at100 := GHeap.ltg f3
   refine .mv rfl (.nil (l1 _ _ (.seq (fun K26 k9 => .region (.mv rfl (.mv rfl ?_))))))
   have o7 := g1.le_of_nil
   refine .call rfl rfl rfl rfl @Try.call80 rfl ((l22Go_c f7 hP he (M := 1) (by omega) _ i6 h3 a6 H.next a8 (startL (joinL m.sz.length ((m.s.endL m.s.src.length).map fun p => (pA p, pB p))) x m.sz.length) [] _ rfl o7 (by omega) (by omega) (by omega) (by omega) (by omega) (by omega) (by omega) o c6.symm (c6.trans (length_startL _ _ _)) (fun i hi => by rw [c6, length_startL] at hi; have h1 := startL_lt (cls := (joinL m.sz.length ((m.s.endL m.s.src.length).map fun p => (pA p, pB p)))) (x := x) (m := 0) hi; have h2 := hP.z.diag he (i := i) (by omega); omega) ⟨none, fun _ => none, f3, .inl ⟨rfl, rfl, rfl⟩, .nil _ _ _ _⟩ (by simp))) ?_
   rintro _ l5 ⟨gF103, hg103, d2, hl103, h6⟩
   have nx_H103 := d2.nx
   replace b := b.st d2 (fun k hk => ⟨by omega, by omega, trivial⟩)
   replace a0 := a0.sA d2
   refine .nil (k9 _ _ (.seq (fun K27 k3 => .region ?_)))
   have hzz := o7.st d2 (fun k hk => ⟨by omega, by omega, trivial⟩)
   obtain ⟨j3, r2, e1, _, _⟩ := h6.ex
   have q0 : GHeap.cell l5 i6 (0 + 4) = some (.slice j3 _ _) := Mem.of_get e1 4 _ rfl
   refine .mv rfl (.q rfl (.nilCheck rfl) (.q rfl (.fieldAddr fo_116_4_Nb rfl) ?_))
   refine .q rfl (.load on_23_B rfl (by assumption)) ?_
   refine .q rfl (.len sl_23_B rfl) (.q rfl (.cmp rfl rfl rfl) (.nil (k3 _ _ ?_)))
   refine .cond rfl (fun f8 => ?_) (fun f8 => ?_)
   ·
    simp only [sps] at f8
    have h0 : (([] ++ m.enet.go (startL (joinL m.sz.length ((m.s.endL m.s.src.length).map fun p => (pA p, pB p))) x m.sz.length)).take 1).length = 0 := by omega
    rw [List.nil_append] at h0
    have hnil : m.ends = [] := Net.sols_nil hgood (take_one_nil h0)
    refine .seq (fun K28 n5 => .region ?_)
    refine .R rfl (.litA rfl sl_23_B ze_22_E rfl rfl rfl rfl) ?_
    rintro _ H110 ⟨l0, rfl, i8, ge110, j0⟩
    replace b := b.trans i8
    refine .mv rfl (.nil (n5 _ _ ?_))
    refine .ret ?_
    refine i2 _ _ ?_
    refine ⟨_, rfl, ?_⟩
    rw [hnil, List.take_nil]
    exact ⟨b, some ⟨l0, 0, none⟩, fun _ => none, rfl, (OwnL.nil H.next _ 2 (fun _ => none)).done j0 (by omega)⟩
   simp only [sps] at f8
   refine .skip ?_
   refine j5 _ _ (.region (.mv rfl ?_))
   refine .q rfl (.add rfl rfl rfl (by omega) (by omega)) ?_
   refine .mv rfl (.nil ?_)
   refine n8 (x + 1) _ _ ?_ ?_ ⟨rfl, rfl, rfl, rfl, rfl, rfl, trivial⟩
   ·
    refine ⟨a0, ?_⟩
    exact ⟨by omega, f7.mono hzz⟩
   omega
  simp only [sps] at m8
  refine .exit ?_
  refine o1 _ _ (.seq (fun K29 l3 => .region (.mv rfl (.mv rfl (.mv rfl (.mv rfl ?_))))))
  refine .R rfl (.litA rfl sl_23_B ze_22_E rfl rfl rfl rfl) ?_
  rintro _ H115 ⟨g4, rfl, f5, ge115, a7⟩
  replace b := b.trans f5
  have lt_at115 := GHeap.ltg a7
  refine .q rfl (.build bt_116_Nc rfl rfl tk_build2) ?_
  refine .R rfl (.boxR rfl sz_116_Nc rfl) ?_
  rintro _ H117 ⟨i3, rfl, e0, ge117, d1⟩
  replace b := b.trans e0
  replace a7 := e0.2 _ _ a7
  have lt_at117 := GHeap.ltg d1
  refine .mv rfl (.nil (l3 _ _ (.seq (fun K30 n6 => .region (.mv rfl (.mv rfl (.q rfl (.len sl_22_A rfl) ?_)))))))
  refine .call rfl rfl rfl rfl @Try.call81 rfl (l22Repeat_c (v := -1) (n := m.sz.length) (by omega)) ?_
  rintro _ H121 ⟨d3, m3, rfl, f4, ge121⟩
  replace b := b.trans d3
  replace a7 := d3.2 _ _ a7
  replace d1 := d3.2 _ _ d1
  have lt_at121 := GHeap.ltg f4
  refine .call rfl rfl rfl rfl @Try.call80 rfl ((l22Go_c f7 hP he (M := 201) (by omega) _ i3 g4 m3 H.next (List.replicate m.sz.length (-1)).length (List.replicate m.sz.length (-1)) [] _ rfl (f5.trans (e0.trans d3)) (by omega) (by omega) (by omega) (by omega) (by omega) (by omega) (by omega) f4 rfl (by simp) (fun i hi => by rw [List.length_replicate] at hi; have h1 := repl_lt (n := m.sz.length) (m := 0) hi; have h2 := hP.z.diag he (i := i) (by omega); omega) ⟨some ⟨g4, 0, none⟩, fun _ => none, d1, .inr ⟨rfl, by omega, a7⟩, .nil _ _ _ _⟩ (by simp))) ?_
  rintro _ j9 ⟨gF122, hg122, h9, hl122, j1⟩
  replace b := b.st h9 (fun k hk => ⟨by omega, by omega, trivial⟩)
  refine .nil (n6 _ _ (.seq (fun K31 m4 => .region ?_)))
  obtain ⟨j3, r2, e1, e2, e3⟩ := j1.ex
  have q0 : GHeap.cell j9 i3 (0 + 4) = some (.slice j3 _ _) := Mem.of_get e1 4 _ rfl
  refine .mv rfl (.q rfl (.nilCheck rfl) (.q rfl (.fieldAddr fo_116_4_Nb rfl) ?_))
  refine .q rfl (.load on_23_B rfl (by assumption)) ?_
  refine .mv rfl (.nil (m4 _ _ ?_))
  refine .ret ?_
  refine i2 _ _ ?_
  refine ⟨_, rfl, ?_⟩
  have hga : m.enet.go (List.replicate m.sz.length (-1)) = m.ends := Net.go_all hgood
  rw [List.nil_append, hga] at e2 e3
  refine ⟨b, j3, r2, ?_, SlO.intssr e2 e3⟩
  rw [List.nil_append, hga]
set_option maxHeartbeats 4000000 in
theorem l22End_c {m : Prof} {p : ProfP} {H : GHeap} (hin : m.In H p := by assumption) (hP : m.Shape) (he : m.s = m.t) :
    GCalls Try.prog 23 [.agg (m.cells p).toArray] H (NewIntssR H (m.ends.take 201)) := by
  have hs := hP.s.1
  have b1 := hs.n40
  have b2 := hs.tl
  have b3 := hs.obj
  have b4 := hP.z.sl
  refine GCalls.body (N := 74) (rs := [.tmp 2]) Try.func23 rfl rfl rfl rfl (fun Qx a8 hend => ?_)
  refine .fg [0] rfl ?_
  have e := GHeap.Le.refl H
  have b := hin
  refine .seq (fun K1 e0 => .region ?_)
  refine .R rfl (.boxR rfl sz_34_VProf rfl) ?_
  rintro _ H1 ⟨g1, rfl, f0, ge1, d⟩
  replace e := e.trans f0
  have lt_at1 := GHeap.ltg d
  replace hin := b.mono e
  have f : Prof.At _ g1 0 m p := ⟨Mem.of_get d, hin⟩
  refine .mv rfl (.nil (e0 _ _ (.seq (fun K2 e4 => .region ?_))))
  refine .R rfl (.litA rfl sl_22_A ze_2_E rfl rfl rfl rfl) ?_
  rintro _ H9 ⟨g9, rfl, d8, ge9, a2⟩
  replace e := e.trans d8
  replace d := d8.2 _ _ d
  have lt_at9 := GHeap.ltg a2
  replace hin := b.mono e
  clear f
  have f : Prof.At _ g1 0 m p := ⟨Mem.of_get d, hin⟩
  replace a2 : GHeap.get H9 g9 = some (.row (ints []) 2 true) := a2
  refine .R rfl (.litA rfl sl_86_Nb ze_88_Nb rfl rfl rfl rfl) ?_
  rintro _ c9 ⟨d3, rfl, a3, ge10, n⟩
  replace e := e.trans a3
  replace d := a3.2 _ _ d
  replace a2 := a3.2 _ _ a2
  have lt_at10 := GHeap.ltg n
  replace hin := b.mono e
  clear f
  have f : Prof.At _ g1 0 m p := ⟨Mem.of_get d, hin⟩
  refine .mv rfl (.mv rfl (.nil (e4 _ _ (.seq (fun K3 e9 => .seq (fun K4 e1 => .region (.mv rfl (.nil (e1 _ _ ?_)))))))))
  refine .block ?_
  refine .loopR (σ := Nat × Nat × Nat) [(1, some _), (4, some _)] (fun (x, u, y) => [(5, some (.int .i64 (x : Int))), (3, some (.slice (some ⟨u, 0, none⟩) y y))]) (fun (x, u, y) H' => St [g9] c9 H' ∧ H'.get u = some (.row (ints (m.diagL x)) 2 true) ∧ (u = g9 ∨ c9.next ≤ u) ∧ y = (m.diagL x).length ∧ x ≤ m.sz.length) (fun (x, u, y) => m.sz.length - x) ((0, _, _)) ⟨rfl, rfl, trivial⟩ ⟨rfl, rfl, trivial⟩ ?_ ?_
  ·
   refine ⟨.refl _ _, by first | assumption | exact a2 | simpa using a2, .inl rfl, by first | rfl | assumption | simp | omega, ?_⟩
   omega
  rintro ⟨x, u, y⟩ HL1 ⟨h, j, pl_L3, a7, hI⟩ KL1 b9
  refine .forget (fr' := [(5, some (.int .i64 (x : Int))), (3, some (.slice (some ⟨u, 0, none⟩) y y)), (1, some _), (4, some _)]) ⟨rfl, rfl, rfl, rfl, trivial⟩ ?_
  have ge_L3 : H.next ≤ u := by omega
  have nx_HL1 := h.nx
  replace e := e.st h (fun k hk => ⟨by omega, trivial⟩)
  replace d := h.s d
  replace n := h.s n
  replace hin := b.mono e
  clear f
  have f : Prof.At _ g1 0 m p := ⟨Mem.of_get d, hin⟩
  obtain ⟨r, -, b8, -, -, d7, -, -⟩ := f.get
  have hdl := m.length_diagL x
  refine .seq (fun K5 f1 => .seq (fun K6 e3 => .region (.mv rfl (.q rfl (.fieldAddr fo_34_0_VProf rfl) (.q rfl (.fieldAddr fo_32_0_B rfl) ?_)))))
  refine .q rfl (.load on_2_A rfl (by first | assumption | exact Mem.of_get d 0 _ rfl)) ?_
  refine .q rfl (.cmp rfl rfl rfl) (.nil (e3 _ _ ?_))
  refine .cond rfl (fun c6 => ?_) (fun c6 => ?_)
  ·
   simp only [sps] at c6
   have hdx := hP.z.diag he (i := x) (by omega)
   have u1 := d7.2 x (by omega)
   refine .skip ?_
   refine f1 _ _ (.seq (fun K7 f3 => ?_))
   refine .block ?_
   refine .region (.mv rfl (.q rfl (.fieldAddr fo_34_2_VProf rfl) ?_))
   refine .q rfl (.load on_23_B rfl (by first | assumption | exact Mem.of_get d 10 _ rfl)) ?_
   refine .mv rfl ?_
   refine .q rfl (.idxN sl_23_B (Intss.sl (by assumption)) rfl rfl (by omega)) ?_
   refine .q rfl (.loadR on_22_B (by assumption) rfl (by omega)) ?_
   refine .mv rfl ?_
   refine .q rfl (.idxN sl_22_A (by assumption) rfl rfl (by omega)) ?_
   refine .q rfl (.loadI on_2_A (by assumption) rfl (by omega)) ?_
   refine .R rfl (.litA rfl sl_22_A ze_2_E rfl rfl rfl rfl) ?_
   rintro _ H27 ⟨g27, rfl, a0, ge27, c7⟩
   replace e := e.trans a0
   replace h := h.le a0
   replace d := a0.2 _ _ d
   replace j := a0.2 _ _ j
   have lt_at27 := GHeap.ltg c7
   replace hin := b.mono e
   clear f r b8 d7
   have f : Prof.At _ g1 0 m p := ⟨Mem.of_get d, hin⟩
   obtain ⟨r, -, -, -, -, -, -, -⟩ := f.get
   clear u1
   refine .R rfl (.appendI rfl sl_22_A ze_2_E rfl by_2_E sl_22_A rfl rfl (by assumption) (by assumption) (by first | omega | (simp <;> omega)) (by omega) (by omega)) ?_
   rintro _ H28 ⟨g28, rfl, a4, ge28, at28⟩
   replace e := e.st a4 (fun k hk => ⟨by omega, trivial⟩)
   replace h := h.sA a4
   replace d := a4.s d
   replace hin := b.mono e
   clear f r
   have f : Prof.At _ g1 0 m p := ⟨Mem.of_get d, hin⟩
   obtain ⟨r, -, -, -, -, -, -, -⟩ := f.get
   refine .mv rfl (.nil (f3 _ _ (.region (.mv rfl ?_))))
   refine .q rfl (.add rfl rfl rfl (by omega) (by omega)) ?_
   refine .mv rfl (.nil ?_)
   refine b9 ((x + 1, _, _)) _ _ ?_ ?_ ⟨rfl, rfl, rfl, rfl, trivial⟩
   ·
    refine ⟨h, by first | assumption | (rw [Prof.diagL_succ]; assumption), by omega, by first | omega | (simp only [List.length_append, List.length_cons, List.length_nil] <;> omega) | (rw [Prof.diagL_succ] <;> (first | omega | (simp only [List.length_append, List.length_cons, List.length_nil] <;> omega))), ?_⟩
    omega
   (dsimp only; omega)
  simp only [sps] at c6
  obtain rfl : x = m.sz.length := by omega
  refine .exit ?_
  refine e9 _ _ (.seq (fun K8 f2 => .seq (fun K9 e2 => .region (.mv rfl (.nil (e2 _ _ ?_))))))
  refine .block ?_
  refine .loopR (σ := Nat × Nat × Nat) [(1, some _), (3, some _)] (fun (k, v, w) => [(6, some (.int .i64 (k : Int))), (4, some (.slice (some ⟨v, 0, none⟩) w w))]) (fun (k, v, w) H' => St [d3] HL1 H' ∧ H'.get v = some (.row (m.lnkV p k) 88 true) ∧ (v = d3 ∨ HL1.next ≤ v) ∧ w = k ∧ k ≤ m.s.src.length) (fun (k, v, w) => m.s.src.length - k) ((0, _, _)) ⟨rfl, rfl, trivial⟩ ⟨rfl, rfl, trivial⟩ ?_ ?_
  ·
   refine ⟨.refl _ _, by first | assumption | exact n | simpa using n, .inl rfl, by first | rfl | assumption | simp | omega, ?_⟩
   omega
  rintro ⟨k, v, w⟩ HL2 ⟨g, l, pl_L4, a6, hI⟩ KL2 b5
  refine .forget (fr' := [(6, some (.int .i64 (k : Int))), (4, some (.slice (some ⟨v, 0, none⟩) w w)), (1, some _), (3, some _)]) ⟨rfl, rfl, rfl, rfl, trivial⟩ ?_
  have ge_L4 : H.next ≤ v := by omega
  have nx_HL2 := g.nx
  replace e := e.st g (fun k hk => ⟨by omega, trivial⟩)
  replace d := g.s d
  replace j := g.s j
  replace hin := b.mono e
  have f : Prof.At _ g1 0 m p := ⟨Mem.of_get d, hin⟩
  obtain ⟨r, -, -, c8, c5, -, d9, d4⟩ := f.get
  have hll := m.length_lnkV p k
  refine .seq (fun K10 c4 => .seq (fun K11 a9 => .region (.mv rfl (.q rfl (.fieldAddr fo_34_0_VProf rfl) (.q rfl (.fieldAddr fo_32_1_B rfl) ?_)))))
  refine .q rfl (.load on_22_B rfl (by first | assumption | exact Mem.of_get d 1 _ rfl)) ?_
  refine .q rfl (.len sl_22_A rfl) (.q rfl (.cmp rfl rfl rfl) (.nil (a9 _ _ ?_)))
  refine .cond rfl (fun c2 => ?_) (fun c2 => ?_)
  ·
   simp only [sps] at c2
   obtain ⟨q1, q2, q3, q4, -, q6, -, q8, q9, -, -, -, -⟩ := hP.en he (a := k) (by omega)
   obtain ⟨-, d1, d2, -, -, d5, d6, -, -⟩ := r.get
   have u3 := d9.2 k (by omega)
   have u4 := d4.2 k (by omega)
   refine .skip ?_
   refine c4 _ _ (.seq (fun K12 b0 => ?_))
   refine .block ?_
   refine .seq (fun K13 c3 => ?_)
   refine .regionD mo_B (.q 0 (.q 1 (.q 2 (.q 3 (.q 4 (.q 5 (.q 6 (.q 7 (.q 8 (.q 9 (.q 10 (.q 11 (.q 12 (.q 13 (.done))))))))))))))) (by kernel_rfl) ?_
   refine .q rfl (.fieldAddr fo_34_0_VProf rfl) (.q rfl (.fieldAddr fo_32_1_B rfl) ?_)
   refine .q rfl (.load on_22_B rfl (by first | assumption | exact Mem.of_get d 1 _ rfl)) ?_
   refine .mv rfl rfl ?_
   refine .q rfl (.idxN sl_22_A (by assumption) rfl rfl (by omega)) ?_
   refine .q rfl (.loadI on_2_A (by assumption) rfl (by omega)) ?_
   refine .q rfl (.fieldAddr fo_34_0_VProf rfl) (.q rfl (.fieldAddr fo_32_2_B rfl) ?_)
   refine .q rfl (.load on_22_B rfl (by first | assumption | exact Mem.of_get d 2 _ rfl)) ?_
   refine .mv rfl rfl ?_
   refine .q rfl (.idxN sl_22_A (by assumption) rfl rfl (by omega)) ?_
   refine .q rfl (.loadI on_2_A (by assumption) rfl (by omega)) ?_
   refine .mv rfl rfl (.mv rfl rfl ?_)
   refine .done ?_
   refine c3 _ _ ?_
   refine .regionD mo_B (.q 0 (.q 1 (.q 2 (.q 3 (.q 4 (.q 5 (.q 6 (.q 7 (.q 8 (.q 9 (.q 10 (.q 11 (.q 12 (.q 13 (.q 14 (.q 15 (.q 16 (.q 17 (.q 18 (.q 19 (.c 20 1 (.c 21 0 (.c 22 0 (.done)))))))))))))))))))))))) (by kernel_rfl) ?_
   refine .mv rfl rfl (.mv rfl rfl (.mv rfl rfl (.q rfl (.fieldAddr fo_34_4_VProf rfl) ?_)))
   refine .q rfl (.load on_26_VProf rfl (by first | assumption | exact Mem.of_get d 12 _ rfl)) ?_
   refine .mv rfl rfl ?_
   refine .q rfl (.idxN sl_26_VZ (Intsss.sl (by assumption)) rfl rfl (by omega)) ?_
   refine .q rfl (.loadRR on_23_B (by assumption) rfl (by omega)) ?_
   refine .mv rfl rfl ?_
   refine .q rfl (.idx1 sl_23_B (Intss.sl (by assumption)) rfl rfl (by omega) (by omega)) ?_
   refine .q rfl (.loadR on_22_B (by assumption) rfl (by omega)) ?_
   refine .q rfl (.fieldAddr fo_34_3_VProf rfl) ?_
   refine .q rfl (.load on_26_VProf rfl (by first | assumption | exact Mem.of_get d 11 _ rfl)) ?_
   refine .mv rfl rfl ?_
   refine .q rfl (.idxN sl_26_VZ (Intsss.sl (by assumption)) rfl rfl (by omega)) ?_
   refine .q rfl (.loadRR on_23_B (by assumption) rfl (by omega)) ?_
   refine .mv rfl rfl ?_
   refine .q rfl (.idx1 sl_23_B (Intss.sl (by assumption)) rfl rfl (by omega) (by omega)) ?_
   refine .q rfl (.loadR on_22_B (by assumption) rfl (by omega)) ?_
   refine .q rfl (.build bt_88_Nc rfl rfl rfl) ?_
   refine .c1 rfl rfl rfl rfl (.litA rfl sl_86_Nb ze_88_Nb rfl rfl rfl rfl) ?_
   rintro _ H69 ⟨g69, rfl, o, ge69, b7⟩
   have e8 := o
   refine ⟨e8, ?_⟩
   replace e := e.trans o
   replace g := g.le o
   replace d := o.2 _ _ d
   replace l := o.2 _ _ l
   have lt_at69 := GHeap.ltg b7
   replace hin := b.mono e
   clear f r c8 c5 d9 d4
   have f : Prof.At _ g1 0 m p := ⟨Mem.of_get d, hin⟩
   obtain ⟨r, -, -, -, -, -, -, -⟩ := f.get
   clear d1 d2 d5 d6 u3 u4
   refine .c0 rfl rfl rfl rfl (.appendV rfl sl_86_Nb ze_88_Nb rfl by_88_Nc sl_86_Nb rfl rfl (by assumption) (by assumption) (by first | omega | (simp <;> omega)) rfl rfl (by omega) (by omega)) ?_
   rintro _ H70 ⟨g70, rfl, a1, ge70, at70⟩
   replace e := e.st a1 (fun k hk => ⟨by omega, trivial⟩)
   replace g := g.sA a1
   replace d := a1.s d
   replace hin := b.mono e
   clear f r
   have f : Prof.At _ g1 0 m p := ⟨Mem.of_get d, hin⟩
   obtain ⟨r, -, -, -, -, -, -, -⟩ := f.get
   refine .d0 rfl rfl rfl rfl (.quiet (.assign rfl) CIs.mk) ?_
   refine .done ?_
   refine b0 _ _ (.region (.mv rfl ?_))
   refine .q rfl (.add rfl rfl rfl (by omega) (by omega)) ?_
   refine .mv rfl (.nil ?_)
   refine b5 ((k + 1, _, _)) _ _ ?_ ?_ ⟨rfl, rfl, rfl, rfl, trivial⟩
   ·
    refine ⟨g, by first | assumption | (rw [Prof.lnkV_succ]; assumption), by omega, by first | omega | (simp only [List.length_append, List.length_cons, List.length_nil] <;> omega) | (rw [Prof.lnkV_succ] <;> (first | omega | (simp only [List.length_append, List.length_cons, List.length_nil] <;> omega))), ?_⟩
    omega
   (dsimp only; omega)
  simp only [sps] at c2
  obtain rfl : k = m.s.src.length := by omega
  refine .exit ?_
  refine f2 _ _ (.seq (fun K14 b6 => .region ?_))
  obtain rfl : y = m.sz.length := by rw [a7]; simp
  obtain rfl : w = m.s.src.length := a6
  refine .mv rfl (.mv rfl ?_)
  refine .call rfl rfl rfl rfl @Try.call51 rfl (l22Solve_c hin hP he (Ints.of_get j) l) ?_
  rintro _ H73 ⟨a5, e6, e7, rfl, e5⟩
  replace e := e.trans a5
  replace d := a5.2 _ _ d
  replace hin := b.mono e
  have f : Prof.At _ g1 0 m p := ⟨Mem.of_get d, hin⟩
  refine .mv rfl (.nil (b6 _ _ ?_))
  refine .ret ?_
  refine a8 _ _ ?_
  refine ⟨_, rfl, ?_⟩
  exact ⟨e, e6, e7, rfl, e5.keep (.of_le (.refl _)) (by omega)⟩
theorem specEndOf_c {m : Prof} {p : ProfP} {H : GHeap} (hin : m.In H p := by assumption) (hs : m.Small := by assumption) :
    GCalls Try.prog 6 [.agg (m.cells p).toArray] H (fun v H' => H.Le H' ∧ ∃ a r, v = .tuple #[.slice a m.endR.length m.endR.length, .int .i64 m.endC] ∧ IntssR H.next H' a m.endR r) := by
  refine GCalls.body (N := 17) (rs := [.tmp 2, .tmp 3]) Try.func6 rfl rfl rfl rfl (fun Qx d hend => ?_)
  refine .fg [0] rfl ?_
  have c := GHeap.Le.refl H
  have b := hin
  refine .seq (fun K1 a0 => .region ?_)
  refine .R rfl (.boxR rfl sz_34_VProf rfl) ?_
  rintro _ H1 ⟨g1, rfl, k, ge1, e⟩
  have nx_H1 := k.1
  replace c := c.trans k
  replace hin := b.mono c
  have h : Prof.At _ g1 0 m p := ⟨Mem.of_get e, hin⟩
  have o := h.2
  refine .mv rfl (.mv rfl (.nil (a0 _ _ (.seq (fun K2 u => .seq (fun K3 w => .region ?_))))))
  refine .q rfl (.loadM ag_34_VProf rfl ⟨rfl, Mem.of_get e⟩) ?_
  refine .callQ rfl rfl rfl rfl @Try.call22 rfl (l22Loop_c) ?_
  refine .mv rfl (.nil (w _ _ (.seq (fun K4 l => .region (.mv rfl (.q rfl (.cmp rfl rfl rfl) (.nil (l _ _ ?_))))))))
  refine .cond rfl (fun h9 => ?_) (fun h9 => ?_)
  ·
   simp only [sps] at h9
   refine .seq (fun K5 x => .region (.mv rfl (.mv rfl (.mv rfl (.nil (x _ _ ?_))))))
   refine .ret ?_
   refine d _ _ ?_
   refine ⟨_, _, rfl, rfl, ?_⟩
   obtain ⟨e1, e2⟩ := Prof.end_err h9
   rw [e1, e2]
   exact ⟨c, none, fun _ => none, rfl, .nil _ _ _⟩
  simp only [sps] at h9
  refine .skip ?_
  refine u _ _ (.seq (fun K6 t => .region ?_))
  obtain ⟨hI, he⟩ := Prof.of_code h9
  refine .q rfl (.loadM ag_34_VProf rfl ⟨rfl, Mem.of_get e⟩) ?_
  refine .call rfl rfl rfl rfl @Try.call23 rfl (l22End_c (hP := hI.1) (he := he)) ?_
  rintro _ H12 ⟨f, n, a1, rfl, j⟩
  replace c := c.trans f
  replace e := f.2 _ _ e
  replace hin := b.mono c
  clear h o
  have h : Prof.At _ g1 0 m p := ⟨Mem.of_get e, hin⟩
  refine .mv rfl (.nil (t _ _ (.seq (fun K7 z => .seq (fun K8 y => .region (.mv rfl (.q rfl (.len sl_23_B rfl) (.q rfl (.cmp rfl rfl rfl) (.nil (y _ _ ?_))))))))))
  refine .cond rfl (fun g => ?_) (fun g => ?_)
  ·
   simp only [sps] at g
   refine .seq (fun K9 s => .region (.mv rfl (.mv rfl (.nil (s _ _ ?_)))))
   refine .ret ?_
   refine d _ _ ?_
   refine ⟨_, _, rfl, rfl, ?_⟩
   obtain ⟨e1, e2⟩ := Prof.end_big h9 (by rw [List.length_take] at g; omega)
   rw [e1, e2]
   exact ⟨c, none, fun _ => none, rfl, .nil _ _ _⟩
  simp only [sps] at g
  refine .skip ?_
  refine z _ _ (.seq (fun K10 i => .region (.mv rfl (.mv rfl (.mv rfl (.nil (i _ _ ?_)))))))
  refine .ret ?_
  refine d _ _ ?_
  refine ⟨_, _, rfl, rfl, ?_⟩
  have hb : m.ends.length ≤ 200 := by rw [List.length_take] at g; omega
  obtain ⟨e1, e2⟩ := Prof.end_ok h9 hb
  have e3 : m.ends.take 201 = m.ends := List.take_of_length_le (by omega)
  rw [e3] at j
  rw [e1, e2, e3]
  exact ⟨c, n, a1, rfl, j.keep (.of_le (.refl _)) (by omega)⟩
end Go.Proofs.Ytdfnfdellpfjhaa
namespace Go.Proofs.Ytdfnfdellpfjhaa
open Go Go.GL Go.RowKit Go.Proofs
end Go.Proofs.Ytdfnfdellpfjhaa
namespace Go.Proofs.Ytdfnfdellpfjhaa
open Go Go.GL Go.RowKit Go.Proofs
end Go.Proofs.Ytdfnfdellpfjhaa
namespace Go.Proofs.Ytdfnfdellpfjhaa
open Go Go.GL Go.RowKit Go.Proofs
end Go.Proofs.Ytdfnfdellpfjhaa
namespace Go.Proofs.Ytdfnfdellpfjhaa
open Go Go.GL Go.RowKit Go.Proofs
end Go.Proofs.Ytdfnfdellpfjhaa
namespace Go.Proofs.Ytdfnfdellpfjhaa
open Go Go.GL Go.RowKit Go.Proofs
end Go.Proofs.Ytdfnfdellpfjhaa
namespace Go.Proofs.Ytdfnfdellpfjhaa
open Go Go.GL Go.RowKit Go.Proofs
end Go.Proofs.Ytdfnfdellpfjhaa
namespace Go.GL
def sumL3 : List (List (List Int)) → Nat
  | [] => 0
  | xs :: r => sumL xs + sumL3 r
theorem sumL3_take_succ {x : List (List (List Int))} {k : Nat} (h : k < x.length) : sumL3 (x.take (k + 1)) = sumL3 (x.take k) + sumL (x.getD k []) := by
  induction x generalizing k with
  | nil => simp at h
  | cons y r ih =>
    cases k with
    | zero => simp [sumL3]
    | succ k =>
      have := ih (k := k) (by simpa using h)
      simp only [List.take_succ_cons, sumL3, List.getD_cons_succ]
      omega
theorem sumL3_take_le {x : List (List (List Int))} {k : Nat} : sumL3 (x.take k) ≤ sumL3 x := by
  induction x generalizing k with
  | nil => simp
  | cons y r ih =>
    cases k with
    | zero => simp [sumL3]
    | succ k => simp only [List.take_succ_cons, sumL3]; have := ih (k := k); omega
theorem sumL3_le {m : Nat} : ∀ {x : List (List (List Int))}, (∀ i, sumL (x.getD i []) ≤ m) → sumL3 x ≤ x.length * m
  | [], _ => by simp [sumL3]
  | y :: r, h => by
    have h0 := h 0
    have := sumL3_le (x := r) fun i => by simpa using h (i + 1)
    simp only [sumL3, List.length_cons, Nat.add_mul]
    simp at h0
    omega
theorem sumL3_tot {x : List (List (List Int))} (h : Sm3 x) : sumL3 x ≤ 1048576 * (1048576 * 1048576) := by
  have := sumL3_le (m := 1048576 * 1048576) (x := x) fun i => sumL_tot (h.2 i).1 (h.2 i).2
  exact Nat.le_trans this (Nat.mul_le_mul_right _ h.1)
def rows3L (r : Nat → Nat → Option Addr) (x : List (List (List Int))) (n : Nat) : List Leaf := (List.range n).flatMap fun i => rowsL (r i) (x.getD i []) (x.getD i []).length
theorem rows3L_succ (r : Nat → Nat → Option Addr) (x : List (List (List Int))) (n : Nat) : rows3L r x (n + 1) = rows3L r x n ++ rowsL (r n) (x.getD n []) (x.getD n []).length := by simp [rows3L, List.range_succ]
theorem lvSum_rowsL_all (r : Nat → Option Addr) (xss : List (List Int)) : lvSum (rowsL r xss xss.length) = sumL xss := by rw [lvSum_rowsL r xss _ (Nat.le_refl _), List.take_length]
theorem lvSum_rows3L (r : Nat → Nat → Option Addr) (x : List (List (List Int))) : ∀ n, n ≤ x.length → lvSum (rows3L r x n) = sumL3 (x.take n)
  | 0, _ => by simp [rows3L, lvSum, sumL3]
  | n + 1, h => by rw [rows3L_succ, lvSum_append, lvSum_rows3L r x n (by omega), sumL3_take_succ (by omega), lvSum_rowsL_all]
def IntsssW (lo hi : Nat) (H : GHeap) (a : Option Addr) (x : List (List (List Int))) (r : Nat → Option Addr) (s : Nat → Nat → Option Addr) : Prop :=
  SlA H a x.length (fun i => .slice (r i) (x.getD i []).length (x.getD i []).length) ∧ (∀ i, i < x.length → IntssW lo hi H (r i) (x.getD i []) (s i)) ∧ HdGe lo a x.length
theorem IntsssW.stm {lo hi : Nat} {H H' : GHeap} {a : Option Addr} {x : List (List (List Int))} {r : Nat → Option Addr} {q : Nat → Nat → Option Addr} (h : IntsssW lo hi H a x r q) (s : StM lo hi H H') : IntsssW lo hi H' a x r q :=
  ⟨h.1.stm s fun i m e => (by cases e), fun i hi => (h.2.1 i hi).stm s, h.2.2⟩
theorem IntsssW.of_at {b : Nat} {H0 H : GHeap} {a : Option Addr} {x : List (List (List Int))} {r : Nat → Option Addr} {q : Nat → Nat → Option Addr} (h : IntsssAt b H0 a x r q) (k : Keep b H0 H) : IntsssW b H0.next H a x r q :=
  ⟨(h.keep k (Nat.le_refl _)).intsss.1, fun i hi => by obtain ⟨g, e, cs, _, _, _, _, _, h6⟩ := h; exact .of_at (h6 i hi) k, by obtain ⟨g, e, cs, h1, h2, _⟩ := h; exact .inr ⟨g, 0, h1, h2⟩⟩
def Prof.total (f : Prof) : Nat := f.s.total + (f.t.total + (sumL f.sz + (sumL3 f.be + sumL3 f.bh)))
def ProfW (lo hi : Nat) (H : GHeap) (f : Prof) (p : ProfP) : Prop := CatW lo hi H f.s p.s ∧ CatW lo hi H f.t p.t ∧ IntssW lo hi H p.a2 f.sz p.r2 ∧ IntsssW lo hi H p.a3 f.be p.r3 p.s3 ∧ IntsssW lo hi H p.a4 f.bh p.r4 p.s4
theorem ProfW.of_at {b : Nat} {H0 H : GHeap} {c : Prof} {p : ProfP} (h : ProfAt b H0 c p) (k : Keep b H0 H) : ProfW b H0.next H c p := ⟨.of_at h.1 k, .of_at h.2.1 k, .of_at h.2.2.1 k, .of_at h.2.2.2.1 k, .of_at h.2.2.2.2 k⟩
def Prof.leaves (f : Prof) (p : ProfP) : List Leaf := f.s.leaves p.s ++ (f.t.leaves p.t ++ (rowsL p.r2 f.sz f.sz.length ++ (rows3L p.s3 f.be f.be.length ++ rows3L p.s4 f.bh f.bh.length)))
theorem Prof.Small.tot {c : Prof} (h : c.Small) : c.total ≤ 8 * 1048576 + 4 * 1048576 * 1048576 + 2 * (1048576 * (1048576 * 1048576)) := by
  obtain ⟨h1, h2, h3, h4, h5⟩ := h
  have := h1.tot
  have := h2.tot
  have := sumL_tot h3.1 h3.2
  have := sumL3_tot h4
  have := sumL3_tot h5
  unfold Prof.total
  omega
end Go.GL
namespace Go.Proofs.Ytdfnfdellpfjhaa
open Go Go.GL Go.RowKit Go.Proofs
theorem markInt64SSS_c {a : Option Addr} {x : List (List (List Int))} {r : Nat → Option Addr} {s : Nat → Nat → Option Addr} {lo hi : Nat} {k : Int} {H : GHeap} (h : IntsssW lo hi H a x r s := by assumption) (hm : Sm3 x := by assumption) (hk : 0 ≤ k := by omega) (hk' : k + sumL3 x ≤ 9223372036854775000 := by omega) :
    GCalls Try.prog 35 [.slice a x.length x.length, .int .i64 k] H (fun v H' => v = .int .i64 (k + sumL3 x) ∧ Marked lo hi H H' (rows3L s x x.length) k) := by
  obtain ⟨hl, j⟩ := hm
  refine GCalls.body (N := 19) (rs := [.tmp 4]) Try.func35 rfl rfl rfl rfl (fun Qx b hend => ?_)
  refine .fg [0, 1] rfl ?_
  refine .seq (fun K1 m => .region (.mv rfl (.nil (m _ _ (.seq (fun K2 g => .seq (fun K3 o => .region (.mv rfl (.nil (o _ _ ?_))))))))))
  refine .block ?_
  refine .loopR (σ := Nat × Int) [(0, some _)] (fun (i, q) => [(5, some (.int .i64 (i : Int))), (1, some (.int .i64 q))]) (fun (i, q) H' => i ≤ x.length ∧ q = k + sumL3 (x.take i) ∧ Marked lo hi H H' (rows3L s x i) k) (fun (i, q) => x.length - i) ((0, k)) ⟨rfl, trivial⟩ ⟨rfl, rfl, trivial⟩ ?_ ?_
  ·
   exact ⟨by omega, by simp [sumL3], .nil _ _ _ _⟩
  rintro ⟨i, q⟩ H' hI KL1 d
  refine .forget (fr' := [(5, some (.int .i64 (i : Int))), (1, some (.int .i64 q)), (0, some _)]) ⟨rfl, rfl, rfl, trivial⟩ ?_
  obtain ⟨hi', hq, hmk⟩ := hI
  have hw := h.stm hmk.stm
  have hsl := hw.1
  have hle1 := sumL3_take_le (x := x) (k := i + 1)
  refine .seq (fun K4 n => .seq (fun K5 f => .region (.mv rfl (.mv rfl (.q rfl (.len sl_26_VZ rfl) (.q rfl (.cmp rfl rfl rfl) (.nil (f _ _ ?_))))))))
  refine .cond rfl (fun h9 => ?_) (fun h9 => ?_)
  ·
   simp only [sps] at h9
   have hts := sumL3_take_succ (x := x) (k := i) (by omega)
   refine .skip ?_
   refine n _ _ (.seq (fun K6 e => ?_))
   refine .block ?_
   refine .region (.mv rfl (.mv rfl ?_))
   refine .q rfl (.idxN sl_26_VZ hsl rfl rfl (by omega)) ?_
   refine .q rfl (.loadE on_23_B hsl rfl (by omega)) ?_
   refine .mv rfl ?_
   refine .call rfl rfl rfl rfl @Try.call12 rfl (markInt64SS_c (hw.2.1 i (by omega)) (by omega) (by omega) (j i).1) ?_
   rintro _ H17 ⟨rfl, c⟩
   refine .mv rfl (.nil (e _ _ (.region (.mv rfl ?_))))
   refine .q rfl (.add rfl rfl rfl (by omega) (by omega)) ?_
   refine .mv rfl (.nil ?_)
   refine d ((i + 1, _)) _ _ ?_ ?_ ⟨rfl, rfl, rfl, trivial⟩
   ·
    exact ⟨by omega, by rw [sumL3_take_succ (by omega)]; omega, by rw [rows3L_succ]; exact hmk.app' c (by rw [lvSum_rows3L _ _ _ (by omega)]; omega)⟩
   (dsimp only; omega)
  try simp only [sps] at h9
  refine .exit ?_
  refine g _ _ (.seq (fun K7 l => .region (.mv rfl (.mv rfl (.nil (l _ _ ?_))))))
  refine .ret ?_
  refine b _ _ ?_
  refine ⟨_, rfl, ?_⟩
  obtain rfl : i = x.length := by omega
  exact ⟨by rw [hq, List.take_length], hmk⟩
theorem markProfunctor_c {c : Prof} {p : ProfP} {lo hi : Nat} {k : Int} {H : GHeap} (w : ProfW lo hi H c p := by assumption) (hs : c.Small := by assumption) (hk : 0 ≤ k := by omega) (hk' : k + c.total ≤ 9223372036854775000 := by omega) (hhi : hi ≤ H.next := by omega) :
    GCalls Try.prog 11 [.agg (c.cells p).toArray, .int .i64 k] H (fun v H' => v = .int .i64 (k + c.total) ∧ Marked lo hi H H' (c.leaves p) k) := by
  obtain ⟨w1, w2, w3, w4, w5⟩ := w
  have ht : c.total = c.s.total + (c.t.total + (sumL c.sz + (sumL3 c.be + sumL3 c.bh))) := rfl
  obtain ⟨s1, s2, s3, s4, s5⟩ := hs
  obtain ⟨s31, s32⟩ := s3
  refine GCalls.body (N := 26) (rs := [.tmp 4]) Try.func11 rfl rfl rfl rfl (fun Qx r hend => ?_)
  refine .fg [0, 1] rfl ?_
  refine .seq (fun K1 a8 => .region ?_)
  refine .R rfl (.boxR rfl sz_34_VProf rfl) ?_
  rintro _ H2 ⟨g2, rfl, i, ge2, a⟩
  have nx_H2 := i.1
  have lt_at2 := GHeap.ltg a
  have g : MemN _ _ _ _ _ := ⟨rfl, Mem.of_get a⟩
  replace w1 := w1.stm (.of_le i)
  replace w2 := w2.stm (.of_le i)
  replace w3 := w3.stm (.of_le i)
  replace w4 := w4.stm (.of_le i)
  replace w5 := w5.stm (.of_le i)
  refine .mv rfl (.nil (a8 _ _ (.seq (fun K2 a0 => .region ?_))))
  have hx : Mem H2 g2 0 (c.s.cells p.s ++ (c.t.cells p.t ++ [.slice p.a2 c.sz.length c.sz.length, .slice p.a3 c.be.length c.be.length, .slice p.a4 c.bh.length c.bh.length])) := Mem.of_get a
  have m1 : MemN H2 g2 (0 + 0) 5 (c.s.cells p.s) := ⟨rfl, hx.left⟩
  refine .q rfl (.fieldAddr fo_34_0_VProf rfl) ?_
  refine .q rfl (.loadM ag_32_D rfl (by assumption)) ?_
  refine .mv rfl ?_
  refine .call rfl rfl rfl rfl @Try.call34 rfl (markCategory_c) ?_
  rintro _ H8 ⟨rfl, u⟩
  have h := u.stm
  have nx_H8 := h.nx
  replace a := h.same _ _ (by omega) a
  replace w1 := w1.stm h
  replace w2 := w2.stm h
  replace w3 := w3.stm h
  replace w4 := w4.stm h
  replace w5 := w5.stm h
  clear g
  have g : MemN _ _ _ _ _ := ⟨rfl, Mem.of_get a⟩
  refine .mv rfl (.nil (a0 _ _ (.seq (fun K3 a5 => .region ?_))))
  have hx : Mem H8 g2 0 (c.s.cells p.s ++ (c.t.cells p.t ++ [.slice p.a2 c.sz.length c.sz.length, .slice p.a3 c.be.length c.be.length, .slice p.a4 c.bh.length c.bh.length])) := Mem.of_get a
  have m2 : MemN H8 g2 (0 + 5) 5 (c.t.cells p.t) := ⟨rfl, (hx.right (n := 5) rfl).left⟩
  refine .q rfl (.fieldAddr fo_34_1_VProf rfl) ?_
  refine .q rfl (.loadM ag_32_D rfl (by assumption)) ?_
  refine .mv rfl ?_
  refine .call rfl rfl rfl rfl @Try.call34 rfl (markCategory_c) ?_
  rintro _ a9 ⟨rfl, m⟩
  have b := m.stm
  have nx_H12 := b.nx
  replace a := b.same _ _ (by omega) a
  replace w1 := w1.stm b
  replace w2 := w2.stm b
  replace w3 := w3.stm b
  replace w4 := w4.stm b
  replace w5 := w5.stm b
  clear g
  have g : MemN _ _ _ _ _ := ⟨rfl, Mem.of_get a⟩
  refine .mv rfl (.nil (a5 _ _ (.seq (fun K4 x => .region ?_))))
  have c1 : a9.cell g2 (0 + 10) = some (.slice p.a2 c.sz.length c.sz.length) := Mem.of_get a 10 _ rfl
  refine .q rfl (.fieldAddr fo_34_2_VProf rfl) ?_
  refine .q rfl (.load on_23_B rfl (by first | assumption | exact Mem.of_get a 10 _ rfl)) ?_
  refine .mv rfl ?_
  refine .call rfl rfl rfl rfl @Try.call12 rfl (markInt64SS_c) ?_
  rintro _ a1 ⟨rfl, o⟩
  have d := o.stm
  have nx_H16 := d.nx
  replace a := d.same _ _ (by omega) a
  replace w1 := w1.stm d
  replace w2 := w2.stm d
  replace w3 := w3.stm d
  replace w4 := w4.stm d
  replace w5 := w5.stm d
  clear g
  have g : MemN _ _ _ _ _ := ⟨rfl, Mem.of_get a⟩
  refine .mv rfl (.nil (x _ _ (.seq (fun K5 a6 => .region ?_))))
  have c1 : a1.cell g2 (0 + 11) = some (.slice p.a3 c.be.length c.be.length) := Mem.of_get a 11 _ rfl
  refine .q rfl (.fieldAddr fo_34_3_VProf rfl) ?_
  refine .q rfl (.load on_26_VProf rfl (by first | assumption | exact Mem.of_get a 11 _ rfl)) ?_
  refine .mv rfl ?_
  refine .call rfl rfl rfl rfl @Try.call35 rfl (markInt64SSS_c) ?_
  rintro _ y ⟨rfl, j⟩
  have f := j.stm
  have nx_H20 := f.nx
  replace a := f.same _ _ (by omega) a
  replace w1 := w1.stm f
  replace w2 := w2.stm f
  replace w3 := w3.stm f
  replace w4 := w4.stm f
  replace w5 := w5.stm f
  clear g
  have g : MemN _ _ _ _ _ := ⟨rfl, Mem.of_get a⟩
  refine .mv rfl (.nil (a6 _ _ (.seq (fun K6 z => .region ?_))))
  have c1 : y.cell g2 (0 + 12) = some (.slice p.a4 c.bh.length c.bh.length) := Mem.of_get a 12 _ rfl
  refine .q rfl (.fieldAddr fo_34_4_VProf rfl) ?_
  refine .q rfl (.load on_26_VProf rfl (by first | assumption | exact Mem.of_get a 12 _ rfl)) ?_
  refine .mv rfl ?_
  refine .call rfl rfl rfl rfl @Try.call35 rfl (markInt64SSS_c) ?_
  rintro _ H24 ⟨rfl, l⟩
  have e := l.stm
  have nx_H24 := e.nx
  replace a := e.same _ _ (by omega) a
  replace w1 := w1.stm e
  replace w2 := w2.stm e
  replace w3 := w3.stm e
  replace w4 := w4.stm e
  replace w5 := w5.stm e
  clear g
  have g : MemN _ _ _ _ _ := ⟨rfl, Mem.of_get a⟩
  refine .mv rfl (.nil (z _ _ (.seq (fun K7 a7 => .region (.mv rfl (.mv rfl (.nil (a7 _ _ ?_))))))))
  refine .ret ?_
  refine r _ _ ?_
  refine ⟨_, rfl, ?_⟩
  refine ⟨by rw [ht]; congr 1; omega, .le_left i (u.app' (m.app' (o.app' (j.app' l ?_) ?_) ?_) ?_)⟩
  · rw [lvSum_rows3L _ _ _ (Nat.le_refl _), List.take_length]
  · rw [lvSum_rowsL_all]
  · rw [Cat.lvSum_leaves]
  · rw [Cat.lvSum_leaves]
end Go.Proofs.Ytdfnfdellpfjhaa
namespace Go.Proofs.Ytdfnfdellpfjhaa
open Go Go.GL Go.RowKit Go.Proofs
theorem ag_28_LEndOf : aggT Try.prog 28 = some 13 := by kernel_rfl
set_option maxHeartbeats 40000000 in
theorem lawEndOf_c {m : Prof} {p : ProfP} {H : GHeap} (h0 : m.In H p) (w0 : m.Wide) :
    GCalls Try.prog 3 [.agg (m.cells p).toArray] H (fun v _ => v = .bool true) := by
  refine GCalls.body (N := 96) (rs := [.tmp 2]) Try.func3 rfl rfl rfl rfl (fun Qx l hend => ?_)
  refine .fg [0] rfl ?_
  have f := GHeap.Le.refl H
  have b := h0
  refine .seq (fun K1 k3 => .region ?_)
  refine .R rfl (.boxR rfl sz_28_VProf rfl) ?_
  rintro _ H1 ⟨g1, rfl, j3, ge1, e⟩
  replace f := f.trans j3
  have lt_at1 := GHeap.ltg e
  replace h0 := b.mono f
  have r : Prof.At _ g1 0 m p := ⟨Mem.of_get e, h0⟩
  have b0 := r.2
  refine .mv rfl (.nil (k3 _ _ (.seq (fun K2 i7 => .region (.mv rfl (.nil (i7 _ _ (.seq (fun K3 i8 => .region ?_)))))))))
  refine .q rfl (.loadM ag_28_LEndOf rfl ⟨rfl, Mem.of_get e⟩) ?_
  refine .mv rfl ?_
  refine .call rfl rfl rfl rfl @Try.call5 rfl (szProfunctor_c) ?_
  rintro _ _ ⟨heq, lf16, rfl, z116, z216, f6⟩
  obtain rfl := heq.symm
  refine .mv rfl (.nil (i8 _ _ (.seq (fun K4 i5 => .seq (fun K5 j4 => .region (.mv rfl (.q rfl (.cmp rfl rfl rfl) (.nil (j4 _ _ ?_)))))))))
  refine .cond rfl (fun g3 => ?_) (fun g3 => ?_)
  ·
   try simp only [sps] at g3
   refine .seq (fun K6 j2 => .region (.mv rfl (.nil (j2 _ _ ?_))))
   refine .ret ?_
   refine l _ _ ?_
   refine ⟨_, rfl, ?_⟩
   first
   | exact rfl
   | exact absurd trivial (by assumption)
   | contradiction
   | (exfalso; omega)
  simp only [sps] at g3
  have hcl : m.endR.length ≤ 1048576 := Nat.le_trans m.end_small.1 (by decide)
  have h5 : ∀ i, (m.endR.getD i []).length ≤ 1048576 := fun i => Nat.le_trans (Prof.end_rows i) (by decide)
  have hct := sumL_tot hcl h5
  have c0 := f6 (by omega)
  have tb16 := c0.tot
  refine .skip ?_
  refine i5 _ _ (.seq (fun K7 k2 => .region ?_))
  refine .q rfl (.loadM ag_28_LEndOf rfl ⟨rfl, Mem.of_get e⟩) ?_
  refine .call rfl rfl rfl rfl @Try.call7 rfl (toProfunctor_c) ?_
  rintro _ j0 ⟨b2, p21, rfl, k1⟩
  have nx_H21 := b2.1
  replace f := f.trans b2
  replace e := b2.2 _ _ e
  replace h0 := b.mono f
  clear r b0
  have r : Prof.At _ g1 0 m p := ⟨Mem.of_get e, h0⟩
  have j7 := k1.inn
  refine .call rfl rfl rfl rfl @Try.call6 rfl (specEndOf_c) ?_
  rintro _ d3 ⟨b3, a22, r22, rfl, b1⟩
  have nx_H22 := b3.1
  replace f := f.trans b3
  replace e := b3.2 _ _ e
  have x := b1
  have a : Keep j0.next d3 d3 := fun _ _ _ h => h
  replace h0 := b.mono f
  clear r j7
  have r : Prof.At _ g1 0 m p := ⟨Mem.of_get e, h0⟩
  have b0 := r.2
  refine .mv rfl (.q rfl (.extract rfl rfl) (.q rfl (.extract rfl rfl) (.mv rfl (.mv rfl (.nil (k2 _ _ (.seq (fun K8 j5 => .region ?_))))))))
  refine .q rfl (.loadM ag_28_LEndOf rfl ⟨rfl, Mem.of_get e⟩) ?_
  refine .call rfl rfl rfl rfl @Try.call7 rfl (toProfunctor_c) ?_
  rintro _ i1 ⟨a4, p26, rfl, b9⟩
  have nx_H26 := a4.1
  replace f := f.trans a4
  replace e := a4.2 _ _ e
  replace a := Keep.le a a4
  have w := b9
  have d : Keep d3.next i1 i1 := fun _ _ _ h => h
  replace h0 := b.mono f
  clear r b0
  have r : Prof.At _ g1 0 m p := ⟨Mem.of_get e, h0⟩
  refine .R rfl (.allocR rfl ze_34_VProf rfl) ?_
  rintro _ H6 ⟨g6, rfl, c3, ge6, at6⟩
  have nx_H6 := c3.1
  replace f := f.trans c3
  replace e := c3.2 _ _ e
  replace a := Keep.le a c3
  replace d := Keep.le d c3
  replace h0 := b.mono f
  clear r
  have r : Prof.At _ g1 0 m p := ⟨Mem.of_get e, h0⟩
  refine .r0 rfl rfl (.fillA rfl sz_34_VProf rfl rfl rfl rfl) ?_
  rintro _ a0 ⟨rfl, t, g⟩
  have nx_H6003 := t.nx
  replace f := f.st t (fun k hk => ⟨by omega, trivial⟩)
  replace e := t.s e
  replace a := Keep.st a t (fun k hb hk => ⟨by omega, trivial⟩)
  replace d := Keep.st d t (fun k hb hk => ⟨by omega, trivial⟩)
  replace b9 := w.keep d (Nat.le_refl _)
  have lt_at6003 := GHeap.ltg g
  replace h0 := b.mono f
  clear r
  have r : Prof.At _ g1 0 m p := ⟨Mem.of_get e, h0⟩
  have i3 := b9.inn
  refine .nil (j5 _ _ (.seq (fun K9 j1 => .region ?_)))
  refine .q rfl (.loadM ag_34_VProf rfl ⟨rfl, Mem.of_get g⟩) ?_
  refine .call rfl rfl rfl rfl @Try.call8 rfl (implEndOf_c) ?_
  rintro _ i4 ⟨y, a29, r29, rfl, b8⟩
  have nx_H29 := y.1
  replace f := f.trans y
  replace e := y.2 _ _ e
  replace g := y.2 _ _ g
  replace a := Keep.le a y
  replace b1 := x.keep a (Nat.le_refl _)
  replace d := Keep.le d y
  have a1 := b8
  have o : Keep a0.next i4 i4 := fun _ _ _ h => h
  replace h0 := b.mono f
  clear r
  have r : Prof.At _ g1 0 m p := ⟨Mem.of_get e, h0⟩
  have b0 := r.2
  have c4 := b1.intss
  clear i3
  have i2 := b8.intss
  refine .mv rfl (.q rfl (.extract rfl rfl) (.q rfl (.extract rfl rfl) (.mv rfl (.mv rfl (.nil (j1 _ _ (.seq (fun K10 f2 => .seq (fun K11 b6 => .region (.mv rfl (.mv rfl ?_)))))))))))
  refine .callQ rfl rfl rfl rfl @Try.call9 rfl (eqInt64SS_c) ?_
  refine .q rfl (.not rfl) (.mv rfl ?_)
  refine .split (fun f8 => ?_) (fun f8 => ?_)
  ·
   try simp only [sps] at f8
   refine .z rfl (.z rfl (.z rfl (.q rfl (.pickT rfl rfl) (.nil (b6 _ _ ?_)))))
   refine .condT rfl ?_
   refine .seq (fun K12 h2 => .region (.mv rfl (.nil (h2 _ _ ?_))))
   refine .ret ?_
   refine l _ _ ?_
   refine ⟨_, rfl, ?_⟩
   first
   | exact rfl
   | exact absurd trivial (by assumption)
   | contradiction
   | (exfalso; omega)
  try simp only [sps] at f8
  refine .qg rfl (.move rfl) (.qg rfl (.move rfl) (.qg rfl (.cmp rfl rfl rfl) (.q rfl (.pickF rfl rfl) (.nil (b6 _ _ ?_)))))
  refine .cond rfl (fun g8 => ?_) (fun g8 => ?_)
  ·
   try simp only [sps] at g8
   refine .seq (fun K13 h7 => .region (.mv rfl (.nil (h7 _ _ ?_))))
   refine .ret ?_
   refine l _ _ ?_
   refine ⟨_, rfl, ?_⟩
   first
   | exact rfl
   | exact absurd trivial (by assumption)
   | contradiction
   | (exfalso; omega)
  try simp only [sps] at g8
  refine .skip ?_
  refine f2 _ _ (.seq (fun K14 g0 => .seq (fun K15 c6 => ?_)))
  refine .regionD mo_B (.q 0 (.q 1 (.c 2 1 (.c 3 0 (.q 4 (.done)))))) (by kernel_rfl) ?_
  refine .q rfl (.loadM ag_34_VProf rfl ⟨rfl, Mem.of_get g⟩) ?_
  refine .q rfl (.loadM ag_28_LEndOf rfl ⟨rfl, Mem.of_get e⟩) ?_
  refine .call1 rfl rfl rfl rfl rfl @Try.call7 rfl (toProfunctor_c) ?_
  rintro _ H43 ⟨u, p43, rfl, i9⟩
  have k0 := u
  refine ⟨k0, ?_⟩
  have nx_H43 := u.1
  replace f := f.trans u
  replace e := u.2 _ _ e
  replace g := u.2 _ _ g
  replace a := Keep.le a u
  replace d := Keep.le d u
  replace b9 := w.keep d (Nat.le_refl _)
  replace o := Keep.le o u
  replace h0 := b.mono f
  clear r b0
  have r : Prof.At _ g1 0 m p := ⟨Mem.of_get e, h0⟩
  clear c4
  have i3 := b9.inn
  clear i2
  have j9 := i9.inn
  refine .callQ0 rfl rfl rfl rfl rfl @Try.call10 rfl (eqProfunctor_c) ?_
  refine .q rfl (.not rfl) ?_
  refine .done ?_
  refine c6 _ _ ?_
  refine .cond rfl (fun e5 => ?_) (fun e5 => ?_)
  ·
   try simp only [sps] at e5
   refine .seq (fun K16 h6 => .region (.mv rfl (.nil (h6 _ _ ?_))))
   refine .ret ?_
   refine l _ _ ?_
   refine ⟨_, rfl, ?_⟩
   first
   | exact rfl
   | exact absurd trivial (by assumption)
   | contradiction
   | (exfalso; omega)
  try simp only [sps] at e5
  refine .skip ?_
  refine g0 _ _ (.seq (fun K17 c7 => .region (.mv rfl (.nil (c7 _ _ (.seq (fun K18 d4 => .region ?_)))))))
  refine .q rfl (.loadM ag_34_VProf rfl ⟨rfl, Mem.of_get g⟩) ?_
  refine .mv rfl ?_
  have w_v26 := ProfW.of_at w d
  refine .call rfl rfl rfl rfl @Try.call11 rfl (markProfunctor_c) ?_
  rintro _ H48 ⟨rfl, d5⟩
  have a7 := d5.stm
  replace f := StM.le_left f a7 (by omega)
  replace e := a7.same _ _ (by omega) e
  replace a := Keep.stM a a7 (fun k hb hk => by omega)
  replace b1 := x.keep a (Nat.le_refl _)
  replace o := Keep.stM o a7 (fun k hb hk => by omega)
  replace b8 := a1.keep o (Nat.le_refl _)
  replace h0 := b.mono f
  clear r
  have r : Prof.At _ g1 0 m p := ⟨Mem.of_get e, h0⟩
  have c4 := b1.intss
  have i2 := b8.intss
  clear j9
  refine .mv rfl (.nil (d4 _ _ (.seq (fun K19 f3 => .seq (fun K20 a9 => .region (.mv rfl (.q rfl (.cmp rfl rfl rfl) (.mv rfl ?_))))))))
  refine .split (fun f1 => ?_) (fun f1 => ?_)
  ·
   try simp only [sps] at f1
   refine .z rfl (.z rfl (.z rfl (.z rfl (.q rfl (.pickT rfl rfl) (.mv rfl (.z rfl (.z rfl (.z rfl (.q rfl (.pickT rfl rfl) (.nil (a9 _ _ ?_)))))))))))
   refine .condT rfl ?_
   refine .seq (fun K21 d8 => .region (.mv rfl (.nil (d8 _ _ ?_))))
   refine .ret ?_
   refine l _ _ ?_
   refine ⟨_, rfl, ?_⟩
   first
   | exact rfl
   | exact absurd trivial (by assumption)
   | contradiction
   | (exfalso; omega)
  try simp only [sps] at f1
  refine .qg rfl (.move rfl) (.qg rfl (.move rfl) ?_)
  refine .callQg rfl rfl rfl rfl rfl rfl @Try.call9 rfl (eqInt64SS_c) ?_
  refine .qg rfl (.not rfl) (.q rfl (.pickF rfl rfl) (.mv rfl ?_))
  refine .split (fun f4 => ?_) (fun f4 => ?_)
  ·
   try simp only [sps] at f4
   refine .z rfl (.z rfl (.z rfl (.q rfl (.pickT rfl rfl) (.nil (a9 _ _ ?_)))))
   refine .condT rfl ?_
   refine .seq (fun K22 g4 => .region (.mv rfl (.nil (g4 _ _ ?_))))
   refine .ret ?_
   refine l _ _ ?_
   refine ⟨_, rfl, ?_⟩
   first
   | exact rfl
   | exact absurd trivial (by assumption)
   | contradiction
   | (exfalso; omega)
  try simp only [sps] at f4
  refine .qg rfl (.move rfl) (.qg rfl (.move rfl) (.qg rfl (.cmp rfl rfl rfl) (.q rfl (.pickF rfl rfl) (.nil (a9 _ _ ?_)))))
  refine .cond rfl (fun c8 => ?_) (fun c8 => ?_)
  ·
   try simp only [sps] at c8
   refine .seq (fun K23 f0 => .region (.mv rfl (.nil (f0 _ _ ?_))))
   refine .ret ?_
   refine l _ _ ?_
   refine ⟨_, rfl, ?_⟩
   first
   | exact rfl
   | exact absurd trivial (by assumption)
   | contradiction
   | (exfalso; omega)
  try simp only [sps] at c8
  refine .skip ?_
  refine f3 _ _ (.seq (fun K24 e2 => .region (.mv rfl (.nil (e2 _ _ (.seq (fun K25 e8 => .region (.mv rfl (.mv rfl ?_)))))))))
  have b7 := IntssW.of_r a1 o
  refine .call rfl rfl rfl rfl @Try.call12 rfl (markInt64SS_c) ?_
  rintro _ c5 ⟨rfl, b5⟩
  have a6 := b5.stm
  replace f := StM.le_left f a6 (by omega)
  replace e := a6.same _ _ (by omega) e
  replace a := Keep.stM a a6 (fun k hb hk => by omega)
  replace h0 := b.mono f
  clear r
  have r : Prof.At _ g1 0 m p := ⟨Mem.of_get e, h0⟩
  have b0 := r.2
  clear c4
  have b4 := b5.held (b8.2)
  have c2 := b7.stm a6
  have a8 := b4
  have n : Keep a0.next c5 c5 := fun _ _ _ h => h
  have a5 := c2
  have j : Keep a0.next c5 c5 := fun _ _ _ h => h
  refine .mv rfl (.nil (e8 _ _ (.seq (fun K26 e7 => .region (.mv rfl (.nil (e7 _ _ (.seq (fun K27 d6 => .region (.mv rfl (.mv rfl ?_)))))))))))
  refine .callQ rfl rfl rfl rfl @Try.call13 rfl (heldInt64SSw_c) ?_
  refine .mv rfl (.nil (d6 _ _ (.seq (fun K28 g9 => .seq (fun K29 e9 => .region (.mv rfl (.q rfl (.cmp rfl rfl rfl) (.nil (e9 _ _ ?_)))))))))
  refine .cond rfl (fun f9 => ?_) (fun f9 => ?_)
  ·
   try simp only [sps] at f9
   refine .seq (fun K30 g7 => .region (.mv rfl (.nil (g7 _ _ ?_))))
   refine .ret ?_
   refine l _ _ ?_
   refine ⟨_, rfl, ?_⟩
   first
   | exact rfl
   | exact absurd trivial (by assumption)
   | contradiction
   | (exfalso; omega)
  try simp only [sps] at f9
  refine .skip ?_
  refine g9 _ _ (.seq (fun K31 f7 => .seq (fun K32 h4 => .region (.mv rfl (.mv rfl (.q rfl (.cmp rfl rfl rfl) (.nil (h4 _ _ ?_))))))))
  refine .cond rfl (fun e4 => ?_) (fun e4 => ?_)
  ·
   try simp only [sps] at e4
   refine .seq (fun K33 e1 => .region (.mv rfl (.nil (e1 _ _ ?_))))
   refine .ret ?_
   refine l _ _ ?_
   refine ⟨_, rfl, ?_⟩
   first
   | exact rfl
   | exact absurd trivial (by assumption)
   | contradiction
   | (exfalso; omega)
  try simp only [sps] at e4
  refine .skip ?_
  refine f7 _ _ (.seq (fun K34 h1 => .region ?_))
  refine .q rfl (.loadM ag_28_LEndOf rfl ⟨rfl, Mem.of_get e⟩) ?_
  refine .call rfl rfl rfl rfl @Try.call7 rfl (toProfunctor_c) ?_
  rintro _ H75 ⟨a2, p75, rfl, j6⟩
  replace f := f.trans a2
  replace e := a2.2 _ _ e
  replace a := Keep.le a a2
  replace n := Keep.le n a2
  replace j := Keep.le j a2
  replace h0 := b.mono f
  clear r b0
  have r : Prof.At _ g1 0 m p := ⟨Mem.of_get e, h0⟩
  have i6 := j6.inn
  refine .call rfl rfl rfl rfl @Try.call8 rfl (implEndOf_c) ?_
  rintro _ H76 ⟨a3, a76, r76, rfl, j8⟩
  replace f := f.trans a3
  replace e := a3.2 _ _ e
  replace a := Keep.le a a3
  replace b1 := x.keep a (Nat.le_refl _)
  replace n := Keep.le n a3
  replace b4 := a8.keep n (Nat.le_refl _)
  replace j := Keep.le j a3
  replace c2 := a5.keep j (Nat.le_refl _)
  replace h0 := b.mono f
  clear r
  have r : Prof.At _ g1 0 m p := ⟨Mem.of_get e, h0⟩
  have c4 := b1.intss
  clear i6
  have i76 := j8.intss
  refine .mv rfl (.q rfl (.extract rfl rfl) (.q rfl (.extract rfl rfl) (.mv rfl (.mv rfl (.nil (h1 _ _ (.seq (fun K35 g5 => .seq (fun K36 c1 => .region (.mv rfl (.mv rfl ?_)))))))))))
  refine .callQ rfl rfl rfl rfl @Try.call9 rfl (eqInt64SS_c) ?_
  refine .q rfl (.not rfl) (.mv rfl ?_)
  refine .split (fun e3 => ?_) (fun e3 => ?_)
  ·
   try simp only [sps] at e3
   refine .z rfl (.z rfl (.z rfl (.q rfl (.pickT rfl rfl) (.nil (c1 _ _ ?_)))))
   refine .condT rfl ?_
   refine .seq (fun K37 d9 => .region (.mv rfl (.nil (d9 _ _ ?_))))
   refine .ret ?_
   refine l _ _ ?_
   refine ⟨_, rfl, ?_⟩
   first
   | exact rfl
   | exact absurd trivial (by assumption)
   | contradiction
   | (exfalso; omega)
  try simp only [sps] at e3
  refine .qg rfl (.move rfl) (.qg rfl (.move rfl) (.qg rfl (.cmp rfl rfl rfl) (.q rfl (.pickF rfl rfl) (.nil (c1 _ _ ?_)))))
  refine .cond rfl (fun e6 => ?_) (fun e6 => ?_)
  ·
   try simp only [sps] at e6
   refine .seq (fun K38 i0 => .region (.mv rfl (.nil (i0 _ _ ?_))))
   refine .ret ?_
   refine l _ _ ?_
   refine ⟨_, rfl, ?_⟩
   first
   | exact rfl
   | exact absurd trivial (by assumption)
   | contradiction
   | (exfalso; omega)
  try simp only [sps] at e6
  refine .skip ?_
  refine g5 _ _ (.seq (fun K39 d7 => .region (.mv rfl (.nil (d7 _ _ (.seq (fun K40 f5 => .region (.mv rfl (.mv rfl ?_)))))))))
  refine .callQ rfl rfl rfl rfl @Try.call13 rfl (heldInt64SSw_c) ?_
  refine .mv rfl (.nil (f5 _ _ (.seq (fun K41 e0 => .seq (fun K42 c9 => .region (.mv rfl (.q rfl (.cmp rfl rfl rfl) (.nil (c9 _ _ ?_)))))))))
  refine .cond rfl (fun h3 => ?_) (fun h3 => ?_)
  ·
   try simp only [sps] at h3
   refine .seq (fun K43 g2 => .region (.mv rfl (.nil (g2 _ _ ?_))))
   refine .ret ?_
   refine l _ _ ?_
   refine ⟨_, rfl, ?_⟩
   first
   | exact rfl
   | exact absurd trivial (by assumption)
   | contradiction
   | (exfalso; omega)
  try simp only [sps] at h3
  refine .skip ?_
  refine e0 _ _ (.seq (fun K44 h8 => .seq (fun K45 h9 => .region (.mv rfl (.mv rfl (.q rfl (.cmp rfl rfl rfl) (.nil (h9 _ _ ?_))))))))
  refine .cond rfl (fun d0 => ?_) (fun d0 => ?_)
  ·
   try simp only [sps] at d0
   refine .seq (fun K46 d1 => .region (.mv rfl (.nil (d1 _ _ ?_))))
   refine .ret ?_
   refine l _ _ ?_
   refine ⟨_, rfl, ?_⟩
   first
   | exact rfl
   | exact absurd trivial (by assumption)
   | contradiction
   | (exfalso; omega)
  try simp only [sps] at d0
  refine .skip ?_
  refine h8 _ _ (.seq (fun K47 d2 => .region (.mv rfl (.nil (d2 _ _ ?_)))))
  refine .ret ?_
  refine l _ _ ?_
  refine ⟨_, rfl, ?_⟩
  first
  | exact rfl
  | exact absurd trivial (by assumption)
  | contradiction
  | (exfalso; omega)
end Go.Proofs.Ytdfnfdellpfjhaa
namespace Go.GL
open Go.RowKit Go.WideShapes Go.ChangeShapes Go.Deep

structure Imp1 (P : Program) (t : TypeId) (R : GHeap → Value → Prop) : Prop where
  mono : ∀ {H H' : GHeap} {g : Value}, H.Le H' → R H g → R H' g
  imp : ∀ {T : Type} {enc : TypeId × Value → T} {B : Nat} {w0 : World} {ρ : Place} {H : GHeap} {w : World} {held : Bool} {base fuel : Nat} {v : Value} {x : DataW T × List MemPlace}, Sim P B w0 ρ H w → w.heap.size ≤ B →
    DataW.trod enc P w 0 (fun _ => true) held fuel t v.cells.toList = some x → Value.okWide P w .any base t v → ∃ ρ' H' g, Sim P B w0 ρ' H' w ∧ Ext ρ ρ' ∧ H.Le H' ∧ VRel ρ' g v ∧ R H' g

def structT (P : Program) (t : TypeId) : Bool := match P.underlying t with | some (.struct _) => true | _ => false
theorem imp1_struct {P : Program} {t : TypeId} {α β : Type} {cells : α → β → List Value} {I : GHeap → α → β → Prop} {W : α → Prop} (hm : ∀ {H H' : GHeap} {c : α} {p : β}, I H c p → H.Le H' → I H' c p)
    (hI : Imports P t (fun ρ H cs => ∃ (c : α) (p : β), LRel ρ (cells c p) cs ∧ I H c p ∧ W c)) (hst : structT P t = true) : Imp1 P t (fun H g => ∃ (c : α) (p : β), g = .agg (cells c p).toArray ∧ I H c p ∧ W c) where
  mono h := fun ⟨c, p, h1, h2, h3⟩ => ⟨c, p, h1, hm h2 h, h3⟩
  imp := by
    intro T enc B w0 ρ H w held base fuel v x hs hB h hv
    have hagg : ∃ cs, v = .agg cs := by
      unfold Value.okWide at hv
      unfold structT at hst
      split at hst
      · rename_i fs hu
        rw [hu] at hv
        obtain ⟨cs, h, _⟩ := hv
        exact ⟨cs, h⟩
      · cases hst
    obtain ⟨cs, rfl⟩ := hagg
    obtain ⟨ρ', H', h1, h2, h3, c, p, h4, h5, h6⟩ := hI hs hB h
    exact ⟨ρ', H', _, h1, h2, h3, by have := VRel.agg_of h4; simpa [Value.cells] using this, c, p, rfl, h5, h6⟩
structure ImpAll (P : Program) (ts : List TypeId) (R : GHeap → List Value → Prop) : Prop where
  imp : ∀ {T : Type} {enc : TypeId × Value → T} {B : Nat} {w0 : World} {ρ : Place} {H : GHeap} {w : World} {base : Nat} {vs : List Value} {ds : List (DataW T)} {ps : List MemPlace}, Sim P B w0 ρ H w → w.heap.size ≤ B →
    DataW.TrodAll enc P w 0 (fun _ => true) true ts vs ds ps → (∀ (j : Nat) t v, ts[j]? = some t → vs[j]? = some v → Value.okWide P w .any base t v) → ds.length = ts.length ∧ ∃ ρ' H' gs, Sim P B w0 ρ' H' w ∧ Ext ρ ρ' ∧ H.Le H' ∧ LRel ρ' gs vs ∧ R H' gs
theorem ImpAll.nil {P : Program} : ImpAll P [] (fun _ gs => gs = []) where
  imp := by
    intro T enc B w0 ρ H w base vs ds ps hs hB h hv
    obtain ⟨rfl, rfl, rfl⟩ := trodAll_nil h
    exact ⟨rfl, ρ, H, [], hs, .refl ρ, .refl H, .nil ρ, rfl⟩
theorem ImpAll.cons {P : Program} {t : TypeId} {ts : List TypeId} {R1 : GHeap → Value → Prop} {R : GHeap → List Value → Prop} (h1 : Imp1 P t R1) (h2 : ImpAll P ts R) : ImpAll P (t :: ts) (fun H gs => ∃ g r, gs = g :: r ∧ R1 H g ∧ R H r) where
  imp := by
    intro T enc B w0 ρ H w base vs ds ps hs hB h hv
    obtain ⟨v, vs, d, ds, p, q, rfl, rfl, rfl, ⟨fuel, k1⟩, k2⟩ := trodAll_cons h
    obtain ⟨ρ1, H1, g, s1, e1, l1, v1, r1⟩ := h1.imp hs hB k1 (hv 0 t v rfl rfl)
    obtain ⟨hl, ρ2, H2, gs, s2, e2, l2, v2, r2⟩ := h2.imp s1 hB k2 (fun j t v ht hj => hv (j + 1) t v (by simpa using ht) (by simpa using hj))
    exact ⟨by simp [hl], ρ2, H2, g :: gs, s2, e1.trans e2, l1.trans l2, .cons (v1.mono e2) v2, g, gs, rfl, h1.mono l2 r1, r2⟩

theorem law_calls {P : Program} {f : FuncId} {fn : Func} {ts : List TypeId} {tb : TypeId} {R : GHeap → List Value → Prop} (hI : ImpAll P ts R) (hp : fn.params = ts.toArray)
    (hc : ∀ H gs, R H gs → GCalls P f gs H fun v _ => v = .bool true)
    {T : Type} {enc : TypeId × Value → T} {W : World} {base : Nat} {args : Array Value} {s : ChangeSpec} {apart fresh handsOn again : Bool} {ds gs : List (DataW T)} {before : List MemPlace}
    (hval : ∀ (j : Nat) t v, fn.params[j]? = some t → args[j]? = some v → Value.okWide P W .any base t v)
    (hW : DataW.Whole enc P fn.params.toList s.vars apart W args.toList ds gs before)
    (hl : laidOutB P = true) (hr : readB P fn.params.toList = true) (hv : s.vars = []) (hrt : fn.resultTypes = #[tb]) (htb : P.underlying tb = some .bool)
    (hs : ∀ ds : List (DataW T), ds.length = ts.length → (s.fn T ds).results = [.lit (.bool true)] ∧ (s.fn T ds).args = ds ∧ (s.fn T ds).vars = []) :
    Calls P f args W fun e W' => ∃ v, e = .returned v ∧ s.post enc P fn apart fresh handsOn again W args v W' := by
  have hWW := hW
  obtain ⟨p, q, hA, _⟩ := hW
  rw [hp] at hA
  obtain ⟨hlen, ρ, H, gs', hs', _, _, hrel, hR⟩ := hI.imp (base := base) (Sim.start P W) (Nat.le_refl _) (by simpa using hA) (fun j t v ht hj => hval j t v (by rw [hp]; simpa using ht) (by simpa using hj))
  have := (hc H gs' hR) _ _ ρ args.toList W hs' hrel
  rw [Array.toArray_toList] at this
  refine this.mono fun e W' ⟨v, c, ρ', H', he, hv', _, hsim, hrv⟩ => ?_
  subst hv'
  cases hrv
  exact ⟨_, he, law_post hl hr hv hrt htb hWW (hs ds hlen).1 (hs ds hlen).2.1 (hs ds hlen).2.2 hsim.below⟩
end Go.GL
