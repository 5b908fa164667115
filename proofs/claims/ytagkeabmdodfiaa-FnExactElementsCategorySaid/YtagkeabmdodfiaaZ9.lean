/- Isomorphism classes of objects, skeletons, parts of categories: plain laws. No condition. -/
import Derived.Test.YtagkeabmdodfiaaZ8
namespace Go.GL
theorem Cat.inv_mate {c : Cat} {f : Nat} (hS : c.Shape) (hf : f < c.src.length) (h : 0 ≤ c.inv f) : c.Alike (c.tgt.getD f 0) (c.src.getD f 0) := by
  unfold Cat.inv at h
  rw [Int.toNat_natCast] at h
  obtain ⟨g, hg, hb⟩ := (firstIn_ge (fun g hg => by obtain ⟨f, _, _, _, rfl⟩ := Cat.mem_hom.1 hg; omega)).1 h
  refine ⟨g, hg, ?_⟩
  obtain ⟨k, k1, k2, k3, rfl⟩ := Cat.mem_hom.1 hg
  unfold Cat.inv
  rw [Int.toNat_natCast, k2, k3]
  refine (firstIn_ge (fun g hg => by obtain ⟨f, _, _, _, rfl⟩ := Cat.mem_hom.1 hg; omega)).2 ⟨f, Cat.mem_hom.2 ⟨f, hf, rfl, rfl, rfl⟩, ?_⟩
  simp only [Cat.invB, sps, Int.toNat_natCast] at hb ⊢
  rw [k2, k3]
  exact ⟨hb.2, hb.1⟩
theorem Cat.Alike.symm {c : Cat} {x y : Int} (hS : c.Shape) (h : c.Alike x y) : c.Alike y x := by
  obtain ⟨g, hg, hi⟩ := h
  obtain ⟨k, k1, k2, k3, rfl⟩ := Cat.mem_hom.1 hg
  have := Cat.inv_mate hS k1 hi
  rwa [k2, k3] at this
def Cat.partO (c : Cat) (xs : List Int) : List Int := filtN c.obj.toNat fun x => xs.contains (c.idn.getD x 0)
def Cat.partR (c : Cat) (xs : List Int) (f : Int) : List Int := xs.map fun g => idxL xs (c.th f g)
def Cat.part (c : Cat) (xs : List Int) : Cat where
  obj := ((c.partO xs).length : Int)
  src := xs.map fun f => idxL (c.partO xs) (c.src.getD f.toNat 0)
  tgt := xs.map fun f => idxL (c.partO xs) (c.tgt.getD f.toNat 0)
  idn := (c.partO xs).map fun x => idxL xs (c.idn.getD x.toNat 0)
  comp := xs.map fun f => c.partR xs f
structure Cat.Closed (c : Cat) (xs : List Int) : Prop where
  filt : ∃ P, xs = filtN c.src.length P
  id : ∀ f ∈ xs, c.idn.getD (c.src.getD f.toNat 0).toNat 0 ∈ xs ∧ c.idn.getD (c.tgt.getD f.toNat 0).toNat 0 ∈ xs
  th : ∀ f ∈ xs, ∀ g ∈ xs, 0 ≤ c.th f g → c.th f g ∈ xs
theorem Cat.Closed.lt {c : Cat} {xs : List Int} (h : c.Closed xs) : ∀ f ∈ xs, 0 ≤ f ∧ f < c.src.length := fun f hf => by
  obtain ⟨P, rfl⟩ := h.filt
  obtain ⟨i, h1, _, rfl⟩ := mem_filtN.1 hf
  omega
theorem Cat.Closed.len {c : Cat} {xs : List Int} (h : c.Closed xs) : xs.length ≤ c.src.length := by
  obtain ⟨P, rfl⟩ := h.filt
  exact filtN_le _ _
end Go.GL
namespace Go.GL
theorem filtN_nodup (n : Nat) (P : Nat → Bool) : (filtN n P).Nodup := by
  unfold filtN
  exact List.pairwise_map.2 ((List.nodup_range.sublist List.filter_sublist).imp fun h e => h (by omega))
theorem nodup_getD {xs : List Int} (hn : xs.Nodup) {i j : Nat} (hi : i < xs.length) (hj : j < xs.length) (h : xs.getD i 0 = xs.getD j 0) : i = j := by
  rw [List.getD_eq_getElem?_getD, List.getD_eq_getElem?_getD, List.getElem?_eq_getElem hi, List.getElem?_eq_getElem hj] at h
  exact (List.getElem_inj hn).1 (by simpa using h)
def numF (xs : List Int) (m i : Nat) : List Int := (List.range m).map fun (v : Nat) => if (v : Int) ∈ xs.take i then idxL xs v else 0
@[simp] theorem length_numF (xs : List Int) (m i : Nat) : (numF xs m i).length = m := by simp [numF]
abbrev Cat.hasId (c : Cat) (xs : List Int) (x : Nat) : Bool := xs.contains (c.idn.getD x 0)
def Cat.plF (c : Cat) (xs : List Int) (n k : Nat) : List Int := (List.range n).map fun (x : Nat) => if x < k ∧ c.hasId xs x = true then ((filtN x (c.hasId xs)).length : Int) else 0
@[simp] theorem Cat.length_plF (c : Cat) (xs : List Int) (n k : Nat) : (c.plF xs n k).length = n := by simp [Cat.plF]
theorem OwnL.neNO {b g k : Nat} {H : GHeap} {e e' : TypeId} {cs : List Value} {r : Nat → Option Addr} {xss : List (List Int)} (h : OwnL b H e r xss) (hg : NO H g cs e' k) (hk : k = xss.length) (hne : (e != e') = true) : ∀ i, i < xss.length → r i ≠ some ⟨g, 0, none⟩ := fun i hi => h.neT (hg.get (by omega)) hne i hi
theorem OwnL.doneNO {b g k : Nat} {H : GHeap} {e e' : TypeId} {r : Nat → Option Addr} {xss : List (List Int)} (h : OwnL b H e r xss) (hg : NO H g (slsL r xss) e' k) (hk : k = xss.length) (hb : b ≤ g) : IntssR b H (nz k g) xss r := by
  subst hk
  by_cases h0 : xss.length = 0
  · obtain rfl := List.eq_nil_of_length_eq_zero h0
    exact .nil _ _ _
  · rw [nz_pos (by omega)]
    exact h.done (hg.get (by omega)) hb
theorem Cat.Closed.has {c : Cat} {xs : List Int} (h : c.Closed xs) {f : Int} (hf : f ∈ xs) (hS : c.Shape) : (0 ≤ c.src.getD f.toNat 0 ∧ c.src.getD f.toNat 0 < c.obj ∧ c.idn.getD (c.src.getD f.toNat 0).toNat 0 ∈ xs) ∧ 0 ≤ c.tgt.getD f.toNat 0 ∧ c.tgt.getD f.toNat 0 < c.obj ∧ c.idn.getD (c.tgt.getD f.toNat 0).toNat 0 ∈ xs := by
  have b := h.lt f hf
  have s1 := hS.src f.toNat (by omega)
  have s2 := hS.tgt f.toNat (by have := hS.tl; omega)
  have hi := h.id f hf
  exact ⟨⟨s1.1, s1.2, hi.1⟩, s2.1, s2.2, hi.2⟩
end Go.GL
namespace Go.GL
theorem mem_nest3 {α : Type} {pr : Nat → Nat → Nat → α} {s1 : Nat → Nat} {s2 : Nat → Nat → Nat} {k a b t : Nat} (ha : a < k) (hb : b < s1 a) (ht : t < s2 a b) : pr a b t ∈ nest3 pr s1 s2 k 0 0 := by
  unfold nest3 nestL
  refine List.mem_append.2 (.inl (List.mem_flatMap.2 ⟨a, List.mem_range.2 ha, List.mem_append.2 (.inl (List.mem_flatMap.2 ⟨b, List.mem_range.2 hb, List.mem_map.2 ⟨t, List.mem_range.2 ht, rfl⟩⟩))⟩))
theorem nest3_nodup {α : Type} {pr : Nat → Nat → Nat → α} {s1 : Nat → Nat} {s2 : Nat → Nat → Nat} {k : Nat} (h : ∀ a b t a' b' t', a < k → b < s1 a → t < s2 a b → a' < k → b' < s1 a' → t' < s2 a' b' → pr a b t = pr a' b' t' → a = a' ∧ b = b' ∧ t = t') : (nest3 pr s1 s2 k 0 0).Nodup := by
  unfold nest3 nestL
  simp only [List.range_zero, List.map_nil, List.append_nil, List.flatMap_nil]
  refine List.pairwise_flatMap.2 ⟨fun a ha => List.pairwise_flatMap.2 ⟨fun b hb => List.pairwise_map.2 ?_, ?_⟩, ?_⟩
  · exact List.nodup_range.imp_of_mem fun {t t'} ht ht' hne e => hne (h a b t a b t' (List.mem_range.1 ha) (List.mem_range.1 hb) (List.mem_range.1 ht) (List.mem_range.1 ha) (List.mem_range.1 hb) (List.mem_range.1 ht') e).2.2
  · refine List.nodup_range.imp_of_mem fun {b b'} hb hb' hne x hx y hy e => ?_
    obtain ⟨t, ht, rfl⟩ := List.mem_map.1 hx
    obtain ⟨t', ht', rfl⟩ := List.mem_map.1 hy
    exact hne (h a b t a b' t' (List.mem_range.1 ha) (List.mem_range.1 hb) (List.mem_range.1 ht) (List.mem_range.1 ha) (List.mem_range.1 hb') (List.mem_range.1 ht') e).2.1
  · refine List.nodup_range.imp_of_mem fun {a a'} ha ha' hne x hx y hy e => ?_
    obtain ⟨b, hb, hx⟩ := List.mem_flatMap.1 hx
    obtain ⟨b', hb', hy⟩ := List.mem_flatMap.1 hy
    obtain ⟨t, ht, rfl⟩ := List.mem_map.1 hx
    obtain ⟨t', ht', rfl⟩ := List.mem_map.1 hy
    exact hne (h a b t a' b' t' (List.mem_range.1 ha) (List.mem_range.1 hb) (List.mem_range.1 ht) (List.mem_range.1 ha') (List.mem_range.1 hb') (List.mem_range.1 ht') e).1
structure LcOk (k : Fun) (f : SFun) : Prop where
  hk : k.Is
  hf : f.Is
  he : f.sh = k.s
def lcE (k : Fun) (f : SFun) (y : Int) : List (List Int) := leL k f y k.ob.length 0 0
theorem lcE_mem {k : Fun} {f : SFun} {y : Int} {x e : Nat} {h : Int} (hx : x < k.ob.length) (hh : h ∈ k.t.hom (k.ob.getD x 0) y) (he : (e : Int) < f.sz.getD x 0) : [(x : Int), h, (e : Int)] ∈ lcE k f y := by
  obtain ⟨i, hi, e1⟩ := List.getElem_of_mem hh
  have := mem_nest3 (pr := lePr k y) (s1 := fun x => (k.t.hom (k.ob.getD x 0) y).length) (s2 := fun x _ => (f.sz.getD x 0).toNat) hx hi (t := e) (by omega)
  unfold lePr at this
  rw [List.getD_eq_getElem?_getD (l := k.t.hom _ _), List.getElem?_eq_getElem hi, e1] at this
  exact this
theorem lcE_keys {k : Fun} {f : SFun} {y : Int} (o : LcOk k f) : Keys 3 (lcE k f y) := by
  have b1 := o.hk.2.1.1.n40
  have b2 := o.hk.1.1.obj
  have b3 := o.hk.2.2.ol
  refine ⟨nest3_nodup fun a b t a' b' t' ha hb ht ha' hb' ht' e => ?_, fun t ht => ?_⟩
  · unfold lePr at e
    simp only [List.cons.injEq, and_true] at e
    obtain ⟨e1, e2, e3⟩ := e
    obtain rfl : a = a' := by omega
    exact ⟨rfl, nodup_getD (filtN_nodup _ _) hb hb' e2, by omega⟩
  · obtain ⟨x, i, e, h1, h2, h3, rfl⟩ := nest3_mem ht
    have q1 := o.hf.1.sz x (by have := leLen o.hk o.hf o.he; omega)
    obtain ⟨z, z1, _, _, z4⟩ := Cat.hom_get h2
    refine ⟨rfl, fun i hi => ?_⟩
    match i, hi with
    | 0, _ => show 0 ≤ (x : Int) ∧ (x : Int) ≤ 255; omega
    | 1, _ => show 0 ≤ (k.t.hom _ _).getD _ 0 ∧ (k.t.hom _ _).getD _ 0 ≤ 255; rw [z4]; omega
    | 2, _ => show 0 ≤ (e : Int) ∧ (e : Int) ≤ 255; omega
structure LcA (k : Fun) (f : SFun) (y : Int) (a : Nat) : Prop where
  s0 : 0 ≤ k.s.src.getD a 0
  s1 : k.s.src.getD a 0 < k.ob.length
  t0 : 0 ≤ k.s.tgt.getD a 0
  t1 : k.s.tgt.getD a 0 < k.ob.length
  al : ((f.ac.getD a []).length : Int) = f.sz.getD (k.s.src.getD a 0).toNat 0
  zs : f.sz.getD (k.s.src.getD a 0).toNat 0 ≤ 16
  ac : ∀ e, e < (f.ac.getD a []).length → 0 ≤ (f.ac.getD a []).getD e 0 ∧ (f.ac.getD a []).getD e 0 < f.sz.getD (k.s.tgt.getD a 0).toNat 0
  r0 : 0 ≤ k.ar.getD a 0
  r1 : k.ar.getD a 0 < k.t.src.length
  th : ∀ h, h ∈ k.t.hom (k.ob.getD (k.s.tgt.getD a 0).toNat 0) y → (0 ≤ h ∧ h < k.t.src.length) ∧ k.t.th (k.ar.getD a 0) h ∈ k.t.hom (k.ob.getD (k.s.src.getD a 0).toNat 0) y
theorem LcOk.len {k : Fun} {f : SFun} (o : LcOk k f) : f.sz.length = k.ob.length ∧ f.ac.length = k.s.src.length ∧ k.ar.length = k.s.src.length ∧ k.s.tgt.length = k.s.src.length ∧ k.s.src.length ≤ 40 ∧ k.ob.length ≤ 8 ∧ (k.s.obj = k.ob.length) := by
  have h1 := leLen o.hk o.hf o.he
  have h2 := o.hf.1.al
  rw [o.he] at h2
  have h3 := o.hk.2.2.al
  have h4 := o.hk.1.1.tl
  have h5 := o.hk.1.1.n40
  have h6 := o.hk.2.2.ol
  have h7 := o.hk.1.1.obj
  omega
theorem LcOk.arrow {k : Fun} {f : SFun} {y : Int} (o : LcOk k f) {a : Nat} (ha : a < k.s.src.length) : LcA k f y a := by
  obtain ⟨l1, l2, l3, l4, _, _, _⟩ := o.len
  have q := o.hf.1.ends (a := a) (by rw [o.he]; exact ha)
  have act := fun e => o.hf.1.act (a := a) (e := e) (by omega)
  rw [o.he] at q act
  have hz := o.hf.1.sz (k.s.src.getD a 0).toNat (by omega)
  have r := o.hk.arr (a := a) (by omega)
  refine ⟨q.1, by omega, q.2.2.1, by omega, q.2.2.2.2, hz.2, act, r.2.2.2.2.1, r.2.2.2.2.2.1, fun h hh => ?_⟩
  obtain ⟨z, z1, z2, z3, rfl⟩ := Cat.mem_hom.1 hh
  have hS := o.hk.2.1.1
  have hc := (Cat.Cell.pos (f := (k.ar.getD a 0).toNat) (g := z) (by rw [r.2.2.2.2.2.2.2, z2])).1 (hS.cell _ (by have := hS.cl; omega) z z1)
  rw [← Cat.th_nat, show (((k.ar.getD a 0).toNat : Nat) : Int) = k.ar.getD a 0 by omega] at hc
  refine ⟨by omega, Cat.mem_hom.2 ⟨(k.t.th (k.ar.getD a 0) z).toNat, by omega, ?_, ?_, by omega⟩⟩
  · rw [hc.2.2.1]; exact r.2.2.2.2.2.2.1
  · rw [hc.2.2.2]; exact z3
def lcT (k : Fun) (a : Nat) (h : Int) (e : Nat) : List Int := [k.s.src.getD a 0, k.t.th (k.ar.getD a 0) h, (e : Int)]
def lcU (k : Fun) (f : SFun) (a : Nat) (h : Int) (e : Nat) : List Int := [k.s.tgt.getD a 0, h, (f.ac.getD a []).getD e 0]
theorem LcOk.two {k : Fun} {f : SFun} {y : Int} (o : LcOk k f) {a e : Nat} {h : Int} (ha : a < k.s.src.length) (hh : h ∈ k.t.hom (k.ob.getD (k.s.tgt.getD a 0).toNat 0) y) (he : e < (f.ac.getD a []).length) : lcT k a h e ∈ lcE k f y ∧ lcU k f a h e ∈ lcE k f y := by
  have q := o.arrow (y := y) ha
  obtain ⟨a0, a1, a2, a3, a4, _, a6, _, _, a9⟩ := q
  have h6 := a6 e he
  constructor
  · have := lcE_mem (k := k) (f := f) (y := y) (x := (k.s.src.getD a 0).toNat) (e := e) (by omega) (a9 h hh).2 (by omega)
    rwa [show (((k.s.src.getD a 0).toNat : Nat) : Int) = k.s.src.getD a 0 by omega] at this
  · have := lcE_mem (k := k) (f := f) (y := y) (x := (k.s.tgt.getD a 0).toNat) (e := ((f.ac.getD a []).getD e 0).toNat) (by omega) hh (by omega)
    rwa [show (((k.s.tgt.getD a 0).toNat : Nat) : Int) = k.s.tgt.getD a 0 by omega, show ((((f.ac.getD a []).getD e 0).toNat : Nat) : Int) = (f.ac.getD a []).getD e 0 by omega] at this
def lcPr (k : Fun) (f : SFun) (y : Int) (a i e : Nat) : Nat × Nat := ((idxLL (lcE k f y) (lcT k a ((k.t.hom (k.ob.getD (k.s.tgt.getD a 0).toNat 0) y).getD i 0) e)).toNat, (idxLL (lcE k f y) (lcU k f a ((k.t.hom (k.ob.getD (k.s.tgt.getD a 0).toNat 0) y).getD i 0) e)).toNat)
theorem flatten_le {α : Type} : ∀ {l : List (List α)}, (∀ x ∈ l, x.length ≤ 1) → l.flatten.length ≤ l.length
  | [], _ => by simp
  | x :: l, h => by
    have h1 := h x (by simp)
    have h2 := flatten_le (l := l) fun y hy => h y (by simp [hy])
    rw [List.flatten_cons, List.length_append, List.length_cons]
    omega
theorem LcOk.pr {k : Fun} {f : SFun} {y : Int} (o : LcOk k f) {a i e : Nat} (ha : a < k.s.src.length) (hi : i < (k.t.hom (k.ob.getD (k.s.tgt.getD a 0).toNat 0) y).length) (he : e < (f.ac.getD a []).length) : (lcPr k f y a i e).1 < (lcE k f y).length ∧ (lcPr k f y a i e).2 < (lcE k f y).length ∧ 0 ≤ idxLL (lcE k f y) (lcT k a ((k.t.hom (k.ob.getD (k.s.tgt.getD a 0).toNat 0) y).getD i 0) e) ∧ 0 ≤ idxLL (lcE k f y) (lcU k f a ((k.t.hom (k.ob.getD (k.s.tgt.getD a 0).toNat 0) y).getD i 0) e) := by
  obtain ⟨h1, h2⟩ := o.two ha (getD_mem hi) he
  obtain ⟨u, u1, _, u3⟩ := idxLL_mem (lcE_keys o).nd h1
  obtain ⟨v, v1, _, v3⟩ := idxLL_mem (lcE_keys o).nd h2
  unfold lcPr
  rw [u3, v3]
  exact ⟨by simpa using u1, by simpa using v1, by omega, by omega⟩
end Go.GL
namespace Go.Proofs.Ytagkeabmdodfiaa
open Go Go.GL Go.RowKit Go.Proofs
end Go.Proofs.Ytagkeabmdodfiaa
namespace Go.GL
def glPr (f : SFun) (y : Int) (x e i : Nat) : List Int := [(x : Int), (e : Int), (f.sh.hom (x : Int) y).getD i 0]
def glL (f : SFun) (y : Int) (x e i : Nat) : List (List Int) := nest3 (glPr f y) (fun x => (f.sz.getD x 0).toNat) (fun x _ => (f.sh.hom (x : Int) y).length) x e i
def glE (f : SFun) (y : Int) : List (List Int) := glL f y f.sz.length 0 0
theorem SFun.Is.nums {f : SFun} (h : f.Is) : f.ac.length = f.sh.src.length ∧ f.sh.tgt.length = f.sh.src.length ∧ f.sh.src.length ≤ 40 ∧ f.sz.length ≤ 8 ∧ f.sh.obj = f.sz.length := by
  have h2 := h.1.al
  have h4 := h.1.c.1.tl
  have h5 := h.1.c.1.n40
  have h6 := h.1.zl
  have h7 := h.1.c.1.obj
  omega
theorem glE_mem {f : SFun} {y : Int} {x e : Nat} {h : Int} (hx : x < f.sz.length) (hh : h ∈ f.sh.hom (x : Int) y) (he : (e : Int) < f.sz.getD x 0) : [(x : Int), (e : Int), h] ∈ glE f y := by
  obtain ⟨i, hi, e1⟩ := List.getElem_of_mem hh
  have := mem_nest3 (pr := glPr f y) (s1 := fun x => (f.sz.getD x 0).toNat) (s2 := fun x _ => (f.sh.hom (x : Int) y).length) hx (b := e) (by omega) hi
  unfold glPr at this
  rw [List.getD_eq_getElem?_getD (l := f.sh.hom _ _), List.getElem?_eq_getElem hi, e1] at this
  exact this
structure GlA (f : SFun) (y : Int) (a : Nat) : Prop where
  s0 : 0 ≤ f.sh.src.getD a 0
  s1 : f.sh.src.getD a 0 < f.sz.length
  t0 : 0 ≤ f.sh.tgt.getD a 0
  t1 : f.sh.tgt.getD a 0 < f.sz.length
  al : ((f.ac.getD a []).length : Int) = f.sz.getD (f.sh.src.getD a 0).toNat 0
  zs : f.sz.getD (f.sh.src.getD a 0).toNat 0 ≤ 16
  ac : ∀ e, e < (f.ac.getD a []).length → 0 ≤ (f.ac.getD a []).getD e 0 ∧ (f.ac.getD a []).getD e 0 < f.sz.getD (f.sh.tgt.getD a 0).toNat 0
  th : ∀ h, h ∈ f.sh.hom (f.sh.tgt.getD a 0) y → (0 ≤ h ∧ h < f.sh.src.length) ∧ f.sh.th (a : Int) h ∈ f.sh.hom (f.sh.src.getD a 0) y
theorem SFun.Is.arrow {f : SFun} {y : Int} (hf : f.Is) {a : Nat} (ha : a < f.sh.src.length) : GlA f y a := by
  obtain ⟨l1, l2, l3, l4, l5⟩ := hf.nums
  have q := hf.1.ends ha
  have act := fun e => hf.1.act (a := a) (e := e) (by omega)
  have hz := hf.1.sz (f.sh.src.getD a 0).toNat (by omega)
  refine ⟨q.1, by omega, q.2.2.1, by omega, q.2.2.2.2, hz.2, act, fun h hh => ?_⟩
  obtain ⟨z, z1, z2, z3, rfl⟩ := Cat.mem_hom.1 hh
  have hS := hf.1.c.1
  have hc := (Cat.Cell.pos (f := a) (g := z) z2.symm).1 (hS.cell a (by have := hS.cl; omega) z z1)
  rw [← Cat.th_nat] at hc
  refine ⟨by omega, Cat.mem_hom.2 ⟨(f.sh.th a z).toNat, by omega, hc.2.2.1, ?_, by omega⟩⟩
  rw [hc.2.2.2]; exact z3
def glT (f : SFun) (a e : Nat) (h : Int) : List Int := [f.sh.src.getD a 0, (e : Int), f.sh.th (a : Int) h]
def glU (f : SFun) (a e : Nat) (h : Int) : List Int := [f.sh.tgt.getD a 0, (f.ac.getD a []).getD e 0, h]
theorem SFun.Is.two {f : SFun} {y : Int} (hf : f.Is) {a e : Nat} {h : Int} (ha : a < f.sh.src.length) (hh : h ∈ f.sh.hom (f.sh.tgt.getD a 0) y) (he : e < (f.ac.getD a []).length) : glT f a e h ∈ glE f y ∧ glU f a e h ∈ glE f y := by
  obtain ⟨a0, a1, a2, a3, a4, _, a6, a9⟩ := hf.arrow (y := y) ha
  have h6 := a6 e he
  have n1 : (((f.sh.src.getD a 0).toNat : Nat) : Int) = f.sh.src.getD a 0 := by omega
  have n2 : (((f.sh.tgt.getD a 0).toNat : Nat) : Int) = f.sh.tgt.getD a 0 := by omega
  constructor
  · have := glE_mem (f := f) (y := y) (x := (f.sh.src.getD a 0).toNat) (e := e) (by omega) (by rw [n1]; exact (a9 h hh).2) (by omega)
    rwa [n1] at this
  · have := glE_mem (f := f) (y := y) (x := (f.sh.tgt.getD a 0).toNat) (e := ((f.ac.getD a []).getD e 0).toNat) (by omega) (by rw [n2]; exact hh) (by omega)
    rwa [n2, show ((((f.ac.getD a []).getD e 0).toNat : Nat) : Int) = (f.ac.getD a []).getD e 0 by omega] at this
def elP (f : SFun) (x e : Nat) : List (List Int) := nestL (fun x e => [(x : Int), (e : Int)]) (fun x => (f.sz.getD x 0).toNat) x e
def elE (f : SFun) : List (List Int) := elP f f.sz.length 0
theorem elP_le {f : SFun} (hf : f.Is) {x e : Nat} (hx : x < f.sz.length) (he : e ≤ (f.sz.getD x 0).toNat) : (elP f x e).length ≤ f.sz.length * 16 := nestL_le (fun a ha => by have := hf.1.sz a ha; omega) hx he
theorem elE_le {f : SFun} (hf : f.Is) : (elE f).length ≤ f.sz.length * 16 := nestL_length (fun a ha => by have := hf.1.sz a ha; omega)
theorem elE_get {f : SFun} {p : Nat} (hp : p < (elE f).length) : ∃ x e : Nat, x < f.sz.length ∧ (e : Int) < f.sz.getD x 0 ∧ (elE f).getD p [] = [(x : Int), (e : Int)] := by
  obtain ⟨x, e, h1, h2, e1⟩ := nestL_mem (getD_mem_list (d := []) hp)
  exact ⟨x, e, h1, by omega, e1⟩
structure Two (b : Nat) (H : GHeap) (a : Option Addr) (r : Nat → Option Addr) (xss : List (List Int)) (a2 : Option Addr) (xs : List Int) : Prop where
  v : IntssR b H a xss r
  w : IntsR b H a2 xs
  nd : (lvBlks (rowsL r xss xss.length ++ [(a2, xs.length)])).Nodup
theorem Two.keep {b b' : Nat} {H H' : GHeap} {a a2 : Option Addr} {r : Nat → Option Addr} {xss : List (List Int)} {xs : List Int} (h : Two b H a r xss a2 xs) (k : Keep b' H H') (hb : b' ≤ b) : Two b' H' a r xss a2 xs := ⟨h.v.keep k hb, h.w.keep k hb, h.nd⟩
theorem Two.nd1 {b : Nat} {H : GHeap} {a a2 : Option Addr} {r : Nat → Option Addr} {xss : List (List Int)} {xs : List Int} (h : Two b H a r xss a2 xs) : (lvBlks (rowsL r xss xss.length)).Nodup := h.v.2
theorem Two.nd2 {b : Nat} {H : GHeap} {a a2 : Option Addr} {r : Nat → Option Addr} {xss : List (List Int)} {xs : List Int} (_h : Two b H a r xss a2 xs) : (lvBlks [(a2, xs.length)]).Nodup := by
  simp only [lvBlks, List.flatMap_cons, List.flatMap_nil, List.append_nil]
  exact lvBlk_nodup _
theorem Two.nil (b : Nat) (H : GHeap) : Two b H none (fun _ => none) [] none [] := ⟨.nil _ _ _, .inl ⟨rfl, rfl⟩, by simp [lvBlks, lvBlk, rowsL]⟩
theorem Two.mk' {b g : Nat} {H0 H : GHeap} {a : Option Addr} {e : TypeId} {r : Nat → Option Addr} {xss : List (List Int)} {xs : List Int} (h0 : IntssR b H0 a xss r) (h : IntssR b H a xss r) (hg : H.get g = some (.row (ints xs) e true)) (hb : b ≤ g) (hm : H0.next ≤ g) : Two b H a r xss (some ⟨g, 0, none⟩) xs := by
  refine ⟨h, .inr ⟨g, e, rfl, hb, hg⟩, ?_⟩
  rw [lvBlks_append]
  refine List.nodup_append.2 ⟨h.2, by simp only [lvBlks, List.flatMap_cons, List.flatMap_nil, List.append_nil]; exact lvBlk_nodup _, fun x hx y hy hxy => ?_⟩
  subst hxy
  simp only [lvBlks, List.flatMap_cons, List.flatMap_nil, List.append_nil] at hy
  obtain ⟨o, s, e1⟩ := mem_lvBlk1 hy
  cases e1
  obtain ⟨l, hl, hx2⟩ := List.mem_flatMap.1 hx
  obtain ⟨i, hi, rfl⟩ := List.mem_map.1 hl
  obtain ⟨o2, s2, e2⟩ := mem_lvBlk1 hx2
  have hi' := List.mem_range.1 hi
  rcases h0.1 with ⟨rfl, _⟩ | ⟨g', e', cs, _, _, _, _, _, h6⟩
  · simp at hi'
  · obtain ⟨g2, _, h7, _, h8⟩ := h6 i hi'
    rw [h7] at e2
    cases e2
    have := GHeap.ltg h8
    omega
end Go.GL
namespace Go.Proofs.Ytagkeabmdodfiaa
open Go Go.GL Go.RowKit Go.Proofs
set_option maxHeartbeats 4000000 in
theorem elementPairs_c {g o : Nat} {f : SFun} {p : SFunP} {H : GHeap} (h : SFun.At H g o f p := by assumption) (hf : f.Is) :
    GCalls Try.prog 90 [.pointer (some ⟨g, o, none⟩)] H (NewIntssR H (elE f)) := by
  obtain ⟨l1, l2, l3, l4, l5⟩ := hf.nums
  refine GCalls.body (N := 31) (rs := [.tmp 2]) Try.func90 rfl rfl rfl rfl (fun Qx hret hend => ?_)
  refine .forget (fr' := [(0, some _)]) ⟨rfl, trivial⟩ ?_
  have hle := GHeap.Le.refl H
  have base_h := h
  obtain ⟨fshb, c5b, c6b, i1b, i2b⟩ := h.get
  have hmb : MemN _ _ _ _ _ := ⟨rfl, h.1⟩
  have hib := h.2
  have hmshb : MemN _ _ _ _ _ := ⟨rfl, fshb.1⟩
  have hishb := fshb.2
  refine .seq (fun K1 hK1 => .region (.mv rfl (.nil (hK1 _ _ (.seq (fun K2 hK2 => .region ?_))))))
  refine .r rfl rfl rfl (.litR rfl sl_23_B ze_22_E rfl rfl (by omega) (by omega) rfl rfl) ?_
  rintro _ H7 ⟨g7, rfl, le7, ge7, at7⟩
  have nx_H7 := le7.1
  replace hle := hle.trans le7
  have lt_at7 := GHeap.ltg at7
  replace h := base_h.mono hle
  clear fshb c5b c6b i1b i2b hmb hib hmshb hishb
  obtain ⟨fshb, c5b, c6b, i1b, i2b⟩ := h.get
  have hmb : MemN _ _ _ _ _ := ⟨rfl, h.1⟩
  have hib := h.2
  have hmshb : MemN _ _ _ _ _ := ⟨rfl, fshb.1⟩
  have hishb := fshb.2
  refine .mv rfl (.nil (hK2 _ _ (.seq (fun K3 hK3 => .seq (fun K4 hK4 => .region (.mv rfl (.m rfl rfl rfl (.nilCheck rfl) (.m rfl rfl rfl (.fieldAddr fo_46_1_P rfl) ?_))))))))
  refine .m rfl rfl rfl (.load on_22_B rfl (by assumption)) ?_
  refine .m rfl rfl rfl (.len sl_22_A rfl) (.mv rfl (.nil (hK4 _ _ ?_)))
  refine .block ?_
  refine .loopR (σ := Nat × (Nat → Option Addr) × Nat × Nat) [(11, some _), (12, some _)] (fun (x, rr, gL3, nL3) => [(13, some (.int .i64 (x : Int))), (3, some (.slice (some ⟨gL3, 0, none⟩) nL3 nL3))]) (fun (x, rr, gL3, nL3) H' => St [g7] H7 H' ∧ H'.get gL3 = some (.row ((slsL rr (elP f x 0))) 22 true) ∧ (gL3 = g7 ∨ H7.next ≤ gL3) ∧ nL3 = (slsL rr (elP f x 0)).length ∧ x ≤ f.sz.length ∧ OwnL H.next H' 2 rr (elP f x 0)) (fun (x, rr, gL3, nL3) => f.sz.length - x) ((0, fun _ => none, _, _)) ⟨rfl, rfl, trivial⟩ ⟨rfl, rfl, trivial⟩ ?_ ?_
  ·
   refine ⟨.refl _ _, by first | assumption | exact at7 | simpa using at7, .inl rfl, by first | rfl | assumption | simp | omega, ?_⟩
   exact ⟨by omega, .nil _ _ _ _⟩
  rintro ⟨x, rr, gL3, nL3⟩ HL1 ⟨lst1, at_L3, pl_L3, ln_L3, hI⟩ KL1 hKL1
  refine .forget (fr' := [(13, some (.int .i64 (x : Int))), (3, some (.slice (some ⟨gL3, 0, none⟩) nL3 nL3)), (11, some _), (12, some _)]) ⟨rfl, rfl, rfl, rfl, trivial⟩ ?_
  have ge_L3 : H.next ≤ gL3 := by omega
  have nx_HL1 := lst1.nx
  replace hle := hle.st lst1 (fun k hk => ⟨by omega, trivial⟩)
  have lt_at_L3 := GHeap.ltg at_L3
  replace h := base_h.mono hle
  clear fshb c5b c6b i1b i2b hmb hib hmshb hishb
  obtain ⟨fshb, c5b, c6b, i1b, i2b⟩ := h.get
  have hmb : MemN _ _ _ _ _ := ⟨rfl, h.1⟩
  have hib := h.2
  have hmshb : MemN _ _ _ _ _ := ⟨rfl, fshb.1⟩
  have hishb := fshb.2
  obtain ⟨hx, hR⟩ := hI
  refine .seq (fun K5 hK5 => .region (.m rfl rfl rfl (.cmp rfl rfl rfl) (.nil (hK5 _ _ (.seq (fun K6 hK6 => ?_))))))
  refine .cond rfl (fun h14 => ?_) (fun h14 => ?_)
  ·
   simp only [sps] at h14
   have hz := hf.1.sz x (by omega)
   refine .skip ?_
   refine hK6 _ _ (.seq (fun K7 hK7 => ?_))
   refine .block ?_
   refine .seq (fun K8 hK8 => .region (.mv rfl ?_))
   refine .m rfl rfl rfl (.idxN sl_22_A (by assumption) rfl rfl (by omega)) ?_
   refine .m rfl rfl rfl (.loadI on_2_A (by assumption) rfl (by omega)) ?_
   refine .mv rfl (.mv rfl (.nil (hK8 _ _ (.seq (fun K9 hK9 => .region (.mv rfl (.nil (hK9 _ _ ?_))))))))
   refine .block ?_
   refine .loopR (σ := Nat × (Nat → Option Addr) × Nat × Nat) [(4, some _), (5, some _), (11, some _), (12, some _), (13, some _)] (fun (e, r2, gL3v2, nL3v2) => [(6, some (.int .i64 (e : Int))), (3, some (.slice (some ⟨gL3v2, 0, none⟩) nL3v2 nL3v2))]) (fun (e, r2, gL3v2, nL3v2) H' => St [gL3] HL1 H' ∧ H'.get gL3v2 = some (.row ((slsL r2 (elP f x e))) 22 true) ∧ (gL3v2 = gL3 ∨ HL1.next ≤ gL3v2) ∧ nL3v2 = (slsL r2 (elP f x e)).length ∧ e ≤ (f.sz.getD x 0).toNat ∧ OwnL H.next H' 2 r2 (elP f x e)) (fun (e, r2, gL3v2, nL3v2) => (f.sz.getD x 0).toNat - e) ((0, rr, _, _)) ⟨rfl, rfl, rfl, rfl, rfl, trivial⟩ ⟨rfl, rfl, trivial⟩ ?_ ?_
   ·
    refine ⟨.refl _ _, by first | assumption | exact at_L3 | simpa using at_L3, .inl rfl, by first | rfl | assumption | simp | omega, ?_⟩
    exact ⟨by omega, hR⟩
   rintro ⟨e, r2, gL3v2, nL3v2⟩ HL2 ⟨lst2, at_L3v2, pl_L3v2, ln_L3v2, hI⟩ KL2 hKL2
   refine .forget (fr' := [(6, some (.int .i64 (e : Int))), (3, some (.slice (some ⟨gL3v2, 0, none⟩) nL3v2 nL3v2)), (4, some _), (5, some _), (11, some _), (12, some _), (13, some _)]) ⟨rfl, rfl, rfl, rfl, rfl, rfl, rfl, trivial⟩ ?_
   have ge_L3v2 : H.next ≤ gL3v2 := by omega
   have nx_HL2 := lst2.nx
   replace hle := hle.st lst2 (fun k hk => ⟨by omega, trivial⟩)
   replace lst1 := lst1.st lst2 (fun k hk ho => by simp only [out, and_true] at ho ⊢ <;> first | exact ho | exact ho.1 | exact ho.2 | exact ho.2.1 | exact ho.2.2 | exact ho.2.2.1 | exact ho.2.2.2 | omega)
   have lt_at_L3v2 := GHeap.ltg at_L3v2
   replace h := base_h.mono hle
   clear fshb c5b c6b i1b i2b hmb hib hmshb hishb
   obtain ⟨fshb, c5b, c6b, i1b, i2b⟩ := h.get
   have hmb : MemN _ _ _ _ _ := ⟨rfl, h.1⟩
   have hib := h.2
   have hmshb : MemN _ _ _ _ _ := ⟨rfl, fshb.1⟩
   have hishb := fshb.2
   have rk := St.refl [gL3v2] HL2
   obtain ⟨he, hR⟩ := hI
   have hat3 := at_L3v2
   have hln := elP_le hf (x := x) (e := e) (by omega) he
   have hfl : (slsL r2 (elP f x e)).length = (elP f x e).length := length_slsL _ _
   have hsn : elP f x (e + 1) = elP f x e ++ [[(x : Int), (e : Int)]] := nestL_snoc
   refine .seq (fun K10 hK10 => .seq (fun K11 hK11 => .region (.mv rfl (.mv rfl (.m rfl rfl rfl (.cmp rfl rfl rfl) (.nil (hK11 _ _ ?_)))))))
   refine .cond rfl (fun h20 => ?_) (fun h20 => ?_)
   ·
    simp only [sps] at h20
    refine .skip ?_
    refine hK10 _ _ (.seq (fun K12 hK12 => ?_))
    refine .block ?_
    refine .region (.mv rfl (.mv rfl (.mv rfl ?_)))
    refine .r rfl rfl rfl (.litR rfl sl_22_A ze_2_E rfl rfl (by omega) (by omega) rfl rfl) ?_
    rintro _ H26 ⟨g26, rfl, le26, ge26, at26⟩
    have nx_H26 := le26.1
    replace hle := hle.trans le26
    replace lst1 := lst1.le le26
    replace lst2 := lst2.le le26
    replace rk := rk.le le26
    replace at_L3v2 := le26.2 _ _ at_L3v2
    have lt_at26 := GHeap.ltg at26
    replace h := base_h.mono hle
    clear fshb c5b c6b i1b i2b hmb hib hmshb hishb
    obtain ⟨fshb, c5b, c6b, i1b, i2b⟩ := h.get
    have hmb : MemN _ _ _ _ _ := ⟨rfl, h.1⟩
    have hib := h.2
    have hmshb : MemN _ _ _ _ _ := ⟨rfl, fshb.1⟩
    have hishb := fshb.2
    refine .r rfl rfl rfl (.litR rfl sl_23_B ze_22_E rfl rfl (by omega) (by omega) rfl rfl) ?_
    rintro _ H27 ⟨g27, rfl, le27, ge27, at27⟩
    have nx_H27 := le27.1
    replace hle := hle.trans le27
    replace lst1 := lst1.le le27
    replace lst2 := lst2.le le27
    replace rk := rk.le le27
    replace at_L3v2 := le27.2 _ _ at_L3v2
    replace at26 := le27.2 _ _ at26
    have lt_at27 := GHeap.ltg at27
    replace h := base_h.mono hle
    clear fshb c5b c6b i1b i2b hmb hib hmshb hishb
    obtain ⟨fshb, c5b, c6b, i1b, i2b⟩ := h.get
    have hmb : MemN _ _ _ _ _ := ⟨rfl, h.1⟩
    have hib := h.2
    have hmshb : MemN _ _ _ _ _ := ⟨rfl, fshb.1⟩
    have hishb := fshb.2
    refine .r rfl rfl rfl (.appendV rfl sl_23_B ze_22_E rfl by_22_E sl_23_B rfl rfl (by assumption) (by assumption) (by first | omega | (simp <;> omega)) rfl rfl (by omega) (by omega)) ?_
    rintro _ H28 ⟨g28, rfl, st28, ge28, at28⟩
    have nx_H28 := st28.nx
    replace hle := hle.st st28 (fun k hk => ⟨by omega, trivial⟩)
    replace lst1 := lst1.st st28 (fun k hk ho => by simp only [out, and_true] at ho ⊢ <;> first | exact ho | exact ho.1 | exact ho.2 | exact ho.2.1 | exact ho.2.2 | exact ho.2.2.1 | exact ho.2.2.2 | omega)
    replace lst2 := lst2.st st28 (fun k hk ho => by simp only [out, and_true] at ho ⊢ <;> first | exact ho | exact ho.1 | exact ho.2 | exact ho.2.1 | exact ho.2.2 | exact ho.2.2.1 | exact ho.2.2.2 | omega)
    replace rk := rk.st st28 (fun k hk ho => by simp only [out, and_true] at ho ⊢ <;> first | exact ho | exact ho.1 | exact ho.2 | exact ho.2.1 | exact ho.2.2 | exact ho.2.2.1 | exact ho.2.2.2 | omega)
    replace at26 := st28.same _ _ ⟨(by first | assumption | omega), trivial⟩ at26
    replace at27 := st28.same _ _ ⟨(by first | assumption | omega), trivial⟩ at27
    have lt_at28 := GHeap.ltg at28
    replace h := base_h.mono hle
    clear fshb c5b c6b i1b i2b hmb hib hmshb hishb
    obtain ⟨fshb, c5b, c6b, i1b, i2b⟩ := h.get
    have hmb : MemN _ _ _ _ _ := ⟨rfl, h.1⟩
    have hib := h.2
    have hmshb : MemN _ _ _ _ _ := ⟨rfl, fshb.1⟩
    have hishb := fshb.2
    refine .mv rfl (.nil (hK12 _ _ (.region (.mv rfl ?_))))
    refine .m rfl rfl rfl (.add rfl rfl rfl (by omega) (by omega)) ?_
    refine .mv rfl (.nil ?_)
    refine hKL2 ((e + 1, upd r2 (elP f x e).length (some ⟨g26, 0, none⟩), _, _)) _ _ ?_ ?_ ⟨rfl, rfl, rfl, rfl, rfl, rfl, rfl, trivial⟩
    ·
     refine ⟨lst2, by first | assumption | (rw [hsn, slsL_snoc]; assumption), by omega, by first | omega | (simp only [List.length_append, List.length_cons, List.length_nil] <;> omega) | (rw [hsn, slsL_snoc] <;> (first | omega | (simp only [List.length_append, List.length_cons, List.length_nil] <;> omega))), ?_⟩
     exact ⟨by omega, by rw [hsn]; exact hR.snoc (x := [(x : Int), (e : Int)]) (rk.lasts1 hat3 rfl) (by assumption) (by omega) (by omega)⟩
    (dsimp only; omega)
   try simp only [sps] at h20
   refine .exit ?_
   refine hK7 _ _ (.region ?_)
   refine .m rfl rfl rfl (.add rfl rfl rfl (by omega) (by omega)) ?_
   refine .mv rfl (.nil ?_)
   obtain rfl : e = (f.sz.getD x 0).toNat := by omega
   have hnx : elP f (x + 1) 0 = elP f x (f.sz.getD x 0).toNat := nestL_next
   refine hKL1 ((x + 1, r2, _, _)) _ _ ?_ ?_ ⟨rfl, rfl, rfl, rfl, trivial⟩
   ·
    refine ⟨lst1, by first | assumption | (rw [hnx]; assumption), by omega, by first | omega | (simp only [List.length_append, List.length_cons, List.length_nil] <;> omega) | (rw [hnx] <;> (first | omega | (simp only [List.length_append, List.length_cons, List.length_nil] <;> omega))), ?_⟩
    exact ⟨by omega, by rw [hnx]; exact hR⟩
   (dsimp only; omega)
  try simp only [sps] at h14
  refine .exit ?_
  refine hK3 _ _ (.seq (fun K13 hK13 => .region (.mv rfl (.mv rfl (.nil (hK13 _ _ ?_))))))
  refine .ret ?_
  refine hret _ _ ?_
  refine ⟨_, rfl, ?_⟩
  obtain rfl : x = f.sz.length := by omega
  exact ⟨hle, _, rr, by rw [ln_L3]; simp [elE], hR.done at_L3 (by omega)⟩
theorem l05Place_c {a b : Option Addr} {xss : List (List Int)} {r : Nat → Option Addr} {t : List Int} {H : GHeap} (h : Intss H a xss r := by assumption) (ht : Ints H b t := by assumption) (hl : xss.length ≤ 1048576 := by omega) (hl2 : ∀ i, (xss.getD i []).length ≤ 1048576) (htl : t.length ≤ 1048576 := by omega) :
    GCalls Try.prog 86 [.slice a xss.length xss.length, .slice b t.length t.length] H (Ret (.int .i64 (idxLL xss t)) H) := by
  refine GCalls.ret rfl ?_
  refine GCalls.body (N := 19) (rs := [.tmp 4]) Try.func86 rfl rfl rfl rfl (fun Qx hret hend => ?_)
  refine .forget (fr' := [(0, some _), (1, some _)]) ⟨rfl, rfl, trivial⟩ ?_
  have hle := GHeap.Le.refl H
  have base_h := h
  have base_ht := ht
  refine .seq (fun K1 hK1 => .region (.mv rfl (.nil (hK1 _ _ (.seq (fun K2 hK2 => .seq (fun K3 hK3 => .region (.mv rfl (.nil (hK3 _ _ ?_))))))))))
  refine .block ?_
  refine .loopR (σ := Nat) [(0, some _), (1, some _)] (fun k => [(5, some (.int .i64 (k : Int)))]) (fun k H' => St [] H H' ∧ k ≤ xss.length ∧ ∀ j, j < k → ¬ xss.getD j [] = t) (fun k => xss.length - k) (0) ⟨rfl, rfl, trivial⟩ ⟨rfl, trivial⟩ ?_ ?_
  ·
   refine ⟨.refl _ _, ?_⟩
   exact ⟨by omega, fun _ _ => by omega⟩
  rintro k HL1 ⟨lst1, hI⟩ KL1 hKL1
  refine .forget (fr' := [(5, some (.int .i64 (k : Int))), (0, some _), (1, some _)]) ⟨rfl, rfl, rfl, trivial⟩ ?_
  have nx_HL1 := lst1.nx
  replace hle := hle.st lst1 (fun k hk => trivial)
  replace h := base_h.mono hle
  replace ht := base_ht.mono hle
  obtain ⟨hi, ha⟩ := hI
  refine .seq (fun K4 hK4 => .seq (fun K5 hK5 => .region (.mv rfl (.mv rfl (.m rfl rfl rfl (.len sl_23_B rfl) (.m rfl rfl rfl (.cmp rfl rfl rfl) (.nil (hK5 _ _ ?_))))))))
  refine .cond rfl (fun h9 => ?_) (fun h9 => ?_)
  ·
   simp only [sps] at h9
   have q1 := hl2 k
   have u1 := h.2 k (by omega)
   refine .skip ?_
   refine hK4 _ _ (.seq (fun K6 hK6 => ?_))
   refine .block ?_
   refine .seq (fun K7 hK7 => .region (.mv rfl (.mv rfl ?_)))
   refine .m rfl rfl rfl (.idxN sl_23_B (Intss.sl (by assumption)) rfl rfl (by omega)) ?_
   refine .m rfl rfl rfl (.loadR on_22_B (by assumption) rfl (by omega)) ?_
   refine .mv rfl ?_
   refine .callQ rfl rfl rfl rfl @Try.call99 rfl (l01Same_c) ?_
   refine .nil (hK7 _ _ ?_)
   refine .cond rfl (fun h17 => ?_) (fun h17 => ?_)
   ·
    simp only [sps] at h17
    refine .seq (fun K8 hK8 => .region (.mv rfl (.mv rfl (.nil (hK8 _ _ ?_)))))
    refine .ret ?_
    refine hret _ _ ?_
    refine ⟨_, rfl, ?_⟩
    exact ⟨by rw [idxLL_some (by omega) h17 ha], hle⟩
   simp only [sps] at h17
   refine .skip ?_
   refine hK6 _ _ (.region (.mv rfl ?_))
   refine .m rfl rfl rfl (.add rfl rfl rfl (by omega) (by omega)) ?_
   refine .mv rfl (.nil ?_)
   refine hKL1 (k + 1) _ _ ?_ ?_ ⟨rfl, rfl, rfl, trivial⟩
   ·
    refine ⟨lst1, ?_⟩
    refine ⟨by omega, fun j hj => ?_⟩
    by_cases e : j < k
    · exact ha j e
    · obtain rfl : j = k := by omega
      exact h17
   omega
  try simp only [sps] at h9
  refine .exit ?_
  refine hK2 _ _ (.seq (fun K9 hK9 => .region (.mv rfl (.nil (hK9 _ _ ?_)))))
  refine .ret ?_
  refine hret _ _ ?_
  refine ⟨_, rfl, ?_⟩
  obtain rfl : k = xss.length := by omega
  exact ⟨by rw [idxLL_none ha], hle⟩
end Go.Proofs.Ytagkeabmdodfiaa
namespace Go.Proofs.Ytagkeabmdodfiaa
open Go Go.GL Go.RowKit Go.Proofs
end Go.Proofs.Ytagkeabmdodfiaa
namespace Go.Proofs.Ytagkeabmdodfiaa
open Go Go.GL Go.RowKit Go.Proofs
theorem ze_22_Tb : zeroT Try.prog 22 = some ([.slice none 0 0], 1) := by kernel_rfl
theorem by_22_Tb : (Try.prog.info? 22).map (·.bytes) = some 24 := by kernel_rfl
theorem sz_23_Tb : (Try.prog.info? 23).map (·.size) = some 1 := by kernel_rfl
theorem ze_2_Tb : zeroT Try.prog 2 = some ([.int .i64 0], 1) := by kernel_rfl
theorem by_2_Tb : (Try.prog.info? 2).map (·.bytes) = some 8 := by kernel_rfl
theorem sz_22_Tb : (Try.prog.info? 22).map (·.size) = some 1 := by kernel_rfl
theorem sz_2_Tb : (Try.prog.info? 2).map (·.size) = some 1 := by kernel_rfl
theorem arrowsN_c {g : Nat} {ob : Int} {a1 a2 : Option Addr} {n : Nat} {v3 v4 : Value} {rest : List Value} {T : TypeId} {H : GHeap} (hg : H.get g = some (.row (.int .i64 ob :: .slice a1 n n :: .slice a2 n n :: v3 :: v4 :: rest) T true)) :
    GCalls Try.prog 104 [.pointer (some ⟨g, 0, none⟩)] H (Ret (.int .i64 (n : Int)) H) := by
  refine GCalls.body (N := 8) (rs := [.tmp 2]) Try.func104 rfl rfl rfl rfl (fun Qx hret hend => ?_)
  refine .forget (fr' := [(0, some _)]) ⟨rfl, trivial⟩ ?_
  have hle := GHeap.Le.refl H
  have lt_hg := GHeap.ltg hg
  refine .seq (fun K1 hK1 => .region (.mv rfl (.nil (hK1 _ _ (.seq (fun K2 hK2 => .region (.mv rfl (.m rfl rfl rfl (.nilCheck rfl) (.m rfl rfl rfl (.fieldAddr fo_31_1_B rfl) ?_)))))))))
  refine .m rfl rfl rfl (.load on_22_B rfl (by first | assumption | exact Mem.of_get hg 1 _ rfl)) ?_
  refine .m rfl rfl rfl (.len sl_22_A rfl) (.mv rfl (.nil (hK2 _ _ ?_)))
  refine .ret ?_
  refine hret _ _ ?_
  refine ⟨_, rfl, ?_⟩
  exact .mk
set_option maxHeartbeats 4000000 in
theorem tableG_c {g n fn : Nat} {ob : Int} {a1 a2 : Option Addr} {v3 v4 : Value} {rest : List Value} {T : TypeId} {src tgt : List Int} {cap : Array Value} {X : Nat → Nat → Int} {H : GHeap} (hg : H.get g = some (.row (.int .i64 ob :: .slice a1 n n :: .slice a2 n n :: v3 :: v4 :: rest) T true)) (h1 : src.length = n) (h2 : tgt.length = n) (hn : n ≤ 1048576)
    (k1 : ∀ H', St [g] H H' → Ints H' a1 src) (k2 : ∀ H', St [g] H H' → Ints H' a2 tgt)
    (hcall : ∀ (xs : Array Value) (w : World), (callFunc fn xs).run Try.prog w = .ok (.enter fn xs) w)
    (hq : ∀ H' v, St [g] H H' → H'.get g = some (.row (.int .i64 ob :: .slice a1 n n :: .slice a2 n n :: v3 :: v :: rest) T true) → ∀ i j : Nat, i < n → j < n → tgt.getD i 0 = src.getD j 0 → GCalls Try.prog fn ([.int .i64 (i : Int), .int .i64 (j : Int)] ++ cap.toList) H' (fun v H'' => H'.Le H'' ∧ v = .int .i64 (X i j))) :
    GCalls Try.prog 62 [.pointer (some ⟨g, 0, none⟩), .func (.func fn) #[] cap] H (fun _ H' => St [g] H H' ∧ ∃ gC r, H'.get g = some (.row (.int .i64 ob :: .slice a1 n n :: .slice a2 n n :: v3 :: .slice (some ⟨gC, 0, none⟩) n n :: rest) T true) ∧ H.next ≤ gC ∧
      IntssR H.next H' (some ⟨gC, 0, none⟩) (tabL src tgt X n) r ∧ ∀ i, i < n → ∀ x, r i = some ⟨x, 0, none⟩ → H.next ≤ x) := by
  refine GCalls.body (N := 80) (rs := []) Try.func62 rfl rfl rfl rfl (fun Qx hret hend => ?_)
  refine .forget (fr' := [(0, some _), (1, some _)]) ⟨rfl, rfl, trivial⟩ ?_
  have lt_hg := GHeap.ltg hg
  have hst := St.refl [g] H
  have i1 := k1 _ hst
  have i2 := k2 _ hst
  have j1 := i1.slN h1
  have j2 := i2.slN h2
  refine .seq (fun K1 hK1 => .region (.mv rfl ?_))
  refine .callQ rfl rfl rfl rfl @Try.call104 rfl (arrowsN_c (by assumption)) ?_
  refine .mv rfl (.nil (hK1 _ _ (.seq (fun K2 hK2 => .region (.mv rfl (.mv rfl ?_))))))
  refine .r rfl rfl rfl (.makeV rfl sl_23_B ze_22_Tb by_22_Tb rfl rfl rfl (by omega) (by omega) (by omega) (by omega)) ?_
  rintro _ H11 ⟨g11, rfl, le11, ge11, at11⟩
  have nx_H11 := le11.1
  replace hst := hst.le le11
  replace hg := le11.2 _ _ hg
  have lt_at11 := GHeap.ltg at11
  clear i1 i2 j1 j2
  have i1 := k1 _ hst
  have i2 := k2 _ hst
  have j1 := i1.slN h1
  have j2 := i2.slN h2
  refine .m rfl rfl rfl (.nilCheck rfl) (.m rfl rfl rfl (.fieldAddr fo_31_4_B rfl) ?_)
  simp only [Int.toNat_natCast] at at11
  refine .r0 rfl rfl (.storeR rfl sz_23_Tb rfl rfl rfl (by assumption) (by first | exact Nat.le_of_ble_eq_true rfl | (simp; done) | (simp <;> omega))) ?_
  rintro _ H1005 ⟨rfl, st1005, at1005⟩
  have nx_H1005 := st1005.nx
  replace hst := hst.st st1005 (fun k hk ho => by simp only [out, and_true] at ho ⊢ <;> first | exact ho | exact ho.1 | exact ho.2 | exact ho.2.1 | exact ho.2.2 | exact ho.2.2.1 | exact ho.2.2.2 | omega)
  have ne_g11_g : g11 ≠ g := by first | assumption | omega
  replace at11 := st1005.same _ _ ⟨ne_g11_g, trivial⟩ at11
  have lt_at1005 := GHeap.ltg at1005
  clear i1 i2 j1 j2
  have i1 := k1 _ hst
  have i2 := k2 _ hst
  have j1 := i1.slN h1
  have j2 := i2.slN h2
  try simp only [Nat.zero_add, List.set_cons_succ, List.set_cons_zero] at at1005
  simp only [Int.toNat_natCast] at at1005
  refine .nil (hK2 _ _ (.seq (fun K3 hK3 => .region (.mv rfl (.m rfl rfl rfl (.nilCheck rfl) (.m rfl rfl rfl (.fieldAddr fo_31_4_B rfl) ?_))))))
  refine .m rfl rfl rfl (.load on_23_B rfl (by first | assumption | exact Mem.of_get at1005 4 _ rfl)) ?_
  refine .m rfl rfl rfl (.len sl_23_B rfl) (.mv rfl (.nil (hK3 _ _ ?_)))
  refine .block ?_
  refine .loopR (σ := Nat × (Nat → Option Addr)) [(0, some _), (1, some _), (4, some _), (18, some _)] (fun (k, rr) => [(19, some (.int .i64 (k : Int)))]) (fun (k, rr) H' => St [g11] H1005 H' ∧ H'.get g11 = some (.row ((fillS rr n k)) 22 true) ∧ k ≤ n ∧ OwnRows H.next H' 2 rr (tabR src tgt X n) k) (fun (k, rr) => n - k) ((0, fun _ => none)) ⟨rfl, rfl, rfl, rfl, trivial⟩ ⟨rfl, trivial⟩ ?_ ?_
  ·
   refine ⟨.refl _ _, by first | assumption | (rw [fillS_zero]; simpa using at11), ?_⟩
   exact ⟨by omega, .zero _ _ _ _ _⟩
  rintro ⟨k, rr⟩ HL1 ⟨lst1, at_Lg11, hI⟩ KL1 hKL1
  refine .forget (fr' := [(19, some (.int .i64 (k : Int))), (0, some _), (1, some _), (4, some _), (18, some _)]) ⟨rfl, rfl, rfl, rfl, rfl, trivial⟩ ?_
  have nx_HL1 := lst1.nx
  replace hst := hst.st lst1 (fun k hk ho => by simp only [out, and_true] at ho ⊢ <;> first | exact ho | exact ho.1 | exact ho.2 | exact ho.2.1 | exact ho.2.2 | exact ho.2.2.1 | exact ho.2.2.2 | omega)
  replace at1005 := lst1.same _ _ ⟨(Ne.symm ne_g11_g), trivial⟩ at1005
  have lt_at_Lg11 := GHeap.ltg at_Lg11
  clear i1 i2 j1 j2
  have i1 := k1 _ hst
  have i2 := k2 _ hst
  have j1 := i1.slN h1
  have j2 := i2.slN h2
  have rk := St.refl [g11] HL1
  obtain ⟨hk, hR⟩ := hI
  have hatC := at_Lg11
  refine .seq (fun K4 hK4 => .region (.m rfl rfl rfl (.cmp rfl rfl rfl) (.nil (hK4 _ _ (.seq (fun K5 hK5 => ?_))))))
  refine .cond rfl (fun h20 => ?_) (fun h20 => ?_)
  ·
   simp only [sps] at h20
   refine .skip ?_
   refine hK5 _ _ (.seq (fun K6 hK6 => ?_))
   refine .block ?_
   refine .seq (fun K7 hK7 => .region (.mv rfl (.mv rfl (.nil (hK7 _ _ (.seq (fun K8 hK8 => ?_)))))))
   refine .regionD mo_B (.q 0 (.q 1 (.q 2 (.q 3 (.q 4 (.q 5 (.c 6 1 (.q 7 (.c 8 0 (.done)))))))))) (by kernel_rfl) ?_
   refine .mv rfl rfl (.m rfl rfl rfl rfl (.refl _) (.nilCheck rfl) (.m rfl rfl rfl rfl (.refl _) (.fieldAddr fo_31_4_B rfl) ?_))
   refine .m rfl rfl rfl rfl (.refl _) (.load on_23_B rfl (by first | assumption | exact Mem.of_get at1005 4 _ rfl)) ?_
   refine .mv rfl rfl (.mv rfl rfl ?_)
   refine .c1 rfl rfl rfl rfl (.makeI rfl sl_22_A ze_2_Tb by_2_Tb rfl rfl (by omega) (by omega) (by omega) (by omega)) ?_
   rintro _ H28 ⟨g28, rfl, le28, ge28, at28⟩
   have hbl := le28
   refine ⟨hbl, ?_⟩
   have nx_H28 := le28.1
   replace hst := hst.le le28
   replace lst1 := lst1.le le28
   replace rk := rk.le le28
   replace at1005 := le28.2 _ _ at1005
   replace at_Lg11 := le28.2 _ _ at_Lg11
   have lt_at28 := GHeap.ltg at28
   clear i1 i2 j1 j2
   have i1 := k1 _ hst
   have i2 := k2 _ hst
   have j1 := i1.slN h1
   have j2 := i2.slN h2
   refine .m rfl rfl rfl rfl hbl (.idxN sl_23_B (by first | exact (Intss.sl (by assumption)) | exact SlA.of_row at_Lg11 (by first | rfl | (simp; done) | (simp <;> omega))) rfl rfl (by omega)) ?_
   refine .r0 rfl rfl rfl (.storeR rfl sz_22_Tb rfl rfl rfl (by assumption) (by first | exact Nat.le_of_ble_eq_true rfl | (simp; done) | (simp <;> omega))) ?_
   rintro _ H5008 ⟨rfl, st5008, at5008⟩
   have nx_H5008 := st5008.nx
   replace hst := hst.st st5008 (fun k hk ho => by simp only [out, and_true] at ho ⊢ <;> first | exact ho | exact ho.1 | exact ho.2 | exact ho.2.1 | exact ho.2.2 | exact ho.2.2.1 | exact ho.2.2.2 | omega)
   replace lst1 := lst1.st st5008 (fun k hk ho => by simp only [out, and_true] at ho ⊢ <;> first | exact ho | exact ho.1 | exact ho.2 | exact ho.2.1 | exact ho.2.2 | exact ho.2.2.1 | exact ho.2.2.2 | omega)
   replace rk := rk.st st5008 (fun k hk ho => by simp only [out, and_true] at ho ⊢ <;> first | exact ho | exact ho.1 | exact ho.2 | exact ho.2.1 | exact ho.2.2 | exact ho.2.2.1 | exact ho.2.2.2 | omega)
   replace at1005 := st5008.same _ _ ⟨(Ne.symm ne_g11_g), trivial⟩ at1005
   have ne_g28_g11 : g28 ≠ g11 := by first | assumption | omega
   replace at28 := st5008.same _ _ ⟨ne_g28_g11, trivial⟩ at28
   have lt_at5008 := GHeap.ltg at5008
   clear i1 i2 j1 j2
   have i1 := k1 _ hst
   have i2 := k2 _ hst
   have j1 := i1.slN h1
   have j2 := i2.slN h2
   simp only [Int.toNat_natCast, Nat.zero_add] at at5008 at28
   rw [fillS_set (by omega)] at at5008
   have cC := fillS_cell (i := k) at5008 (by omega) (by omega)
   refine .done ?_
   refine hK8 _ _ (.seq (fun K9 hK9 => .region (.mv rfl (.m rfl rfl rfl (.nilCheck rfl) (.m rfl rfl rfl (.fieldAddr fo_31_4_B rfl) ?_)))))
   refine .m rfl rfl rfl (.load on_23_B rfl (by first | assumption | exact Mem.of_get at1005 4 _ rfl)) ?_
   refine .mv rfl ?_
   refine .m rfl rfl rfl (.idxN sl_23_B (by first | exact (Intss.sl (by assumption)) | exact SlA.of_row at5008 (by first | rfl | (simp; done) | (simp <;> omega))) rfl rfl (by omega)) ?_
   refine .m rfl rfl rfl (.load on_22_B rfl (by rw [upd_eq] at cC; exact cC)) ?_
   refine .m rfl rfl rfl (.len sl_22_A rfl) (.mv rfl (.nil (hK9 _ _ ?_)))
   refine .block ?_
   refine .loopR (σ := Nat) [(0, some _), (1, some _), (4, some _), (5, some _), (18, some _), (19, some _), (37, some _)] (fun j => [(38, some (.int .i64 (j : Int)))]) (fun j H' => St [g28] H5008 H' ∧ H'.get g28 = some (.row (ints (fillI (tabC src tgt X k) n j)) 2 true) ∧ j ≤ n) (fun j => n - j) (0) ⟨rfl, rfl, rfl, rfl, rfl, rfl, rfl, trivial⟩ ⟨rfl, trivial⟩ ?_ ?_
   ·
    refine ⟨.refl _ _, by (rw [fillI_zero]; simpa using at28), ?_⟩
    omega
   rintro j HL2 ⟨lst2, at_Lg28, hI⟩ KL2 hKL2
   refine .forget (fr' := [(38, some (.int .i64 (j : Int))), (0, some _), (1, some _), (4, some _), (5, some _), (18, some _), (19, some _), (37, some _)]) ⟨rfl, rfl, rfl, rfl, rfl, rfl, rfl, rfl, trivial⟩ ?_
   have nx_HL2 := lst2.nx
   replace hst := hst.st lst2 (fun k hk ho => by simp only [out, and_true] at ho ⊢ <;> first | exact ho | exact ho.1 | exact ho.2 | exact ho.2.1 | exact ho.2.2 | exact ho.2.2.1 | exact ho.2.2.2 | omega)
   replace lst1 := lst1.st lst2 (fun k hk ho => by simp only [out, and_true] at ho ⊢ <;> first | exact ho | exact ho.1 | exact ho.2 | exact ho.2.1 | exact ho.2.2 | exact ho.2.2.1 | exact ho.2.2.2 | omega)
   replace rk := rk.st lst2 (fun k hk ho => by simp only [out, and_true] at ho ⊢ <;> first | exact ho | exact ho.1 | exact ho.2 | exact ho.2.1 | exact ho.2.2 | exact ho.2.2.1 | exact ho.2.2.2 | omega)
   have ne_g_g28 : g ≠ g28 := by first | assumption | omega
   replace at1005 := lst2.same _ _ ⟨ne_g_g28, trivial⟩ at1005
   replace at5008 := lst2.same _ _ ⟨(Ne.symm ne_g28_g11), trivial⟩ at5008
   have lt_at_Lg28 := GHeap.ltg at_Lg28
   clear i1 i2 j1 j2
   have i1 := k1 _ hst
   have i2 := k2 _ hst
   have j1 := i1.slN h1
   have j2 := i2.slN h2
   clear cC
   have cC := fillS_cell (i := k) at5008 (by omega) (by omega)
   refine .seq (fun K10 hK10 => .region (.m rfl rfl rfl (.cmp rfl rfl rfl) (.nil (hK10 _ _ (.seq (fun K11 hK11 => ?_))))))
   refine .cond rfl (fun h39 => ?_) (fun h39 => ?_)
   ·
    simp only [sps] at h39
    refine .skip ?_
    refine hK11 _ _ (.seq (fun K12 hK12 => ?_))
    refine .block ?_
    refine .seq (fun K13 hK13 => .region (.mv rfl (.mv rfl (.nil (hK13 _ _ (.seq (fun K14 hK14 => .region (.mv rfl (.m rfl rfl rfl (.nilCheck rfl) (.m rfl rfl rfl (.fieldAddr fo_31_4_B rfl) ?_))))))))))
    refine .m rfl rfl rfl (.load on_23_B rfl (by first | assumption | exact Mem.of_get at1005 4 _ rfl)) ?_
    refine .mv rfl ?_
    refine .m rfl rfl rfl (.idxN sl_23_B (by first | exact (Intss.sl (by assumption)) | exact SlA.of_row at5008 (by first | rfl | (simp; done) | (simp <;> omega))) rfl rfl (by omega)) ?_
    refine .m rfl rfl rfl (.load on_22_B rfl (by rw [upd_eq] at cC; exact cC)) ?_
    refine .mv rfl ?_
    refine .m rfl rfl rfl (.idxN sl_22_A (by first | assumption | exact SlA.of_row at_Lg28 (by first | rfl | (simp; done) | (simp <;> omega))) rfl rfl (by omega)) ?_
    refine .r0 rfl rfl (.storeI rfl sz_2_Tb rfl rfl (by assumption) (by first | omega | (simp <;> omega))) ?_
    rintro _ H9009 ⟨rfl, st9009, at9009⟩
    have nx_H9009 := st9009.nx
    replace hst := hst.st st9009 (fun k hk ho => by simp only [out, and_true] at ho ⊢ <;> first | exact ho | exact ho.1 | exact ho.2 | exact ho.2.1 | exact ho.2.2 | exact ho.2.2.1 | exact ho.2.2.2 | omega)
    replace lst1 := lst1.st st9009 (fun k hk ho => by simp only [out, and_true] at ho ⊢ <;> first | exact ho | exact ho.1 | exact ho.2 | exact ho.2.1 | exact ho.2.2 | exact ho.2.2.1 | exact ho.2.2.2 | omega)
    replace rk := rk.st st9009 (fun k hk ho => by simp only [out, and_true] at ho ⊢ <;> first | exact ho | exact ho.1 | exact ho.2 | exact ho.2.1 | exact ho.2.2 | exact ho.2.2.1 | exact ho.2.2.2 | omega)
    replace lst2 := lst2.st st9009 (fun k hk ho => by simp only [out, and_true] at ho ⊢ <;> first | exact ho | exact ho.1 | exact ho.2 | exact ho.2.1 | exact ho.2.2 | exact ho.2.2.1 | exact ho.2.2.2 | omega)
    replace at1005 := st9009.same _ _ ⟨ne_g_g28, trivial⟩ at1005
    replace at5008 := st9009.same _ _ ⟨(Ne.symm ne_g28_g11), trivial⟩ at5008
    have lt_at9009 := GHeap.ltg at9009
    clear i1 i2 j1 j2
    have i1 := k1 _ hst
    have i2 := k2 _ hst
    have j1 := i1.slN h1
    have j2 := i2.slN h2
    clear cC
    have cC := fillS_cell (i := k) at5008 (by omega) (by omega)
    refine .nil (hK14 _ _ (.seq (fun K15 hK15 => ?_)))
    refine .regionD mo_B (.q 0 (.q 1 (.q 2 (.q 3 (.q 4 (.q 5 (.q 6 (.q 7 (.q 8 (.q 9 (.q 10 (.q 11 (.q 12 (.q 13 (.q 14 (.done)))))))))))))))) (by kernel_rfl) ?_
    refine .mv rfl rfl (.m rfl rfl rfl rfl (.refl _) (.nilCheck rfl) (.m rfl rfl rfl rfl (.refl _) (.fieldAddr fo_31_2_B rfl) ?_))
    refine .m rfl rfl rfl rfl (.refl _) (.load on_22_B rfl (by first | assumption | exact Mem.of_get at1005 2 _ rfl)) ?_
    refine .mv rfl rfl ?_
    refine .m rfl rfl rfl rfl (.refl _) (.idxN sl_22_A (by assumption) rfl rfl (by omega)) ?_
    refine .m rfl rfl rfl rfl (.refl _) (.loadI on_2_A (by assumption) rfl (by omega)) ?_
    refine .mv rfl rfl (.m rfl rfl rfl rfl (.refl _) (.nilCheck rfl) (.m rfl rfl rfl rfl (.refl _) (.fieldAddr fo_31_1_B rfl) ?_))
    refine .m rfl rfl rfl rfl (.refl _) (.load on_22_B rfl (by first | assumption | exact Mem.of_get at1005 1 _ rfl)) ?_
    refine .mv rfl rfl ?_
    refine .m rfl rfl rfl rfl (.refl _) (.idxN sl_22_A (by assumption) rfl rfl (by omega)) ?_
    refine .m rfl rfl rfl rfl (.refl _) (.loadI on_2_A (by assumption) rfl (by omega)) ?_
    refine .m rfl rfl rfl rfl (.refl _) (.cmp rfl rfl rfl) ?_
    refine .done ?_
    refine hK15 _ _ ?_
    refine .cond rfl (fun h64 => ?_) (fun h64 => ?_)
    ·
     simp only [sps] at h64
     refine .regionD mo_B (.q 0 (.q 1 (.q 2 (.q 3 (.q 4 (.q 5 (.q 6 (.q 7 (.q 8 (.q 9 (.q 10 (.c 11 1 (.q 12 (.c 13 0 (.done))))))))))))))) (by kernel_rfl) ?_
     refine .mv rfl rfl (.m rfl rfl rfl rfl (.refl _) (.nilCheck rfl) (.m rfl rfl rfl rfl (.refl _) (.fieldAddr fo_31_4_B rfl) ?_))
     refine .m rfl rfl rfl rfl (.refl _) (.load on_23_B rfl (by first | assumption | exact Mem.of_get at1005 4 _ rfl)) ?_
     refine .mv rfl rfl ?_
     refine .m rfl rfl rfl rfl (.refl _) (.idxN sl_23_B (by first | exact (Intss.sl (by assumption)) | exact SlA.of_row at5008 (by first | rfl | (simp; done) | (simp <;> omega))) rfl rfl (by omega)) ?_
     refine .m rfl rfl rfl rfl (.refl _) (.load on_22_B rfl (by rw [upd_eq] at cC; exact cC)) ?_
     refine .mv rfl rfl (.mv rfl rfl (.mv rfl rfl (.mv rfl rfl ?_)))
     refine .callV1 rfl rfl rfl rfl rfl rfl hcall rfl ((hq _ _ hst at1005 k j (by omega) (by omega) h64)) ?_
     rintro _ H76 ⟨le76, rfl⟩
     have hbl := le76
     refine ⟨hbl, ?_⟩
     have nx_H76 := le76.1
     replace hst := hst.le le76
     replace lst1 := lst1.le le76
     replace rk := rk.le le76
     replace lst2 := lst2.le le76
     replace at1005 := le76.2 _ _ at1005
     replace at5008 := le76.2 _ _ at5008
     replace at9009 := le76.2 _ _ at9009
     clear i1 i2 j1 j2
     have i1 := k1 _ hst
     have i2 := k2 _ hst
     have j1 := i1.slN h1
     have j2 := i2.slN h2
     clear cC
     have cC := fillS_cell (i := k) at5008 (by omega) (by omega)
     refine .m rfl rfl rfl rfl hbl (.idxN sl_22_A (by first | assumption | exact SlA.of_row at9009 (by first | rfl | (simp; done) | (simp <;> omega))) rfl rfl (by omega)) ?_
     refine .r0 rfl rfl rfl (.storeI rfl sz_2_Tb rfl rfl (by assumption) (by first | omega | (simp <;> omega))) ?_
     rintro _ H11013 ⟨rfl, st11013, at11013⟩
     have nx_H11013 := st11013.nx
     replace hst := hst.st st11013 (fun k hk ho => by simp only [out, and_true] at ho ⊢ <;> first | exact ho | exact ho.1 | exact ho.2 | exact ho.2.1 | exact ho.2.2 | exact ho.2.2.1 | exact ho.2.2.2 | omega)
     replace lst1 := lst1.st st11013 (fun k hk ho => by simp only [out, and_true] at ho ⊢ <;> first | exact ho | exact ho.1 | exact ho.2 | exact ho.2.1 | exact ho.2.2 | exact ho.2.2.1 | exact ho.2.2.2 | omega)
     replace rk := rk.st st11013 (fun k hk ho => by simp only [out, and_true] at ho ⊢ <;> first | exact ho | exact ho.1 | exact ho.2 | exact ho.2.1 | exact ho.2.2 | exact ho.2.2.1 | exact ho.2.2.2 | omega)
     replace lst2 := lst2.st st11013 (fun k hk ho => by simp only [out, and_true] at ho ⊢ <;> first | exact ho | exact ho.1 | exact ho.2 | exact ho.2.1 | exact ho.2.2 | exact ho.2.2.1 | exact ho.2.2.2 | omega)
     replace at1005 := st11013.same _ _ ⟨ne_g_g28, trivial⟩ at1005
     replace at5008 := st11013.same _ _ ⟨(Ne.symm ne_g28_g11), trivial⟩ at5008
     have lt_at11013 := GHeap.ltg at11013
     clear i1 i2 j1 j2
     have i1 := k1 _ hst
     have i2 := k2 _ hst
     have j1 := i1.slN h1
     have j2 := i2.slN h2
     clear cC
     have cC := fillS_cell (i := k) at5008 (by omega) (by omega)
     refine .done ?_
     refine hK12 _ _ (.region ?_)
     refine .m rfl rfl rfl (.add rfl rfl rfl (by omega) (by omega)) ?_
     refine .mv rfl (.nil ?_)
     refine hKL2 (j + 1) _ _ ?_ ?_ ⟨rfl, rfl, rfl, rfl, rfl, rfl, rfl, rfl, trivial⟩
     ·
      refine ⟨lst2, by first | assumption | (rw [← fillI_set (by omega) (tabC_F h64).symm]; simpa using at9009) | (rw [← fillI_set (by omega) (tabC_T h64).symm, ← List.set_set (-1)]; simpa using at11013), ?_⟩
      omega
     omega
    simp only [sps] at h64
    refine .skip ?_
    refine hK12 _ _ (.region ?_)
    refine .m rfl rfl rfl (.add rfl rfl rfl (by omega) (by omega)) ?_
    refine .mv rfl (.nil ?_)
    refine hKL2 (j + 1) _ _ ?_ ?_ ⟨rfl, rfl, rfl, rfl, rfl, rfl, rfl, rfl, trivial⟩
    ·
     refine ⟨lst2, by first | assumption | (rw [← fillI_set (by omega) (tabC_F h64).symm]; simpa using at9009) | (rw [← fillI_set (by omega) (tabC_T h64).symm, ← List.set_set (-1)]; simpa using at11013), ?_⟩
     omega
    omega
   try simp only [sps] at h39
   refine .exit ?_
   refine hK6 _ _ (.region ?_)
   refine .m rfl rfl rfl (.add rfl rfl rfl (by omega) (by omega)) ?_
   refine .mv rfl (.nil ?_)
   obtain rfl : j = n := by omega
   refine hKL1 ((k + 1, upd rr k (some ⟨g28, 0, none⟩))) _ _ ?_ ?_ ⟨rfl, rfl, rfl, rfl, rfl, trivial⟩
   ·
    refine ⟨lst1, by assumption, ?_⟩
    exact ⟨by omega, hR.succ rk hatC rfl (by rw [tabR, ← fillI_all]; assumption) (by omega) (by omega)⟩
   (dsimp only; omega)
  try simp only [sps] at h20
  refine .exit ?_
  refine hend _ _ ?_
  obtain rfl : k = n := by omega
  exact ⟨hst, g11, rr, at1005, by omega, (OwnRows.done hR (by rw [← fillS_all (fun i _ => length_tabR _ _ _ _ _)]; exact at_Lg11) (by omega)), fun i hi x hx => by obtain ⟨y, y1, y2, _⟩ := hR.row i hi; rw [y1] at hx; cases hx; exact y2⟩
end Go.Proofs.Ytagkeabmdodfiaa
namespace Go.Proofs.Ytagkeabmdodfiaa
open Go Go.GL Go.RowKit Go.Proofs
end Go.Proofs.Ytagkeabmdodfiaa
namespace Go.GL
noncomputable def ctCode (p q : Prof) (x z : Int) : Int := bif B (p.Is ∧ q.Is) then (bif B ((0 ≤ x ∧ x < p.s.obj) ∧ (0 ≤ z ∧ z < q.t.obj)) then (bif B (p.t = q.s) then 0 else 5) else 2) else 1
theorem ctCode_1 {p q : Prof} {x z : Int} (h : ¬ (p.Is ∧ q.Is)) : ctCode p q x z = 1 := by unfold ctCode; rw [B_false h]; rfl
theorem ctCode_2 {p q : Prof} {x z : Int} (h : p.Is ∧ q.Is) (h' : ¬ ((0 ≤ x ∧ x < p.s.obj) ∧ (0 ≤ z ∧ z < q.t.obj))) : ctCode p q x z = 2 := by unfold ctCode; rw [B_true h, B_false h']; rfl
theorem ctCode_3 {p q : Prof} {x z : Int} (h : p.Is ∧ q.Is) (h' : (0 ≤ x ∧ x < p.s.obj) ∧ (0 ≤ z ∧ z < q.t.obj)) (h'' : ¬ p.t = q.s) : ctCode p q x z = 5 := by unfold ctCode; rw [B_true h, B_true h', B_false h'']; rfl
theorem ctCode_0 {p q : Prof} {x z : Int} (h : ctCode p q x z = 0) : p.Is ∧ q.Is ∧ 0 ≤ x ∧ x < p.s.obj ∧ 0 ≤ z ∧ z < q.t.obj ∧ p.t = q.s := by
  by_cases h1 : p.Is ∧ q.Is
  · by_cases h2 : (0 ≤ x ∧ x < p.s.obj) ∧ (0 ≤ z ∧ z < q.t.obj)
    · by_cases h3 : p.t = q.s
      · exact ⟨h1.1, h1.2, h2.1.1, h2.1.2, h2.2.1, h2.2.2, h3⟩
      · rw [ctCode_3 h1 h2 h3] at h; omega
    · rw [ctCode_2 h1 h2] at h; omega
  · rw [ctCode_1 h1] at h; omega
def ctPr (y e d : Nat) : List Int := [(y : Int), (e : Int), (d : Int)]
def ctL (p q : Prof) (x z : Int) (y e d : Nat) : List (List Int) := nest3 ctPr (fun y => ((p.sz.getD x.toNat []).getD y 0).toNat) (fun y _ => ((q.sz.getD y []).getD z.toNat 0).toNat) y e d
theorem ctL_snoc {p q : Prof} {x z : Int} {y e d : Nat} : ctL p q x z y e (d + 1) = ctL p q x z y e d ++ [ctPr y e d] := nest3_snoc
theorem ctL_next2 {p q : Prof} {x z : Int} {y e : Nat} : ctL p q x z y (e + 1) 0 = ctL p q x z y e ((q.sz.getD y []).getD z.toNat 0).toNat := nest3_next2
theorem ctL_next1 {p q : Prof} {x z : Int} {y : Nat} : ctL p q x z (y + 1) 0 0 = ctL p q x z y ((p.sz.getD x.toNat []).getD y 0).toNat 0 := nest3_next1
structure CtOk (p q : Prof) (x z : Int) (n : Nat) : Prop where
  n8 : n ≤ 8
  x0 : 0 ≤ x
  xl : x.toNat < p.sz.length
  z0 : 0 ≤ z
  pn : ((p.sz.getD x.toNat []).length : Int) = n
  qn : (q.sz.length : Int) = n
  pe : ∀ y, y < n → 0 ≤ (p.sz.getD x.toNat []).getD y 0 ∧ (p.sz.getD x.toNat []).getD y 0 ≤ 64
  qe : ∀ y, y < n → z.toNat < (q.sz.getD y []).length ∧ 0 ≤ (q.sz.getD y []).getD z.toNat 0 ∧ (q.sz.getD y []).getD z.toNat 0 ≤ 64
theorem CtOk.of {p q : Prof} {x z : Int} (hp : p.Is) (hq : q.Is) (h1 : 0 ≤ x) (h2 : x < p.s.obj) (h3 : 0 ≤ z) (h4 : z < q.t.obj) (h5 : p.t = q.s) : CtOk p q x z p.t.obj.toNat ∧ 0 ≤ p.t.obj := by
  have a1 := hp.1.t.1.obj
  have a2 := hp.1.z.sl
  have a3 := hq.1.z.sl
  have a4 := hp.1.z.row x.toNat (by omega)
  have e1 : q.s.obj = p.t.obj := by rw [h5]
  refine ⟨⟨by omega, h1, by omega, h3, by omega, by omega, fun y hy => hp.1.z.rng _ (by omega) y (by omega), fun y hy => ?_⟩, by omega⟩
  have b1 := hq.1.z.row y (by omega)
  exact ⟨by omega, hq.1.z.rng y (by omega) z.toNat (by omega)⟩
theorem CtOk.len {p q : Prof} {x z : Int} {n y e d : Nat} (h : CtOk p q x z n) (hy : y < n) (he : e < ((p.sz.getD x.toNat []).getD y 0).toNat) (hd : d ≤ ((q.sz.getD y []).getD z.toNat 0).toNat) : (ctL p q x z y e d).length ≤ 32768 := by
  have := nest3_le (pr := ctPr) (s1 := fun y => ((p.sz.getD x.toNat []).getD y 0).toNat) (s2 := fun y _ => ((q.sz.getD y []).getD z.toNat 0).toNat) (c := 64) (d := 64) (n := n) (fun a ha => by have := h.pe a ha; omega) (fun a ha b _ => by have := h.qe a ha; omega) hy he hd
  have h2 : n * (64 * 64) ≤ 8 * (64 * 64) := Nat.mul_le_mul_right _ h.n8
  exact Nat.le_trans this h2
def tcells (xss : List (List Int)) : List Value := xss.flatMap ints
theorem tcells_len {xss : List (List Int)} (h : ∀ x ∈ xss, x.length = 3) : (tcells xss).length = xss.length * 3 := by
  induction xss with
  | nil => rfl
  | cons x r ih =>
    have h1 := h x (by simp)
    have h2 := ih fun y hy => h y (by simp [hy])
    unfold tcells at h2 ⊢
    simp only [List.flatMap_cons, List.length_append, length_ints, List.length_cons]
    omega
theorem tcells_slA {H : GHeap} {g : Nat} {e : TypeId} {own : Bool} {xss : List (List Int)} (h : ∀ x ∈ xss, x.length = 3) (hg : H.get g = some (.row (tcells xss) e own)) : SlA H (some ⟨g, 0, none⟩) (xss.length * 3) (fun i => (tcells xss).getD i undef) :=
  .inr ⟨g, 0, rfl, fun i hi => by
    rw [GHeap.cell_of hg, Nat.zero_add]
    show _ = some ((tcells xss).getD i undef)
    rw [List.getD_eq_getElem?_getD, List.getElem?_eq_getElem (by rw [tcells_len h]; exact hi)]; rfl⟩
structure TrAt (b : Nat) (H : GHeap) (g : Nat) (xss : List (List Int)) : Prop where
  lo : b ≤ g
  three : ∀ x ∈ xss, x.length = 3
  at' : ∃ e, H.get g = some (.row (tcells xss) e true)
theorem TrAt.keep {b b' : Nat} {H H' : GHeap} {g : Nat} {xss : List (List Int)} (h : TrAt b H g xss) (k : Keep b' H H') (hb : b' ≤ b) : TrAt b' H' g xss := by
  obtain ⟨h1, h2, e, h3⟩ := h
  exact ⟨by omega, h2, e, k _ _ (by omega) h3⟩
theorem TrAt.sl {b : Nat} {H : GHeap} {g : Nat} {xss : List (List Int)} (h : TrAt b H g xss) : SlA H (some ⟨g, 0, none⟩) (xss.length * 3) (fun i => (tcells xss).getD i undef) := by
  obtain ⟨h1, h2, e, h3⟩ := h
  exact tcells_slA h2 h3
theorem TrAt.row {b : Nat} {H : GHeap} {g : Nat} {xss : List (List Int)} (h : TrAt b H g xss) {i : Nat} (hi : i < xss.length) : (xss.getD i []).length = 3 := h.three _ (getD_mem_list (d := []) hi)
end Go.GL
namespace Go.GL
def ccF (m k : Prof) (x z : Int) (y : Nat) : Int := (m.sz.getD x.toNat []).getD y 0 * (k.sz.getD y []).getD z.toNat 0
def ccSt (m k : Prof) (x z : Int) (n : Nat) : List Int := (List.range n).map (sumN (ccF m k x z))
theorem ccSt_get {m k : Prof} {x z : Int} {n i : Nat} (h : i < n) : (ccSt m k x z n).getD i 0 = sumN (ccF m k x z) i := by simp [ccSt, List.getD_eq_getElem?_getD, h]
theorem prod_bd {a b : Int} (ha : 0 ≤ a ∧ a ≤ 64) (hb : 0 ≤ b ∧ b ≤ 64) : 0 ≤ a * b ∧ a * b ≤ 4096 := by
  have h1 := Int.mul_nonneg ha.1 hb.1
  have h2 : a * b ≤ 64 * 64 := Int.mul_le_mul ha.2 hb.2 hb.1 (by omega)
  omega
theorem ccF_bd {m k : Prof} {x z : Int} {n : Nat} (hc : CtOk m k x z n) {y : Nat} (hy : y < n) : 0 ≤ ccF m k x z y ∧ ccF m k x z y ≤ 4096 := prod_bd (hc.pe y hy) (hc.qe y hy).2
theorem ccSum_bd {m k : Prof} {x z : Int} {n : Nat} (hc : CtOk m k x z n) {y : Nat} (hy : y ≤ n) : 0 ≤ sumN (ccF m k x z) y ∧ sumN (ccF m k x z) y ≤ 32768 := by
  have h1 := sumN_bd (f := ccF m k x z) (c := 4096) (N := n) (fun i hi => ccF_bd hc hi) hy
  have h2 := hc.n8
  omega
theorem ctL_lenD {m k : Prof} {x z : Int} {y e : Nat} : ∀ {d}, (ctL m k x z y e d).length = (ctL m k x z y e 0).length + d
  | 0 => rfl
  | d + 1 => by rw [ctL_snoc, List.length_append, ctL_lenD (d := d)]; simp; omega
theorem ctL_lenE {m k : Prof} {x z : Int} {y : Nat} : ∀ {e}, (ctL m k x z y e 0).length = (ctL m k x z y 0 0).length + e * ((k.sz.getD y []).getD z.toNat 0).toNat
  | 0 => by simp
  | e + 1 => by rw [ctL_next2, ctL_lenD, ctL_lenE (e := e), Nat.succ_mul]; omega
theorem ctL_lenY {m k : Prof} {x z : Int} {n : Nat} (hc : CtOk m k x z n) : ∀ {y}, y ≤ n → ((ctL m k x z y 0 0).length : Int) = sumN (ccF m k x z) y
  | 0, _ => by simp [ctL, nest3_zero, sumN]
  | y + 1, hy => by
    have ih := ctL_lenY hc (y := y) (by omega)
    have h1 := hc.pe y (by omega)
    have h2 := (hc.qe y (by omega)).2
    rw [ctL_next1, ctL_lenE]
    simp only [sumN, ccF, Int.natCast_add, Int.natCast_mul, Int.toNat_of_nonneg h1.1, Int.toNat_of_nonneg h2.1, ih]
theorem ctL_preD {m k : Prof} {x z : Int} {y e d : Nat} : ∀ j, ctL m k x z y e d <+: ctL m k x z y e (d + j)
  | 0 => List.prefix_refl _
  | j + 1 => by rw [← Nat.add_assoc, ctL_snoc]; exact (ctL_preD j).trans (List.prefix_append _ _)
theorem ctL_preE {m k : Prof} {x z : Int} {y e : Nat} : ∀ j, ctL m k x z y e 0 <+: ctL m k x z y (e + j) 0
  | 0 => List.prefix_refl _
  | j + 1 => by
    rw [← Nat.add_assoc, ctL_next2]
    have := ctL_preD (m := m) (k := k) (x := x) (z := z) (y := y) (e := e + j) (d := 0) ((k.sz.getD y []).getD z.toNat 0).toNat
    rw [Nat.zero_add] at this
    exact (ctL_preE j).trans this
theorem ctL_preY {m k : Prof} {x z : Int} {y : Nat} : ∀ j, ctL m k x z y 0 0 <+: ctL m k x z (y + j) 0 0
  | 0 => List.prefix_refl _
  | j + 1 => by
    rw [← Nat.add_assoc, ctL_next1]
    have := ctL_preE (m := m) (k := k) (x := x) (z := z) (y := y + j) (e := 0) ((m.sz.getD x.toNat []).getD (y + j) 0).toNat
    rw [Nat.zero_add] at this
    exact (ctL_preY j).trans this
theorem ctL_pre {m k : Prof} {x z : Int} {n y e d : Nat} (hy : y < n) (he : e < ((m.sz.getD x.toNat []).getD y 0).toNat) (hd : d < ((k.sz.getD y []).getD z.toNat 0).toNat) : ctL m k x z y e (d + 1) <+: ctL m k x z n 0 0 := by
  have h1 := ctL_preD (m := m) (k := k) (x := x) (z := z) (y := y) (e := e) (d := d + 1) (((k.sz.getD y []).getD z.toNat 0).toNat - (d + 1))
  rw [show d + 1 + (((k.sz.getD y []).getD z.toNat 0).toNat - (d + 1)) = ((k.sz.getD y []).getD z.toNat 0).toNat by omega, ← ctL_next2] at h1
  have h2 := ctL_preE (m := m) (k := k) (x := x) (z := z) (y := y) (e := e + 1) (((m.sz.getD x.toNat []).getD y 0).toNat - (e + 1))
  rw [show e + 1 + (((m.sz.getD x.toNat []).getD y 0).toNat - (e + 1)) = ((m.sz.getD x.toNat []).getD y 0).toNat by omega, ← ctL_next1] at h2
  have h3 := ctL_preY (m := m) (k := k) (x := x) (z := z) (y := y + 1) (n - (y + 1))
  rw [show y + 1 + (n - (y + 1)) = n by omega] at h3
  exact (h1.trans h2).trans h3
theorem ctL_at {m k : Prof} {x z : Int} {n y e d : Nat} (hy : y < n) (he : e < ((m.sz.getD x.toNat []).getD y 0).toNat) (hd : d < ((k.sz.getD y []).getD z.toNat 0).toNat) : (ctL m k x z y e d).length < (ctL m k x z n 0 0).length ∧ (ctL m k x z n 0 0).getD (ctL m k x z y e d).length [] = ctPr y e d := by
  obtain ⟨r, hr⟩ := ctL_pre (m := m) (k := k) (x := x) (z := z) hy he hd
  rw [← hr, ctL_snoc]
  refine ⟨by simp, ?_⟩
  rw [List.getD_eq_getElem?_getD, List.append_assoc, List.getElem?_append_right (Nat.le_refl _)]
  simp
theorem ctL_nodup {m k : Prof} {x z : Int} {n : Nat} : (ctL m k x z n 0 0).Nodup := nest3_nodup fun a b t a' b' t' _ _ _ _ _ _ e => by
  unfold ctPr at e
  simp only [List.cons.injEq, and_true] at e
  omega
theorem cc_idx {m k : Prof} {x z : Int} {n : Nat} (hc : CtOk m k x z n) {y e d : Int} (y0 : 0 ≤ y) (y1 : y < n) (e0 : 0 ≤ e) (e1 : e < (m.sz.getD x.toNat []).getD y.toNat 0) (d0 : 0 ≤ d) (d1 : d < (k.sz.getD y.toNat []).getD z.toNat 0) :
    [y, e, d] ∈ ctL m k x z n 0 0 ∧ idxLL (ctL m k x z n 0 0) [y, e, d] = sumN (ccF m k x z) y.toNat + e * (k.sz.getD y.toNat []).getD z.toNat 0 + d ∧ idxLL (ctL m k x z n 0 0) [y, e, d] < (ctL m k x z n 0 0).length ∧ 0 ≤ sumN (ccF m k x z) y.toNat ∧ 0 ≤ e * (k.sz.getD y.toNat []).getD z.toNat 0 := by
  have h2 := hc.qe y.toNat (by omega)
  obtain ⟨l, a⟩ := ctL_at (m := m) (k := k) (x := x) (z := z) (n := n) (y := y.toNat) (e := e.toNat) (d := d.toNat) (by omega) (by omega) (by omega)
  have hp : ctPr y.toNat e.toNat d.toNat = [y, e, d] := by unfold ctPr; rw [Int.toNat_of_nonneg y0, Int.toNat_of_nonneg e0, Int.toNat_of_nonneg d0]
  rw [hp] at a
  have hm := getD_mem_list (d := []) l
  rw [a] at hm
  have hi := idxLL_at (xss := ctL m k x z n 0 0) ctL_nodup l
  rw [a] at hi
  have hl : ((ctL m k x z y.toNat e.toNat d.toNat).length : Int) = sumN (ccF m k x z) y.toNat + e * (k.sz.getD y.toNat []).getD z.toNat 0 + d := by
    rw [ctL_lenD, ctL_lenE]
    simp only [Int.natCast_add, Int.natCast_mul, ctL_lenY hc (y := y.toNat) (by omega), Int.toNat_of_nonneg e0, Int.toNat_of_nonneg d0, Int.toNat_of_nonneg h2.2.1]
  exact ⟨hm, by rw [hi, hl], by rw [hi]; omega, (ccSum_bd hc (y := y.toNat) (by omega)).1, Int.mul_nonneg e0 h2.2.1⟩
def ccL (m k : Prof) (x z : Int) : List (List Int) := ctL m k x z m.t.obj.toNat 0 0
def ccT (m : Prof) (x : Int) (b e d : Nat) : List Int := [m.t.tgt.getD b 0, ((m.bh.getD b []).getD x.toNat []).getD e 0, (d : Int)]
def ccU (m k : Prof) (z : Int) (b e d : Nat) : List Int := [m.t.src.getD b 0, (e : Int), ((k.be.getD b []).getD z.toNat []).getD d 0]
def ccA1 (m : Prof) (x : Int) (b : Nat) : Nat := ((m.sz.getD x.toNat []).getD (m.t.src.getD b 0).toNat 0).toNat
def ccA2 (m k : Prof) (z : Int) (b : Nat) : Nat := ((k.sz.getD (m.t.tgt.getD b 0).toNat []).getD z.toNat 0).toNat
def ccRow (m k : Prof) (x z : Int) (b e d : Nat) : List Int := [idxLL (ccL m k x z) (ccT m x b e d), idxLL (ccL m k x z) (ccU m k z b e d)]
def ccS (m k : Prof) (x z : Int) (b e d : Nat) : List (List Int) := nest3 (ccRow m k x z) (ccA1 m x) (fun b _ => ccA2 m k z b) b e d
structure CcOk (m k : Prof) (x z : Int) : Prop where
  hm : m.Is
  hk : k.Is
  x0 : 0 ≤ x
  x1 : x < m.s.obj
  z0 : 0 ≤ z
  z1 : z < k.t.obj
  he : m.t = k.s
structure CcA (m k : Prof) (x z : Int) (b : Nat) : Prop where
  s0 : 0 ≤ m.t.src.getD b 0
  s1 : m.t.src.getD b 0 < m.t.obj
  t0 : 0 ≤ m.t.tgt.getD b 0
  t1 : m.t.tgt.getD b 0 < m.t.obj
  b1 : x.toNat < (m.bh.getD b []).length
  b2 : (((m.bh.getD b []).getD x.toNat []).length : Int) = (m.sz.getD x.toNat []).getD (m.t.src.getD b 0).toNat 0
  b3 : ∀ e, e < ((m.bh.getD b []).getD x.toNat []).length → 0 ≤ ((m.bh.getD b []).getD x.toNat []).getD e 0 ∧ ((m.bh.getD b []).getD x.toNat []).getD e 0 < (m.sz.getD x.toNat []).getD (m.t.tgt.getD b 0).toNat 0
  k1 : z.toNat < (k.be.getD b []).length
  k2 : (((k.be.getD b []).getD z.toNat []).length : Int) = (k.sz.getD (m.t.tgt.getD b 0).toNat []).getD z.toNat 0
  k3 : ∀ d, d < ((k.be.getD b []).getD z.toNat []).length → 0 ≤ ((k.be.getD b []).getD z.toNat []).getD d 0 ∧ ((k.be.getD b []).getD z.toNat []).getD d 0 < (k.sz.getD (m.t.src.getD b 0).toNat []).getD z.toNat 0
  z1 : 0 ≤ (m.sz.getD x.toNat []).getD (m.t.src.getD b 0).toNat 0 ∧ (m.sz.getD x.toNat []).getD (m.t.src.getD b 0).toNat 0 ≤ 64
  z2 : 0 ≤ (k.sz.getD (m.t.tgt.getD b 0).toNat []).getD z.toNat 0 ∧ (k.sz.getD (m.t.tgt.getD b 0).toNat []).getD z.toNat 0 ≤ 64
theorem CcOk.arrow {m k : Prof} {x z : Int} (o : CcOk m k x z) {b : Nat} (hb : b < m.t.src.length) : CcA m k x z b := by
  obtain ⟨hm, hk, x0, x1, z0, z1, he⟩ := o
  have e1 := hm.1.z.hl
  have e2 := hk.1.z.bl
  rw [← he] at e2
  have q1 := hm.1.z.h hm.1.t (b := b) (by omega)
  have q2 := hm.1.hx (b := b) (x := x.toNat) (by omega) (by omega)
  have q3 := hk.1.by (a := b) (y := z.toNat) (by omega) (by omega)
  rw [← he] at q3
  exact ⟨q1.2.2.1, q1.2.2.2.1, q1.2.2.2.2.1, q1.2.2.2.2.2, q2.1, q2.2.2.2.2.1, q2.2.2.2.2.2.1, q3.1, q3.2.2.2.1, q3.2.2.2.2.1, q2.2.2.2.2.2.2.1, q3.2.2.2.2.2.2⟩
structure CcP (m k : Prof) (x z : Int) (b e d : Nat) : Prop where
  mT : ccT m x b e d ∈ ccL m k x z
  mU : ccU m k z b e d ∈ ccL m k x z
  iT : idxLL (ccL m k x z) (ccT m x b e d) = (ccSt m k x z m.t.obj.toNat).getD (m.t.tgt.getD b 0).toNat 0 + ((m.bh.getD b []).getD x.toNat []).getD e 0 * (k.sz.getD (m.t.tgt.getD b 0).toNat []).getD z.toNat 0 + (d : Int)
  iU : idxLL (ccL m k x z) (ccU m k z b e d) = (ccSt m k x z m.t.obj.toNat).getD (m.t.src.getD b 0).toNat 0 + (e : Int) * (k.sz.getD (m.t.src.getD b 0).toNat []).getD z.toNat 0 + ((k.be.getD b []).getD z.toNat []).getD d 0
  lT : idxLL (ccL m k x z) (ccT m x b e d) < (ccL m k x z).length
  lU : idxLL (ccL m k x z) (ccU m k z b e d) < (ccL m k x z).length
  t0 : 0 ≤ (ccSt m k x z m.t.obj.toNat).getD (m.t.tgt.getD b 0).toNat 0
  t1 : 0 ≤ ((m.bh.getD b []).getD x.toNat []).getD e 0 * (k.sz.getD (m.t.tgt.getD b 0).toNat []).getD z.toNat 0
  u0 : 0 ≤ (ccSt m k x z m.t.obj.toNat).getD (m.t.src.getD b 0).toNat 0
  u1 : 0 ≤ (e : Int) * (k.sz.getD (m.t.src.getD b 0).toNat []).getD z.toNat 0
theorem CcOk.pr {m k : Prof} {x z : Int} (o : CcOk m k x z) {b e d : Nat} (hb : b < m.t.src.length) (he : e < ccA1 m x b) (hd : d < ccA2 m k z b) : CcP m k x z b e d := by
  have q := o.arrow hb
  obtain ⟨hc, h0⟩ := CtOk.of o.hm o.hk o.x0 o.x1 o.z0 o.z1 o.he
  obtain ⟨s0, s1, t0, t1, b1, b2, b3, k1, k2, k3, z1, z2⟩ := q
  unfold ccA1 at he
  unfold ccA2 at hd
  have b4 := b3 e (by omega)
  have k4 := k3 d (by omega)
  obtain ⟨a1, a2, a3, a4, a5⟩ := cc_idx hc (y := m.t.tgt.getD b 0) (e := ((m.bh.getD b []).getD x.toNat []).getD e 0) (d := (d : Int)) t0 (by omega) b4.1 b4.2 (by omega) (by omega)
  obtain ⟨c1, c2, c3, c4, c5⟩ := cc_idx hc (y := m.t.src.getD b 0) (e := (e : Int)) (d := ((k.be.getD b []).getD z.toNat []).getD d 0) s0 (by omega) (by omega) (by omega) k4.1 k4.2
  rw [← ccSt_get (n := m.t.obj.toNat) (by omega)] at a2 a4 c2 c4
  exact ⟨a1, c1, a2, c2, a3, c3, a4, a5, c4, c5⟩
theorem CcOk.a1 {m k : Prof} {x z : Int} (o : CcOk m k x z) {b : Nat} (hb : b < m.t.src.length) : ccA1 m x b ≤ 64 := by have := (o.arrow hb).z1; unfold ccA1; omega
theorem CcOk.a2 {m k : Prof} {x z : Int} (o : CcOk m k x z) {b : Nat} (hb : b < m.t.src.length) : ccA2 m k z b ≤ 64 := by have := (o.arrow hb).z2; unfold ccA2; omega
theorem CcOk.row {m k : Prof} {x z : Int} (o : CcOk m k x z) {p : List Int} (hp : p ∈ ccS m k x z m.t.src.length 0 0) : 2 ≤ p.length ∧ 0 ≤ p.getD 0 0 ∧ p.getD 0 0 < (ccL m k x z).length ∧ 0 ≤ p.getD 1 0 ∧ p.getD 1 0 < (ccL m k x z).length := by
  obtain ⟨b, e, d, h1, h2, h3, rfl⟩ := nest3_mem hp
  have q := o.pr h1 h2 h3
  obtain ⟨u, u1, _, u3⟩ := idxLL_mem (ctL_nodup) q.mT
  obtain ⟨v, v1, _, v3⟩ := idxLL_mem (ctL_nodup) q.mU
  refine ⟨by simp [ccRow], ?_, q.lT, ?_, q.lU⟩
  · show 0 ≤ idxLL (ccL m k x z) _
    unfold ccL; rw [u3]; omega
  · show 0 ≤ idxLL (ccL m k x z) _
    unfold ccL; rw [v3]; omega
structure CcV (m k : Prof) (x z : Int) (b e d : Nat) : Prop where
  row : ccRow m k x z b e d = [(ccSt m k x z m.t.obj.toNat).getD (m.t.tgt.getD b 0).toNat 0 + ((m.bh.getD b []).getD x.toNat []).getD e 0 * (k.sz.getD (m.t.tgt.getD b 0).toNat []).getD z.toNat 0 + (d : Int), (ccSt m k x z m.t.obj.toNat).getD (m.t.src.getD b 0).toNat 0 + (e : Int) * (k.sz.getD (m.t.src.getD b 0).toNat []).getD z.toNat 0 + ((k.be.getD b []).getD z.toNat []).getD d 0]
  lT : (ccSt m k x z m.t.obj.toNat).getD (m.t.tgt.getD b 0).toNat 0 + ((m.bh.getD b []).getD x.toNat []).getD e 0 * (k.sz.getD (m.t.tgt.getD b 0).toNat []).getD z.toNat 0 + (d : Int) < (ccL m k x z).length
  lU : (ccSt m k x z m.t.obj.toNat).getD (m.t.src.getD b 0).toNat 0 + (e : Int) * (k.sz.getD (m.t.src.getD b 0).toNat []).getD z.toNat 0 + ((k.be.getD b []).getD z.toNat []).getD d 0 < (ccL m k x z).length
theorem CcP.v {m k : Prof} {x z : Int} {b e d : Nat} (q : CcP m k x z b e d) : CcV m k x z b e d := by
  obtain ⟨mT, mU, iT, iU, lT, lU, _, _, _, _⟩ := q
  rw [iT] at lT
  rw [iU] at lU
  exact ⟨by unfold ccRow; rw [iT, iU], lT, lU⟩
theorem CcOk.of {m k : Prof} {x z : Int} (h : ctCode m k x z = 0) : CcOk m k x z := by
  obtain ⟨h1, h2, h3, h4, h5, h6, h7⟩ := ctCode_0 h
  exact ⟨h1, h2, h3, h4, h5, h6, h7⟩
end Go.GL
namespace Go.GL
structure Net where
  cand : Nat → List Int
  A : Nat
  sr : Nat → Nat
  tg : Nat → Nat
  sq : Nat → Int → Int → Bool
namespace Net
def ok (n : Net) (j : Nat) (q : List Int) : Bool := allN n.A fun a => !(max (n.sr a) (n.tg a) == j) || n.sq a (q.getD (n.sr a) 0) (q.getD (n.tg a) 0)
def fits (n : Net) (q : List Int) (x : Nat) : Bool := allN n.A fun a => (n.sr a != x && n.tg a != x) || decide (q.getD (n.sr a) 0 < 0) || decide (q.getD (n.tg a) 0 < 0) || n.sq a (q.getD (n.sr a) 0) (q.getD (n.tg a) 0)
def choices (n : Net) (c : List Int) (x : Nat) : List Int := (n.cand x).filter fun h => n.fits (c.set x h) x
end Net
def firstU (c : List Int) : Option Nat := firstN c.length fun i => c.getD i 0 == -1
def cntU (c : List Int) : Nat := ((List.range c.length).filter fun i => c.getD i 0 == -1).length
def Net.stuck (n : Net) (c : List Int) : Bool := (List.range c.length).any fun y => c.getD y 0 == -1 && (n.choices c y).isEmpty
def Net.goF (n : Net) : Nat → List Int → List (List Int)
  | 0, c => [c]
  | f + 1, c => match firstU c with
    | none => [c]
    | some x => bif n.stuck c then [] else (n.choices c x).flatMap fun h => n.goF f (c.set x h)
def Net.go (n : Net) (c : List Int) : List (List Int) := n.goF (cntU c) c
theorem firstU_some {c : List Int} {x : Nat} (h : firstU c = some x) : x < c.length ∧ c.getD x 0 = -1 ∧ ∀ j, j < x → ¬ c.getD j 0 = -1 := by
  unfold firstU firstN at h
  rw [List.find?_range_eq_some] at h
  exact ⟨List.mem_range.1 h.2.1, by simpa using h.1, fun j hj => by simpa using h.2.2 j hj⟩
theorem firstU_none {c : List Int} (h : firstU c = none) : ∀ j, j < c.length → ¬ c.getD j 0 = -1 := by
  unfold firstU firstN at h
  rw [List.find?_range_eq_none] at h
  intro j hj; simpa using h j hj
theorem firstU_of {c : List Int} {x : Nat} (hx : x < c.length) (h : c.getD x 0 = -1) (hb : ∀ j, j < x → ¬ c.getD j 0 = -1) : firstU c = some x := firstN_some hx (by simpa using h) fun j hj => by simpa using hb j hj
theorem firstU_no {c : List Int} (h : ∀ j, j < c.length → ¬ c.getD j 0 = -1) : firstU c = none := firstN_none fun j hj => by simpa using h j hj
theorem filter_length_lt {p q : Nat → Bool} {n x : Nat} (hx : x < n) (hp : p x = false) (hq : q x = true) (h : ∀ i, i < n → i ≠ x → p i = q i) : ((List.range n).filter p).length + 1 = ((List.range n).filter q).length := by
  induction n with
  | zero => omega
  | succ n ih =>
    rw [List.range_succ, List.filter_append, List.filter_append, List.length_append, List.length_append]
    by_cases e : x = n
    · subst e
      have : (List.range x).filter p = (List.range x).filter q := List.filter_congr fun i hi => by have := List.mem_range.1 hi; exact h i (by omega) (by omega)
      rw [this]
      simp [hp, hq]
    · have ih' := ih (by omega) fun i hi hne => h i (by omega) hne
      have e2 : p n = q n := h n (by omega) (Ne.symm e)
      have e3 : (List.filter p [n]).length = (List.filter q [n]).length := by simp [List.filter_cons, e2]
      omega
theorem cntU_set {c : List Int} {x : Nat} {h : Int} (hx : x < c.length) (hc : c.getD x 0 = -1) (hh : h ≠ -1) : cntU (c.set x h) + 1 = cntU c := by
  unfold cntU
  rw [List.length_set]
  refine filter_length_lt hx ?_ (by simpa using hc) fun i hi hne => ?_
  · rw [getD_set hx, if_pos rfl]; simpa using hh
  · rw [getD_set hx, if_neg hne]
theorem cntU_pos {c : List Int} {x : Nat} (hx : x < c.length) (hc : c.getD x 0 = -1) : 0 < cntU c := by
  have : x ∈ (List.range c.length).filter fun i => c.getD i 0 == -1 := List.mem_filter.2 ⟨List.mem_range.2 hx, by simpa using hc⟩
  exact List.length_pos_of_mem this
theorem flatMap_congr' {α β : Type} {l : List α} {f g : α → List β} (h : ∀ x ∈ l, f x = g x) : l.flatMap f = l.flatMap g := by
  induction l with
  | nil => rfl
  | cons a l ih => rw [List.flatMap_cons, List.flatMap_cons, h a (by simp), ih fun x hx => h x (by simp [hx])]
theorem Net.goF_eq {n : Net} (hc : ∀ x, ∀ h ∈ n.cand x, 0 ≤ h) : ∀ {f : Nat} {c : List Int}, cntU c ≤ f → n.goF f c = n.goF (cntU c) c
  | 0, c, h => by rw [Nat.le_zero.1 h]
  | f + 1, c, h => by
    cases hu : firstU c with
    | none =>
      have : cntU c = 0 := by
        unfold cntU
        rw [List.length_eq_zero_iff, List.filter_eq_nil_iff]
        intro i hi
        simpa using firstU_none hu i (List.mem_range.1 hi)
      rw [this]
      unfold goF
      rw [hu]
    | some x =>
      obtain ⟨h1, h2, h3⟩ := firstU_some hu
      have hp := cntU_pos h1 h2
      obtain ⟨m, hm⟩ : ∃ m, cntU c = m + 1 := ⟨cntU c - 1, by omega⟩
      rw [hm]
      unfold goF
      rw [hu]
      simp only
      congr 1
      refine flatMap_congr' fun y hy => ?_
      have hy0 : 0 ≤ y := hc x y (List.mem_filter.1 hy).1
      have hs := cntU_set h1 h2 (h := y) (by omega)
      rw [goF_eq hc (f := f) (by omega), goF_eq hc (f := m) (by omega)]
theorem Net.go_eq {n : Net} (hc : ∀ x, ∀ h ∈ n.cand x, 0 ≤ h) {c : List Int} : n.go c = match firstU c with
    | none => [c]
    | some x => bif n.stuck c then [] else (n.choices c x).flatMap fun h => n.go (c.set x h) := by
  have h0 : n.go c = n.goF (cntU c + 1) c := (Net.goF_eq hc (Nat.le_succ _)).symm
  rw [h0]
  unfold goF
  cases hu : firstU c with
  | none => rfl
  | some x =>
    obtain ⟨h1, h2, h3⟩ := firstU_some hu
    simp only
    congr 1
    refine flatMap_congr' fun y hy => ?_
    have hy0 : 0 ≤ y := hc x y (List.mem_filter.1 hy).1
    have hs := cntU_set h1 h2 (h := y) (by omega)
    rw [Net.goF_eq hc (f := cntU c) (by omega)]
    rfl
theorem Net.stuck_iff {n : Net} {c : List Int} : n.stuck c = true ↔ ∃ y, y < c.length ∧ c.getD y 0 = -1 ∧ n.choices c y = [] := by
  unfold stuck
  rw [List.any_eq_true]
  simp only [List.mem_range, Bool.and_eq_true, beq_iff_eq, List.isEmpty_iff]
structure Net.Good (n : Net) (N : Nat) : Prop where
  pos : ∀ x, ∀ h ∈ n.cand x, 0 ≤ h
  sr : ∀ a, a < n.A → n.sr a < N
  tg : ∀ a, a < n.A → n.tg a < N
end Go.GL
namespace Go.GL
section
variable {P : Program} {N : Nat} {ops : Array Oper} {Q : Slots → GHeap → Prop} {L : List (Oper × Nat)} {fr : Slots} {H Hb : GHeap} {o : Oper} {i : Nat} {t : Tree}
end
end Go.GL
namespace Go.GL
end Go.GL
namespace Go.GL
structure Fun.Par (f g : Fun) : Prop where
  fi : f.Is
  gi : g.Is
  ps : f.s = g.s
  pt : f.t = g.t
def stCells (f : Fun) (p : FunP) (g : Fun) (q : FunP) (iso : Bool) (most : Int) (a : Option Addr) (n : Nat) : List Value := f.cells p ++ (g.cells q ++ [.bool iso, .int .i64 most, .slice a n n])
end Go.GL
namespace Go.GL
def SlO (b : Nat) (H : GHeap) (a : Option Addr) (g : Nat) (cs : List Value) (e : TypeId) (k : Nat) : Prop := (a = none ∧ k = 0 ∧ cs = []) ∨ (a = some ⟨g, 0, none⟩ ∧ b ≤ g ∧ H.get g = some (.row cs e true))
theorem SlO.mono {b g k : Nat} {H H' : GHeap} {a : Option Addr} {cs : List Value} {e : TypeId} (h : SlO b H a g cs e k) (s : H.Le H') : SlO b H' a g cs e k := h.imp id fun ⟨h1, h2, h3⟩ => ⟨h1, h2, s.2 _ _ h3⟩
theorem SlO.st {b g k : Nat} {bs : List Nat} {H H' : GHeap} {a : Option Addr} {cs : List Value} {e : TypeId} (h : SlO b H a g cs e k) (s : St bs H H') (ho : out bs g) : SlO b H' a g cs e k := h.imp id fun ⟨h1, h2, h3⟩ => ⟨h1, h2, s.same _ _ ho h3⟩
section
variable {P : Program} {o : Oper} {fr : Slots} {H : GHeap}
end
structure FoundAt (T e e' : TypeId) (b : Nat) (H : GHeap) (gs gF : Nat) (f : Fun) (p : FunP) (k : Fun) (q : FunP) (iso : Bool) (M : Nat) (fs : List (List Int)) : Prop where
  ex : ∃ a r, H.get gs = some (.row (stCells f p k q iso (M : Int) a fs.length) T true) ∧ SlO b H a gF (slsL r fs) e fs.length ∧ OwnL b H e' r fs
theorem OwnL.mono {b : Nat} {H H' : GHeap} {e : TypeId} {r : Nat → Option Addr} {xss : List (List Int)} (h : OwnL b H e r xss) (s : H.Le H') : OwnL b H' e r xss := h.keep fun x xs hx => s.2 x _ hx
theorem FoundAt.mono {T e e' : TypeId} {b gs gF : Nat} {H H' : GHeap} {f k : Fun} {p q : FunP} {iso : Bool} {M : Nat} {fs : List (List Int)} (h : FoundAt T e e' b H gs gF f p k q iso M fs) (s : H.Le H') : FoundAt T e e' b H' gs gF f p k q iso M fs := by
  obtain ⟨a, r, h1, h2, h3⟩ := h.ex
  exact ⟨a, r, s.2 _ _ h1, h2.mono s, h3.mono s⟩
structure SeenU (n : Net) (co : List Int) (y : Nat) (x : Int) : Prop where
  fst : (x = -1 ∧ ∀ j, y ≤ j → j < co.length → ¬ co.getD j 0 = -1) ∨ (∃ m : Nat, x = m ∧ y ≤ m ∧ m < co.length ∧ co.getD m 0 = -1 ∧ ∀ j, y ≤ j → j < m → ¬ co.getD j 0 = -1)
  cho : ∀ j, y ≤ j → j < co.length → co.getD j 0 = -1 → n.choices co j ≠ []
theorem SeenU.start (n : Net) (co : List Int) : SeenU n co co.length (-1) := ⟨.inl ⟨rfl, fun j h1 h2 => by omega⟩, fun j h1 h2 => by omega⟩
theorem SeenU.none {n : Net} {co : List Int} {x : Int} (h : SeenU n co 0 x) (hx : x < 0) (hc : ∀ x, ∀ h ∈ n.cand x, 0 ≤ h) : n.go co = [co] := by
  rcases h.fst with ⟨_, h2⟩ | ⟨m, h1, _⟩
  · rw [Net.go_eq hc, firstU_no fun j hj => h2 j (Nat.zero_le _) hj]
  · omega
theorem SeenU.some {n : Net} {co : List Int} {x : Int} (h : SeenU n co 0 x) (hx : ¬ x < 0) (hc : ∀ x, ∀ h ∈ n.cand x, 0 ≤ h) : ∃ m : Nat, x = m ∧ m < co.length ∧ co.getD m 0 = -1 ∧ n.go co = (n.choices co m).flatMap fun h => n.go (co.set m h) := by
  rcases h.fst with ⟨h1, _⟩ | ⟨m, h1, _, h3, h4, h5⟩
  · omega
  · refine ⟨m, h1, h3, h4, ?_⟩
    have hs : n.stuck co = false := by
      rw [← Bool.not_eq_true, Net.stuck_iff]
      rintro ⟨y, y1, y2, y3⟩
      exact h.cho y (Nat.zero_le _) y1 y2 y3
    rw [Net.go_eq hc, firstU_of h3 h4 fun j hj => h5 j (Nat.zero_le _) hj]
    simp only [hs, cond_false]
theorem GT.regionDB {P : Program} {N : Nat} {Q : Exit → Slots → GHeap → Prop} {fr : Slots} {Hb H : GHeap} {id : Nat} {ops : Array Oper} (hm : P.follows .mixedOrders = true) (t : Tree) (hok : (ctxOf ops).ok [] false t = true) (hb : Hb.Le H) (h : GTree P N ops (fun fr' H' => Q .normal fr' H') t fr Hb H) :
    GT P N (.region id ops true) Q fr H := fun B w0 ρ a w hs hf => by
  refine wp_region_any hm ?_
  refine tree_sound (ρ0 := ρ) (fun ρ' fr' H' a' w' hQ he hs' hf' => ⟨ρ', fr', H', hQ, he, hs', hf'⟩) ops.size t [] fr Hb H ρ _ a _ ⟨hok, h, hb, .refl ρ, hs.drew, hf.1, hf.2.1, by simp, fun i hi => ?_, fun i hi => ?_, .nil, (fun i hi => by cases hi), (fun i hi => by cases hi), fun s v hv _ => hf.2.2 s v hv, (fun j hj => by cases hj)⟩ ?_
  · unfold lis at hi
    simp [Array.getD_eq_getD_getElem?, Array.getElem?_replicate] at hi
    split at hi <;> simp at hi
  · unfold lis at hi
    simp [Array.getD_eq_getD_getElem?, Array.getElem?_replicate] at hi
    split at hi <;> simp at hi
  · unfold left
    exact Nat.le_trans (List.length_filter_le _ _) (by simp)
theorem GHeap.get_erase {H : GHeap} {g k : Nat} {o : GObj} (h : (H.set g none).get k = some o) : k ≠ g ∧ H.get k = some o := by
  by_cases e : g = k
  · subst e
    by_cases hl : g < H.next
    · rw [GHeap.get_set_eq hl] at h; cases h
    · have := GHeap.ltg h
      rw [GHeap.next_set] at this
      exact absurd this hl
  · rw [GHeap.get_set_ne e] at h
    exact ⟨Ne.symm e, h⟩
theorem GHeap.le_erase (H : GHeap) (g : Nat) : (H.set g none).Le H := ⟨by rw [GHeap.next_set]; exact Nat.le_refl _, fun _ _ h => (GHeap.get_erase h).2⟩
theorem GHeap.Le.erase_st {H0 H1 H2 : GHeap} {g : Nat} (h : (H0.set g none).Le H1) (s : St [g] H1 H2) : (H0.set g none).Le H2 := ⟨Nat.le_trans h.1 s.nx, fun k o hk => s.same k o ⟨(GHeap.get_erase hk).1, trivial⟩ (h.2 k o hk)⟩
theorem GHeap.get_erase_of {H : GHeap} {g k : Nat} {o : GObj} (h : H.get k = some o) (hk : k ≠ g) : (H.set g none).get k = some o := by rw [GHeap.get_set_ne (Ne.symm hk)]; exact h
def Cat.endL (c : Cat) (n : Nat) : List (List Int) := (List.range n).map fun a => [c.src.getD a 0, c.tgt.getD a 0]
@[simp] theorem Cat.length_endL (c : Cat) (n : Nat) : (c.endL n).length = n := by simp [endL]
def startL (cls : List Int) (x y : Nat) : List Int := (List.range y).map fun i => if cls.getD i 0 = (x : Int) then -1 else -2
@[simp] theorem length_startL (cls : List Int) (x y : Nat) : (startL cls x y).length = y := by simp [startL]
end Go.GL
namespace Go.GL
structure Hears (P : Program) (fn : Nat) (cap : Array Value) (e0 g1 most : Nat) (T : TypeId) (A : Nat → List (List Int) → Nat → GHeap → Prop) : Prop where
  code : ∀ (xs : Array Value) (w : World), (callFunc fn xs).run P w = .ok (.enter fn xs) w
  le : ∀ {b : Nat} {fs : List (List Int)} {gF : Nat} {H H' : GHeap}, A b fs gF H → H.Le H' → A b fs gF H'
  st : ∀ {b : Nat} {fs : List (List Int)} {gF gc : Nat} {H H' : GHeap}, A b fs gF H → e0 ≤ gc → gc < b → gc ≠ gF → St [gc] H H' → A b fs gF H'
  run : ∀ {b : Nat} {fs : List (List Int)} {gF gc : Nat} {q : List Int} {H : GHeap}, A b fs gF H → e0 ≤ gc → gc < b → gc ≠ gF → b ≤ H.next → H.get gc = some (.row (ints q) T true) → fs.length ≤ most → q.length ≤ 8 → gF < H.next →
    GCalls P fn ([.slice (some ⟨gc, 0, none⟩) q.length q.length] ++ cap.toList) H (fun v H' => v = .bool (decide (fs.length + 1 ≤ most)) ∧ ∃ gF', (gF' = gF ∨ H.next ≤ gF') ∧ gF' < H'.next ∧ St [g1, gF] H H' ∧ A b (fs ++ [q]) gF' H')
end Go.GL
namespace Go.GL
structure GathL (T1 T2 e : TypeId) (go gm most : Nat) (Tm : TypeId) (b : Nat) (fs : List (List Int)) (gF : Nat) (H : GHeap) : Prop where
  hd : H.get go = some (.row [.slice (some ⟨gF, 0, none⟩) fs.length fs.length] T1 true)
  most : H.get gm = some (.row [.int .i64 (most : Int)] Tm true)
  rows : ∃ r, H.get gF = some (.row (slsL r fs) T2 true) ∧ OwnL b H e r fs
theorem GathL.le {T1 T2 e : TypeId} {go gm most : Nat} {Tm : TypeId} {b : Nat} {fs : List (List Int)} {gF : Nat} {H H' : GHeap} (h : GathL T1 T2 e go gm most Tm b fs gF H) (s : H.Le H') : GathL T1 T2 e go gm most Tm b fs gF H' := by
  obtain ⟨r, h1, h2⟩ := h.rows
  exact ⟨s.2 _ _ h.hd, s.2 _ _ h.most, r, s.2 _ _ h1, h2.mono s⟩
theorem GathL.st {T1 T2 e : TypeId} {go gm most : Nat} {Tm : TypeId} {b : Nat} {fs : List (List Int)} {gF gc : Nat} {H H' : GHeap} (h : GathL T1 T2 e go gm most Tm b fs gF H) (s : St [gc] H H') (h1 : go ≠ gc) (h2 : gm ≠ gc) (h3 : gc ≠ gF) (h4 : gc < b) : GathL T1 T2 e go gm most Tm b fs gF H' := by
  obtain ⟨r, k1, k2⟩ := h.rows
  exact ⟨s.same _ _ ⟨h1, trivial⟩ h.hd, s.same _ _ ⟨h2, trivial⟩ h.most, r, s.same _ _ ⟨Ne.symm h3, trivial⟩ k1, k2.st s (.cons (k2.lowNe h4) (.nil _ _))⟩
theorem row_ne {H : GHeap} {g g' : Nat} {cs cs' : List Value} {e e' : TypeId} (h : H.get g = some (.row cs e true)) (h' : H.get g' = some (.row cs' e' true)) (hne : (e != e') = true) : g ≠ g' := fun ei => by
  subst ei
  rw [h] at h'
  cases h'
  simp at hne
structure GathI (T e : TypeId) (go : Nat) (b : Nat) (fs : List (List Int)) (gF : Nat) (H : GHeap) : Prop where
  ex : ∃ x, (fs = [] ∧ x = [] ∨ fs = [x]) ∧ H.get go = some (.row [.slice (some ⟨gF, 0, none⟩) x.length x.length] T true) ∧ H.get gF = some (.row (ints x) e true)
theorem GathI.le {T e : TypeId} {go b : Nat} {fs : List (List Int)} {gF : Nat} {H H' : GHeap} (h : GathI T e go b fs gF H) (s : H.Le H') : GathI T e go b fs gF H' := by
  obtain ⟨x, h1, h2, h3⟩ := h.ex
  exact ⟨x, h1, s.2 _ _ h2, s.2 _ _ h3⟩
theorem GathI.st {T e : TypeId} {go b : Nat} {fs : List (List Int)} {gF gc : Nat} {H H' : GHeap} (h : GathI T e go b fs gF H) (s : St [gc] H H') (h1 : go ≠ gc) (h3 : gc ≠ gF) : GathI T e go b fs gF H' := by
  obtain ⟨x, k1, k2, k3⟩ := h.ex
  exact ⟨x, k1, s.same _ _ ⟨h1, trivial⟩ k2, s.same _ _ ⟨Ne.symm h3, trivial⟩ k3⟩
end Go.GL
namespace Go.GL
theorem nest3_len {α : Type} {pr : Nat → Nat → Nat → α} {s1 : Nat → Nat} {s2 : Nat → Nat → Nat} {k t : Nat} : ∀ {u}, (nest3 pr s1 s2 k t u).length = (nest3 pr s1 s2 k t 0).length + u
  | 0 => rfl
  | u + 1 => by rw [nest3_snoc, List.length_append, nest3_len (u := u)]; simp; omega
theorem nest3_pre3 {α : Type} {pr : Nat → Nat → Nat → α} {s1 : Nat → Nat} {s2 : Nat → Nat → Nat} {k t u : Nat} : ∀ j, nest3 pr s1 s2 k t u <+: nest3 pr s1 s2 k t (u + j)
  | 0 => List.prefix_refl _
  | j + 1 => by rw [← Nat.add_assoc, nest3_snoc]; exact (nest3_pre3 j).trans (List.prefix_append _ _)
theorem nest3_pre2 {α : Type} {pr : Nat → Nat → Nat → α} {s1 : Nat → Nat} {s2 : Nat → Nat → Nat} {k t : Nat} : ∀ j, nest3 pr s1 s2 k t 0 <+: nest3 pr s1 s2 k (t + j) 0
  | 0 => List.prefix_refl _
  | j + 1 => by
    rw [← Nat.add_assoc, nest3_next2]
    have := nest3_pre3 (pr := pr) (s1 := s1) (s2 := s2) (k := k) (t := t + j) (u := 0) (s2 k (t + j))
    rw [Nat.zero_add] at this
    exact (nest3_pre2 j).trans this
theorem nest3_pre1 {α : Type} {pr : Nat → Nat → Nat → α} {s1 : Nat → Nat} {s2 : Nat → Nat → Nat} {k : Nat} : ∀ j, nest3 pr s1 s2 k 0 0 <+: nest3 pr s1 s2 (k + j) 0 0
  | 0 => List.prefix_refl _
  | j + 1 => by
    rw [← Nat.add_assoc, nest3_next1]
    have := nest3_pre2 (pr := pr) (s1 := s1) (s2 := s2) (k := k + j) (t := 0) (s1 (k + j))
    rw [Nat.zero_add] at this
    exact (nest3_pre1 j).trans this
theorem nest3_preR {α : Type} {pr : Nat → Nat → Nat → α} {s1 : Nat → Nat} {s2 : Nat → Nat → Nat} {n k t : Nat} (hk : k < n) (ht : t ≤ s1 k) : nest3 pr s1 s2 k t 0 <+: nest3 pr s1 s2 n 0 0 := by
  have h2 := nest3_pre2 (pr := pr) (s1 := s1) (s2 := s2) (k := k) (t := t) (s1 k - t)
  rw [show t + (s1 k - t) = s1 k by omega, ← nest3_next1] at h2
  have h3 := nest3_pre1 (pr := pr) (s1 := s1) (s2 := s2) (k := k + 1) (n - (k + 1))
  rw [show k + 1 + (n - (k + 1)) = n by omega] at h3
  exact h2.trans h3
theorem nest3_pre {α : Type} {pr : Nat → Nat → Nat → α} {s1 : Nat → Nat} {s2 : Nat → Nat → Nat} {n k t u : Nat} (hk : k < n) (ht : t < s1 k) (hu : u ≤ s2 k t) : nest3 pr s1 s2 k t u <+: nest3 pr s1 s2 n 0 0 := by
  have h1 := nest3_pre3 (pr := pr) (s1 := s1) (s2 := s2) (k := k) (t := t) (u := u) (s2 k t - u)
  rw [show u + (s2 k t - u) = s2 k t by omega, ← nest3_next2] at h1
  exact h1.trans (nest3_preR hk ht)
theorem nest3_at {α : Type} {pr : Nat → Nat → Nat → α} {s1 : Nat → Nat} {s2 : Nat → Nat → Nat} {n k t u : Nat} {d : α} (hk : k < n) (ht : t < s1 k) (hu : u < s2 k t) : (nest3 pr s1 s2 k t u).length < (nest3 pr s1 s2 n 0 0).length ∧ (nest3 pr s1 s2 n 0 0).getD (nest3 pr s1 s2 k t u).length d = pr k t u := by
  obtain ⟨r, hr⟩ := nest3_pre (pr := pr) (s1 := s1) (s2 := s2) (n := n) (u := u + 1) hk ht hu
  rw [← hr, nest3_snoc]
  refine ⟨by simp, ?_⟩
  rw [List.getD_eq_getElem?_getD, List.append_assoc, List.getElem?_append_right (Nat.le_refl _)]
  simp
theorem getD_append_l {α : Type} {xs ys : List α} {i : Nat} {d : α} (h : i < xs.length) : (xs ++ ys).getD i d = xs.getD i d := by
  rw [List.getD_eq_getElem?_getD, List.getElem?_append_left h, ← List.getD_eq_getElem?_getD]
theorem getD_append_r {α : Type} {xs ys : List α} {i : Nat} {d : α} (h : xs.length ≤ i) : (xs ++ ys).getD i d = ys.getD (i - xs.length) d := by
  rw [List.getD_eq_getElem?_getD, List.getElem?_append_right h, ← List.getD_eq_getElem?_getD]
theorem getD_map {α β : Type} {f : α → β} {xs : List α} {i : Nat} {d : α} {e : β} (h : i < xs.length) : (xs.map f).getD i e = f (xs.getD i d) := by
  rw [List.getD_eq_getElem?_getD, List.getElem?_map, List.getElem?_eq_getElem h, List.getD_eq_getElem?_getD, List.getElem?_eq_getElem h]; rfl
theorem getD_set2 {xss : List (List Int)} {i j : Nat} {ys : List Int} (h : i < xss.length) : (xss.set i ys).getD j [] = if i = j then ys else xss.getD j [] := by
  rw [List.getD_eq_getElem?_getD, List.getElem?_set]
  by_cases e : i = j
  · subst e; rw [if_pos rfl, if_pos rfl, if_pos h]; rfl
  · rw [if_neg e, if_neg e, ← List.getD_eq_getElem?_getD]
theorem OwnL.app {b gi g' i : Nat} {H H1 : GHeap} {e : TypeId} {r : Nat → Option Addr} {xss : List (List Int)} {ys : List Int} (h : OwnL b H e r xss) (s : St [gi] H H1) (hi : i < xss.length) (hr : r i = some ⟨gi, 0, none⟩) (hg : H1.get g' = some (.row (ints ys) e true)) (hn : H.next ≤ g') (hb : b ≤ g') :
    OwnL b H1 e (upd r i (some ⟨g', 0, none⟩)) (xss.set i ys) := by
  unfold OwnL
  rw [List.length_set]
  have old : ∀ j, j < xss.length → j ≠ i → ∃ x, r j = some ⟨x, 0, none⟩ ∧ b ≤ x ∧ x < H.next ∧ H1.get x = some (.row (ints (xss.getD j [])) e true) := fun j hj hne => by
    obtain ⟨x, h1, h2, h3⟩ := h.row j hj
    exact ⟨x, h1, h2, GHeap.ltg h3, s.same x _ ⟨fun ex => by subst ex; exact hne (h.inj j i hj hi (by rw [hr, h1])), trivial⟩ h3⟩
  refine ⟨fun j hj => ?_, fun j k hj hk hjk => ?_⟩
  · rw [getD_set2 hi]
    by_cases ej : j = i
    · subst ej
      exact ⟨g', upd_eq _ _ _, hb, by rw [if_pos rfl]; exact hg⟩
    · obtain ⟨x, h1, h2, _, h4⟩ := old j hj ej
      exact ⟨x, by rw [upd_ne ej]; exact h1, h2, by rw [if_neg (Ne.symm ej)]; exact h4⟩
  · by_cases ej : j = i
    · by_cases ek : k = i
      · omega
      · obtain ⟨x, h1, _, h3, _⟩ := old k hk ek
        rw [ej, upd_eq, upd_ne ek, h1] at hjk
        cases hjk
        omega
    · obtain ⟨x, h1, _, h3, _⟩ := old j hj ej
      by_cases ek : k = i
      · rw [ek, upd_eq, upd_ne ej, h1] at hjk
        cases hjk
        omega
      · rw [upd_ne ej, upd_ne ek] at hjk
        exact h.inj j k hj hk hjk
theorem slsL_set {r : Nat → Option Addr} {xss : List (List Int)} {i n : Nat} {a : Option Addr} {ys : List Int} (_ : i < xss.length) (hn : n = ys.length) : (slsL r xss).set i (.slice a n n) = slsL (upd r i a) (xss.set i ys) := by
  subst hn
  unfold slsL slsOf
  apply List.ext_getElem (by simp)
  intro j h1 h2
  simp only [List.length_set, List.length_map, List.length_range] at h1
  simp only [List.getElem_set, List.getElem_map, List.getElem_range]
  by_cases e : i = j
  · subst e
    rw [if_pos rfl, upd_eq, getD_set2 h1, if_pos rfl]
  · rw [if_neg e, upd_ne (Ne.symm e), getD_set2 (by omega), if_neg e]
theorem ne_upd {g g' i n : Nat} {r : Nat → Option Addr} (h : ∀ j, j < n → r j ≠ some ⟨g, 0, none⟩) (hg : g' ≠ g) : ∀ j, j < n → upd r i (some ⟨g', 0, none⟩) j ≠ some ⟨g, 0, none⟩ := fun j hj => by
  by_cases e : j = i
  · subst e
    rw [upd_eq]
    intro e
    cases e
    exact hg rfl
  · rw [upd_ne e]
    exact h j hj
structure OwnCat (eI eS : TypeId) (b : Nat) (H : GHeap) (c : Cat) (g1 g2 g3 g4 : Nat) (rr : Nat → Option Addr) : Prop where
  a1 : H.get g1 = some (.row (ints c.src) eI true)
  a2 : H.get g2 = some (.row (ints c.tgt) eI true)
  a3 : H.get g3 = some (.row (ints c.idn) eI true)
  a4 : H.get g4 = some (.row (slsL rr c.comp) eS true)
  b1 : b ≤ g1
  b2 : b ≤ g2
  b3 : b ≤ g3
  b4 : b ≤ g4
  n12 : g1 ≠ g2
  n13 : g1 ≠ g3
  n23 : g2 ≠ g3
  rows : OwnL b H eI rr c.comp
  r1 : ∀ i, i < c.comp.length → rr i ≠ some ⟨g1, 0, none⟩
  r2 : ∀ i, i < c.comp.length → rr i ≠ some ⟨g2, 0, none⟩
  r3 : ∀ i, i < c.comp.length → rr i ≠ some ⟨g3, 0, none⟩
structure Cat.Rect (c : Cat) (N : Nat) : Prop where
  obj : 0 ≤ c.obj ∧ c.obj ≤ N
  n : c.src.length ≤ N
  tl : c.tgt.length = c.src.length
  src : ∀ i, i < c.src.length → 0 ≤ c.src.getD i 0 ∧ c.src.getD i 0 < c.obj
  tgt : ∀ i, i < c.tgt.length → 0 ≤ c.tgt.getD i 0 ∧ c.tgt.getD i 0 < c.obj
  il : (c.idn.length : Int) = c.obj
  idn : ∀ i, i < c.idn.length → 0 ≤ c.idn.getD i 0 ∧ c.idn.getD i 0 < c.src.length
  cl : c.comp.length = c.src.length
  row : ∀ f, f < c.comp.length → (c.comp.getD f []).length = c.src.length
  cell : ∀ f, f < c.comp.length → ∀ g, g < c.src.length → -1 ≤ (c.comp.getD f []).getD g 0 ∧ (c.comp.getD f []).getD g 0 < c.src.length
theorem Cat.Rect.small {c : Cat} {N : Nat} (h : c.Rect N) (hN : N ≤ 1048576) : c.Small := by
  obtain ⟨h1, h2, h3, h4, h5, h6, h7, h8, h9, h10⟩ := h
  refine ⟨by omega, by omega, by omega, by omega, fun i => ?_, by omega, by omega⟩
  by_cases hi : i < c.comp.length
  · have := h9 i hi; omega
  · rw [List.getD_eq_getElem?_getD, List.getElem?_eq_none (by omega)]; simp
def sumRow (n : Nat) (row : List Int) : List Int := List.replicate n (-1) ++ row.map fun h => if 0 ≤ h then h + (n : Int) else h
def Cat.sumL (c d : Cat) : List (List Int) := c.comp.map (· ++ List.replicate d.src.length (-1))
def Cat.sum (c d : Cat) : Cat where
  obj := c.obj + d.obj
  src := c.src ++ d.src.map (· + c.obj)
  tgt := c.tgt ++ d.tgt.map (· + c.obj)
  idn := c.idn ++ d.idn.map (· + (c.src.length : Int))
  comp := c.sumL d ++ d.comp.map (sumRow c.src.length)
def extL (xss : List (List Int)) (k f j : Nat) : List (List Int) := (List.range xss.length).map fun i => xss.getD i [] ++ List.replicate (if i < f then k else if i = f then j else 0) (-1)
@[simp] theorem length_extL (xss : List (List Int)) (k f j : Nat) : (extL xss k f j).length = xss.length := by simp [extL]
theorem extL_get {xss : List (List Int)} {k f j i : Nat} (h : i < xss.length) : (extL xss k f j).getD i [] = xss.getD i [] ++ List.replicate (if i < f then k else if i = f then j else 0) (-1) := by simp [extL, List.getD_eq_getElem?_getD, h]
theorem extL_succ {xss : List (List Int)} {k f j : Nat} (h : f < xss.length) : extL xss k f (j + 1) = (extL xss k f j).set f ((extL xss k f j).getD f [] ++ [-1]) := by
  refine eq_of_getD2 (by simp) fun i hi => ?_
  rw [length_extL] at hi
  rw [getD_set2 (by simpa using h), extL_get hi, extL_get h]
  by_cases e : f = i
  · subst e
    rw [if_pos rfl, if_neg (by omega), if_pos rfl, if_neg (by omega), if_pos rfl, List.replicate_succ', List.append_assoc]
  · rw [if_neg e, extL_get hi]
    by_cases e2 : i < f
    · rw [if_pos e2, if_pos e2]
    · rw [if_neg e2, if_neg e2, if_neg (Ne.symm e), if_neg (Ne.symm e)]
theorem extL_next {xss : List (List Int)} {k f : Nat} : extL xss k f k = extL xss k (f + 1) 0 := by
  refine eq_of_getD2 (by simp) fun i hi => ?_
  rw [length_extL] at hi
  rw [extL_get hi, extL_get hi]
  congr 2
  by_cases e : i < f
  · rw [if_pos e, if_pos (by omega)]
  · rw [if_neg e]
    by_cases e2 : i = f
    · rw [if_pos e2, if_pos (by omega)]
    · rw [if_neg e2, if_neg (by omega)]
      split <;> rfl
structure SumSt (eI eS eT : TypeId) (H0 H : GHeap) (c d : Cat) (q : CatP) (gd gR gS gF gT gI gC : Nat) (zs : List Value) (rr : Nat → Option Addr) (f j : Nat) : Prop where
  hle : H0.Le H
  gc : H0.next ≤ gC
  ad : H.get gd = some (.row (d.cells q) eT true)
  aR : H.get gR = some (.row zs eT true)
  aS : H.get gS = some (.row [.int .i64 (c.obj + d.obj), .slice (some ⟨gF, 0, none⟩) c.src.length c.src.length, .slice (some ⟨gT, 0, none⟩) c.tgt.length c.tgt.length, .slice (some ⟨gI, 0, none⟩) (c.idn.length + d.obj.toNat) (c.idn.length + d.obj.toNat), .slice (some ⟨gC, 0, none⟩) c.comp.length c.comp.length] eT true)
  aF : H.get gF = some (.row (ints c.src) eI true)
  aT : H.get gT = some (.row (ints c.tgt) eI true)
  aI : H.get gI = some (.row (ints (c.sum d).idn) eI true)
  aC : H.get gC = some (.row (slsL rr (extL c.comp d.src.length f j)) eS true)
  rows : OwnL H0.next H eI rr (extL c.comp d.src.length f j)
  r1 : ∀ i, i < c.comp.length → rr i ≠ some ⟨gF, 0, none⟩
  r2 : ∀ i, i < c.comp.length → rr i ≠ some ⟨gT, 0, none⟩
  r3 : ∀ i, i < c.comp.length → rr i ≠ some ⟨gI, 0, none⟩
theorem SumSt.app {eI eS eT : TypeId} {H0 H Ha Hb Hc : GHeap} {c d : Cat} {q : CatP} {gd gR gS gF gT gI gC gi g' n : Nat} {zs : List Value} {rr : Nat → Option Addr} {f j : Nat} (h : SumSt eI eS eT H0 H c d q gd gR gS gF gT gI gC zs rr f j) (t1 : (eI != eS) = true) (t2 : (eI != eT) = true) (t3 : (eS != eT) = true) (hf : f < c.comp.length) (hgi : H.get gi = some (.row (ints ((extL c.comp d.src.length f j).getD f [])) eI true)) (hr : rr f = some ⟨gi, 0, none⟩) (le : H.Le Ha) (s1 : St [gi] Ha Hb) (hn : Ha.next ≤ g') (hg : Hb.get g' = some (.row (ints ((extL c.comp d.src.length f j).getD f [] ++ [-1])) eI true)) (s2 : St [gC] Hb Hc)
    (hC : Hc.get gC = some (.row ((slsL rr (extL c.comp d.src.length f j)).set f (.slice (some ⟨g', 0, none⟩) n n)) eS true)) (hnn : n = ((extL c.comp d.src.length f j).getD f []).length + 1) : SumSt eI eS eT H0 Hc c d q gd gR gS gF gT gI gC zs (upd rr f (some ⟨g', 0, none⟩)) f (j + 1) := by
  have u1 : (eS != eI) = true := by simp only [bne_iff_ne, ne_eq] at t1 ⊢; exact fun e => t1 e.symm
  have u2 : (eT != eI) = true := by simp only [bne_iff_ne, ne_eq] at t2 ⊢; exact fun e => t2 e.symm
  have u3 : (eT != eS) = true := by simp only [bne_iff_ne, ne_eq] at t3 ⊢; exact fun e => t3 e.symm
  obtain ⟨x1, x0, x2, xR, x3, x4, x5, x6, x7, x8, x9, x10, x11⟩ := h
  have hl : f < (extL c.comp d.src.length f j).length := by rw [length_extL]; exact hf
  have hgi0 : H0.next ≤ gi := by
    obtain ⟨x, h1, h2, _⟩ := x8.row f hl
    rw [hr] at h1; cases h1; exact h2
  have ltF := GHeap.ltg x4
  have ltT := GHeap.ltg x5
  have ltI := GHeap.ltg x6
  have lx := le.1
  have ly := x1.1
  have step : ∀ k o, k ≠ gi → k ≠ gC → H.get k = some o → Hc.get k = some o := fun k o h1 h2 h3 => s2.same k o ⟨h2, trivial⟩ (s1.same k o ⟨h1, trivial⟩ (le.2 k o h3))
  have nF : gF ≠ gi := fun e => x9 f hf (by rw [hr, e])
  have nT : gT ≠ gi := fun e => x10 f hf (by rw [hr, e])
  have nI : gI ≠ gi := fun e => x11 f hf (by rw [hr, e])
  have nC : gC ≠ gi := row_ne x7 hgi u1
  refine ⟨((x1.trans le).st s1 (fun k hk => ⟨by omega, trivial⟩)).st s2 (fun k hk => ⟨by omega, trivial⟩), x0, step _ _ (row_ne x2 hgi u2) (row_ne x2 x7 u3) x2, step _ _ (row_ne xR hgi u2) (row_ne xR x7 u3) xR, step _ _ (row_ne x3 hgi u2) (row_ne x3 x7 u3) x3, step _ _ nF (row_ne x4 x7 t1) x4, step _ _ nT (row_ne x5 x7 t1) x5, step _ _ nI (row_ne x6 x7 t1) x6, ?_, ?_, ne_upd x9 (by omega), ne_upd x10 (by omega), ne_upd x11 (by omega)⟩
  · rw [hC, slsL_set (ys := (extL c.comp d.src.length f j).getD f [] ++ [-1]) hl (by rw [hnn, List.length_append]; rfl), ← extL_succ hf]
  · rw [extL_succ hf]
    have hA := OwnL.app (x8.keep (Lasts.of_le le)) s1 hl hr hg hn (by omega)
    refine hA.st s2 (.cons (hA.neT (s1.same _ _ ⟨nC, trivial⟩ (le.2 _ _ x7)) t1) (.nil _ _))
theorem SumSt.next {eI eS eT : TypeId} {H0 H : GHeap} {c d : Cat} {q : CatP} {gd gR gS gF gT gI gC : Nat} {zs : List Value} {rr : Nat → Option Addr} {f : Nat} (h : SumSt eI eS eT H0 H c d q gd gR gS gF gT gI gC zs rr f d.src.length) : SumSt eI eS eT H0 H c d q gd gR gS gF gT gI gC zs rr (f + 1) 0 := by
  obtain ⟨x1, x0, x2, xR, x3, x4, x5, x6, x7, x8, x9, x10, x11⟩ := h
  rw [extL_next] at x7 x8
  exact ⟨x1, x0, x2, xR, x3, x4, x5, x6, x7, x8, x9, x10, x11⟩
def colPr (x y e : Nat) : List Int := [(x : Int), (y : Int), (e : Int)]
def Prof.colS2 (m : Prof) (x y : Nat) : Nat := ((m.sz.getD x []).getD y 0).toNat
def Prof.colP (m : Prof) (x y e : Nat) : List (List Int) := nest3 colPr (fun _ => m.t.obj.toNat) m.colS2 x y e
def Prof.colL (m : Prof) : List (List Int) := m.colP m.s.obj.toNat 0 0
def Prof.colA (m : Prof) (x y : Nat) : Int := (m.colP x y 0).length
theorem Prof.colP_snoc {m : Prof} {x y e : Nat} : m.colP x y (e + 1) = m.colP x y e ++ [colPr x y e] := nest3_snoc
theorem Prof.colL_nodup {m : Prof} {x : Nat} : (m.colP x 0 0).Nodup := nest3_nodup fun a b t a' b' t' _ _ _ _ _ _ e => by
  unfold colPr at e
  simp only [List.cons.injEq, and_true] at e
  omega
theorem Prof.Sized.at {m : Prof} (z : m.Sized) {x y : Nat} (hx : (x : Int) < m.s.obj) (hy : (y : Int) < m.t.obj) : x < m.sz.length ∧ y < (m.sz.getD x []).length ∧ 0 ≤ (m.sz.getD x []).getD y 0 ∧ (m.sz.getD x []).getD y 0 ≤ 64 := by
  have h1 := z.sl
  have h2 := z.row x (by omega)
  exact ⟨by omega, by omega, z.rng x (by omega) y (by omega)⟩
structure Prof.Cok (m : Prof) : Prop where
  z : m.Sized
  s0 : 0 ≤ m.s.obj
  s8 : m.s.obj ≤ 8
  t0 : 0 ≤ m.t.obj
  t8 : m.t.obj ≤ 8
theorem Prof.Shape.cok {m : Prof} (h : m.Shape) : m.Cok := ⟨h.z, h.s.1.obj.1, h.s.1.obj.2, h.t.1.obj.1, h.t.1.obj.2⟩
theorem Prof.Cok.s2 {m : Prof} (h : m.Cok) {x y : Nat} (hx : (x : Int) < m.s.obj) (hy : (y : Int) < m.t.obj) : (m.colS2 x y : Int) = (m.sz.getD x []).getD y 0 ∧ m.colS2 x y ≤ 64 := by
  have := h.z.at hx hy
  unfold Prof.colS2
  omega
theorem Prof.Cok.all {m : Prof} (h : m.Cok) : m.colL.length ≤ 4096 := by
  have h1 := h.s8
  have h2 := h.t8
  have := nest3_all (pr := colPr) (s1 := fun _ => m.t.obj.toNat) (s2 := m.colS2) (c := 64) (d := 8) (n := m.s.obj.toNat) (fun a _ => by show m.t.obj.toNat ≤ 8; omega) (fun a ha b hb => (h.s2 (by omega) (by omega)).2)
  unfold Prof.colL Prof.colP
  omega
theorem Prof.Cok.le {m : Prof} (h : m.Cok) {x y e : Nat} (hx : (x : Int) < m.s.obj) (hy : (y : Int) < m.t.obj) (he : e ≤ m.colS2 x y) : (m.colP x y e).length ≤ m.colL.length := by
  obtain ⟨r, hr⟩ := nest3_pre (pr := colPr) (s1 := fun _ => m.t.obj.toNat) (s2 := m.colS2) (n := m.s.obj.toNat) (k := x) (t := y) (u := e) (by omega) (by omega) he
  unfold Prof.colL Prof.colP
  rw [← hr, List.length_append]
  omega
theorem Prof.Cok.leY {m : Prof} (h : m.Cok) {x y : Nat} (hx : (x : Int) < m.s.obj) (hy : (y : Int) ≤ m.t.obj) : (m.colP x y 0).length ≤ m.colL.length := by
  obtain ⟨r, hr⟩ := nest3_preR (pr := colPr) (s1 := fun _ => m.t.obj.toNat) (s2 := m.colS2) (n := m.s.obj.toNat) (k := x) (t := y) (by omega) (by omega)
  unfold Prof.colL Prof.colP
  rw [← hr, List.length_append]
  omega
theorem Prof.Cok.idx {m : Prof} (h : m.Cok) {x y e : Int} (x0 : 0 ≤ x) (x1 : x < m.s.obj) (y0 : 0 ≤ y) (y1 : y < m.t.obj) (e0 : 0 ≤ e) (e1 : e < (m.sz.getD x.toNat []).getD y.toNat 0) :
    [x, y, e] ∈ m.colL ∧ idxLL m.colL [x, y, e] = m.colA x.toNat y.toNat + e ∧ idxLL m.colL [x, y, e] < m.colL.length ∧ 0 ≤ m.colA x.toNat y.toNat := by
  have hz := h.s2 (x := x.toNat) (y := y.toNat) (by omega) (by omega)
  obtain ⟨l, a⟩ := nest3_at (pr := colPr) (s1 := fun _ => m.t.obj.toNat) (s2 := m.colS2) (n := m.s.obj.toNat) (k := x.toNat) (t := y.toNat) (u := e.toNat) (d := []) (by omega) (by omega) (by omega)
  have hp : colPr x.toNat y.toNat e.toNat = [x, y, e] := by unfold colPr; rw [Int.toNat_of_nonneg x0, Int.toNat_of_nonneg y0, Int.toNat_of_nonneg e0]
  rw [hp] at a
  have hm := getD_mem_list (d := []) l
  rw [a] at hm
  have hi := idxLL_at (xss := m.colL) Prof.colL_nodup l
  have a' : m.colL.getD (m.colP x.toNat y.toNat e.toNat).length [] = [x, y, e] := a
  unfold Prof.colP at a'
  rw [a'] at hi
  have hl : ((nest3 colPr (fun _ => m.t.obj.toNat) m.colS2 x.toNat y.toNat e.toNat).length : Int) = m.colA x.toNat y.toNat + e := by
    rw [nest3_len]
    unfold Prof.colA Prof.colP
    omega
  exact ⟨hm, by rw [hi, hl], by rw [hi]; exact Int.ofNat_lt.2 l, by unfold Prof.colA; omega⟩
theorem Prof.Cok.tri {m : Prof} (h : m.Cok) {i : Nat} (hi : i < m.colL.length) : ∃ x y e : Nat, (x : Int) < m.s.obj ∧ (y : Int) < m.t.obj ∧ (e : Int) < (m.sz.getD x []).getD y 0 ∧ m.colL.getD i [] = [(x : Int), (y : Int), (e : Int)] ∧ (i : Int) = m.colA x y + e := by
  have hm := getD_mem_list (d := []) hi
  obtain ⟨x, y, e, hx, hy, he, hq⟩ := nest3_mem (k := m.s.obj.toNat) hm
  have hx' : (x : Int) < m.s.obj := by omega
  have hy' : (y : Int) < m.t.obj := by omega
  have hz := h.s2 (x := x) (y := y) hx' hy'
  refine ⟨x, y, e, hx', hy', by omega, hq, ?_⟩
  obtain ⟨l, a⟩ := nest3_at (pr := colPr) (s1 := fun _ => m.t.obj.toNat) (s2 := m.colS2) (n := m.s.obj.toNat) (k := x) (t := y) (u := e) (d := []) hx hy he
  have := getD_inj (xss := m.colL) Prof.colL_nodup hi l (by rw [hq]; exact a.symm)
  rw [this, nest3_len]
  unfold Prof.colA Prof.colP
  omega
def Prof.colQx (m : Prof) (x y : Nat) : List Int := (List.range y).map (m.colA x)
def Prof.colQ (m : Prof) (k : Nat) : List (List Int) := (List.range k).map fun x => m.colQx x (m.sz.getD x []).length
@[simp] theorem Prof.length_colQx (m : Prof) (x y : Nat) : (m.colQx x y).length = y := by simp [Prof.colQx]
@[simp] theorem Prof.length_colQ (m : Prof) (k : Nat) : (m.colQ k).length = k := by simp [Prof.colQ]
theorem Prof.colQx_get {m : Prof} {x y i : Nat} (h : i < y) : (m.colQx x y).getD i 0 = m.colA x i := by simp [Prof.colQx, List.getD_eq_getElem?_getD, h]
theorem Prof.colQ_get {m : Prof} {k x : Nat} (h : x < k) : (m.colQ k).getD x [] = m.colQx x (m.sz.getD x []).length := by simp [Prof.colQ, List.getD_eq_getElem?_getD, h]
theorem Prof.Cok.colA_bd {m : Prof} (h : m.Cok) {x y : Nat} (hx : (x : Int) < m.s.obj) (hy : (y : Int) ≤ m.t.obj) : 0 ≤ m.colA x y ∧ m.colA x y ≤ 4096 := by
  have h1 := h.leY hx hy
  have h2 := h.all
  unfold Prof.colA
  omega
theorem Prof.Cok.q {m : Prof} (h : m.Cok) {x y : Int} (x0 : 0 ≤ x) (x1 : x < m.s.obj) (y0 : 0 ≤ y) (y1 : y < m.t.obj) : x < (m.colQ m.sz.length).length ∧ (((m.colQ m.sz.length).getD x.toNat []).length : Int) = m.t.obj ∧ ((m.colQ m.sz.length).getD x.toNat []).getD y.toNat 0 = m.colA x.toNat y.toNat ∧ 0 ≤ m.colA x.toNat y.toNat ∧ m.colA x.toNat y.toNat ≤ 4096 := by
  have h1 := h.z.sl
  have h2 := h.z.row x.toNat (by omega)
  have h3 := h.colA_bd (x := x.toNat) (y := y.toNat) (by omega) (by omega)
  rw [Prof.length_colQ, Prof.colQ_get (by omega), Prof.length_colQx, Prof.colQx_get (by omega)]
  exact ⟨by omega, h2, rfl, h3⟩
def Prof.colN (m : Prof) : Nat := m.s.src.length + m.t.src.length
def Prof.colS (m : Prof) : List Int := (m.s.sum m.t).src ++ m.colL.map fun t => t.getD 0 0
def Prof.colT (m : Prof) : List Int := (m.s.sum m.t).tgt ++ m.colL.map fun t => m.s.obj + t.getD 1 0
def Prof.colR (m : Prof) (i : Nat) : List Int := m.colL.getD (i - m.colN) []
def Prof.colB (m : Prof) (f g : Nat) : Int := ((m.be.getD f []).getD ((m.colR g).getD 1 0).toNat []).getD ((m.colR g).getD 2 0).toNat 0
def Prof.colH (m : Prof) (f g : Nat) : Int := ((m.bh.getD (g - m.s.src.length) []).getD ((m.colR f).getD 0 0).toNat []).getD ((m.colR f).getD 2 0).toNat 0
def Prof.colK1 (m : Prof) (f g : Nat) : List Int := [m.colS.getD f 0, (m.colR g).getD 1 0, m.colB f g]
def Prof.colK2 (m : Prof) (f g : Nat) : List Int := [(m.colR f).getD 0 0, m.colT.getD g 0 - m.s.obj, m.colH f g]
theorem Prof.sum_n (m : Prof) : (m.s.sum m.t).src.length = m.colN := by simp [Cat.sum, Prof.colN]
theorem Prof.colS_c {m : Prof} {f : Nat} (h : f < m.s.src.length) : m.colS.getD f 0 = m.s.src.getD f 0 := by
  unfold Prof.colS Cat.sum
  rw [getD_append_l (by rw [List.length_append]; omega), getD_append_l h]
theorem Prof.colS_d {m : Prof} {f : Nat} (h1 : m.s.src.length ≤ f) (h2 : f < m.colN) : m.colS.getD f 0 = m.t.src.getD (f - m.s.src.length) 0 + m.s.obj := by
  unfold Prof.colN at h2
  unfold Prof.colS Cat.sum
  rw [getD_append_l (by rw [List.length_append, List.length_map]; omega), getD_append_r h1, getD_map (d := 0) (by omega)]
theorem Prof.colS_t {m : Prof} {f : Nat} (h1 : m.colN ≤ f) (h2 : f < m.colN + m.colL.length) : m.colS.getD f 0 = (m.colR f).getD 0 0 := by
  unfold Prof.colS Prof.colR
  rw [getD_append_r (by rw [Prof.sum_n]; exact h1), getD_map (d := []) (by rw [Prof.sum_n]; omega), Prof.sum_n]
theorem Prof.colT_c {m : Prof} {f : Nat} (hl : m.s.tgt.length = m.s.src.length) (h : f < m.s.src.length) : m.colT.getD f 0 = m.s.tgt.getD f 0 := by
  unfold Prof.colT Cat.sum
  rw [getD_append_l (by rw [List.length_append]; omega), getD_append_l (by omega)]
theorem Prof.colT_d {m : Prof} {f : Nat} (hl : m.s.tgt.length = m.s.src.length) (hl2 : m.t.tgt.length = m.t.src.length) (h1 : m.s.src.length ≤ f) (h2 : f < m.colN) : m.colT.getD f 0 = m.t.tgt.getD (f - m.s.src.length) 0 + m.s.obj := by
  unfold Prof.colN at h2
  unfold Prof.colT Cat.sum
  rw [getD_append_l (by rw [List.length_append, List.length_map]; omega), getD_append_r (by omega), getD_map (d := 0) (by omega), hl]
theorem Prof.colT_t {m : Prof} {f : Nat} (hl : m.s.tgt.length = m.s.src.length) (hl2 : m.t.tgt.length = m.t.src.length) (h1 : m.colN ≤ f) (h2 : f < m.colN + m.colL.length) : m.colT.getD f 0 = m.s.obj + (m.colR f).getD 1 0 := by
  have e : (m.s.sum m.t).tgt.length = m.colN := by simp only [Cat.sum, Prof.colN, List.length_append, List.length_map]; omega
  unfold Prof.colT Prof.colR
  rw [getD_append_r (by rw [e]; exact h1), getD_map (d := []) (by rw [e]; omega), e]
structure Prof.ColB (m : Prof) (f g : Nat) : Prop where
  fM : f < m.s.src.length
  sf : m.colS.getD f 0 = m.s.src.getD f 0
  tg : m.colT.getD g 0 = m.s.obj + (m.colR g).getD 1 0
  r3 : (m.colR g).length = 3
  y0 : 0 ≤ (m.colR g).getD 1 0
  y1 : (m.colR g).getD 1 0 < m.t.obj
  e0 : 0 ≤ (m.colR g).getD 2 0
  b0 : f < m.be.length
  b1 : ((m.colR g).getD 1 0).toNat < (m.be.getD f []).length
  b2 : ((m.colR g).getD 2 0).toNat < ((m.be.getD f []).getD ((m.colR g).getD 1 0).toNat []).length
  s0 : 0 ≤ m.s.src.getD f 0
  s1 : m.s.src.getD f 0 < m.s.obj
  t0 : 0 ≤ m.s.tgt.getD f 0
  t1 : m.s.tgt.getD f 0 < m.s.obj
  ae : (g : Int) - m.colN - m.colA (m.s.tgt.getD f 0).toNat ((m.colR g).getD 1 0).toNat = (m.colR g).getD 2 0
  ix : idxLL m.colL (m.colK1 f g) = m.colA (m.s.src.getD f 0).toNat ((m.colR g).getD 1 0).toNat + m.colB f g
  lt : idxLL m.colL (m.colK1 f g) < m.colL.length
  ca : 0 ≤ m.colA (m.s.src.getD f 0).toNat ((m.colR g).getD 1 0).toNat
  bb : 0 ≤ m.colB f g
structure Prof.ColH (m : Prof) (f g : Nat) : Prop where
  gM : m.s.src.length ≤ g
  gN : g < m.colN
  sf : m.colS.getD f 0 = (m.colR f).getD 0 0
  tg : m.colT.getD g 0 - m.s.obj = m.t.tgt.getD (g - m.s.src.length) 0
  r3 : (m.colR f).length = 3
  x0 : 0 ≤ (m.colR f).getD 0 0
  x1 : (m.colR f).getD 0 0 < m.s.obj
  e0 : 0 ≤ (m.colR f).getD 2 0
  b0 : g - m.s.src.length < m.bh.length
  b1 : ((m.colR f).getD 0 0).toNat < (m.bh.getD (g - m.s.src.length) []).length
  b2 : ((m.colR f).getD 2 0).toNat < ((m.bh.getD (g - m.s.src.length) []).getD ((m.colR f).getD 0 0).toNat []).length
  s0 : 0 ≤ m.t.src.getD (g - m.s.src.length) 0
  s1 : m.t.src.getD (g - m.s.src.length) 0 < m.t.obj
  t0 : 0 ≤ m.t.tgt.getD (g - m.s.src.length) 0
  t1 : m.t.tgt.getD (g - m.s.src.length) 0 < m.t.obj
  ae : (f : Int) - m.colN - m.colA ((m.colR f).getD 0 0).toNat (m.t.src.getD (g - m.s.src.length) 0).toNat = (m.colR f).getD 2 0
  ix : idxLL m.colL (m.colK2 f g) = m.colA ((m.colR f).getD 0 0).toNat (m.t.tgt.getD (g - m.s.src.length) 0).toNat + m.colH f g
  lt : idxLL m.colL (m.colK2 f g) < m.colL.length
  ca : 0 ≤ m.colA ((m.colR f).getD 0 0).toNat (m.t.tgt.getD (g - m.s.src.length) 0).toNat
  bb : 0 ≤ m.colH f g
theorem Prof.Shape.tri {m : Prof} (h : m.Shape) {i : Nat} (h1 : m.colN ≤ i) (h2 : i < m.colN + m.colL.length) : ∃ x y e : Nat, (x : Int) < m.s.obj ∧ (y : Int) < m.t.obj ∧ (e : Int) < (m.sz.getD x []).getD y 0 ∧ m.colR i = [(x : Int), (y : Int), (e : Int)] ∧ (i : Int) - m.colN = m.colA x y + e := by
  obtain ⟨x, y, e, q1, q2, q3, q4, q5⟩ := h.cok.tri (i := i - m.colN) (by omega)
  exact ⟨x, y, e, q1, q2, q3, q4, by omega⟩
theorem Prof.Shape.before {m : Prof} (h : m.Shape) {f g : Nat} (hf : f < m.s.src.length) (hg : m.colN ≤ g) (hg2 : g < m.colN + m.colL.length) (e : m.colT.getD f 0 = m.colS.getD g 0) : m.ColB f g := by
  have l1 := h.s.1.tl
  have l2 := h.t.1.tl
  have b0 := h.z.bl
  obtain ⟨x, y, i, q1, q2, q3, q4, q5⟩ := h.tri (i := g) hg hg2
  have es := Prof.colS_c hf
  have et := Prof.colT_c l1 hf
  have eg := Prof.colS_t (m := m) hg hg2
  have tg := Prof.colT_t (m := m) (f := g) l1 l2 hg hg2
  have r0 : (m.colR g).getD 0 0 = (x : Int) := by rw [q4]; rfl
  have r1 : (m.colR g).getD 1 0 = (y : Int) := by rw [q4]; rfl
  have r2 : (m.colR g).getD 2 0 = (i : Int) := by rw [q4]; rfl
  have hx : m.s.tgt.getD f 0 = (x : Int) := by omega
  have hb := h.by (a := f) (y := y) (by omega) q2
  rw [hx, Int.toNat_natCast] at hb
  have hs := h.s.1.src f hf
  have hbi := hb.2.2.2.2.1 i (by omega)
  have hB : m.colB f g = ((m.be.getD f []).getD y []).getD i 0 := by unfold Prof.colB; rw [r1, r2, Int.toNat_natCast, Int.toNat_natCast]
  obtain ⟨k1, k2, k3, k4⟩ := h.cok.idx (x := m.s.src.getD f 0) (y := (y : Int)) (e := m.colB f g) hs.1 hs.2 (by omega) q2 (by omega) (by rw [Int.toNat_natCast, hB]; exact hbi.2)
  have hK : m.colK1 f g = [m.s.src.getD f 0, (y : Int), m.colB f g] := by unfold Prof.colK1; rw [es, r1]
  rw [← hK] at k2 k3
  rw [Int.toNat_natCast] at k2 k4
  constructor
  · exact hf
  · exact es
  · exact tg
  · rw [q4]; rfl
  · omega
  · omega
  · omega
  · omega
  · rw [r1, Int.toNat_natCast]; omega
  · rw [r1, r2, Int.toNat_natCast, Int.toNat_natCast]; omega
  · exact hs.1
  · exact hs.2
  · omega
  · omega
  · rw [hx, r1, r2, Int.toNat_natCast, Int.toNat_natCast]; omega
  · rw [r1, Int.toNat_natCast]; exact k2
  · exact k3
  · rw [r1, Int.toNat_natCast]; exact k4
  · rw [hB]; exact hbi.1
theorem Prof.Shape.behind {m : Prof} (h : m.Shape) {f g : Nat} (hg : m.s.src.length ≤ g) (hg2 : g < m.colN) (hf : m.colN ≤ f) (hf2 : f < m.colN + m.colL.length) (e : m.colT.getD f 0 = m.colS.getD g 0) : m.ColH f g := by
  have l1 := h.s.1.tl
  have l2 := h.t.1.tl
  have b0 := h.z.hl
  have hg3 := hg2
  unfold Prof.colN at hg3
  obtain ⟨x, y, i, q1, q2, q3, q4, q5⟩ := h.tri (i := f) hf hf2
  have es := Prof.colS_t (m := m) hf hf2
  have et := Prof.colT_t (m := m) (f := f) l1 l2 hf hf2
  have eg := Prof.colS_d (m := m) hg hg2
  have tg := Prof.colT_d (m := m) l1 l2 hg hg2
  have r0 : (m.colR f).getD 0 0 = (x : Int) := by rw [q4]; rfl
  have r1 : (m.colR f).getD 1 0 = (y : Int) := by rw [q4]; rfl
  have r2 : (m.colR f).getD 2 0 = (i : Int) := by rw [q4]; rfl
  have hy : m.t.src.getD (g - m.s.src.length) 0 = (y : Int) := by omega
  have hb := h.hx (b := g - m.s.src.length) (x := x) (by omega) q1
  rw [hy, Int.toNat_natCast] at hb
  have ht := h.t.1.tgt (g - m.s.src.length) (by omega)
  have hbi := hb.2.2.2.2.2.1 i (by omega)
  have hH : m.colH f g = ((m.bh.getD (g - m.s.src.length) []).getD x []).getD i 0 := by unfold Prof.colH; rw [r0, r2, Int.toNat_natCast, Int.toNat_natCast]
  have tg' : m.colT.getD g 0 - m.s.obj = m.t.tgt.getD (g - m.s.src.length) 0 := by omega
  obtain ⟨k1, k2, k3, k4⟩ := h.cok.idx (x := (x : Int)) (y := m.t.tgt.getD (g - m.s.src.length) 0) (e := m.colH f g) (by omega) q1 ht.1 ht.2 (by omega) (by rw [Int.toNat_natCast, hH]; exact hbi.2)
  have hK : m.colK2 f g = [(x : Int), m.t.tgt.getD (g - m.s.src.length) 0, m.colH f g] := by unfold Prof.colK2; rw [tg', r0]
  rw [← hK] at k2 k3
  rw [Int.toNat_natCast] at k2 k4
  constructor
  · exact hg
  · exact hg2
  · exact es
  · exact tg'
  · rw [q4]; rfl
  · omega
  · omega
  · omega
  · omega
  · rw [r0, Int.toNat_natCast]; omega
  · rw [r0, r2, Int.toNat_natCast, Int.toNat_natCast]; omega
  · omega
  · omega
  · exact ht.1
  · exact ht.2
  · rw [hy, r0, r2, Int.toNat_natCast, Int.toNat_natCast]; omega
  · rw [r0, Int.toNat_natCast]; exact k2
  · exact k3
  · rw [r0, Int.toNat_natCast]; exact k4
  · rw [hH]; exact hbi.1
def Prof.colSp (m : Prof) (x y e : Nat) : List Int := (m.s.sum m.t).src ++ (m.colP x y e).map fun t => t.getD 0 0
def Prof.colTp (m : Prof) (x y e : Nat) : List Int := (m.s.sum m.t).tgt ++ (m.colP x y e).map fun t => m.s.obj + t.getD 1 0
theorem Prof.colSp_snoc {m : Prof} {x y e : Nat} : m.colSp x y (e + 1) = m.colSp x y e ++ [(x : Int)] := by
  unfold Prof.colSp
  rw [Prof.colP_snoc, List.map_append, ← List.append_assoc]; rfl
theorem Prof.colTp_snoc {m : Prof} {x y e : Nat} : m.colTp x y (e + 1) = m.colTp x y e ++ [m.s.obj + (y : Int)] := by
  unfold Prof.colTp
  rw [Prof.colP_snoc, List.map_append, ← List.append_assoc]; rfl
structure ColSt (eI eS eT eP : TypeId) (H0 H : GHeap) (m : Prof) (p : ProfP) (g1 g2 g3 g4 g5 gI gC : Nat) (r0 : Nat → Option Addr) (zs : List Value) (x y e : Nat) (r1 : Nat → Option Addr) (gV gF gT : Nat) : Prop where
  hle : H0.Le H
  a1 : H.get g1 = some (.row (m.cells p) eP true)
  a2 : H.get g2 = some (.row zs eT true)
  a3 : H.get g3 = some (.row (m.s.cells p.s) eT true)
  a4 : H.get g4 = some (.row (m.t.cells p.t) eT true)
  a5 : H.get g5 = some (.row [.int .i64 (m.s.obj + m.t.obj), .slice (some ⟨gF, 0, none⟩) (m.colSp x y e).length (m.colSp x y e).length, .slice (some ⟨gT, 0, none⟩) (m.colTp x y e).length (m.colTp x y e).length, .slice (some ⟨gI, 0, none⟩) (m.s.sum m.t).idn.length (m.s.sum m.t).idn.length, .slice (some ⟨gC, 0, none⟩) (m.s.sum m.t).comp.length (m.s.sum m.t).comp.length] eT true)
  aF : H.get gF = some (.row (ints (m.colSp x y e)) eI true)
  aT : H.get gT = some (.row (ints (m.colTp x y e)) eI true)
  aI : H.get gI = some (.row (ints (m.s.sum m.t).idn) eI true)
  aC : H.get gC = some (.row (slsL r0 (m.s.sum m.t).comp) eS true)
  aV : H.get gV = some (.row (slsL r1 (m.colP x y e)) eS true)
  rows0 : OwnL H0.next H eI r0 (m.s.sum m.t).comp
  rows1 : OwnL H0.next H eI r1 (m.colP x y e)
  z1 : ∀ i, i < (m.s.sum m.t).comp.length → r0 i ≠ some ⟨gF, 0, none⟩
  z2 : ∀ i, i < (m.s.sum m.t).comp.length → r0 i ≠ some ⟨gT, 0, none⟩
  z3 : ∀ i, i < (m.s.sum m.t).comp.length → r0 i ≠ some ⟨gI, 0, none⟩
  w1 : ∀ i, i < (m.colP x y e).length → r1 i ≠ some ⟨gF, 0, none⟩
  w2 : ∀ i, i < (m.colP x y e).length → r1 i ≠ some ⟨gT, 0, none⟩
  bF : H0.next ≤ gF
  bT : H0.next ≤ gT
  bI : H0.next ≤ gI
  bC : H0.next ≤ gC
  bV : H0.next ≤ gV
  b5 : H0.next ≤ g5
  n12 : gF ≠ gT
  n13 : gF ≠ gI
  n23 : gT ≠ gI
  nV : gV ≠ gC
  n15 : g1 ≠ g5
  n25 : g2 ≠ g5
  n35 : g3 ≠ g5
  n45 : g4 ≠ g5
theorem ColSt.app {eI eS eT eP : TypeId} {H0 H H' : GHeap} {m : Prof} {p : ProfP} {g1 g2 g3 g4 g5 gI gC : Nat} {r0 : Nat → Option Addr} {zs : List Value} {x y e : Nat} {r1 : Nat → Option Addr} {gV gF gT gr gV' gF' gT' a b c : Nat} (h : ColSt eI eS eT eP H0 H m p g1 g2 g3 g4 g5 gI gC r0 zs x y e r1 gV gF gT) (s : St [gV, gF, gT, g5] H H') (t1 : (eI != eS) = true) (t2 : (eI != eT) = true) (t3 : (eS != eT) = true) (t4 : (eP != eS) = true) (t5 : (eP != eI) = true)
    (kr : H'.get gr = some (.row (ints [(x : Int), (y : Int), (e : Int)]) eI true)) (qr : H.next ≤ gr) (kV : H'.get gV' = some (.row (slsL r1 (m.colP x y e) ++ [.slice (some ⟨gr, 0, none⟩) 3 3]) eS true)) (qV : H.next ≤ gV') (kF : H'.get gF' = some (.row (ints (m.colSp x y e ++ [(x : Int)])) eI true)) (qF : H.next ≤ gF') (kT : H'.get gT' = some (.row (ints (m.colTp x y e ++ [m.s.obj + (y : Int)])) eI true)) (qT : H.next ≤ gT')
    (k5 : H'.get g5 = some (.row [.int .i64 (m.s.obj + m.t.obj), .slice (some ⟨gF', 0, none⟩) a a, .slice (some ⟨gT', 0, none⟩) b b, .slice (some ⟨gI, 0, none⟩) (m.s.sum m.t).idn.length (m.s.sum m.t).idn.length, .slice (some ⟨gC, 0, none⟩) c c] eT true)) (ea : a = (m.colSp x y e).length + 1) (eb : b = (m.colTp x y e).length + 1) (ec : c = (m.s.sum m.t).comp.length) (nrF : gr ≠ gF') (nrT : gr ≠ gT') (nFT : gF' ≠ gT') : ColSt eI eS eT eP H0 H' m p g1 g2 g3 g4 g5 gI gC r0 zs x y (e + 1) (upd r1 (m.colP x y e).length (some ⟨gr, 0, none⟩)) gV' gF' gT' := by
  have u1 : (eS != eI) = true := by simp only [bne_iff_ne, ne_eq] at t1 ⊢; exact fun e => t1 e.symm
  have u2 : (eT != eI) = true := by simp only [bne_iff_ne, ne_eq] at t2 ⊢; exact fun e => t2 e.symm
  have u3 : (eT != eS) = true := by simp only [bne_iff_ne, ne_eq] at t3 ⊢; exact fun e => t3 e.symm
  obtain ⟨y1, y2, y3, y4, y5, y6, y7, y8, y9, y10, y11, y12, y13, y14, y15, y16, y17, y18, y19, y20, y21, y22, y23, y24, y25, y26, y27, y28, y29, y30, y31, y32⟩ := h
  have l0 := y1.1
  have lI := GHeap.ltg y9
  have lC := GHeap.ltg y10
  have step : ∀ k o, k ≠ gV → k ≠ gF → k ≠ gT → k ≠ g5 → H.get k = some o → H'.get k = some o := fun k o h1 h2 h3 h4 h5 => s.same k o ⟨h1, h2, h3, h4, trivial⟩ h5
  have off0 : Off r0 (m.s.sum m.t).comp.length [gV, gF, gT, g5] := .cons (y12.neT y11 t1) (.cons y14 (.cons y15 (.cons (y12.neT y6 t2) (.nil _ _))))
  have off1 : Off r1 (m.colP x y e).length [gV, gF, gT, g5] := .cons (y13.neT y11 t1) (.cons y17 (.cons y18 (.cons (y13.neT y6 t2) (.nil _ _))))
  have lr := y13.ne (g := gr) qr
  subst ea eb ec
  constructor
  · exact y1.st s fun k hk => ⟨by omega, by omega, by omega, by omega, trivial⟩
  · exact step _ _ (row_ne y2 y11 t4) (row_ne y2 y7 t5) (row_ne y2 y8 t5) y29 y2
  · exact step _ _ (row_ne y3 y11 u3) (row_ne y3 y7 u2) (row_ne y3 y8 u2) y30 y3
  · exact step _ _ (row_ne y4 y11 u3) (row_ne y4 y7 u2) (row_ne y4 y8 u2) y31 y4
  · exact step _ _ (row_ne y5 y11 u3) (row_ne y5 y7 u2) (row_ne y5 y8 u2) y32 y5
  · rw [Prof.colSp_snoc, Prof.colTp_snoc, List.length_append, List.length_append]; exact k5
  · rw [Prof.colSp_snoc]; exact kF
  · rw [Prof.colTp_snoc]; exact kT
  · exact step _ _ (row_ne y9 y11 t1) (Ne.symm y26) (Ne.symm y27) (row_ne y9 y6 t2) y9
  · exact step _ _ (Ne.symm y28) (row_ne y10 y7 u1) (row_ne y10 y8 u1) (row_ne y10 y6 t3) y10
  · rw [Prof.colP_snoc]; exact (slsL_snoc (r := r1) (xss := m.colP x y e) (x := colPr x y e) (a := some ⟨gr, 0, none⟩)).symm ▸ kV
  · exact y12.st s off0
  · rw [Prof.colP_snoc]; exact (y13.st s off1).snoc2 kr lr (by omega)
  · exact y12.ne qF
  · exact y12.ne qT
  · exact y16
  · rw [Prof.colP_snoc]; exact ne_snoc (y13.ne qF) nrF
  · rw [Prof.colP_snoc]; exact ne_snoc (y13.ne qT) nrT
  · omega
  · omega
  · omega
  · omega
  · omega
  · omega
  · exact nFT
  · omega
  · omega
  · omega
  · exact y29
  · exact y30
  · exact y31
  · exact y32
end Go.GL
namespace Go.GL
def Prof.coSz (m : Prof) (a : Nat) : Nat := ((m.sz.getD (m.s.tgt.getD a 0).toNat []).getD (m.s.src.getD a 0).toNat 0).toNat
def Prof.coPr (m : Prof) (a t : Nat) : List Int := [sumN m.diag (m.s.src.getD a 0).toNat + ((m.be.getD a []).getD (m.s.src.getD a 0).toNat []).getD t 0, sumN m.diag (m.s.tgt.getD a 0).toNat + ((m.bh.getD a []).getD (m.s.tgt.getD a 0).toNat []).getD t 0]
def Prof.coP (m : Prof) (k t : Nat) : List (Nat × Nat) := nestL (fun a t => (pA (m.coPr a t), pB (m.coPr a t))) m.coSz k t
def Prof.coend (m : Prof) : List Int := joinL (sumN m.diag m.sz.length).toNat (m.coP m.s.src.length 0)
theorem sumN_le {f : Nat → Int} {N : Nat} (h : ∀ i, i < N → 0 ≤ f i) : ∀ {b a : Nat}, a ≤ b → b ≤ N → sumN f a ≤ sumN f b
  | 0, a, hab, _ => by obtain rfl : a = 0 := by omega
                       exact Int.le_refl _
  | b + 1, a, hab, hb => by
    by_cases e : a = b + 1
    · subst e; exact Int.le_refl _
    · have h1 := sumN_le h (b := b) (a := a) (by omega) (by omega)
      have := h b (by omega)
      simp only [sumN]
      omega
theorem Prof.place_lt {m : Prof} (z : m.Sized) (e : m.s = m.t) {x : Nat} {v : Int} (hx : x < m.sz.length) (h0 : 0 ≤ v) (h1 : v < m.diag x) : 0 ≤ sumN m.diag x + v ∧ sumN m.diag x + v < sumN m.diag m.sz.length := by
  have h2 := z.sum e (n := x) (by omega)
  have h3 := sumN_le (f := m.diag) (N := m.sz.length) (fun i hi => (z.diag e hi).2.1) (a := x + 1) (b := m.sz.length) (by omega) (Nat.le_refl _)
  simp only [sumN] at h3
  omega
theorem Prof.Shape.co {m : Prof} (h : m.Shape) (e : m.s = m.t) {a : Nat} (ha : a < m.s.src.length) : a < m.be.length ∧ a < m.bh.length ∧ a < m.s.tgt.length ∧ 0 ≤ m.s.src.getD a 0 ∧ m.s.src.getD a 0 < m.sz.length ∧ 0 ≤ m.s.tgt.getD a 0 ∧ m.s.tgt.getD a 0 < m.sz.length ∧
    (m.s.src.getD a 0).toNat < (m.sz.getD (m.s.tgt.getD a 0).toNat []).length ∧ 0 ≤ (m.sz.getD (m.s.tgt.getD a 0).toNat []).getD (m.s.src.getD a 0).toNat 0 ∧ (m.sz.getD (m.s.tgt.getD a 0).toNat []).getD (m.s.src.getD a 0).toNat 0 ≤ 64 ∧
    (m.s.src.getD a 0).toNat < (m.be.getD a []).length ∧ (m.s.tgt.getD a 0).toNat < (m.bh.getD a []).length ∧
    (((m.be.getD a []).getD (m.s.src.getD a 0).toNat []).length : Int) = (m.sz.getD (m.s.tgt.getD a 0).toNat []).getD (m.s.src.getD a 0).toNat 0 ∧ (((m.bh.getD a []).getD (m.s.tgt.getD a 0).toNat []).length : Int) = (m.sz.getD (m.s.tgt.getD a 0).toNat []).getD (m.s.src.getD a 0).toNat 0 ∧
    (∀ t, t < ((m.be.getD a []).getD (m.s.src.getD a 0).toNat []).length → 0 ≤ ((m.be.getD a []).getD (m.s.src.getD a 0).toNat []).getD t 0 ∧ ((m.be.getD a []).getD (m.s.src.getD a 0).toNat []).getD t 0 < m.diag (m.s.src.getD a 0).toNat) ∧
    (∀ t, t < ((m.bh.getD a []).getD (m.s.tgt.getD a 0).toNat []).length → 0 ≤ ((m.bh.getD a []).getD (m.s.tgt.getD a 0).toNat []).getD t 0 ∧ ((m.bh.getD a []).getD (m.s.tgt.getD a 0).toNat []).getD t 0 < m.diag (m.s.tgt.getD a 0).toNat) := by
  have hbl := h.z.bl
  have hhl := h.z.hl
  have e1 : m.t.src.length = m.s.src.length := by rw [e]
  have q := h.z.b h.s (a := a) (by omega)
  have hsl := h.z.sl
  have hso : m.t.obj = m.s.obj := by rw [e]
  have r1 := h.by (a := a) (y := (m.s.src.getD a 0).toNat) (by omega) (by omega)
  have r2 := h.hx (b := a) (x := (m.s.tgt.getD a 0).toNat) (by omega) (by omega)
  have e2 : m.t.src = m.s.src := by rw [e]
  have e3 : m.t.tgt = m.s.tgt := by rw [e]
  rw [e2, e3] at r2
  exact ⟨by omega, by omega, by omega, by omega, by omega, by omega, by omega, by omega, by omega, by omega, r1.1, r2.1, r1.2.2.2.1, r2.2.2.2.2.1, r1.2.2.2.2.1, r2.2.2.2.2.2.1⟩
theorem Prof.Shape.coPr {m : Prof} (h : m.Shape) (e : m.s = m.t) {a t : Nat} (ha : a < m.s.src.length) (ht : t < m.coSz a) : 2 ≤ (m.coPr a t).length ∧ 0 ≤ (m.coPr a t).getD 0 0 ∧ (m.coPr a t).getD 0 0 < sumN m.diag m.sz.length ∧ 0 ≤ (m.coPr a t).getD 1 0 ∧ (m.coPr a t).getD 1 0 < sumN m.diag m.sz.length := by
  obtain ⟨_, _, _, q4, q5, q6, q7, _, q9, _, _, _, q13, q14, q15, q16⟩ := h.co e ha
  have htt : t < ((m.be.getD a []).getD (m.s.src.getD a 0).toNat []).length := by unfold Prof.coSz at ht; omega
  have htt' : t < ((m.bh.getD a []).getD (m.s.tgt.getD a 0).toNat []).length := by unfold Prof.coSz at ht; omega
  have p1 := Prof.place_lt h.z e (x := (m.s.src.getD a 0).toNat) (by omega) (q15 t htt).1 (q15 t htt).2
  have p2 := Prof.place_lt h.z e (x := (m.s.tgt.getD a 0).toNat) (by omega) (q16 t htt').1 (q16 t htt').2
  exact ⟨Nat.le_refl _, p1.1, p1.2, p2.1, p2.2⟩
end Go.GL
namespace Go.GL
def SFun.szF (f : SFun) (i : Nat) : Int := f.sz.getD i 0
def SFun.offs (f : SFun) (n : Nat) : List Int := (List.range n).map (sumN f.szF)
@[simp] theorem SFun.length_offs (f : SFun) (n : Nat) : (f.offs n).length = n := by simp [SFun.offs]
theorem SFun.Shape.sum {f : SFun} (h : f.Shape) {n : Nat} (hn : n ≤ f.sz.length) : 0 ≤ sumN f.szF n ∧ sumN f.szF n ≤ n * 16 := sumN_bd (N := f.sz.length) (fun i hi => h.sz i hi) hn
end Go.GL
namespace Go.GL
def pick3 {α : Type} (pr : Nat → Nat → Nat → α) (q : Nat → Nat → Nat → Bool) (s1 : Nat → Nat) (s2 : Nat → Nat → Nat) (k t u : Nat) : List α := (nest3 (fun a b c => bif q a b c then [pr a b c] else []) s1 s2 k t u).flatten
section
variable {α : Type} {pr : Nat → Nat → Nat → α} {q : Nat → Nat → Nat → Bool} {s1 : Nat → Nat} {s2 : Nat → Nat → Nat}
theorem pick3_T {k t u : Nat} (h : q k t u = true) : pick3 pr q s1 s2 k t (u + 1) = pick3 pr q s1 s2 k t u ++ [pr k t u] := by
  unfold pick3
  rw [nest3_snoc, List.flatten_append, h]
  simp
theorem pick3_F {k t u : Nat} (h : q k t u = false) : pick3 pr q s1 s2 k t (u + 1) = pick3 pr q s1 s2 k t u := by
  unfold pick3
  rw [nest3_snoc, List.flatten_append, h]
  simp
theorem pick3_next2 {k t : Nat} : pick3 pr q s1 s2 k (t + 1) 0 = pick3 pr q s1 s2 k t (s2 k t) := by
  unfold pick3
  rw [nest3_next2]
theorem pick3_next1 {k : Nat} : pick3 pr q s1 s2 (k + 1) 0 0 = pick3 pr q s1 s2 k (s1 k) 0 := by
  unfold pick3
  rw [nest3_next1]
theorem pick3_mem {k : Nat} {x : α} : x ∈ pick3 pr q s1 s2 k 0 0 ↔ ∃ a b c, a < k ∧ b < s1 a ∧ c < s2 a b ∧ q a b c = true ∧ x = pr a b c := by
  unfold pick3
  rw [List.mem_flatten]
  constructor
  · rintro ⟨l, hl, hx⟩
    obtain ⟨a, b, c, h1, h2, h3, rfl⟩ := nest3_mem hl
    cases hq : q a b c with
    | false => rw [hq] at hx; simp at hx
    | true => rw [hq] at hx; exact ⟨a, b, c, h1, h2, h3, hq, by simpa using hx⟩
  · rintro ⟨a, b, c, h1, h2, h3, hq, rfl⟩
    exact ⟨_, mem_nest3 (pr := fun a b c => bif q a b c then [pr a b c] else []) h1 h2 h3, by rw [hq]; simp⟩
theorem pick3_nodup {k : Nat} (h : ∀ a b t a' b' t', a < k → b < s1 a → t < s2 a b → a' < k → b' < s1 a' → t' < s2 a' b' → pr a b t = pr a' b' t' → a = a' ∧ b = b' ∧ t = t') : (pick3 pr q s1 s2 k 0 0).Nodup := by
  have e : pick3 pr q s1 s2 k 0 0 = (nest3 (fun a b c => (a, b, c)) s1 s2 k 0 0).flatMap fun p => bif q p.1 p.2.1 p.2.2 then [pr p.1 p.2.1 p.2.2] else [] := by
    unfold pick3 nest3 nestL
    simp only [List.range_zero, List.map_nil, List.append_nil, List.flatMap_nil, List.flatten_eq_flatMap, List.flatMap_assoc, List.flatMap_map]
    rfl
  rw [e]
  refine List.pairwise_flatMap.2 ⟨fun p _ => by cases q p.1 p.2.1 p.2.2 <;> simp, ?_⟩
  refine (nest3_nodup (pr := fun a b c => (a, b, c)) fun a b t a' b' t' _ _ _ _ _ _ e => by simpa using e).imp_of_mem fun {x y} hx hy hne u hu v hv huv => ?_
  obtain ⟨a, b, c, h1, h2, h3, rfl⟩ := nest3_mem hx
  obtain ⟨a', b', c', k1, k2, k3, rfl⟩ := nest3_mem hy
  cases hq : q a b c with
  | false => simp only [hq] at hu; simp at hu
  | true =>
    cases hq' : q a' b' c' with
    | false => simp only [hq'] at hv; simp at hv
    | true =>
      simp only [hq, hq', cond_true, List.mem_singleton] at hu hv
      have := h _ _ _ _ _ _ h1 h2 h3 k1 k2 k3 (by rw [← hu, ← hv, huv])
      obtain ⟨rfl, rfl, rfl⟩ := this
      exact hne rfl
theorem pick3_le {c d k t u n : Nat} (h1 : ∀ a, a < n → s1 a ≤ d) (h2 : ∀ a, a < n → ∀ b, b < s1 a → s2 a b ≤ c) (hk : k < n) (ht : t < s1 k) (hu : u ≤ s2 k t) : (pick3 pr q s1 s2 k t u).length ≤ n * (d * c) := by
  have := nest3_le (pr := fun a b c => bif q a b c then [pr a b c] else []) h1 h2 hk ht hu
  have h3 := flatten_le (l := nest3 (fun a b c => bif q a b c then [pr a b c] else []) s1 s2 k t u) fun x hx => by
    unfold nest3 nestL at hx
    simp only [List.mem_append, List.mem_flatMap, List.mem_map] at hx
    have : ∀ a b c, (bif q a b c then [pr a b c] else []).length ≤ 1 := fun a b c => by cases q a b c <;> simp
    rcases hx with ⟨_, _, (⟨_, _, _, _, rfl⟩ | ⟨_, _, rfl⟩)⟩ | ⟨_, _, _, _, rfl⟩ | ⟨_, _, rfl⟩ <;> exact this _ _ _
  unfold pick3
  omega
theorem pick3_all {c d n : Nat} (h1 : ∀ a, a < n → s1 a ≤ d) (h2 : ∀ a, a < n → ∀ b, b < s1 a → s2 a b ≤ c) : (pick3 pr q s1 s2 n 0 0).length ≤ n * (d * c) := by
  have := nest3_all (pr := fun a b c => bif q a b c then [pr a b c] else []) h1 h2
  have h3 := flatten_le (l := nest3 (fun a b c => bif q a b c then [pr a b c] else []) s1 s2 n 0 0) fun x hx => by
    obtain ⟨a, b, c, _, _, _, rfl⟩ := nest3_mem hx
    cases q a b c <;> simp
  unfold pick3
  omega
end
def colI (A : List (List Int)) (k : Nat) : List Int := A.map fun t => t.getD k 0
@[simp] theorem length_colI (A : List (List Int)) (k : Nat) : (colI A k).length = A.length := by simp [colI]
theorem colI_get {A : List (List Int)} {k i : Nat} (h : i < A.length) : (colI A k).getD i 0 = (A.getD i []).getD k 0 := by unfold colI; rw [getD_map (d := []) h]
theorem colI_take {A : List (List Int)} {k i : Nat} (h : i < A.length) : colI (A.take (i + 1)) k = colI (A.take i) k ++ [(A.getD i []).getD k 0] := take_map_snoc h
def bldC (n : Nat) (A : List (List Int)) (idl : Nat → List Int) (cpl : Nat → Nat → List Int) : Cat where
  obj := n
  src := colI A 0
  tgt := colI A 1
  idn := (List.range n).map fun i => idxLL A (idl i)
  comp := tabL (colI A 0) (colI A 1) (fun a b => idxLL A (cpl a b)) A.length
theorem range_snocI {f : Nat → Int} {i : Nat} : (List.range (i + 1)).map f = (List.range i).map f ++ [f i] := by rw [List.range_succ, List.map_append]; rfl
def tabP (src tgt : List Int) (X : Nat → Nat → Int) (a b : Nat) : List Int := (List.range b).map (tabC src tgt X a)
@[simp] theorem length_tabP (src tgt : List Int) (X : Nat → Nat → Int) (a b : Nat) : (tabP src tgt X a b).length = b := by simp [tabP]
theorem tabP_snoc {src tgt : List Int} {X : Nat → Nat → Int} {a b : Nat} {v : Int} (h : v = tabC src tgt X a b) : tabP src tgt X a (b + 1) = tabP src tgt X a b ++ [v] := by subst h; unfold tabP; rw [List.range_succ, List.map_append]; rfl
def tabF (src tgt : List Int) (X : Nat → Nat → Int) (n a : Nat) : List (List Int) := (List.range a).map fun i => tabP src tgt X i n
@[simp] theorem length_tabF (src tgt : List Int) (X : Nat → Nat → Int) (n a : Nat) : (tabF src tgt X n a).length = a := by simp [tabF]
theorem tabF_snoc {src tgt : List Int} {X : Nat → Nat → Int} {n a : Nat} : tabF src tgt X n (a + 1) = tabF src tgt X n a ++ [tabP src tgt X a n] := by unfold tabF; rw [List.range_succ, List.map_append]; rfl
theorem bldC_small {n : Nat} {A : List (List Int)} {idl : Nat → List Int} {cpl : Nat → Nat → List Int} (hn : n ≤ 1048576) (hA : A.length ≤ 1048576) : (bldC n A idl cpl).Small := by
  refine ⟨by simp [bldC]; omega, by simp [bldC]; omega, by simp [bldC]; omega, by simp [bldC, tabL]; omega, fun i => ?_, by simp [bldC]; omega⟩
  unfold bldC tabL
  by_cases hi : i < A.length
  · simp only [rowsOf_get hi, length_tabR]; omega
  · rw [List.getD_eq_getElem?_getD, List.getElem?_eq_none (by simp; omega)]; simp
abbrev ecO (f : SFun) (i k : Nat) : Int := ((elE f).getD i []).getD k 0
abbrev ecH (f : SFun) (i j : Nat) : List Int := f.sh.hom (ecO f i 0) (ecO f j 0)
def ecP (f : SFun) (i j k : Nat) : List Int := [(i : Int), (j : Int), (ecH f i j).getD k 0]
def ecQ (f : SFun) (i j k : Nat) : Bool := decide ((f.ac.getD ((ecH f i j).getD k 0).toNat []).getD (ecO f i 1).toNat 0 = ecO f j 1)
def ecL (f : SFun) (i j k : Nat) : List (List Int) := pick3 (ecP f) (ecQ f) (fun _ => (elE f).length) (fun i j => (ecH f i j).length) i j k
def ecA (f : SFun) : List (List Int) := ecL f (elE f).length 0 0
theorem ecL_T {f : SFun} {i j k : Nat} (h : (f.ac.getD ((ecH f i j).getD k 0).toNat []).getD (ecO f i 1).toNat 0 = ecO f j 1) : ecL f i j (k + 1) = ecL f i j k ++ [ecP f i j k] := pick3_T (decide_eq_true h)
theorem ecL_F {f : SFun} {i j k : Nat} (h : ¬ (f.ac.getD ((ecH f i j).getD k 0).toNat []).getD (ecO f i 1).toNat 0 = ecO f j 1) : ecL f i j (k + 1) = ecL f i j k := pick3_F (decide_eq_false h)
theorem ecL_next2 {f : SFun} {i j : Nat} : ecL f i (j + 1) 0 = ecL f i j (ecH f i j).length := pick3_next2
theorem ecL_next1 {f : SFun} {i : Nat} : ecL f (i + 1) 0 0 = ecL f i (elE f).length 0 := pick3_next1
theorem ecL_le {f : SFun} {i j k : Nat} (hf : f.Is) (hn : (elE f).length ≤ 8) (hi : i < (elE f).length) (hj : j < (elE f).length) (hk : k ≤ (ecH f i j).length) : (ecL f i j k).length ≤ 8 * (8 * 40) := by
  obtain ⟨_, _, b3, _, _⟩ := hf.nums
  have := pick3_le (pr := ecP f) (q := ecQ f) (s1 := fun _ => (elE f).length) (s2 := fun i j => (ecH f i j).length) (c := 40) (d := 8) (n := (elE f).length) (fun _ _ => hn) (fun i _ j _ => by have := f.sh.hom_le (ecO f i 0) (ecO f j 0); unfold ecH; omega) hi hj hk
  exact Nat.le_trans this (Nat.mul_le_mul_right _ hn)
theorem ecA_le {f : SFun} (hf : f.Is) (hn : (elE f).length ≤ 8) : (ecA f).length ≤ 8 * (8 * 40) := by
  obtain ⟨_, _, b3, _, _⟩ := hf.nums
  have := pick3_all (pr := ecP f) (q := ecQ f) (s1 := fun _ => (elE f).length) (s2 := fun i j => (ecH f i j).length) (c := 40) (d := 8) (n := (elE f).length) (fun _ _ => hn) (fun i _ j _ => by have := f.sh.hom_le (ecO f i 0) (ecO f j 0); unfold ecH; omega)
  exact Nat.le_trans this (Nat.mul_le_mul_right _ hn)
theorem ecA_mem {f : SFun} {t : List Int} : t ∈ ecA f ↔ ∃ i j : Nat, ∃ h : Int, i < (elE f).length ∧ j < (elE f).length ∧ h ∈ ecH f i j ∧ (f.ac.getD h.toNat []).getD (ecO f i 1).toNat 0 = ecO f j 1 ∧ t = [(i : Int), (j : Int), h] := by
  unfold ecA ecL
  rw [pick3_mem]
  constructor
  · rintro ⟨i, j, k, h1, h2, h3, h4, rfl⟩
    exact ⟨i, j, _, h1, h2, getD_mem h3, of_decide_eq_true h4, rfl⟩
  · rintro ⟨i, j, h, h1, h2, h3, h4, rfl⟩
    obtain ⟨k, hk, e⟩ := List.getElem_of_mem h3
    have e2 : (ecH f i j).getD k 0 = h := by rw [List.getD_eq_getElem?_getD, List.getElem?_eq_getElem hk, e]; rfl
    exact ⟨i, j, k, h1, h2, hk, decide_eq_true (by rw [e2]; exact h4), by unfold ecP; rw [e2]⟩
theorem ecA_keys {f : SFun} (hf : f.Is) (hn : (elE f).length ≤ 8) : Keys 3 (ecA f) := by
  obtain ⟨_, _, b3, b4, _⟩ := hf.nums
  refine ⟨pick3_nodup fun a b t a' b' t' ha hb ht ha' hb' ht' e => ?_, fun t ht => ?_⟩
  · unfold ecP at e
    simp only [List.cons.injEq, and_true] at e
    obtain ⟨e1, e2, e3⟩ := e
    obtain rfl : a = a' := by omega
    obtain rfl : b = b' := by omega
    exact ⟨rfl, rfl, nodup_getD (filtN_nodup _ _) ht ht' e3⟩
  · obtain ⟨i, j, h, h1, h2, h3, _, rfl⟩ := ecA_mem.1 ht
    obtain ⟨z, z1, _, _, z4⟩ := Cat.mem_hom.1 h3
    refine ⟨rfl, fun k hk => ?_⟩
    match k, hk with
    | 0, _ => show 0 ≤ (i : Int) ∧ (i : Int) ≤ 255; omega
    | 1, _ => show 0 ≤ (j : Int) ∧ (j : Int) ≤ 255; omega
    | 2, _ => show 0 ≤ h ∧ h ≤ 255; omega
theorem elE_keys {f : SFun} (hf : f.Is) : Keys 2 (elE f) := by
  obtain ⟨_, _, b3, b4, _⟩ := hf.nums
  refine ⟨?_, fun t ht => ?_⟩
  · unfold elE elP nestL
    simp only [List.range_zero, List.map_nil, List.append_nil]
    refine List.pairwise_flatMap.2 ⟨fun a ha => List.pairwise_map.2 (List.nodup_range.imp fun {t t'} hne e => hne (by simp at e; omega)), List.nodup_range.imp fun {a a'} hne x hx y hy e => ?_⟩
    obtain ⟨t, _, rfl⟩ := List.mem_map.1 hx
    obtain ⟨t', _, rfl⟩ := List.mem_map.1 hy
    simp only [List.cons.injEq, and_true] at e
    exact hne (by omega)
  · obtain ⟨x, e, h1, h2, rfl⟩ := nestL_mem ht
    have q1 := hf.1.sz x h1
    refine ⟨rfl, fun k hk => ?_⟩
    match k, hk with
    | 0, _ => show 0 ≤ (x : Int) ∧ (x : Int) ≤ 255; omega
    | 1, _ => show 0 ≤ (e : Int) ∧ (e : Int) ≤ 255; omega
structure EcO (f : SFun) (i : Nat) : Prop where
  x0 : 0 ≤ ecO f i 0
  x1 : ecO f i 0 < f.sz.length
  e0 : 0 ≤ ecO f i 1
  e1 : ecO f i 1 < f.sz.getD (ecO f i 0).toNat 0
  i0 : 0 ≤ f.sh.idn.getD (ecO f i 0).toNat 0
  i1 : f.sh.idn.getD (ecO f i 0).toNat 0 < f.sh.src.length
  ix : (ecO f i 0).toNat < f.sh.idn.length
  l2 : ((elE f).getD i []).length = 2
theorem SFun.Is.ecO {f : SFun} (hf : f.Is) {i : Nat} (hi : i < (elE f).length) : EcO f i := by
  obtain ⟨x, e, h1, h2, h3⟩ := elE_get hi
  have hS := hf.1.c.1
  have e1 : Go.GL.ecO f i 0 = x := by unfold Go.GL.ecO; rw [h3]; rfl
  have e2 : Go.GL.ecO f i 1 = e := by unfold Go.GL.ecO; rw [h3]; rfl
  have hz := hf.1.zl
  have hl := hS.il
  have := hS.idn x (by omega)
  exact ⟨by omega, by omega, by omega, by rw [e1, e2]; simpa using h2, by rw [e1]; simpa using this.1, by rw [e1]; simpa using this.2, by omega, by rw [h3]; rfl⟩
structure EcH (f : SFun) (i j k : Nat) : Prop where
  h0 : 0 ≤ (ecH f i j).getD k 0
  h1 : (ecH f i j).getD k 0 < f.ac.length
  e : (ecO f i 1).toNat < (f.ac.getD ((ecH f i j).getD k 0).toNat []).length
theorem SFun.Is.ecH {f : SFun} (hf : f.Is) {i j k : Nat} (hi : i < (elE f).length) (hk : k < (Go.GL.ecH f i j).length) : EcH f i j k := by
  have o := hf.ecO hi
  obtain ⟨z, z1, z2, z3, z4⟩ := Cat.hom_get hk
  obtain ⟨l1, l2, l3, l4, l5⟩ := hf.nums
  have q := (hf.1.ends z1).2.2.2.2
  rw [z2] at q
  have o1 := o.e0
  have o2 := o.e1
  refine ⟨by rw [z4]; omega, by rw [z4]; omega, ?_⟩
  rw [z4, Int.toNat_natCast]
  omega
theorem ecA_row {f : SFun} (hf : f.Is) (hn : (elE f).length ≤ 8) (i : Nat) : ((ecA f).getD i []).length ≤ 3 := by
  by_cases hi : i < (ecA f).length
  · have := ((ecA_keys hf hn).ok _ (getD_mem_list (d := []) hi)).1; omega
  · rw [List.getD_eq_getElem?_getD, List.getElem?_eq_none (by omega)]; simp
structure EcA (f : SFun) (a : Nat) : Prop where
  s0 : 0 ≤ ((ecA f).getD a []).getD 0 0
  s1 : ((ecA f).getD a []).getD 0 0 < (elE f).length
  t0 : 0 ≤ ((ecA f).getD a []).getD 1 0
  t1 : ((ecA f).getD a []).getD 1 0 < (elE f).length
  h0 : 0 ≤ ((ecA f).getD a []).getD 2 0
  h1 : ((ecA f).getD a []).getD 2 0 < f.sh.src.length
  l3 : ((ecA f).getD a []).length = 3
theorem ecA_get {f : SFun} {a : Nat} (ha : a < (ecA f).length) : EcA f a := by
  obtain ⟨i, j, h, h1, h2, h3, _, e⟩ := ecA_mem.1 (getD_mem_list (d := []) ha)
  obtain ⟨z, z1, _, _, z4⟩ := Cat.mem_hom.1 h3
  rw [show EcA f a ↔ EcA f a from Iff.rfl]
  refine ⟨?_, ?_, ?_, ?_, ?_, ?_, ?_⟩ <;> rw [e] <;> simp <;> omega
def ecI (f : SFun) (i : Nat) : List Int := [(i : Int), (i : Int), f.sh.idn.getD (ecO f i 0).toNat 0]
def ecC (f : SFun) (a b : Nat) : List Int := [((ecA f).getD a []).getD 0 0, ((ecA f).getD b []).getD 1 0, f.sh.th (((ecA f).getD a []).getD 2 0) (((ecA f).getD b []).getD 2 0)]
theorem ecI_mem {f : SFun} (hf : f.Is) {i : Nat} (hi : i < (elE f).length) : ecI f i ∈ ecA f := by
  have o := hf.ecO hi
  have hS := hf.1.c.1
  obtain ⟨l1, l2, l3, l4, l5⟩ := hf.nums
  have q := hS.ids (ecO f i 0).toNat o.ix
  have hal := hf.1.ends (a := (f.sh.idn.getD (ecO f i 0).toNat 0).toNat) (by have := o.i0; have := o.i1; omega)
  refine ecA_mem.2 ⟨i, i, _, hi, hi, ?_, ?_, rfl⟩
  · refine Cat.mem_hom.2 ⟨(f.sh.idn.getD (ecO f i 0).toNat 0).toNat, by have := o.i0; have := o.i1; omega, by rw [q.1]; have := o.x0; omega, by rw [q.2]; have := o.x0; omega, by have := o.i0; omega⟩
  · have e0 := o.e0
    have e1 := o.e1
    have := hf.2.ids (ecO f i 0).toNat o.ix (ecO f i 1).toNat (by
      have h5 := hal.2.2.2.2
      rw [q.1] at h5
      simp only [Int.toNat_natCast] at h5
      omega)
    rw [this]
    omega
theorem ecC_mem {f : SFun} (hf : f.Is) {a b : Nat} (ha : a < (ecA f).length) (hb : b < (ecA f).length) (e : ((ecA f).getD a []).getD 1 0 = ((ecA f).getD b []).getD 0 0) : ecC f a b ∈ ecA f := by
  obtain ⟨i, j, h, h1, h2, h3, h4, e1⟩ := ecA_mem.1 (getD_mem_list (d := []) ha)
  obtain ⟨i', j', h', k1, k2, k3, k4, e2⟩ := ecA_mem.1 (getD_mem_list (d := []) hb)
  obtain ⟨z, z1, z2, z3, rfl⟩ := Cat.mem_hom.1 h3
  obtain ⟨w, w1, w2, w3, rfl⟩ := Cat.mem_hom.1 k3
  unfold ecC
  rw [e1, e2] at e ⊢
  simp only [List.getD_cons_zero, List.getD_cons_succ] at e ⊢
  obtain rfl : j = i' := by omega
  have hS := hf.1.c.1
  have hm : f.sh.tgt.getD z 0 = f.sh.src.getD w 0 := by rw [z3, w2]
  have hc := (Cat.Cell.pos hm).1 (hS.cell z (by have := hS.cl; omega) w w1)
  rw [← Cat.th_nat] at hc
  have oi := hf.ecO h1
  have hz := hf.1.ends z1
  refine ecA_mem.2 ⟨i, j', _, h1, k2, Cat.mem_hom.2 ⟨(f.sh.th z w).toNat, by omega, by rw [hc.2.2.1]; exact z2, by rw [hc.2.2.2]; exact w3, by omega⟩, ?_, rfl⟩
  have := hf.2.th z z1 w w1 hm (ecO f i 1).toNat (by have := oi.e0; have := oi.e1; rw [← z2] at this; omega)
  rw [← Cat.th_nat] at this
  rw [this]
  rw [Int.toNat_natCast] at h4 k4
  rw [h4]
  exact k4
def elsC (f : SFun) : Cat := bldC (elE f).length (ecA f) (ecI f) (ecC f)
def ecRw (f : SFun) (a b : Nat) : List Int := tabP (colI (ecA f) 0) (colI (ecA f) 1) (fun a b => idxLL (ecA f) (ecC f a b)) a b
def ecT (f : SFun) (a : Nat) : List (List Int) := tabF (colI (ecA f) 0) (colI (ecA f) 1) (fun a b => idxLL (ecA f) (ecC f a b)) (ecA f).length a
theorem length_ecRw (f : SFun) (a b : Nat) : (ecRw f a b).length = b := length_tabP _ _ _ _ _
theorem length_ecT (f : SFun) (a : Nat) : (ecT f a).length = a := length_tabF _ _ _ _ _
theorem ecT_snoc {f : SFun} {a : Nat} : ecT f (a + 1) = ecT f a ++ [ecRw f a (ecA f).length] := tabF_snoc
theorem ecRw_T {f : SFun} {a b : Nat} (ha : a < (ecA f).length) (hb : b < (ecA f).length) (h : ((ecA f).getD a []).getD 1 0 = ((ecA f).getD b []).getD 0 0) : ecRw f a (b + 1) = ecRw f a b ++ [idxLL (ecA f) (ecC f a b)] := tabP_snoc (tabC_T (src := colI (ecA f) 0) (tgt := colI (ecA f) 1) (X := fun a b => idxLL (ecA f) (ecC f a b)) (i := a) (j := b) (by rw [colI_get ha, colI_get hb]; exact h)).symm
theorem ecRw_F {f : SFun} {a b : Nat} (ha : a < (ecA f).length) (hb : b < (ecA f).length) (h : ¬ ((ecA f).getD a []).getD 1 0 = ((ecA f).getD b []).getD 0 0) : ecRw f a (b + 1) = ecRw f a b ++ [-1] := tabP_snoc (tabC_F (src := colI (ecA f) 0) (tgt := colI (ecA f) 1) (X := fun a b => idxLL (ecA f) (ecC f a b)) (i := a) (j := b) (by rw [colI_get ha, colI_get hb]; exact h)).symm
theorem elE_sum (f : SFun) (hz : ∀ i, i < f.sz.length → 0 ≤ f.sz.getD i 0) : sumN f.szF f.sz.length = ((elE f).length : Int) := by
  have key : ∀ k, k ≤ f.sz.length → sumN f.szF k = ((elP f k 0).length : Int) := by
    intro k
    induction k with
    | zero => intro _; rfl
    | succ k ih =>
      intro hk
      have h1 := ih (by omega)
      have h2 := hz k (by omega)
      have h3 : (elP f (k + 1) 0).length = (elP f k 0).length + (f.sz.getD k 0).toNat := by
        show (nestL _ _ (k + 1) 0).length = _
        rw [nestL_next]
        simp [elP, nestL]
      rw [show sumN f.szF (k + 1) = sumN f.szF k + f.szF k from rfl, h1, h3, show f.szF k = f.sz.getD k 0 from rfl]
      omega
  exact key _ (Nat.le_refl _)
noncomputable def SFun.ecOk (f : SFun) : Prop := f.Is ∧ (elE f).length ≤ 8 ∧ (ecA f).length ≤ 40
noncomputable def SFun.elsR (f : SFun) : Cat := bif B f.ecOk then elsC f else .zero
noncomputable def SFun.elsO (f : SFun) : List (List Int) := bif B f.ecOk then elE f else []
noncomputable def SFun.elsA (f : SFun) : List (List Int) := bif B f.ecOk then ecA f else []
noncomputable def SFun.elsN (f : SFun) : Int := bif B f.Is then (bif B f.ecOk then 0 else 3) else 1
theorem els_1 {f : SFun} (h : ¬ f.Is) : f.elsR = .zero ∧ f.elsO = [] ∧ f.elsA = [] ∧ f.elsN = 1 := by
  unfold SFun.elsR SFun.elsO SFun.elsA SFun.elsN; rw [B_false (p := f.ecOk) fun hh => h hh.1, B_false h]; exact ⟨rfl, rfl, rfl, rfl⟩
theorem els_3 {f : SFun} (h : f.Is) (h' : ¬ ((elE f).length ≤ 8 ∧ (ecA f).length ≤ 40)) : f.elsR = .zero ∧ f.elsO = [] ∧ f.elsA = [] ∧ f.elsN = 3 := by
  unfold SFun.elsR SFun.elsO SFun.elsA SFun.elsN; rw [B_false (p := f.ecOk) fun hh => h' hh.2, B_true h]; exact ⟨rfl, rfl, rfl, rfl⟩
theorem els_0 {f : SFun} (h : f.Is) (h1 : (elE f).length ≤ 8) (h2 : (ecA f).length ≤ 40) : f.elsR = elsC f ∧ f.elsO = elE f ∧ f.elsA = ecA f ∧ f.elsN = 0 := by
  unfold SFun.elsR SFun.elsO SFun.elsA SFun.elsN; rw [B_true (p := f.ecOk) ⟨h, h1, h2⟩, B_true h]; exact ⟨rfl, rfl, rfl, rfl⟩
theorem Cat.zero_small : Cat.zero.Small := ⟨by simp [Cat.zero], by simp [Cat.zero], by simp [Cat.zero], by simp [Cat.zero], fun i => by simp [Cat.zero], by simp [Cat.zero]⟩
theorem els_small (f : SFun) : f.elsR.Small ∧ f.elsO.length ≤ 8 ∧ (∀ i, (f.elsO.getD i []).length ≤ 2) ∧ f.elsA.length ≤ 40 ∧ ∀ i, (f.elsA.getD i []).length ≤ 3 := by
  by_cases h : f.ecOk
  · obtain ⟨e1, e2, e3, _⟩ := els_0 h.1 h.2.1 h.2.2
    rw [e1, e2, e3]
    have h1 := h.2.1
    have h2 := h.2.2
    refine ⟨bldC_small (by omega) (by omega), h.2.1, fun i => ?_, h.2.2, fun i => ?_⟩
    · by_cases hi : i < (elE f).length
      · have := ((elE_keys h.1).ok _ (getD_mem_list (d := []) hi)).1; omega
      · rw [List.getD_eq_getElem?_getD, List.getElem?_eq_none (by omega)]; simp
    · by_cases hi : i < (ecA f).length
      · have := ((ecA_keys h.1 h.2.1).ok _ (getD_mem_list (d := []) hi)).1; omega
      · rw [List.getD_eq_getElem?_getD, List.getElem?_eq_none (by omega)]; simp
  · unfold SFun.elsR SFun.elsO SFun.elsA
    rw [B_false h]
    exact ⟨Cat.zero_small, by simp, by simp, by simp, by simp⟩
theorem GHeap.Le.erase_hi {H H' : GHeap} {g : Nat} (h : H.Le H') (hg : H.next ≤ g) : H.Le (H'.set g none) := ⟨by rw [GHeap.next_set]; exact h.1, fun k o hk => GHeap.get_erase_of (h.2 k o hk) (by have := GHeap.ltg hk; omega)⟩
theorem Keep.erase {b g : Nat} {H H' : GHeap} (k : Keep b H H') (hg : H.next ≤ g) : Keep b H (H'.set g none) := fun x o hb hx => GHeap.get_erase_of (k x o hb hx) (by have := GHeap.ltg hx; omega)
theorem IntssR.blks {b : Nat} {H : GHeap} {a : Option Addr} {xss : List (List Int)} {r : Nat → Option Addr} (h : IntssR b H a xss r) {x : Nat} (hx : x ∈ lvBlks (rowsL r xss xss.length)) : b ≤ x ∧ x < H.next := by
  obtain ⟨l, hl, hx2⟩ := List.mem_flatMap.1 hx
  obtain ⟨i, hi, rfl⟩ := List.mem_map.1 hl
  obtain ⟨o2, s2, e2⟩ := mem_lvBlk1 hx2
  have hi' := List.mem_range.1 hi
  rcases h.1 with ⟨rfl, _⟩ | ⟨g', e', cs, _, _, _, _, _, h6⟩
  · simp at hi'
  · obtain ⟨g2, _, h7, h8, h9⟩ := h6 i hi'
    simp only [h7] at e2
    cases e2
    exact ⟨h8, GHeap.ltg h9⟩
theorem IntsR.blks {b : Nat} {H : GHeap} {a : Option Addr} {xs : List Int} {n : Nat} (h : IntsR b H a xs) {x : Nat} (hx : x ∈ lvBlk (a, n)) : b ≤ x ∧ x < H.next := by
  obtain ⟨o2, s2, e2⟩ := mem_lvBlk1 hx
  rcases h with ⟨_, rfl⟩ | ⟨g, e, rfl, h1, h2⟩
  · cases e2
  · cases e2; exact ⟨h1, GHeap.ltg h2⟩
theorem CatR.blks {b : Nat} {H : GHeap} {c : Cat} {p : CatP} (h : CatR b H c p) {x : Nat} (hx : x ∈ lvBlks (c.leaves p)) : b ≤ x ∧ x < H.next := by
  unfold Cat.leaves at hx
  rw [lvBlks_append, lvBlks_append, lvBlks_append] at hx
  simp only [lvBlks, List.flatMap_cons, List.flatMap_nil, List.append_nil, List.mem_append] at hx
  rcases hx with hx | hx | hx | hx
  · exact h.1.1.blks hx
  · exact h.1.2.1.blks hx
  · exact h.1.2.2.1.blks hx
  · exact h.1.2.2.2.blks hx
structure Three (b : Nat) (H : GHeap) (c : Cat) (p : CatP) (a : Option Addr) (r : Nat → Option Addr) (xss : List (List Int)) (a2 : Option Addr) (r2 : Nat → Option Addr) (yss : List (List Int)) : Prop where
  v : CatR b H c p
  w : IntssR b H a xss r
  u : IntssR b H a2 yss r2
  dj12 : ∀ g ∈ lvBlks (c.leaves p), ¬ g ∈ lvBlks (rowsL r xss xss.length)
  dj13 : ∀ g ∈ lvBlks (c.leaves p), ¬ g ∈ lvBlks (rowsL r2 yss yss.length)
  dj23 : ∀ g ∈ lvBlks (rowsL r xss xss.length), ¬ g ∈ lvBlks (rowsL r2 yss yss.length)
section
variable {b b' : Nat} {H H' : GHeap} {c : Cat} {p : CatP} {a a2 : Option Addr} {r r2 : Nat → Option Addr} {xss yss : List (List Int)}
theorem Three.keep (h : Three b H c p a r xss a2 r2 yss) (k : Keep b' H H') (hb : b' ≤ b) : Three b' H' c p a r xss a2 r2 yss := ⟨h.v.keep k hb, h.w.keep k hb, h.u.keep k hb, h.dj12, h.dj13, h.dj23⟩
theorem Three.nd1 (h : Three b H c p a r xss a2 r2 yss) : (lvBlks (c.leaves p)).Nodup := h.v.2
theorem Three.nd2 (h : Three b H c p a r xss a2 r2 yss) : (lvBlks (rowsL r xss xss.length)).Nodup := h.w.2
theorem Three.nd3 (h : Three b H c p a r xss a2 r2 yss) : (lvBlks (rowsL r2 yss yss.length)).Nodup := h.u.2
theorem Three.nil (b : Nat) (H : GHeap) : Three b H .zero .zero none (fun _ => none) [] none (fun _ => none) [] := ⟨.zero _ _, .nil _ _ _, .nil _ _ _, fun _ _ h => by simp [lvBlks, rowsL] at h, fun _ _ h => by simp [lvBlks, rowsL] at h, fun _ _ h => by simp [lvBlks, rowsL] at h⟩
theorem Three.mk' {b1 b2 b3 : Nat} {H1 H2 : GHeap} (v : CatR b3 H c p) (w : IntssR b H a xss r) (w0 : IntssR b1 H1 a xss r) (u : IntssR b H a2 yss r2) (u0 : IntssR b2 H2 a2 yss r2) (h1 : H1.next ≤ b2) (h2 : H2.next ≤ b3) (h12 : H1.next ≤ b3) (hb : b ≤ b3) : Three b H c p a r xss a2 r2 yss :=
  ⟨v.keep (.of_le (.refl _)) hb, w, u, fun g hg hg' => by have := v.blks hg; have := w0.blks hg'; omega, fun g hg hg' => by have := v.blks hg; have := u0.blks hg'; omega, fun g hg hg' => by have := w0.blks hg; have := u0.blks hg'; omega⟩
end
end Go.GL
