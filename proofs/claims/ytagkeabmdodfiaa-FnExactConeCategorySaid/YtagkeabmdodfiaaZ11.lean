/- Collages: lists shifted, where an element's arrow lies. No condition. -/
import Derived.Test.YtagkeabmdodfiaaZ10
namespace Go.GL
theorem nest3_len {α : Type} {pr : Nat → Nat → Nat → α} {s1 : Nat → Nat} {s2 : Nat → Nat → Nat} {k t : Nat} : ∀ {u}, (nest3 pr s1 s2 k t u).length = (nest3 pr s1 s2 k t 0).length + u
  | 0 => rfl
  | u + 1 => by rw [nest3_snoc, List.length_append, nest3_len (u := u)]; simp; omega
theorem nest3_pre3 {α : Type} {pr : Nat → Nat → Nat → α} {s1 : Nat → Nat} {s2 : Nat → Nat → Nat} {k t u : Nat} : ∀ j, nest3 pr s1 s2 k t u <+: nest3 pr s1 s2 k t (u + j)
  | 0 => List.prefix_refl _
  | j + 1 => by rw [← Nat.add_assoc, nest3_snoc]; exact (nest3_pre3 j).trans (List.prefix_append _ _)
theorem nest3_pre2 {α : Type} {pr : Nat → Nat → Nat → α} {s1 : Nat → Nat} {s2 : Nat → Nat → Nat} {k t : Nat} : ∀ j, nest3 pr s1 s2 k t 0 <+: nest3 pr s1 s2 k (t + j) 0
  | 0 => List.prefix_refl _
  | j + 1 => by
    rw [← Nat.add_assoc, nest3_next2]
    have := nest3_pre3 (pr := pr) (s1 := s1) (s2 := s2) (k := k) (t := t + j) (u := 0) (s2 k (t + j))
    rw [Nat.zero_add] at this
    exact (nest3_pre2 j).trans this
theorem nest3_pre1 {α : Type} {pr : Nat → Nat → Nat → α} {s1 : Nat → Nat} {s2 : Nat → Nat → Nat} {k : Nat} : ∀ j, nest3 pr s1 s2 k 0 0 <+: nest3 pr s1 s2 (k + j) 0 0
  | 0 => List.prefix_refl _
  | j + 1 => by
    rw [← Nat.add_assoc, nest3_next1]
    have := nest3_pre2 (pr := pr) (s1 := s1) (s2 := s2) (k := k + j) (t := 0) (s1 (k + j))
    rw [Nat.zero_add] at this
    exact (nest3_pre1 j).trans this
theorem nest3_preR {α : Type} {pr : Nat → Nat → Nat → α} {s1 : Nat → Nat} {s2 : Nat → Nat → Nat} {n k t : Nat} (hk : k < n) (ht : t ≤ s1 k) : nest3 pr s1 s2 k t 0 <+: nest3 pr s1 s2 n 0 0 := by
  have h2 := nest3_pre2 (pr := pr) (s1 := s1) (s2 := s2) (k := k) (t := t) (s1 k - t)
  rw [show t + (s1 k - t) = s1 k by omega, ← nest3_next1] at h2
  have h3 := nest3_pre1 (pr := pr) (s1 := s1) (s2 := s2) (k := k + 1) (n - (k + 1))
  rw [show k + 1 + (n - (k + 1)) = n by omega] at h3
  exact h2.trans h3
theorem nest3_pre {α : Type} {pr : Nat → Nat → Nat → α} {s1 : Nat → Nat} {s2 : Nat → Nat → Nat} {n k t u : Nat} (hk : k < n) (ht : t < s1 k) (hu : u ≤ s2 k t) : nest3 pr s1 s2 k t u <+: nest3 pr s1 s2 n 0 0 := by
  have h1 := nest3_pre3 (pr := pr) (s1 := s1) (s2 := s2) (k := k) (t := t) (u := u) (s2 k t - u)
  rw [show u + (s2 k t - u) = s2 k t by omega, ← nest3_next2] at h1
  exact h1.trans (nest3_preR hk ht)
theorem nest3_at {α : Type} {pr : Nat → Nat → Nat → α} {s1 : Nat → Nat} {s2 : Nat → Nat → Nat} {n k t u : Nat} {d : α} (hk : k < n) (ht : t < s1 k) (hu : u < s2 k t) : (nest3 pr s1 s2 k t u).length < (nest3 pr s1 s2 n 0 0).length ∧ (nest3 pr s1 s2 n 0 0).getD (nest3 pr s1 s2 k t u).length d = pr k t u := by
  obtain ⟨r, hr⟩ := nest3_pre (pr := pr) (s1 := s1) (s2 := s2) (n := n) (u := u + 1) hk ht hu
  rw [← hr, nest3_snoc]
  refine ⟨by simp, ?_⟩
  rw [List.getD_eq_getElem?_getD, List.append_assoc, List.getElem?_append_right (Nat.le_refl _)]
  simp
theorem getD_append_l {α : Type} {xs ys : List α} {i : Nat} {d : α} (h : i < xs.length) : (xs ++ ys).getD i d = xs.getD i d := by
  rw [List.getD_eq_getElem?_getD, List.getElem?_append_left h, ← List.getD_eq_getElem?_getD]
theorem getD_append_r {α : Type} {xs ys : List α} {i : Nat} {d : α} (h : xs.length ≤ i) : (xs ++ ys).getD i d = ys.getD (i - xs.length) d := by
  rw [List.getD_eq_getElem?_getD, List.getElem?_append_right h, ← List.getD_eq_getElem?_getD]
theorem getD_map {α β : Type} {f : α → β} {xs : List α} {i : Nat} {d : α} {e : β} (h : i < xs.length) : (xs.map f).getD i e = f (xs.getD i d) := by
  rw [List.getD_eq_getElem?_getD, List.getElem?_map, List.getElem?_eq_getElem h, List.getD_eq_getElem?_getD, List.getElem?_eq_getElem h]; rfl
theorem getD_set2 {xss : List (List Int)} {i j : Nat} {ys : List Int} (h : i < xss.length) : (xss.set i ys).getD j [] = if i = j then ys else xss.getD j [] := by
  rw [List.getD_eq_getElem?_getD, List.getElem?_set]
  by_cases e : i = j
  · subst e; rw [if_pos rfl, if_pos rfl, if_pos h]; rfl
  · rw [if_neg e, if_neg e, ← List.getD_eq_getElem?_getD]
theorem OwnL.app {b gi g' i : Nat} {H H1 : GHeap} {e : TypeId} {r : Nat → Option Addr} {xss : List (List Int)} {ys : List Int} (h : OwnL b H e r xss) (s : St [gi] H H1) (hi : i < xss.length) (hr : r i = some ⟨gi, 0, none⟩) (hg : H1.get g' = some (.row (ints ys) e true)) (hn : H.next ≤ g') (hb : b ≤ g') :
    OwnL b H1 e (upd r i (some ⟨g', 0, none⟩)) (xss.set i ys) := by
  unfold OwnL
  rw [List.length_set]
  have old : ∀ j, j < xss.length → j ≠ i → ∃ x, r j = some ⟨x, 0, none⟩ ∧ b ≤ x ∧ x < H.next ∧ H1.get x = some (.row (ints (xss.getD j [])) e true) := fun j hj hne => by
    obtain ⟨x, h1, h2, h3⟩ := h.row j hj
    exact ⟨x, h1, h2, GHeap.ltg h3, s.same x _ ⟨fun ex => by subst ex; exact hne (h.inj j i hj hi (by rw [hr, h1])), trivial⟩ h3⟩
  refine ⟨fun j hj => ?_, fun j k hj hk hjk => ?_⟩
  · rw [getD_set2 hi]
    by_cases ej : j = i
    · subst ej
      exact ⟨g', upd_eq _ _ _, hb, by rw [if_pos rfl]; exact hg⟩
    · obtain ⟨x, h1, h2, _, h4⟩ := old j hj ej
      exact ⟨x, by rw [upd_ne ej]; exact h1, h2, by rw [if_neg (Ne.symm ej)]; exact h4⟩
  · by_cases ej : j = i
    · by_cases ek : k = i
      · omega
      · obtain ⟨x, h1, _, h3, _⟩ := old k hk ek
        rw [ej, upd_eq, upd_ne ek, h1] at hjk
        cases hjk
        omega
    · obtain ⟨x, h1, _, h3, _⟩ := old j hj ej
      by_cases ek : k = i
      · rw [ek, upd_eq, upd_ne ej, h1] at hjk
        cases hjk
        omega
      · rw [upd_ne ej, upd_ne ek] at hjk
        exact h.inj j k hj hk hjk
theorem slsL_set {r : Nat → Option Addr} {xss : List (List Int)} {i n : Nat} {a : Option Addr} {ys : List Int} (_ : i < xss.length) (hn : n = ys.length) : (slsL r xss).set i (.slice a n n) = slsL (upd r i a) (xss.set i ys) := by
  subst hn
  unfold slsL slsOf
  apply List.ext_getElem (by simp)
  intro j h1 h2
  simp only [List.length_set, List.length_map, List.length_range] at h1
  simp only [List.getElem_set, List.getElem_map, List.getElem_range]
  by_cases e : i = j
  · subst e
    rw [if_pos rfl, upd_eq, getD_set2 h1, if_pos rfl]
  · rw [if_neg e, upd_ne (Ne.symm e), getD_set2 (by omega), if_neg e]
theorem ne_upd {g g' i n : Nat} {r : Nat → Option Addr} (h : ∀ j, j < n → r j ≠ some ⟨g, 0, none⟩) (hg : g' ≠ g) : ∀ j, j < n → upd r i (some ⟨g', 0, none⟩) j ≠ some ⟨g, 0, none⟩ := fun j hj => by
  by_cases e : j = i
  · subst e
    rw [upd_eq]
    intro e
    cases e
    exact hg rfl
  · rw [upd_ne e]
    exact h j hj
structure OwnCat (eI eS : TypeId) (b : Nat) (H : GHeap) (c : Cat) (g1 g2 g3 g4 : Nat) (rr : Nat → Option Addr) : Prop where
  a1 : H.get g1 = some (.row (ints c.src) eI true)
  a2 : H.get g2 = some (.row (ints c.tgt) eI true)
  a3 : H.get g3 = some (.row (ints c.idn) eI true)
  a4 : H.get g4 = some (.row (slsL rr c.comp) eS true)
  b1 : b ≤ g1
  b2 : b ≤ g2
  b3 : b ≤ g3
  b4 : b ≤ g4
  n12 : g1 ≠ g2
  n13 : g1 ≠ g3
  n23 : g2 ≠ g3
  rows : OwnL b H eI rr c.comp
  r1 : ∀ i, i < c.comp.length → rr i ≠ some ⟨g1, 0, none⟩
  r2 : ∀ i, i < c.comp.length → rr i ≠ some ⟨g2, 0, none⟩
  r3 : ∀ i, i < c.comp.length → rr i ≠ some ⟨g3, 0, none⟩
structure Cat.Rect (c : Cat) (N : Nat) : Prop where
  obj : 0 ≤ c.obj ∧ c.obj ≤ N
  n : c.src.length ≤ N
  tl : c.tgt.length = c.src.length
  src : ∀ i, i < c.src.length → 0 ≤ c.src.getD i 0 ∧ c.src.getD i 0 < c.obj
  tgt : ∀ i, i < c.tgt.length → 0 ≤ c.tgt.getD i 0 ∧ c.tgt.getD i 0 < c.obj
  il : (c.idn.length : Int) = c.obj
  idn : ∀ i, i < c.idn.length → 0 ≤ c.idn.getD i 0 ∧ c.idn.getD i 0 < c.src.length
  cl : c.comp.length = c.src.length
  row : ∀ f, f < c.comp.length → (c.comp.getD f []).length = c.src.length
  cell : ∀ f, f < c.comp.length → ∀ g, g < c.src.length → -1 ≤ (c.comp.getD f []).getD g 0 ∧ (c.comp.getD f []).getD g 0 < c.src.length
theorem Cat.Rect.small {c : Cat} {N : Nat} (h : c.Rect N) (hN : N ≤ 1048576) : c.Small := by
  obtain ⟨h1, h2, h3, h4, h5, h6, h7, h8, h9, h10⟩ := h
  refine ⟨by omega, by omega, by omega, by omega, fun i => ?_, by omega, by omega⟩
  by_cases hi : i < c.comp.length
  · have := h9 i hi; omega
  · rw [List.getD_eq_getElem?_getD, List.getElem?_eq_none (by omega)]; simp
def sumRow (n : Nat) (row : List Int) : List Int := List.replicate n (-1) ++ row.map fun h => if 0 ≤ h then h + (n : Int) else h
def Cat.sumL (c d : Cat) : List (List Int) := c.comp.map (· ++ List.replicate d.src.length (-1))
def Cat.sum (c d : Cat) : Cat where
  obj := c.obj + d.obj
  src := c.src ++ d.src.map (· + c.obj)
  tgt := c.tgt ++ d.tgt.map (· + c.obj)
  idn := c.idn ++ d.idn.map (· + (c.src.length : Int))
  comp := c.sumL d ++ d.comp.map (sumRow c.src.length)
def extL (xss : List (List Int)) (k f j : Nat) : List (List Int) := (List.range xss.length).map fun i => xss.getD i [] ++ List.replicate (if i < f then k else if i = f then j else 0) (-1)
@[simp] theorem length_extL (xss : List (List Int)) (k f j : Nat) : (extL xss k f j).length = xss.length := by simp [extL]
theorem extL_get {xss : List (List Int)} {k f j i : Nat} (h : i < xss.length) : (extL xss k f j).getD i [] = xss.getD i [] ++ List.replicate (if i < f then k else if i = f then j else 0) (-1) := by simp [extL, List.getD_eq_getElem?_getD, h]
theorem extL_succ {xss : List (List Int)} {k f j : Nat} (h : f < xss.length) : extL xss k f (j + 1) = (extL xss k f j).set f ((extL xss k f j).getD f [] ++ [-1]) := by
  refine eq_of_getD2 (by simp) fun i hi => ?_
  rw [length_extL] at hi
  rw [getD_set2 (by simpa using h), extL_get hi, extL_get h]
  by_cases e : f = i
  · subst e
    rw [if_pos rfl, if_neg (by omega), if_pos rfl, if_neg (by omega), if_pos rfl, List.replicate_succ', List.append_assoc]
  · rw [if_neg e, extL_get hi]
    by_cases e2 : i < f
    · rw [if_pos e2, if_pos e2]
    · rw [if_neg e2, if_neg e2, if_neg (Ne.symm e), if_neg (Ne.symm e)]
theorem extL_next {xss : List (List Int)} {k f : Nat} : extL xss k f k = extL xss k (f + 1) 0 := by
  refine eq_of_getD2 (by simp) fun i hi => ?_
  rw [length_extL] at hi
  rw [extL_get hi, extL_get hi]
  congr 2
  by_cases e : i < f
  · rw [if_pos e, if_pos (by omega)]
  · rw [if_neg e]
    by_cases e2 : i = f
    · rw [if_pos e2, if_pos (by omega)]
    · rw [if_neg e2, if_neg (by omega)]
      split <;> rfl
structure SumSt (eI eS eT : TypeId) (H0 H : GHeap) (c d : Cat) (q : CatP) (gd gR gS gF gT gI gC : Nat) (zs : List Value) (rr : Nat → Option Addr) (f j : Nat) : Prop where
  hle : H0.Le H
  gc : H0.next ≤ gC
  ad : H.get gd = some (.row (d.cells q) eT true)
  aR : H.get gR = some (.row zs eT true)
  aS : H.get gS = some (.row [.int .i64 (c.obj + d.obj), .slice (some ⟨gF, 0, none⟩) c.src.length c.src.length, .slice (some ⟨gT, 0, none⟩) c.tgt.length c.tgt.length, .slice (some ⟨gI, 0, none⟩) (c.idn.length + d.obj.toNat) (c.idn.length + d.obj.toNat), .slice (some ⟨gC, 0, none⟩) c.comp.length c.comp.length] eT true)
  aF : H.get gF = some (.row (ints c.src) eI true)
  aT : H.get gT = some (.row (ints c.tgt) eI true)
  aI : H.get gI = some (.row (ints (c.sum d).idn) eI true)
  aC : H.get gC = some (.row (slsL rr (extL c.comp d.src.length f j)) eS true)
  rows : OwnL H0.next H eI rr (extL c.comp d.src.length f j)
  r1 : ∀ i, i < c.comp.length → rr i ≠ some ⟨gF, 0, none⟩
  r2 : ∀ i, i < c.comp.length → rr i ≠ some ⟨gT, 0, none⟩
  r3 : ∀ i, i < c.comp.length → rr i ≠ some ⟨gI, 0, none⟩
theorem SumSt.app {eI eS eT : TypeId} {H0 H Ha Hb Hc : GHeap} {c d : Cat} {q : CatP} {gd gR gS gF gT gI gC gi g' n : Nat} {zs : List Value} {rr : Nat → Option Addr} {f j : Nat} (h : SumSt eI eS eT H0 H c d q gd gR gS gF gT gI gC zs rr f j) (t1 : (eI != eS) = true) (t2 : (eI != eT) = true) (t3 : (eS != eT) = true) (hf : f < c.comp.length) (hgi : H.get gi = some (.row (ints ((extL c.comp d.src.length f j).getD f [])) eI true)) (hr : rr f = some ⟨gi, 0, none⟩) (le : H.Le Ha) (s1 : St [gi] Ha Hb) (hn : Ha.next ≤ g') (hg : Hb.get g' = some (.row (ints ((extL c.comp d.src.length f j).getD f [] ++ [-1])) eI true)) (s2 : St [gC] Hb Hc)
    (hC : Hc.get gC = some (.row ((slsL rr (extL c.comp d.src.length f j)).set f (.slice (some ⟨g', 0, none⟩) n n)) eS true)) (hnn : n = ((extL c.comp d.src.length f j).getD f []).length + 1) : SumSt eI eS eT H0 Hc c d q gd gR gS gF gT gI gC zs (upd rr f (some ⟨g', 0, none⟩)) f (j + 1) := by
  have u1 : (eS != eI) = true := by simp only [bne_iff_ne, ne_eq] at t1 ⊢; exact fun e => t1 e.symm
  have u2 : (eT != eI) = true := by simp only [bne_iff_ne, ne_eq] at t2 ⊢; exact fun e => t2 e.symm
  have u3 : (eT != eS) = true := by simp only [bne_iff_ne, ne_eq] at t3 ⊢; exact fun e => t3 e.symm
  obtain ⟨x1, x0, x2, xR, x3, x4, x5, x6, x7, x8, x9, x10, x11⟩ := h
  have hl : f < (extL c.comp d.src.length f j).length := by rw [length_extL]; exact hf
  have hgi0 : H0.next ≤ gi := by
    obtain ⟨x, h1, h2, _⟩ := x8.row f hl
    rw [hr] at h1; cases h1; exact h2
  have ltF := GHeap.ltg x4
  have ltT := GHeap.ltg x5
  have ltI := GHeap.ltg x6
  have lx := le.1
  have ly := x1.1
  have step : ∀ k o, k ≠ gi → k ≠ gC → H.get k = some o → Hc.get k = some o := fun k o h1 h2 h3 => s2.same k o ⟨h2, trivial⟩ (s1.same k o ⟨h1, trivial⟩ (le.2 k o h3))
  have nF : gF ≠ gi := fun e => x9 f hf (by rw [hr, e])
  have nT : gT ≠ gi := fun e => x10 f hf (by rw [hr, e])
  have nI : gI ≠ gi := fun e => x11 f hf (by rw [hr, e])
  have nC : gC ≠ gi := row_ne x7 hgi u1
  refine ⟨((x1.trans le).st s1 (fun k hk => ⟨by omega, trivial⟩)).st s2 (fun k hk => ⟨by omega, trivial⟩), x0, step _ _ (row_ne x2 hgi u2) (row_ne x2 x7 u3) x2, step _ _ (row_ne xR hgi u2) (row_ne xR x7 u3) xR, step _ _ (row_ne x3 hgi u2) (row_ne x3 x7 u3) x3, step _ _ nF (row_ne x4 x7 t1) x4, step _ _ nT (row_ne x5 x7 t1) x5, step _ _ nI (row_ne x6 x7 t1) x6, ?_, ?_, ne_upd x9 (by omega), ne_upd x10 (by omega), ne_upd x11 (by omega)⟩
  · rw [hC, slsL_set (ys := (extL c.comp d.src.length f j).getD f [] ++ [-1]) hl (by rw [hnn, List.length_append]; rfl), ← extL_succ hf]
  · rw [extL_succ hf]
    have hA := OwnL.app (x8.keep (Lasts.of_le le)) s1 hl hr hg hn (by omega)
    refine hA.st s2 (.cons (hA.neT (s1.same _ _ ⟨nC, trivial⟩ (le.2 _ _ x7)) t1) (.nil _ _))
theorem SumSt.next {eI eS eT : TypeId} {H0 H : GHeap} {c d : Cat} {q : CatP} {gd gR gS gF gT gI gC : Nat} {zs : List Value} {rr : Nat → Option Addr} {f : Nat} (h : SumSt eI eS eT H0 H c d q gd gR gS gF gT gI gC zs rr f d.src.length) : SumSt eI eS eT H0 H c d q gd gR gS gF gT gI gC zs rr (f + 1) 0 := by
  obtain ⟨x1, x0, x2, xR, x3, x4, x5, x6, x7, x8, x9, x10, x11⟩ := h
  rw [extL_next] at x7 x8
  exact ⟨x1, x0, x2, xR, x3, x4, x5, x6, x7, x8, x9, x10, x11⟩
def colPr (x y e : Nat) : List Int := [(x : Int), (y : Int), (e : Int)]
def Prof.colS2 (m : Prof) (x y : Nat) : Nat := ((m.sz.getD x []).getD y 0).toNat
def Prof.colP (m : Prof) (x y e : Nat) : List (List Int) := nest3 colPr (fun _ => m.t.obj.toNat) m.colS2 x y e
def Prof.colL (m : Prof) : List (List Int) := m.colP m.s.obj.toNat 0 0
def Prof.colA (m : Prof) (x y : Nat) : Int := (m.colP x y 0).length
theorem Prof.colP_snoc {m : Prof} {x y e : Nat} : m.colP x y (e + 1) = m.colP x y e ++ [colPr x y e] := nest3_snoc
theorem Prof.colL_nodup {m : Prof} {x : Nat} : (m.colP x 0 0).Nodup := nest3_nodup fun a b t a' b' t' _ _ _ _ _ _ e => by
  unfold colPr at e
  simp only [List.cons.injEq, and_true] at e
  omega
theorem Prof.Sized.at {m : Prof} (z : m.Sized) {x y : Nat} (hx : (x : Int) < m.s.obj) (hy : (y : Int) < m.t.obj) : x < m.sz.length ∧ y < (m.sz.getD x []).length ∧ 0 ≤ (m.sz.getD x []).getD y 0 ∧ (m.sz.getD x []).getD y 0 ≤ 64 := by
  have h1 := z.sl
  have h2 := z.row x (by omega)
  exact ⟨by omega, by omega, z.rng x (by omega) y (by omega)⟩
structure Prof.Cok (m : Prof) : Prop where
  z : m.Sized
  s0 : 0 ≤ m.s.obj
  s8 : m.s.obj ≤ 8
  t0 : 0 ≤ m.t.obj
  t8 : m.t.obj ≤ 8
theorem Prof.Shape.cok {m : Prof} (h : m.Shape) : m.Cok := ⟨h.z, h.s.1.obj.1, h.s.1.obj.2, h.t.1.obj.1, h.t.1.obj.2⟩
theorem Prof.Cok.s2 {m : Prof} (h : m.Cok) {x y : Nat} (hx : (x : Int) < m.s.obj) (hy : (y : Int) < m.t.obj) : (m.colS2 x y : Int) = (m.sz.getD x []).getD y 0 ∧ m.colS2 x y ≤ 64 := by
  have := h.z.at hx hy
  unfold Prof.colS2
  omega
theorem Prof.Cok.all {m : Prof} (h : m.Cok) : m.colL.length ≤ 4096 := by
  have h1 := h.s8
  have h2 := h.t8
  have := nest3_all (pr := colPr) (s1 := fun _ => m.t.obj.toNat) (s2 := m.colS2) (c := 64) (d := 8) (n := m.s.obj.toNat) (fun a _ => by show m.t.obj.toNat ≤ 8; omega) (fun a ha b hb => (h.s2 (by omega) (by omega)).2)
  unfold Prof.colL Prof.colP
  omega
theorem Prof.Cok.le {m : Prof} (h : m.Cok) {x y e : Nat} (hx : (x : Int) < m.s.obj) (hy : (y : Int) < m.t.obj) (he : e ≤ m.colS2 x y) : (m.colP x y e).length ≤ m.colL.length := by
  obtain ⟨r, hr⟩ := nest3_pre (pr := colPr) (s1 := fun _ => m.t.obj.toNat) (s2 := m.colS2) (n := m.s.obj.toNat) (k := x) (t := y) (u := e) (by omega) (by omega) he
  unfold Prof.colL Prof.colP
  rw [← hr, List.length_append]
  omega
theorem Prof.Cok.leY {m : Prof} (h : m.Cok) {x y : Nat} (hx : (x : Int) < m.s.obj) (hy : (y : Int) ≤ m.t.obj) : (m.colP x y 0).length ≤ m.colL.length := by
  obtain ⟨r, hr⟩ := nest3_preR (pr := colPr) (s1 := fun _ => m.t.obj.toNat) (s2 := m.colS2) (n := m.s.obj.toNat) (k := x) (t := y) (by omega) (by omega)
  unfold Prof.colL Prof.colP
  rw [← hr, List.length_append]
  omega
theorem Prof.Cok.idx {m : Prof} (h : m.Cok) {x y e : Int} (x0 : 0 ≤ x) (x1 : x < m.s.obj) (y0 : 0 ≤ y) (y1 : y < m.t.obj) (e0 : 0 ≤ e) (e1 : e < (m.sz.getD x.toNat []).getD y.toNat 0) :
    [x, y, e] ∈ m.colL ∧ idxLL m.colL [x, y, e] = m.colA x.toNat y.toNat + e ∧ idxLL m.colL [x, y, e] < m.colL.length ∧ 0 ≤ m.colA x.toNat y.toNat := by
  have hz := h.s2 (x := x.toNat) (y := y.toNat) (by omega) (by omega)
  obtain ⟨l, a⟩ := nest3_at (pr := colPr) (s1 := fun _ => m.t.obj.toNat) (s2 := m.colS2) (n := m.s.obj.toNat) (k := x.toNat) (t := y.toNat) (u := e.toNat) (d := []) (by omega) (by omega) (by omega)
  have hp : colPr x.toNat y.toNat e.toNat = [x, y, e] := by unfold colPr; rw [Int.toNat_of_nonneg x0, Int.toNat_of_nonneg y0, Int.toNat_of_nonneg e0]
  rw [hp] at a
  have hm := getD_mem_list (d := []) l
  rw [a] at hm
  have hi := idxLL_at (xss := m.colL) Prof.colL_nodup l
  have a' : m.colL.getD (m.colP x.toNat y.toNat e.toNat).length [] = [x, y, e] := a
  unfold Prof.colP at a'
  rw [a'] at hi
  have hl : ((nest3 colPr (fun _ => m.t.obj.toNat) m.colS2 x.toNat y.toNat e.toNat).length : Int) = m.colA x.toNat y.toNat + e := by
    rw [nest3_len]
    unfold Prof.colA Prof.colP
    omega
  exact ⟨hm, by rw [hi, hl], by rw [hi]; exact Int.ofNat_lt.2 l, by unfold Prof.colA; omega⟩
theorem Prof.Cok.tri {m : Prof} (h : m.Cok) {i : Nat} (hi : i < m.colL.length) : ∃ x y e : Nat, (x : Int) < m.s.obj ∧ (y : Int) < m.t.obj ∧ (e : Int) < (m.sz.getD x []).getD y 0 ∧ m.colL.getD i [] = [(x : Int), (y : Int), (e : Int)] ∧ (i : Int) = m.colA x y + e := by
  have hm := getD_mem_list (d := []) hi
  obtain ⟨x, y, e, hx, hy, he, hq⟩ := nest3_mem (k := m.s.obj.toNat) hm
  have hx' : (x : Int) < m.s.obj := by omega
  have hy' : (y : Int) < m.t.obj := by omega
  have hz := h.s2 (x := x) (y := y) hx' hy'
  refine ⟨x, y, e, hx', hy', by omega, hq, ?_⟩
  obtain ⟨l, a⟩ := nest3_at (pr := colPr) (s1 := fun _ => m.t.obj.toNat) (s2 := m.colS2) (n := m.s.obj.toNat) (k := x) (t := y) (u := e) (d := []) hx hy he
  have := getD_inj (xss := m.colL) Prof.colL_nodup hi l (by rw [hq]; exact a.symm)
  rw [this, nest3_len]
  unfold Prof.colA Prof.colP
  omega
def Prof.colQx (m : Prof) (x y : Nat) : List Int := (List.range y).map (m.colA x)
def Prof.colQ (m : Prof) (k : Nat) : List (List Int) := (List.range k).map fun x => m.colQx x (m.sz.getD x []).length
@[simp] theorem Prof.length_colQx (m : Prof) (x y : Nat) : (m.colQx x y).length = y := by simp [Prof.colQx]
@[simp] theorem Prof.length_colQ (m : Prof) (k : Nat) : (m.colQ k).length = k := by simp [Prof.colQ]
theorem Prof.colQx_get {m : Prof} {x y i : Nat} (h : i < y) : (m.colQx x y).getD i 0 = m.colA x i := by simp [Prof.colQx, List.getD_eq_getElem?_getD, h]
theorem Prof.colQ_get {m : Prof} {k x : Nat} (h : x < k) : (m.colQ k).getD x [] = m.colQx x (m.sz.getD x []).length := by simp [Prof.colQ, List.getD_eq_getElem?_getD, h]
theorem Prof.Cok.colA_bd {m : Prof} (h : m.Cok) {x y : Nat} (hx : (x : Int) < m.s.obj) (hy : (y : Int) ≤ m.t.obj) : 0 ≤ m.colA x y ∧ m.colA x y ≤ 4096 := by
  have h1 := h.leY hx hy
  have h2 := h.all
  unfold Prof.colA
  omega
theorem Prof.Cok.q {m : Prof} (h : m.Cok) {x y : Int} (x0 : 0 ≤ x) (x1 : x < m.s.obj) (y0 : 0 ≤ y) (y1 : y < m.t.obj) : x < (m.colQ m.sz.length).length ∧ (((m.colQ m.sz.length).getD x.toNat []).length : Int) = m.t.obj ∧ ((m.colQ m.sz.length).getD x.toNat []).getD y.toNat 0 = m.colA x.toNat y.toNat ∧ 0 ≤ m.colA x.toNat y.toNat ∧ m.colA x.toNat y.toNat ≤ 4096 := by
  have h1 := h.z.sl
  have h2 := h.z.row x.toNat (by omega)
  have h3 := h.colA_bd (x := x.toNat) (y := y.toNat) (by omega) (by omega)
  rw [Prof.length_colQ, Prof.colQ_get (by omega), Prof.length_colQx, Prof.colQx_get (by omega)]
  exact ⟨by omega, h2, rfl, h3⟩
def Prof.colN (m : Prof) : Nat := m.s.src.length + m.t.src.length
def Prof.colS (m : Prof) : List Int := (m.s.sum m.t).src ++ m.colL.map fun t => t.getD 0 0
def Prof.colT (m : Prof) : List Int := (m.s.sum m.t).tgt ++ m.colL.map fun t => m.s.obj + t.getD 1 0
def Prof.colR (m : Prof) (i : Nat) : List Int := m.colL.getD (i - m.colN) []
def Prof.colB (m : Prof) (f g : Nat) : Int := ((m.be.getD f []).getD ((m.colR g).getD 1 0).toNat []).getD ((m.colR g).getD 2 0).toNat 0
def Prof.colH (m : Prof) (f g : Nat) : Int := ((m.bh.getD (g - m.s.src.length) []).getD ((m.colR f).getD 0 0).toNat []).getD ((m.colR f).getD 2 0).toNat 0
def Prof.colK1 (m : Prof) (f g : Nat) : List Int := [m.colS.getD f 0, (m.colR g).getD 1 0, m.colB f g]
def Prof.colK2 (m : Prof) (f g : Nat) : List Int := [(m.colR f).getD 0 0, m.colT.getD g 0 - m.s.obj, m.colH f g]
theorem Prof.sum_n (m : Prof) : (m.s.sum m.t).src.length = m.colN := by simp [Cat.sum, Prof.colN]
theorem Prof.colS_c {m : Prof} {f : Nat} (h : f < m.s.src.length) : m.colS.getD f 0 = m.s.src.getD f 0 := by
  unfold Prof.colS Cat.sum
  rw [getD_append_l (by rw [List.length_append]; omega), getD_append_l h]
theorem Prof.colS_d {m : Prof} {f : Nat} (h1 : m.s.src.length ≤ f) (h2 : f < m.colN) : m.colS.getD f 0 = m.t.src.getD (f - m.s.src.length) 0 + m.s.obj := by
  unfold Prof.colN at h2
  unfold Prof.colS Cat.sum
  rw [getD_append_l (by rw [List.length_append, List.length_map]; omega), getD_append_r h1, getD_map (d := 0) (by omega)]
theorem Prof.colS_t {m : Prof} {f : Nat} (h1 : m.colN ≤ f) (h2 : f < m.colN + m.colL.length) : m.colS.getD f 0 = (m.colR f).getD 0 0 := by
  unfold Prof.colS Prof.colR
  rw [getD_append_r (by rw [Prof.sum_n]; exact h1), getD_map (d := []) (by rw [Prof.sum_n]; omega), Prof.sum_n]
theorem Prof.colT_c {m : Prof} {f : Nat} (hl : m.s.tgt.length = m.s.src.length) (h : f < m.s.src.length) : m.colT.getD f 0 = m.s.tgt.getD f 0 := by
  unfold Prof.colT Cat.sum
  rw [getD_append_l (by rw [List.length_append]; omega), getD_append_l (by omega)]
theorem Prof.colT_d {m : Prof} {f : Nat} (hl : m.s.tgt.length = m.s.src.length) (hl2 : m.t.tgt.length = m.t.src.length) (h1 : m.s.src.length ≤ f) (h2 : f < m.colN) : m.colT.getD f 0 = m.t.tgt.getD (f - m.s.src.length) 0 + m.s.obj := by
  unfold Prof.colN at h2
  unfold Prof.colT Cat.sum
  rw [getD_append_l (by rw [List.length_append, List.length_map]; omega), getD_append_r (by omega), getD_map (d := 0) (by omega), hl]
theorem Prof.colT_t {m : Prof} {f : Nat} (hl : m.s.tgt.length = m.s.src.length) (hl2 : m.t.tgt.length = m.t.src.length) (h1 : m.colN ≤ f) (h2 : f < m.colN + m.colL.length) : m.colT.getD f 0 = m.s.obj + (m.colR f).getD 1 0 := by
  have e : (m.s.sum m.t).tgt.length = m.colN := by simp only [Cat.sum, Prof.colN, List.length_append, List.length_map]; omega
  unfold Prof.colT Prof.colR
  rw [getD_append_r (by rw [e]; exact h1), getD_map (d := []) (by rw [e]; omega), e]
structure Prof.ColB (m : Prof) (f g : Nat) : Prop where
  fM : f < m.s.src.length
  sf : m.colS.getD f 0 = m.s.src.getD f 0
  tg : m.colT.getD g 0 = m.s.obj + (m.colR g).getD 1 0
  r3 : (m.colR g).length = 3
  y0 : 0 ≤ (m.colR g).getD 1 0
  y1 : (m.colR g).getD 1 0 < m.t.obj
  e0 : 0 ≤ (m.colR g).getD 2 0
  b0 : f < m.be.length
  b1 : ((m.colR g).getD 1 0).toNat < (m.be.getD f []).length
  b2 : ((m.colR g).getD 2 0).toNat < ((m.be.getD f []).getD ((m.colR g).getD 1 0).toNat []).length
  s0 : 0 ≤ m.s.src.getD f 0
  s1 : m.s.src.getD f 0 < m.s.obj
  t0 : 0 ≤ m.s.tgt.getD f 0
  t1 : m.s.tgt.getD f 0 < m.s.obj
  ae : (g : Int) - m.colN - m.colA (m.s.tgt.getD f 0).toNat ((m.colR g).getD 1 0).toNat = (m.colR g).getD 2 0
  ix : idxLL m.colL (m.colK1 f g) = m.colA (m.s.src.getD f 0).toNat ((m.colR g).getD 1 0).toNat + m.colB f g
  lt : idxLL m.colL (m.colK1 f g) < m.colL.length
  ca : 0 ≤ m.colA (m.s.src.getD f 0).toNat ((m.colR g).getD 1 0).toNat
  bb : 0 ≤ m.colB f g
structure Prof.ColH (m : Prof) (f g : Nat) : Prop where
  gM : m.s.src.length ≤ g
  gN : g < m.colN
  sf : m.colS.getD f 0 = (m.colR f).getD 0 0
  tg : m.colT.getD g 0 - m.s.obj = m.t.tgt.getD (g - m.s.src.length) 0
  r3 : (m.colR f).length = 3
  x0 : 0 ≤ (m.colR f).getD 0 0
  x1 : (m.colR f).getD 0 0 < m.s.obj
  e0 : 0 ≤ (m.colR f).getD 2 0
  b0 : g - m.s.src.length < m.bh.length
  b1 : ((m.colR f).getD 0 0).toNat < (m.bh.getD (g - m.s.src.length) []).length
  b2 : ((m.colR f).getD 2 0).toNat < ((m.bh.getD (g - m.s.src.length) []).getD ((m.colR f).getD 0 0).toNat []).length
  s0 : 0 ≤ m.t.src.getD (g - m.s.src.length) 0
  s1 : m.t.src.getD (g - m.s.src.length) 0 < m.t.obj
  t0 : 0 ≤ m.t.tgt.getD (g - m.s.src.length) 0
  t1 : m.t.tgt.getD (g - m.s.src.length) 0 < m.t.obj
  ae : (f : Int) - m.colN - m.colA ((m.colR f).getD 0 0).toNat (m.t.src.getD (g - m.s.src.length) 0).toNat = (m.colR f).getD 2 0
  ix : idxLL m.colL (m.colK2 f g) = m.colA ((m.colR f).getD 0 0).toNat (m.t.tgt.getD (g - m.s.src.length) 0).toNat + m.colH f g
  lt : idxLL m.colL (m.colK2 f g) < m.colL.length
  ca : 0 ≤ m.colA ((m.colR f).getD 0 0).toNat (m.t.tgt.getD (g - m.s.src.length) 0).toNat
  bb : 0 ≤ m.colH f g
theorem Prof.Shape.tri {m : Prof} (h : m.Shape) {i : Nat} (h1 : m.colN ≤ i) (h2 : i < m.colN + m.colL.length) : ∃ x y e : Nat, (x : Int) < m.s.obj ∧ (y : Int) < m.t.obj ∧ (e : Int) < (m.sz.getD x []).getD y 0 ∧ m.colR i = [(x : Int), (y : Int), (e : Int)] ∧ (i : Int) - m.colN = m.colA x y + e := by
  obtain ⟨x, y, e, q1, q2, q3, q4, q5⟩ := h.cok.tri (i := i - m.colN) (by omega)
  exact ⟨x, y, e, q1, q2, q3, q4, by omega⟩
theorem Prof.Shape.before {m : Prof} (h : m.Shape) {f g : Nat} (hf : f < m.s.src.length) (hg : m.colN ≤ g) (hg2 : g < m.colN + m.colL.length) (e : m.colT.getD f 0 = m.colS.getD g 0) : m.ColB f g := by
  have l1 := h.s.1.tl
  have l2 := h.t.1.tl
  have b0 := h.z.bl
  obtain ⟨x, y, i, q1, q2, q3, q4, q5⟩ := h.tri (i := g) hg hg2
  have es := Prof.colS_c hf
  have et := Prof.colT_c l1 hf
  have eg := Prof.colS_t (m := m) hg hg2
  have tg := Prof.colT_t (m := m) (f := g) l1 l2 hg hg2
  have r0 : (m.colR g).getD 0 0 = (x : Int) := by rw [q4]; rfl
  have r1 : (m.colR g).getD 1 0 = (y : Int) := by rw [q4]; rfl
  have r2 : (m.colR g).getD 2 0 = (i : Int) := by rw [q4]; rfl
  have hx : m.s.tgt.getD f 0 = (x : Int) := by omega
  have hb := h.by (a := f) (y := y) (by omega) q2
  rw [hx, Int.toNat_natCast] at hb
  have hs := h.s.1.src f hf
  have hbi := hb.2.2.2.2.1 i (by omega)
  have hB : m.colB f g = ((m.be.getD f []).getD y []).getD i 0 := by unfold Prof.colB; rw [r1, r2, Int.toNat_natCast, Int.toNat_natCast]
  obtain ⟨k1, k2, k3, k4⟩ := h.cok.idx (x := m.s.src.getD f 0) (y := (y : Int)) (e := m.colB f g) hs.1 hs.2 (by omega) q2 (by omega) (by rw [Int.toNat_natCast, hB]; exact hbi.2)
  have hK : m.colK1 f g = [m.s.src.getD f 0, (y : Int), m.colB f g] := by unfold Prof.colK1; rw [es, r1]
  rw [← hK] at k2 k3
  rw [Int.toNat_natCast] at k2 k4
  constructor
  · exact hf
  · exact es
  · exact tg
  · rw [q4]; rfl
  · omega
  · omega
  · omega
  · omega
  · rw [r1, Int.toNat_natCast]; omega
  · rw [r1, r2, Int.toNat_natCast, Int.toNat_natCast]; omega
  · exact hs.1
  · exact hs.2
  · omega
  · omega
  · rw [hx, r1, r2, Int.toNat_natCast, Int.toNat_natCast]; omega
  · rw [r1, Int.toNat_natCast]; exact k2
  · exact k3
  · rw [r1, Int.toNat_natCast]; exact k4
  · rw [hB]; exact hbi.1
theorem Prof.Shape.behind {m : Prof} (h : m.Shape) {f g : Nat} (hg : m.s.src.length ≤ g) (hg2 : g < m.colN) (hf : m.colN ≤ f) (hf2 : f < m.colN + m.colL.length) (e : m.colT.getD f 0 = m.colS.getD g 0) : m.ColH f g := by
  have l1 := h.s.1.tl
  have l2 := h.t.1.tl
  have b0 := h.z.hl
  have hg3 := hg2
  unfold Prof.colN at hg3
  obtain ⟨x, y, i, q1, q2, q3, q4, q5⟩ := h.tri (i := f) hf hf2
  have es := Prof.colS_t (m := m) hf hf2
  have et := Prof.colT_t (m := m) (f := f) l1 l2 hf hf2
  have eg := Prof.colS_d (m := m) hg hg2
  have tg := Prof.colT_d (m := m) l1 l2 hg hg2
  have r0 : (m.colR f).getD 0 0 = (x : Int) := by rw [q4]; rfl
  have r1 : (m.colR f).getD 1 0 = (y : Int) := by rw [q4]; rfl
  have r2 : (m.colR f).getD 2 0 = (i : Int) := by rw [q4]; rfl
  have hy : m.t.src.getD (g - m.s.src.length) 0 = (y : Int) := by omega
  have hb := h.hx (b := g - m.s.src.length) (x := x) (by omega) q1
  rw [hy, Int.toNat_natCast] at hb
  have ht := h.t.1.tgt (g - m.s.src.length) (by omega)
  have hbi := hb.2.2.2.2.2.1 i (by omega)
  have hH : m.colH f g = ((m.bh.getD (g - m.s.src.length) []).getD x []).getD i 0 := by unfold Prof.colH; rw [r0, r2, Int.toNat_natCast, Int.toNat_natCast]
  have tg' : m.colT.getD g 0 - m.s.obj = m.t.tgt.getD (g - m.s.src.length) 0 := by omega
  obtain ⟨k1, k2, k3, k4⟩ := h.cok.idx (x := (x : Int)) (y := m.t.tgt.getD (g - m.s.src.length) 0) (e := m.colH f g) (by omega) q1 ht.1 ht.2 (by omega) (by rw [Int.toNat_natCast, hH]; exact hbi.2)
  have hK : m.colK2 f g = [(x : Int), m.t.tgt.getD (g - m.s.src.length) 0, m.colH f g] := by unfold Prof.colK2; rw [tg', r0]
  rw [← hK] at k2 k3
  rw [Int.toNat_natCast] at k2 k4
  constructor
  · exact hg
  · exact hg2
  · exact es
  · exact tg'
  · rw [q4]; rfl
  · omega
  · omega
  · omega
  · omega
  · rw [r0, Int.toNat_natCast]; omega
  · rw [r0, r2, Int.toNat_natCast, Int.toNat_natCast]; omega
  · omega
  · omega
  · exact ht.1
  · exact ht.2
  · rw [hy, r0, r2, Int.toNat_natCast, Int.toNat_natCast]; omega
  · rw [r0, Int.toNat_natCast]; exact k2
  · exact k3
  · rw [r0, Int.toNat_natCast]; exact k4
  · rw [hH]; exact hbi.1
def Prof.colSp (m : Prof) (x y e : Nat) : List Int := (m.s.sum m.t).src ++ (m.colP x y e).map fun t => t.getD 0 0
def Prof.colTp (m : Prof) (x y e : Nat) : List Int := (m.s.sum m.t).tgt ++ (m.colP x y e).map fun t => m.s.obj + t.getD 1 0
theorem Prof.colSp_snoc {m : Prof} {x y e : Nat} : m.colSp x y (e + 1) = m.colSp x y e ++ [(x : Int)] := by
  unfold Prof.colSp
  rw [Prof.colP_snoc, List.map_append, ← List.append_assoc]; rfl
theorem Prof.colTp_snoc {m : Prof} {x y e : Nat} : m.colTp x y (e + 1) = m.colTp x y e ++ [m.s.obj + (y : Int)] := by
  unfold Prof.colTp
  rw [Prof.colP_snoc, List.map_append, ← List.append_assoc]; rfl
structure ColSt (eI eS eT eP : TypeId) (H0 H : GHeap) (m : Prof) (p : ProfP) (g1 g2 g3 g4 g5 gI gC : Nat) (r0 : Nat → Option Addr) (zs : List Value) (x y e : Nat) (r1 : Nat → Option Addr) (gV gF gT : Nat) : Prop where
  hle : H0.Le H
  a1 : H.get g1 = some (.row (m.cells p) eP true)
  a2 : H.get g2 = some (.row zs eT true)
  a3 : H.get g3 = some (.row (m.s.cells p.s) eT true)
  a4 : H.get g4 = some (.row (m.t.cells p.t) eT true)
  a5 : H.get g5 = some (.row [.int .i64 (m.s.obj + m.t.obj), .slice (some ⟨gF, 0, none⟩) (m.colSp x y e).length (m.colSp x y e).length, .slice (some ⟨gT, 0, none⟩) (m.colTp x y e).length (m.colTp x y e).length, .slice (some ⟨gI, 0, none⟩) (m.s.sum m.t).idn.length (m.s.sum m.t).idn.length, .slice (some ⟨gC, 0, none⟩) (m.s.sum m.t).comp.length (m.s.sum m.t).comp.length] eT true)
  aF : H.get gF = some (.row (ints (m.colSp x y e)) eI true)
  aT : H.get gT = some (.row (ints (m.colTp x y e)) eI true)
  aI : H.get gI = some (.row (ints (m.s.sum m.t).idn) eI true)
  aC : H.get gC = some (.row (slsL r0 (m.s.sum m.t).comp) eS true)
  aV : H.get gV = some (.row (slsL r1 (m.colP x y e)) eS true)
  rows0 : OwnL H0.next H eI r0 (m.s.sum m.t).comp
  rows1 : OwnL H0.next H eI r1 (m.colP x y e)
  z1 : ∀ i, i < (m.s.sum m.t).comp.length → r0 i ≠ some ⟨gF, 0, none⟩
  z2 : ∀ i, i < (m.s.sum m.t).comp.length → r0 i ≠ some ⟨gT, 0, none⟩
  z3 : ∀ i, i < (m.s.sum m.t).comp.length → r0 i ≠ some ⟨gI, 0, none⟩
  w1 : ∀ i, i < (m.colP x y e).length → r1 i ≠ some ⟨gF, 0, none⟩
  w2 : ∀ i, i < (m.colP x y e).length → r1 i ≠ some ⟨gT, 0, none⟩
  bF : H0.next ≤ gF
  bT : H0.next ≤ gT
  bI : H0.next ≤ gI
  bC : H0.next ≤ gC
  bV : H0.next ≤ gV
  b5 : H0.next ≤ g5
  n12 : gF ≠ gT
  n13 : gF ≠ gI
  n23 : gT ≠ gI
  nV : gV ≠ gC
  n15 : g1 ≠ g5
  n25 : g2 ≠ g5
  n35 : g3 ≠ g5
  n45 : g4 ≠ g5
theorem ColSt.app {eI eS eT eP : TypeId} {H0 H H' : GHeap} {m : Prof} {p : ProfP} {g1 g2 g3 g4 g5 gI gC : Nat} {r0 : Nat → Option Addr} {zs : List Value} {x y e : Nat} {r1 : Nat → Option Addr} {gV gF gT gr gV' gF' gT' a b c : Nat} (h : ColSt eI eS eT eP H0 H m p g1 g2 g3 g4 g5 gI gC r0 zs x y e r1 gV gF gT) (s : St [gV, gF, gT, g5] H H') (t1 : (eI != eS) = true) (t2 : (eI != eT) = true) (t3 : (eS != eT) = true) (t4 : (eP != eS) = true) (t5 : (eP != eI) = true)
    (kr : H'.get gr = some (.row (ints [(x : Int), (y : Int), (e : Int)]) eI true)) (qr : H.next ≤ gr) (kV : H'.get gV' = some (.row (slsL r1 (m.colP x y e) ++ [.slice (some ⟨gr, 0, none⟩) 3 3]) eS true)) (qV : H.next ≤ gV') (kF : H'.get gF' = some (.row (ints (m.colSp x y e ++ [(x : Int)])) eI true)) (qF : H.next ≤ gF') (kT : H'.get gT' = some (.row (ints (m.colTp x y e ++ [m.s.obj + (y : Int)])) eI true)) (qT : H.next ≤ gT')
    (k5 : H'.get g5 = some (.row [.int .i64 (m.s.obj + m.t.obj), .slice (some ⟨gF', 0, none⟩) a a, .slice (some ⟨gT', 0, none⟩) b b, .slice (some ⟨gI, 0, none⟩) (m.s.sum m.t).idn.length (m.s.sum m.t).idn.length, .slice (some ⟨gC, 0, none⟩) c c] eT true)) (ea : a = (m.colSp x y e).length + 1) (eb : b = (m.colTp x y e).length + 1) (ec : c = (m.s.sum m.t).comp.length) (nrF : gr ≠ gF') (nrT : gr ≠ gT') (nFT : gF' ≠ gT') : ColSt eI eS eT eP H0 H' m p g1 g2 g3 g4 g5 gI gC r0 zs x y (e + 1) (upd r1 (m.colP x y e).length (some ⟨gr, 0, none⟩)) gV' gF' gT' := by
  have u1 : (eS != eI) = true := by simp only [bne_iff_ne, ne_eq] at t1 ⊢; exact fun e => t1 e.symm
  have u2 : (eT != eI) = true := by simp only [bne_iff_ne, ne_eq] at t2 ⊢; exact fun e => t2 e.symm
  have u3 : (eT != eS) = true := by simp only [bne_iff_ne, ne_eq] at t3 ⊢; exact fun e => t3 e.symm
  obtain ⟨y1, y2, y3, y4, y5, y6, y7, y8, y9, y10, y11, y12, y13, y14, y15, y16, y17, y18, y19, y20, y21, y22, y23, y24, y25, y26, y27, y28, y29, y30, y31, y32⟩ := h
  have l0 := y1.1
  have lI := GHeap.ltg y9
  have lC := GHeap.ltg y10
  have step : ∀ k o, k ≠ gV → k ≠ gF → k ≠ gT → k ≠ g5 → H.get k = some o → H'.get k = some o := fun k o h1 h2 h3 h4 h5 => s.same k o ⟨h1, h2, h3, h4, trivial⟩ h5
  have off0 : Off r0 (m.s.sum m.t).comp.length [gV, gF, gT, g5] := .cons (y12.neT y11 t1) (.cons y14 (.cons y15 (.cons (y12.neT y6 t2) (.nil _ _))))
  have off1 : Off r1 (m.colP x y e).length [gV, gF, gT, g5] := .cons (y13.neT y11 t1) (.cons y17 (.cons y18 (.cons (y13.neT y6 t2) (.nil _ _))))
  have lr := y13.ne (g := gr) qr
  subst ea eb ec
  constructor
  · exact y1.st s fun k hk => ⟨by omega, by omega, by omega, by omega, trivial⟩
  · exact step _ _ (row_ne y2 y11 t4) (row_ne y2 y7 t5) (row_ne y2 y8 t5) y29 y2
  · exact step _ _ (row_ne y3 y11 u3) (row_ne y3 y7 u2) (row_ne y3 y8 u2) y30 y3
  · exact step _ _ (row_ne y4 y11 u3) (row_ne y4 y7 u2) (row_ne y4 y8 u2) y31 y4
  · exact step _ _ (row_ne y5 y11 u3) (row_ne y5 y7 u2) (row_ne y5 y8 u2) y32 y5
  · rw [Prof.colSp_snoc, Prof.colTp_snoc, List.length_append, List.length_append]; exact k5
  · rw [Prof.colSp_snoc]; exact kF
  · rw [Prof.colTp_snoc]; exact kT
  · exact step _ _ (row_ne y9 y11 t1) (Ne.symm y26) (Ne.symm y27) (row_ne y9 y6 t2) y9
  · exact step _ _ (Ne.symm y28) (row_ne y10 y7 u1) (row_ne y10 y8 u1) (row_ne y10 y6 t3) y10
  · rw [Prof.colP_snoc]; exact (slsL_snoc (r := r1) (xss := m.colP x y e) (x := colPr x y e) (a := some ⟨gr, 0, none⟩)).symm ▸ kV
  · exact y12.st s off0
  · rw [Prof.colP_snoc]; exact (y13.st s off1).snoc2 kr lr (by omega)
  · exact y12.ne qF
  · exact y12.ne qT
  · exact y16
  · rw [Prof.colP_snoc]; exact ne_snoc (y13.ne qF) nrF
  · rw [Prof.colP_snoc]; exact ne_snoc (y13.ne qT) nrT
  · omega
  · omega
  · omega
  · omega
  · omega
  · omega
  · exact nFT
  · omega
  · omega
  · omega
  · exact y29
  · exact y30
  · exact y31
  · exact y32
end Go.GL
namespace Go.Proofs.Ytagkeabmdodfiaa
open Go Go.GL Go.RowKit Go.Proofs
theorem l02Fits_c {c : Cat} {p : CatP} {H : GHeap} (hin : c.In H p := by assumption) :
    GCalls Try.prog 55 [.agg (c.cells p).toArray] H (Ret (.bool (B (c.obj ≤ 8 ∧ c.src.length ≤ 40))) H) := by
  refine GCalls.ret rfl ?_
  refine GCalls.body (N := 12) (rs := [.tmp 2]) Try.func55 rfl rfl rfl rfl (fun Qx hret hend => ?_)
  refine .forget (fr' := [(0, some _)]) ⟨rfl, trivial⟩ ?_
  have hle := GHeap.Le.refl H
  have base_hin := hin
  refine .seq (fun K1 hK1 => .region ?_)
  refine .r rfl rfl rfl (.boxR rfl sz_31_D rfl) ?_
  rintro _ H1 ⟨g1, rfl, le1, ge1, at1⟩
  replace hle := hle.trans le1
  replace hin := base_hin.mono hle
  have hb1 : Cat.At _ g1 0 c p := ⟨Mem.of_get at1, hin⟩
  obtain ⟨c01, c11, -, -, -, -, -, -, -⟩ := hb1.get
  refine .mv rfl (.nil (hK1 _ _ (.seq (fun K2 hK2 => .region (.m rfl rfl rfl (.fieldAddr fo_31_0_B rfl) ?_)))))
  refine .m rfl rfl rfl (.load on_2_A rfl (by first | assumption | exact Mem.of_get at1 0 _ rfl)) ?_
  refine .m rfl rfl rfl (.cmp rfl rfl rfl) (.mv rfl ?_)
  refine .split (fun h6 => ?_) (fun h6 => ?_)
  ·
   try simp only [sps] at h6
   refine .mg rfl rfl rfl rfl rfl (.fieldAddr fo_31_1_B rfl) ?_
   refine .mg rfl rfl rfl rfl rfl (.load on_22_B rfl (by first | assumption | exact Mem.of_get at1 1 _ rfl)) ?_
   refine .mg rfl rfl rfl rfl rfl (.len sl_22_A rfl) (.mg rfl rfl rfl rfl rfl (.cmp rfl rfl rfl) (.m rfl rfl rfl (.pickT rfl rfl) (.mv rfl (.nil (hK2 _ _ ?_)))))
   refine .ret ?_
   refine hret _ _ ?_
   refine ⟨_, rfl, ?_⟩
   exact ⟨congrArg _ (by unfold B; first | (rw [decide_eq_decide]; omega) | (rw [decide_eq_false_iff_not]; omega)), hle⟩
  try simp only [sps] at h6
  refine .sg rfl rfl rfl rfl rfl (.sg rfl rfl rfl rfl rfl (.sg rfl rfl rfl rfl rfl (.sg rfl rfl rfl rfl rfl (.m rfl rfl rfl (.pickF rfl rfl) (.mv rfl (.nil (hK2 _ _ ?_)))))))
  refine .ret ?_
  refine hret _ _ ?_
  refine ⟨_, rfl, ?_⟩
  exact ⟨congrArg _ (by unfold B; first | (rw [decide_eq_decide]; omega) | (rw [decide_eq_false_iff_not]; omega)), hle⟩
end Go.Proofs.Ytagkeabmdodfiaa
namespace Go.GL
def glPr (f : SFun) (y : Int) (x e i : Nat) : List Int := [(x : Int), (e : Int), (f.sh.hom (x : Int) y).getD i 0]
def glL (f : SFun) (y : Int) (x e i : Nat) : List (List Int) := nest3 (glPr f y) (fun x => (f.sz.getD x 0).toNat) (fun x _ => (f.sh.hom (x : Int) y).length) x e i
def glE (f : SFun) (y : Int) : List (List Int) := glL f y f.sz.length 0 0
theorem SFun.Is.nums {f : SFun} (h : f.Is) : f.ac.length = f.sh.src.length ∧ f.sh.tgt.length = f.sh.src.length ∧ f.sh.src.length ≤ 40 ∧ f.sz.length ≤ 8 ∧ f.sh.obj = f.sz.length := by
  have h2 := h.1.al
  have h4 := h.1.c.1.tl
  have h5 := h.1.c.1.n40
  have h6 := h.1.zl
  have h7 := h.1.c.1.obj
  omega
theorem glE_mem {f : SFun} {y : Int} {x e : Nat} {h : Int} (hx : x < f.sz.length) (hh : h ∈ f.sh.hom (x : Int) y) (he : (e : Int) < f.sz.getD x 0) : [(x : Int), (e : Int), h] ∈ glE f y := by
  obtain ⟨i, hi, e1⟩ := List.getElem_of_mem hh
  have := mem_nest3 (pr := glPr f y) (s1 := fun x => (f.sz.getD x 0).toNat) (s2 := fun x _ => (f.sh.hom (x : Int) y).length) hx (b := e) (by omega) hi
  unfold glPr at this
  rw [List.getD_eq_getElem?_getD (l := f.sh.hom _ _), List.getElem?_eq_getElem hi, e1] at this
  exact this
structure GlA (f : SFun) (y : Int) (a : Nat) : Prop where
  s0 : 0 ≤ f.sh.src.getD a 0
  s1 : f.sh.src.getD a 0 < f.sz.length
  t0 : 0 ≤ f.sh.tgt.getD a 0
  t1 : f.sh.tgt.getD a 0 < f.sz.length
  al : ((f.ac.getD a []).length : Int) = f.sz.getD (f.sh.src.getD a 0).toNat 0
  zs : f.sz.getD (f.sh.src.getD a 0).toNat 0 ≤ 16
  ac : ∀ e, e < (f.ac.getD a []).length → 0 ≤ (f.ac.getD a []).getD e 0 ∧ (f.ac.getD a []).getD e 0 < f.sz.getD (f.sh.tgt.getD a 0).toNat 0
  th : ∀ h, h ∈ f.sh.hom (f.sh.tgt.getD a 0) y → (0 ≤ h ∧ h < f.sh.src.length) ∧ f.sh.th (a : Int) h ∈ f.sh.hom (f.sh.src.getD a 0) y
theorem SFun.Is.arrow {f : SFun} {y : Int} (hf : f.Is) {a : Nat} (ha : a < f.sh.src.length) : GlA f y a := by
  obtain ⟨l1, l2, l3, l4, l5⟩ := hf.nums
  have q := hf.1.ends ha
  have act := fun e => hf.1.act (a := a) (e := e) (by omega)
  have hz := hf.1.sz (f.sh.src.getD a 0).toNat (by omega)
  refine ⟨q.1, by omega, q.2.2.1, by omega, q.2.2.2.2, hz.2, act, fun h hh => ?_⟩
  obtain ⟨z, z1, z2, z3, rfl⟩ := Cat.mem_hom.1 hh
  have hS := hf.1.c.1
  have hc := (Cat.Cell.pos (f := a) (g := z) z2.symm).1 (hS.cell a (by have := hS.cl; omega) z z1)
  rw [← Cat.th_nat] at hc
  refine ⟨by omega, Cat.mem_hom.2 ⟨(f.sh.th a z).toNat, by omega, hc.2.2.1, ?_, by omega⟩⟩
  rw [hc.2.2.2]; exact z3
def glT (f : SFun) (a e : Nat) (h : Int) : List Int := [f.sh.src.getD a 0, (e : Int), f.sh.th (a : Int) h]
def glU (f : SFun) (a e : Nat) (h : Int) : List Int := [f.sh.tgt.getD a 0, (f.ac.getD a []).getD e 0, h]
theorem SFun.Is.two {f : SFun} {y : Int} (hf : f.Is) {a e : Nat} {h : Int} (ha : a < f.sh.src.length) (hh : h ∈ f.sh.hom (f.sh.tgt.getD a 0) y) (he : e < (f.ac.getD a []).length) : glT f a e h ∈ glE f y ∧ glU f a e h ∈ glE f y := by
  obtain ⟨a0, a1, a2, a3, a4, _, a6, a9⟩ := hf.arrow (y := y) ha
  have h6 := a6 e he
  have n1 : (((f.sh.src.getD a 0).toNat : Nat) : Int) = f.sh.src.getD a 0 := by omega
  have n2 : (((f.sh.tgt.getD a 0).toNat : Nat) : Int) = f.sh.tgt.getD a 0 := by omega
  constructor
  · have := glE_mem (f := f) (y := y) (x := (f.sh.src.getD a 0).toNat) (e := e) (by omega) (by rw [n1]; exact (a9 h hh).2) (by omega)
    rwa [n1] at this
  · have := glE_mem (f := f) (y := y) (x := (f.sh.tgt.getD a 0).toNat) (e := ((f.ac.getD a []).getD e 0).toNat) (by omega) (by rw [n2]; exact hh) (by omega)
    rwa [n2, show ((((f.ac.getD a []).getD e 0).toNat : Nat) : Int) = (f.ac.getD a []).getD e 0 by omega] at this
def elP (f : SFun) (x e : Nat) : List (List Int) := nestL (fun x e => [(x : Int), (e : Int)]) (fun x => (f.sz.getD x 0).toNat) x e
def elE (f : SFun) : List (List Int) := elP f f.sz.length 0
theorem elE_get {f : SFun} {p : Nat} (hp : p < (elE f).length) : ∃ x e : Nat, x < f.sz.length ∧ (e : Int) < f.sz.getD x 0 ∧ (elE f).getD p [] = [(x : Int), (e : Int)] := by
  obtain ⟨x, e, h1, h2, e1⟩ := nestL_mem (getD_mem_list (d := []) hp)
  exact ⟨x, e, h1, by omega, e1⟩
structure Two (b : Nat) (H : GHeap) (a : Option Addr) (r : Nat → Option Addr) (xss : List (List Int)) (a2 : Option Addr) (xs : List Int) : Prop where
  v : IntssR b H a xss r
  w : IntsR b H a2 xs
  nd : (lvBlks (rowsL r xss xss.length ++ [(a2, xs.length)])).Nodup
theorem Two.keep {b b' : Nat} {H H' : GHeap} {a a2 : Option Addr} {r : Nat → Option Addr} {xss : List (List Int)} {xs : List Int} (h : Two b H a r xss a2 xs) (k : Keep b' H H') (hb : b' ≤ b) : Two b' H' a r xss a2 xs := ⟨h.v.keep k hb, h.w.keep k hb, h.nd⟩
theorem Two.nil (b : Nat) (H : GHeap) : Two b H none (fun _ => none) [] none [] := ⟨.nil _ _ _, .inl ⟨rfl, rfl⟩, by simp [lvBlks, lvBlk, rowsL]⟩
end Go.GL
namespace Go.GL
def Prof.coSz (m : Prof) (a : Nat) : Nat := ((m.sz.getD (m.s.tgt.getD a 0).toNat []).getD (m.s.src.getD a 0).toNat 0).toNat
def Prof.coPr (m : Prof) (a t : Nat) : List Int := [sumN m.diag (m.s.src.getD a 0).toNat + ((m.be.getD a []).getD (m.s.src.getD a 0).toNat []).getD t 0, sumN m.diag (m.s.tgt.getD a 0).toNat + ((m.bh.getD a []).getD (m.s.tgt.getD a 0).toNat []).getD t 0]
def Prof.coP (m : Prof) (k t : Nat) : List (Nat × Nat) := nestL (fun a t => (pA (m.coPr a t), pB (m.coPr a t))) m.coSz k t
def Prof.coend (m : Prof) : List Int := joinL (sumN m.diag m.sz.length).toNat (m.coP m.s.src.length 0)
theorem sumN_le {f : Nat → Int} {N : Nat} (h : ∀ i, i < N → 0 ≤ f i) : ∀ {b a : Nat}, a ≤ b → b ≤ N → sumN f a ≤ sumN f b
  | 0, a, hab, _ => by obtain rfl : a = 0 := by omega
                       exact Int.le_refl _
  | b + 1, a, hab, hb => by
    by_cases e : a = b + 1
    · subst e; exact Int.le_refl _
    · have h1 := sumN_le h (b := b) (a := a) (by omega) (by omega)
      have := h b (by omega)
      simp only [sumN]
      omega
theorem Prof.place_lt {m : Prof} (z : m.Sized) (e : m.s = m.t) {x : Nat} {v : Int} (hx : x < m.sz.length) (h0 : 0 ≤ v) (h1 : v < m.diag x) : 0 ≤ sumN m.diag x + v ∧ sumN m.diag x + v < sumN m.diag m.sz.length := by
  have h2 := z.sum e (n := x) (by omega)
  have h3 := sumN_le (f := m.diag) (N := m.sz.length) (fun i hi => (z.diag e hi).2.1) (a := x + 1) (b := m.sz.length) (by omega) (Nat.le_refl _)
  simp only [sumN] at h3
  omega
theorem Prof.Shape.co {m : Prof} (h : m.Shape) (e : m.s = m.t) {a : Nat} (ha : a < m.s.src.length) : a < m.be.length ∧ a < m.bh.length ∧ a < m.s.tgt.length ∧ 0 ≤ m.s.src.getD a 0 ∧ m.s.src.getD a 0 < m.sz.length ∧ 0 ≤ m.s.tgt.getD a 0 ∧ m.s.tgt.getD a 0 < m.sz.length ∧
    (m.s.src.getD a 0).toNat < (m.sz.getD (m.s.tgt.getD a 0).toNat []).length ∧ 0 ≤ (m.sz.getD (m.s.tgt.getD a 0).toNat []).getD (m.s.src.getD a 0).toNat 0 ∧ (m.sz.getD (m.s.tgt.getD a 0).toNat []).getD (m.s.src.getD a 0).toNat 0 ≤ 64 ∧
    (m.s.src.getD a 0).toNat < (m.be.getD a []).length ∧ (m.s.tgt.getD a 0).toNat < (m.bh.getD a []).length ∧
    (((m.be.getD a []).getD (m.s.src.getD a 0).toNat []).length : Int) = (m.sz.getD (m.s.tgt.getD a 0).toNat []).getD (m.s.src.getD a 0).toNat 0 ∧ (((m.bh.getD a []).getD (m.s.tgt.getD a 0).toNat []).length : Int) = (m.sz.getD (m.s.tgt.getD a 0).toNat []).getD (m.s.src.getD a 0).toNat 0 ∧
    (∀ t, t < ((m.be.getD a []).getD (m.s.src.getD a 0).toNat []).length → 0 ≤ ((m.be.getD a []).getD (m.s.src.getD a 0).toNat []).getD t 0 ∧ ((m.be.getD a []).getD (m.s.src.getD a 0).toNat []).getD t 0 < m.diag (m.s.src.getD a 0).toNat) ∧
    (∀ t, t < ((m.bh.getD a []).getD (m.s.tgt.getD a 0).toNat []).length → 0 ≤ ((m.bh.getD a []).getD (m.s.tgt.getD a 0).toNat []).getD t 0 ∧ ((m.bh.getD a []).getD (m.s.tgt.getD a 0).toNat []).getD t 0 < m.diag (m.s.tgt.getD a 0).toNat) := by
  have hbl := h.z.bl
  have hhl := h.z.hl
  have e1 : m.t.src.length = m.s.src.length := by rw [e]
  have q := h.z.b h.s (a := a) (by omega)
  have hsl := h.z.sl
  have hso : m.t.obj = m.s.obj := by rw [e]
  have r1 := h.by (a := a) (y := (m.s.src.getD a 0).toNat) (by omega) (by omega)
  have r2 := h.hx (b := a) (x := (m.s.tgt.getD a 0).toNat) (by omega) (by omega)
  have e2 : m.t.src = m.s.src := by rw [e]
  have e3 : m.t.tgt = m.s.tgt := by rw [e]
  rw [e2, e3] at r2
  exact ⟨by omega, by omega, by omega, by omega, by omega, by omega, by omega, by omega, by omega, by omega, r1.1, r2.1, r1.2.2.2.1, r2.2.2.2.2.1, r1.2.2.2.2.1, r2.2.2.2.2.2.1⟩
theorem Prof.Shape.coPr {m : Prof} (h : m.Shape) (e : m.s = m.t) {a t : Nat} (ha : a < m.s.src.length) (ht : t < m.coSz a) : 2 ≤ (m.coPr a t).length ∧ 0 ≤ (m.coPr a t).getD 0 0 ∧ (m.coPr a t).getD 0 0 < sumN m.diag m.sz.length ∧ 0 ≤ (m.coPr a t).getD 1 0 ∧ (m.coPr a t).getD 1 0 < sumN m.diag m.sz.length := by
  obtain ⟨_, _, _, q4, q5, q6, q7, _, q9, _, _, _, q13, q14, q15, q16⟩ := h.co e ha
  have htt : t < ((m.be.getD a []).getD (m.s.src.getD a 0).toNat []).length := by unfold Prof.coSz at ht; omega
  have htt' : t < ((m.bh.getD a []).getD (m.s.tgt.getD a 0).toNat []).length := by unfold Prof.coSz at ht; omega
  have p1 := Prof.place_lt h.z e (x := (m.s.src.getD a 0).toNat) (by omega) (q15 t htt).1 (q15 t htt).2
  have p2 := Prof.place_lt h.z e (x := (m.s.tgt.getD a 0).toNat) (by omega) (q16 t htt').1 (q16 t htt').2
  exact ⟨Nat.le_refl _, p1.1, p1.2, p2.1, p2.2⟩
end Go.GL
namespace Go.GL
def SFun.szF (f : SFun) (i : Nat) : Int := f.sz.getD i 0
def SFun.offs (f : SFun) (n : Nat) : List Int := (List.range n).map (sumN f.szF)
@[simp] theorem SFun.length_offs (f : SFun) (n : Nat) : (f.offs n).length = n := by simp [SFun.offs]
theorem SFun.Shape.sum {f : SFun} (h : f.Shape) {n : Nat} (hn : n ≤ f.sz.length) : 0 ≤ sumN f.szF n ∧ sumN f.szF n ≤ n * 16 := sumN_bd (N := f.sz.length) (fun i hi => h.sz i hi) hn
end Go.GL
namespace Go.GL
def pick3 {α : Type} (pr : Nat → Nat → Nat → α) (q : Nat → Nat → Nat → Bool) (s1 : Nat → Nat) (s2 : Nat → Nat → Nat) (k t u : Nat) : List α := (nest3 (fun a b c => bif q a b c then [pr a b c] else []) s1 s2 k t u).flatten
section
variable {α : Type} {pr : Nat → Nat → Nat → α} {q : Nat → Nat → Nat → Bool} {s1 : Nat → Nat} {s2 : Nat → Nat → Nat}
end
def colI (A : List (List Int)) (k : Nat) : List Int := A.map fun t => t.getD k 0
@[simp] theorem length_colI (A : List (List Int)) (k : Nat) : (colI A k).length = A.length := by simp [colI]
theorem colI_get {A : List (List Int)} {k i : Nat} (h : i < A.length) : (colI A k).getD i 0 = (A.getD i []).getD k 0 := by unfold colI; rw [getD_map (d := []) h]
theorem colI_take {A : List (List Int)} {k i : Nat} (h : i < A.length) : colI (A.take (i + 1)) k = colI (A.take i) k ++ [(A.getD i []).getD k 0] := take_map_snoc h
def bldC (n : Nat) (A : List (List Int)) (idl : Nat → List Int) (cpl : Nat → Nat → List Int) : Cat where
  obj := n
  src := colI A 0
  tgt := colI A 1
  idn := (List.range n).map fun i => idxLL A (idl i)
  comp := tabL (colI A 0) (colI A 1) (fun a b => idxLL A (cpl a b)) A.length
theorem range_snocI {f : Nat → Int} {i : Nat} : (List.range (i + 1)).map f = (List.range i).map f ++ [f i] := by rw [List.range_succ, List.map_append]; rfl
def tabP (src tgt : List Int) (X : Nat → Nat → Int) (a b : Nat) : List Int := (List.range b).map (tabC src tgt X a)
@[simp] theorem length_tabP (src tgt : List Int) (X : Nat → Nat → Int) (a b : Nat) : (tabP src tgt X a b).length = b := by simp [tabP]
theorem tabP_snoc {src tgt : List Int} {X : Nat → Nat → Int} {a b : Nat} {v : Int} (h : v = tabC src tgt X a b) : tabP src tgt X a (b + 1) = tabP src tgt X a b ++ [v] := by subst h; unfold tabP; rw [List.range_succ, List.map_append]; rfl
def tabF (src tgt : List Int) (X : Nat → Nat → Int) (n a : Nat) : List (List Int) := (List.range a).map fun i => tabP src tgt X i n
@[simp] theorem length_tabF (src tgt : List Int) (X : Nat → Nat → Int) (n a : Nat) : (tabF src tgt X n a).length = a := by simp [tabF]
theorem tabF_snoc {src tgt : List Int} {X : Nat → Nat → Int} {n a : Nat} : tabF src tgt X n (a + 1) = tabF src tgt X n a ++ [tabP src tgt X a n] := by unfold tabF; rw [List.range_succ, List.map_append]; rfl
theorem bldC_small {n : Nat} {A : List (List Int)} {idl : Nat → List Int} {cpl : Nat → Nat → List Int} (hn : n ≤ 1048576) (hA : A.length ≤ 1048576) : (bldC n A idl cpl).Small := by
  refine ⟨by simp [bldC]; omega, by simp [bldC]; omega, by simp [bldC]; omega, by simp [bldC, tabL]; omega, fun i => ?_, by simp [bldC]; omega⟩
  unfold bldC tabL
  by_cases hi : i < A.length
  · simp only [rowsOf_get hi, length_tabR]; omega
  · rw [List.getD_eq_getElem?_getD, List.getElem?_eq_none (by simp; omega)]; simp
abbrev ecO (f : SFun) (i k : Nat) : Int := ((elE f).getD i []).getD k 0
abbrev ecH (f : SFun) (i j : Nat) : List Int := f.sh.hom (ecO f i 0) (ecO f j 0)
def ecP (f : SFun) (i j k : Nat) : List Int := [(i : Int), (j : Int), (ecH f i j).getD k 0]
def ecQ (f : SFun) (i j k : Nat) : Bool := decide ((f.ac.getD ((ecH f i j).getD k 0).toNat []).getD (ecO f i 1).toNat 0 = ecO f j 1)
def ecL (f : SFun) (i j k : Nat) : List (List Int) := pick3 (ecP f) (ecQ f) (fun _ => (elE f).length) (fun i j => (ecH f i j).length) i j k
def ecA (f : SFun) : List (List Int) := ecL f (elE f).length 0 0
structure EcO (f : SFun) (i : Nat) : Prop where
  x0 : 0 ≤ ecO f i 0
  x1 : ecO f i 0 < f.sz.length
  e0 : 0 ≤ ecO f i 1
  e1 : ecO f i 1 < f.sz.getD (ecO f i 0).toNat 0
  i0 : 0 ≤ f.sh.idn.getD (ecO f i 0).toNat 0
  i1 : f.sh.idn.getD (ecO f i 0).toNat 0 < f.sh.src.length
  ix : (ecO f i 0).toNat < f.sh.idn.length
  l2 : ((elE f).getD i []).length = 2
theorem SFun.Is.ecO {f : SFun} (hf : f.Is) {i : Nat} (hi : i < (elE f).length) : EcO f i := by
  obtain ⟨x, e, h1, h2, h3⟩ := elE_get hi
  have hS := hf.1.c.1
  have e1 : Go.GL.ecO f i 0 = x := by unfold Go.GL.ecO; rw [h3]; rfl
  have e2 : Go.GL.ecO f i 1 = e := by unfold Go.GL.ecO; rw [h3]; rfl
  have hz := hf.1.zl
  have hl := hS.il
  have := hS.idn x (by omega)
  exact ⟨by omega, by omega, by omega, by rw [e1, e2]; simpa using h2, by rw [e1]; simpa using this.1, by rw [e1]; simpa using this.2, by omega, by rw [h3]; rfl⟩
structure EcH (f : SFun) (i j k : Nat) : Prop where
  h0 : 0 ≤ (ecH f i j).getD k 0
  h1 : (ecH f i j).getD k 0 < f.ac.length
  e : (ecO f i 1).toNat < (f.ac.getD ((ecH f i j).getD k 0).toNat []).length
theorem SFun.Is.ecH {f : SFun} (hf : f.Is) {i j k : Nat} (hi : i < (elE f).length) (hk : k < (Go.GL.ecH f i j).length) : EcH f i j k := by
  have o := hf.ecO hi
  obtain ⟨z, z1, z2, z3, z4⟩ := Cat.hom_get hk
  obtain ⟨l1, l2, l3, l4, l5⟩ := hf.nums
  have q := (hf.1.ends z1).2.2.2.2
  rw [z2] at q
  have o1 := o.e0
  have o2 := o.e1
  refine ⟨by rw [z4]; omega, by rw [z4]; omega, ?_⟩
  rw [z4, Int.toNat_natCast]
  omega
structure EcA (f : SFun) (a : Nat) : Prop where
  s0 : 0 ≤ ((ecA f).getD a []).getD 0 0
  s1 : ((ecA f).getD a []).getD 0 0 < (elE f).length
  t0 : 0 ≤ ((ecA f).getD a []).getD 1 0
  t1 : ((ecA f).getD a []).getD 1 0 < (elE f).length
  h0 : 0 ≤ ((ecA f).getD a []).getD 2 0
  h1 : ((ecA f).getD a []).getD 2 0 < f.sh.src.length
  l3 : ((ecA f).getD a []).length = 3
theorem Cat.zero_small : Cat.zero.Small := ⟨by simp [Cat.zero], by simp [Cat.zero], by simp [Cat.zero], by simp [Cat.zero], fun i => by simp [Cat.zero], by simp [Cat.zero]⟩
structure Three (b : Nat) (H : GHeap) (c : Cat) (p : CatP) (a : Option Addr) (r : Nat → Option Addr) (xss : List (List Int)) (a2 : Option Addr) (r2 : Nat → Option Addr) (yss : List (List Int)) : Prop where
  v : CatR b H c p
  w : IntssR b H a xss r
  u : IntssR b H a2 yss r2
  dj12 : ∀ g ∈ lvBlks (c.leaves p), ¬ g ∈ lvBlks (rowsL r xss xss.length)
  dj13 : ∀ g ∈ lvBlks (c.leaves p), ¬ g ∈ lvBlks (rowsL r2 yss yss.length)
  dj23 : ∀ g ∈ lvBlks (rowsL r xss xss.length), ¬ g ∈ lvBlks (rowsL r2 yss yss.length)
section
variable {b b' : Nat} {H H' : GHeap} {c : Cat} {p : CatP} {a a2 : Option Addr} {r r2 : Nat → Option Addr} {xss yss : List (List Int)}
theorem Three.keep (h : Three b H c p a r xss a2 r2 yss) (k : Keep b' H H') (hb : b' ≤ b) : Three b' H' c p a r xss a2 r2 yss := ⟨h.v.keep k hb, h.w.keep k hb, h.u.keep k hb, h.dj12, h.dj13, h.dj23⟩
theorem Three.nil (b : Nat) (H : GHeap) : Three b H .zero .zero none (fun _ => none) [] none (fun _ => none) [] := ⟨.zero _ _, .nil _ _ _, .nil _ _ _, fun _ _ h => by simp [lvBlks, rowsL] at h, fun _ _ h => by simp [lvBlks, rowsL] at h, fun _ _ h => by simp [lvBlks, rowsL] at h⟩
end
end Go.GL
namespace Go.GL
end Go.GL
namespace Go.GL
abbrev Fun.ckC (d : Fun) (i : Nat) : Con := (d.coneL d.t.obj.toNat).getD i .z
abbrev Fun.ckN (d : Fun) : Nat := (d.coneL d.t.obj.toNat).length
def Fun.ckM (d : Fun) (i j : Nat) : List Int := d.coneMaps (d.ckC i) (d.ckC j)
def Fun.ckP (d : Fun) (i j k : Nat) : List Int := [(i : Int), (j : Int), (d.ckM i j).getD k 0]
def Fun.ckL (d : Fun) (i j k : Nat) : List (List Int) := nest3 d.ckP (fun _ => d.ckN) (fun i j => (d.ckM i j).length) i j k
def Fun.ckA (d : Fun) : List (List Int) := d.ckL d.ckN 0 0
theorem Fun.ckL_snoc {d : Fun} {i j k : Nat} : d.ckL i j (k + 1) = d.ckL i j k ++ [d.ckP i j k] := nest3_snoc
theorem Fun.ckL_next2 {d : Fun} {i j : Nat} : d.ckL i (j + 1) 0 = d.ckL i j (d.ckM i j).length := nest3_next2
theorem Fun.ckL_next1 {d : Fun} {i : Nat} : d.ckL (i + 1) 0 0 = d.ckL i d.ckN 0 := nest3_next1
theorem Fun.ckM_le {d : Fun} (h : d.Is) (i j : Nat) : (d.ckM i j).length ≤ 40 := by
  have := h.2.1.1.n40
  have := d.coneMaps_len (d.ckC i) (d.ckC j)
  unfold ckM
  omega
theorem Fun.ckL_le {d : Fun} {i j k : Nat} (h : d.Is) (hn : d.ckN ≤ 8) (hi : i < d.ckN) (hj : j < d.ckN) (hk : k ≤ (d.ckM i j).length) : (d.ckL i j k).length ≤ 8 * (8 * 40) :=
  Nat.le_trans (nest3_le (pr := d.ckP) (s1 := fun _ => d.ckN) (s2 := fun i j => (d.ckM i j).length) (c := 40) (d := 8) (n := d.ckN) (fun _ _ => hn) (fun i _ j _ => d.ckM_le h i j) hi hj hk) (Nat.mul_le_mul_right _ hn)
theorem Fun.ckA_le {d : Fun} (h : d.Is) (hn : d.ckN ≤ 8) : d.ckA.length ≤ 8 * (8 * 40) :=
  Nat.le_trans (nest3_all (pr := d.ckP) (s1 := fun _ => d.ckN) (s2 := fun i j => (d.ckM i j).length) (c := 40) (d := 8) (n := d.ckN) (fun _ _ => hn) (fun i _ j _ => d.ckM_le h i j)) (Nat.mul_le_mul_right _ hn)
theorem Fun.ckL_three {d : Fun} {i j k : Nat} : ∀ t ∈ d.ckL i j k, t.length = 3 := by
  intro t ht
  unfold ckL nest3 nestL at ht
  simp only [List.mem_append, List.mem_flatMap, List.mem_map] at ht
  rcases ht with ⟨_, _, (⟨_, _, _, _, rfl⟩ | ⟨_, _, rfl⟩)⟩ | ⟨_, _, _, _, rfl⟩ | ⟨_, _, rfl⟩ <;> rfl
theorem Fun.ckA_row {d : Fun} (i : Nat) : (d.ckA.getD i []).length ≤ 3 := by
  by_cases hi : i < d.ckA.length
  · have : (d.ckA.getD i []).length = 3 := Fun.ckL_three (d := d) (i := d.ckN) (j := 0) (k := 0) _ (getD_mem_list (d := []) hi)
    omega
  · rw [List.getD_eq_getElem?_getD, List.getElem?_eq_none (by omega)]; simp
theorem Fun.ckM_get {d : Fun} {i j k : Nat} (hk : k < (d.ckM i j).length) : 0 ≤ (d.ckM i j).getD k 0 ∧ (d.ckM i j).getD k 0 < d.t.src.length ∧ d.t.src.getD ((d.ckM i j).getD k 0).toNat 0 = (d.ckC i).ap := by
  have hm : (d.ckM i j).getD k 0 ∈ d.ckM i j := getD_mem hk
  obtain ⟨z, z1, z2, z3, z4⟩ := Cat.mem_hom.1 (List.mem_filter.1 hm).1
  rw [z4]
  exact ⟨by omega, by omega, by rw [Int.toNat_natCast]; exact z2⟩
structure CkA (d : Fun) (a : Nat) : Prop where
  s0 : 0 ≤ (d.ckA.getD a []).getD 0 0
  s1 : (d.ckA.getD a []).getD 0 0 < d.ckN
  t0 : 0 ≤ (d.ckA.getD a []).getD 1 0
  t1 : (d.ckA.getD a []).getD 1 0 < d.ckN
  h0 : 0 ≤ (d.ckA.getD a []).getD 2 0
  h1 : (d.ckA.getD a []).getD 2 0 < d.t.src.length
  l3 : (d.ckA.getD a []).length = 3
theorem Fun.ckA_get {d : Fun} {a : Nat} (ha : a < d.ckA.length) : CkA d a := by
  obtain ⟨i, j, k, h1, h2, h3, e⟩ := nest3_mem (getD_mem_list (d := []) ha)
  have := d.ckM_get h3
  have e : d.ckA.getD a [] = d.ckP i j k := e
  exact ⟨by rw [e]; exact Int.natCast_nonneg _, by rw [e]; exact Int.ofNat_lt.2 h1, by rw [e]; exact Int.natCast_nonneg _, by rw [e]; exact Int.ofNat_lt.2 h2, by rw [e]; exact this.1, by rw [e]; exact this.2.1, by rw [e]; rfl⟩
theorem Fun.ckA_nodup {d : Fun} : d.ckA.Nodup := nest3_nodup fun a b t a' b' t' _ _ ht _ _ ht' e => by
  unfold Fun.ckP at e
  simp only [List.cons.injEq, and_true] at e
  obtain ⟨e1, e2, e3⟩ := e
  obtain rfl : a = a' := by omega
  obtain rfl : b = b' := by omega
  exact ⟨rfl, rfl, nodup_getD (List.Pairwise.filter _ (filtN_nodup _ _)) ht ht' e3⟩
def Fun.ckI (d : Fun) (i : Nat) : List Int := [(i : Int), (i : Int), d.t.idn.getD (d.ckC i).ap.toNat 0]
def Fun.ckK (d : Fun) (a b : Nat) : List Int := [(d.ckA.getD a []).getD 0 0, (d.ckA.getD b []).getD 1 0, d.t.th ((d.ckA.getD a []).getD 2 0) ((d.ckA.getD b []).getD 2 0)]
theorem Fun.ckCone {d : Fun} (h : d.Is) {i : Nat} (hi : i < d.ckN) : d.Cone (d.ckC i) := Fun.coneL_cone h (by have := h.2.1.1.obj; omega) _ (getD_mem_list hi)
theorem Fun.ckI_maps {d : Fun} (h : d.Is) {i : Nat} (hi : i < d.ckN) : d.t.idn.getD (d.ckC i).ap.toNat 0 ∈ d.ckM i i := by
  have hc := d.ckCone h hi
  have hS := h.2.1.1
  have hap := hc.ap
  have q1 := hS.idn_lt hap.1 hap.2
  have hx : (d.ckC i).ap.toNat < d.t.idn.length := by have := hS.il; omega
  have q2 := hS.ids _ hx
  refine List.mem_filter.2 ⟨Cat.mem_hom.2 ⟨(d.t.idn.getD (d.ckC i).ap.toNat 0).toNat, by omega, by rw [q2.1]; omega, by rw [q2.2]; omega, by omega⟩, ?_⟩
  unfold Fun.coneFit
  rw [allN_iff]
  intro j hj
  have l1 := hc.lg j hj
  have l2 := hc.ends j hj
  have l3 := (h.2.1.2.ids ((d.ckC i).lg.getD j 0).toNat (by omega)).1
  rw [l2.1, Int.toNat_of_nonneg l1.1] at l3
  simpa using l3
theorem Fun.ckI_mem {d : Fun} (h : d.Is) {i : Nat} (hi : i < d.ckN) : d.ckI i ∈ d.ckA := by
  obtain ⟨k, hk, e⟩ := List.getElem_of_mem (d.ckI_maps h hi)
  have e2 : (d.ckM i i).getD k 0 = d.t.idn.getD (d.ckC i).ap.toNat 0 := by rw [List.getD_eq_getElem?_getD, List.getElem?_eq_getElem hk, e]; rfl
  have := mem_nest3 (pr := d.ckP) (s1 := fun _ => d.ckN) (s2 := fun i j => (d.ckM i j).length) hi hi hk
  unfold Fun.ckP at this
  rw [e2] at this
  exact this
def Fun.ckT (d : Fun) (T : List (List Int)) : List Int := (List.range d.ckN).map fun x => if T.contains (d.ckI x) then idxLL d.ckA (d.ckI x) else 0
@[simp] theorem Fun.length_ckT (d : Fun) (T : List (List Int)) : (d.ckT T).length = d.ckN := by simp [ckT]
theorem Fun.ckT_nil (d : Fun) : d.ckT [] = List.replicate d.ckN 0 := by
  apply List.ext_getElem (by simp [ckT])
  intro i h1 h2
  simp [ckT]
theorem Fun.ckT_all {d : Fun} (h : d.Is) : d.ckT d.ckA = (List.range d.ckN).map fun x => idxLL d.ckA (d.ckI x) := by
  unfold ckT
  refine List.map_congr_left fun x hx => ?_
  rw [if_pos (List.contains_iff_mem.2 (d.ckI_mem h (List.mem_range.1 hx)))]
theorem Fun.ckT_F {d : Fun} {i j k : Nat} (h : ¬ (i = j ∧ d.t.idn.getD (d.ckC i).ap.toNat 0 = (d.ckM i j).getD k 0)) : d.ckT (d.ckL i j (k + 1)) = d.ckT (d.ckL i j k) := by
  unfold ckT
  refine List.map_congr_left fun x hx => ?_
  have e : (d.ckL i j (k + 1)).contains (d.ckI x) = (d.ckL i j k).contains (d.ckI x) := by
    rw [ckL_snoc, List.contains_eq_mem, List.contains_eq_mem, decide_eq_decide, List.mem_append, List.mem_singleton]
    refine ⟨fun hh => hh.resolve_right fun e => ?_, .inl⟩
    unfold ckI ckP at e
    simp only [List.cons.injEq, and_true] at e
    obtain ⟨e1, e2, e3⟩ := e
    obtain rfl : x = i := by omega
    obtain rfl : x = j := by omega
    exact h ⟨rfl, e3⟩
  rw [e]
theorem Fun.ckT_T {d : Fun} {i k : Nat} (hi : i < d.ckN) (hk : k < (d.ckM i i).length) (h : d.t.idn.getD (d.ckC i).ap.toNat 0 = (d.ckM i i).getD k 0) : d.ckT (d.ckL i i (k + 1)) = (d.ckT (d.ckL i i k)).set i ((d.ckL i i k).length : Int) := by
  have hP : d.ckP i i k = d.ckI i := by unfold ckP ckI; rw [h]
  have hat := nest3_at (pr := d.ckP) (s1 := fun _ => d.ckN) (s2 := fun i j => (d.ckM i j).length) (n := d.ckN) (d := []) hi hi hk
  have hix : idxLL d.ckA (d.ckI i) = ((d.ckL i i k).length : Int) := by
    have := idxLL_at d.ckA_nodup (i := (d.ckL i i k).length) hat.1
    rwa [show d.ckA.getD (d.ckL i i k).length [] = d.ckI i from hat.2.trans hP] at this
  apply List.ext_getElem (by simp [ckT])
  intro x h1 h2
  simp only [List.getElem_set]
  simp only [ckT, List.getElem_map, List.getElem_range]
  rw [ckL_snoc, hP]
  by_cases e : i = x
  · subst e
    rw [if_pos rfl, if_pos (List.contains_iff_mem.2 (by simp)), hix]
  · rw [if_neg e]
    have e2 : (d.ckL i i k ++ [d.ckI i]).contains (d.ckI x) = (d.ckL i i k).contains (d.ckI x) := by
      rw [List.contains_eq_mem, List.contains_eq_mem, decide_eq_decide, List.mem_append, List.mem_singleton]
      refine ⟨fun hh => hh.resolve_right fun e3 => ?_, .inl⟩
      unfold ckI at e3
      simp only [List.cons.injEq, and_true] at e3
      omega
    rw [e2]
def Fun.ckQ (d : Fun) : Cat := bldC d.ckN d.ckA d.ckI d.ckK
def Fun.ckRw (d : Fun) (a b : Nat) : List Int := tabP (colI d.ckA 0) (colI d.ckA 1) (fun a b => idxLL d.ckA (d.ckK a b)) a b
def Fun.ckTb (d : Fun) (a : Nat) : List (List Int) := tabF (colI d.ckA 0) (colI d.ckA 1) (fun a b => idxLL d.ckA (d.ckK a b)) d.ckA.length a
theorem Fun.length_ckRw (d : Fun) (a b : Nat) : (d.ckRw a b).length = b := length_tabP _ _ _ _ _
theorem Fun.length_ckTb (d : Fun) (a : Nat) : (d.ckTb a).length = a := length_tabF _ _ _ _ _
theorem Fun.ckTb_snoc {d : Fun} {a : Nat} : d.ckTb (a + 1) = d.ckTb a ++ [d.ckRw a d.ckA.length] := tabF_snoc
theorem Fun.ckRw_T {d : Fun} {a b : Nat} (ha : a < d.ckA.length) (hb : b < d.ckA.length) (h : (d.ckA.getD a []).getD 1 0 = (d.ckA.getD b []).getD 0 0) : d.ckRw a (b + 1) = d.ckRw a b ++ [idxLL d.ckA (d.ckK a b)] := tabP_snoc (tabC_T (src := colI d.ckA 0) (tgt := colI d.ckA 1) (X := fun a b => idxLL d.ckA (d.ckK a b)) (i := a) (j := b) (by rw [colI_get ha, colI_get hb]; exact h)).symm
theorem Fun.ckRw_F {d : Fun} {a b : Nat} (ha : a < d.ckA.length) (hb : b < d.ckA.length) (h : ¬ (d.ckA.getD a []).getD 1 0 = (d.ckA.getD b []).getD 0 0) : d.ckRw a (b + 1) = d.ckRw a b ++ [-1] := tabP_snoc (tabC_F (src := colI d.ckA 0) (tgt := colI d.ckA 1) (X := fun a b => idxLL d.ckA (d.ckK a b)) (i := a) (j := b) (by rw [colI_get ha, colI_get hb]; exact h)).symm
def Fun.ckOk (d : Fun) : Prop := d.Is ∧ d.ckN ≤ 8 ∧ d.ckA.length ≤ 40
noncomputable def Fun.ckR (d : Fun) : Cat := bif B d.ckOk then d.ckQ else .zero
noncomputable def Fun.ckE (d : Fun) : Int := bif B d.Is then (bif B d.ckOk then 0 else 3) else 1
theorem Fun.ck_1 {d : Fun} (h : ¬ d.Is) : d.ckR = .zero ∧ d.ckE = 1 := by unfold ckR ckE; rw [B_false (p := d.ckOk) fun hh => h hh.1, B_false h]; exact ⟨rfl, rfl⟩
theorem Fun.ck_3 {d : Fun} (h : d.Is) (h' : ¬ (d.ckN ≤ 8 ∧ d.ckA.length ≤ 40)) : d.ckR = .zero ∧ d.ckE = 3 := by unfold ckR ckE; rw [B_false (p := d.ckOk) fun hh => h' hh.2, B_true h]; exact ⟨rfl, rfl⟩
theorem Fun.ck_0 {d : Fun} (h : d.Is) (h1 : d.ckN ≤ 8) (h2 : d.ckA.length ≤ 40) : d.ckR = d.ckQ ∧ d.ckE = 0 := by unfold ckR ckE; rw [B_true (p := d.ckOk) ⟨h, h1, h2⟩, B_true h]; exact ⟨rfl, rfl⟩
theorem Fun.ck_small (d : Fun) : d.ckR.Small := by
  by_cases h : d.ckOk
  · rw [(Fun.ck_0 h.1 h.2.1 h.2.2).1]
    have h1 := h.2.1
    have h2 := h.2.2
    exact bldC_small (by omega) (by omega)
  · unfold Fun.ckR
    rw [B_false h]
    exact Cat.zero_small
theorem getD3 {t : List Int} (h : t.length = 3) : t = [t.getD 0 0, t.getD 1 0, t.getD 2 0] := by
  match t, h with
  | [a, b, c], _ => rfl
end Go.GL
namespace Go.Proofs.Ytagkeabmdodfiaa
open Go Go.GL Go.RowKit Go.Proofs
theorem ag_98_Ek : aggT Try.prog 98 = some 2 := by kernel_rfl
theorem l09Column_c {a : Option Addr} {xss : List (List Int)} {r : Nat → Option Addr} {k : Nat} {H : GHeap} (h : Intss H a xss r := by assumption) (hk : ∀ i, i < xss.length → k < (xss.getD i []).length) (hl : xss.length ≤ 1048576 := by omega) (hl2 : ∀ i, i < xss.length → (xss.getD i []).length ≤ 1048576) :
    GCalls Try.prog 54 [.slice a xss.length xss.length, .int .i64 (k : Int)] H (NewInts 2 H (colI xss k)) := by
  refine GCalls.body (N := 25) (rs := [.tmp 4]) Try.func54 rfl rfl rfl rfl (fun Qx hret hend => ?_)
  refine .forget (fr' := [(0, some _), (1, some _)]) ⟨rfl, rfl, trivial⟩ ?_
  have hle := GHeap.Le.refl H
  have base_h := h
  refine .seq (fun K1 hK1 => .region (.mv rfl (.nil (hK1 _ _ (.seq (fun K2 hK2 => .region ?_))))))
  refine .r rfl rfl rfl (.litR rfl sl_22_A ze_2_E rfl rfl (by omega) (by omega) rfl rfl) ?_
  rintro _ H7 ⟨g7, rfl, le7, ge7, at7⟩
  replace hle := hle.trans le7
  have lt_at7 := GHeap.ltg at7
  replace at7 : GHeap.get H7 g7 = some (.row (ints []) 2 true) := at7
  refine .mv rfl (.nil (hK2 _ _ (.seq (fun K3 hK3 => .seq (fun K4 hK4 => .region (.mv rfl (.nil (hK4 _ _ ?_))))))))
  refine .block ?_
  refine .loopR (σ := Nat × Nat × Nat) [(0, some _), (1, some _)] (fun (i, gL5, nL5) => [(6, some (.int .i64 (i : Int))), (5, some (.slice (some ⟨gL5, 0, none⟩) nL5 nL5))]) (fun (i, gL5, nL5) H' => St [g7] H7 H' ∧ H'.get gL5 = some (.row (ints (colI (xss.take i) k)) 2 true) ∧ (gL5 = g7 ∨ H7.next ≤ gL5) ∧ nL5 = (colI (xss.take i) k).length ∧ i ≤ xss.length) (fun (i, gL5, nL5) => xss.length - i) ((0, _, _)) ⟨rfl, rfl, trivial⟩ ⟨rfl, rfl, trivial⟩ ?_ ?_
  ·
   refine ⟨.refl _ _, by assumption, .inl rfl, by rfl, ?_⟩
   omega
  rintro ⟨i, gL5, nL5⟩ HL1 ⟨lst1, at_L5, pl_L5, ln_L5, hI⟩ KL1 hKL1
  refine .forget (fr' := [(6, some (.int .i64 (i : Int))), (5, some (.slice (some ⟨gL5, 0, none⟩) nL5 nL5)), (0, some _), (1, some _)]) ⟨rfl, rfl, rfl, rfl, trivial⟩ ?_
  have ge_L5 : H.next ≤ gL5 := by omega
  have nx_HL1 := lst1.nx
  replace hle := hle.st lst1 (fun k hk => ⟨by omega, trivial⟩)
  replace h := base_h.mono hle
  have hfl : (colI (xss.take i) k).length = i := by rw [length_colI, List.length_take]; omega
  refine .seq (fun K5 hK5 => .seq (fun K6 hK6 => .region (.mv rfl (.mv rfl (.m rfl rfl rfl (.len sl_23_B rfl) (.m rfl rfl rfl (.cmp rfl rfl rfl) (.nil (hK6 _ _ ?_))))))))
  refine .cond rfl (fun h11 => ?_) (fun h11 => ?_)
  ·
   simp only [sps] at h11
   have q1 := hk i (by omega)
   have u1 := h.2 i (by omega)
   refine .skip ?_
   refine hK5 _ _ (.seq (fun K7 hK7 => ?_))
   refine .block ?_
   refine .region (.mv rfl (.mv rfl (.mv rfl ?_)))
   refine .m rfl rfl rfl (.idxN sl_23_B (Intss.sl (by assumption)) rfl rfl (by omega)) ?_
   refine .m rfl rfl rfl (.loadR on_22_B (by assumption) rfl (by omega)) ?_
   refine .mv rfl ?_
   refine .m rfl rfl rfl (.idxN sl_22_A (by assumption) rfl rfl (by omega)) ?_
   refine .m rfl rfl rfl (.loadI on_2_A (by assumption) rfl (by omega)) ?_
   refine .r rfl rfl rfl (.litR rfl sl_22_A ze_2_E rfl rfl (by omega) (by omega) rfl rfl) ?_
   rintro _ H22 ⟨g22, rfl, le22, ge22, at22⟩
   replace lst1 := lst1.le le22
   replace at_L5 := le22.2 _ _ at_L5
   have lt_at22 := GHeap.ltg at22
   clear u1
   refine .r rfl rfl rfl (.appendI rfl sl_22_A ze_2_E rfl by_2_E sl_22_A rfl rfl (by assumption) (by assumption) (by first | omega | (simp <;> omega)) (by omega) (by omega)) ?_
   rintro _ H23 ⟨g23, rfl, st23, ge23, at23⟩
   replace lst1 := lst1.st st23 (fun k hk ho => by simp only [out, and_true] at ho ⊢ <;> first | exact ho | exact ho.1 | exact ho.2 | exact ho.2.1 | exact ho.2.2 | exact ho.2.2.1 | exact ho.2.2.2 | omega)
   refine .mv rfl (.nil (hK7 _ _ (.region (.mv rfl ?_))))
   refine .m rfl rfl rfl (.add rfl rfl rfl (by omega) (by omega)) ?_
   refine .mv rfl (.nil ?_)
   refine hKL1 ((i + 1, _, _)) _ _ ?_ ?_ ⟨rfl, rfl, rfl, rfl, trivial⟩
   ·
    refine ⟨lst1, by (rw [colI_take (by omega)]; assumption), by omega, by (rw [colI_take (by omega)] <;> (first | omega | (simp only [List.length_append, List.length_cons, List.length_nil] <;> omega))), ?_⟩
    omega
   (dsimp only; omega)
  try simp only [sps] at h11
  refine .exit ?_
  refine hK3 _ _ (.seq (fun K8 hK8 => .region (.mv rfl (.mv rfl (.nil (hK8 _ _ ?_))))))
  refine .ret ?_
  refine hret _ _ ?_
  refine ⟨_, rfl, ?_⟩
  obtain rfl : i = xss.length := by omega
  rw [List.take_length] at at_L5 ln_L5
  exact ⟨hle, _, by rw [ln_L5], at_L5, by omega⟩
def CkNew (H : GHeap) (d : Fun) (v : Value) (H' : GHeap) : Prop := H.Le H' ∧ ∃ q, v = .tuple #[.agg (d.ckR.cells q).toArray, .int .i64 d.ckE] ∧ CatR H.next H' d.ckR q
set_option maxHeartbeats 16000000 in
theorem specConeCategory0_c {d : Fun} {p : FunP} {H : GHeap} (hin : d.In H p := by assumption) (hs : d.Small := by assumption) (hb : (d.coneL d.t.obj.toNat).length ≤ 400) :
    GCalls Try.prog 28 [.agg (d.cells p).toArray] H (CkNew H d) := by
  have hN : d.ckN = (d.coneL d.t.obj.toNat).length := rfl
  refine GCalls.body (N := 179) (rs := [.cell 2 31, .tmp 3]) Try.func28 rfl rfl rfl rfl (fun Qx hret hend => ?_)
  refine .forget (fr' := [(0, some _)]) ⟨rfl, trivial⟩ ?_
  have hle := GHeap.Le.refl H
  have base_hin := hin
  refine .seq (fun K1 hK1 => .region ?_)
  refine .r rfl rfl rfl (.boxR rfl sz_33_E rfl) ?_
  rintro _ H1 ⟨g1, rfl, le1, ge1, at1⟩
  replace hle := hle.trans le1
  have lt_at1 := GHeap.ltg at1
  replace hin := base_hin.mono hle
  have hb1 : Fun.At _ g1 0 d p := ⟨Mem.of_get at1, hin⟩
  refine .r rfl rfl rfl (.allocR rfl ze_31_E rfl) ?_
  rintro _ H2 ⟨g2, rfl, le2, ge2, at2⟩
  replace hle := hle.trans le2
  replace at1 := le2.2 _ _ at1
  have lt_at2 := GHeap.ltg at2
  replace hin := base_hin.mono hle
  clear hb1
  have hb1 : Fun.At _ g1 0 d p := ⟨Mem.of_get at1, hin⟩
  have hi1 := hb1.2
  refine .mv rfl (.nil (hK1 _ _ (.seq (fun K2 hK2 => .seq (fun K3 hK3 => .region ?_)))))
  refine .m rfl rfl rfl (.loadM ag_33_E rfl ⟨rfl, Mem.of_get at1⟩) ?_
  refine .callQ rfl rfl rfl rfl @Try.call51 rfl (l06Is_c) ?_
  refine .m rfl rfl rfl (.not rfl) (.nil (hK3 _ _ ?_))
  refine .cond rfl (fun h19 => ?_) (fun h19 => ?_)
  ·
   simp only [sps] at h19
   refine .seq (fun K4 hK4 => .region (.m rfl rfl rfl (.build bt_31_Hj rfl rfl rfl) ?_))
   refine .r0 rfl rfl (.fillR rfl sz_31_D rfl rfl rfl rfl (by assumption) (by first | rfl | exact Nat.le_of_ble_eq_true rfl | simp)) ?_
   rintro _ H2001 ⟨rfl, st2001, at2001⟩
   replace hle := hle.st st2001 (fun k hk => ⟨by omega, trivial⟩)
   have ne_g1_g2 : NE g1 g2 := ⟨by first | assumption | omega⟩
   replace at1 := st2001.same _ _ ⟨ne_g1_g2.ne, trivial⟩ at1
   replace hin := base_hin.mono hle
   clear hb1 hi1
   have hb1 : Fun.At _ g1 0 d p := ⟨Mem.of_get at1, hin⟩
   refine .mv rfl (.nil (hK4 _ _ ?_))
   refine .ret ?_
   refine hret _ _ ?_
   refine ⟨_, _, _, _, _, rfl, ag_31_D, (by rfl), (Mem.of_get at2001), rfl, ?_⟩
   obtain ⟨e1, e2⟩ := Fun.ck_1 h19
   unfold CkNew
   rw [e1, e2]
   exact ⟨hle, .zero, rfl, .zero _ _⟩
  simp only [sps] at h19
  have hI0 := h19
  have hS := h19.2.1.1
  obtain ⟨-, -, -, -, -, b6, -, -, -, -, -⟩ := id hS
  refine .skip ?_
  refine hK2 _ _ (.seq (fun K5 hK5 => .region ?_))
  refine .m rfl rfl rfl (.loadM ag_33_E rfl ⟨rfl, Mem.of_get at1⟩) ?_
  refine .call rfl rfl rfl rfl @Try.call52 rfl (l12List0_c (hin := by assumption) (hs := hs) (hI := h19) (hb := hb)) ?_
  rintro _ H23 ⟨le23, g23, r23, rfl, v23⟩
  have nx_H23 := le23.1
  replace hle := hle.trans le23
  replace at1 := le23.2 _ _ at1
  replace at2 := le23.2 _ _ at2
  have bs_v23 := v23
  have lv_v23 : Keep H2.next H23 H23 := fun _ _ _ h => h
  replace hin := base_hin.mono hle
  have hb1 : Fun.At _ g1 0 d p := ⟨Mem.of_get at1, hin⟩
  refine .mv rfl (.m rfl rfl rfl (.extract rfl rfl) (.m rfl rfl rfl (.extract rfl rfl) (.mv rfl (.mv rfl (.nil (hK5 _ _ (.seq (fun K6 hK6 => .seq (fun K7 hK7 => .region (.mv rfl (.m rfl rfl rfl (.cmp rfl rfl rfl) (.nil (hK7 _ _ ?_)))))))))))))
  refine .cond rfl (fun h27 => ?_) (fun h27 => ?_)
  ·
   exact absurd h27 (by decide)
  try simp only [sps] at h27
  refine .skip ?_
  refine hK6 _ _ (.seq (fun K8 hK8 => .seq (fun K9 hK9 => .region (.mv rfl (.m rfl rfl rfl (.len sl_93_Hk rfl) (.m rfl rfl rfl (.cmp rfl rfl rfl) (.nil (hK9 _ _ ?_))))))))
  refine .cond rfl (fun h32 => ?_) (fun h32 => ?_)
  ·
   simp only [sps] at h32
   refine .seq (fun K10 hK10 => .region (.m rfl rfl rfl (.build bt_31_Hj rfl rfl rfl) ?_))
   refine .r0 rfl rfl (.fillR rfl sz_31_D rfl rfl rfl rfl (by assumption) (by first | rfl | exact Nat.le_of_ble_eq_true rfl | simp)) ?_
   rintro _ H7001 ⟨rfl, st7001, at7001⟩
   replace hle := hle.st st7001 (fun k hk => ⟨by omega, trivial⟩)
   have ne_g1_g2 : NE g1 g2 := ⟨by first | assumption | omega⟩
   replace at1 := st7001.same _ _ ⟨ne_g1_g2.ne, trivial⟩ at1
   replace hin := base_hin.mono hle
   clear hb1
   have hb1 : Fun.At _ g1 0 d p := ⟨Mem.of_get at1, hin⟩
   refine .mv rfl (.nil (hK10 _ _ ?_))
   refine .ret ?_
   refine hret _ _ ?_
   refine ⟨_, _, _, _, _, rfl, ag_31_D, (by rfl), (Mem.of_get at7001), rfl, ?_⟩
   obtain ⟨e1, e2⟩ := Fun.ck_3 h19 (fun h => by have := h.1; omega)
   unfold CkNew
   rw [e1, e2]
   exact ⟨hle, .zero, rfl, .zero _ _⟩
  simp only [sps] at h32
  have hn8 : d.ckN ≤ 8 := by omega
  refine .skip ?_
  refine hK8 _ _ (.seq (fun K11 hK11 => .region ?_))
  refine .r rfl rfl rfl (.litR rfl sl_23_B ze_22_E rfl rfl (by omega) (by omega) rfl rfl) ?_
  rintro _ H34 ⟨g34, rfl, le34, ge34, at34⟩
  have nx_H34 := le34.1
  replace hle := hle.trans le34
  replace at1 := le34.2 _ _ at1
  replace at2 := le34.2 _ _ at2
  replace lv_v23 := Keep.le lv_v23 le34
  have lt_at34 := GHeap.ltg at34
  replace hin := base_hin.mono hle
  have hb1 : Fun.At _ g1 0 d p := ⟨Mem.of_get at1, hin⟩
  refine .mv rfl (.nil (hK11 _ _ (.seq (fun K12 hK12 => .seq (fun K13 hK13 => .region (.mv rfl (.nil (hK13 _ _ ?_))))))))
  refine .block ?_
  refine .loopR (σ := Nat × (Nat → Option Addr) × Nat × Nat) [(1, some _), (2, some _), (4, some _)] (fun (i, ra, gL6, nL6) => [(7, some (.int .i64 (i : Int))), (6, some (.slice (some ⟨gL6, 0, none⟩) nL6 nL6))]) (fun (i, ra, gL6, nL6) H' => St [g34] H34 H' ∧ H'.get gL6 = some (.row ((slsL ra (d.ckL i 0 0))) 22 true) ∧ PL gL6 g34 H34.next ∧ nL6 = (slsL ra (d.ckL i 0 0)).length ∧ i ≤ (d.coneL d.t.obj.toNat).length ∧ OwnL H23.next H' 2 ra (d.ckL i 0 0)) (fun (i, ra, gL6, nL6) => (d.coneL d.t.obj.toNat).length - i) ((0, fun _ => none, _, _)) ⟨rfl, rfl, rfl, trivial⟩ ⟨rfl, rfl, trivial⟩ ?_ ?_
  ·
   refine ⟨.refl _ _, by assumption, ⟨.inl rfl⟩, by rfl, ?_⟩
   exact ⟨by omega, .nil _ _ _ _⟩
  rintro ⟨i, ra, gL6, nL6⟩ HL1 ⟨lst1, at_L6, pl_L6, ln_L6, hI⟩ KL1 hKL1
  refine .forget (fr' := [(7, some (.int .i64 (i : Int))), (6, some (.slice (some ⟨gL6, 0, none⟩) nL6 nL6)), (1, some _), (2, some _), (4, some _)]) ⟨rfl, rfl, rfl, rfl, rfl, trivial⟩ ?_
  have ge_L6 : H.next ≤ gL6 := pl_L6.ge (by omega) (by omega)
  have nx_HL1 := lst1.nx
  replace hle := hle.st lst1 (fun k hk => ⟨by omega, trivial⟩)
  have ne_g1_g34 : NE g1 g34 := ⟨by first | assumption | omega⟩
  replace at1 := lst1.same _ _ ⟨ne_g1_g34.ne, trivial⟩ at1
  replace at2 := lst1.same _ _ ⟨(by first | assumption | omega), trivial⟩ at2
  replace lv_v23 := Keep.st lv_v23 lst1 (fun k hb hk => ⟨(by omega), trivial⟩)
  replace hin := base_hin.mono hle
  clear hb1
  have hb1 : Fun.At _ g1 0 d p := ⟨Mem.of_get at1, hin⟩
  obtain ⟨hi2, hR⟩ := hI
  refine .seq (fun K14 hK14 => .seq (fun K15 hK15 => .region (.mv rfl (.mv rfl (.m rfl rfl rfl (.len sl_93_Hk rfl) (.m rfl rfl rfl (.cmp rfl rfl rfl) (.nil (hK15 _ _ ?_))))))))
  refine .cond rfl (fun h38 => ?_) (fun h38 => ?_)
  ·
   simp only [sps] at h38
   refine .skip ?_
   refine hK14 _ _ (.seq (fun K16 hK16 => ?_))
   refine .block ?_
   refine .seq (fun K17 hK17 => .region (.mv rfl (.nil (hK17 _ _ ?_))))
   refine .block ?_
   refine .loopR (σ := Nat × (Nat → Option Addr) × Nat × Nat) [(1, some _), (2, some _), (4, some _), (7, some _)] (fun (j, ra2, gL6v2, nL6v2) => [(8, some (.int .i64 (j : Int))), (6, some (.slice (some ⟨gL6v2, 0, none⟩) nL6v2 nL6v2))]) (fun (j, ra2, gL6v2, nL6v2) H' => St [gL6] HL1 H' ∧ H'.get gL6v2 = some (.row ((slsL ra2 (d.ckL i j 0))) 22 true) ∧ PL gL6v2 gL6 HL1.next ∧ nL6v2 = (slsL ra2 (d.ckL i j 0)).length ∧ j ≤ (d.coneL d.t.obj.toNat).length ∧ OwnL H23.next H' 2 ra2 (d.ckL i j 0)) (fun (j, ra2, gL6v2, nL6v2) => (d.coneL d.t.obj.toNat).length - j) ((0, ra, _, _)) ⟨rfl, rfl, rfl, rfl, trivial⟩ ⟨rfl, rfl, trivial⟩ ?_ ?_
   ·
    refine ⟨.refl _ _, by assumption, ⟨.inl rfl⟩, by assumption, ?_⟩
    exact ⟨by omega, hR⟩
   rintro ⟨j, ra2, gL6v2, nL6v2⟩ HL2 ⟨lst2, at_L6v2, pl_L6v2, ln_L6v2, hI⟩ KL2 hKL2
   refine .forget (fr' := [(8, some (.int .i64 (j : Int))), (6, some (.slice (some ⟨gL6v2, 0, none⟩) nL6v2 nL6v2)), (1, some _), (2, some _), (4, some _), (7, some _)]) ⟨rfl, rfl, rfl, rfl, rfl, rfl, trivial⟩ ?_
   have ge_L6v2 : H.next ≤ gL6v2 := pl_L6v2.ge (by omega) (by omega)
   have nx_HL2 := lst2.nx
   replace hle := hle.st lst2 (fun k hk => ⟨by omega, trivial⟩)
   replace lst1 := lst1.st lst2 (fun k hk ho => by simp only [out, and_true] at ho ⊢ <;> first | exact ho | exact ho.1 | exact ho.2 | exact ho.2.1 | exact ho.2.2 | exact ho.2.2.1 | exact ho.2.2.2 | exact pl_L6.ne (by first | exact ho | exact ho.1 | exact ho.2 | exact ho.2.1 | exact ho.2.2 | exact ho.2.2.1 | exact ho.2.2.2 | omega) (by omega) | omega)
   have ne_g1_gL6 : NE g1 gL6 := ⟨pl_L6.ne ne_g1_g34.ne (by omega)⟩
   replace at1 := lst2.same _ _ ⟨ne_g1_gL6.ne, trivial⟩ at1
   replace lv_v23 := Keep.st lv_v23 lst2 (fun k hb hk => ⟨(by first | exact pl_L6.ne (by omega) (by omega) | omega), trivial⟩)
   replace v23 := bs_v23.keep lv_v23 (Nat.le_refl _)
   have lt_at_L6v2 := GHeap.ltg at_L6v2
   replace hin := base_hin.mono hle
   clear hb1
   have hb1 : Fun.At _ g1 0 d p := ⟨Mem.of_get at1, hin⟩
   have hi1 := hb1.2
   have sl23 := v23.sl
   have hm1 := v23.mem i (by omega)
   have hin1 := v23.inn i (by omega)
   obtain ⟨hj2, hR⟩ := hI
   refine .seq (fun K18 hK18 => .seq (fun K19 hK19 => .region (.mv rfl (.mv rfl (.m rfl rfl rfl (.len sl_93_Hk rfl) (.m rfl rfl rfl (.cmp rfl rfl rfl) (.nil (hK19 _ _ ?_))))))))
   refine .cond rfl (fun h44 => ?_) (fun h44 => ?_)
   ·
    simp only [sps] at h44
    have hMM : (d.ckM i j).length = (d.coneMaps (d.ckC i) (d.ckC j)).length := rfl
    have hM40 := d.ckM_le hI0 i j
    have hm2 := v23.mem j (by omega)
    have hin2 := v23.inn j (by omega)
    refine .skip ?_
    refine hK18 _ _ (.seq (fun K20 hK20 => ?_))
    refine .block ?_
    refine .seq (fun K21 hK21 => ?_)
    refine .regionD mo_B (.q 0 (.q 1 (.q 2 (.q 3 (.q 4 (.q 5 (.q 6 (.q 7 (.q 8 (.c 9 0 (.q 10 (.done)))))))))))) (by kernel_rfl) ?_
    refine .m rfl rfl rfl rfl (.refl _) (.loadM ag_33_E rfl ⟨rfl, Mem.of_get at1⟩) ?_
    refine .mv rfl rfl (.mv rfl rfl ?_)
    refine .m rfl rfl rfl rfl (.refl _) (.idx sl_93_Hk (by assumption) (by omega) rfl rfl (by omega) (by omega) rfl) ?_
    refine .m rfl rfl rfl rfl (.refl _) (.loadM ag_98_Ek rfl (by assumption)) ?_
    refine .mv rfl rfl (.mv rfl rfl ?_)
    refine .m rfl rfl rfl rfl (.refl _) (.idx sl_93_Hk (by assumption) (by omega) rfl rfl (by omega) (by omega) rfl) ?_
    refine .m rfl rfl rfl rfl (.refl _) (.loadM ag_98_Ek rfl (by assumption)) ?_
    refine .call0 rfl rfl rfl rfl rfl @Try.call53 rfl (l12Maps_c (m := d.ckC i) (m' := d.ckC j) (by assumption) hin1 hin2 hI0 (d.ckCone hI0 (by omega)) (d.ckCone hI0 (by omega))) ?_
    rintro _ H56 ⟨le56, g56, rfl, at56, ge56⟩
    have nx_H56 := le56.1
    replace hle := hle.trans le56
    replace lst2 := lst2.le le56
    replace at1 := le56.2 _ _ at1
    replace at_L6v2 := le56.2 _ _ at_L6v2
    have lt_at56 := GHeap.ltg at56
    replace hin := base_hin.mono hle
    clear hb1 hm1 hi1
    have hb1 : Fun.At _ g1 0 d p := ⟨Mem.of_get at1, hin⟩
    clear sl23
    clear hin1
    clear hm2 hin2
    refine .mv rfl rfl ?_
    refine .done ?_
    refine hK21 _ _ (.seq (fun K22 hK22 => .region (.mv rfl (.nil (hK22 _ _ ?_)))))
    refine .block ?_
    refine .loopR (σ := Nat × (Nat → Option Addr) × Nat × Nat) [(1, some _), (2, some _), (4, some _), (7, some _), (8, some _), (9, some _)] (fun (k, ra3, gL6v3, nL6v3) => [(10, some (.int .i64 (k : Int))), (6, some (.slice (some ⟨gL6v3, 0, none⟩) nL6v3 nL6v3))]) (fun (k, ra3, gL6v3, nL6v3) H' => St [gL6v2] H56 H' ∧ H'.get gL6v3 = some (.row ((slsL ra3 (d.ckL i j k))) 22 true) ∧ PL gL6v3 gL6v2 H56.next ∧ nL6v3 = (slsL ra3 (d.ckL i j k)).length ∧ k ≤ (d.coneMaps (d.ckC i) (d.ckC j)).length ∧ OwnL H23.next H' 2 ra3 (d.ckL i j k)) (fun (k, ra3, gL6v3, nL6v3) => (d.coneMaps (d.ckC i) (d.ckC j)).length - k) ((0, ra2, _, _)) ⟨rfl, rfl, rfl, rfl, rfl, rfl, trivial⟩ ⟨rfl, rfl, trivial⟩ ?_ ?_
    ·
     refine ⟨.refl _ _, by assumption, ⟨.inl rfl⟩, by assumption, ?_⟩
     exact ⟨by omega, hR.keep (.of_le le56)⟩
    rintro ⟨k, ra3, gL6v3, nL6v3⟩ HL3 ⟨lst3, at_L6v3, pl_L6v3, ln_L6v3, hI⟩ KL3 hKL3
    refine .forget (fr' := [(10, some (.int .i64 (k : Int))), (6, some (.slice (some ⟨gL6v3, 0, none⟩) nL6v3 nL6v3)), (1, some _), (2, some _), (4, some _), (7, some _), (8, some _), (9, some _)]) ⟨rfl, rfl, rfl, rfl, rfl, rfl, rfl, rfl, trivial⟩ ?_
    have ge_L6v3 : H.next ≤ gL6v3 := pl_L6v3.ge (by omega) (by omega)
    have nx_HL3 := lst3.nx
    replace hle := hle.st lst3 (fun k hk => ⟨by omega, trivial⟩)
    replace lst2 := lst2.st lst3 (fun k hk ho => by simp only [out, and_true] at ho ⊢ <;> first | exact ho | exact ho.1 | exact ho.2 | exact ho.2.1 | exact ho.2.2 | exact ho.2.2.1 | exact ho.2.2.2 | exact pl_L6v2.ne (by first | exact ho | exact ho.1 | exact ho.2 | exact ho.2.1 | exact ho.2.2 | exact ho.2.2.1 | exact ho.2.2.2 | exact pl_L6.ne (by first | exact ho | exact ho.1 | exact ho.2 | exact ho.2.1 | exact ho.2.2 | exact ho.2.2.1 | exact ho.2.2.2 | omega) (by omega) | omega) (by omega) | omega)
    have ne_g1_gL6v2 : NE g1 gL6v2 := ⟨pl_L6v2.ne ne_g1_gL6.ne (by omega)⟩
    replace at1 := lst3.same _ _ ⟨ne_g1_gL6v2.ne, trivial⟩ at1
    replace at56 := lst3.same _ _ ⟨(by first | assumption | omega), trivial⟩ at56
    have lt_at_L6v3 := GHeap.ltg at_L6v3
    replace hin := base_hin.mono hle
    clear hb1
    have hb1 : Fun.At _ g1 0 d p := ⟨Mem.of_get at1, hin⟩
    have i56 := Ints.of_get at56
    have rk := St.refl [gL6v3] HL3
    obtain ⟨hk2, hR⟩ := hI
    have hat6 := at_L6v3
    have hln := d.ckL_le hI0 hn8 (i := i) (j := j) (k := k) (by omega) (by omega) hk2
    have hfl : (slsL ra3 (d.ckL i j k)).length = (d.ckL i j k).length := length_slsL _ _
    refine .seq (fun K23 hK23 => .seq (fun K24 hK24 => .region (.mv rfl (.mv rfl (.m rfl rfl rfl (.len sl_22_A rfl) (.m rfl rfl rfl (.cmp rfl rfl rfl) (.nil (hK24 _ _ ?_))))))))
    refine .cond rfl (fun h60 => ?_) (fun h60 => ?_)
    ·
     simp only [sps] at h60
     refine .skip ?_
     refine hK23 _ _ (.seq (fun K25 hK25 => ?_))
     refine .block ?_
     refine .region (.mv rfl (.mv rfl (.mv rfl (.mv rfl (.mv rfl ?_)))))
     refine .m rfl rfl rfl (.idxN sl_22_A (by first | assumption | exact SlA.of_row at56 (by first | rfl | (simp; done) | (simp <;> omega))) rfl rfl (by omega)) ?_
     refine .m rfl rfl rfl (.loadI on_2_A (by first | assumption | exact Ints.of_get at56) rfl (by omega)) ?_
     refine .r rfl rfl rfl (.litR rfl sl_22_A ze_2_E rfl rfl (by omega) (by omega) rfl rfl) ?_
     rintro _ H70 ⟨g70, rfl, le70, ge70, at70⟩
     replace hle := hle.trans le70
     replace lst3 := lst3.le le70
     replace rk := rk.le le70
     replace at1 := le70.2 _ _ at1
     replace at_L6v3 := le70.2 _ _ at_L6v3
     have lt_at70 := GHeap.ltg at70
     replace hin := base_hin.mono hle
     clear hb1
     have hb1 : Fun.At _ g1 0 d p := ⟨Mem.of_get at1, hin⟩
     clear i56
     refine .r rfl rfl rfl (.litR rfl sl_23_B ze_22_E rfl rfl (by omega) (by omega) rfl rfl) ?_
     rintro _ H71 ⟨g71, rfl, le71, ge71, at71⟩
     replace hle := hle.trans le71
     replace lst3 := lst3.le le71
     replace rk := rk.le le71
     replace at1 := le71.2 _ _ at1
     replace at_L6v3 := le71.2 _ _ at_L6v3
     replace at70 := le71.2 _ _ at70
     have lt_at71 := GHeap.ltg at71
     replace hin := base_hin.mono hle
     clear hb1
     have hb1 : Fun.At _ g1 0 d p := ⟨Mem.of_get at1, hin⟩
     refine .r rfl rfl rfl (.appendV rfl sl_23_B ze_22_E rfl by_22_E sl_23_B rfl rfl (by assumption) (by assumption) (by first | omega | (simp <;> omega)) rfl rfl (by omega) (by omega)) ?_
     rintro _ H72 ⟨g72, rfl, st72, ge72, at72⟩
     replace hle := hle.st st72 (fun k hk => ⟨by omega, trivial⟩)
     replace lst3 := lst3.st st72 (fun k hk ho => by simp only [out, and_true] at ho ⊢ <;> first | exact ho | exact ho.1 | exact ho.2 | exact ho.2.1 | exact ho.2.2 | exact ho.2.2.1 | exact ho.2.2.2 | exact pl_L6v3.ne (by first | exact ho | exact ho.1 | exact ho.2 | exact ho.2.1 | exact ho.2.2 | exact ho.2.2.1 | exact ho.2.2.2 | exact pl_L6v2.ne (by first | exact ho | exact ho.1 | exact ho.2 | exact ho.2.1 | exact ho.2.2 | exact ho.2.2.1 | exact ho.2.2.2 | exact pl_L6.ne (by first | exact ho | exact ho.1 | exact ho.2 | exact ho.2.1 | exact ho.2.2 | exact ho.2.2.1 | exact ho.2.2.2 | omega) (by omega) | omega) (by omega) | omega) (by omega) | omega)
     replace rk := rk.st st72 (fun k hk ho => by simp only [out, and_true] at ho ⊢ <;> first | exact ho | exact ho.1 | exact ho.2 | exact ho.2.1 | exact ho.2.2 | exact ho.2.2.1 | exact ho.2.2.2 | exact pl_L6v3.ne (by first | exact ho | exact ho.1 | exact ho.2 | exact ho.2.1 | exact ho.2.2 | exact ho.2.2.1 | exact ho.2.2.2 | exact pl_L6v2.ne (by first | exact ho | exact ho.1 | exact ho.2 | exact ho.2.1 | exact ho.2.2 | exact ho.2.2.1 | exact ho.2.2.2 | exact pl_L6.ne (by first | exact ho | exact ho.1 | exact ho.2 | exact ho.2.1 | exact ho.2.2 | exact ho.2.2.1 | exact ho.2.2.2 | omega) (by omega) | omega) (by omega) | omega) (by omega) | omega)
     replace at1 := st72.same _ _ ⟨(pl_L6v3.ne ne_g1_gL6v2.ne (by omega)), trivial⟩ at1
     replace at70 := st72.same _ _ ⟨(by first | assumption | omega), trivial⟩ at70
     replace hin := base_hin.mono hle
     clear hb1
     have hb1 : Fun.At _ g1 0 d p := ⟨Mem.of_get at1, hin⟩
     refine .mv rfl (.nil (hK25 _ _ (.region (.mv rfl ?_))))
     refine .m rfl rfl rfl (.add rfl rfl rfl (by omega) (by omega)) ?_
     refine .mv rfl (.nil ?_)
     refine hKL3 ((k + 1, upd ra3 (d.ckL i j k).length (some ⟨g70, 0, none⟩), _, _)) _ _ ?_ ?_ ⟨rfl, rfl, rfl, rfl, rfl, rfl, rfl, rfl, trivial⟩
     ·
      refine ⟨lst3, by (rw [Fun.ckL_snoc, slsL_snoc]; assumption), by exact ⟨.inr (by omega)⟩, by (rw [Fun.ckL_snoc, slsL_snoc] <;> (first | omega | (simp only [List.length_append, List.length_cons, List.length_nil] <;> omega))), ?_⟩
      exact ⟨by omega, by rw [Fun.ckL_snoc]; exact hR.snoc (x := d.ckP i j k) (rk.lasts1 hat6 rfl) (by assumption) (by omega) (by omega)⟩
     (dsimp only; omega)
    try simp only [sps] at h60
    refine .exit ?_
    refine hK20 _ _ (.region (.mv rfl ?_))
    refine .m rfl rfl rfl (.add rfl rfl rfl (by omega) (by omega)) ?_
    refine .mv rfl (.nil ?_)
    obtain rfl : k = (d.coneMaps (d.ckC i) (d.ckC j)).length := by omega
    have hnx : d.ckL i (j + 1) 0 = d.ckL i j (d.coneMaps (d.ckC i) (d.ckC j)).length := Fun.ckL_next2
    refine hKL2 ((j + 1, ra3, _, _)) _ _ ?_ ?_ ⟨rfl, rfl, rfl, rfl, rfl, rfl, trivial⟩
    ·
     refine ⟨lst2, by (rw [hnx]; assumption), by exact pl_L6v3.trans pl_L6v2 (by omega), by (rw [hnx] <;> (first | omega | (simp only [List.length_append, List.length_cons, List.length_nil] <;> omega))), ?_⟩
     exact ⟨by omega, by rw [hnx]; exact hR⟩
    (dsimp only; omega)
   try simp only [sps] at h44
   refine .exit ?_
   refine hK16 _ _ (.region (.mv rfl ?_))
   refine .m rfl rfl rfl (.add rfl rfl rfl (by omega) (by omega)) ?_
   refine .mv rfl (.nil ?_)
   obtain rfl : j = (d.coneL d.t.obj.toNat).length := by omega
   refine hKL1 ((i + 1, ra2, _, _)) _ _ ?_ ?_ ⟨rfl, rfl, rfl, rfl, rfl, trivial⟩
   ·
    refine ⟨lst1, by (rw [Fun.ckL_next1]; assumption), by exact pl_L6v2.trans pl_L6 (by omega), by (rw [Fun.ckL_next1] <;> (first | omega | (simp only [List.length_append, List.length_cons, List.length_nil] <;> omega))), ?_⟩
    exact ⟨by omega, by rw [Fun.ckL_next1]; exact hR⟩
   (dsimp only; omega)
  try simp only [sps] at h38
  refine .exit ?_
  refine hK12 _ _ (.seq (fun K26 hK26 => .region ?_))
  obtain rfl : i = (d.coneL d.t.obj.toNat).length := by omega
  rw [show d.ckL (d.coneL d.t.obj.toNat).length 0 0 = d.ckA from rfl] at at_L6 ln_L6 hR
  have gA : H23.next ≤ gL6 := pl_L6.ge (by omega) (by omega)
  rw [length_slsL] at ln_L6
  subst ln_L6
  have vA : IntssR H23.next HL1 (some ⟨gL6, 0, none⟩) d.ckA ra := hR.done at_L6 gA
  have hal := d.ckA_le hI0 hn8
  refine .mv rfl ?_
  have bs_vA := vA
  have lv_vA : Keep H23.next HL1 HL1 := fun _ _ _ h => h
  have iA := vA.intss
  refine .m rfl rfl rfl (.len sl_93_Hk rfl) (.mv rfl ?_)
  refine .call rfl rfl rfl rfl @Try.call54 rfl (l09Column_c (xss := d.ckA) iA (k := 0) (fun i hi => by have := (Fun.ckA_get hi).l3; omega) (by omega) (fun i hi => by have := (Fun.ckA_get hi).l3; omega)) ?_
  rintro _ H76 ⟨le76, g76, rfl, at76, ge76⟩
  replace hle := hle.trans le76
  replace at1 := le76.2 _ _ at1
  replace at2 := le76.2 _ _ at2
  replace lv_v23 := Keep.le lv_v23 le76
  replace lv_vA := Keep.le lv_vA le76
  replace vA := bs_vA.keep lv_vA (Nat.le_refl _)
  have lt_at76 := GHeap.ltg at76
  replace hin := base_hin.mono hle
  have hb1 : Fun.At _ g1 0 d p := ⟨Mem.of_get at1, hin⟩
  clear iA
  have iA := vA.intss
  refine .mv rfl ?_
  refine .call rfl rfl rfl rfl @Try.call54 rfl (l09Column_c (xss := d.ckA) iA (k := 1) (fun i hi => by have := (Fun.ckA_get hi).l3; omega) (by omega) (fun i hi => by have := (Fun.ckA_get hi).l3; omega)) ?_
  rintro _ H78 ⟨le78, g78, rfl, at78, ge78⟩
  replace hle := hle.trans le78
  replace at1 := le78.2 _ _ at1
  replace at2 := le78.2 _ _ at2
  replace at76 := le78.2 _ _ at76
  replace lv_v23 := Keep.le lv_v23 le78
  replace lv_vA := Keep.le lv_vA le78
  have lt_at78 := GHeap.ltg at78
  replace hin := base_hin.mono hle
  clear hb1
  have hb1 : Fun.At _ g1 0 d p := ⟨Mem.of_get at1, hin⟩
  clear iA
  refine .r rfl rfl rfl (.litR rfl sl_22_A ze_2_E rfl rfl (by omega) (by omega) rfl rfl) ?_
  rintro _ H79 ⟨g79, rfl, le79, ge79, at79⟩
  replace hle := hle.trans le79
  replace at1 := le79.2 _ _ at1
  replace at2 := le79.2 _ _ at2
  replace at76 := le79.2 _ _ at76
  replace at78 := le79.2 _ _ at78
  replace lv_v23 := Keep.le lv_v23 le79
  replace lv_vA := Keep.le lv_vA le79
  have lt_at79 := GHeap.ltg at79
  replace hin := base_hin.mono hle
  clear hb1
  have hb1 : Fun.At _ g1 0 d p := ⟨Mem.of_get at1, hin⟩
  replace at79 : GHeap.get H79 g79 = some (.row (ints []) 2 true) := at79
  refine .r rfl rfl rfl (.litR rfl sl_23_B ze_22_E rfl rfl (by omega) (by omega) rfl rfl) ?_
  rintro _ H80 ⟨g80, rfl, le80, ge80, at80⟩
  replace hle := hle.trans le80
  replace at1 := le80.2 _ _ at1
  replace at2 := le80.2 _ _ at2
  replace at76 := le80.2 _ _ at76
  replace at78 := le80.2 _ _ at78
  replace at79 := le80.2 _ _ at79
  replace lv_v23 := Keep.le lv_v23 le80
  replace lv_vA := Keep.le lv_vA le80
  have lt_at80 := GHeap.ltg at80
  replace hin := base_hin.mono hle
  clear hb1
  have hb1 : Fun.At _ g1 0 d p := ⟨Mem.of_get at1, hin⟩
  refine .m rfl rfl rfl (.build bt_31_Hj rfl rfl rfl) ?_
  refine .r rfl rfl rfl (.allocR rfl ze_31_E rfl) ?_
  rintro _ H11 ⟨g11, rfl, le11, ge11, at11⟩
  have nx_H11 := le11.1
  replace hle := hle.trans le11
  replace at1 := le11.2 _ _ at1
  replace at2 := le11.2 _ _ at2
  replace at76 := le11.2 _ _ at76
  replace at78 := le11.2 _ _ at78
  replace at79 := le11.2 _ _ at79
  replace at80 := le11.2 _ _ at80
  replace lv_v23 := Keep.le lv_v23 le11
  replace lv_vA := Keep.le lv_vA le11
  replace hin := base_hin.mono hle
  clear hb1
  have hb1 : Fun.At _ g1 0 d p := ⟨Mem.of_get at1, hin⟩
  refine .r0 rfl rfl (.fillR rfl sz_31_D rfl rfl rfl rfl (by assumption) (by first | rfl | exact Nat.le_of_ble_eq_true rfl | simp)) ?_
  rintro _ H20010 ⟨rfl, st20010, at20010⟩
  have nx_H20010 := st20010.nx
  replace hle := hle.st st20010 (fun k hk => ⟨by omega, trivial⟩)
  have ne_g1_g11 : NE g1 g11 := ⟨by first | assumption | omega⟩
  replace at1 := st20010.same _ _ ⟨ne_g1_g11.ne, trivial⟩ at1
  have ne_g2_g11 : NE g2 g11 := ⟨by first | assumption | omega⟩
  replace at2 := st20010.same _ _ ⟨ne_g2_g11.ne, trivial⟩ at2
  have ne_g76_g11 : NE g76 g11 := ⟨by first | assumption | omega⟩
  replace at76 := st20010.same _ _ ⟨ne_g76_g11.ne, trivial⟩ at76
  have ne_g78_g11 : NE g78 g11 := ⟨by first | assumption | omega⟩
  replace at78 := st20010.same _ _ ⟨ne_g78_g11.ne, trivial⟩ at78
  replace at79 := st20010.same _ _ ⟨(by first | assumption | omega), trivial⟩ at79
  have ne_g80_g11 : NE g80 g11 := ⟨by first | assumption | omega⟩
  replace at80 := st20010.same _ _ ⟨ne_g80_g11.ne, trivial⟩ at80
  replace lv_v23 := Keep.st lv_v23 st20010 (fun k hb hk => ⟨(by omega), trivial⟩)
  replace lv_vA := Keep.st lv_vA st20010 (fun k hb hk => ⟨(by omega), trivial⟩)
  replace hin := base_hin.mono hle
  clear hb1
  have hb1 : Fun.At _ g1 0 d p := ⟨Mem.of_get at1, hin⟩
  replace at20010 : GHeap.get H20010 g11 = some (.row [.int .i64 ((d.coneL d.t.obj.toNat).length : Int), .slice (some ⟨g76, 0, none⟩) d.ckA.length d.ckA.length, .slice (some ⟨g78, 0, none⟩) d.ckA.length d.ckA.length, .slice (some ⟨g79, 0, none⟩) 0 0, .slice (some ⟨g80, 0, none⟩) 0 0] 31 true) := by
    have hx := at20010
    rw [length_colI, length_colI] at hx
    exact hx
  refine .nil (hK26 _ _ (.seq (fun K27 hK27 => .seq (fun K28 hK28 => .region ?_))))
  refine .m rfl rfl rfl (.loadM ag_31_D rfl ⟨rfl, Mem.of_get at20010⟩) ?_
  have hcc := l02Fits_c (c := ⟨(d.coneL d.t.obj.toNat).length, colI d.ckA 0, colI d.ckA 1, [], []⟩) (p := ⟨some ⟨g76, 0, none⟩, some ⟨g78, 0, none⟩, some ⟨g79, 0, none⟩, some ⟨g80, 0, none⟩, fun _ => none⟩) ⟨Ints.of_get at76, Ints.of_get at78, Ints.of_get at79, .inl rfl, fun i hi => by simp at hi⟩
  simp only [Cat.cells, length_colI] at hcc
  refine .callQ rfl rfl rfl rfl @Try.call55 rfl (hcc) ?_
  refine .m rfl rfl rfl (.not rfl) (.nil (hK28 _ _ ?_))
  refine .cond rfl (fun h84 => ?_) (fun h84 => ?_)
  ·
   simp only [sps] at h84
   refine .seq (fun K29 hK29 => .region (.m rfl rfl rfl (.build bt_31_Hj rfl rfl rfl) ?_))
   refine .r0 rfl rfl (.fillR rfl sz_31_D rfl rfl rfl rfl (by assumption) (by first | rfl | exact Nat.le_of_ble_eq_true rfl | simp)) ?_
   rintro _ H22001 ⟨rfl, st22001, at22001⟩
   replace hle := hle.st st22001 (fun k hk => ⟨by omega, trivial⟩)
   have ne_g1_g2 : NE g1 g2 := ⟨by first | assumption | omega⟩
   replace at1 := st22001.same _ _ ⟨ne_g1_g2.ne, trivial⟩ at1
   replace hin := base_hin.mono hle
   clear hb1
   have hb1 : Fun.At _ g1 0 d p := ⟨Mem.of_get at1, hin⟩
   refine .mv rfl (.nil (hK29 _ _ ?_))
   refine .ret ?_
   refine hret _ _ ?_
   refine ⟨_, _, _, _, _, rfl, ag_31_D, (by rfl), (Mem.of_get at22001), rfl, ?_⟩
   obtain ⟨e1, e2⟩ := Fun.ck_3 h19 (fun h => h84 ⟨by have := h.1; omega, h.2⟩)
   unfold CkNew
   rw [e1, e2]
   exact ⟨hle, .zero, rfl, .zero _ _⟩
  simp only [sps] at h84
  have hm40 : d.ckA.length ≤ 40 := by omega
  refine .skip ?_
  refine hK27 _ _ (.seq (fun K30 hK30 => .seq (fun K31 hK31 => .region (.mv rfl (.nil (hK31 _ _ ?_))))))
  refine .block ?_
  refine .loopR (σ := Nat × Nat) [(1, some _), (2, some _), (4, some _), (6, some _), (11, some _)] (fun (x, gLI) => [(12, some (.int .i64 (x : Int)))]) (fun (x, gLI) H' => St [g79, g11] H20010 H' ∧ H'.get gLI = some (.row (ints ((List.range x).map fun i => idxLL d.ckA (d.ckI i))) 2 true) ∧ PL gLI g79 H20010.next ∧ H'.get g11 = some (.row ([.int .i64 ((d.coneL d.t.obj.toNat).length : Int), .slice (some ⟨g76, 0, none⟩) d.ckA.length d.ckA.length, .slice (some ⟨g78, 0, none⟩) d.ckA.length d.ckA.length, .slice (some ⟨gLI, 0, none⟩) x x, .slice (some ⟨g80, 0, none⟩) 0 0]) 31 true) ∧ gLI ≠ g11 ∧ x ≤ (d.coneL d.t.obj.toNat).length) (fun (x, gLI) => (d.coneL d.t.obj.toNat).length - x) ((0, g79)) ⟨rfl, rfl, rfl, rfl, rfl, trivial⟩ ⟨rfl, trivial⟩ ?_ ?_
  ·
   refine ⟨.refl _ _, by assumption, ⟨.inl rfl⟩, by assumption, by omega, ?_⟩
   omega
  rintro ⟨x, gLI⟩ HL4 ⟨lst4, at_LI, pl_LI, at_Lg11, ap4_0, hI⟩ KL4 hKL4
  refine .forget (fr' := [(12, some (.int .i64 (x : Int))), (1, some _), (2, some _), (4, some _), (6, some _), (11, some _)]) ⟨rfl, rfl, rfl, rfl, rfl, rfl, trivial⟩ ?_
  have ge_LI : H.next ≤ gLI := pl_LI.ge (by omega) (by omega)
  have nx_HL4 := lst4.nx
  replace hle := hle.st lst4 (fun k hk => ⟨by omega, by omega, trivial⟩)
  have ne_g1_g79 : NE g1 g79 := ⟨by first | assumption | omega⟩
  replace at1 := lst4.same _ _ ⟨ne_g1_g79.ne, ne_g1_g11.ne, trivial⟩ at1
  have ne_g2_g79 : NE g2 g79 := ⟨by first | assumption | omega⟩
  replace at2 := lst4.same _ _ ⟨ne_g2_g79.ne, ne_g2_g11.ne, trivial⟩ at2
  replace at76 := lst4.same _ _ ⟨(by first | assumption | omega), ne_g76_g11.ne, trivial⟩ at76
  replace at78 := lst4.same _ _ ⟨(by first | assumption | omega), ne_g78_g11.ne, trivial⟩ at78
  have ne_g80_g79 : NE g80 g79 := ⟨by first | assumption | omega⟩
  replace at80 := lst4.same _ _ ⟨ne_g80_g79.ne, ne_g80_g11.ne, trivial⟩ at80
  replace lv_v23 := Keep.st lv_v23 lst4 (fun k hb hk => ⟨(by omega), (by omega), trivial⟩)
  replace v23 := bs_v23.keep lv_v23 (Nat.le_refl _)
  replace lv_vA := Keep.st lv_vA lst4 (fun k hb hk => ⟨(by omega), (by omega), trivial⟩)
  have lt_at_LI := GHeap.ltg at_LI
  have lt_at_Lg11 := GHeap.ltg at_Lg11
  replace hin := base_hin.mono hle
  have hb1 : Fun.At _ g1 0 d p := ⟨Mem.of_get at1, hin⟩
  obtain ⟨-, ft1, -, -, -, -⟩ := hb1.get
  have sl23 := v23.sl
  have hil : ((List.range x).map fun i => idxLL d.ckA (d.ckI i)).length = x := by simp
  refine .seq (fun K32 hK32 => .seq (fun K33 hK33 => .region (.mv rfl (.mv rfl (.m rfl rfl rfl (.len sl_93_Hk rfl) (.m rfl rfl rfl (.cmp rfl rfl rfl) (.nil (hK33 _ _ ?_))))))))
  refine .cond rfl (fun h89 => ?_) (fun h89 => ?_)
  ·
   simp only [sps] at h89
   have hap := (d.ckCone hI0 (i := x) (by omega)).ap
   simp only [Fun.ckC] at hap
   have hm1 := v23.mem x (by omega)
   have hm1a := hm1.2 0 _ rfl
   obtain ⟨-, -, -, q3, -, -, -, qi3, -⟩ := ft1.get
   refine .skip ?_
   refine hK32 _ _ (.seq (fun K34 hK34 => ?_))
   refine .block ?_
   refine .regionD mo_B (.q 0 (.q 1 (.q 2 (.q 3 (.q 4 (.q 5 (.q 6 (.q 7 (.q 8 (.q 9 (.q 10 (.q 11 (.q 12 (.q 13 (.q 14 (.c 15 1 (.c 16 1 (.c 17 1 (.c 18 0 (.q 19 (.c 20 0 (.done)))))))))))))))))))))) (by kernel_rfl) ?_
   refine .m rfl rfl rfl rfl (.refl _) (.fieldAddr fo_31_3_B rfl) ?_
   refine .m rfl rfl rfl rfl (.refl _) (.load on_22_B rfl (by first | assumption | exact Mem.of_get at_Lg11 3 _ rfl)) ?_
   refine .mv rfl rfl (.mv rfl rfl (.mv rfl rfl (.m rfl rfl rfl rfl (.refl _) (.fieldAddr fo_33_1_E rfl) (.m rfl rfl rfl rfl (.refl _) (.fieldAddr fo_31_3_B rfl) ?_))))
   refine .m rfl rfl rfl rfl (.refl _) (.load on_22_B rfl (by first | assumption | exact Mem.of_get at1 8 _ rfl)) ?_
   refine .mv rfl rfl (.mv rfl rfl ?_)
   refine .m rfl rfl rfl rfl (.refl _) (.idx sl_93_Hk (by assumption) (by omega) rfl rfl (by omega) (by omega) rfl) ?_
   refine .m rfl rfl rfl rfl (.refl _) (.fieldAddr fo_98_0_Cm rfl) ?_
   refine .m rfl rfl rfl rfl (.refl _) (.load on_2_A rfl (by assumption)) ?_
   refine .m rfl rfl rfl rfl (.refl _) (.idx1 sl_22_A (by assumption) rfl rfl (by omega) (by omega)) ?_
   refine .m rfl rfl rfl rfl (.refl _) (.loadI on_2_A (by assumption) rfl (by omega)) ?_
   refine .c1 rfl rfl rfl rfl (.litR rfl sl_22_A ze_2_E rfl rfl (by omega) (by omega) rfl rfl) ?_
   rintro _ H107 ⟨g107, rfl, le107, ge107, at107⟩
   have hbl := le107
   refine ⟨hbl, ?_⟩
   replace hle := hle.trans le107
   replace lst4 := lst4.le le107
   replace at1 := le107.2 _ _ at1
   replace at_LI := le107.2 _ _ at_LI
   replace at_Lg11 := le107.2 _ _ at_Lg11
   replace lv_vA := Keep.le lv_vA le107
   replace vA := bs_vA.keep lv_vA (Nat.le_refl _)
   have lt_at107 := GHeap.ltg at107
   replace hin := base_hin.mono hle
   clear hb1 ft1 hm1
   have hb1 : Fun.At _ g1 0 d p := ⟨Mem.of_get at1, hin⟩
   obtain ⟨-, ft1, -, -, -, -⟩ := hb1.get
   clear sl23
   have iA := vA.intss
   clear hm1a q3 qi3
   refine .call1 rfl rfl rfl rfl rfl @Try.call56 rfl ((l09Find_c iA (Ints.of_get (xs := d.ckI x) (by assumption)) (by omega) (fun i => by have := d.ckA_row i; omega) (by show 3 ≤ 1048576; omega))) ?_
   rintro _ _ ⟨rfl, rfl⟩
   refine ⟨(by assumption), ?_⟩
   refine .c1 rfl rfl rfl rfl (.litR rfl sl_22_A ze_2_E rfl rfl (by omega) (by omega) rfl rfl) ?_
   rintro _ H109 ⟨g109, rfl, le109, ge109, at109⟩
   replace hbl := hbl.trans le109
   refine ⟨hbl, ?_⟩
   replace hle := hle.trans le109
   replace lst4 := lst4.le le109
   replace at1 := le109.2 _ _ at1
   replace at_LI := le109.2 _ _ at_LI
   replace at_Lg11 := le109.2 _ _ at_Lg11
   have lt_at109 := GHeap.ltg at109
   replace hin := base_hin.mono hle
   clear hb1 ft1
   have hb1 : Fun.At _ g1 0 d p := ⟨Mem.of_get at1, hin⟩
   obtain ⟨-, ft1, -, -, -, -⟩ := hb1.get
   clear iA
   refine .c0 rfl rfl rfl rfl (.appendI rfl sl_22_A ze_2_E rfl by_2_E sl_22_A rfl rfl (by assumption) (by assumption) (by first | omega | (simp <;> omega)) (by omega) (by omega)) ?_
   rintro _ H110 ⟨g110, rfl, st110, ge110, at110⟩
   replace hle := hle.st st110 (fun k hk => ⟨by omega, trivial⟩)
   replace lst4 := lst4.st st110 (fun k hk ho => by simp only [out, and_true] at ho ⊢ <;> first | exact ho | exact ho.1 | exact ho.2 | exact ho.2.1 | exact ho.2.2 | exact ho.2.2.1 | exact ho.2.2.2 | exact pl_LI.ne (by first | exact ho | exact ho.1 | exact ho.2 | exact ho.2.1 | exact ho.2.2 | exact ho.2.2.1 | exact ho.2.2.2 | omega) (by omega) | omega)
   replace at1 := st110.same _ _ ⟨(pl_LI.ne ne_g1_g79.ne (by omega)), trivial⟩ at1
   replace at_Lg11 := st110.same _ _ ⟨(Ne.symm ap4_0), trivial⟩ at_Lg11
   replace hin := base_hin.mono hle
   clear hb1 ft1
   have hb1 : Fun.At _ g1 0 d p := ⟨Mem.of_get at1, hin⟩
   obtain ⟨-, ft1, -, -, -, -⟩ := hb1.get
   refine .m rfl rfl rfl rfl (.refl _) (.fieldAddr fo_31_3_B rfl) ?_
   refine .r0 rfl rfl rfl (.storeR rfl sz_22_E rfl rfl rfl (by assumption) (by first | exact Nat.le_of_ble_eq_true rfl | (simp; done) | (simp <;> omega))) ?_
   rintro _ H26020 ⟨rfl, st26020, at26020⟩
   replace hle := hle.st st26020 (fun k hk => ⟨by omega, trivial⟩)
   replace lst4 := lst4.st st26020 (fun k hk ho => by simp only [out, and_true] at ho ⊢ <;> first | exact ho | exact ho.1 | exact ho.2 | exact ho.2.1 | exact ho.2.2 | exact ho.2.2.1 | exact ho.2.2.2 | omega)
   replace at1 := st26020.same _ _ ⟨ne_g1_g11.ne, trivial⟩ at1
   replace at110 := st26020.same _ _ ⟨(by first | assumption | omega), trivial⟩ at110
   replace hin := base_hin.mono hle
   clear hb1 ft1
   have hb1 : Fun.At _ g1 0 d p := ⟨Mem.of_get at1, hin⟩
   obtain ⟨-, ft1, -, -, -, -⟩ := hb1.get
   try simp only [Nat.zero_add, List.set_cons_succ, List.set_cons_zero] at at26020
   refine .done ?_
   refine hK34 _ _ (.region (.mv rfl ?_))
   refine .m rfl rfl rfl (.add rfl rfl rfl (by omega) (by omega)) ?_
   refine .mv rfl (.nil ?_)
   refine hKL4 ((x + 1, g110)) _ _ ?_ ?_ ⟨rfl, rfl, rfl, rfl, rfl, rfl, trivial⟩
   ·
    refine ⟨lst4, by (rw [range_snocI]; assumption), by exact ⟨.inr (by omega)⟩, by assumption, by omega, ?_⟩
    omega
   (dsimp only; omega)
  try simp only [sps] at h89
  refine .exit ?_
  refine hK30 _ _ (.seq (fun K35 hK35 => .seq (fun K36 hK36 => .region ?_)))
  obtain rfl : x = (d.coneL d.t.obj.toNat).length := by omega
  refine .mv rfl (.nil (hK36 _ _ ?_))
  refine .block ?_
  refine .loopR (σ := Nat × (Nat → Option Addr) × Nat) [(1, some _), (2, some _), (6, some _), (11, some _)] (fun (a, rc, gLC) => [(13, some (.int .i64 (a : Int)))]) (fun (a, rc, gLC) H' => St [g80, g11] HL4 H' ∧ H'.get gLC = some (.row ((slsL rc (d.ckTb a))) 22 true) ∧ PL gLC g80 HL4.next ∧ H'.get g11 = some (.row ([.int .i64 ((d.coneL d.t.obj.toNat).length : Int), .slice (some ⟨g76, 0, none⟩) d.ckA.length d.ckA.length, .slice (some ⟨g78, 0, none⟩) d.ckA.length d.ckA.length, .slice (some ⟨gLI, 0, none⟩) (d.coneL d.t.obj.toNat).length (d.coneL d.t.obj.toNat).length, .slice (some ⟨gLC, 0, none⟩) a a]) 31 true) ∧ gLC ≠ g11 ∧ a ≤ d.ckA.length ∧ OwnL HL4.next H' 2 rc (d.ckTb a)) (fun (a, rc, gLC) => d.ckA.length - a) ((0, fun _ => none, g80)) ⟨rfl, rfl, rfl, rfl, trivial⟩ ⟨rfl, trivial⟩ ?_ ?_
  ·
   refine ⟨.refl _ _, by assumption, ⟨.inl rfl⟩, by assumption, by omega, ?_⟩
   exact ⟨by omega, .nil _ _ _ _⟩
  rintro ⟨a, rc, gLC⟩ HL5 ⟨lst5, at_LC, pl_LC, at_Lg11, ap5_0, hI⟩ KL5 hKL5
  refine .forget (fr' := [(13, some (.int .i64 (a : Int))), (1, some _), (2, some _), (6, some _), (11, some _)]) ⟨rfl, rfl, rfl, rfl, rfl, trivial⟩ ?_
  have ge_LC : H.next ≤ gLC := pl_LC.ge (by omega) (by omega)
  have nx_HL5 := lst5.nx
  replace hle := hle.st lst5 (fun k hk => ⟨by omega, by omega, trivial⟩)
  have ne_g1_g80 : NE g1 g80 := ⟨by first | assumption | omega⟩
  replace at1 := lst5.same _ _ ⟨ne_g1_g80.ne, ne_g1_g11.ne, trivial⟩ at1
  have ne_g2_g80 : NE g2 g80 := ⟨by first | assumption | omega⟩
  replace at2 := lst5.same _ _ ⟨ne_g2_g80.ne, ne_g2_g11.ne, trivial⟩ at2
  replace at76 := lst5.same _ _ ⟨(by first | assumption | omega), ne_g76_g11.ne, trivial⟩ at76
  replace at78 := lst5.same _ _ ⟨(by first | assumption | omega), ne_g78_g11.ne, trivial⟩ at78
  replace at_LI := lst5.same _ _ ⟨(Ne.symm (pl_LI.ne ne_g80_g79.ne (by omega))), ap4_0, trivial⟩ at_LI
  replace lv_vA := Keep.st lv_vA lst5 (fun k hb hk => ⟨(by omega), (by omega), trivial⟩)
  have lt_at_LC := GHeap.ltg at_LC
  have lt_at_Lg11 := GHeap.ltg at_Lg11
  replace hin := base_hin.mono hle
  have hb1 : Fun.At _ g1 0 d p := ⟨Mem.of_get at1, hin⟩
  have rk := St.refl [gLC, g11] HL5
  obtain ⟨ha, hR⟩ := hI
  have hatC := at_LC
  have hat11 := at_Lg11
  have hql := d.length_ckTb a
  have hfl : (slsL rc (d.ckTb a)).length = (d.ckTb a).length := length_slsL _ _
  refine .seq (fun K37 hK37 => .seq (fun K38 hK38 => .region (.mv rfl (.mv rfl (.m rfl rfl rfl (.len sl_23_B rfl) (.m rfl rfl rfl (.cmp rfl rfl rfl) (.nil (hK38 _ _ ?_))))))))
  refine .cond rfl (fun h115 => ?_) (fun h115 => ?_)
  ·
   simp only [sps] at h115
   obtain ⟨-, -, -, -, oa5, oa6, oa7⟩ := d.ckA_get (a := a) (by omega)
   refine .skip ?_
   refine hK37 _ _ (.seq (fun K39 hK39 => ?_))
   refine .block ?_
   refine .seq (fun K40 hK40 => .region ?_)
   refine .r rfl rfl rfl (.litR rfl sl_22_A ze_2_E rfl rfl (by omega) (by omega) rfl rfl) ?_
   rintro _ H118 ⟨g118, rfl, le118, ge118, at118⟩
   have nx_H118 := le118.1
   replace hle := hle.trans le118
   replace lst5 := lst5.le le118
   replace rk := rk.le le118
   replace at1 := le118.2 _ _ at1
   replace at_LC := le118.2 _ _ at_LC
   replace at_Lg11 := le118.2 _ _ at_Lg11
   replace lv_vA := Keep.le lv_vA le118
   have lt_at118 := GHeap.ltg at118
   replace hin := base_hin.mono hle
   clear hb1
   have hb1 : Fun.At _ g1 0 d p := ⟨Mem.of_get at1, hin⟩
   replace at118 : GHeap.get H118 g118 = some (.row (ints []) 2 true) := at118
   refine .mv rfl (.nil (hK40 _ _ (.seq (fun K41 hK41 => .seq (fun K42 hK42 => .region (.mv rfl (.nil (hK42 _ _ ?_))))))))
   refine .block ?_
   refine .loopR (σ := Nat × Nat × Nat) [(1, some _), (2, some _), (6, some _), (11, some _), (13, some _)] (fun (b, gL14, nL14) => [(15, some (.int .i64 (b : Int))), (14, some (.slice (some ⟨gL14, 0, none⟩) nL14 nL14))]) (fun (b, gL14, nL14) H' => St [g118] H118 H' ∧ H'.get gL14 = some (.row (ints (d.ckRw a b)) 2 true) ∧ PL gL14 g118 H118.next ∧ nL14 = (d.ckRw a b).length ∧ b ≤ d.ckA.length) (fun (b, gL14, nL14) => d.ckA.length - b) ((0, _, _)) ⟨rfl, rfl, rfl, rfl, rfl, trivial⟩ ⟨rfl, rfl, trivial⟩ ?_ ?_
   ·
    refine ⟨.refl _ _, by assumption, ⟨.inl rfl⟩, by rfl, ?_⟩
    omega
   rintro ⟨b, gL14, nL14⟩ HL6 ⟨lst6, at_L14, pl_L14, ln_L14, hI⟩ KL6 hKL6
   refine .forget (fr' := [(15, some (.int .i64 (b : Int))), (14, some (.slice (some ⟨gL14, 0, none⟩) nL14 nL14)), (1, some _), (2, some _), (6, some _), (11, some _), (13, some _)]) ⟨rfl, rfl, rfl, rfl, rfl, rfl, rfl, trivial⟩ ?_
   have ge_L14 : H.next ≤ gL14 := pl_L14.ge (by omega) (by omega)
   have nx_HL6 := lst6.nx
   replace hle := hle.st lst6 (fun k hk => ⟨by omega, trivial⟩)
   replace lst5 := lst5.st lst6 (fun k hk ho => by simp only [out, and_true] at ho ⊢ <;> first | exact ho | exact ho.1 | exact ho.2 | exact ho.2.1 | exact ho.2.2 | exact ho.2.2.1 | exact ho.2.2.2 | omega)
   replace rk := rk.st lst6 (fun k hk ho => by simp only [out, and_true] at ho ⊢ <;> first | exact ho | exact ho.1 | exact ho.2 | exact ho.2.1 | exact ho.2.2 | exact ho.2.2.1 | exact ho.2.2.2 | omega)
   have ne_g1_g118 : NE g1 g118 := ⟨by first | assumption | omega⟩
   replace at1 := lst6.same _ _ ⟨ne_g1_g118.ne, trivial⟩ at1
   have ne_gLC_g118 : NE gLC g118 := ⟨by first | assumption | omega⟩
   replace at_LC := lst6.same _ _ ⟨ne_gLC_g118.ne, trivial⟩ at_LC
   have ne_g11_g118 : NE g11 g118 := ⟨by first | assumption | omega⟩
   replace at_Lg11 := lst6.same _ _ ⟨ne_g11_g118.ne, trivial⟩ at_Lg11
   replace lv_vA := Keep.st lv_vA lst6 (fun k hb hk => ⟨(by omega), trivial⟩)
   replace vA := bs_vA.keep lv_vA (Nat.le_refl _)
   replace hin := base_hin.mono hle
   clear hb1
   have hb1 : Fun.At _ g1 0 d p := ⟨Mem.of_get at1, hin⟩
   obtain ⟨-, ft1, -, -, -, -⟩ := hb1.get
   have hmt1 : MemN _ _ _ _ _ := ⟨rfl, ft1.1⟩
   have hit1 := ft1.2
   have iA := vA.intss
   have u1 := iA.2 a (by omega)
   have hrl := d.length_ckRw a b
   refine .seq (fun K43 hK43 => .seq (fun K44 hK44 => .region (.mv rfl (.mv rfl (.m rfl rfl rfl (.len sl_23_B rfl) (.m rfl rfl rfl (.cmp rfl rfl rfl) (.nil (hK44 _ _ ?_))))))))
   refine .cond rfl (fun h122 => ?_) (fun h122 => ?_)
   ·
    simp only [sps] at h122
    obtain ⟨-, -, -, -, ob5, ob6, ob7⟩ := d.ckA_get (a := b) (by omega)
    have u2 := iA.2 b (by omega)
    refine .skip ?_
    refine hK43 _ _ (.seq (fun K45 hK45 => ?_))
    refine .block ?_
    refine .seq (fun K46 hK46 => .region (.mv rfl (.nil (hK46 _ _ (.seq (fun K47 hK47 => .seq (fun K48 hK48 => ?_)))))))
    refine .regionD mo_B (.q 0 (.q 1 (.q 2 (.q 3 (.q 4 (.q 5 (.q 6 (.q 7 (.q 8 (.q 9 (.q 10 (.q 11 (.q 12 (.done)))))))))))))) (by kernel_rfl) ?_
    refine .mv rfl rfl (.mv rfl rfl ?_)
    refine .m rfl rfl rfl rfl (.refl _) (.idxN sl_23_B (by first | exact (Intss.sl (by assumption)) | exact SlA.of_row at_L6 (by first | rfl | (simp; done) | (simp <;> omega))) rfl rfl (by omega)) ?_
    refine .m rfl rfl rfl rfl (.refl _) (.loadR on_22_B (by assumption) rfl (by omega)) ?_
    refine .m rfl rfl rfl rfl (.refl _) (.idxN (j := 1) sl_22_A (by assumption) rfl rfl (by omega)) ?_
    refine .m rfl rfl rfl rfl (.refl _) (.loadI on_2_A (by assumption) rfl (by omega)) ?_
    refine .mv rfl rfl (.mv rfl rfl ?_)
    refine .m rfl rfl rfl rfl (.refl _) (.idxN sl_23_B (by first | exact (Intss.sl (by assumption)) | exact SlA.of_row at_L6 (by first | rfl | (simp; done) | (simp <;> omega))) rfl rfl (by omega)) ?_
    refine .m rfl rfl rfl rfl (.refl _) (.loadR on_22_B (by assumption) rfl (by omega)) ?_
    refine .m rfl rfl rfl rfl (.refl _) (.idxN (j := 0) sl_22_A (by assumption) rfl rfl (by omega)) ?_
    refine .m rfl rfl rfl rfl (.refl _) (.loadI on_2_A (by assumption) rfl (by omega)) ?_
    refine .m rfl rfl rfl rfl (.refl _) (.cmp rfl rfl rfl) ?_
    refine .done ?_
    refine hK48 _ _ ?_
    refine .cond rfl (fun h137 => ?_) (fun h137 => ?_)
    ·
     simp only [sps] at h137
     refine .regionD mo_B (.q 0 (.q 1 (.q 2 (.q 3 (.q 4 (.q 5 (.q 6 (.q 7 (.q 8 (.q 9 (.q 10 (.q 11 (.q 12 (.q 13 (.q 14 (.q 15 (.q 16 (.q 17 (.q 18 (.q 19 (.q 20 (.q 21 (.q 22 (.q 23 (.q 24 (.q 25 (.q 26 (.c 27 1 (.c 28 1 (.c 29 0 (.q 30 (.done)))))))))))))))))))))))))))))))) (by kernel_rfl) ?_
     refine .mv rfl rfl (.mv rfl rfl (.mv rfl rfl ?_))
     refine .m rfl rfl rfl rfl (.refl _) (.idxN sl_23_B (by first | exact (Intss.sl (by assumption)) | exact SlA.of_row at_L6 (by first | rfl | (simp; done) | (simp <;> omega))) rfl rfl (by omega)) ?_
     refine .m rfl rfl rfl rfl (.refl _) (.loadR on_22_B (by assumption) rfl (by omega)) ?_
     refine .m rfl rfl rfl rfl (.refl _) (.idxN (j := 0) sl_22_A (by assumption) rfl rfl (by omega)) ?_
     refine .m rfl rfl rfl rfl (.refl _) (.loadI on_2_A (by assumption) rfl (by omega)) ?_
     refine .mv rfl rfl (.mv rfl rfl ?_)
     refine .m rfl rfl rfl rfl (.refl _) (.idxN sl_23_B (by first | exact (Intss.sl (by assumption)) | exact SlA.of_row at_L6 (by first | rfl | (simp; done) | (simp <;> omega))) rfl rfl (by omega)) ?_
     refine .m rfl rfl rfl rfl (.refl _) (.loadR on_22_B (by assumption) rfl (by omega)) ?_
     refine .m rfl rfl rfl rfl (.refl _) (.idxN (j := 1) sl_22_A (by assumption) rfl rfl (by omega)) ?_
     refine .m rfl rfl rfl rfl (.refl _) (.loadI on_2_A (by assumption) rfl (by omega)) ?_
     refine .m rfl rfl rfl rfl (.refl _) (.fieldAddr fo_33_1_E rfl) ?_
     refine .m rfl rfl rfl rfl (.refl _) (.loadM ag_31_D rfl (by assumption)) ?_
     refine .mv rfl rfl (.mv rfl rfl ?_)
     refine .m rfl rfl rfl rfl (.refl _) (.idxN sl_23_B (by first | exact (Intss.sl (by assumption)) | exact SlA.of_row at_L6 (by first | rfl | (simp; done) | (simp <;> omega))) rfl rfl (by omega)) ?_
     refine .m rfl rfl rfl rfl (.refl _) (.loadR on_22_B (by assumption) rfl (by omega)) ?_
     refine .m rfl rfl rfl rfl (.refl _) (.idxN (j := 2) sl_22_A (by assumption) rfl rfl (by omega)) ?_
     refine .m rfl rfl rfl rfl (.refl _) (.loadI on_2_A (by assumption) rfl (by omega)) ?_
     refine .mv rfl rfl (.mv rfl rfl ?_)
     refine .m rfl rfl rfl rfl (.refl _) (.idxN sl_23_B (by first | exact (Intss.sl (by assumption)) | exact SlA.of_row at_L6 (by first | rfl | (simp; done) | (simp <;> omega))) rfl rfl (by omega)) ?_
     refine .m rfl rfl rfl rfl (.refl _) (.loadR on_22_B (by assumption) rfl (by omega)) ?_
     refine .m rfl rfl rfl rfl (.refl _) (.idxN (j := 2) sl_22_A (by assumption) rfl rfl (by omega)) ?_
     refine .m rfl rfl rfl rfl (.refl _) (.loadI on_2_A (by assumption) rfl (by omega)) ?_
     refine .callQ1 rfl rfl rfl rfl rfl @Try.call57 rfl (l02Then_c) (.refl _) ?_
     refine .c1 rfl rfl rfl rfl (.litR rfl sl_22_A ze_2_E rfl rfl (by omega) (by omega) rfl rfl) ?_
     rintro _ H166 ⟨g166, rfl, le166, ge166, at166⟩
     have hbl := le166
     refine ⟨hbl, ?_⟩
     replace hle := hle.trans le166
     replace lst6 := lst6.le le166
     replace at1 := le166.2 _ _ at1
     replace at_L14 := le166.2 _ _ at_L14
     replace lv_vA := Keep.le lv_vA le166
     replace vA := bs_vA.keep lv_vA (Nat.le_refl _)
     have lt_at166 := GHeap.ltg at166
     replace hin := base_hin.mono hle
     clear hb1 ft1 hmt1 hit1
     have hb1 : Fun.At _ g1 0 d p := ⟨Mem.of_get at1, hin⟩
     clear iA
     have iA := vA.intss
     clear u1
     clear u2
     refine .call0 rfl rfl rfl rfl rfl @Try.call56 rfl ((l09Find_c iA (Ints.of_get (xs := d.ckK a b) (by assumption)) (by omega) (fun i => by have := d.ckA_row i; omega) (by show 3 ≤ 1048576; omega))) ?_
     rintro _ _ ⟨rfl, rfl⟩
     refine .mv rfl rfl ?_
     refine .done ?_
     refine hK47 _ _ (.region (.mv rfl (.mv rfl ?_)))
     refine .r rfl rfl rfl (.litR rfl sl_22_A ze_2_E rfl rfl (by omega) (by omega) rfl rfl) ?_
     rintro _ H170 ⟨g170, rfl, le170, ge170, at170⟩
     replace hle := hle.trans le170
     replace lst6 := lst6.le le170
     replace at1 := le170.2 _ _ at1
     replace at_L14 := le170.2 _ _ at_L14
     have lt_at170 := GHeap.ltg at170
     replace hin := base_hin.mono hle
     clear hb1
     have hb1 : Fun.At _ g1 0 d p := ⟨Mem.of_get at1, hin⟩
     clear iA
     refine .r rfl rfl rfl (.appendI rfl sl_22_A ze_2_E rfl by_2_E sl_22_A rfl rfl (by assumption) (by assumption) (by first | omega | (simp <;> omega)) (by omega) (by omega)) ?_
     rintro _ H171 ⟨g171, rfl, st171, ge171, at171⟩
     replace hle := hle.st st171 (fun k hk => ⟨by omega, trivial⟩)
     replace lst6 := lst6.st st171 (fun k hk ho => by simp only [out, and_true] at ho ⊢ <;> first | exact ho | exact ho.1 | exact ho.2 | exact ho.2.1 | exact ho.2.2 | exact ho.2.2.1 | exact ho.2.2.2 | exact pl_L14.ne (by first | exact ho | exact ho.1 | exact ho.2 | exact ho.2.1 | exact ho.2.2 | exact ho.2.2.1 | exact ho.2.2.2 | omega) (by omega) | omega)
     have ne_g1_gL14 : NE g1 gL14 := ⟨pl_L14.ne ne_g1_g118.ne (by omega)⟩
     replace at1 := st171.same _ _ ⟨ne_g1_gL14.ne, trivial⟩ at1
     replace hin := base_hin.mono hle
     clear hb1
     have hb1 : Fun.At _ g1 0 d p := ⟨Mem.of_get at1, hin⟩
     refine .mv rfl (.nil (hK45 _ _ (.region (.mv rfl ?_))))
     refine .m rfl rfl rfl (.add rfl rfl rfl (by omega) (by omega)) ?_
     refine .mv rfl (.nil ?_)
     refine hKL6 ((b + 1, _, _)) _ _ ?_ ?_ ⟨rfl, rfl, rfl, rfl, rfl, rfl, rfl, trivial⟩
     ·
      refine ⟨lst6, by (rw [Fun.ckRw_T (by omega) (by omega) h137]; assumption), by exact ⟨.inr (by omega)⟩, by (rw [Fun.ckRw_T (by omega) (by omega) h137] <;> (first | omega | (simp only [List.length_append, List.length_cons, List.length_nil] <;> omega))), ?_⟩
      omega
     (dsimp only; omega)
    simp only [sps] at h137
    refine .skip ?_
    refine hK47 _ _ (.region (.mv rfl (.mv rfl ?_)))
    refine .r rfl rfl rfl (.litR rfl sl_22_A ze_2_E rfl rfl (by omega) (by omega) rfl rfl) ?_
    rintro _ H170x2 ⟨g170x2, rfl, le170x2, ge170x2, at170x2⟩
    replace hle := hle.trans le170x2
    replace lst6 := lst6.le le170x2
    replace at1 := le170x2.2 _ _ at1
    replace at_L14 := le170x2.2 _ _ at_L14
    have lt_at170x2 := GHeap.ltg at170x2
    replace hin := base_hin.mono hle
    have hb1 : Fun.At _ g1 0 d p := ⟨Mem.of_get at1, hin⟩
    refine .r rfl rfl rfl (.appendI rfl sl_22_A ze_2_E rfl by_2_E sl_22_A rfl rfl (by assumption) (by assumption) (by first | omega | (simp <;> omega)) (by omega) (by omega)) ?_
    rintro _ H171x2 ⟨g171x2, rfl, st171x2, ge171x2, at171x2⟩
    replace hle := hle.st st171x2 (fun k hk => ⟨by omega, trivial⟩)
    replace lst6 := lst6.st st171x2 (fun k hk ho => by simp only [out, and_true] at ho ⊢ <;> first | exact ho | exact ho.1 | exact ho.2 | exact ho.2.1 | exact ho.2.2 | exact ho.2.2.1 | exact ho.2.2.2 | exact pl_L14.ne (by first | exact ho | exact ho.1 | exact ho.2 | exact ho.2.1 | exact ho.2.2 | exact ho.2.2.1 | exact ho.2.2.2 | omega) (by omega) | omega)
    have ne_g1_gL14 : NE g1 gL14 := ⟨pl_L14.ne ne_g1_g118.ne (by omega)⟩
    replace at1 := st171x2.same _ _ ⟨ne_g1_gL14.ne, trivial⟩ at1
    replace hin := base_hin.mono hle
    clear hb1
    have hb1 : Fun.At _ g1 0 d p := ⟨Mem.of_get at1, hin⟩
    refine .mv rfl (.nil (hK45 _ _ (.region (.mv rfl ?_))))
    refine .m rfl rfl rfl (.add rfl rfl rfl (by omega) (by omega)) ?_
    refine .mv rfl (.nil ?_)
    refine hKL6 ((b + 1, _, _)) _ _ ?_ ?_ ⟨rfl, rfl, rfl, rfl, rfl, rfl, rfl, trivial⟩
    ·
     refine ⟨lst6, by (rw [Fun.ckRw_F (by omega) (by omega) h137]; assumption), by exact ⟨.inr (by omega)⟩, by (rw [Fun.ckRw_F (by omega) (by omega) h137] <;> (first | omega | (simp only [List.length_append, List.length_cons, List.length_nil] <;> omega))), ?_⟩
     omega
    (dsimp only; omega)
   try simp only [sps] at h122
   refine .exit ?_
   refine hK41 _ _ (.region ?_)
   obtain rfl : b = d.ckA.length := by omega
   have hrl2 := ln_L14.symm
   refine .m rfl rfl rfl (.fieldAddr fo_31_4_B rfl) ?_
   refine .m rfl rfl rfl (.load on_23_B rfl (by first | assumption | exact Mem.of_get at_Lg11 4 _ rfl)) ?_
   refine .mv rfl ?_
   refine .r rfl rfl rfl (.litR rfl sl_23_B ze_22_E rfl rfl (by omega) (by omega) rfl rfl) ?_
   rintro _ H175 ⟨g175, rfl, le175, ge175, at175⟩
   replace hle := hle.trans le175
   replace lst5 := lst5.le le175
   replace rk := rk.le le175
   replace at1 := le175.2 _ _ at1
   replace at_LC := le175.2 _ _ at_LC
   replace at_Lg11 := le175.2 _ _ at_Lg11
   replace at_L14 := le175.2 _ _ at_L14
   have lt_at175 := GHeap.ltg at175
   replace hin := base_hin.mono hle
   have hb1 : Fun.At _ g1 0 d p := ⟨Mem.of_get at1, hin⟩
   refine .r rfl rfl rfl (.appendV rfl sl_23_B ze_22_E rfl by_22_E sl_23_B rfl rfl (by assumption) (by assumption) (by first | omega | (simp <;> omega)) rfl rfl (by omega) (by omega)) ?_
   rintro _ H176 ⟨g176, rfl, st176, ge176, at176⟩
   replace hle := hle.st st176 (fun k hk => ⟨by omega, trivial⟩)
   replace lst5 := lst5.st st176 (fun k hk ho => by simp only [out, and_true] at ho ⊢ <;> first | exact ho | exact ho.1 | exact ho.2 | exact ho.2.1 | exact ho.2.2 | exact ho.2.2.1 | exact ho.2.2.2 | exact pl_LC.ne (by first | exact ho | exact ho.1 | exact ho.2 | exact ho.2.1 | exact ho.2.2 | exact ho.2.2.1 | exact ho.2.2.2 | omega) (by omega) | omega)
   replace rk := rk.st st176 (fun k hk ho => by simp only [out, and_true] at ho ⊢ <;> first | exact ho | exact ho.1 | exact ho.2 | exact ho.2.1 | exact ho.2.2 | exact ho.2.2.1 | exact ho.2.2.2 | exact pl_LC.ne (by first | exact ho | exact ho.1 | exact ho.2 | exact ho.2.1 | exact ho.2.2 | exact ho.2.2.1 | exact ho.2.2.2 | omega) (by omega) | omega)
   replace at1 := st176.same _ _ ⟨(pl_LC.ne ne_g1_g80.ne (by omega)), trivial⟩ at1
   replace at_Lg11 := st176.same _ _ ⟨(Ne.symm ap5_0), trivial⟩ at_Lg11
   replace at_L14 := st176.same _ _ ⟨(Ne.symm (pl_L14.ne ne_gLC_g118.ne (by omega))), trivial⟩ at_L14
   replace hin := base_hin.mono hle
   clear hb1
   have hb1 : Fun.At _ g1 0 d p := ⟨Mem.of_get at1, hin⟩
   refine .m rfl rfl rfl (.fieldAddr fo_31_4_B rfl) ?_
   refine .r0 rfl rfl (.storeR rfl sz_23_E rfl rfl rfl (by assumption) (by first | exact Nat.le_of_ble_eq_true rfl | (simp; done) | (simp <;> omega))) ?_
   rintro _ H38006 ⟨rfl, st38006, at38006⟩
   replace hle := hle.st st38006 (fun k hk => ⟨by omega, trivial⟩)
   replace lst5 := lst5.st st38006 (fun k hk ho => by simp only [out, and_true] at ho ⊢ <;> first | exact ho | exact ho.1 | exact ho.2 | exact ho.2.1 | exact ho.2.2 | exact ho.2.2.1 | exact ho.2.2.2 | omega)
   replace rk := rk.st st38006 (fun k hk ho => by simp only [out, and_true] at ho ⊢ <;> first | exact ho | exact ho.1 | exact ho.2 | exact ho.2.1 | exact ho.2.2 | exact ho.2.2.1 | exact ho.2.2.2 | omega)
   replace at1 := st38006.same _ _ ⟨ne_g1_g11.ne, trivial⟩ at1
   replace at_L14 := st38006.same _ _ ⟨(Ne.symm (pl_L14.ne ne_g11_g118.ne (by omega))), trivial⟩ at_L14
   replace at176 := st38006.same _ _ ⟨(by first | assumption | omega), trivial⟩ at176
   replace hin := base_hin.mono hle
   clear hb1
   have hb1 : Fun.At _ g1 0 d p := ⟨Mem.of_get at1, hin⟩
   try simp only [Nat.zero_add, List.set_cons_succ, List.set_cons_zero] at at38006
   refine .nil (hK39 _ _ (.region (.mv rfl ?_)))
   refine .m rfl rfl rfl (.add rfl rfl rfl (by omega) (by omega)) ?_
   refine .mv rfl (.nil ?_)
   refine hKL5 ((a + 1, upd rc (d.ckTb a).length (some ⟨gL14, 0, none⟩), g176)) _ _ ?_ ?_ ⟨rfl, rfl, rfl, rfl, rfl, trivial⟩
   ·
    refine ⟨lst5, by (rw [Fun.ckTb_snoc, slsL_snoc, hrl2]; assumption), by exact ⟨.inr (by omega)⟩, by assumption, by omega, ?_⟩
    have hR' := hR.st rk (.cons (hR.neT hatC rfl) (.cons (hR.neT hat11 rfl) (.nil _ _)))
    have hb1 : HL4.next ≤ gL14 := pl_L14.ge (by omega) (by omega)
    have hb2 : HL5.next ≤ gL14 := pl_L14.ge (by omega) (by omega)
    have hn1 := hR.ne (g := gL14) hb2
    have hrow := at_L14
    rw [Fun.ckTb_snoc]
    exact ⟨by omega, hR'.snoc2 hrow hn1 (by omega)⟩
   (dsimp only; omega)
  try simp only [sps] at h115
  refine .exit ?_
  refine hK35 _ _ (.seq (fun K49 hK49 => .region ?_))
  refine .m rfl rfl rfl (.loadM ag_31_D rfl ⟨rfl, Mem.of_get at_Lg11⟩) ?_
  obtain rfl : a = d.ckA.length := by omega
  have hat2 := at2
  refine .r0 rfl rfl (.fillR rfl sz_31_D rfl rfl rfl rfl (by assumption) (by first | rfl | exact Nat.le_of_ble_eq_true rfl | simp)) ?_
  rintro _ H39001 ⟨rfl, st39001, at39001⟩
  replace hle := hle.st st39001 (fun k hk => ⟨by omega, trivial⟩)
  have ne_g1_g2 : NE g1 g2 := ⟨by first | assumption | omega⟩
  replace at1 := st39001.same _ _ ⟨ne_g1_g2.ne, trivial⟩ at1
  replace at76 := st39001.same _ _ ⟨(by first | assumption | omega), trivial⟩ at76
  replace at78 := st39001.same _ _ ⟨(by first | assumption | omega), trivial⟩ at78
  replace at_LI := st39001.same _ _ ⟨(Ne.symm (pl_LI.ne ne_g2_g79.ne (by omega))), trivial⟩ at_LI
  replace at_LC := st39001.same _ _ ⟨(Ne.symm (pl_LC.ne ne_g2_g80.ne (by omega))), trivial⟩ at_LC
  replace hin := base_hin.mono hle
  have hb1 : Fun.At _ g1 0 d p := ⟨Mem.of_get at1, hin⟩
  refine .mv rfl (.nil (hK49 _ _ ?_))
  refine .ret ?_
  refine hret _ _ ?_
  refine ⟨_, _, _, _, _, rfl, ag_31_D, (by rfl), (Mem.of_get at39001), rfl, ?_⟩
  obtain ⟨e1, e2⟩ := Fun.ck_0 h19 hn8 hm40
  unfold CkNew
  rw [e1, e2]
  have hrc := ((hR.st st39001 (.cons (hR.neT hat2 rfl) (.nil _ _))).low (b' := H.next) (by omega)).done at_LC ge_LC
  have lw : ∀ g, g < HL4.next → ∀ i, i < d.ckA.length → rc i ≠ some ⟨g, 0, none⟩ := fun g hg i hi => hR.lowNe hg i (by rw [d.length_ckTb]; exact hi)
  have hx1 : g76 ≠ gLI := pl_LI.ne (by omega) (by omega)
  have hx2 : g78 ≠ gLI := pl_LI.ne (by omega) (by omega)
  exact ⟨hle, ⟨some ⟨g76, 0, none⟩, some ⟨g78, 0, none⟩, some ⟨gLI, 0, none⟩, some ⟨gLC, 0, none⟩, rc⟩, by simp [Cat.cells, Fun.ckQ, bldC, tabL], .mk (.of_at at76 (by omega)) (.of_at at78 (by omega)) (.of_at at_LI (by omega)) (hrc.keep (.of_le (.refl _)) (by omega)) (.inr rfl) (.inr rfl) (.inr rfl) (by omega) hx1 hx2 (fun i hi => by
    have hi' : i < d.ckA.length := by simpa [Fun.ckQ, bldC, tabL] using hi
    exact ⟨lw _ (by omega) i hi', lw _ (by omega) i hi', lw _ (by omega) i hi'⟩)⟩
set_option maxHeartbeats 4000000 in
theorem specConeCategory1_c {d : Fun} {p : FunP} {H : GHeap} (hin : d.In H p := by assumption) (hs : d.Small := by assumption) (hb : ¬ (d.coneL d.t.obj.toNat).length ≤ 400) :
    GCalls Try.prog 28 [.agg (d.cells p).toArray] H (CkNew H d) := by
  have hN : d.ckN = (d.coneL d.t.obj.toNat).length := rfl
  refine GCalls.body (N := 179) (rs := [.cell 2 31, .tmp 3]) Try.func28 rfl rfl rfl rfl (fun Qx hret hend => ?_)
  refine .forget (fr' := [(0, some _)]) ⟨rfl, trivial⟩ ?_
  have hle := GHeap.Le.refl H
  have base_hin := hin
  refine .seq (fun K1 hK1 => .region ?_)
  refine .r rfl rfl rfl (.boxR rfl sz_33_E rfl) ?_
  rintro _ H1 ⟨g1, rfl, le1, ge1, at1⟩
  replace hle := hle.trans le1
  have lt_at1 := GHeap.ltg at1
  replace hin := base_hin.mono hle
  have hb1 : Fun.At _ g1 0 d p := ⟨Mem.of_get at1, hin⟩
  refine .r rfl rfl rfl (.allocR rfl ze_31_E rfl) ?_
  rintro _ H2 ⟨g2, rfl, le2, ge2, at2⟩
  replace hle := hle.trans le2
  replace at1 := le2.2 _ _ at1
  replace hin := base_hin.mono hle
  clear hb1
  have hb1 : Fun.At _ g1 0 d p := ⟨Mem.of_get at1, hin⟩
  have hi1 := hb1.2
  refine .mv rfl (.nil (hK1 _ _ (.seq (fun K2 hK2 => .seq (fun K3 hK3 => .region ?_)))))
  refine .m rfl rfl rfl (.loadM ag_33_E rfl ⟨rfl, Mem.of_get at1⟩) ?_
  refine .callQ rfl rfl rfl rfl @Try.call51 rfl (l06Is_c) ?_
  refine .m rfl rfl rfl (.not rfl) (.nil (hK3 _ _ ?_))
  refine .cond rfl (fun h19 => ?_) (fun h19 => ?_)
  ·
   simp only [sps] at h19
   refine .seq (fun K4 hK4 => .region (.m rfl rfl rfl (.build bt_31_Hj rfl rfl rfl) ?_))
   refine .r0 rfl rfl (.fillR rfl sz_31_D rfl rfl rfl rfl (by assumption) (by first | rfl | exact Nat.le_of_ble_eq_true rfl | simp)) ?_
   rintro _ H2001 ⟨rfl, st2001, at2001⟩
   replace hle := hle.st st2001 (fun k hk => ⟨by omega, trivial⟩)
   have ne_g1_g2 : NE g1 g2 := ⟨by first | assumption | omega⟩
   replace at1 := st2001.same _ _ ⟨ne_g1_g2.ne, trivial⟩ at1
   replace hin := base_hin.mono hle
   clear hb1 hi1
   have hb1 : Fun.At _ g1 0 d p := ⟨Mem.of_get at1, hin⟩
   refine .mv rfl (.nil (hK4 _ _ ?_))
   refine .ret ?_
   refine hret _ _ ?_
   refine ⟨_, _, _, _, _, rfl, ag_31_D, (by rfl), (Mem.of_get at2001), rfl, ?_⟩
   obtain ⟨e1, e2⟩ := Fun.ck_1 h19
   unfold CkNew
   rw [e1, e2]
   exact ⟨hle, .zero, rfl, .zero _ _⟩
  simp only [sps] at h19
  refine .skip ?_
  refine hK2 _ _ (.seq (fun K5 hK5 => .region ?_))
  refine .m rfl rfl rfl (.loadM ag_33_E rfl ⟨rfl, Mem.of_get at1⟩) ?_
  refine .callQ rfl rfl rfl rfl @Try.call52 rfl (l12List1_c (hin := by assumption) (hs := hs) (hI := h19) (hb := hb)) ?_
  refine .mv rfl (.m rfl rfl rfl (.extract rfl rfl) (.m rfl rfl rfl (.extract rfl rfl) (.mv rfl (.mv rfl (.nil (hK5 _ _ (.seq (fun K6 hK6 => .seq (fun K7 hK7 => .region (.mv rfl (.m rfl rfl rfl (.cmp rfl rfl rfl) (.nil (hK7 _ _ ?_)))))))))))))
  refine .cond rfl (fun h27 => ?_) (fun h27 => ?_)
  ·
   try simp only [sps] at h27
   refine .seq (fun K8 hK8 => .region (.m rfl rfl rfl (.build bt_31_Hj rfl rfl rfl) (.mv rfl ?_)))
   refine .r0 rfl rfl (.fillR rfl sz_31_D rfl rfl rfl rfl (by assumption) (by first | rfl | exact Nat.le_of_ble_eq_true rfl | simp)) ?_
   rintro _ H5002 ⟨rfl, st5002, at5002⟩
   replace hle := hle.st st5002 (fun k hk => ⟨by omega, trivial⟩)
   have ne_g1_g2 : NE g1 g2 := ⟨by first | assumption | omega⟩
   replace at1 := st5002.same _ _ ⟨ne_g1_g2.ne, trivial⟩ at1
   replace hin := base_hin.mono hle
   have hb1 : Fun.At _ g1 0 d p := ⟨Mem.of_get at1, hin⟩
   refine .mv rfl (.nil (hK8 _ _ ?_))
   refine .ret ?_
   refine hret _ _ ?_
   refine ⟨_, _, _, _, _, rfl, ag_31_D, (by rfl), (Mem.of_get at5002), rfl, ?_⟩
   obtain ⟨e1, e2⟩ := Fun.ck_3 h19 (fun h => by have := h.1; omega)
   unfold CkNew
   rw [e1, e2]
   exact ⟨hle, .zero, rfl, .zero _ _⟩
  exact absurd h27 (by decide)
theorem specConeCategory_c {d : Fun} {p : FunP} {H : GHeap} (hin : d.In H p := by assumption) (hs : d.Small := by assumption) :
    GCalls Try.prog 28 [.agg (d.cells p).toArray] H (CkNew H d) := by
  by_cases hb : (d.coneL d.t.obj.toNat).length ≤ 400
  · exact specConeCategory0_c hin hs hb
  · exact specConeCategory1_c hin hs hb
end Go.Proofs.Ytagkeabmdodfiaa
namespace Go.Proofs.Ytagkeabmdodfiaa
open Go Go.GL Go.RowKit Go.Proofs
theorem ze_22_Tb : zeroT Try.prog 22 = some ([.slice none 0 0], 1) := by kernel_rfl
theorem by_22_Tb : (Try.prog.info? 22).map (·.bytes) = some 24 := by kernel_rfl
theorem sz_23_Tb : (Try.prog.info? 23).map (·.size) = some 1 := by kernel_rfl
theorem ze_2_Tb : zeroT Try.prog 2 = some ([.int .i64 0], 1) := by kernel_rfl
theorem by_2_Tb : (Try.prog.info? 2).map (·.bytes) = some 8 := by kernel_rfl
theorem sz_22_Tb : (Try.prog.info? 22).map (·.size) = some 1 := by kernel_rfl
theorem sz_2_Tb : (Try.prog.info? 2).map (·.size) = some 1 := by kernel_rfl
theorem arrowsN_c {g : Nat} {ob : Int} {a1 a2 : Option Addr} {n : Nat} {v3 v4 : Value} {rest : List Value} {T : TypeId} {H : GHeap} (hg : H.get g = some (.row (.int .i64 ob :: .slice a1 n n :: .slice a2 n n :: v3 :: v4 :: rest) T true)) :
    GCalls Try.prog 104 [.pointer (some ⟨g, 0, none⟩)] H (Ret (.int .i64 (n : Int)) H) := by
  refine GCalls.body (N := 8) (rs := [.tmp 2]) Try.func104 rfl rfl rfl rfl (fun Qx hret hend => ?_)
  refine .forget (fr' := [(0, some _)]) ⟨rfl, trivial⟩ ?_
  have hle := GHeap.Le.refl H
  have lt_hg := GHeap.ltg hg
  refine .seq (fun K1 hK1 => .region (.mv rfl (.nil (hK1 _ _ (.seq (fun K2 hK2 => .region (.mv rfl (.m rfl rfl rfl (.nilCheck rfl) (.m rfl rfl rfl (.fieldAddr fo_31_1_B rfl) ?_)))))))))
  refine .m rfl rfl rfl (.load on_22_B rfl (by first | assumption | exact Mem.of_get hg 1 _ rfl)) ?_
  refine .m rfl rfl rfl (.len sl_22_A rfl) (.mv rfl (.nil (hK2 _ _ ?_)))
  refine .ret ?_
  refine hret _ _ ?_
  refine ⟨_, rfl, ?_⟩
  exact .mk
set_option maxHeartbeats 4000000 in
theorem tableG_c {g n fn : Nat} {ob : Int} {a1 a2 : Option Addr} {v3 v4 : Value} {rest : List Value} {T : TypeId} {src tgt : List Int} {cap : Array Value} {X : Nat → Nat → Int} {H : GHeap} (hg : H.get g = some (.row (.int .i64 ob :: .slice a1 n n :: .slice a2 n n :: v3 :: v4 :: rest) T true)) (h1 : src.length = n) (h2 : tgt.length = n) (hn : n ≤ 1048576)
    (k1 : ∀ H', St [g] H H' → Ints H' a1 src) (k2 : ∀ H', St [g] H H' → Ints H' a2 tgt)
    (hcall : ∀ (xs : Array Value) (w : World), (callFunc fn xs).run Try.prog w = .ok (.enter fn xs) w)
    (hq : ∀ H' v, St [g] H H' → H'.get g = some (.row (.int .i64 ob :: .slice a1 n n :: .slice a2 n n :: v3 :: v :: rest) T true) → ∀ i j : Nat, i < n → j < n → tgt.getD i 0 = src.getD j 0 → GCalls Try.prog fn ([.int .i64 (i : Int), .int .i64 (j : Int)] ++ cap.toList) H' (fun v H'' => H'.Le H'' ∧ v = .int .i64 (X i j))) :
    GCalls Try.prog 62 [.pointer (some ⟨g, 0, none⟩), .func (.func fn) #[] cap] H (fun _ H' => St [g] H H' ∧ ∃ gC r, H'.get g = some (.row (.int .i64 ob :: .slice a1 n n :: .slice a2 n n :: v3 :: .slice (some ⟨gC, 0, none⟩) n n :: rest) T true) ∧ H.next ≤ gC ∧
      IntssR H.next H' (some ⟨gC, 0, none⟩) (tabL src tgt X n) r ∧ ∀ i, i < n → ∀ x, r i = some ⟨x, 0, none⟩ → H.next ≤ x) := by
  refine GCalls.body (N := 80) (rs := []) Try.func62 rfl rfl rfl rfl (fun Qx hret hend => ?_)
  refine .forget (fr' := [(0, some _), (1, some _)]) ⟨rfl, rfl, trivial⟩ ?_
  have lt_hg := GHeap.ltg hg
  have hst := St.refl [g] H
  refine .seq (fun K1 hK1 => .region (.mv rfl ?_))
  refine .callQ rfl rfl rfl rfl @Try.call104 rfl (arrowsN_c (by assumption)) ?_
  refine .mv rfl (.nil (hK1 _ _ (.seq (fun K2 hK2 => .region (.mv rfl (.mv rfl ?_))))))
  refine .r rfl rfl rfl (.makeV rfl sl_23_B ze_22_Tb by_22_Tb rfl rfl rfl (by omega) (by omega) (by omega) (by omega)) ?_
  rintro _ H11 ⟨g11, rfl, le11, ge11, at11⟩
  replace hst := hst.le le11
  replace hg := le11.2 _ _ hg
  refine .m rfl rfl rfl (.nilCheck rfl) (.m rfl rfl rfl (.fieldAddr fo_31_4_B rfl) ?_)
  simp only [Int.toNat_natCast] at at11
  refine .r0 rfl rfl (.storeR rfl sz_23_Tb rfl rfl rfl (by assumption) (by first | exact Nat.le_of_ble_eq_true rfl | (simp; done) | (simp <;> omega))) ?_
  rintro _ H1005 ⟨rfl, st1005, at1005⟩
  replace hst := hst.st st1005 (fun k hk ho => by simp only [out, and_true] at ho ⊢ <;> first | exact ho | exact ho.1 | exact ho.2 | exact ho.2.1 | exact ho.2.2 | exact ho.2.2.1 | exact ho.2.2.2 | omega)
  have ne_g11_g : NE g11 g := ⟨by first | assumption | omega⟩
  replace at11 := st1005.same _ _ ⟨ne_g11_g.ne, trivial⟩ at11
  have lt_at1005 := GHeap.ltg at1005
  try simp only [Nat.zero_add, List.set_cons_succ, List.set_cons_zero] at at1005
  simp only [Int.toNat_natCast] at at1005
  refine .nil (hK2 _ _ (.seq (fun K3 hK3 => .region (.mv rfl (.m rfl rfl rfl (.nilCheck rfl) (.m rfl rfl rfl (.fieldAddr fo_31_4_B rfl) ?_))))))
  refine .m rfl rfl rfl (.load on_23_B rfl (by first | assumption | exact Mem.of_get at1005 4 _ rfl)) ?_
  refine .m rfl rfl rfl (.len sl_23_B rfl) (.mv rfl (.nil (hK3 _ _ ?_)))
  refine .block ?_
  refine .loopR (σ := Nat × (Nat → Option Addr)) [(0, some _), (1, some _), (4, some _), (18, some _)] (fun (k, rr) => [(19, some (.int .i64 (k : Int)))]) (fun (k, rr) H' => St [g11] H1005 H' ∧ H'.get g11 = some (.row ((fillS rr n k)) 22 true) ∧ k ≤ n ∧ OwnRows H.next H' 2 rr (tabR src tgt X n) k) (fun (k, rr) => n - k) ((0, fun _ => none)) ⟨rfl, rfl, rfl, rfl, trivial⟩ ⟨rfl, trivial⟩ ?_ ?_
  ·
   refine ⟨.refl _ _, by first | assumption | (rw [fillS_zero]; simpa using at11), ?_⟩
   exact ⟨by omega, .zero _ _ _ _ _⟩
  rintro ⟨k, rr⟩ HL1 ⟨lst1, at_Lg11, hI⟩ KL1 hKL1
  refine .forget (fr' := [(19, some (.int .i64 (k : Int))), (0, some _), (1, some _), (4, some _), (18, some _)]) ⟨rfl, rfl, rfl, rfl, rfl, trivial⟩ ?_
  have nx_HL1 := lst1.nx
  replace hst := hst.st lst1 (fun k hk ho => by simp only [out, and_true] at ho ⊢ <;> first | exact ho | exact ho.1 | exact ho.2 | exact ho.2.1 | exact ho.2.2 | exact ho.2.2.1 | exact ho.2.2.2 | omega)
  replace at1005 := lst1.same _ _ ⟨(Ne.symm ne_g11_g.ne), trivial⟩ at1005
  have lt_at_Lg11 := GHeap.ltg at_Lg11
  have i1 := k1 _ hst
  have i2 := k2 _ hst
  have j1 := i1.slN h1
  have j2 := i2.slN h2
  have rk := St.refl [g11] HL1
  obtain ⟨hk, hR⟩ := hI
  have hatC := at_Lg11
  refine .seq (fun K4 hK4 => .region (.m rfl rfl rfl (.cmp rfl rfl rfl) (.nil (hK4 _ _ (.seq (fun K5 hK5 => ?_))))))
  refine .cond rfl (fun h20 => ?_) (fun h20 => ?_)
  ·
   simp only [sps] at h20
   refine .skip ?_
   refine hK5 _ _ (.seq (fun K6 hK6 => ?_))
   refine .block ?_
   refine .seq (fun K7 hK7 => .region (.mv rfl (.mv rfl (.nil (hK7 _ _ (.seq (fun K8 hK8 => ?_)))))))
   refine .regionD mo_B (.q 0 (.q 1 (.q 2 (.q 3 (.q 4 (.q 5 (.c 6 1 (.q 7 (.c 8 0 (.done)))))))))) (by kernel_rfl) ?_
   refine .mv rfl rfl (.m rfl rfl rfl rfl (.refl _) (.nilCheck rfl) (.m rfl rfl rfl rfl (.refl _) (.fieldAddr fo_31_4_B rfl) ?_))
   refine .m rfl rfl rfl rfl (.refl _) (.load on_23_B rfl (by first | assumption | exact Mem.of_get at1005 4 _ rfl)) ?_
   refine .mv rfl rfl (.mv rfl rfl ?_)
   refine .c1 rfl rfl rfl rfl (.makeI rfl sl_22_A ze_2_Tb by_2_Tb rfl rfl (by omega) (by omega) (by omega) (by omega)) ?_
   rintro _ H28 ⟨g28, rfl, le28, ge28, at28⟩
   have hbl := le28
   refine ⟨hbl, ?_⟩
   replace hst := hst.le le28
   replace lst1 := lst1.le le28
   replace rk := rk.le le28
   replace at1005 := le28.2 _ _ at1005
   replace at_Lg11 := le28.2 _ _ at_Lg11
   clear i1 i2 j1 j2
   refine .m rfl rfl rfl rfl hbl (.idxN sl_23_B (by first | exact (Intss.sl (by assumption)) | exact SlA.of_row at_Lg11 (by first | rfl | (simp; done) | (simp <;> omega))) rfl rfl (by omega)) ?_
   refine .r0 rfl rfl rfl (.storeR rfl sz_22_Tb rfl rfl rfl (by assumption) (by first | exact Nat.le_of_ble_eq_true rfl | (simp; done) | (simp <;> omega))) ?_
   rintro _ H5008 ⟨rfl, st5008, at5008⟩
   replace hst := hst.st st5008 (fun k hk ho => by simp only [out, and_true] at ho ⊢ <;> first | exact ho | exact ho.1 | exact ho.2 | exact ho.2.1 | exact ho.2.2 | exact ho.2.2.1 | exact ho.2.2.2 | omega)
   replace lst1 := lst1.st st5008 (fun k hk ho => by simp only [out, and_true] at ho ⊢ <;> first | exact ho | exact ho.1 | exact ho.2 | exact ho.2.1 | exact ho.2.2 | exact ho.2.2.1 | exact ho.2.2.2 | omega)
   replace rk := rk.st st5008 (fun k hk ho => by simp only [out, and_true] at ho ⊢ <;> first | exact ho | exact ho.1 | exact ho.2 | exact ho.2.1 | exact ho.2.2 | exact ho.2.2.1 | exact ho.2.2.2 | omega)
   replace at1005 := st5008.same _ _ ⟨(Ne.symm ne_g11_g.ne), trivial⟩ at1005
   have ne_g28_g11 : NE g28 g11 := ⟨by first | assumption | omega⟩
   replace at28 := st5008.same _ _ ⟨ne_g28_g11.ne, trivial⟩ at28
   simp only [Int.toNat_natCast, Nat.zero_add] at at5008 at28
   rw [fillS_set (by omega)] at at5008
   have cC := fillS_cell (i := k) at5008 (by omega) (by omega)
   refine .done ?_
   refine hK8 _ _ (.seq (fun K9 hK9 => .region (.mv rfl (.m rfl rfl rfl (.nilCheck rfl) (.m rfl rfl rfl (.fieldAddr fo_31_4_B rfl) ?_)))))
   refine .m rfl rfl rfl (.load on_23_B rfl (by first | assumption | exact Mem.of_get at1005 4 _ rfl)) ?_
   refine .mv rfl ?_
   refine .m rfl rfl rfl (.idxN sl_23_B (by first | exact (Intss.sl (by assumption)) | exact SlA.of_row at5008 (by first | rfl | (simp; done) | (simp <;> omega))) rfl rfl (by omega)) ?_
   refine .m rfl rfl rfl (.load on_22_B rfl (by rw [upd_eq] at cC; exact cC)) ?_
   refine .m rfl rfl rfl (.len sl_22_A rfl) (.mv rfl (.nil (hK9 _ _ ?_)))
   refine .block ?_
   refine .loopR (σ := Nat) [(0, some _), (1, some _), (4, some _), (5, some _), (18, some _), (19, some _), (37, some _)] (fun j => [(38, some (.int .i64 (j : Int)))]) (fun j H' => St [g28] H5008 H' ∧ H'.get g28 = some (.row (ints (fillI (tabC src tgt X k) n j)) 2 true) ∧ j ≤ n) (fun j => n - j) (0) ⟨rfl, rfl, rfl, rfl, rfl, rfl, rfl, trivial⟩ ⟨rfl, trivial⟩ ?_ ?_
   ·
    refine ⟨.refl _ _, by (rw [fillI_zero]; simpa using at28), ?_⟩
    omega
   rintro j HL2 ⟨lst2, at_Lg28, hI⟩ KL2 hKL2
   refine .forget (fr' := [(38, some (.int .i64 (j : Int))), (0, some _), (1, some _), (4, some _), (5, some _), (18, some _), (19, some _), (37, some _)]) ⟨rfl, rfl, rfl, rfl, rfl, rfl, rfl, rfl, trivial⟩ ?_
   replace hst := hst.st lst2 (fun k hk ho => by simp only [out, and_true] at ho ⊢ <;> first | exact ho | exact ho.1 | exact ho.2 | exact ho.2.1 | exact ho.2.2 | exact ho.2.2.1 | exact ho.2.2.2 | omega)
   replace lst1 := lst1.st lst2 (fun k hk ho => by simp only [out, and_true] at ho ⊢ <;> first | exact ho | exact ho.1 | exact ho.2 | exact ho.2.1 | exact ho.2.2 | exact ho.2.2.1 | exact ho.2.2.2 | omega)
   replace rk := rk.st lst2 (fun k hk ho => by simp only [out, and_true] at ho ⊢ <;> first | exact ho | exact ho.1 | exact ho.2 | exact ho.2.1 | exact ho.2.2 | exact ho.2.2.1 | exact ho.2.2.2 | omega)
   have ne_g_g28 : NE g g28 := ⟨by first | assumption | omega⟩
   replace at1005 := lst2.same _ _ ⟨ne_g_g28.ne, trivial⟩ at1005
   replace at5008 := lst2.same _ _ ⟨(Ne.symm ne_g28_g11.ne), trivial⟩ at5008
   have i1 := k1 _ hst
   have i2 := k2 _ hst
   have j1 := i1.slN h1
   have j2 := i2.slN h2
   clear cC
   have cC := fillS_cell (i := k) at5008 (by omega) (by omega)
   refine .seq (fun K10 hK10 => .region (.m rfl rfl rfl (.cmp rfl rfl rfl) (.nil (hK10 _ _ (.seq (fun K11 hK11 => ?_))))))
   refine .cond rfl (fun h39 => ?_) (fun h39 => ?_)
   ·
    simp only [sps] at h39
    refine .skip ?_
    refine hK11 _ _ (.seq (fun K12 hK12 => ?_))
    refine .block ?_
    refine .seq (fun K13 hK13 => .region (.mv rfl (.mv rfl (.nil (hK13 _ _ (.seq (fun K14 hK14 => .region (.mv rfl (.m rfl rfl rfl (.nilCheck rfl) (.m rfl rfl rfl (.fieldAddr fo_31_4_B rfl) ?_))))))))))
    refine .m rfl rfl rfl (.load on_23_B rfl (by first | assumption | exact Mem.of_get at1005 4 _ rfl)) ?_
    refine .mv rfl ?_
    refine .m rfl rfl rfl (.idxN sl_23_B (by first | exact (Intss.sl (by assumption)) | exact SlA.of_row at5008 (by first | rfl | (simp; done) | (simp <;> omega))) rfl rfl (by omega)) ?_
    refine .m rfl rfl rfl (.load on_22_B rfl (by rw [upd_eq] at cC; exact cC)) ?_
    refine .mv rfl ?_
    refine .m rfl rfl rfl (.idxN sl_22_A (by first | assumption | exact SlA.of_row at_Lg28 (by first | rfl | (simp; done) | (simp <;> omega))) rfl rfl (by omega)) ?_
    refine .r0 rfl rfl (.storeI rfl sz_2_Tb rfl rfl (by assumption) (by first | omega | (simp <;> omega))) ?_
    rintro _ H9009 ⟨rfl, st9009, at9009⟩
    replace hst := hst.st st9009 (fun k hk ho => by simp only [out, and_true] at ho ⊢ <;> first | exact ho | exact ho.1 | exact ho.2 | exact ho.2.1 | exact ho.2.2 | exact ho.2.2.1 | exact ho.2.2.2 | omega)
    replace lst2 := lst2.st st9009 (fun k hk ho => by simp only [out, and_true] at ho ⊢ <;> first | exact ho | exact ho.1 | exact ho.2 | exact ho.2.1 | exact ho.2.2 | exact ho.2.2.1 | exact ho.2.2.2 | omega)
    replace at1005 := st9009.same _ _ ⟨ne_g_g28.ne, trivial⟩ at1005
    replace at5008 := st9009.same _ _ ⟨(Ne.symm ne_g28_g11.ne), trivial⟩ at5008
    clear i1 i2 j1 j2
    have i1 := k1 _ hst
    have i2 := k2 _ hst
    have j1 := i1.slN h1
    have j2 := i2.slN h2
    clear cC
    have cC := fillS_cell (i := k) at5008 (by omega) (by omega)
    refine .nil (hK14 _ _ (.seq (fun K15 hK15 => ?_)))
    refine .regionD mo_B (.q 0 (.q 1 (.q 2 (.q 3 (.q 4 (.q 5 (.q 6 (.q 7 (.q 8 (.q 9 (.q 10 (.q 11 (.q 12 (.q 13 (.q 14 (.done)))))))))))))))) (by kernel_rfl) ?_
    refine .mv rfl rfl (.m rfl rfl rfl rfl (.refl _) (.nilCheck rfl) (.m rfl rfl rfl rfl (.refl _) (.fieldAddr fo_31_2_B rfl) ?_))
    refine .m rfl rfl rfl rfl (.refl _) (.load on_22_B rfl (by first | assumption | exact Mem.of_get at1005 2 _ rfl)) ?_
    refine .mv rfl rfl ?_
    refine .m rfl rfl rfl rfl (.refl _) (.idxN sl_22_A (by assumption) rfl rfl (by omega)) ?_
    refine .m rfl rfl rfl rfl (.refl _) (.loadI on_2_A (by assumption) rfl (by omega)) ?_
    refine .mv rfl rfl (.m rfl rfl rfl rfl (.refl _) (.nilCheck rfl) (.m rfl rfl rfl rfl (.refl _) (.fieldAddr fo_31_1_B rfl) ?_))
    refine .m rfl rfl rfl rfl (.refl _) (.load on_22_B rfl (by first | assumption | exact Mem.of_get at1005 1 _ rfl)) ?_
    refine .mv rfl rfl ?_
    refine .m rfl rfl rfl rfl (.refl _) (.idxN sl_22_A (by assumption) rfl rfl (by omega)) ?_
    refine .m rfl rfl rfl rfl (.refl _) (.loadI on_2_A (by assumption) rfl (by omega)) ?_
    refine .m rfl rfl rfl rfl (.refl _) (.cmp rfl rfl rfl) ?_
    refine .done ?_
    refine hK15 _ _ ?_
    refine .cond rfl (fun h64 => ?_) (fun h64 => ?_)
    ·
     simp only [sps] at h64
     refine .regionD mo_B (.q 0 (.q 1 (.q 2 (.q 3 (.q 4 (.q 5 (.q 6 (.q 7 (.q 8 (.q 9 (.q 10 (.c 11 1 (.q 12 (.c 13 0 (.done))))))))))))))) (by kernel_rfl) ?_
     refine .mv rfl rfl (.m rfl rfl rfl rfl (.refl _) (.nilCheck rfl) (.m rfl rfl rfl rfl (.refl _) (.fieldAddr fo_31_4_B rfl) ?_))
     refine .m rfl rfl rfl rfl (.refl _) (.load on_23_B rfl (by first | assumption | exact Mem.of_get at1005 4 _ rfl)) ?_
     refine .mv rfl rfl ?_
     refine .m rfl rfl rfl rfl (.refl _) (.idxN sl_23_B (by first | exact (Intss.sl (by assumption)) | exact SlA.of_row at5008 (by first | rfl | (simp; done) | (simp <;> omega))) rfl rfl (by omega)) ?_
     refine .m rfl rfl rfl rfl (.refl _) (.load on_22_B rfl (by rw [upd_eq] at cC; exact cC)) ?_
     refine .mv rfl rfl (.mv rfl rfl (.mv rfl rfl (.mv rfl rfl ?_)))
     refine .callV1 rfl rfl rfl rfl rfl rfl hcall rfl ((hq _ _ hst at1005 k j (by omega) (by omega) h64)) ?_
     rintro _ H76 ⟨le76, rfl⟩
     have hbl := le76
     refine ⟨hbl, ?_⟩
     replace lst2 := lst2.le le76
     replace at9009 := le76.2 _ _ at9009
     clear i1 i2 j1 j2
     clear cC
     refine .m rfl rfl rfl rfl hbl (.idxN sl_22_A (by first | assumption | exact SlA.of_row at9009 (by first | rfl | (simp; done) | (simp <;> omega))) rfl rfl (by omega)) ?_
     refine .r0 rfl rfl rfl (.storeI rfl sz_2_Tb rfl rfl (by assumption) (by first | omega | (simp <;> omega))) ?_
     rintro _ H11013 ⟨rfl, st11013, at11013⟩
     replace lst2 := lst2.st st11013 (fun k hk ho => by simp only [out, and_true] at ho ⊢ <;> first | exact ho | exact ho.1 | exact ho.2 | exact ho.2.1 | exact ho.2.2 | exact ho.2.2.1 | exact ho.2.2.2 | omega)
     refine .done ?_
     refine hK12 _ _ (.region ?_)
     refine .m rfl rfl rfl (.add rfl rfl rfl (by omega) (by omega)) ?_
     refine .mv rfl (.nil ?_)
     refine hKL2 (j + 1) _ _ ?_ ?_ ⟨rfl, rfl, rfl, rfl, rfl, rfl, rfl, rfl, trivial⟩
     ·
      refine ⟨lst2, by first | assumption | (rw [← fillI_set (by omega) (tabC_F h64).symm]; simpa using at9009) | (rw [← fillI_set (by omega) (tabC_T h64).symm, ← List.set_set (-1)]; simpa using at11013), ?_⟩
      omega
     omega
    simp only [sps] at h64
    refine .skip ?_
    refine hK12 _ _ (.region ?_)
    refine .m rfl rfl rfl (.add rfl rfl rfl (by omega) (by omega)) ?_
    refine .mv rfl (.nil ?_)
    refine hKL2 (j + 1) _ _ ?_ ?_ ⟨rfl, rfl, rfl, rfl, rfl, rfl, rfl, rfl, trivial⟩
    ·
     refine ⟨lst2, by first | assumption | (rw [← fillI_set (by omega) (tabC_F h64).symm]; simpa using at9009) | (rw [← fillI_set (by omega) (tabC_T h64).symm, ← List.set_set (-1)]; simpa using at11013), ?_⟩
     omega
    omega
   try simp only [sps] at h39
   refine .exit ?_
   refine hK6 _ _ (.region ?_)
   refine .m rfl rfl rfl (.add rfl rfl rfl (by omega) (by omega)) ?_
   refine .mv rfl (.nil ?_)
   obtain rfl : j = n := by omega
   refine hKL1 ((k + 1, upd rr k (some ⟨g28, 0, none⟩))) _ _ ?_ ?_ ⟨rfl, rfl, rfl, rfl, rfl, trivial⟩
   ·
    refine ⟨lst1, by assumption, ?_⟩
    exact ⟨by omega, hR.succ rk hatC rfl (by rw [tabR, ← fillI_all]; assumption) (by omega) (by omega)⟩
   (dsimp only; omega)
  try simp only [sps] at h20
  refine .exit ?_
  refine hend _ _ ?_
  obtain rfl : k = n := by omega
  exact ⟨hst, g11, rr, at1005, by omega, (OwnRows.done hR (by rw [← fillS_all (fun i _ => length_tabR _ _ _ _ _)]; exact at_Lg11) (by omega)), fun i hi x hx => by obtain ⟨y, y1, y2, _⟩ := hR.row i hi; rw [y1] at hx; cases hx; exact y2⟩
theorem tableO_c {g n fn : Nat} {ob : Int} {a1 a2 : Option Addr} {v3 v4 : Value} {src tgt : List Int} {cap : Array Value} {X : Nat → Nat → Int} {H : GHeap} (hg : H.get g = some (.row [.int .i64 ob, .slice a1 n n, .slice a2 n n, v3, v4] 31 true)) (h1 : src.length = n) (h2 : tgt.length = n) (hn : n ≤ 1048576)
    (k1 : ∀ H', St [g] H H' → Ints H' a1 src) (k2 : ∀ H', St [g] H H' → Ints H' a2 tgt)
    (hcall : ∀ (xs : Array Value) (w : World), (callFunc fn xs).run Try.prog w = .ok (.enter fn xs) w)
    (hq : ∀ H' v, St [g] H H' → H'.get g = some (.row [.int .i64 ob, .slice a1 n n, .slice a2 n n, v3, v] 31 true) → ∀ i j : Nat, i < n → j < n → tgt.getD i 0 = src.getD j 0 → GCalls Try.prog fn ([.int .i64 (i : Int), .int .i64 (j : Int)] ++ cap.toList) H' (fun v H'' => H'.Le H'' ∧ v = .int .i64 (X i j))) :
    GCalls Try.prog 62 [.pointer (some ⟨g, 0, none⟩), .func (.func fn) #[] cap] H (fun _ H' => St [g] H H' ∧ ∃ gC r, H'.get g = some (.row [.int .i64 ob, .slice a1 n n, .slice a2 n n, v3, .slice (some ⟨gC, 0, none⟩) n n] 31 true) ∧ H.next ≤ gC ∧
      IntssR H.next H' (some ⟨gC, 0, none⟩) (tabL src tgt X n) r ∧ ∀ i, i < n → ∀ x, r i = some ⟨x, 0, none⟩ → H.next ≤ x) :=
  tableG_c (rest := []) hg h1 h2 hn k1 k2 hcall hq
end Go.Proofs.Ytagkeabmdodfiaa
namespace Go.Proofs.Ytagkeabmdodfiaa
open Go Go.GL Go.RowKit Go.Proofs
end Go.Proofs.Ytagkeabmdodfiaa
namespace Go.Proofs.Ytagkeabmdodfiaa
open Go Go.GL Go.RowKit Go.Proofs
end Go.Proofs.Ytagkeabmdodfiaa
namespace Go.Proofs.Ytagkeabmdodfiaa
open Go Go.GL Go.RowKit Go.Proofs
end Go.Proofs.Ytagkeabmdodfiaa
