/- Collages: lists shifted, where an element's arrow lies. No condition. -/
import Derived.Test.YtdjodpdmbklfhaaZ9
namespace Go.GL
theorem shift_take {xs : List Int} {b : Int} {k : Nat} (h : k < xs.length) : (xs.map (· + b)).take (k + 1) = (xs.map (· + b)).take k ++ [xs.getD k 0 + b] := by
  rw [List.take_add_one, List.getElem?_map, List.getElem?_eq_getElem h, List.getD_eq_getElem?_getD, List.getElem?_eq_getElem h]; rfl
theorem nest3_len {α : Type} {pr : Nat → Nat → Nat → α} {s1 : Nat → Nat} {s2 : Nat → Nat → Nat} {k t : Nat} : ∀ {u}, (nest3 pr s1 s2 k t u).length = (nest3 pr s1 s2 k t 0).length + u
  | 0 => rfl
  | u + 1 => by rw [nest3_snoc, List.length_append, nest3_len (u := u)]; simp; omega
theorem nest3_pre3 {α : Type} {pr : Nat → Nat → Nat → α} {s1 : Nat → Nat} {s2 : Nat → Nat → Nat} {k t u : Nat} : ∀ j, nest3 pr s1 s2 k t u <+: nest3 pr s1 s2 k t (u + j)
  | 0 => List.prefix_refl _
  | j + 1 => by rw [← Nat.add_assoc, nest3_snoc]; exact (nest3_pre3 j).trans (List.prefix_append _ _)
theorem nest3_pre2 {α : Type} {pr : Nat → Nat → Nat → α} {s1 : Nat → Nat} {s2 : Nat → Nat → Nat} {k t : Nat} : ∀ j, nest3 pr s1 s2 k t 0 <+: nest3 pr s1 s2 k (t + j) 0
  | 0 => List.prefix_refl _
  | j + 1 => by
    rw [← Nat.add_assoc, nest3_next2]
    have := nest3_pre3 (pr := pr) (s1 := s1) (s2 := s2) (k := k) (t := t + j) (u := 0) (s2 k (t + j))
    rw [Nat.zero_add] at this
    exact (nest3_pre2 j).trans this
theorem nest3_pre1 {α : Type} {pr : Nat → Nat → Nat → α} {s1 : Nat → Nat} {s2 : Nat → Nat → Nat} {k : Nat} : ∀ j, nest3 pr s1 s2 k 0 0 <+: nest3 pr s1 s2 (k + j) 0 0
  | 0 => List.prefix_refl _
  | j + 1 => by
    rw [← Nat.add_assoc, nest3_next1]
    have := nest3_pre2 (pr := pr) (s1 := s1) (s2 := s2) (k := k + j) (t := 0) (s1 (k + j))
    rw [Nat.zero_add] at this
    exact (nest3_pre1 j).trans this
theorem nest3_preR {α : Type} {pr : Nat → Nat → Nat → α} {s1 : Nat → Nat} {s2 : Nat → Nat → Nat} {n k t : Nat} (hk : k < n) (ht : t ≤ s1 k) : nest3 pr s1 s2 k t 0 <+: nest3 pr s1 s2 n 0 0 := by
  have h2 := nest3_pre2 (pr := pr) (s1 := s1) (s2 := s2) (k := k) (t := t) (s1 k - t)
  rw [show t + (s1 k - t) = s1 k by omega, ← nest3_next1] at h2
  have h3 := nest3_pre1 (pr := pr) (s1 := s1) (s2 := s2) (k := k + 1) (n - (k + 1))
  rw [show k + 1 + (n - (k + 1)) = n by omega] at h3
  exact h2.trans h3
theorem nest3_pre {α : Type} {pr : Nat → Nat → Nat → α} {s1 : Nat → Nat} {s2 : Nat → Nat → Nat} {n k t u : Nat} (hk : k < n) (ht : t < s1 k) (hu : u ≤ s2 k t) : nest3 pr s1 s2 k t u <+: nest3 pr s1 s2 n 0 0 := by
  have h1 := nest3_pre3 (pr := pr) (s1 := s1) (s2 := s2) (k := k) (t := t) (u := u) (s2 k t - u)
  rw [show u + (s2 k t - u) = s2 k t by omega, ← nest3_next2] at h1
  exact h1.trans (nest3_preR hk ht)
theorem nest3_at {α : Type} {pr : Nat → Nat → Nat → α} {s1 : Nat → Nat} {s2 : Nat → Nat → Nat} {n k t u : Nat} {d : α} (hk : k < n) (ht : t < s1 k) (hu : u < s2 k t) : (nest3 pr s1 s2 k t u).length < (nest3 pr s1 s2 n 0 0).length ∧ (nest3 pr s1 s2 n 0 0).getD (nest3 pr s1 s2 k t u).length d = pr k t u := by
  obtain ⟨r, hr⟩ := nest3_pre (pr := pr) (s1 := s1) (s2 := s2) (n := n) (u := u + 1) hk ht hu
  rw [← hr, nest3_snoc]
  refine ⟨by simp, ?_⟩
  rw [List.getD_eq_getElem?_getD, List.append_assoc, List.getElem?_append_right (Nat.le_refl _)]
  simp
theorem nest3_row {α : Type} {pr : Nat → Nat → Nat → α} {s1 : Nat → Nat} {s2 : Nat → Nat → Nat} {k t : Nat} : nest3 pr s1 s2 k (t + 1) 0 = nest3 pr s1 s2 k t 0 ++ (List.range (s2 k t)).map (pr k t) := by
  rw [nest3_next2]
  unfold nest3 nestL
  simp
theorem getD_append_l {α : Type} {xs ys : List α} {i : Nat} {d : α} (h : i < xs.length) : (xs ++ ys).getD i d = xs.getD i d := by
  rw [List.getD_eq_getElem?_getD, List.getElem?_append_left h, ← List.getD_eq_getElem?_getD]
theorem getD_append_r {α : Type} {xs ys : List α} {i : Nat} {d : α} (h : xs.length ≤ i) : (xs ++ ys).getD i d = ys.getD (i - xs.length) d := by
  rw [List.getD_eq_getElem?_getD, List.getElem?_append_right h, ← List.getD_eq_getElem?_getD]
theorem getD_map {α β : Type} {f : α → β} {xs : List α} {i : Nat} {d : α} {e : β} (h : i < xs.length) : (xs.map f).getD i e = f (xs.getD i d) := by
  rw [List.getD_eq_getElem?_getD, List.getElem?_map, List.getElem?_eq_getElem h, List.getD_eq_getElem?_getD, List.getElem?_eq_getElem h]; rfl
theorem getD_set2 {xss : List (List Int)} {i j : Nat} {ys : List Int} (h : i < xss.length) : (xss.set i ys).getD j [] = if i = j then ys else xss.getD j [] := by
  rw [List.getD_eq_getElem?_getD, List.getElem?_set]
  by_cases e : i = j
  · subst e; rw [if_pos rfl, if_pos rfl, if_pos h]; rfl
  · rw [if_neg e, if_neg e, ← List.getD_eq_getElem?_getD]
theorem OwnL.app {b gi g' i : Nat} {H H1 : GHeap} {e : TypeId} {r : Nat → Option Addr} {xss : List (List Int)} {ys : List Int} (h : OwnL b H e r xss) (s : St [gi] H H1) (hi : i < xss.length) (hr : r i = some ⟨gi, 0, none⟩) (hg : H1.get g' = some (.row (ints ys) e true)) (hn : H.next ≤ g') (hb : b ≤ g') :
    OwnL b H1 e (upd r i (some ⟨g', 0, none⟩)) (xss.set i ys) := by
  unfold OwnL
  rw [List.length_set]
  have old : ∀ j, j < xss.length → j ≠ i → ∃ x, r j = some ⟨x, 0, none⟩ ∧ b ≤ x ∧ x < H.next ∧ H1.get x = some (.row (ints (xss.getD j [])) e true) := fun j hj hne => by
    obtain ⟨x, h1, h2, h3⟩ := h.row j hj
    exact ⟨x, h1, h2, GHeap.ltg h3, s.same x _ ⟨fun ex => by subst ex; exact hne (h.inj j i hj hi (by rw [hr, h1])), trivial⟩ h3⟩
  refine ⟨fun j hj => ?_, fun j k hj hk hjk => ?_⟩
  · rw [getD_set2 hi]
    by_cases ej : j = i
    · subst ej
      exact ⟨g', upd_eq _ _ _, hb, by rw [if_pos rfl]; exact hg⟩
    · obtain ⟨x, h1, h2, _, h4⟩ := old j hj ej
      exact ⟨x, by rw [upd_ne ej]; exact h1, h2, by rw [if_neg (Ne.symm ej)]; exact h4⟩
  · by_cases ej : j = i
    · by_cases ek : k = i
      · omega
      · obtain ⟨x, h1, _, h3, _⟩ := old k hk ek
        rw [ej, upd_eq, upd_ne ek, h1] at hjk
        cases hjk
        omega
    · obtain ⟨x, h1, _, h3, _⟩ := old j hj ej
      by_cases ek : k = i
      · rw [ek, upd_eq, upd_ne ej, h1] at hjk
        cases hjk
        omega
      · rw [upd_ne ej, upd_ne ek] at hjk
        exact h.inj j k hj hk hjk
theorem slsL_set {r : Nat → Option Addr} {xss : List (List Int)} {i n : Nat} {a : Option Addr} {ys : List Int} (_ : i < xss.length) (hn : n = ys.length) : (slsL r xss).set i (.slice a n n) = slsL (upd r i a) (xss.set i ys) := by
  subst hn
  unfold slsL slsOf
  apply List.ext_getElem (by simp)
  intro j h1 h2
  simp only [List.length_set, List.length_map, List.length_range] at h1
  simp only [List.getElem_set, List.getElem_map, List.getElem_range]
  by_cases e : i = j
  · subst e
    rw [if_pos rfl, upd_eq, getD_set2 h1, if_pos rfl]
  · rw [if_neg e, upd_ne (Ne.symm e), getD_set2 (by omega), if_neg e]
theorem slsL_cell {r : Nat → Option Addr} {xss : List (List Int)} {H : GHeap} {g i : Nat} {e : TypeId} {own : Bool} (h : H.get g = some (.row (slsL r xss) e own)) (hi : i < xss.length) : H.cell g (0 + i) = some (.slice (r i) (xss.getD i []).length (xss.getD i []).length) := by
  rw [GHeap.cell_of h, Nat.zero_add]
  simp [slsL, slsOf, hi]
theorem ne_upd {g g' i n : Nat} {r : Nat → Option Addr} (h : ∀ j, j < n → r j ≠ some ⟨g, 0, none⟩) (hg : g' ≠ g) : ∀ j, j < n → upd r i (some ⟨g', 0, none⟩) j ≠ some ⟨g, 0, none⟩ := fun j hj => by
  by_cases e : j = i
  · subst e
    rw [upd_eq]
    intro e
    cases e
    exact hg rfl
  · rw [upd_ne e]
    exact h j hj
structure OwnCat (eI eS : TypeId) (b : Nat) (H : GHeap) (c : Cat) (g1 g2 g3 g4 : Nat) (rr : Nat → Option Addr) : Prop where
  a1 : H.get g1 = some (.row (ints c.src) eI true)
  a2 : H.get g2 = some (.row (ints c.tgt) eI true)
  a3 : H.get g3 = some (.row (ints c.idn) eI true)
  a4 : H.get g4 = some (.row (slsL rr c.comp) eS true)
  b1 : b ≤ g1
  b2 : b ≤ g2
  b3 : b ≤ g3
  b4 : b ≤ g4
  n12 : g1 ≠ g2
  n13 : g1 ≠ g3
  n23 : g2 ≠ g3
  rows : OwnL b H eI rr c.comp
  r1 : ∀ i, i < c.comp.length → rr i ≠ some ⟨g1, 0, none⟩
  r2 : ∀ i, i < c.comp.length → rr i ≠ some ⟨g2, 0, none⟩
  r3 : ∀ i, i < c.comp.length → rr i ≠ some ⟨g3, 0, none⟩
def ownP (g1 g2 g3 g4 : Nat) (rr : Nat → Option Addr) : CatP := ⟨some ⟨g1, 0, none⟩, some ⟨g2, 0, none⟩, some ⟨g3, 0, none⟩, some ⟨g4, 0, none⟩, rr⟩
theorem OwnCat.catR {eI eS : TypeId} {b : Nat} {H : GHeap} {c : Cat} {g1 g2 g3 g4 : Nat} {rr : Nat → Option Addr} (h : OwnCat eI eS b H c g1 g2 g3 g4 rr) : CatR b H c (ownP g1 g2 g3 g4 rr) :=
  .mk (.of_at h.a1 h.b1) (.of_at h.a2 h.b2) (.of_at h.a3 h.b3) (h.rows.done h.a4 h.b4) (.inr rfl) (.inr rfl) (.inr rfl) h.n12 h.n13 h.n23 (fun i hi => ⟨h.r1 i hi, h.r2 i hi, h.r3 i hi⟩)
def NewCatO (eI eS : TypeId) (H : GHeap) (c : Cat) (v : Value) (H' : GHeap) : Prop := H.Le H' ∧ ∃ g1 g2 g3 g4 rr, v = .agg (c.cells (ownP g1 g2 g3 g4 rr)).toArray ∧ OwnCat eI eS H.next H' c g1 g2 g3 g4 rr
structure Cat.Rect (c : Cat) (N : Nat) : Prop where
  obj : 0 ≤ c.obj ∧ c.obj ≤ N
  n : c.src.length ≤ N
  tl : c.tgt.length = c.src.length
  src : ∀ i, i < c.src.length → 0 ≤ c.src.getD i 0 ∧ c.src.getD i 0 < c.obj
  tgt : ∀ i, i < c.tgt.length → 0 ≤ c.tgt.getD i 0 ∧ c.tgt.getD i 0 < c.obj
  il : (c.idn.length : Int) = c.obj
  idn : ∀ i, i < c.idn.length → 0 ≤ c.idn.getD i 0 ∧ c.idn.getD i 0 < c.src.length
  cl : c.comp.length = c.src.length
  row : ∀ f, f < c.comp.length → (c.comp.getD f []).length = c.src.length
  cell : ∀ f, f < c.comp.length → ∀ g, g < c.src.length → -1 ≤ (c.comp.getD f []).getD g 0 ∧ (c.comp.getD f []).getD g 0 < c.src.length
theorem Cat.Shape.rect {c : Cat} (h : c.Shape) : c.Rect 40 := ⟨⟨h.obj.1, by have := h.obj.2; omega⟩, h.n40, h.tl, h.src, h.tgt, h.il, h.idn, h.cl, h.row, fun f hf g hg => by
  have := h.cl
  have := h.th_lt (f := f) (g := g) (by omega) hg
  unfold Cat.th at this
  rw [Int.toNat_natCast, Int.toNat_natCast] at this
  omega⟩
theorem Cat.Rect.small {c : Cat} {N : Nat} (h : c.Rect N) (hN : N ≤ 1048576) : c.Small := by
  obtain ⟨h1, h2, h3, h4, h5, h6, h7, h8, h9, h10⟩ := h
  refine ⟨by omega, by omega, by omega, by omega, fun i => ?_, by omega, by omega⟩
  by_cases hi : i < c.comp.length
  · have := h9 i hi; omega
  · rw [List.getD_eq_getElem?_getD, List.getElem?_eq_none (by omega)]; simp
def sumRow (n : Nat) (row : List Int) : List Int := List.replicate n (-1) ++ row.map fun h => if 0 ≤ h then h + (n : Int) else h
def Cat.sumL (c d : Cat) : List (List Int) := c.comp.map (· ++ List.replicate d.src.length (-1))
def Cat.sum (c d : Cat) : Cat where
  obj := c.obj + d.obj
  src := c.src ++ d.src.map (· + c.obj)
  tgt := c.tgt ++ d.tgt.map (· + c.obj)
  idn := c.idn ++ d.idn.map (· + (c.src.length : Int))
  comp := c.sumL d ++ d.comp.map (sumRow c.src.length)
def extL (xss : List (List Int)) (k f j : Nat) : List (List Int) := (List.range xss.length).map fun i => xss.getD i [] ++ List.replicate (if i < f then k else if i = f then j else 0) (-1)
@[simp] theorem length_extL (xss : List (List Int)) (k f j : Nat) : (extL xss k f j).length = xss.length := by simp [extL]
theorem extL_get {xss : List (List Int)} {k f j i : Nat} (h : i < xss.length) : (extL xss k f j).getD i [] = xss.getD i [] ++ List.replicate (if i < f then k else if i = f then j else 0) (-1) := by simp [extL, List.getD_eq_getElem?_getD, h]
theorem extL_zero (xss : List (List Int)) (k : Nat) : extL xss k 0 0 = xss := by
  refine eq_of_getD2 (by simp) fun i hi => ?_
  rw [length_extL] at hi
  rw [extL_get hi]
  simp
theorem extL_succ {xss : List (List Int)} {k f j : Nat} (h : f < xss.length) : extL xss k f (j + 1) = (extL xss k f j).set f ((extL xss k f j).getD f [] ++ [-1]) := by
  refine eq_of_getD2 (by simp) fun i hi => ?_
  rw [length_extL] at hi
  rw [getD_set2 (by simpa using h), extL_get hi, extL_get h]
  by_cases e : f = i
  · subst e
    rw [if_pos rfl, if_neg (by omega), if_pos rfl, if_neg (by omega), if_pos rfl, List.replicate_succ', List.append_assoc]
  · rw [if_neg e, extL_get hi]
    by_cases e2 : i < f
    · rw [if_pos e2, if_pos e2]
    · rw [if_neg e2, if_neg e2, if_neg (Ne.symm e), if_neg (Ne.symm e)]
theorem extL_next {xss : List (List Int)} {k f : Nat} : extL xss k f k = extL xss k (f + 1) 0 := by
  refine eq_of_getD2 (by simp) fun i hi => ?_
  rw [length_extL] at hi
  rw [extL_get hi, extL_get hi]
  congr 2
  by_cases e : i < f
  · rw [if_pos e, if_pos (by omega)]
  · rw [if_neg e]
    by_cases e2 : i = f
    · rw [if_pos e2, if_pos (by omega)]
    · rw [if_neg e2, if_neg (by omega)]
      split <;> rfl
theorem Cat.extL_all {c d : Cat} : extL c.comp d.src.length c.comp.length 0 = c.sumL d := by
  refine eq_of_getD2 (by simp [Cat.sumL]) fun i hi => ?_
  rw [length_extL] at hi
  unfold Cat.sumL
  rw [extL_get hi, if_pos hi, getD_map (d := []) hi]
theorem extL_len {xss : List (List Int)} {k f j i : Nat} (hj : j ≤ k) (h : i < xss.length) : ((extL xss k f j).getD i []).length ≤ (xss.getD i []).length + k := by
  rw [extL_get h, List.length_append, List.length_replicate]
  split
  · omega
  · split <;> omega
theorem sumRow_take {n : Nat} {row : List Int} {j : Nat} (h : j < row.length) : sumRow n (row.take (j + 1)) = sumRow n (row.take j) ++ [if 0 ≤ row.getD j 0 then row.getD j 0 + (n : Int) else row.getD j 0] := by
  unfold sumRow
  rw [take_map_snoc (d := 0) h, List.append_assoc]
theorem length_sumRow (n : Nat) (row : List Int) : (sumRow n row).length = n + row.length := by simp [sumRow]
theorem sumRow_nil (n : Nat) : sumRow n [] = List.replicate n (-1) := by simp [sumRow]
structure SumSt (eI eS eT : TypeId) (H0 H : GHeap) (c d : Cat) (q : CatP) (gd gR gS gF gT gI gC : Nat) (zs : List Value) (rr : Nat → Option Addr) (f j : Nat) : Prop where
  hle : H0.Le H
  gc : H0.next ≤ gC
  ad : H.get gd = some (.row (d.cells q) eT true)
  aR : H.get gR = some (.row zs eT true)
  aS : H.get gS = some (.row [.int .i64 (c.obj + d.obj), .slice (some ⟨gF, 0, none⟩) c.src.length c.src.length, .slice (some ⟨gT, 0, none⟩) c.tgt.length c.tgt.length, .slice (some ⟨gI, 0, none⟩) (c.idn.length + d.obj.toNat) (c.idn.length + d.obj.toNat), .slice (some ⟨gC, 0, none⟩) c.comp.length c.comp.length] eT true)
  aF : H.get gF = some (.row (ints c.src) eI true)
  aT : H.get gT = some (.row (ints c.tgt) eI true)
  aI : H.get gI = some (.row (ints (c.sum d).idn) eI true)
  aC : H.get gC = some (.row (slsL rr (extL c.comp d.src.length f j)) eS true)
  rows : OwnL H0.next H eI rr (extL c.comp d.src.length f j)
  r1 : ∀ i, i < c.comp.length → rr i ≠ some ⟨gF, 0, none⟩
  r2 : ∀ i, i < c.comp.length → rr i ≠ some ⟨gT, 0, none⟩
  r3 : ∀ i, i < c.comp.length → rr i ≠ some ⟨gI, 0, none⟩
theorem SumSt.app {eI eS eT : TypeId} {H0 H Ha Hb Hc : GHeap} {c d : Cat} {q : CatP} {gd gR gS gF gT gI gC gi g' n : Nat} {zs : List Value} {rr : Nat → Option Addr} {f j : Nat} (h : SumSt eI eS eT H0 H c d q gd gR gS gF gT gI gC zs rr f j) (t1 : (eI != eS) = true) (t2 : (eI != eT) = true) (t3 : (eS != eT) = true) (hf : f < c.comp.length) (hgi : H.get gi = some (.row (ints ((extL c.comp d.src.length f j).getD f [])) eI true)) (hr : rr f = some ⟨gi, 0, none⟩) (le : H.Le Ha) (s1 : St [gi] Ha Hb) (hn : Ha.next ≤ g') (hg : Hb.get g' = some (.row (ints ((extL c.comp d.src.length f j).getD f [] ++ [-1])) eI true)) (s2 : St [gC] Hb Hc)
    (hC : Hc.get gC = some (.row ((slsL rr (extL c.comp d.src.length f j)).set f (.slice (some ⟨g', 0, none⟩) n n)) eS true)) (hnn : n = ((extL c.comp d.src.length f j).getD f []).length + 1) : SumSt eI eS eT H0 Hc c d q gd gR gS gF gT gI gC zs (upd rr f (some ⟨g', 0, none⟩)) f (j + 1) := by
  have u1 : (eS != eI) = true := by simp only [bne_iff_ne, ne_eq] at t1 ⊢; exact fun e => t1 e.symm
  have u2 : (eT != eI) = true := by simp only [bne_iff_ne, ne_eq] at t2 ⊢; exact fun e => t2 e.symm
  have u3 : (eT != eS) = true := by simp only [bne_iff_ne, ne_eq] at t3 ⊢; exact fun e => t3 e.symm
  obtain ⟨x1, x0, x2, xR, x3, x4, x5, x6, x7, x8, x9, x10, x11⟩ := h
  have hl : f < (extL c.comp d.src.length f j).length := by rw [length_extL]; exact hf
  have hgi0 : H0.next ≤ gi := by
    obtain ⟨x, h1, h2, _⟩ := x8.row f hl
    rw [hr] at h1; cases h1; exact h2
  have ltF := GHeap.ltg x4
  have ltT := GHeap.ltg x5
  have ltI := GHeap.ltg x6
  have lx := le.1
  have ly := x1.1
  have step : ∀ k o, k ≠ gi → k ≠ gC → H.get k = some o → Hc.get k = some o := fun k o h1 h2 h3 => s2.same k o ⟨h2, trivial⟩ (s1.same k o ⟨h1, trivial⟩ (le.2 k o h3))
  have nF : gF ≠ gi := fun e => x9 f hf (by rw [hr, e])
  have nT : gT ≠ gi := fun e => x10 f hf (by rw [hr, e])
  have nI : gI ≠ gi := fun e => x11 f hf (by rw [hr, e])
  have nC : gC ≠ gi := row_ne x7 hgi u1
  refine ⟨((x1.trans le).st s1 (fun k hk => ⟨by omega, trivial⟩)).st s2 (fun k hk => ⟨by omega, trivial⟩), x0, step _ _ (row_ne x2 hgi u2) (row_ne x2 x7 u3) x2, step _ _ (row_ne xR hgi u2) (row_ne xR x7 u3) xR, step _ _ (row_ne x3 hgi u2) (row_ne x3 x7 u3) x3, step _ _ nF (row_ne x4 x7 t1) x4, step _ _ nT (row_ne x5 x7 t1) x5, step _ _ nI (row_ne x6 x7 t1) x6, ?_, ?_, ne_upd x9 (by omega), ne_upd x10 (by omega), ne_upd x11 (by omega)⟩
  · rw [hC, slsL_set (ys := (extL c.comp d.src.length f j).getD f [] ++ [-1]) hl (by rw [hnn, List.length_append]; rfl), ← extL_succ hf]
  · rw [extL_succ hf]
    have hA := OwnL.app (x8.keep (Lasts.of_le le)) s1 hl hr hg hn (by omega)
    refine hA.st s2 (.cons (hA.neT (s1.same _ _ ⟨nC, trivial⟩ (le.2 _ _ x7)) t1) (.nil _ _))
theorem SumSt.next {eI eS eT : TypeId} {H0 H : GHeap} {c d : Cat} {q : CatP} {gd gR gS gF gT gI gC : Nat} {zs : List Value} {rr : Nat → Option Addr} {f : Nat} (h : SumSt eI eS eT H0 H c d q gd gR gS gF gT gI gC zs rr f d.src.length) : SumSt eI eS eT H0 H c d q gd gR gS gF gT gI gC zs rr (f + 1) 0 := by
  obtain ⟨x1, x0, x2, xR, x3, x4, x5, x6, x7, x8, x9, x10, x11⟩ := h
  rw [extL_next] at x7 x8
  exact ⟨x1, x0, x2, xR, x3, x4, x5, x6, x7, x8, x9, x10, x11⟩
def colPr (x y e : Nat) : List Int := [(x : Int), (y : Int), (e : Int)]
def Prof.colS2 (m : Prof) (x y : Nat) : Nat := ((m.sz.getD x []).getD y 0).toNat
def Prof.colP (m : Prof) (x y e : Nat) : List (List Int) := nest3 colPr (fun _ => m.t.obj.toNat) m.colS2 x y e
def Prof.colL (m : Prof) : List (List Int) := m.colP m.s.obj.toNat 0 0
def Prof.colA (m : Prof) (x y : Nat) : Int := (m.colP x y 0).length
theorem Prof.colP_snoc {m : Prof} {x y e : Nat} : m.colP x y (e + 1) = m.colP x y e ++ [colPr x y e] := nest3_snoc
theorem Prof.colP_next2 {m : Prof} {x y : Nat} : m.colP x (y + 1) 0 = m.colP x y (m.colS2 x y) := nest3_next2
theorem Prof.colP_next1 {m : Prof} {x : Nat} : m.colP (x + 1) 0 0 = m.colP x m.t.obj.toNat 0 := nest3_next1
theorem Prof.colP_row {m : Prof} {x y : Nat} : m.colP x (y + 1) 0 = m.colP x y 0 ++ (List.range (m.colS2 x y)).map (colPr x y) := nest3_row
theorem Prof.colP_len {m : Prof} {x y e : Nat} : (m.colP x y e).length = (m.colP x y 0).length + e := nest3_len
theorem Prof.colL_nodup {m : Prof} {x : Nat} : (m.colP x 0 0).Nodup := nest3_nodup fun a b t a' b' t' _ _ _ _ _ _ e => by
  unfold colPr at e
  simp only [List.cons.injEq, and_true] at e
  omega
theorem Prof.Sized.at {m : Prof} (z : m.Sized) {x y : Nat} (hx : (x : Int) < m.s.obj) (hy : (y : Int) < m.t.obj) : x < m.sz.length ∧ y < (m.sz.getD x []).length ∧ 0 ≤ (m.sz.getD x []).getD y 0 ∧ (m.sz.getD x []).getD y 0 ≤ 64 := by
  have h1 := z.sl
  have h2 := z.row x (by omega)
  exact ⟨by omega, by omega, z.rng x (by omega) y (by omega)⟩
structure Prof.Cok (m : Prof) : Prop where
  z : m.Sized
  s0 : 0 ≤ m.s.obj
  s8 : m.s.obj ≤ 8
  t0 : 0 ≤ m.t.obj
  t8 : m.t.obj ≤ 8
theorem Prof.Shape.cok {m : Prof} (h : m.Shape) : m.Cok := ⟨h.z, h.s.1.obj.1, h.s.1.obj.2, h.t.1.obj.1, h.t.1.obj.2⟩
theorem Prof.Cok.s2 {m : Prof} (h : m.Cok) {x y : Nat} (hx : (x : Int) < m.s.obj) (hy : (y : Int) < m.t.obj) : (m.colS2 x y : Int) = (m.sz.getD x []).getD y 0 ∧ m.colS2 x y ≤ 64 := by
  have := h.z.at hx hy
  unfold Prof.colS2
  omega
theorem Prof.Cok.all {m : Prof} (h : m.Cok) : m.colL.length ≤ 4096 := by
  have h1 := h.s8
  have h2 := h.t8
  have := nest3_all (pr := colPr) (s1 := fun _ => m.t.obj.toNat) (s2 := m.colS2) (c := 64) (d := 8) (n := m.s.obj.toNat) (fun a _ => by show m.t.obj.toNat ≤ 8; omega) (fun a ha b hb => (h.s2 (by omega) (by omega)).2)
  unfold Prof.colL Prof.colP
  omega
theorem Prof.Cok.le {m : Prof} (h : m.Cok) {x y e : Nat} (hx : (x : Int) < m.s.obj) (hy : (y : Int) < m.t.obj) (he : e ≤ m.colS2 x y) : (m.colP x y e).length ≤ m.colL.length := by
  obtain ⟨r, hr⟩ := nest3_pre (pr := colPr) (s1 := fun _ => m.t.obj.toNat) (s2 := m.colS2) (n := m.s.obj.toNat) (k := x) (t := y) (u := e) (by omega) (by omega) he
  unfold Prof.colL Prof.colP
  rw [← hr, List.length_append]
  omega
theorem Prof.Cok.leY {m : Prof} (h : m.Cok) {x y : Nat} (hx : (x : Int) < m.s.obj) (hy : (y : Int) ≤ m.t.obj) : (m.colP x y 0).length ≤ m.colL.length := by
  obtain ⟨r, hr⟩ := nest3_preR (pr := colPr) (s1 := fun _ => m.t.obj.toNat) (s2 := m.colS2) (n := m.s.obj.toNat) (k := x) (t := y) (by omega) (by omega)
  unfold Prof.colL Prof.colP
  rw [← hr, List.length_append]
  omega
theorem Prof.Cok.leX {m : Prof} (_ : m.Cok) {x : Nat} (hx : (x : Int) ≤ m.s.obj) : (m.colP x 0 0).length ≤ m.colL.length := by
  obtain ⟨r, hr⟩ := nest3_pre1 (pr := colPr) (s1 := fun _ => m.t.obj.toNat) (s2 := m.colS2) (k := x) (m.s.obj.toNat - x)
  rw [show x + (m.s.obj.toNat - x) = m.s.obj.toNat by omega] at hr
  unfold Prof.colL Prof.colP
  rw [← hr, List.length_append]
  omega
theorem Prof.Cok.idx {m : Prof} (h : m.Cok) {x y e : Int} (x0 : 0 ≤ x) (x1 : x < m.s.obj) (y0 : 0 ≤ y) (y1 : y < m.t.obj) (e0 : 0 ≤ e) (e1 : e < (m.sz.getD x.toNat []).getD y.toNat 0) :
    [x, y, e] ∈ m.colL ∧ idxLL m.colL [x, y, e] = m.colA x.toNat y.toNat + e ∧ idxLL m.colL [x, y, e] < m.colL.length ∧ 0 ≤ m.colA x.toNat y.toNat := by
  have hz := h.s2 (x := x.toNat) (y := y.toNat) (by omega) (by omega)
  obtain ⟨l, a⟩ := nest3_at (pr := colPr) (s1 := fun _ => m.t.obj.toNat) (s2 := m.colS2) (n := m.s.obj.toNat) (k := x.toNat) (t := y.toNat) (u := e.toNat) (d := []) (by omega) (by omega) (by omega)
  have hp : colPr x.toNat y.toNat e.toNat = [x, y, e] := by unfold colPr; rw [Int.toNat_of_nonneg x0, Int.toNat_of_nonneg y0, Int.toNat_of_nonneg e0]
  rw [hp] at a
  have hm := getD_mem_list (d := []) l
  rw [a] at hm
  have hi := idxLL_at (xss := m.colL) Prof.colL_nodup l
  have a' : m.colL.getD (m.colP x.toNat y.toNat e.toNat).length [] = [x, y, e] := a
  unfold Prof.colP at a'
  rw [a'] at hi
  have hl : ((nest3 colPr (fun _ => m.t.obj.toNat) m.colS2 x.toNat y.toNat e.toNat).length : Int) = m.colA x.toNat y.toNat + e := by
    rw [nest3_len]
    unfold Prof.colA Prof.colP
    omega
  exact ⟨hm, by rw [hi, hl], by rw [hi]; exact Int.ofNat_lt.2 l, by unfold Prof.colA; omega⟩
theorem Prof.Cok.tri {m : Prof} (h : m.Cok) {i : Nat} (hi : i < m.colL.length) : ∃ x y e : Nat, (x : Int) < m.s.obj ∧ (y : Int) < m.t.obj ∧ (e : Int) < (m.sz.getD x []).getD y 0 ∧ m.colL.getD i [] = [(x : Int), (y : Int), (e : Int)] ∧ (i : Int) = m.colA x y + e := by
  have hm := getD_mem_list (d := []) hi
  obtain ⟨x, y, e, hx, hy, he, hq⟩ := nest3_mem (k := m.s.obj.toNat) hm
  have hx' : (x : Int) < m.s.obj := by omega
  have hy' : (y : Int) < m.t.obj := by omega
  have hz := h.s2 (x := x) (y := y) hx' hy'
  refine ⟨x, y, e, hx', hy', by omega, hq, ?_⟩
  obtain ⟨l, a⟩ := nest3_at (pr := colPr) (s1 := fun _ => m.t.obj.toNat) (s2 := m.colS2) (n := m.s.obj.toNat) (k := x) (t := y) (u := e) (d := []) hx hy he
  have := getD_inj (xss := m.colL) Prof.colL_nodup hi l (by rw [hq]; exact a.symm)
  rw [this, nest3_len]
  unfold Prof.colA Prof.colP
  omega
theorem Prof.colL_three {m : Prof} {i : Nat} : (m.colL.getD i []).length ≤ 3 := by
  by_cases h : i < m.colL.length
  · obtain ⟨x, y, e, _, _, _, hq⟩ := nest3_mem (k := m.s.obj.toNat) (getD_mem_list (d := []) h)
    have hq' : m.colL.getD i [] = colPr x y e := hq
    rw [hq']
    exact Nat.le_refl _
  · rw [List.getD_eq_getElem?_getD, List.getElem?_eq_none (by omega)]
    exact Nat.zero_le _
def Prof.colQx (m : Prof) (x y : Nat) : List Int := (List.range y).map (m.colA x)
def Prof.colQ (m : Prof) (k : Nat) : List (List Int) := (List.range k).map fun x => m.colQx x (m.sz.getD x []).length
@[simp] theorem Prof.length_colQx (m : Prof) (x y : Nat) : (m.colQx x y).length = y := by simp [Prof.colQx]
@[simp] theorem Prof.length_colQ (m : Prof) (k : Nat) : (m.colQ k).length = k := by simp [Prof.colQ]
theorem Prof.colQx_get {m : Prof} {x y i : Nat} (h : i < y) : (m.colQx x y).getD i 0 = m.colA x i := by simp [Prof.colQx, List.getD_eq_getElem?_getD, h]
theorem Prof.colQ_get {m : Prof} {k x : Nat} (h : x < k) : (m.colQ k).getD x [] = m.colQx x (m.sz.getD x []).length := by simp [Prof.colQ, List.getD_eq_getElem?_getD, h]
theorem Prof.colQx_succ {m : Prof} {x y : Nat} : m.colQx x (y + 1) = m.colQx x y ++ [m.colA x y] := range_succ_map
theorem Prof.colQ_succ {m : Prof} {k : Nat} : m.colQ (k + 1) = m.colQ k ++ [m.colQx k (m.sz.getD k []).length] := range_succ_map
theorem Prof.Cok.colA_succ {m : Prof} (h : m.Cok) {x y : Nat} (hx : (x : Int) < m.s.obj) (hy : (y : Int) < m.t.obj) : m.colA x (y + 1) = m.colA x y + (m.sz.getD x []).getD y 0 := by
  have := h.s2 hx hy
  unfold Prof.colA
  rw [Prof.colP_next2, Prof.colP_len]
  omega
theorem Prof.Cok.colA_next {m : Prof} (_ : m.Cok) {x : Nat} : m.colA (x + 1) 0 = m.colA x m.t.obj.toNat := by
  unfold Prof.colA
  rw [Prof.colP_next1]
theorem Prof.Cok.colA_bd {m : Prof} (h : m.Cok) {x y : Nat} (hx : (x : Int) < m.s.obj) (hy : (y : Int) ≤ m.t.obj) : 0 ≤ m.colA x y ∧ m.colA x y ≤ 4096 := by
  have h1 := h.leY hx hy
  have h2 := h.all
  unfold Prof.colA
  omega
theorem Prof.Cok.q {m : Prof} (h : m.Cok) {x y : Int} (x0 : 0 ≤ x) (x1 : x < m.s.obj) (y0 : 0 ≤ y) (y1 : y < m.t.obj) : x < (m.colQ m.sz.length).length ∧ (((m.colQ m.sz.length).getD x.toNat []).length : Int) = m.t.obj ∧ ((m.colQ m.sz.length).getD x.toNat []).getD y.toNat 0 = m.colA x.toNat y.toNat ∧ 0 ≤ m.colA x.toNat y.toNat ∧ m.colA x.toNat y.toNat ≤ 4096 := by
  have h1 := h.z.sl
  have h2 := h.z.row x.toNat (by omega)
  have h3 := h.colA_bd (x := x.toNat) (y := y.toNat) (by omega) (by omega)
  rw [Prof.length_colQ, Prof.colQ_get (by omega), Prof.length_colQx, Prof.colQx_get (by omega)]
  exact ⟨by omega, h2, rfl, h3⟩
def Prof.colN (m : Prof) : Nat := m.s.src.length + m.t.src.length
def Prof.colS (m : Prof) : List Int := (m.s.sum m.t).src ++ m.colL.map fun t => t.getD 0 0
def Prof.colT (m : Prof) : List Int := (m.s.sum m.t).tgt ++ m.colL.map fun t => m.s.obj + t.getD 1 0
def Prof.colR (m : Prof) (i : Nat) : List Int := m.colL.getD (i - m.colN) []
def Prof.colB (m : Prof) (f g : Nat) : Int := ((m.be.getD f []).getD ((m.colR g).getD 1 0).toNat []).getD ((m.colR g).getD 2 0).toNat 0
def Prof.colH (m : Prof) (f g : Nat) : Int := ((m.bh.getD (g - m.s.src.length) []).getD ((m.colR f).getD 0 0).toNat []).getD ((m.colR f).getD 2 0).toNat 0
def Prof.colK1 (m : Prof) (f g : Nat) : List Int := [m.colS.getD f 0, (m.colR g).getD 1 0, m.colB f g]
def Prof.colK2 (m : Prof) (f g : Nat) : List Int := [(m.colR f).getD 0 0, m.colT.getD g 0 - m.s.obj, m.colH f g]
def Prof.colX (m : Prof) (f g : Nat) : Int :=
  if f < m.colN ∧ g < m.colN then ((m.s.sum m.t).comp.getD f []).getD g 0
  else if f < m.colN then (m.colN : Int) + idxLL m.colL (m.colK1 f g) else (m.colN : Int) + idxLL m.colL (m.colK2 f g)
theorem Prof.sum_n (m : Prof) : (m.s.sum m.t).src.length = m.colN := by simp [Cat.sum, Prof.colN]
theorem Prof.length_colS (m : Prof) : m.colS.length = m.colN + m.colL.length := by
  simp only [Prof.colS, Cat.sum, Prof.colN, List.length_append, List.length_map]
theorem Prof.Shape.length_colT {m : Prof} (h : m.Shape) : m.colT.length = m.colN + m.colL.length := by
  have h1 := h.s.1.tl
  have h2 := h.t.1.tl
  simp only [Prof.colT, Cat.sum, Prof.colN, List.length_append, List.length_map]
  omega
theorem Prof.colS_c {m : Prof} {f : Nat} (h : f < m.s.src.length) : m.colS.getD f 0 = m.s.src.getD f 0 := by
  unfold Prof.colS Cat.sum
  rw [getD_append_l (by rw [List.length_append]; omega), getD_append_l h]
theorem Prof.colS_d {m : Prof} {f : Nat} (h1 : m.s.src.length ≤ f) (h2 : f < m.colN) : m.colS.getD f 0 = m.t.src.getD (f - m.s.src.length) 0 + m.s.obj := by
  unfold Prof.colN at h2
  unfold Prof.colS Cat.sum
  rw [getD_append_l (by rw [List.length_append, List.length_map]; omega), getD_append_r h1, getD_map (d := 0) (by omega)]
theorem Prof.colS_t {m : Prof} {f : Nat} (h1 : m.colN ≤ f) (h2 : f < m.colN + m.colL.length) : m.colS.getD f 0 = (m.colR f).getD 0 0 := by
  unfold Prof.colS Prof.colR
  rw [getD_append_r (by rw [Prof.sum_n]; exact h1), getD_map (d := []) (by rw [Prof.sum_n]; omega), Prof.sum_n]
theorem Prof.colT_c {m : Prof} {f : Nat} (hl : m.s.tgt.length = m.s.src.length) (h : f < m.s.src.length) : m.colT.getD f 0 = m.s.tgt.getD f 0 := by
  unfold Prof.colT Cat.sum
  rw [getD_append_l (by rw [List.length_append]; omega), getD_append_l (by omega)]
theorem Prof.colT_d {m : Prof} {f : Nat} (hl : m.s.tgt.length = m.s.src.length) (hl2 : m.t.tgt.length = m.t.src.length) (h1 : m.s.src.length ≤ f) (h2 : f < m.colN) : m.colT.getD f 0 = m.t.tgt.getD (f - m.s.src.length) 0 + m.s.obj := by
  unfold Prof.colN at h2
  unfold Prof.colT Cat.sum
  rw [getD_append_l (by rw [List.length_append, List.length_map]; omega), getD_append_r (by omega), getD_map (d := 0) (by omega), hl]
theorem Prof.colT_t {m : Prof} {f : Nat} (hl : m.s.tgt.length = m.s.src.length) (hl2 : m.t.tgt.length = m.t.src.length) (h1 : m.colN ≤ f) (h2 : f < m.colN + m.colL.length) : m.colT.getD f 0 = m.s.obj + (m.colR f).getD 1 0 := by
  have e : (m.s.sum m.t).tgt.length = m.colN := by simp only [Cat.sum, Prof.colN, List.length_append, List.length_map]; omega
  unfold Prof.colT Prof.colR
  rw [getD_append_r (by rw [e]; exact h1), getD_map (d := []) (by rw [e]; omega), e]
structure Prof.ColB (m : Prof) (f g : Nat) : Prop where
  fM : f < m.s.src.length
  sf : m.colS.getD f 0 = m.s.src.getD f 0
  tg : m.colT.getD g 0 = m.s.obj + (m.colR g).getD 1 0
  r3 : (m.colR g).length = 3
  y0 : 0 ≤ (m.colR g).getD 1 0
  y1 : (m.colR g).getD 1 0 < m.t.obj
  e0 : 0 ≤ (m.colR g).getD 2 0
  b0 : f < m.be.length
  b1 : ((m.colR g).getD 1 0).toNat < (m.be.getD f []).length
  b2 : ((m.colR g).getD 2 0).toNat < ((m.be.getD f []).getD ((m.colR g).getD 1 0).toNat []).length
  s0 : 0 ≤ m.s.src.getD f 0
  s1 : m.s.src.getD f 0 < m.s.obj
  t0 : 0 ≤ m.s.tgt.getD f 0
  t1 : m.s.tgt.getD f 0 < m.s.obj
  ae : (g : Int) - m.colN - m.colA (m.s.tgt.getD f 0).toNat ((m.colR g).getD 1 0).toNat = (m.colR g).getD 2 0
  ix : idxLL m.colL (m.colK1 f g) = m.colA (m.s.src.getD f 0).toNat ((m.colR g).getD 1 0).toNat + m.colB f g
  lt : idxLL m.colL (m.colK1 f g) < m.colL.length
  ca : 0 ≤ m.colA (m.s.src.getD f 0).toNat ((m.colR g).getD 1 0).toNat
  bb : 0 ≤ m.colB f g
structure Prof.ColH (m : Prof) (f g : Nat) : Prop where
  gM : m.s.src.length ≤ g
  gN : g < m.colN
  sf : m.colS.getD f 0 = (m.colR f).getD 0 0
  tg : m.colT.getD g 0 - m.s.obj = m.t.tgt.getD (g - m.s.src.length) 0
  r3 : (m.colR f).length = 3
  x0 : 0 ≤ (m.colR f).getD 0 0
  x1 : (m.colR f).getD 0 0 < m.s.obj
  e0 : 0 ≤ (m.colR f).getD 2 0
  b0 : g - m.s.src.length < m.bh.length
  b1 : ((m.colR f).getD 0 0).toNat < (m.bh.getD (g - m.s.src.length) []).length
  b2 : ((m.colR f).getD 2 0).toNat < ((m.bh.getD (g - m.s.src.length) []).getD ((m.colR f).getD 0 0).toNat []).length
  s0 : 0 ≤ m.t.src.getD (g - m.s.src.length) 0
  s1 : m.t.src.getD (g - m.s.src.length) 0 < m.t.obj
  t0 : 0 ≤ m.t.tgt.getD (g - m.s.src.length) 0
  t1 : m.t.tgt.getD (g - m.s.src.length) 0 < m.t.obj
  ae : (f : Int) - m.colN - m.colA ((m.colR f).getD 0 0).toNat (m.t.src.getD (g - m.s.src.length) 0).toNat = (m.colR f).getD 2 0
  ix : idxLL m.colL (m.colK2 f g) = m.colA ((m.colR f).getD 0 0).toNat (m.t.tgt.getD (g - m.s.src.length) 0).toNat + m.colH f g
  lt : idxLL m.colL (m.colK2 f g) < m.colL.length
  ca : 0 ≤ m.colA ((m.colR f).getD 0 0).toNat (m.t.tgt.getD (g - m.s.src.length) 0).toNat
  bb : 0 ≤ m.colH f g
theorem Prof.Shape.tri {m : Prof} (h : m.Shape) {i : Nat} (h1 : m.colN ≤ i) (h2 : i < m.colN + m.colL.length) : ∃ x y e : Nat, (x : Int) < m.s.obj ∧ (y : Int) < m.t.obj ∧ (e : Int) < (m.sz.getD x []).getD y 0 ∧ m.colR i = [(x : Int), (y : Int), (e : Int)] ∧ (i : Int) - m.colN = m.colA x y + e := by
  obtain ⟨x, y, e, q1, q2, q3, q4, q5⟩ := h.cok.tri (i := i - m.colN) (by omega)
  exact ⟨x, y, e, q1, q2, q3, q4, by omega⟩
theorem Prof.Shape.srcAt {m : Prof} (h : m.Shape) {g : Nat} (hg : g < m.colN + m.colL.length) : (g < m.s.src.length ∧ m.colS.getD g 0 = m.s.src.getD g 0 ∧ m.colS.getD g 0 < m.s.obj) ∨ (m.s.src.length ≤ g ∧ g < m.colN ∧ m.colS.getD g 0 = m.t.src.getD (g - m.s.src.length) 0 + m.s.obj ∧ m.s.obj ≤ m.colS.getD g 0) ∨ (m.colN ≤ g ∧ m.colS.getD g 0 = (m.colR g).getD 0 0 ∧ m.colS.getD g 0 < m.s.obj) := by
  by_cases h1 : g < m.s.src.length
  · have := h.s.1.src g h1
    have e := Prof.colS_c h1
    exact .inl ⟨h1, e, by omega⟩
  · by_cases h2 : g < m.colN
    · have e := Prof.colS_d (m := m) (by omega) h2
      unfold Prof.colN at h2
      have := h.t.1.src (g - m.s.src.length) (by omega)
      exact .inr (.inl ⟨by omega, by unfold Prof.colN; omega, e, by omega⟩)
    · have e := Prof.colS_t (m := m) (f := g) (by omega) hg
      obtain ⟨x, y, e', q1, q2, q3, q4, q5⟩ := h.tri (i := g) (by omega) hg
      refine .inr (.inr ⟨by omega, e, ?_⟩)
      rw [e, q4]
      exact q1
theorem Prof.Shape.tgtAt {m : Prof} (h : m.Shape) {f : Nat} (hf : f < m.colN + m.colL.length) : (f < m.s.src.length ∧ m.colT.getD f 0 = m.s.tgt.getD f 0 ∧ m.colT.getD f 0 < m.s.obj) ∨ (m.s.src.length ≤ f ∧ f < m.colN ∧ m.colT.getD f 0 = m.t.tgt.getD (f - m.s.src.length) 0 + m.s.obj ∧ m.s.obj ≤ m.colT.getD f 0) ∨ (m.colN ≤ f ∧ m.colT.getD f 0 = m.s.obj + (m.colR f).getD 1 0 ∧ m.s.obj ≤ m.colT.getD f 0) := by
  have l1 := h.s.1.tl
  have l2 := h.t.1.tl
  by_cases h1 : f < m.s.src.length
  · have := h.s.1.tgt f (by omega)
    have e := Prof.colT_c l1 h1
    exact .inl ⟨h1, e, by omega⟩
  · by_cases h2 : f < m.colN
    · have e := Prof.colT_d (m := m) l1 l2 (by omega) h2
      unfold Prof.colN at h2
      have := h.t.1.tgt (f - m.s.src.length) (by omega)
      exact .inr (.inl ⟨by omega, by unfold Prof.colN; omega, e, by omega⟩)
    · have e := Prof.colT_t (m := m) (f := f) l1 l2 (by omega) hf
      obtain ⟨x, y, e', q1, q2, q3, q4, q5⟩ := h.tri (i := f) (by omega) hf
      refine .inr (.inr ⟨by omega, e, ?_⟩)
      rw [e, q4]
      show m.s.obj ≤ m.s.obj + (y : Int)
      omega
theorem Prof.Shape.colT_bd {m : Prof} (h : m.Shape) {f : Nat} (hf : f < m.colN + m.colL.length) : 0 ≤ m.colT.getD f 0 ∧ m.colT.getD f 0 < m.s.obj + m.t.obj := by
  have l1 := h.s.1.tl
  have l2 := h.t.1.tl
  have l3 := h.s.1.obj
  have l4 := h.t.1.obj
  rcases h.tgtAt hf with ⟨h1, e, _⟩ | ⟨h1, h2, e, _⟩ | ⟨h1, e, _⟩
  · have := h.s.1.tgt f (by omega)
    omega
  · unfold Prof.colN at h2
    have := h.t.1.tgt (f - m.s.src.length) (by omega)
    omega
  · obtain ⟨x, y, e', q1, q2, q3, q4, q5⟩ := h.tri (i := f) h1 hf
    rw [q4] at e
    have e2 : m.colT.getD f 0 = m.s.obj + (y : Int) := e
    omega
theorem Prof.Shape.before {m : Prof} (h : m.Shape) {f g : Nat} (hf : f < m.s.src.length) (hg : m.colN ≤ g) (hg2 : g < m.colN + m.colL.length) (e : m.colT.getD f 0 = m.colS.getD g 0) : m.ColB f g := by
  have l1 := h.s.1.tl
  have l2 := h.t.1.tl
  have b0 := h.z.bl
  obtain ⟨x, y, i, q1, q2, q3, q4, q5⟩ := h.tri (i := g) hg hg2
  have es := Prof.colS_c hf
  have et := Prof.colT_c l1 hf
  have eg := Prof.colS_t (m := m) hg hg2
  have tg := Prof.colT_t (m := m) (f := g) l1 l2 hg hg2
  have r0 : (m.colR g).getD 0 0 = (x : Int) := by rw [q4]; rfl
  have r1 : (m.colR g).getD 1 0 = (y : Int) := by rw [q4]; rfl
  have r2 : (m.colR g).getD 2 0 = (i : Int) := by rw [q4]; rfl
  have hx : m.s.tgt.getD f 0 = (x : Int) := by omega
  have hb := h.by (a := f) (y := y) (by omega) q2
  rw [hx, Int.toNat_natCast] at hb
  have hs := h.s.1.src f hf
  have hbi := hb.2.2.2.2.1 i (by omega)
  have hB : m.colB f g = ((m.be.getD f []).getD y []).getD i 0 := by unfold Prof.colB; rw [r1, r2, Int.toNat_natCast, Int.toNat_natCast]
  obtain ⟨k1, k2, k3, k4⟩ := h.cok.idx (x := m.s.src.getD f 0) (y := (y : Int)) (e := m.colB f g) hs.1 hs.2 (by omega) q2 (by omega) (by rw [Int.toNat_natCast, hB]; exact hbi.2)
  have hK : m.colK1 f g = [m.s.src.getD f 0, (y : Int), m.colB f g] := by unfold Prof.colK1; rw [es, r1]
  rw [← hK] at k2 k3
  rw [Int.toNat_natCast] at k2 k4
  constructor
  · exact hf
  · exact es
  · exact tg
  · rw [q4]; rfl
  · omega
  · omega
  · omega
  · omega
  · rw [r1, Int.toNat_natCast]; omega
  · rw [r1, r2, Int.toNat_natCast, Int.toNat_natCast]; omega
  · exact hs.1
  · exact hs.2
  · omega
  · omega
  · rw [hx, r1, r2, Int.toNat_natCast, Int.toNat_natCast]; omega
  · rw [r1, Int.toNat_natCast]; exact k2
  · exact k3
  · rw [r1, Int.toNat_natCast]; exact k4
  · rw [hB]; exact hbi.1
theorem Prof.Shape.behind {m : Prof} (h : m.Shape) {f g : Nat} (hg : m.s.src.length ≤ g) (hg2 : g < m.colN) (hf : m.colN ≤ f) (hf2 : f < m.colN + m.colL.length) (e : m.colT.getD f 0 = m.colS.getD g 0) : m.ColH f g := by
  have l1 := h.s.1.tl
  have l2 := h.t.1.tl
  have b0 := h.z.hl
  have hg3 := hg2
  unfold Prof.colN at hg3
  obtain ⟨x, y, i, q1, q2, q3, q4, q5⟩ := h.tri (i := f) hf hf2
  have es := Prof.colS_t (m := m) hf hf2
  have et := Prof.colT_t (m := m) (f := f) l1 l2 hf hf2
  have eg := Prof.colS_d (m := m) hg hg2
  have tg := Prof.colT_d (m := m) l1 l2 hg hg2
  have r0 : (m.colR f).getD 0 0 = (x : Int) := by rw [q4]; rfl
  have r1 : (m.colR f).getD 1 0 = (y : Int) := by rw [q4]; rfl
  have r2 : (m.colR f).getD 2 0 = (i : Int) := by rw [q4]; rfl
  have hy : m.t.src.getD (g - m.s.src.length) 0 = (y : Int) := by omega
  have hb := h.hx (b := g - m.s.src.length) (x := x) (by omega) q1
  rw [hy, Int.toNat_natCast] at hb
  have ht := h.t.1.tgt (g - m.s.src.length) (by omega)
  have hbi := hb.2.2.2.2.2.1 i (by omega)
  have hH : m.colH f g = ((m.bh.getD (g - m.s.src.length) []).getD x []).getD i 0 := by unfold Prof.colH; rw [r0, r2, Int.toNat_natCast, Int.toNat_natCast]
  have tg' : m.colT.getD g 0 - m.s.obj = m.t.tgt.getD (g - m.s.src.length) 0 := by omega
  obtain ⟨k1, k2, k3, k4⟩ := h.cok.idx (x := (x : Int)) (y := m.t.tgt.getD (g - m.s.src.length) 0) (e := m.colH f g) (by omega) q1 ht.1 ht.2 (by omega) (by rw [Int.toNat_natCast, hH]; exact hbi.2)
  have hK : m.colK2 f g = [(x : Int), m.t.tgt.getD (g - m.s.src.length) 0, m.colH f g] := by unfold Prof.colK2; rw [tg', r0]
  rw [← hK] at k2 k3
  rw [Int.toNat_natCast] at k2 k4
  constructor
  · exact hg
  · exact hg2
  · exact es
  · exact tg'
  · rw [q4]; rfl
  · omega
  · omega
  · omega
  · omega
  · rw [r0, Int.toNat_natCast]; omega
  · rw [r0, r2, Int.toNat_natCast, Int.toNat_natCast]; omega
  · omega
  · omega
  · exact ht.1
  · exact ht.2
  · rw [hy, r0, r2, Int.toNat_natCast, Int.toNat_natCast]; omega
  · rw [r0, Int.toNat_natCast]; exact k2
  · exact k3
  · rw [r0, Int.toNat_natCast]; exact k4
  · rw [hH]; exact hbi.1
theorem Prof.Shape.meet {m : Prof} (h : m.Shape) {f g : Nat} (hf : f < m.colN + m.colL.length) (hg : g < m.colN + m.colL.length) (e : m.colT.getD f 0 = m.colS.getD g 0) :
    (f < m.s.src.length ∧ g < m.s.src.length) ∨ (m.s.src.length ≤ f ∧ f < m.colN ∧ m.s.src.length ≤ g ∧ g < m.colN) ∨ (f < m.s.src.length ∧ m.colN ≤ g ∧ m.ColB f g) ∨ (m.colN ≤ f ∧ m.s.src.length ≤ g ∧ g < m.colN ∧ m.ColH f g) := by
  rcases h.tgtAt hf with ⟨a1, a2, a3⟩ | ⟨a1, a2, a3, a4⟩ | ⟨a1, a2, a3⟩
  · rcases h.srcAt hg with ⟨b1, b2, b3⟩ | ⟨b1, b2, b3, b4⟩ | ⟨b1, b2, b3⟩
    · exact .inl ⟨a1, b1⟩
    · omega
    · exact .inr (.inr (.inl ⟨a1, b1, h.before a1 b1 hg e⟩))
  · rcases h.srcAt hg with ⟨b1, b2, b3⟩ | ⟨b1, b2, b3, b4⟩ | ⟨b1, b2, b3⟩
    · omega
    · exact .inr (.inl ⟨a1, a2, b1, b2⟩)
    · omega
  · rcases h.srcAt hg with ⟨b1, b2, b3⟩ | ⟨b1, b2, b3, b4⟩ | ⟨b1, b2, b3⟩
    · omega
    · exact .inr (.inr (.inr ⟨a1, b1, b2, h.behind b1 b2 a1 hf e⟩))
    · omega
theorem Prof.Shape.colX_c {m : Prof} (h : m.Shape) {f g : Nat} (hf : f < m.s.src.length) (hg : g < m.s.src.length) : m.colX f g = (m.s.comp.getD f []).getD g 0 := by
  have c1 := h.s.1.cl
  have c2 := h.s.1.row f (by omega)
  unfold Prof.colX
  rw [if_pos (by unfold Prof.colN; omega)]
  show (((m.s.sumL m.t) ++ _).getD f []).getD g 0 = _
  unfold Cat.sumL
  rw [getD_append_l (by rw [List.length_map]; omega), getD_map (d := []) (by omega), getD_append_l (by omega)]
theorem Prof.Shape.colX_d {m : Prof} (h : m.Shape) {f g : Nat} (f1 : m.s.src.length ≤ f) (f2 : f < m.colN) (g1 : m.s.src.length ≤ g) (g2 : g < m.colN) (e : m.colT.getD f 0 = m.colS.getD g 0) :
    m.colX f g = (m.s.src.length : Int) + (m.t.comp.getD (f - m.s.src.length) []).getD (g - m.s.src.length) 0 ∧ 0 ≤ (m.t.comp.getD (f - m.s.src.length) []).getD (g - m.s.src.length) 0 ∧ (m.t.comp.getD (f - m.s.src.length) []).getD (g - m.s.src.length) 0 < m.t.src.length := by
  have l1 := h.s.1.tl
  have l2 := h.t.1.tl
  have c0 := h.s.1.cl
  have c1 := h.t.1.cl
  have e1 := Prof.colT_d (m := m) l1 l2 f1 f2
  have e2 := Prof.colS_d (m := m) g1 g2
  have hX : m.colX f g = ((m.s.sum m.t).comp.getD f []).getD g 0 := by unfold Prof.colX; rw [if_pos ⟨f2, g2⟩]
  unfold Prof.colN at f2 g2
  have c2 := h.t.1.row (f - m.s.src.length) (by omega)
  have hc := (Cat.Cell.pos (by omega)).1 (h.t.1.cell (f - m.s.src.length) (by omega) (g - m.s.src.length) (by omega))
  refine ⟨?_, hc.1, hc.2.1⟩
  rw [hX]
  show (((m.s.sumL m.t) ++ _).getD f []).getD g 0 = _
  have hl : (m.s.sumL m.t).length = m.s.src.length := by unfold Cat.sumL; rw [List.length_map, c0]
  rw [getD_append_r (by omega), hl, getD_map (d := []) (by omega)]
  unfold sumRow
  rw [getD_append_r (by rw [List.length_replicate]; exact g1), List.length_replicate, getD_map (d := 0) (by omega), if_pos hc.1]
  omega
theorem Prof.colX_b {m : Prof} {f g : Nat} (hf : f < m.colN) (hg : m.colN ≤ g) : m.colX f g = (m.colN : Int) + idxLL m.colL (m.colK1 f g) := by
  unfold Prof.colX
  rw [if_neg (by omega), if_pos hf]
theorem Prof.colX_h {m : Prof} {f g : Nat} (hf : m.colN ≤ f) : m.colX f g = (m.colN : Int) + idxLL m.colL (m.colK2 f g) := by
  unfold Prof.colX
  rw [if_neg (by omega), if_neg (by omega)]
def Prof.col (m : Prof) : Cat := ⟨m.s.obj + m.t.obj, m.colS, m.colT, (m.s.sum m.t).idn, tabL m.colS m.colT m.colX m.colS.length⟩
def Prof.ColFits (m : Prof) : Prop := m.s.obj + m.t.obj ≤ 8 ∧ m.colS.length ≤ 40
theorem Prof.Shape.meetB {m : Prof} (h : m.Shape) {f g : Nat} (hf : f < m.colN) (hg : m.colN ≤ g) (hg2 : g < m.colN + m.colL.length) (e : m.colT.getD f 0 = m.colS.getD g 0) : m.ColB f g := by
  rcases h.meet (f := f) (g := g) (by omega) hg2 e with ⟨_, q⟩ | ⟨_, _, _, q⟩ | ⟨_, _, q⟩ | ⟨q, _⟩
  · have : m.s.src.length ≤ m.colN := by unfold Prof.colN; omega
    omega
  · omega
  · exact q
  · omega
theorem Prof.Shape.meetH {m : Prof} (h : m.Shape) {f g : Nat} (hf : m.colN ≤ f) (hf2 : f < m.colN + m.colL.length) (hg2 : g < m.colN + m.colL.length) (e : m.colT.getD f 0 = m.colS.getD g 0) : m.ColH f g := by
  rcases h.meet (f := f) (g := g) hf2 hg2 e with ⟨q, _⟩ | ⟨_, q, _⟩ | ⟨q, _⟩ | ⟨_, _, _, q⟩
  · have : m.s.src.length ≤ m.colN := by unfold Prof.colN; omega
    omega
  · omega
  · have : m.s.src.length ≤ m.colN := by unfold Prof.colN; omega
    omega
  · exact q
theorem Prof.Shape.sum_cl {m : Prof} (h : m.Shape) : (m.s.sum m.t).comp.length = m.colN := by
  have h1 := h.s.1.cl
  have h2 := h.t.1.cl
  simp only [Cat.sum, Cat.sumL, Prof.colN, List.length_append, List.length_map]
  omega
theorem Prof.Shape.sum_row {m : Prof} (h : m.Shape) {f : Nat} (hf : f < m.colN) : ((m.s.sum m.t).comp.getD f []).length = m.colN := by
  have h1 := h.s.1.cl
  have h2 := h.t.1.cl
  have hl : (m.s.sumL m.t).length = m.s.src.length := by unfold Cat.sumL; rw [List.length_map, h1]
  unfold Prof.colN at hf ⊢
  show ((m.s.sumL m.t ++ m.t.comp.map (sumRow m.s.src.length)).getD f []).length = _
  by_cases hc : f < m.s.src.length
  · have h3 := h.s.1.row f (by omega)
    rw [getD_append_l (by omega)]
    unfold Cat.sumL
    rw [getD_map (d := []) (by omega), List.length_append, List.length_replicate, h3]
  · have h3 := h.t.1.row (f - m.s.src.length) (by omega)
    rw [getD_append_r (by omega), hl, getD_map (d := []) (by omega), length_sumRow, h3]
def Prof.colSp (m : Prof) (x y e : Nat) : List Int := (m.s.sum m.t).src ++ (m.colP x y e).map fun t => t.getD 0 0
def Prof.colTp (m : Prof) (x y e : Nat) : List Int := (m.s.sum m.t).tgt ++ (m.colP x y e).map fun t => m.s.obj + t.getD 1 0
theorem Prof.colSp_snoc {m : Prof} {x y e : Nat} : m.colSp x y (e + 1) = m.colSp x y e ++ [(x : Int)] := by
  unfold Prof.colSp
  rw [Prof.colP_snoc, List.map_append, ← List.append_assoc]; rfl
theorem Prof.colTp_snoc {m : Prof} {x y e : Nat} : m.colTp x y (e + 1) = m.colTp x y e ++ [m.s.obj + (y : Int)] := by
  unfold Prof.colTp
  rw [Prof.colP_snoc, List.map_append, ← List.append_assoc]; rfl
theorem Prof.colSp_next2 {m : Prof} {x y : Nat} : m.colSp x (y + 1) 0 = m.colSp x y (m.colS2 x y) := by unfold Prof.colSp; rw [Prof.colP_next2]
theorem Prof.colTp_next2 {m : Prof} {x y : Nat} : m.colTp x (y + 1) 0 = m.colTp x y (m.colS2 x y) := by unfold Prof.colTp; rw [Prof.colP_next2]
theorem Prof.colSp_next1 {m : Prof} {x : Nat} : m.colSp (x + 1) 0 0 = m.colSp x m.t.obj.toNat 0 := by unfold Prof.colSp; rw [Prof.colP_next1]
theorem Prof.colTp_next1 {m : Prof} {x : Nat} : m.colTp (x + 1) 0 0 = m.colTp x m.t.obj.toNat 0 := by unfold Prof.colTp; rw [Prof.colP_next1]
theorem Prof.colSp_row {m : Prof} {x y : Nat} : m.colSp x (y + 1) 0 = m.colSp x y 0 ++ (List.range (m.colS2 x y)).map fun _ => (x : Int) := by
  unfold Prof.colSp
  rw [Prof.colP_row, List.map_append, ← List.append_assoc, List.map_map]; rfl
theorem Prof.colTp_row {m : Prof} {x y : Nat} : m.colTp x (y + 1) 0 = m.colTp x y 0 ++ (List.range (m.colS2 x y)).map fun _ => m.s.obj + (y : Int) := by
  unfold Prof.colTp
  rw [Prof.colP_row, List.map_append, ← List.append_assoc, List.map_map]; rfl
theorem Prof.colSp_zero {m : Prof} : m.colSp 0 0 0 = m.s.src ++ m.t.src.map (· + m.s.obj) := by
  have e0 : m.colP 0 0 0 = [] := nest3_zero _ _ _
  unfold Prof.colSp
  rw [e0, List.map_nil, List.append_nil]; rfl
theorem Prof.colTp_zero {m : Prof} : m.colTp 0 0 0 = m.s.tgt ++ m.t.tgt.map (· + m.s.obj) := by
  have e0 : m.colP 0 0 0 = [] := nest3_zero _ _ _
  unfold Prof.colTp
  rw [e0, List.map_nil, List.append_nil]; rfl
theorem Prof.colSp_len {m : Prof} {x y e : Nat} : (m.colSp x y e).length = m.colN + (m.colP x y e).length := by unfold Prof.colSp; rw [List.length_append, List.length_map, m.sum_n]
theorem Prof.Shape.colTp_len {m : Prof} (h : m.Shape) {x y e : Nat} : (m.colTp x y e).length = m.colN + (m.colP x y e).length := by
  have h1 := h.s.1.tl
  have h2 := h.t.1.tl
  unfold Prof.colTp
  rw [List.length_append, List.length_map]
  simp only [Cat.sum, Prof.colN, List.length_append, List.length_map]
  omega
structure ColSt (eI eS eT eP : TypeId) (H0 H : GHeap) (m : Prof) (p : ProfP) (g1 g2 g3 g4 g5 gI gC : Nat) (r0 : Nat → Option Addr) (zs : List Value) (x y e : Nat) (r1 : Nat → Option Addr) (gV gF gT : Nat) : Prop where
  hle : H0.Le H
  a1 : H.get g1 = some (.row (m.cells p) eP true)
  a2 : H.get g2 = some (.row zs eT true)
  a3 : H.get g3 = some (.row (m.s.cells p.s) eT true)
  a4 : H.get g4 = some (.row (m.t.cells p.t) eT true)
  a5 : H.get g5 = some (.row [.int .i64 (m.s.obj + m.t.obj), .slice (some ⟨gF, 0, none⟩) (m.colSp x y e).length (m.colSp x y e).length, .slice (some ⟨gT, 0, none⟩) (m.colTp x y e).length (m.colTp x y e).length, .slice (some ⟨gI, 0, none⟩) (m.s.sum m.t).idn.length (m.s.sum m.t).idn.length, .slice (some ⟨gC, 0, none⟩) (m.s.sum m.t).comp.length (m.s.sum m.t).comp.length] eT true)
  aF : H.get gF = some (.row (ints (m.colSp x y e)) eI true)
  aT : H.get gT = some (.row (ints (m.colTp x y e)) eI true)
  aI : H.get gI = some (.row (ints (m.s.sum m.t).idn) eI true)
  aC : H.get gC = some (.row (slsL r0 (m.s.sum m.t).comp) eS true)
  aV : H.get gV = some (.row (slsL r1 (m.colP x y e)) eS true)
  rows0 : OwnL H0.next H eI r0 (m.s.sum m.t).comp
  rows1 : OwnL H0.next H eI r1 (m.colP x y e)
  z1 : ∀ i, i < (m.s.sum m.t).comp.length → r0 i ≠ some ⟨gF, 0, none⟩
  z2 : ∀ i, i < (m.s.sum m.t).comp.length → r0 i ≠ some ⟨gT, 0, none⟩
  z3 : ∀ i, i < (m.s.sum m.t).comp.length → r0 i ≠ some ⟨gI, 0, none⟩
  w1 : ∀ i, i < (m.colP x y e).length → r1 i ≠ some ⟨gF, 0, none⟩
  w2 : ∀ i, i < (m.colP x y e).length → r1 i ≠ some ⟨gT, 0, none⟩
  bF : H0.next ≤ gF
  bT : H0.next ≤ gT
  bI : H0.next ≤ gI
  bC : H0.next ≤ gC
  bV : H0.next ≤ gV
  b5 : H0.next ≤ g5
  n12 : gF ≠ gT
  n13 : gF ≠ gI
  n23 : gT ≠ gI
  nV : gV ≠ gC
  n15 : g1 ≠ g5
  n25 : g2 ≠ g5
  n35 : g3 ≠ g5
  n45 : g4 ≠ g5
theorem ColSt.next2 {eI eS eT eP : TypeId} {H0 H : GHeap} {m : Prof} {p : ProfP} {g1 g2 g3 g4 g5 gI gC : Nat} {r0 : Nat → Option Addr} {zs : List Value} {x y : Nat} {r1 : Nat → Option Addr} {gV gF gT : Nat} (h : ColSt eI eS eT eP H0 H m p g1 g2 g3 g4 g5 gI gC r0 zs x y (m.colS2 x y) r1 gV gF gT) : ColSt eI eS eT eP H0 H m p g1 g2 g3 g4 g5 gI gC r0 zs x (y + 1) 0 r1 gV gF gT := by
  obtain ⟨y1, y2, y3, y4, y5, y6, y7, y8, y9, y10, y11, y12, y13, y14, y15, y16, y17, y18, y19, y20, y21, y22, y23, y24, y25, y26, y27, y28, y29, y30, y31, y32⟩ := h
  simp only [← Prof.colSp_next2, ← Prof.colTp_next2, ← Prof.colP_next2] at *
  exact ⟨y1, y2, y3, y4, y5, y6, y7, y8, y9, y10, y11, y12, y13, y14, y15, y16, y17, y18, y19, y20, y21, y22, y23, y24, y25, y26, y27, y28, y29, y30, y31, y32⟩
theorem ColSt.next1 {eI eS eT eP : TypeId} {H0 H : GHeap} {m : Prof} {p : ProfP} {g1 g2 g3 g4 g5 gI gC : Nat} {r0 : Nat → Option Addr} {zs : List Value} {x : Nat} {r1 : Nat → Option Addr} {gV gF gT : Nat} (h : ColSt eI eS eT eP H0 H m p g1 g2 g3 g4 g5 gI gC r0 zs x m.t.obj.toNat 0 r1 gV gF gT) : ColSt eI eS eT eP H0 H m p g1 g2 g3 g4 g5 gI gC r0 zs (x + 1) 0 0 r1 gV gF gT := by
  obtain ⟨y1, y2, y3, y4, y5, y6, y7, y8, y9, y10, y11, y12, y13, y14, y15, y16, y17, y18, y19, y20, y21, y22, y23, y24, y25, y26, y27, y28, y29, y30, y31, y32⟩ := h
  simp only [← Prof.colSp_next1, ← Prof.colTp_next1, ← Prof.colP_next1] at *
  exact ⟨y1, y2, y3, y4, y5, y6, y7, y8, y9, y10, y11, y12, y13, y14, y15, y16, y17, y18, y19, y20, y21, y22, y23, y24, y25, y26, y27, y28, y29, y30, y31, y32⟩
theorem ColSt.app {eI eS eT eP : TypeId} {H0 H H' : GHeap} {m : Prof} {p : ProfP} {g1 g2 g3 g4 g5 gI gC : Nat} {r0 : Nat → Option Addr} {zs : List Value} {x y e : Nat} {r1 : Nat → Option Addr} {gV gF gT gr gV' gF' gT' a b c : Nat} (h : ColSt eI eS eT eP H0 H m p g1 g2 g3 g4 g5 gI gC r0 zs x y e r1 gV gF gT) (s : St [gV, gF, gT, g5] H H') (t1 : (eI != eS) = true) (t2 : (eI != eT) = true) (t3 : (eS != eT) = true) (t4 : (eP != eS) = true) (t5 : (eP != eI) = true)
    (kr : H'.get gr = some (.row (ints [(x : Int), (y : Int), (e : Int)]) eI true)) (qr : H.next ≤ gr) (kV : H'.get gV' = some (.row (slsL r1 (m.colP x y e) ++ [.slice (some ⟨gr, 0, none⟩) 3 3]) eS true)) (qV : H.next ≤ gV') (kF : H'.get gF' = some (.row (ints (m.colSp x y e ++ [(x : Int)])) eI true)) (qF : H.next ≤ gF') (kT : H'.get gT' = some (.row (ints (m.colTp x y e ++ [m.s.obj + (y : Int)])) eI true)) (qT : H.next ≤ gT')
    (k5 : H'.get g5 = some (.row [.int .i64 (m.s.obj + m.t.obj), .slice (some ⟨gF', 0, none⟩) a a, .slice (some ⟨gT', 0, none⟩) b b, .slice (some ⟨gI, 0, none⟩) (m.s.sum m.t).idn.length (m.s.sum m.t).idn.length, .slice (some ⟨gC, 0, none⟩) c c] eT true)) (ea : a = (m.colSp x y e).length + 1) (eb : b = (m.colTp x y e).length + 1) (ec : c = (m.s.sum m.t).comp.length) (nrF : gr ≠ gF') (nrT : gr ≠ gT') (nFT : gF' ≠ gT') : ColSt eI eS eT eP H0 H' m p g1 g2 g3 g4 g5 gI gC r0 zs x y (e + 1) (upd r1 (m.colP x y e).length (some ⟨gr, 0, none⟩)) gV' gF' gT' := by
  have u1 : (eS != eI) = true := by simp only [bne_iff_ne, ne_eq] at t1 ⊢; exact fun e => t1 e.symm
  have u2 : (eT != eI) = true := by simp only [bne_iff_ne, ne_eq] at t2 ⊢; exact fun e => t2 e.symm
  have u3 : (eT != eS) = true := by simp only [bne_iff_ne, ne_eq] at t3 ⊢; exact fun e => t3 e.symm
  obtain ⟨y1, y2, y3, y4, y5, y6, y7, y8, y9, y10, y11, y12, y13, y14, y15, y16, y17, y18, y19, y20, y21, y22, y23, y24, y25, y26, y27, y28, y29, y30, y31, y32⟩ := h
  have l0 := y1.1
  have lI := GHeap.ltg y9
  have lC := GHeap.ltg y10
  have step : ∀ k o, k ≠ gV → k ≠ gF → k ≠ gT → k ≠ g5 → H.get k = some o → H'.get k = some o := fun k o h1 h2 h3 h4 h5 => s.same k o ⟨h1, h2, h3, h4, trivial⟩ h5
  have off0 : Off r0 (m.s.sum m.t).comp.length [gV, gF, gT, g5] := .cons (y12.neT y11 t1) (.cons y14 (.cons y15 (.cons (y12.neT y6 t2) (.nil _ _))))
  have off1 : Off r1 (m.colP x y e).length [gV, gF, gT, g5] := .cons (y13.neT y11 t1) (.cons y17 (.cons y18 (.cons (y13.neT y6 t2) (.nil _ _))))
  have lr := y13.ne (g := gr) qr
  subst ea eb ec
  constructor
  · exact y1.st s fun k hk => ⟨by omega, by omega, by omega, by omega, trivial⟩
  · exact step _ _ (row_ne y2 y11 t4) (row_ne y2 y7 t5) (row_ne y2 y8 t5) y29 y2
  · exact step _ _ (row_ne y3 y11 u3) (row_ne y3 y7 u2) (row_ne y3 y8 u2) y30 y3
  · exact step _ _ (row_ne y4 y11 u3) (row_ne y4 y7 u2) (row_ne y4 y8 u2) y31 y4
  · exact step _ _ (row_ne y5 y11 u3) (row_ne y5 y7 u2) (row_ne y5 y8 u2) y32 y5
  · rw [Prof.colSp_snoc, Prof.colTp_snoc, List.length_append, List.length_append]; exact k5
  · rw [Prof.colSp_snoc]; exact kF
  · rw [Prof.colTp_snoc]; exact kT
  · exact step _ _ (row_ne y9 y11 t1) (Ne.symm y26) (Ne.symm y27) (row_ne y9 y6 t2) y9
  · exact step _ _ (Ne.symm y28) (row_ne y10 y7 u1) (row_ne y10 y8 u1) (row_ne y10 y6 t3) y10
  · rw [Prof.colP_snoc]; exact (slsL_snoc (r := r1) (xss := m.colP x y e) (x := colPr x y e) (a := some ⟨gr, 0, none⟩)).symm ▸ kV
  · exact y12.st s off0
  · rw [Prof.colP_snoc]; exact (y13.st s off1).snoc2 kr lr (by omega)
  · exact y12.ne qF
  · exact y12.ne qT
  · exact y16
  · rw [Prof.colP_snoc]; exact ne_snoc (y13.ne qF) nrF
  · rw [Prof.colP_snoc]; exact ne_snoc (y13.ne qT) nrT
  · omega
  · omega
  · omega
  · omega
  · omega
  · omega
  · exact nFT
  · omega
  · omega
  · omega
  · exact y29
  · exact y30
  · exact y31
  · exact y32
def Prof.colPre (m : Prof) : Cat := ⟨m.s.obj + m.t.obj, m.colS, m.colT, (m.s.sum m.t).idn, (m.s.sum m.t).comp⟩
noncomputable def Prof.colFin (m : Prof) : Cat := bif B (m.s.obj + m.t.obj ≤ 8 ∧ m.colS.length ≤ 40) then m.col else m.colPre
theorem Prof.colFin_ok {m : Prof} (h : m.s.obj + m.t.obj ≤ 8 ∧ m.colS.length ≤ 40) : m.colFin = m.col := by unfold Prof.colFin; rw [B_true h]; rfl
theorem Prof.colFin_big {m : Prof} (h : ¬ (m.s.obj + m.t.obj ≤ 8 ∧ m.colS.length ≤ 40)) : m.colFin = m.colPre := by unfold Prof.colFin; rw [B_false h]; rfl
theorem Prof.colFin_fits (m : Prof) : m.colFin.obj = m.s.obj + m.t.obj ∧ m.colFin.src = m.colS := by
  unfold Prof.colFin
  cases B (m.s.obj + m.t.obj ≤ 8 ∧ m.colS.length ≤ 40) <;> exact ⟨rfl, rfl⟩
noncomputable def Prof.colRes (m : Prof) : Cat := bif B (m.Is ∧ m.ColFits) then m.col else .zero
noncomputable def Prof.colC (m : Prof) : Int := bif B m.Is then (bif B m.ColFits then 0 else 3) else 1
theorem Prof.col_small (m : Prof) : m.colRes.Small := by
  unfold Prof.colRes
  by_cases h : m.Is ∧ m.ColFits
  · rw [B_true h]
    obtain ⟨hI, hF⟩ := h
    have hS := hI.1
    have h1 := hS.length_colT
    have h2 := m.length_colS
    have h3 := hF.2
    have h4 := hS.s.1.il
    have h5 := hS.t.1.il
    have h6 := hS.s.1.obj
    have h7 := hS.t.1.obj
    show Cat.Small m.col
    refine ⟨by show m.colS.length ≤ _; omega, by show m.colT.length ≤ _; omega, ?_, ?_, fun i => ?_, by show -9223372036854775808 ≤ m.s.obj + m.t.obj; omega, by show m.s.obj + m.t.obj ≤ 9223372036854775807; omega⟩
    · show (m.s.idn ++ m.t.idn.map (· + (m.s.src.length : Int))).length ≤ 1048576
      rw [List.length_append, List.length_map]; omega
    · show (tabL m.colS m.colT m.colX m.colS.length).length ≤ 1048576
      unfold tabL; rw [length_rowsOf]; omega
    · show ((tabL m.colS m.colT m.colX m.colS.length).getD i []).length ≤ 1048576
      unfold tabL
      by_cases hi : i < m.colS.length
      · rw [rowsOf_get hi, length_tabR]; omega
      · rw [List.getD_eq_getElem?_getD, List.getElem?_eq_none (by rw [length_rowsOf]; omega)]; exact Nat.zero_le _
  · rw [B_false h]
    exact ⟨by simp [Cat.zero], by simp [Cat.zero], by simp [Cat.zero], by simp [Cat.zero], fun i => by simp [Cat.zero], by simp [Cat.zero], by simp [Cat.zero]⟩
theorem Prof.col_nis {m : Prof} (h : ¬ m.Is) : m.colRes = .zero ∧ m.colC = 1 := by unfold Prof.colRes Prof.colC; rw [B_false (fun hh => h hh.1), B_false h]; exact ⟨rfl, rfl⟩
theorem Prof.col_big {m : Prof} (h : m.Is) (h' : ¬ m.ColFits) : m.colRes = .zero ∧ m.colC = 3 := by unfold Prof.colRes Prof.colC; rw [B_false (fun hh => h' hh.2), B_true h, B_false h']; exact ⟨rfl, rfl⟩
theorem Prof.col_ok {m : Prof} (h : m.Is) (h' : m.ColFits) : m.colRes = m.col ∧ m.colC = 0 := by unfold Prof.colRes Prof.colC; rw [B_true ⟨h, h'⟩, B_true h, B_true h']; exact ⟨rfl, rfl⟩
end Go.GL
namespace Go.Proofs.Ytdjodpdmbklfhaa
open Go Go.GL Go.RowKit Go.Proofs
theorem shifted_c {a : Option Addr} {xs : List Int} {b : Int} {H : GHeap} (h : Ints H a xs := by assumption) (hl : xs.length ≤ 1048576 := by omega) (hb : ∀ i, i < xs.length → -1000000 ≤ xs.getD i 0 + b ∧ xs.getD i 0 + b ≤ 1000000) :
    GCalls Try.prog 52 [.slice a xs.length xs.length, .int .i64 b] H (NewInts 2 H (xs.map (· + b))) := by
  refine GCalls.body (N := 23) (rs := [.tmp 4]) Try.func52 rfl rfl rfl rfl (fun Qx hret hend => ?_)
  refine .forget (fr' := [(0, some _), (1, some _)]) ⟨rfl, rfl, trivial⟩ ?_
  have hle := GHeap.Le.refl H
  have base_h := h
  refine .seq (fun K1 hK1 => .region (.mv rfl (.nil (hK1 _ _ (.seq (fun K2 hK2 => .region ?_))))))
  refine .r rfl rfl rfl (.litR rfl sl_22_A ze_2_E rfl rfl (by omega) (by omega) rfl rfl) ?_
  rintro _ H8 ⟨g8, rfl, le8, ge8, at8⟩
  have nx_H8 := le8.1
  replace hle := hle.trans le8
  have lt_at8 := GHeap.ltg at8
  replace h := base_h.mono hle
  replace at8 : GHeap.get H8 g8 = some (.row (ints []) 2 true) := at8
  refine .mv rfl (.nil (hK2 _ _ (.seq (fun K3 hK3 => .seq (fun K4 hK4 => .region (.mv rfl (.m rfl rfl rfl (.len sl_22_A rfl) (.mv rfl (.nil (hK4 _ _ ?_))))))))))
  refine .block ?_
  refine .loopR (σ := Nat × Nat × Nat) [(1, some _), (9, some _), (10, some _)] (fun (k, gL5, nL5) => [(11, some (.int .i64 (k : Int))), (5, some (.slice (some ⟨gL5, 0, none⟩) nL5 nL5))]) (fun (k, gL5, nL5) H' => St [g8] H8 H' ∧ H'.get gL5 = some (.row (ints ((xs.map (· + b)).take k)) 2 true) ∧ (gL5 = g8 ∨ H8.next ≤ gL5) ∧ nL5 = ((xs.map (· + b)).take k).length ∧ k ≤ xs.length) (fun (k, gL5, nL5) => xs.length - k) ((0, _, _)) ⟨rfl, rfl, rfl, trivial⟩ ⟨rfl, rfl, trivial⟩ ?_ ?_
  ·
   refine ⟨.refl _ _, by first | assumption | exact at8 | simpa using at8, .inl rfl, by first | rfl | assumption | simp | omega, ?_⟩
   omega
  rintro ⟨k, gL5, nL5⟩ HL1 ⟨lst1, at_L5, pl_L5, ln_L5, hI⟩ KL1 hKL1
  refine .forget (fr' := [(11, some (.int .i64 (k : Int))), (5, some (.slice (some ⟨gL5, 0, none⟩) nL5 nL5)), (1, some _), (9, some _), (10, some _)]) ⟨rfl, rfl, rfl, rfl, rfl, trivial⟩ ?_
  have ge_L5 : H.next ≤ gL5 := by omega
  have nx_HL1 := lst1.nx
  replace hle := hle.st lst1 (fun k hk => ⟨by omega, trivial⟩)
  have lt_at_L5 := GHeap.ltg at_L5
  replace h := base_h.mono hle
  have hfl : ((xs.map (· + b)).take k).length = k := by rw [List.length_take, List.length_map]; omega
  refine .seq (fun K5 hK5 => .region (.m rfl rfl rfl (.cmp rfl rfl rfl) (.nil (hK5 _ _ (.seq (fun K6 hK6 => ?_))))))
  refine .cond rfl (fun h12 => ?_) (fun h12 => ?_)
  ·
   simp only [sps] at h12
   have hbk := hb k (by omega)
   refine .skip ?_
   refine hK6 _ _ (.seq (fun K7 hK7 => ?_))
   refine .block ?_
   refine .seq (fun K8 hK8 => .region ?_)
   refine .m rfl rfl rfl (.idxN sl_22_A (by assumption) rfl rfl (by omega)) ?_
   refine .m rfl rfl rfl (.loadI on_2_A (by assumption) rfl (by omega)) ?_
   refine .mv rfl (.nil (hK8 _ _ (.region (.mv rfl (.mv rfl (.mv rfl ?_))))))
   refine .m rfl rfl rfl (.add rfl rfl rfl (by omega) (by omega)) ?_
   refine .r rfl rfl rfl (.litR rfl sl_22_A ze_2_E rfl rfl (by omega) (by omega) rfl rfl) ?_
   rintro _ H19 ⟨g19, rfl, le19, ge19, at19⟩
   have nx_H19 := le19.1
   replace hle := hle.trans le19
   replace lst1 := lst1.le le19
   replace at_L5 := le19.2 _ _ at_L5
   have lt_at19 := GHeap.ltg at19
   replace h := base_h.mono hle
   refine .r rfl rfl rfl (.appendI rfl sl_22_A ze_2_E rfl by_2_E sl_22_A rfl rfl (by assumption) (by assumption) (by first | omega | (simp <;> omega)) (by omega) (by omega)) ?_
   rintro _ H20 ⟨g20, rfl, st20, ge20, at20⟩
   have nx_H20 := st20.nx
   replace hle := hle.st st20 (fun k hk => ⟨by omega, trivial⟩)
   replace lst1 := lst1.st st20 (fun k hk ho => by simp only [out, and_true] at ho ⊢ <;> first | exact ho | exact ho.1 | exact ho.2 | exact ho.2.1 | exact ho.2.2 | exact ho.2.2.1 | exact ho.2.2.2 | omega)
   replace at19 := st20.same _ _ ⟨(by first | assumption | omega), trivial⟩ at19
   have lt_at20 := GHeap.ltg at20
   replace h := base_h.mono hle
   refine .mv rfl (.nil (hK7 _ _ (.region ?_)))
   refine .m rfl rfl rfl (.add rfl rfl rfl (by omega) (by omega)) ?_
   refine .mv rfl (.nil ?_)
   refine hKL1 ((k + 1, _, _)) _ _ ?_ ?_ ⟨rfl, rfl, rfl, rfl, rfl, trivial⟩
   ·
    refine ⟨lst1, by first | assumption | (rw [shift_take (by omega)]; assumption), by omega, by first | omega | (simp only [List.length_append, List.length_cons, List.length_nil] <;> omega) | (rw [shift_take (by omega)] <;> (first | omega | (simp only [List.length_append, List.length_cons, List.length_nil] <;> omega))), ?_⟩
    omega
   (dsimp only; omega)
  try simp only [sps] at h12
  refine .exit ?_
  refine hK3 _ _ (.seq (fun K9 hK9 => .region (.mv rfl (.mv rfl (.nil (hK9 _ _ ?_))))))
  refine .ret ?_
  refine hret _ _ ?_
  refine ⟨_, rfl, ?_⟩
  obtain rfl : k = xs.length := by omega
  have e1 : (xs.map (· + b)).take xs.length = xs.map (· + b) := List.take_of_length_le (by simp)
  rw [e1] at at_L5 ln_L5
  exact ⟨hle, _, by rw [ln_L5], at_L5, by omega⟩
theorem repeated_c {x n : Int} {H : GHeap} (h0 : 0 ≤ n := by omega) (hn : n ≤ 1048576 := by omega) :
    GCalls Try.prog 53 [.int .i64 x, .int .i64 n] H (NewInts 2 H ((List.range n.toNat).map fun _ => x)) := by
  refine GCalls.body (N := 20) (rs := [.tmp 4]) Try.func53 rfl rfl rfl rfl (fun Qx hret hend => ?_)
  refine .forget (fr' := [(0, some _), (1, some _)]) ⟨rfl, rfl, trivial⟩ ?_
  have hle := GHeap.Le.refl H
  refine .seq (fun K1 hK1 => .region (.mv rfl (.nil (hK1 _ _ (.seq (fun K2 hK2 => .region (.mv rfl ?_)))))))
  refine .r rfl rfl rfl (.makeI rfl sl_22_A ze_2_E by_2_E rfl rfl (by omega) (by omega) (by omega) (by omega)) ?_
  rintro _ H8 ⟨g8, rfl, le8, ge8, at8⟩
  replace hle := hle.trans le8
  have lt_at8 := GHeap.ltg at8
  refine .mv rfl (.nil (hK2 _ _ (.seq (fun K3 hK3 => .seq (fun K4 hK4 => .region (.mv rfl (.m rfl rfl rfl (.len sl_22_A rfl) (.mv rfl (.nil (hK4 _ _ ?_))))))))))
  refine .block ?_
  refine .loopR (σ := Nat) [(0, some _), (5, some _), (10, some _)] (fun k => [(11, some (.int .i64 (k : Int)))]) (fun k H' => St [g8] H8 H' ∧ H'.get g8 = some (.row (ints (fillI (fun _ => x) n.toNat k)) 2 true) ∧ k ≤ n.toNat) (fun k => n.toNat - k) (0) ⟨rfl, rfl, rfl, trivial⟩ ⟨rfl, trivial⟩ ?_ ?_
  ·
   refine ⟨.refl _ _, by (rw [fillI_zero]; simpa using at8), ?_⟩
   omega
  rintro k HL1 ⟨lst1, at_L5, hI⟩ KL1 hKL1
  refine .forget (fr' := [(11, some (.int .i64 (k : Int))), (0, some _), (5, some _), (10, some _)]) ⟨rfl, rfl, rfl, rfl, trivial⟩ ?_
  replace hle := hle.st lst1 (fun k hk => ⟨by omega, trivial⟩)
  have lt_at_L5 := GHeap.ltg at_L5
  refine .seq (fun K5 hK5 => .region (.m rfl rfl rfl (.cmp rfl rfl rfl) (.nil (hK5 _ _ (.seq (fun K6 hK6 => ?_))))))
  refine .cond rfl (fun h12 => ?_) (fun h12 => ?_)
  ·
   simp only [sps] at h12
   refine .skip ?_
   refine hK6 _ _ (.seq (fun K7 hK7 => ?_))
   refine .block ?_
   refine .seq (fun K8 hK8 => .region (.mv rfl (.mv rfl (.nil (hK8 _ _ (.region (.mv rfl (.mv rfl (.mv rfl ?_)))))))))
   refine .m rfl rfl rfl (.idxN sl_22_A (by first | assumption | exact SlA.of_row at_L5 (by first | rfl | (simp; done) | (simp <;> omega))) rfl rfl (by omega)) ?_
   refine .r0 rfl rfl (.storeI rfl sz_2_E rfl rfl (by assumption) (by first | omega | (simp <;> omega))) ?_
   rintro _ H5004 ⟨rfl, st5004, at5004⟩
   replace hle := hle.st st5004 (fun k hk => ⟨by omega, trivial⟩)
   replace lst1 := lst1.st st5004 (fun k hk ho => by simp only [out, and_true] at ho ⊢ <;> first | exact ho | exact ho.1 | exact ho.2 | exact ho.2.1 | exact ho.2.2 | exact ho.2.2.1 | exact ho.2.2.2 | omega)
   have lt_at5004 := GHeap.ltg at5004
   refine .nil (hK7 _ _ (.region ?_))
   refine .m rfl rfl rfl (.add rfl rfl rfl (by omega) (by omega)) ?_
   refine .mv rfl (.nil ?_)
   refine hKL1 (k + 1) _ _ ?_ ?_ ⟨rfl, rfl, rfl, rfl, trivial⟩
   ·
    refine ⟨lst1, by (rw [← fillI_set (c := fun _ => x) (by omega) rfl]; simpa using at5004), ?_⟩
    omega
   omega
  try simp only [sps] at h12
  refine .exit ?_
  refine hK3 _ _ (.seq (fun K9 hK9 => .region (.mv rfl (.mv rfl (.nil (hK9 _ _ ?_))))))
  refine .ret ?_
  refine hret _ _ ?_
  refine ⟨_, rfl, ?_⟩
  obtain rfl : k = n.toNat := by omega
  rw [fillI_all] at at_L5
  exact ⟨hle, _, by simp, at_L5, by omega⟩
theorem l02Fits_c {c : Cat} {p : CatP} {H : GHeap} (hin : c.In H p := by assumption) :
    GCalls Try.prog 73 [.agg (c.cells p).toArray] H (Ret (.bool (B (c.obj ≤ 8 ∧ c.src.length ≤ 40))) H) := by
  refine GCalls.ret rfl ?_
  refine GCalls.body (N := 12) (rs := [.tmp 2]) Try.func73 rfl rfl rfl rfl (fun Qx hret hend => ?_)
  refine .forget (fr' := [(0, some _)]) ⟨rfl, trivial⟩ ?_
  have hle := GHeap.Le.refl H
  have base_hin := hin
  refine .seq (fun K1 hK1 => .region ?_)
  refine .r rfl rfl rfl (.boxR rfl sz_30_D rfl) ?_
  rintro _ H1 ⟨g1, rfl, le1, ge1, at1⟩
  replace hle := hle.trans le1
  have lt_at1 := GHeap.ltg at1
  replace hin := base_hin.mono hle
  have hb1 : Cat.At _ g1 0 c p := ⟨Mem.of_get at1, hin⟩
  obtain ⟨c01, c11, c21, c31, c41, i11, i21, i31, i41⟩ := hb1.get
  refine .mv rfl (.nil (hK1 _ _ (.seq (fun K2 hK2 => .region (.m rfl rfl rfl (.fieldAddr fo_30_0_B rfl) ?_)))))
  refine .m rfl rfl rfl (.load on_2_A rfl (by first | assumption | exact Mem.of_get at1 0 _ rfl)) ?_
  refine .m rfl rfl rfl (.cmp rfl rfl rfl) (.mv rfl ?_)
  refine .split (fun h6 => ?_) (fun h6 => ?_)
  ·
   try simp only [sps] at h6
   refine .mg rfl rfl rfl rfl rfl (.fieldAddr fo_30_1_B rfl) ?_
   refine .mg rfl rfl rfl rfl rfl (.load on_22_B rfl (by first | assumption | exact Mem.of_get at1 1 _ rfl)) ?_
   refine .mg rfl rfl rfl rfl rfl (.len sl_22_A rfl) (.mg rfl rfl rfl rfl rfl (.cmp rfl rfl rfl) (.m rfl rfl rfl (.pickT rfl rfl) (.mv rfl (.nil (hK2 _ _ ?_)))))
   refine .ret ?_
   refine hret _ _ ?_
   refine ⟨_, rfl, ?_⟩
   exact ⟨congrArg _ (by unfold B; first | (rw [decide_eq_decide]; omega) | (rw [decide_eq_false_iff_not]; omega)), hle⟩
  try simp only [sps] at h6
  refine .sg rfl rfl rfl rfl rfl (.sg rfl rfl rfl rfl rfl (.sg rfl rfl rfl rfl rfl (.sg rfl rfl rfl rfl rfl (.m rfl rfl rfl (.pickF rfl rfl) (.mv rfl (.nil (hK2 _ _ ?_)))))))
  refine .ret ?_
  refine hret _ _ ?_
  refine ⟨_, rfl, ?_⟩
  exact ⟨congrArg _ (by unfold B; first | (rw [decide_eq_decide]; omega) | (rw [decide_eq_false_iff_not]; omega)), hle⟩
set_option maxHeartbeats 4000000 in
theorem l01Own2O_c {a : Option Addr} {pss : List (List Int)} {r : Nat → Option Addr} {H : GHeap} (h : Intss H a pss r := by assumption) (hl : pss.length ≤ 1048576 := by omega) (hl2 : ∀ i, (pss.getD i []).length ≤ 1048576) :
    GCalls Try.prog 153 [.slice a pss.length pss.length] H (fun v H' => H.Le H' ∧ ∃ g rr, v = .slice (some ⟨g, 0, none⟩) pss.length pss.length ∧ H'.get g = some (.row (slsL rr pss) 22 true) ∧ H.next ≤ g ∧ OwnL H.next H' 2 rr pss) := by
  refine GCalls.body (N := 21) (rs := [.tmp 2]) Try.func153 rfl rfl rfl rfl (fun Qx hret hend => ?_)
  refine .forget (fr' := [(0, some _)]) ⟨rfl, trivial⟩ ?_
  have hle := GHeap.Le.refl H
  have base_h := h
  refine .seq (fun K1 hK1 => .region (.mv rfl (.nil (hK1 _ _ (.seq (fun K2 hK2 => .region ?_))))))
  refine .r rfl rfl rfl (.litR rfl sl_23_B ze_22_E rfl rfl (by omega) (by omega) rfl rfl) ?_
  rintro _ H5 ⟨g5, rfl, le5, ge5, at5⟩
  have nx_H5 := le5.1
  replace hle := hle.trans le5
  have lt_at5 := GHeap.ltg at5
  replace h := base_h.mono hle
  refine .mv rfl (.nil (hK2 _ _ (.seq (fun K3 hK3 => .seq (fun K4 hK4 => .region (.mv rfl (.nil (hK4 _ _ ?_))))))))
  refine .block ?_
  refine .loopR (σ := Nat × (Nat → Option Addr) × Nat × Nat) [(0, some _)] (fun (i, rr, gL3, nL3) => [(4, some (.int .i64 (i : Int))), (3, some (.slice (some ⟨gL3, 0, none⟩) nL3 nL3))]) (fun (i, rr, gL3, nL3) H' => St [g5] H5 H' ∧ H'.get gL3 = some (.row ((slsL rr (pss.take i))) 22 true) ∧ (gL3 = g5 ∨ H5.next ≤ gL3) ∧ nL3 = (slsL rr (pss.take i)).length ∧ i ≤ pss.length ∧ OwnL H.next H' 2 rr (pss.take i)) (fun (i, rr, gL3, nL3) => pss.length - i) ((0, fun _ => none, _, _)) ⟨rfl, trivial⟩ ⟨rfl, rfl, trivial⟩ ?_ ?_
  ·
   refine ⟨.refl _ _, by first | assumption | exact at5 | simpa using at5, .inl rfl, by first | rfl | assumption | simp | omega, ?_⟩
   exact ⟨by omega, .nil _ _ _ _⟩
  rintro ⟨i, rr, gL3, nL3⟩ HL1 ⟨lst1, at_L3, pl_L3, ln_L3, hI⟩ KL1 hKL1
  refine .forget (fr' := [(4, some (.int .i64 (i : Int))), (3, some (.slice (some ⟨gL3, 0, none⟩) nL3 nL3)), (0, some _)]) ⟨rfl, rfl, rfl, trivial⟩ ?_
  have ge_L3 : H.next ≤ gL3 := by omega
  have nx_HL1 := lst1.nx
  replace hle := hle.st lst1 (fun k hk => ⟨by omega, trivial⟩)
  have lt_at_L3 := GHeap.ltg at_L3
  replace h := base_h.mono hle
  have rk := St.refl [gL3] HL1
  obtain ⟨hi, hR⟩ := hI
  have hat3 := at_L3
  have htk : (pss.take i).length = i := by rw [List.length_take]; omega
  have hfl : (slsL rr (pss.take i)).length = (pss.take i).length := length_slsL _ _
  have hli := hl2 i
  refine .seq (fun K5 hK5 => .seq (fun K6 hK6 => .region (.mv rfl (.mv rfl (.m rfl rfl rfl (.len sl_23_B rfl) (.m rfl rfl rfl (.cmp rfl rfl rfl) (.nil (hK6 _ _ ?_))))))))
  refine .cond rfl (fun h9 => ?_) (fun h9 => ?_)
  ·
   simp only [sps] at h9
   have u1 := h.2 i (by omega)
   refine .skip ?_
   refine hK5 _ _ (.seq (fun K7 hK7 => ?_))
   refine .block ?_
   refine .region (.mv rfl (.mv rfl (.mv rfl ?_)))
   refine .m rfl rfl rfl (.idxN sl_23_B (Intss.sl (by assumption)) rfl rfl (by omega)) ?_
   refine .m rfl rfl rfl (.loadR on_22_B (by assumption) rfl (by omega)) ?_
   refine .call rfl rfl rfl rfl @Try.call152 rfl (l01Own_c) ?_
   rintro _ H17 ⟨le17, g17, rfl, at17, ge17⟩
   have nx_H17 := le17.1
   replace hle := hle.trans le17
   replace lst1 := lst1.le le17
   replace rk := rk.le le17
   replace at_L3 := le17.2 _ _ at_L3
   have lt_at17 := GHeap.ltg at17
   replace h := base_h.mono hle
   clear u1
   have u1 := h.2 i (by omega)
   refine .r rfl rfl rfl (.litR rfl sl_23_B ze_22_E rfl rfl (by omega) (by omega) rfl rfl) ?_
   rintro _ H18 ⟨g18, rfl, le18, ge18, at18⟩
   have nx_H18 := le18.1
   replace hle := hle.trans le18
   replace lst1 := lst1.le le18
   replace rk := rk.le le18
   replace at_L3 := le18.2 _ _ at_L3
   replace at17 := le18.2 _ _ at17
   have lt_at18 := GHeap.ltg at18
   replace h := base_h.mono hle
   clear u1
   have u1 := h.2 i (by omega)
   refine .r rfl rfl rfl (.appendV rfl sl_23_B ze_22_E rfl by_22_E sl_23_B rfl rfl (by assumption) (by assumption) (by first | omega | (simp <;> omega)) rfl rfl (by omega) (by omega)) ?_
   rintro _ H19 ⟨g19, rfl, st19, ge19, at19⟩
   have nx_H19 := st19.nx
   replace hle := hle.st st19 (fun k hk => ⟨by omega, trivial⟩)
   replace lst1 := lst1.st st19 (fun k hk ho => by simp only [out, and_true] at ho ⊢ <;> first | exact ho | exact ho.1 | exact ho.2 | exact ho.2.1 | exact ho.2.2 | exact ho.2.2.1 | exact ho.2.2.2 | omega)
   replace rk := rk.st st19 (fun k hk ho => by simp only [out, and_true] at ho ⊢ <;> first | exact ho | exact ho.1 | exact ho.2 | exact ho.2.1 | exact ho.2.2 | exact ho.2.2.1 | exact ho.2.2.2 | omega)
   replace at17 := st19.same _ _ ⟨(by first | assumption | omega), trivial⟩ at17
   replace at18 := st19.same _ _ ⟨(by first | assumption | omega), trivial⟩ at18
   have lt_at19 := GHeap.ltg at19
   replace h := base_h.mono hle
   clear u1
   have u1 := h.2 i (by omega)
   refine .mv rfl (.nil (hK7 _ _ (.region (.mv rfl ?_))))
   refine .m rfl rfl rfl (.add rfl rfl rfl (by omega) (by omega)) ?_
   refine .mv rfl (.nil ?_)
   refine hKL1 ((i + 1, upd rr (pss.take i).length (some ⟨g17, 0, none⟩), _, _)) _ _ ?_ ?_ ⟨rfl, rfl, rfl, trivial⟩
   ·
    refine ⟨lst1, by first | assumption | (rw [take_snocZ (by omega), slsL_snoc]; assumption), by omega, by first | omega | (simp only [List.length_append, List.length_cons, List.length_nil] <;> omega) | (rw [take_snocZ (by omega), slsL_snoc] <;> (first | omega | (simp only [List.length_append, List.length_cons, List.length_nil] <;> omega))), ?_⟩
    exact ⟨by omega, by rw [take_snocZ (by omega)]; exact hR.snoc (x := pss.getD i []) (rk.lasts1 hat3 rfl) (by assumption) (by omega) (by omega)⟩
   (dsimp only; omega)
  try simp only [sps] at h9
  refine .exit ?_
  refine hK3 _ _ (.seq (fun K8 hK8 => .region (.mv rfl (.mv rfl (.nil (hK8 _ _ ?_))))))
  refine .ret ?_
  refine hret _ _ ?_
  refine ⟨_, rfl, ?_⟩
  obtain rfl : i = pss.length := by omega
  rw [List.take_length] at hR at_L3 ln_L3
  exact ⟨hle, gL3, rr, by rw [ln_L3, length_slsL], at_L3, by omega, hR⟩
set_option maxHeartbeats 4000000 in
theorem l02OwnO_c {c : Cat} {p : CatP} {H : GHeap} (hin : c.In H p := by assumption) (hs : c.Small := by assumption) :
    GCalls Try.prog 133 [.agg (c.cells p).toArray] H (NewCatO 2 22 H c) := by
  obtain ⟨n1, n2, n3, n4, n5, n6⟩ := hs
  refine GCalls.body (N := 18) (rs := [.cell 2 30]) Try.func133 rfl rfl rfl rfl (fun Qx hret hend => ?_)
  refine .forget (fr' := [(0, some _)]) ⟨rfl, trivial⟩ ?_
  have hle := GHeap.Le.refl H
  have base_hin := hin
  refine .seq (fun K1 hK1 => .region ?_)
  refine .r rfl rfl rfl (.boxR rfl sz_30_D rfl) ?_
  rintro _ H1 ⟨g1, rfl, le1, ge1, at1⟩
  replace hle := hle.trans le1
  have lt_at1 := GHeap.ltg at1
  replace hin := base_hin.mono hle
  have hb1 : Cat.At _ g1 0 c p := ⟨Mem.of_get at1, hin⟩
  obtain ⟨c01, c11, c21, c31, c41, i11, i21, i31, i41⟩ := hb1.get
  refine .r rfl rfl rfl (.allocR rfl ze_30_E rfl) ?_
  rintro _ H2 ⟨g2, rfl, le2, ge2, at2⟩
  replace hle := hle.trans le2
  replace at1 := le2.2 _ _ at1
  have lt_at2 := GHeap.ltg at2
  replace hin := base_hin.mono hle
  clear hb1 c01 c11 c21 c31 c41 i11 i21 i31 i41
  have hb1 : Cat.At _ g1 0 c p := ⟨Mem.of_get at1, hin⟩
  obtain ⟨c01, c11, c21, c31, c41, i11, i21, i31, i41⟩ := hb1.get
  refine .nil (hK1 _ _ (.seq (fun K2 hK2 => ?_)))
  refine .regionD mo_B (.q 0 (.q 1 (.q 2 (.q 3 (.q 5 (.q 6 (.q 8 (.q 9 (.q 11 (.q 12 (.c 4 1 (.c 7 1 (.c 10 1 (.c 13 1 (.q 14 (.c 15 0 (.done))))))))))))))))) (by kernel_rfl) ?_
  refine .m rfl rfl rfl rfl (.refl _) (.fieldAddr fo_30_0_B rfl) ?_
  refine .m rfl rfl rfl rfl (.refl _) (.load on_2_A rfl (by first | assumption | exact Mem.of_get at1 0 _ rfl)) ?_
  refine .m rfl rfl rfl rfl (.refl _) (.fieldAddr fo_30_1_B rfl) ?_
  refine .m rfl rfl rfl rfl (.refl _) (.load on_22_B rfl (by first | assumption | exact Mem.of_get at1 1 _ rfl)) ?_
  refine .m rfl rfl rfl rfl (.refl _) (.fieldAddr fo_30_2_B rfl) ?_
  refine .m rfl rfl rfl rfl (.refl _) (.load on_22_B rfl (by first | assumption | exact Mem.of_get at1 2 _ rfl)) ?_
  refine .m rfl rfl rfl rfl (.refl _) (.fieldAddr fo_30_3_B rfl) ?_
  refine .m rfl rfl rfl rfl (.refl _) (.load on_22_B rfl (by first | assumption | exact Mem.of_get at1 3 _ rfl)) ?_
  refine .m rfl rfl rfl rfl (.refl _) (.fieldAddr fo_30_4_B rfl) ?_
  refine .m rfl rfl rfl rfl (.refl _) (.load on_23_B rfl (by first | assumption | exact Mem.of_get at1 4 _ rfl)) ?_
  refine .call1 rfl rfl rfl rfl rfl @Try.call152 rfl (l01Own_c) ?_
  rintro _ H7 ⟨le7, g7, rfl, at7, ge7⟩
  have hbl := le7
  refine ⟨hbl, ?_⟩
  replace hle := hle.trans le7
  replace at1 := le7.2 _ _ at1
  replace at2 := le7.2 _ _ at2
  have lt_at7 := GHeap.ltg at7
  replace hin := base_hin.mono hle
  clear hb1 c01 c11 c21 c31 c41 i11 i21 i31 i41
  have hb1 : Cat.At _ g1 0 c p := ⟨Mem.of_get at1, hin⟩
  obtain ⟨c01, c11, c21, c31, c41, i11, i21, i31, i41⟩ := hb1.get
  refine .call1 rfl rfl rfl rfl rfl @Try.call152 rfl (l01Own_c) ?_
  rintro _ H10 ⟨le10, g10, rfl, at10, ge10⟩
  replace hbl := hbl.trans le10
  refine ⟨hbl, ?_⟩
  replace hle := hle.trans le10
  replace at1 := le10.2 _ _ at1
  replace at2 := le10.2 _ _ at2
  replace at7 := le10.2 _ _ at7
  have lt_at10 := GHeap.ltg at10
  replace hin := base_hin.mono hle
  clear hb1 c01 c11 c21 c31 c41 i11 i21 i31 i41
  have hb1 : Cat.At _ g1 0 c p := ⟨Mem.of_get at1, hin⟩
  obtain ⟨c01, c11, c21, c31, c41, i11, i21, i31, i41⟩ := hb1.get
  refine .call1 rfl rfl rfl rfl rfl @Try.call152 rfl (l01Own_c) ?_
  rintro _ H13 ⟨le13, g13, rfl, at13, ge13⟩
  replace hbl := hbl.trans le13
  refine ⟨hbl, ?_⟩
  replace hle := hle.trans le13
  replace at1 := le13.2 _ _ at1
  replace at2 := le13.2 _ _ at2
  replace at7 := le13.2 _ _ at7
  replace at10 := le13.2 _ _ at10
  have lt_at13 := GHeap.ltg at13
  replace hin := base_hin.mono hle
  clear hb1 c01 c11 c21 c31 c41 i11 i21 i31 i41
  have hb1 : Cat.At _ g1 0 c p := ⟨Mem.of_get at1, hin⟩
  obtain ⟨c01, c11, c21, c31, c41, i11, i21, i31, i41⟩ := hb1.get
  refine .call1 rfl rfl rfl rfl rfl @Try.call153 rfl (l01Own2O_c (hl2 := n5)) ?_
  rintro _ H16 ⟨le16, g16, rr16, rfl, at16, ge16, v16⟩
  replace hbl := hbl.trans le16
  refine ⟨hbl, ?_⟩
  replace hle := hle.trans le16
  replace at1 := le16.2 _ _ at1
  replace at2 := le16.2 _ _ at2
  replace at7 := le16.2 _ _ at7
  replace at10 := le16.2 _ _ at10
  replace at13 := le16.2 _ _ at13
  have lt_at16 := GHeap.ltg at16
  replace hin := base_hin.mono hle
  clear hb1 c01 c11 c21 c31 c41 i11 i21 i31 i41
  have hb1 : Cat.At _ g1 0 c p := ⟨Mem.of_get at1, hin⟩
  obtain ⟨c01, c11, c21, c31, c41, i11, i21, i31, i41⟩ := hb1.get
  refine .m rfl rfl rfl rfl hbl (.build bt_30_Hj rfl rfl rfl) ?_
  have hat2 := at2
  refine .r0 rfl rfl rfl (.fillR rfl sz_30_D rfl rfl rfl rfl (by assumption) (by first | rfl | exact Nat.le_of_ble_eq_true rfl | simp)) ?_
  rintro _ H1015 ⟨rfl, st1015, at1015⟩
  replace hle := hle.st st1015 (fun k hk => ⟨by omega, trivial⟩)
  replace at1 := st1015.same _ _ ⟨(by first | assumption | omega), trivial⟩ at1
  replace at7 := st1015.same _ _ ⟨(by first | assumption | omega), trivial⟩ at7
  replace at10 := st1015.same _ _ ⟨(by first | assumption | omega), trivial⟩ at10
  replace at13 := st1015.same _ _ ⟨(by first | assumption | omega), trivial⟩ at13
  replace at16 := st1015.same _ _ ⟨(by first | assumption | omega), trivial⟩ at16
  have lt_at1015 := GHeap.ltg at1015
  replace hin := base_hin.mono hle
  clear hb1 c01 c11 c21 c31 c41 i11 i21 i31 i41
  have hb1 : Cat.At _ g1 0 c p := ⟨Mem.of_get at1, hin⟩
  obtain ⟨c01, c11, c21, c31, c41, i11, i21, i31, i41⟩ := hb1.get
  refine .done ?_
  refine hK2 _ _ ?_
  refine .ret ?_
  refine hret _ _ ?_
  refine ⟨_, _, _, _, rfl, ag_30_D, (by rfl), (Mem.of_get at1015), ?_⟩
  exact ⟨hle, g7, g10, g13, g16, rr16, rfl, at7, at10, at13, at16, by omega, by omega, by omega, by omega, by omega, by omega, by omega, (v16.st st1015 (.cons (v16.neT hat2 rfl) (.nil _ _))).low (by omega), v16.lowNe (by omega), v16.lowNe (by omega), v16.lowNe (by omega)⟩
set_option maxHeartbeats 4000000 in
theorem starts_c {g o : Nat} {m : Prof} {p : ProfP} {H : GHeap} (h : Prof.At H g o m p := by assumption) (hc : m.Cok) :
    GCalls Try.prog 50 [.pointer (some ⟨g, o, none⟩)] H (fun v H' => H.Le H' ∧ ∃ a r, v = .tuple #[.slice a (m.colQ m.sz.length).length (m.colQ m.sz.length).length, .int .i64 (m.colL.length : Int)] ∧ IntssAt H.next H' a (m.colQ m.sz.length) r) := by
  have l1 := hc.z.sl
  have l2 := hc.s8
  have l3 := hc.t8
  have l4 := hc.t0
  refine GCalls.body (N := 43) (rs := [.tmp 2, .tmp 3]) Try.func50 rfl rfl rfl rfl (fun Qx hret hend => ?_)
  refine .forget (fr' := [(0, some _)]) ⟨rfl, trivial⟩ ?_
  have hle := GHeap.Le.refl H
  have base_h := h
  obtain ⟨fsb, ftb, c10b, c11b, c12b, i2b, i3b, i4b⟩ := h.get
  refine .seq (fun K1 hK1 => .region (.mv rfl (.mv rfl (.nil (hK1 _ _ (.seq (fun K2 hK2 => .region ?_)))))))
  refine .r rfl rfl rfl (.litR rfl sl_23_B ze_22_E rfl rfl (by omega) (by omega) rfl rfl) ?_
  rintro _ H11 ⟨g11, rfl, le11, ge11, at11⟩
  have nx_H11 := le11.1
  replace hle := hle.trans le11
  have lt_at11 := GHeap.ltg at11
  replace h := base_h.mono hle
  clear fsb ftb c10b c11b c12b i2b i3b i4b
  obtain ⟨fsb, ftb, c10b, c11b, c12b, i2b, i3b, i4b⟩ := h.get
  refine .mv rfl (.nil (hK2 _ _ (.seq (fun K3 hK3 => .region (.mv rfl (.nil (hK3 _ _ (.seq (fun K4 hK4 => .seq (fun K5 hK5 => .region (.mv rfl (.m rfl rfl rfl (.nilCheck rfl) (.m rfl rfl rfl (.fieldAddr fo_34_2_VProf rfl) ?_)))))))))))))
  refine .m rfl rfl rfl (.load on_23_B rfl (by assumption)) ?_
  refine .m rfl rfl rfl (.len sl_23_B rfl) (.mv rfl (.nil (hK5 _ _ ?_)))
  refine .block ?_
  refine .loopR (σ := Nat × (Nat → Option Addr) × Nat × Nat) [(15, some _), (16, some _)] (fun (x, rr, gL4, nL4) => [(17, some (.int .i64 (x : Int))), (5, some (.int .i64 (m.colA x 0))), (4, some (.slice (some ⟨gL4, 0, none⟩) nL4 nL4))]) (fun (x, rr, gL4, nL4) H' => St [g11] H11 H' ∧ H'.get gL4 = some (.row ((slsL rr (m.colQ x))) 22 true) ∧ (gL4 = g11 ∨ H11.next ≤ gL4) ∧ nL4 = (slsL rr (m.colQ x)).length ∧ x ≤ m.sz.length ∧ OwnL H.next H' 2 rr (m.colQ x)) (fun (x, rr, gL4, nL4) => m.sz.length - x) ((0, fun _ => none, _, _)) ⟨rfl, rfl, trivial⟩ ⟨rfl, rfl, rfl, trivial⟩ ?_ ?_
  ·
   refine ⟨.refl _ _, by first | assumption | exact at11 | simpa using at11, .inl rfl, by first | rfl | assumption | simp | omega, ?_⟩
   exact ⟨by omega, .nil _ _ _ _⟩
  rintro ⟨x, rr, gL4, nL4⟩ HL1 ⟨lst1, at_L4, pl_L4, ln_L4, hI⟩ KL1 hKL1
  refine .forget (fr' := [(17, some (.int .i64 (x : Int))), (5, some (.int .i64 (m.colA x 0))), (4, some (.slice (some ⟨gL4, 0, none⟩) nL4 nL4)), (15, some _), (16, some _)]) ⟨rfl, rfl, rfl, rfl, rfl, trivial⟩ ?_
  have ge_L4 : H.next ≤ gL4 := by omega
  have nx_HL1 := lst1.nx
  replace hle := hle.st lst1 (fun k hk => ⟨by omega, trivial⟩)
  have lt_at_L4 := GHeap.ltg at_L4
  replace h := base_h.mono hle
  clear fsb ftb c10b c11b c12b i2b i3b i4b
  obtain ⟨fsb, ftb, c10b, c11b, c12b, i2b, i3b, i4b⟩ := h.get
  have rk := St.refl [gL4] HL1
  obtain ⟨hx, hR⟩ := hI
  have hat4 := at_L4
  have hfl : (slsL rr (m.colQ x)).length = (m.colQ x).length := length_slsL _ _
  have hql : (m.colQ x).length = x := m.length_colQ x
  refine .seq (fun K6 hK6 => .region (.m rfl rfl rfl (.cmp rfl rfl rfl) (.nil (hK6 _ _ (.seq (fun K7 hK7 => ?_))))))
  refine .cond rfl (fun h18 => ?_) (fun h18 => ?_)
  ·
   simp only [sps] at h18
   have hrl := hc.z.row x (by omega)
   have u1 := i2b.2 x (by omega)
   refine .skip ?_
   refine hK7 _ _ (.seq (fun K8 hK8 => ?_))
   refine .block ?_
   refine .seq (fun K9 hK9 => .region ?_)
   refine .m rfl rfl rfl (.idxN sl_23_B (Intss.sl (by assumption)) rfl rfl (by omega)) ?_
   refine .m rfl rfl rfl (.loadR on_22_B (by assumption) rfl (by omega)) ?_
   refine .mv rfl (.nil (hK9 _ _ (.seq (fun K10 hK10 => .region ?_))))
   refine .r rfl rfl rfl (.litR rfl sl_22_A ze_2_E rfl rfl (by omega) (by omega) rfl rfl) ?_
   rintro _ H21 ⟨g21, rfl, le21, ge21, at21⟩
   have nx_H21 := le21.1
   replace hle := hle.trans le21
   replace lst1 := lst1.le le21
   replace rk := rk.le le21
   replace at_L4 := le21.2 _ _ at_L4
   have lt_at21 := GHeap.ltg at21
   replace h := base_h.mono hle
   clear fsb ftb c10b c11b c12b i2b i3b i4b
   obtain ⟨fsb, ftb, c10b, c11b, c12b, i2b, i3b, i4b⟩ := h.get
   clear u1
   have u1 := i2b.2 x (by omega)
   replace at21 : GHeap.get H21 g21 = some (.row (ints []) 2 true) := at21
   refine .mv rfl (.nil (hK10 _ _ (.seq (fun K11 hK11 => .seq (fun K12 hK12 => .region (.mv rfl (.m rfl rfl rfl (.len sl_22_A rfl) (.mv rfl (.nil (hK12 _ _ ?_))))))))))
   refine .block ?_
   refine .loopR (σ := Nat × Nat × Nat) [(4, some _), (15, some _), (16, some _), (17, some _), (22, some _), (23, some _)] (fun (y, gL8, nL8) => [(24, some (.int .i64 (y : Int))), (5, some (.int .i64 (m.colA x y))), (8, some (.slice (some ⟨gL8, 0, none⟩) nL8 nL8))]) (fun (y, gL8, nL8) H' => St [g21] H21 H' ∧ H'.get gL8 = some (.row (ints (m.colQx x y)) 2 true) ∧ (gL8 = g21 ∨ H21.next ≤ gL8) ∧ nL8 = (m.colQx x y).length ∧ y ≤ (m.sz.getD x []).length) (fun (y, gL8, nL8) => (m.sz.getD x []).length - y) ((0, _, _)) ⟨rfl, rfl, rfl, rfl, rfl, rfl, trivial⟩ ⟨rfl, rfl, rfl, trivial⟩ ?_ ?_
   ·
    refine ⟨.refl _ _, by first | assumption | exact at21 | simpa using at21, .inl rfl, by first | rfl | assumption | simp | omega, ?_⟩
    omega
   rintro ⟨y, gL8, nL8⟩ HL2 ⟨lst2, at_L8, pl_L8, ln_L8, hI⟩ KL2 hKL2
   refine .forget (fr' := [(24, some (.int .i64 (y : Int))), (5, some (.int .i64 (m.colA x y))), (8, some (.slice (some ⟨gL8, 0, none⟩) nL8 nL8)), (4, some _), (15, some _), (16, some _), (17, some _), (22, some _), (23, some _)]) ⟨rfl, rfl, rfl, rfl, rfl, rfl, rfl, rfl, rfl, trivial⟩ ?_
   have ge_L8 : H.next ≤ gL8 := by omega
   have nx_HL2 := lst2.nx
   replace hle := hle.st lst2 (fun k hk => ⟨by omega, trivial⟩)
   replace lst1 := lst1.st lst2 (fun k hk ho => by simp only [out, and_true] at ho ⊢ <;> first | exact ho | exact ho.1 | exact ho.2 | exact ho.2.1 | exact ho.2.2 | exact ho.2.2.1 | exact ho.2.2.2 | omega)
   replace rk := rk.st lst2 (fun k hk ho => by simp only [out, and_true] at ho ⊢ <;> first | exact ho | exact ho.1 | exact ho.2 | exact ho.2.1 | exact ho.2.2 | exact ho.2.2.1 | exact ho.2.2.2 | omega)
   replace at_L4 := lst2.same _ _ ⟨(by first | assumption | omega), trivial⟩ at_L4
   have lt_at_L8 := GHeap.ltg at_L8
   replace h := base_h.mono hle
   clear fsb ftb c10b c11b c12b i2b i3b i4b
   obtain ⟨fsb, ftb, c10b, c11b, c12b, i2b, i3b, i4b⟩ := h.get
   clear u1
   have u1 := i2b.2 x (by omega)
   have hyl : (m.colQx x y).length = y := m.length_colQx x y
   have hb := hc.colA_bd (x := x) (y := y) (by omega) (by omega)
   refine .seq (fun K13 hK13 => .region (.m rfl rfl rfl (.cmp rfl rfl rfl) (.nil (hK13 _ _ (.seq (fun K14 hK14 => ?_))))))
   refine .cond rfl (fun h25 => ?_) (fun h25 => ?_)
   ·
    simp only [sps] at h25
    have hs1 := hc.colA_succ (x := x) (y := y) (by omega) (by omega)
    have hz := hc.z.rng x (by omega) y (by omega)
    refine .skip ?_
    refine hK14 _ _ (.seq (fun K15 hK15 => ?_))
    refine .block ?_
    refine .seq (fun K16 hK16 => .region ?_)
    refine .m rfl rfl rfl (.idxN sl_22_A (by assumption) rfl rfl (by omega)) ?_
    refine .m rfl rfl rfl (.loadI on_2_A (by assumption) rfl (by omega)) ?_
    refine .mv rfl (.nil (hK16 _ _ (.seq (fun K17 hK17 => .region (.mv rfl (.mv rfl ?_))))))
    refine .r rfl rfl rfl (.litR rfl sl_22_A ze_2_E rfl rfl (by omega) (by omega) rfl rfl) ?_
    rintro _ H30 ⟨g30, rfl, le30, ge30, at30⟩
    have nx_H30 := le30.1
    replace hle := hle.trans le30
    replace lst1 := lst1.le le30
    replace rk := rk.le le30
    replace lst2 := lst2.le le30
    replace at_L4 := le30.2 _ _ at_L4
    replace at_L8 := le30.2 _ _ at_L8
    have lt_at30 := GHeap.ltg at30
    replace h := base_h.mono hle
    clear fsb ftb c10b c11b c12b i2b i3b i4b
    obtain ⟨fsb, ftb, c10b, c11b, c12b, i2b, i3b, i4b⟩ := h.get
    clear u1
    have u1 := i2b.2 x (by omega)
    refine .r rfl rfl rfl (.appendI rfl sl_22_A ze_2_E rfl by_2_E sl_22_A rfl rfl (by assumption) (by assumption) (by first | omega | (simp <;> omega)) (by omega) (by omega)) ?_
    rintro _ H31 ⟨g31, rfl, st31, ge31, at31⟩
    have nx_H31 := st31.nx
    replace hle := hle.st st31 (fun k hk => ⟨by omega, trivial⟩)
    replace lst1 := lst1.st st31 (fun k hk ho => by simp only [out, and_true] at ho ⊢ <;> first | exact ho | exact ho.1 | exact ho.2 | exact ho.2.1 | exact ho.2.2 | exact ho.2.2.1 | exact ho.2.2.2 | omega)
    replace rk := rk.st st31 (fun k hk ho => by simp only [out, and_true] at ho ⊢ <;> first | exact ho | exact ho.1 | exact ho.2 | exact ho.2.1 | exact ho.2.2 | exact ho.2.2.1 | exact ho.2.2.2 | omega)
    replace lst2 := lst2.st st31 (fun k hk ho => by simp only [out, and_true] at ho ⊢ <;> first | exact ho | exact ho.1 | exact ho.2 | exact ho.2.1 | exact ho.2.2 | exact ho.2.2.1 | exact ho.2.2.2 | omega)
    replace at_L4 := st31.same _ _ ⟨(by first | assumption | omega), trivial⟩ at_L4
    replace at30 := st31.same _ _ ⟨(by first | assumption | omega), trivial⟩ at30
    have lt_at31 := GHeap.ltg at31
    replace h := base_h.mono hle
    clear fsb ftb c10b c11b c12b i2b i3b i4b
    obtain ⟨fsb, ftb, c10b, c11b, c12b, i2b, i3b, i4b⟩ := h.get
    clear u1
    have u1 := i2b.2 x (by omega)
    refine .mv rfl (.nil (hK17 _ _ (.region (.mv rfl (.mv rfl ?_)))))
    refine .m rfl rfl rfl (.add rfl rfl rfl (by omega) (by omega)) ?_
    refine .mv rfl (.nil (hK15 _ _ (.region ?_)))
    refine .m rfl rfl rfl (.add rfl rfl rfl (by omega) (by omega)) ?_
    refine .mv rfl (.nil ?_)
    rw [← hs1]
    refine hKL2 ((y + 1, _, _)) _ _ ?_ ?_ ⟨rfl, rfl, rfl, rfl, rfl, rfl, rfl, rfl, rfl, trivial⟩
    ·
     refine ⟨lst2, by first | assumption | (rw [Prof.colQx_succ]; assumption), by omega, by first | omega | (simp only [List.length_append, List.length_cons, List.length_nil] <;> omega) | (rw [Prof.colQx_succ] <;> (first | omega | (simp only [List.length_append, List.length_cons, List.length_nil] <;> omega))), ?_⟩
     omega
    (dsimp only; omega)
   try simp only [sps] at h25
   refine .exit ?_
   refine hK11 _ _ (.region ?_)
   obtain rfl : y = (m.sz.getD x []).length := by omega
   obtain rfl := ln_L8
   refine .mv rfl (.mv rfl ?_)
   refine .r rfl rfl rfl (.litR rfl sl_23_B ze_22_E rfl rfl (by omega) (by omega) rfl rfl) ?_
   rintro _ H38 ⟨g38, rfl, le38, ge38, at38⟩
   have nx_H38 := le38.1
   replace hle := hle.trans le38
   replace lst1 := lst1.le le38
   replace rk := rk.le le38
   replace at_L4 := le38.2 _ _ at_L4
   replace at_L8 := le38.2 _ _ at_L8
   have lt_at38 := GHeap.ltg at38
   replace h := base_h.mono hle
   clear fsb ftb c10b c11b c12b i2b i3b i4b
   obtain ⟨fsb, ftb, c10b, c11b, c12b, i2b, i3b, i4b⟩ := h.get
   clear u1
   have u1 := i2b.2 x (by omega)
   refine .r rfl rfl rfl (.appendV rfl sl_23_B ze_22_E rfl by_22_E sl_23_B rfl rfl (by assumption) (by assumption) (by first | omega | (simp <;> omega)) rfl rfl (by omega) (by omega)) ?_
   rintro _ H39 ⟨g39, rfl, st39, ge39, at39⟩
   have nx_H39 := st39.nx
   replace hle := hle.st st39 (fun k hk => ⟨by omega, trivial⟩)
   replace lst1 := lst1.st st39 (fun k hk ho => by simp only [out, and_true] at ho ⊢ <;> first | exact ho | exact ho.1 | exact ho.2 | exact ho.2.1 | exact ho.2.2 | exact ho.2.2.1 | exact ho.2.2.2 | omega)
   replace rk := rk.st st39 (fun k hk ho => by simp only [out, and_true] at ho ⊢ <;> first | exact ho | exact ho.1 | exact ho.2 | exact ho.2.1 | exact ho.2.2 | exact ho.2.2.1 | exact ho.2.2.2 | omega)
   replace at_L8 := st39.same _ _ ⟨(by first | assumption | omega), trivial⟩ at_L8
   replace at38 := st39.same _ _ ⟨(by first | assumption | omega), trivial⟩ at38
   have lt_at39 := GHeap.ltg at39
   replace h := base_h.mono hle
   clear fsb ftb c10b c11b c12b i2b i3b i4b
   obtain ⟨fsb, ftb, c10b, c11b, c12b, i2b, i3b, i4b⟩ := h.get
   clear u1
   have u1 := i2b.2 x (by omega)
   refine .mv rfl (.nil (hK8 _ _ (.region ?_)))
   refine .m rfl rfl rfl (.add rfl rfl rfl (by omega) (by omega)) ?_
   refine .mv rfl (.nil ?_)
   have e8 : m.colA x (m.sz.getD x []).length = m.colA (x + 1) 0 := by rw [hc.colA_next]; congr 1; omega
   rw [e8]
   refine hKL1 ((x + 1, upd rr (m.colQ x).length (some ⟨gL8, 0, none⟩), _, _)) _ _ ?_ ?_ ⟨rfl, rfl, rfl, rfl, rfl, trivial⟩
   ·
    refine ⟨lst1, by first | assumption | (rw [Prof.colQ_succ, slsL_snoc]; assumption), by omega, by first | omega | (simp only [List.length_append, List.length_cons, List.length_nil] <;> omega) | (rw [Prof.colQ_succ, slsL_snoc] <;> (first | omega | (simp only [List.length_append, List.length_cons, List.length_nil] <;> omega))), ?_⟩
    exact ⟨by omega, by rw [Prof.colQ_succ]; exact hR.snoc (x := m.colQx x (m.sz.getD x []).length) (rk.lasts1 hat4 rfl) (by assumption) (by omega) (by omega)⟩
   (dsimp only; omega)
  try simp only [sps] at h18
  refine .exit ?_
  refine hK4 _ _ (.seq (fun K18 hK18 => .region (.mv rfl (.mv rfl (.mv rfl (.mv rfl (.nil (hK18 _ _ ?_))))))))
  refine .ret ?_
  refine hret _ _ ?_
  refine ⟨_, _, rfl, rfl, ?_⟩
  obtain rfl : x = m.sz.length := by omega
  have e9 : m.colA m.sz.length 0 = (m.colL.length : Int) := by rw [show m.sz.length = m.s.obj.toNat by omega]; rfl
  exact ⟨hle, _, rr, by rw [ln_L4, hfl, e9], (hR.done at_L4 (by omega)).1.resolve_left (fun h => by cases h.2)⟩
end Go.Proofs.Ytdjodpdmbklfhaa
namespace Go.Proofs.Ytdjodpdmbklfhaa
open Go Go.GL Go.RowKit Go.Proofs
set_option maxHeartbeats 8000000 in
theorem l03Sum_c {c d : Cat} {p q : CatP} {N : Nat} {H : GHeap} (hin : c.In H p := by assumption) (hin1 : d.In H q := by assumption) (hc : c.Rect N) (hd : d.Rect N) (hN : N ≤ 100000) :
    GCalls Try.prog 93 [.agg (c.cells p).toArray, .agg (d.cells q).toArray] H (NewCatO 2 22 H (c.sum d)) := by
  obtain ⟨a1, a2, a3, a4, a5, a6, a7, a8, a9, a10⟩ := id hc
  obtain ⟨b1, b2, b3, b4, b5, b6, b7, b8, b9, b10⟩ := id hd
  refine GCalls.body (N := 142) (rs := [.cell 4 30]) Try.func93 rfl rfl rfl rfl (fun Qx hret hend => ?_)
  refine .forget (fr' := [(0, some _), (1, some _)]) ⟨rfl, rfl, trivial⟩ ?_
  have hle := GHeap.Le.refl H
  have base_hin := hin
  have base_hin1 := hin1
  refine .seq (fun K1 hK1 => .region ?_)
  refine .r rfl rfl rfl (.boxR rfl sz_30_D rfl) ?_
  rintro _ H2 ⟨g2, rfl, le2, ge2, at2⟩
  have nx_H2 := le2.1
  replace hle := hle.trans le2
  have lt_at2 := GHeap.ltg at2
  replace hin := base_hin.mono hle
  replace hin1 := base_hin1.mono hle
  have hb2 : Cat.At _ g2 0 c p := ⟨Mem.of_get at2, hin⟩
  obtain ⟨c02, c12, c22, c32, c42, i12, i22, i32, i42⟩ := hb2.get
  refine .r rfl rfl rfl (.boxR rfl sz_30_D rfl) ?_
  rintro _ H3 ⟨g3, rfl, le3, ge3, at3⟩
  have nx_H3 := le3.1
  replace hle := hle.trans le3
  replace at2 := le3.2 _ _ at2
  have lt_at3 := GHeap.ltg at3
  replace hin := base_hin.mono hle
  replace hin1 := base_hin1.mono hle
  clear hb2 c02 c12 c22 c32 c42 i12 i22 i32 i42
  have hb2 : Cat.At _ g2 0 c p := ⟨Mem.of_get at2, hin⟩
  obtain ⟨c02, c12, c22, c32, c42, i12, i22, i32, i42⟩ := hb2.get
  have hb3 : Cat.At _ g3 0 d q := ⟨Mem.of_get at3, hin1⟩
  obtain ⟨c03, c13, c23, c33, c43, i13, i23, i33, i43⟩ := hb3.get
  refine .r rfl rfl rfl (.allocR rfl ze_30_E rfl) ?_
  rintro _ H4 ⟨g4, rfl, le4, ge4, at4⟩
  have nx_H4 := le4.1
  replace hle := hle.trans le4
  replace at2 := le4.2 _ _ at2
  replace at3 := le4.2 _ _ at3
  have lt_at4 := GHeap.ltg at4
  replace hin := base_hin.mono hle
  replace hin1 := base_hin1.mono hle
  clear hb2 c02 c12 c22 c32 c42 i12 i22 i32 i42
  have hb2 : Cat.At _ g2 0 c p := ⟨Mem.of_get at2, hin⟩
  obtain ⟨c02, c12, c22, c32, c42, i12, i22, i32, i42⟩ := hb2.get
  clear hb3 c03 c13 c23 c33 c43 i13 i23 i33 i43
  have hb3 : Cat.At _ g3 0 d q := ⟨Mem.of_get at3, hin1⟩
  obtain ⟨c03, c13, c23, c33, c43, i13, i23, i33, i43⟩ := hb3.get
  refine .nil (hK1 _ _ (.seq (fun K2 hK2 => ?_)))
  refine .regionD mo_B (.q 0 (.q 1 (.q 2 (.q 3 (.q 4 (.q 5 (.q 6 (.done)))))))) (by kernel_rfl) ?_
  refine .m rfl rfl rfl rfl (.refl _) (.fieldAddr fo_30_0_B rfl) ?_
  refine .m rfl rfl rfl rfl (.refl _) (.load on_2_A rfl (by first | assumption | exact Mem.of_get at2 0 _ rfl)) ?_
  refine .m rfl rfl rfl rfl (.refl _) (.fieldAddr fo_30_1_B rfl) ?_
  refine .m rfl rfl rfl rfl (.refl _) (.load on_22_B rfl (by first | assumption | exact Mem.of_get at2 1 _ rfl)) ?_
  refine .m rfl rfl rfl rfl (.refl _) (.len sl_22_A rfl) (.mv rfl rfl (.mv rfl rfl ?_))
  refine .done ?_
  refine hK2 _ _ (.seq (fun K3 hK3 => .region ?_))
  refine .m rfl rfl rfl (.loadM ag_30_D rfl ⟨rfl, Mem.of_get at2⟩) ?_
  refine .call rfl rfl rfl rfl @Try.call133 rfl (l02OwnO_c (hs := hc.small (by omega))) ?_
  rintro _ H22 ⟨le22, gF, gT, gI, gC, rr, rfl, v22⟩
  have aF := v22.a1
  have aT := v22.a2
  have aI := v22.a3
  have aC := v22.a4
  have bF := v22.b1
  have bT := v22.b2
  have bI := v22.b3
  have bC := v22.b4
  have n12 := v22.n12
  have n13 := v22.n13
  have n23 := v22.n23
  have n4 := row_ne aC aF rfl
  have n5 := row_ne aC aT rfl
  have n6 := row_ne aC aI rfl
  have rk := St.refl [gI] H22
  have nx_H22 := le22.1
  replace hle := hle.trans le22
  replace at2 := le22.2 _ _ at2
  replace at3 := le22.2 _ _ at3
  replace at4 := le22.2 _ _ at4
  have lt_aF := GHeap.ltg aF
  have lt_aT := GHeap.ltg aT
  have lt_aI := GHeap.ltg aI
  have lt_aC := GHeap.ltg aC
  replace hin := base_hin.mono hle
  replace hin1 := base_hin1.mono hle
  clear hb2 c02 c12 c22 c32 c42 i12 i22 i32 i42
  have hb2 : Cat.At _ g2 0 c p := ⟨Mem.of_get at2, hin⟩
  obtain ⟨c02, c12, c22, c32, c42, i12, i22, i32, i42⟩ := hb2.get
  clear hb3 c03 c13 c23 c33 c43 i13 i23 i33 i43
  have hb3 : Cat.At _ g3 0 d q := ⟨Mem.of_get at3, hin1⟩
  obtain ⟨c03, c13, c23, c33, c43, i13, i23, i33, i43⟩ := hb3.get
  refine .r rfl rfl rfl (.allocR rfl ze_30_E rfl) ?_
  rintro _ H7 ⟨g7, rfl, le7, ge7, at7⟩
  have nx_H7 := le7.1
  replace hle := hle.trans le7
  replace rk := rk.le le7
  replace at2 := le7.2 _ _ at2
  replace at3 := le7.2 _ _ at3
  replace at4 := le7.2 _ _ at4
  replace aF := le7.2 _ _ aF
  replace aT := le7.2 _ _ aT
  replace aI := le7.2 _ _ aI
  replace aC := le7.2 _ _ aC
  have lt_at7 := GHeap.ltg at7
  replace hin := base_hin.mono hle
  replace hin1 := base_hin1.mono hle
  clear hb2 c02 c12 c22 c32 c42 i12 i22 i32 i42
  have hb2 : Cat.At _ g2 0 c p := ⟨Mem.of_get at2, hin⟩
  obtain ⟨c02, c12, c22, c32, c42, i12, i22, i32, i42⟩ := hb2.get
  clear hb3 c03 c13 c23 c33 c43 i13 i23 i33 i43
  have hb3 : Cat.At _ g3 0 d q := ⟨Mem.of_get at3, hin1⟩
  obtain ⟨c03, c13, c23, c33, c43, i13, i23, i33, i43⟩ := hb3.get
  refine .r0 rfl rfl (.fillR rfl sz_30_D rfl rfl rfl rfl (by assumption) (by first | rfl | exact Nat.le_of_ble_eq_true rfl | simp)) ?_
  rintro _ H2003 ⟨rfl, st2003, at2003⟩
  have nx_H2003 := st2003.nx
  replace hle := hle.st st2003 (fun k hk => ⟨by omega, trivial⟩)
  replace rk := rk.st st2003 (fun k hk ho => by simp only [out, and_true] at ho ⊢ <;> first | exact ho | exact ho.1 | exact ho.2 | exact ho.2.1 | exact ho.2.2 | exact ho.2.2.1 | exact ho.2.2.2 | omega)
  have ne_g2_g7 : g2 ≠ g7 := by first | assumption | omega
  replace at2 := st2003.same _ _ ⟨ne_g2_g7, trivial⟩ at2
  have ne_g3_g7 : g3 ≠ g7 := by first | assumption | omega
  replace at3 := st2003.same _ _ ⟨ne_g3_g7, trivial⟩ at3
  have ne_g4_g7 : g4 ≠ g7 := by first | assumption | omega
  replace at4 := st2003.same _ _ ⟨ne_g4_g7, trivial⟩ at4
  have ne_gF_g7 : gF ≠ g7 := by first | assumption | omega
  replace aF := st2003.same _ _ ⟨ne_gF_g7, trivial⟩ aF
  have ne_gT_g7 : gT ≠ g7 := by first | assumption | omega
  replace aT := st2003.same _ _ ⟨ne_gT_g7, trivial⟩ aT
  have ne_gI_g7 : gI ≠ g7 := by first | assumption | omega
  replace aI := st2003.same _ _ ⟨ne_gI_g7, trivial⟩ aI
  have ne_gC_g7 : gC ≠ g7 := by first | assumption | omega
  replace aC := st2003.same _ _ ⟨ne_gC_g7, trivial⟩ aC
  have lt_at2003 := GHeap.ltg at2003
  replace hin := base_hin.mono hle
  replace hin1 := base_hin1.mono hle
  clear hb2 c02 c12 c22 c32 c42 i12 i22 i32 i42
  have hb2 : Cat.At _ g2 0 c p := ⟨Mem.of_get at2, hin⟩
  obtain ⟨c02, c12, c22, c32, c42, i12, i22, i32, i42⟩ := hb2.get
  clear hb3 c03 c13 c23 c33 c43 i13 i23 i33 i43
  have hb3 : Cat.At _ g3 0 d q := ⟨Mem.of_get at3, hin1⟩
  obtain ⟨c03, c13, c23, c33, c43, i13, i23, i33, i43⟩ := hb3.get
  refine .nil (hK3 _ _ (.seq (fun K4 hK4 => .region (.mv rfl (.m rfl rfl rfl (.fieldAddr fo_30_0_B rfl) ?_)))))
  refine .m rfl rfl rfl (.load on_2_A rfl (by first | assumption | exact Mem.of_get at3 0 _ rfl)) ?_
  refine .m rfl rfl rfl (.add rfl rfl rfl (by omega) (by omega)) ?_
  refine .m rfl rfl rfl (.fieldAddr fo_30_0_B rfl) ?_
  refine .r0 rfl rfl (.storeR rfl sz_2_E rfl rfl rfl (by assumption) (by first | exact Nat.le_of_ble_eq_true rfl | (simp; done) | (simp <;> omega))) ?_
  rintro _ H3005 ⟨rfl, st3005, at3005⟩
  have nx_H3005 := st3005.nx
  replace hle := hle.st st3005 (fun k hk => ⟨by omega, trivial⟩)
  replace rk := rk.st st3005 (fun k hk ho => by simp only [out, and_true] at ho ⊢ <;> first | exact ho | exact ho.1 | exact ho.2 | exact ho.2.1 | exact ho.2.2 | exact ho.2.2.1 | exact ho.2.2.2 | omega)
  replace at2 := st3005.same _ _ ⟨ne_g2_g7, trivial⟩ at2
  replace at3 := st3005.same _ _ ⟨ne_g3_g7, trivial⟩ at3
  replace at4 := st3005.same _ _ ⟨ne_g4_g7, trivial⟩ at4
  replace aF := st3005.same _ _ ⟨ne_gF_g7, trivial⟩ aF
  replace aT := st3005.same _ _ ⟨ne_gT_g7, trivial⟩ aT
  replace aI := st3005.same _ _ ⟨ne_gI_g7, trivial⟩ aI
  replace aC := st3005.same _ _ ⟨ne_gC_g7, trivial⟩ aC
  have lt_at3005 := GHeap.ltg at3005
  replace hin := base_hin.mono hle
  replace hin1 := base_hin1.mono hle
  clear hb2 c02 c12 c22 c32 c42 i12 i22 i32 i42
  have hb2 : Cat.At _ g2 0 c p := ⟨Mem.of_get at2, hin⟩
  obtain ⟨c02, c12, c22, c32, c42, i12, i22, i32, i42⟩ := hb2.get
  clear hb3 c03 c13 c23 c33 c43 i13 i23 i33 i43
  have hb3 : Cat.At _ g3 0 d q := ⟨Mem.of_get at3, hin1⟩
  obtain ⟨c03, c13, c23, c33, c43, i13, i23, i33, i43⟩ := hb3.get
  try simp only [Nat.zero_add, List.set_cons_succ, List.set_cons_zero] at at3005
  refine .nil (hK4 _ _ (.seq (fun K5 hK5 => .seq (fun K6 hK6 => .region (.mv rfl (.nil (hK6 _ _ ?_)))))))
  refine .block ?_
  refine .loopR (σ := Nat × Nat) [(3, some _), (4, some _), (5, some _), (6, some _), (7, some _)] (fun (y, gLI) => [(8, some (.int .i64 (y : Int)))]) (fun (y, gLI) H' => St [gI, g7] H3005 H' ∧ H'.get gLI = some (.row (ints (c.idn ++ (d.idn.take y).map (· + (c.src.length : Int)))) 2 true) ∧ PL gLI gI H3005.next ∧ H'.get g7 = some (.row ([.int .i64 (c.obj + d.obj), .slice (some ⟨gF, 0, none⟩) c.src.length c.src.length, .slice (some ⟨gT, 0, none⟩) c.tgt.length c.tgt.length, .slice (some ⟨gLI, 0, none⟩) (c.idn.length + y) (c.idn.length + y), .slice (some ⟨gC, 0, none⟩) c.comp.length c.comp.length]) 30 true) ∧ gLI ≠ g7 ∧ (y : Int) ≤ d.obj) (fun (y, gLI) => (d.obj - y : Int).toNat) ((0, gI)) ⟨rfl, rfl, rfl, rfl, rfl, trivial⟩ ⟨rfl, trivial⟩ ?_ ?_
  ·
   refine ⟨.refl _ _, by first | assumption | exact aI | simpa using aI, ⟨.inl rfl⟩, by first | assumption | exact at3005 | simpa using at3005, by omega, ?_⟩
   omega
  rintro ⟨y, gLI⟩ HL1 ⟨lst1, at_LI, pl_LI, at_Lg7, ap1_0, hI⟩ KL1 hKL1
  refine .forget (fr' := [(8, some (.int .i64 (y : Int))), (3, some _), (4, some _), (5, some _), (6, some _), (7, some _)]) ⟨rfl, rfl, rfl, rfl, rfl, rfl, trivial⟩ ?_
  have ge_LI : H.next ≤ gLI := pl_LI.ge (by omega) (by omega)
  have nx_HL1 := lst1.nx
  replace hle := hle.st lst1 (fun k hk => ⟨by omega, by omega, trivial⟩)
  replace rk := rk.st lst1 (fun k hk ho => by simp only [out, and_true] at ho ⊢ <;> exact ⟨by first | exact ho | exact ho.1 | exact ho.2 | exact ho.2.1 | exact ho.2.2 | exact ho.2.2.1 | exact ho.2.2.2 | omega, by first | exact ho | exact ho.1 | exact ho.2 | exact ho.2.1 | exact ho.2.2 | exact ho.2.2.1 | exact ho.2.2.2 | omega⟩)
  have ne_g2_gI : g2 ≠ gI := by first | assumption | omega
  replace at2 := lst1.same _ _ ⟨ne_g2_gI, ne_g2_g7, trivial⟩ at2
  have ne_g3_gI : g3 ≠ gI := by first | assumption | omega
  replace at3 := lst1.same _ _ ⟨ne_g3_gI, ne_g3_g7, trivial⟩ at3
  have ne_g4_gI : g4 ≠ gI := by first | assumption | omega
  replace at4 := lst1.same _ _ ⟨ne_g4_gI, ne_g4_g7, trivial⟩ at4
  have ne_gF_gI : gF ≠ gI := by first | assumption | omega
  replace aF := lst1.same _ _ ⟨ne_gF_gI, ne_gF_g7, trivial⟩ aF
  have ne_gT_gI : gT ≠ gI := by first | assumption | omega
  replace aT := lst1.same _ _ ⟨ne_gT_gI, ne_gT_g7, trivial⟩ aT
  have ne_gC_gI : gC ≠ gI := by first | assumption | omega
  replace aC := lst1.same _ _ ⟨ne_gC_gI, ne_gC_g7, trivial⟩ aC
  have lt_at_LI := GHeap.ltg at_LI
  have lt_at_Lg7 := GHeap.ltg at_Lg7
  replace hin := base_hin.mono hle
  replace hin1 := base_hin1.mono hle
  clear hb2 c02 c12 c22 c32 c42 i12 i22 i32 i42
  have hb2 : Cat.At _ g2 0 c p := ⟨Mem.of_get at2, hin⟩
  obtain ⟨c02, c12, c22, c32, c42, i12, i22, i32, i42⟩ := hb2.get
  clear hb3 c03 c13 c23 c33 c43 i13 i23 i33 i43
  have hb3 : Cat.At _ g3 0 d q := ⟨Mem.of_get at3, hin1⟩
  obtain ⟨c03, c13, c23, c33, c43, i13, i23, i33, i43⟩ := hb3.get
  have hfl : (c.idn ++ (d.idn.take y).map (· + (c.src.length : Int))).length = c.idn.length + y := by simp; omega
  refine .seq (fun K7 hK7 => .seq (fun K8 hK8 => .region (.mv rfl (.m rfl rfl rfl (.fieldAddr fo_30_0_B rfl) ?_))))
  refine .m rfl rfl rfl (.load on_2_A rfl (by first | assumption | exact Mem.of_get at3 0 _ rfl)) ?_
  refine .m rfl rfl rfl (.cmp rfl rfl rfl) (.nil (hK8 _ _ ?_))
  refine .cond rfl (fun h31 => ?_) (fun h31 => ?_)
  ·
   simp only [sps] at h31
   have r1 := b7 y (by omega)
   refine .skip ?_
   refine hK7 _ _ (.seq (fun K9 hK9 => ?_))
   refine .block ?_
   refine .regionD mo_B (.q 0 (.q 1 (.q 2 (.q 3 (.q 4 (.q 5 (.q 6 (.q 7 (.q 8 (.c 9 1 (.c 10 0 (.q 11 (.c 12 0 (.done)))))))))))))) (by kernel_rfl) ?_
   refine .m rfl rfl rfl rfl (.refl _) (.fieldAddr fo_30_3_B rfl) ?_
   refine .m rfl rfl rfl rfl (.refl _) (.load on_22_B rfl (by first | assumption | exact Mem.of_get at_Lg7 3 _ rfl)) ?_
   refine .m rfl rfl rfl rfl (.refl _) (.fieldAddr fo_30_3_B rfl) ?_
   refine .m rfl rfl rfl rfl (.refl _) (.load on_22_B rfl (by first | assumption | exact Mem.of_get at3 3 _ rfl)) ?_
   refine .mv rfl rfl ?_
   refine .m rfl rfl rfl rfl (.refl _) (.idxN sl_22_A (by assumption) rfl rfl (by omega)) ?_
   refine .m rfl rfl rfl rfl (.refl _) (.loadI on_2_A (by assumption) rfl (by omega)) ?_
   refine .mv rfl rfl ?_
   refine .m rfl rfl rfl rfl (.refl _) (.add rfl rfl rfl (by omega) (by omega)) ?_
   refine .c1 rfl rfl rfl rfl (.litR rfl sl_22_A ze_2_E rfl rfl (by omega) (by omega) rfl rfl) ?_
   rintro _ H43 ⟨g43, rfl, le43, ge43, at43⟩
   have hbl := le43
   refine ⟨hbl, ?_⟩
   have nx_H43 := le43.1
   replace hle := hle.trans le43
   replace rk := rk.le le43
   replace lst1 := lst1.le le43
   replace at2 := le43.2 _ _ at2
   replace at3 := le43.2 _ _ at3
   replace at4 := le43.2 _ _ at4
   replace aF := le43.2 _ _ aF
   replace aT := le43.2 _ _ aT
   replace aC := le43.2 _ _ aC
   replace at_LI := le43.2 _ _ at_LI
   replace at_Lg7 := le43.2 _ _ at_Lg7
   have lt_at43 := GHeap.ltg at43
   replace hin := base_hin.mono hle
   replace hin1 := base_hin1.mono hle
   clear hb2 c02 c12 c22 c32 c42 i12 i22 i32 i42
   have hb2 : Cat.At _ g2 0 c p := ⟨Mem.of_get at2, hin⟩
   obtain ⟨c02, c12, c22, c32, c42, i12, i22, i32, i42⟩ := hb2.get
   clear hb3 c03 c13 c23 c33 c43 i13 i23 i33 i43
   have hb3 : Cat.At _ g3 0 d q := ⟨Mem.of_get at3, hin1⟩
   obtain ⟨c03, c13, c23, c33, c43, i13, i23, i33, i43⟩ := hb3.get
   refine .c0 rfl rfl rfl rfl (.appendI rfl sl_22_A ze_2_E rfl by_2_E sl_22_A rfl rfl (by assumption) (by assumption) (by first | omega | (simp <;> omega)) (by omega) (by omega)) ?_
   rintro _ H44 ⟨g44, rfl, st44, ge44, at44⟩
   have nx_H44 := st44.nx
   replace hle := hle.st st44 (fun k hk => ⟨by omega, trivial⟩)
   replace rk := rk.st st44 (fun k hk ho => by simp only [out, and_true] at ho ⊢ <;> first | exact ho | exact ho.1 | exact ho.2 | exact ho.2.1 | exact ho.2.2 | exact ho.2.2.1 | exact ho.2.2.2 | exact pl_LI.ne (by first | exact ho | exact ho.1 | exact ho.2 | exact ho.2.1 | exact ho.2.2 | exact ho.2.2.1 | exact ho.2.2.2 | omega) (by omega) | omega)
   replace lst1 := lst1.st st44 (fun k hk ho => by simp only [out, and_true] at ho ⊢ <;> first | exact ho | exact ho.1 | exact ho.2 | exact ho.2.1 | exact ho.2.2 | exact ho.2.2.1 | exact ho.2.2.2 | exact pl_LI.ne (by first | exact ho | exact ho.1 | exact ho.2 | exact ho.2.1 | exact ho.2.2 | exact ho.2.2.1 | exact ho.2.2.2 | omega) (by omega) | omega)
   have ne_g2_gLI : g2 ≠ gLI := pl_LI.ne ne_g2_gI (by omega)
   replace at2 := st44.same _ _ ⟨ne_g2_gLI, trivial⟩ at2
   have ne_g3_gLI : g3 ≠ gLI := pl_LI.ne ne_g3_gI (by omega)
   replace at3 := st44.same _ _ ⟨ne_g3_gLI, trivial⟩ at3
   have ne_g4_gLI : g4 ≠ gLI := pl_LI.ne ne_g4_gI (by omega)
   replace at4 := st44.same _ _ ⟨ne_g4_gLI, trivial⟩ at4
   have ne_gF_gLI : gF ≠ gLI := pl_LI.ne ne_gF_gI (by omega)
   replace aF := st44.same _ _ ⟨ne_gF_gLI, trivial⟩ aF
   have ne_gT_gLI : gT ≠ gLI := pl_LI.ne ne_gT_gI (by omega)
   replace aT := st44.same _ _ ⟨ne_gT_gLI, trivial⟩ aT
   have ne_gC_gLI : gC ≠ gLI := pl_LI.ne ne_gC_gI (by omega)
   replace aC := st44.same _ _ ⟨ne_gC_gLI, trivial⟩ aC
   replace at_Lg7 := st44.same _ _ ⟨(Ne.symm ap1_0), trivial⟩ at_Lg7
   replace at43 := st44.same _ _ ⟨(by first | assumption | omega), trivial⟩ at43
   have lt_at44 := GHeap.ltg at44
   replace hin := base_hin.mono hle
   replace hin1 := base_hin1.mono hle
   clear hb2 c02 c12 c22 c32 c42 i12 i22 i32 i42
   have hb2 : Cat.At _ g2 0 c p := ⟨Mem.of_get at2, hin⟩
   obtain ⟨c02, c12, c22, c32, c42, i12, i22, i32, i42⟩ := hb2.get
   clear hb3 c03 c13 c23 c33 c43 i13 i23 i33 i43
   have hb3 : Cat.At _ g3 0 d q := ⟨Mem.of_get at3, hin1⟩
   obtain ⟨c03, c13, c23, c33, c43, i13, i23, i33, i43⟩ := hb3.get
   refine .m rfl rfl rfl rfl (.refl _) (.fieldAddr fo_30_3_B rfl) ?_
   refine .r0 rfl rfl rfl (.storeR rfl sz_22_E rfl rfl rfl (by assumption) (by first | exact Nat.le_of_ble_eq_true rfl | (simp; done) | (simp <;> omega))) ?_
   rintro _ H7012 ⟨rfl, st7012, at7012⟩
   have nx_H7012 := st7012.nx
   replace hle := hle.st st7012 (fun k hk => ⟨by omega, trivial⟩)
   replace rk := rk.st st7012 (fun k hk ho => by simp only [out, and_true] at ho ⊢ <;> first | exact ho | exact ho.1 | exact ho.2 | exact ho.2.1 | exact ho.2.2 | exact ho.2.2.1 | exact ho.2.2.2 | omega)
   replace lst1 := lst1.st st7012 (fun k hk ho => by simp only [out, and_true] at ho ⊢ <;> first | exact ho | exact ho.1 | exact ho.2 | exact ho.2.1 | exact ho.2.2 | exact ho.2.2.1 | exact ho.2.2.2 | omega)
   replace at2 := st7012.same _ _ ⟨ne_g2_g7, trivial⟩ at2
   replace at3 := st7012.same _ _ ⟨ne_g3_g7, trivial⟩ at3
   replace at4 := st7012.same _ _ ⟨ne_g4_g7, trivial⟩ at4
   replace aF := st7012.same _ _ ⟨ne_gF_g7, trivial⟩ aF
   replace aT := st7012.same _ _ ⟨ne_gT_g7, trivial⟩ aT
   replace aC := st7012.same _ _ ⟨ne_gC_g7, trivial⟩ aC
   replace at43 := st7012.same _ _ ⟨(by first | assumption | omega), trivial⟩ at43
   replace at44 := st7012.same _ _ ⟨(by first | assumption | omega), trivial⟩ at44
   have lt_at7012 := GHeap.ltg at7012
   replace hin := base_hin.mono hle
   replace hin1 := base_hin1.mono hle
   clear hb2 c02 c12 c22 c32 c42 i12 i22 i32 i42
   have hb2 : Cat.At _ g2 0 c p := ⟨Mem.of_get at2, hin⟩
   obtain ⟨c02, c12, c22, c32, c42, i12, i22, i32, i42⟩ := hb2.get
   clear hb3 c03 c13 c23 c33 c43 i13 i23 i33 i43
   have hb3 : Cat.At _ g3 0 d q := ⟨Mem.of_get at3, hin1⟩
   obtain ⟨c03, c13, c23, c33, c43, i13, i23, i33, i43⟩ := hb3.get
   try simp only [Nat.zero_add, List.set_cons_succ, List.set_cons_zero] at at7012
   refine .done ?_
   refine hK9 _ _ (.region (.mv rfl ?_))
   refine .m rfl rfl rfl (.add rfl rfl rfl (by omega) (by omega)) ?_
   refine .mv rfl (.nil ?_)
   refine hKL1 ((y + 1, g44)) _ _ ?_ ?_ ⟨rfl, rfl, rfl, rfl, rfl, rfl, trivial⟩
   ·
    refine ⟨lst1, by first | assumption | (rw [take_map_snoc (d := 0) (by omega), ← List.append_assoc]; assumption), by first | assumption | exact ⟨.inr (by omega)⟩ | exact ⟨.inl rfl⟩, by first | assumption | (rw [take_map_snoc (d := 0) (by omega), ← List.append_assoc]; assumption), by first | assumption | omega, ?_⟩
    omega
   (dsimp only; omega)
  try simp only [sps] at h31
  refine .exit ?_
  refine hK5 _ _ (.seq (fun K10 hK10 => .seq (fun K11 hK11 => .region ?_)))
  obtain rfl : y = d.obj.toNat := by omega
  have hI9 : (d.idn.take d.obj.toNat) = d.idn := List.take_of_length_le (by omega)
  rw [hI9] at at_LI
  have k1 := row_ne aC at_LI rfl
  have ne_gF_gLI : gF ≠ gLI := pl_LI.ne n13 (by omega)
  have ne_gT_gLI : gT ≠ gLI := pl_LI.ne n23 (by omega)
  refine .mv rfl (.nil (hK11 _ _ ?_))
  refine .block ?_
  refine .loopR (σ := Nat × (Nat → Option Addr)) [(3, some _), (4, some _), (5, some _), (6, some _), (7, some _)] (fun (f, rr) => [(9, some (.int .i64 (f : Int)))]) (fun (f, rr) H' => f ≤ c.comp.length ∧ SumSt 2 22 30 H H' c d q g3 g4 g7 gF gT gLI gC [.int .i64 0, .slice none 0 0, .slice none 0 0, .slice none 0 0, .slice none 0 0] rr f 0) (fun (f, rr) => c.comp.length - f) ((0, rr)) ⟨rfl, rfl, rfl, rfl, rfl, trivial⟩ ⟨rfl, trivial⟩ ?_ ?_
  ·
   refine ⟨by omega, hle, by omega, ?_, at4, at_Lg7, aF, aT, at_LI, by rw [extL_zero]; exact aC, by rw [extL_zero]; exact (v22.rows.st rk (.cons v22.r3 (.nil _ _))).low (by omega), v22.r1, v22.r2, ?_⟩
   · assumption
   · exact fun i hi e => by
       obtain ⟨x, h1, h2, h3⟩ := v22.rows.row i hi
       rw [h1] at e
       cases e
       have := GHeap.ltg h3
       exact pl_LI.ne (fun e => v22.r3 i hi (by rw [h1, e])) (by omega) rfl
  rintro ⟨f, rr⟩ HL2 hI KL2 hKL2
  refine .forget (fr' := [(9, some (.int .i64 (f : Int))), (3, some _), (4, some _), (5, some _), (6, some _), (7, some _)]) ⟨rfl, rfl, rfl, rfl, rfl, rfl, trivial⟩ ?_
  obtain ⟨hf, hS⟩ := hI
  obtain ⟨hle, bC, aD, aR, aS, aF, aT, aI, aC, hR, hr1, hr2, hr3⟩ := id hS
  have nx_HL2 := hle.1
  have lt_aD := GHeap.ltg aD
  have lt_aR := GHeap.ltg aR
  have lt_aS := GHeap.ltg aS
  have lt_aF := GHeap.ltg aF
  have lt_aT := GHeap.ltg aT
  have lt_aI := GHeap.ltg aI
  have lt_aC := GHeap.ltg aC
  replace hin := base_hin.mono hle
  replace hin1 := base_hin1.mono hle
  have hb3 : Cat.At _ g3 0 d q := ⟨Mem.of_get aD, hin1⟩
  obtain ⟨c03, c13, c23, c33, c43, i13, i23, i33, i43⟩ := hb3.get
  refine .seq (fun K12 hK12 => .seq (fun K13 hK13 => .region (.mv rfl (.m rfl rfl rfl (.fieldAddr fo_30_4_B rfl) ?_))))
  refine .m rfl rfl rfl (.load on_23_B rfl (by first | assumption | exact Mem.of_get aS 4 _ rfl)) ?_
  refine .m rfl rfl rfl (.len sl_23_B rfl) (.m rfl rfl rfl (.cmp rfl rfl rfl) (.nil (hK13 _ _ ?_)))
  refine .cond rfl (fun h50 => ?_) (fun h50 => ?_)
  ·
   simp only [sps] at h50
   refine .skip ?_
   refine hK12 _ _ (.seq (fun K14 hK14 => ?_))
   refine .block ?_
   refine .seq (fun K15 hK15 => .region (.mv rfl (.nil (hK15 _ _ ?_))))
   refine .block ?_
   refine .loopR (σ := Nat × (Nat → Option Addr)) [(3, some _), (4, some _), (5, some _), (6, some _), (7, some _), (9, some _)] (fun (j, r2) => [(10, some (.int .i64 (j : Int)))]) (fun (j, r2) H' => j ≤ d.src.length ∧ SumSt 2 22 30 H H' c d q g3 g4 g7 gF gT gLI gC [.int .i64 0, .slice none 0 0, .slice none 0 0, .slice none 0 0, .slice none 0 0] r2 f j) (fun (j, r2) => d.src.length - j) ((0, rr)) ⟨rfl, rfl, rfl, rfl, rfl, rfl, trivial⟩ ⟨rfl, trivial⟩ ?_ ?_
   ·
    exact ⟨by omega, hS⟩
   rintro ⟨j, r2⟩ HL3 hI KL3 hKL3
   refine .forget (fr' := [(10, some (.int .i64 (j : Int))), (3, some _), (4, some _), (5, some _), (6, some _), (7, some _), (9, some _)]) ⟨rfl, rfl, rfl, rfl, rfl, rfl, rfl, trivial⟩ ?_
   obtain ⟨hj, hS⟩ := hI
   obtain ⟨hle, bC, aD, aR, aS, aF, aT, aI, aC, hR, hr1, hr2, hr3⟩ := id hS
   have hel := extL_len (xss := c.comp) (k := d.src.length) (f := f) (j := j) (i := f) hj (by omega)
   have hrow := a9 f (by omega)
   have nx_HL3 := hle.1
   have lt_aD := GHeap.ltg aD
   have lt_aS := GHeap.ltg aS
   have lt_aC := GHeap.ltg aC
   replace hin := base_hin.mono hle
   replace hin1 := base_hin1.mono hle
   refine .seq (fun K16 hK16 => .seq (fun K17 hK17 => .region (.mv rfl (.m rfl rfl rfl (.fieldAddr fo_30_1_B rfl) ?_))))
   refine .m rfl rfl rfl (.load on_22_B rfl (by first | assumption | exact Mem.of_get aD 1 _ rfl)) ?_
   refine .m rfl rfl rfl (.len sl_22_A rfl) (.m rfl rfl rfl (.cmp rfl rfl rfl) (.nil (hK17 _ _ ?_)))
   refine .cond rfl (fun h57 => ?_) (fun h57 => ?_)
   ·
    simp only [sps] at h57
    obtain ⟨gi, hgi, hbi, hati0⟩ := hR.row f (by rw [length_extL]; omega)
    have hati := hati0
    have cC := slsL_cell aC (i := f) (by rw [length_extL]; omega)
    rw [hgi] at cC
    have m1 := row_ne aS hati rfl
    have m2 := row_ne aD hati rfl
    have m3 := row_ne aC hati rfl
    have m4 := row_ne aS aC rfl
    have m5 := row_ne aD aC rfl
    refine .skip ?_
    refine hK16 _ _ (.seq (fun K18 hK18 => ?_))
    refine .block ?_
    refine .regionDB mo_B (.q 0 (.q 1 (.q 2 (.q 3 (.q 4 (.q 5 (.q 6 (.q 7 (.c 8 1 (.c 9 1 (.q 10 (.c 11 0 (.done))))))))))))) (by kernel_rfl) (GHeap.le_erase HL3 gi) ?_
    have hbl := GHeap.le_erase HL3 gi
    have aSB := GHeap.get_erase_of aS m1
    have aCB := GHeap.get_erase_of aC m3
    have cC := slsL_cell aCB (i := f) (by rw [length_extL]; omega)
    rw [hgi] at cC
    refine .mB rfl rfl rfl rfl hbl (.fieldAddr fo_30_4_B rfl) ?_
    refine .mB rfl rfl rfl rfl hbl (.load on_23_B rfl (Mem.of_get aSB 4 _ rfl)) ?_
    refine .mB rfl rfl rfl rfl hbl (.move rfl) ?_
    refine .mB rfl rfl rfl rfl hbl (.fieldAddr fo_30_4_B rfl) ?_
    refine .mB rfl rfl rfl rfl hbl (.load on_23_B rfl (Mem.of_get aSB 4 _ rfl)) ?_
    refine .mB rfl rfl rfl rfl hbl (.move rfl) ?_
    refine .mB rfl rfl rfl rfl hbl (.idxN sl_23_B (SlA.of_row aCB (by simp)) rfl rfl (by omega)) ?_
    refine .mB rfl rfl rfl rfl hbl (.load on_22_B rfl cC) ?_
    have lt_hati := GHeap.ltg hati
    refine .c1 rfl rfl rfl rfl (.litR rfl sl_22_A ze_2_E rfl rfl (by omega) (by omega) rfl rfl) ?_
    rintro _ H68 ⟨g68, rfl, le68, ge68, at68⟩
    replace hbl := hbl.trans le68
    refine ⟨hbl, ?_⟩
    have nx_H68 := le68.1
    replace hle := hle.trans le68
    replace aD := le68.2 _ _ aD
    replace aS := le68.2 _ _ aS
    replace aC := le68.2 _ _ aC
    replace hati := le68.2 _ _ hati
    have lt_at68 := GHeap.ltg at68
    replace hin := base_hin.mono hle
    replace hin1 := base_hin1.mono hle
    refine .c1 rfl rfl rfl rfl (.appendI rfl sl_22_A ze_2_E rfl by_2_E sl_22_A rfl rfl (by assumption) (by assumption) (by first | omega | (simp <;> omega)) (by omega) (by omega)) ?_
    rintro _ H69 ⟨g69, rfl, st69, ge69, at69⟩
    refine ⟨(hbl.erase_st st69), ?_⟩
    have nx_H69 := st69.nx
    replace hle := hle.st st69 (fun k hk => ⟨by omega, trivial⟩)
    replace aD := st69.same _ _ ⟨(by first | assumption | omega), trivial⟩ aD
    replace aS := st69.same _ _ ⟨(by first | assumption | omega), trivial⟩ aS
    replace aC := st69.same _ _ ⟨(by first | assumption | omega), trivial⟩ aC
    replace at68 := st69.same _ _ ⟨(by first | assumption | omega), trivial⟩ at68
    have lt_at69 := GHeap.ltg at69
    replace hin := base_hin.mono hle
    replace hin1 := base_hin1.mono hle
    replace hbl := hbl.erase_st st69
    refine .mB rfl rfl rfl rfl hbl (.idxN sl_23_B (SlA.of_row aCB (by simp)) rfl rfl (by omega)) ?_
    have at69s := at69
    refine .r0 rfl rfl rfl (.storeR rfl sz_22_E rfl rfl rfl (by assumption) (by first | exact Nat.le_of_ble_eq_true rfl | (simp; done) | (simp <;> omega))) ?_
    rintro _ H14011 ⟨rfl, st14011, at14011⟩
    have nx_H14011 := st14011.nx
    replace hle := hle.st st14011 (fun k hk => ⟨by omega, trivial⟩)
    have ne_g3_gC : g3 ≠ gC := by first | assumption | omega
    replace aD := st14011.same _ _ ⟨ne_g3_gC, trivial⟩ aD
    have ne_g7_gC : g7 ≠ gC := by first | assumption | omega
    replace aS := st14011.same _ _ ⟨ne_g7_gC, trivial⟩ aS
    replace at68 := st14011.same _ _ ⟨(by first | assumption | omega), trivial⟩ at68
    replace at69 := st14011.same _ _ ⟨(by first | assumption | omega), trivial⟩ at69
    have lt_at14011 := GHeap.ltg at14011
    replace hin := base_hin.mono hle
    replace hin1 := base_hin1.mono hle
    rw [Nat.zero_add] at at14011
    refine .done ?_
    refine hK18 _ _ (.region (.mv rfl ?_))
    refine .m rfl rfl rfl (.add rfl rfl rfl (by omega) (by omega)) ?_
    refine .mv rfl (.nil ?_)
    refine hKL3 ((j + 1, upd r2 f (some ⟨g69, 0, none⟩))) _ _ ?_ ?_ ⟨rfl, rfl, rfl, rfl, rfl, rfl, rfl, trivial⟩
    ·
     exact ⟨by omega, hS.app rfl rfl rfl (by omega) hati0 hgi le68 st69 ge69 at69s st14011 at14011 rfl⟩
    (dsimp only; omega)
   try simp only [sps] at h57
   refine .exit ?_
   refine hK14 _ _ (.region (.mv rfl ?_))
   refine .m rfl rfl rfl (.add rfl rfl rfl (by omega) (by omega)) ?_
   refine .mv rfl (.nil ?_)
   refine hKL2 ((f + 1, r2)) _ _ ?_ ?_ ⟨rfl, rfl, rfl, rfl, rfl, rfl, trivial⟩
   ·
    obtain rfl : j = d.src.length := by omega
    exact ⟨by omega, hS.next⟩
   (dsimp only; omega)
  try simp only [sps] at h50
  refine .exit ?_
  refine hK10 _ _ (.seq (fun K19 hK19 => .seq (fun K20 hK20 => .region ?_)))
  obtain rfl : f = c.comp.length := by omega
  rw [Cat.extL_all] at aC hR
  have ne_g3_gF := row_ne aD aF rfl
  have ne_g3_gT := row_ne aD aT rfl
  have ne_g3_gC := row_ne aD aC rfl
  have ne_g4_gF := row_ne aR aF rfl
  have ne_gLI_g4 := row_ne aI aR rfl
  have ne_g4_gT := row_ne aR aT rfl
  have ne_g4_gC := row_ne aR aC rfl
  have ne_g7_gF := row_ne aS aF rfl
  have ne_g7_gT := row_ne aS aT rfl
  have ne_g7_gC := row_ne aS aC rfl
  refine .mv rfl (.nil (hK20 _ _ ?_))
  refine .block ?_
  refine .loopR (σ := Nat × (Nat → Option Addr) × Nat × Nat × Nat) [(3, some _), (4, some _), (5, some _), (6, some _), (7, some _)] (fun (i, r3, gLF, gLT, gLC) => [(11, some (.int .i64 (i : Int)))]) (fun (i, r3, gLF, gLT, gLC) H' => St [gF, gT, gC, g7] HL2 H' ∧ H'.get gLF = some (.row (ints (c.src ++ (d.src.take i).map (· + c.obj))) 2 true) ∧ PL gLF gF HL2.next ∧ H'.get gLT = some (.row (ints (c.tgt ++ (d.tgt.take i).map (· + c.obj))) 2 true) ∧ PL gLT gT HL2.next ∧ H'.get gLC = some (.row ((slsL r3 (c.sumL d ++ (d.comp.take i).map (sumRow c.src.length)))) 22 true) ∧ PL gLC gC HL2.next ∧ H'.get g7 = some (.row ([.int .i64 (c.obj + d.obj), .slice (some ⟨gLF, 0, none⟩) (c.src.length + i) (c.src.length + i), .slice (some ⟨gLT, 0, none⟩) (c.tgt.length + i) (c.tgt.length + i), .slice (some ⟨gLI, 0, none⟩) (c.idn.length + d.obj.toNat) (c.idn.length + d.obj.toNat), .slice (some ⟨gLC, 0, none⟩) (c.comp.length + i) (c.comp.length + i)]) 30 true) ∧ gLF ≠ gLT ∧ gLF ≠ gLC ∧ gLF ≠ g7 ∧ gLT ≠ gLC ∧ gLT ≠ g7 ∧ gLC ≠ g7 ∧ i ≤ d.src.length ∧ OwnL H.next H' 2 r3 (c.sumL d ++ (d.comp.take i).map (sumRow c.src.length)) ∧ (∀ j, j < (c.sumL d ++ (d.comp.take i).map (sumRow c.src.length)).length → r3 j ≠ some ⟨gLF, 0, none⟩) ∧ (∀ j, j < (c.sumL d ++ (d.comp.take i).map (sumRow c.src.length)).length → r3 j ≠ some ⟨gLT, 0, none⟩) ∧ ∀ j, j < (c.sumL d ++ (d.comp.take i).map (sumRow c.src.length)).length → r3 j ≠ some ⟨gLI, 0, none⟩) (fun (i, r3, gLF, gLT, gLC) => d.src.length - i) ((0, rr, gF, gT, gC)) ⟨rfl, rfl, rfl, rfl, rfl, trivial⟩ ⟨rfl, trivial⟩ ?_ ?_
  ·
   refine ⟨.refl _ _, by first | assumption | exact aF | simpa using aF, ⟨.inl rfl⟩, by first | assumption | exact aT | simpa using aT, ⟨.inl rfl⟩, by first | assumption | exact aC | simpa using aC, ⟨.inl rfl⟩, by first | assumption | exact aS | simpa using aS, by omega, by omega, by omega, by omega, by omega, by omega, ?_⟩
   have e0 : c.sumL d ++ (d.comp.take 0).map (sumRow c.src.length) = c.sumL d := by simp
   rw [e0]
   have e1 : (c.sumL d).length = c.comp.length := by simp [Cat.sumL]
   exact ⟨by omega, hR, fun j hj => hr1 j (by omega), fun j hj => hr2 j (by omega), fun j hj => hr3 j (by omega)⟩
  rintro ⟨i, r3, gLF, gLT, gLC⟩ HL4 ⟨lst4, at_LF, pl_LF, at_LT, pl_LT, at_LC, pl_LC, at_Lg7, ap4_0, ap4_1, ap4_2, ap4_3, ap4_4, ap4_5, hI⟩ KL4 hKL4
  refine .forget (fr' := [(11, some (.int .i64 (i : Int))), (3, some _), (4, some _), (5, some _), (6, some _), (7, some _)]) ⟨rfl, rfl, rfl, rfl, rfl, rfl, trivial⟩ ?_
  have ge_LF : H.next ≤ gLF := pl_LF.ge (by omega) (by omega)
  have ge_LT : H.next ≤ gLT := pl_LT.ge (by omega) (by omega)
  have ge_LC : H.next ≤ gLC := pl_LC.ge (by omega) (by omega)
  have nx_HL4 := lst4.nx
  replace hle := hle.st lst4 (fun k hk => ⟨by omega, by omega, by omega, by omega, trivial⟩)
  have ne_g3_gF : g3 ≠ gF := by first | assumption | omega
  have ne_g3_gT : g3 ≠ gT := by first | assumption | omega
  have ne_g3_gC : g3 ≠ gC := by first | assumption | omega
  have ne_g3_g7 : g3 ≠ g7 := by first | assumption | omega
  replace aD := lst4.same _ _ ⟨ne_g3_gF, ne_g3_gT, ne_g3_gC, ne_g3_g7, trivial⟩ aD
  have ne_g4_gF : g4 ≠ gF := by first | assumption | omega
  have ne_g4_gT : g4 ≠ gT := by first | assumption | omega
  have ne_g4_gC : g4 ≠ gC := by first | assumption | omega
  have ne_g4_g7 : g4 ≠ g7 := by first | assumption | omega
  replace aR := lst4.same _ _ ⟨ne_g4_gF, ne_g4_gT, ne_g4_gC, ne_g4_g7, trivial⟩ aR
  have ne_gLI_gF : gLI ≠ gF := by first | assumption | omega
  have ne_gLI_gT : gLI ≠ gT := by first | assumption | omega
  have ne_gLI_gC : gLI ≠ gC := by first | assumption | omega
  have ne_gLI_g7 : gLI ≠ g7 := by first | assumption | omega
  replace aI := lst4.same _ _ ⟨ne_gLI_gF, ne_gLI_gT, ne_gLI_gC, ne_gLI_g7, trivial⟩ aI
  have lt_at_LF := GHeap.ltg at_LF
  have lt_at_LT := GHeap.ltg at_LT
  have lt_at_LC := GHeap.ltg at_LC
  have lt_at_Lg7 := GHeap.ltg at_Lg7
  replace hin := base_hin.mono hle
  replace hin1 := base_hin1.mono hle
  clear hb3 c03 c13 c23 c33 c43 i13 i23 i33 i43
  have hb3 : Cat.At _ g3 0 d q := ⟨Mem.of_get aD, hin1⟩
  obtain ⟨c03, c13, c23, c33, c43, i13, i23, i33, i43⟩ := hb3.get
  have rk := St.refl [gLF, gLT, gLC, g7] HL4
  obtain ⟨hi, hR, hF, hT, hId⟩ := hI
  have hatC := at_LC
  have nFI : gLI ≠ gLF := pl_LF.ne (Ne.symm ne_gF_gLI) (by omega)
  have nTI : gLI ≠ gLT := pl_LT.ne (Ne.symm ne_gT_gLI) (by omega)
  have hat7 := at_Lg7
  have hql : (c.sumL d ++ (d.comp.take i).map (sumRow c.src.length)).length = c.comp.length + i := by simp [Cat.sumL]; omega
  have hl1 : (c.src ++ (d.src.take i).map (· + c.obj)).length = c.src.length + i := by simp; omega
  have hl2 : (c.tgt ++ (d.tgt.take i).map (· + c.obj)).length = c.tgt.length + i := by simp; omega
  have hfl : (slsL r3 (c.sumL d ++ (d.comp.take i).map (sumRow c.src.length))).length = c.comp.length + i := by rw [length_slsL, hql]
  refine .seq (fun K21 hK21 => .seq (fun K22 hK22 => .region (.mv rfl (.m rfl rfl rfl (.fieldAddr fo_30_1_B rfl) ?_))))
  refine .m rfl rfl rfl (.load on_22_B rfl (by first | assumption | exact Mem.of_get aD 1 _ rfl)) ?_
  refine .m rfl rfl rfl (.len sl_22_A rfl) (.m rfl rfl rfl (.cmp rfl rfl rfl) (.nil (hK22 _ _ ?_)))
  refine .cond rfl (fun h75 => ?_) (fun h75 => ?_)
  ·
   simp only [sps] at h75
   have q1 := b4 i (by omega)
   have q2 := b5 i (by omega)
   have q3 := b9 i (by omega)
   refine .skip ?_
   refine hK21 _ _ (.seq (fun K23 hK23 => ?_))
   refine .block ?_
   refine .seq (fun K24 hK24 => ?_)
   refine .regionD mo_B (.q 0 (.q 1 (.q 2 (.q 3 (.q 4 (.q 5 (.q 6 (.q 7 (.q 8 (.c 9 1 (.c 10 0 (.q 11 (.c 12 0 (.done)))))))))))))) (by kernel_rfl) ?_
   refine .m rfl rfl rfl rfl (.refl _) (.fieldAddr fo_30_1_B rfl) ?_
   refine .m rfl rfl rfl rfl (.refl _) (.load on_22_B rfl (by first | assumption | exact Mem.of_get at_Lg7 1 _ rfl)) ?_
   refine .m rfl rfl rfl rfl (.refl _) (.fieldAddr fo_30_1_B rfl) ?_
   refine .m rfl rfl rfl rfl (.refl _) (.load on_22_B rfl (by first | assumption | exact Mem.of_get aD 1 _ rfl)) ?_
   refine .mv rfl rfl ?_
   refine .m rfl rfl rfl rfl (.refl _) (.idxN sl_22_A (by assumption) rfl rfl (by omega)) ?_
   refine .m rfl rfl rfl rfl (.refl _) (.loadI on_2_A (by assumption) rfl (by omega)) ?_
   refine .mv rfl rfl ?_
   refine .m rfl rfl rfl rfl (.refl _) (.add rfl rfl rfl (by omega) (by omega)) ?_
   refine .c1 rfl rfl rfl rfl (.litR rfl sl_22_A ze_2_E rfl rfl (by omega) (by omega) rfl rfl) ?_
   rintro _ H87 ⟨g87, rfl, le87, ge87, at87⟩
   have hbl := le87
   refine ⟨hbl, ?_⟩
   have nx_H87 := le87.1
   replace hle := hle.trans le87
   replace lst4 := lst4.le le87
   replace rk := rk.le le87
   replace aD := le87.2 _ _ aD
   replace aR := le87.2 _ _ aR
   replace aI := le87.2 _ _ aI
   replace at_LF := le87.2 _ _ at_LF
   replace at_LT := le87.2 _ _ at_LT
   replace at_LC := le87.2 _ _ at_LC
   replace at_Lg7 := le87.2 _ _ at_Lg7
   have lt_at87 := GHeap.ltg at87
   replace hin := base_hin.mono hle
   replace hin1 := base_hin1.mono hle
   clear hb3 c03 c13 c23 c33 c43 i13 i23 i33 i43
   have hb3 : Cat.At _ g3 0 d q := ⟨Mem.of_get aD, hin1⟩
   obtain ⟨c03, c13, c23, c33, c43, i13, i23, i33, i43⟩ := hb3.get
   refine .c0 rfl rfl rfl rfl (.appendI rfl sl_22_A ze_2_E rfl by_2_E sl_22_A rfl rfl (by assumption) (by assumption) (by first | omega | (simp <;> omega)) (by omega) (by omega)) ?_
   rintro _ H88 ⟨g88, rfl, st88, ge88, at88⟩
   have nx_H88 := st88.nx
   replace hle := hle.st st88 (fun k hk => ⟨by omega, trivial⟩)
   replace lst4 := lst4.st st88 (fun k hk ho => by simp only [out, and_true] at ho ⊢ <;> first | exact ho | exact ho.1 | exact ho.2 | exact ho.2.1 | exact ho.2.2 | exact ho.2.2.1 | exact ho.2.2.2 | exact pl_LF.ne (by first | exact ho | exact ho.1 | exact ho.2 | exact ho.2.1 | exact ho.2.2 | exact ho.2.2.1 | exact ho.2.2.2 | omega) (by omega) | omega)
   replace rk := rk.st st88 (fun k hk ho => by simp only [out, and_true] at ho ⊢ <;> first | exact ho | exact ho.1 | exact ho.2 | exact ho.2.1 | exact ho.2.2 | exact ho.2.2.1 | exact ho.2.2.2 | exact pl_LF.ne (by first | exact ho | exact ho.1 | exact ho.2 | exact ho.2.1 | exact ho.2.2 | exact ho.2.2.1 | exact ho.2.2.2 | omega) (by omega) | omega)
   have ne_g3_gLF : g3 ≠ gLF := pl_LF.ne ne_g3_gF (by omega)
   replace aD := st88.same _ _ ⟨ne_g3_gLF, trivial⟩ aD
   have ne_g4_gLF : g4 ≠ gLF := pl_LF.ne ne_g4_gF (by omega)
   replace aR := st88.same _ _ ⟨ne_g4_gLF, trivial⟩ aR
   have ne_gLI_gLF : gLI ≠ gLF := pl_LF.ne ne_gLI_gF (by omega)
   replace aI := st88.same _ _ ⟨ne_gLI_gLF, trivial⟩ aI
   replace at_LT := st88.same _ _ ⟨(Ne.symm ap4_0), trivial⟩ at_LT
   replace at_LC := st88.same _ _ ⟨(Ne.symm ap4_1), trivial⟩ at_LC
   replace at_Lg7 := st88.same _ _ ⟨(Ne.symm ap4_2), trivial⟩ at_Lg7
   replace at87 := st88.same _ _ ⟨(by first | assumption | omega), trivial⟩ at87
   have lt_at88 := GHeap.ltg at88
   replace hin := base_hin.mono hle
   replace hin1 := base_hin1.mono hle
   clear hb3 c03 c13 c23 c33 c43 i13 i23 i33 i43
   have hb3 : Cat.At _ g3 0 d q := ⟨Mem.of_get aD, hin1⟩
   obtain ⟨c03, c13, c23, c33, c43, i13, i23, i33, i43⟩ := hb3.get
   refine .m rfl rfl rfl rfl (.refl _) (.fieldAddr fo_30_1_B rfl) ?_
   refine .r0 rfl rfl rfl (.storeR rfl sz_22_E rfl rfl rfl (by assumption) (by first | exact Nat.le_of_ble_eq_true rfl | (simp; done) | (simp <;> omega))) ?_
   rintro _ H18012 ⟨rfl, st18012, at18012⟩
   have nx_H18012 := st18012.nx
   replace hle := hle.st st18012 (fun k hk => ⟨by omega, trivial⟩)
   replace lst4 := lst4.st st18012 (fun k hk ho => by simp only [out, and_true] at ho ⊢ <;> first | exact ho | exact ho.1 | exact ho.2 | exact ho.2.1 | exact ho.2.2 | exact ho.2.2.1 | exact ho.2.2.2 | omega)
   replace rk := rk.st st18012 (fun k hk ho => by simp only [out, and_true] at ho ⊢ <;> first | exact ho | exact ho.1 | exact ho.2 | exact ho.2.1 | exact ho.2.2 | exact ho.2.2.1 | exact ho.2.2.2 | omega)
   replace aD := st18012.same _ _ ⟨ne_g3_g7, trivial⟩ aD
   replace aR := st18012.same _ _ ⟨ne_g4_g7, trivial⟩ aR
   replace aI := st18012.same _ _ ⟨ne_gLI_g7, trivial⟩ aI
   replace at_LT := st18012.same _ _ ⟨ap4_4, trivial⟩ at_LT
   replace at_LC := st18012.same _ _ ⟨ap4_5, trivial⟩ at_LC
   have ne_g87_g7 : g87 ≠ g7 := by first | assumption | omega
   replace at87 := st18012.same _ _ ⟨ne_g87_g7, trivial⟩ at87
   have ne_g88_g7 : g88 ≠ g7 := by first | assumption | omega
   replace at88 := st18012.same _ _ ⟨ne_g88_g7, trivial⟩ at88
   have lt_at18012 := GHeap.ltg at18012
   replace hin := base_hin.mono hle
   replace hin1 := base_hin1.mono hle
   clear hb3 c03 c13 c23 c33 c43 i13 i23 i33 i43
   have hb3 : Cat.At _ g3 0 d q := ⟨Mem.of_get aD, hin1⟩
   obtain ⟨c03, c13, c23, c33, c43, i13, i23, i33, i43⟩ := hb3.get
   try simp only [Nat.zero_add, List.set_cons_succ, List.set_cons_zero] at at18012
   refine .done ?_
   refine hK24 _ _ (.seq (fun K25 hK25 => ?_))
   refine .regionD mo_B (.q 0 (.q 1 (.q 2 (.q 3 (.q 4 (.q 5 (.q 6 (.q 7 (.q 8 (.c 9 1 (.c 10 0 (.q 11 (.c 12 0 (.done)))))))))))))) (by kernel_rfl) ?_
   refine .m rfl rfl rfl rfl (.refl _) (.fieldAddr fo_30_2_B rfl) ?_
   refine .m rfl rfl rfl rfl (.refl _) (.load on_22_B rfl (by first | assumption | exact Mem.of_get at18012 2 _ rfl)) ?_
   refine .m rfl rfl rfl rfl (.refl _) (.fieldAddr fo_30_2_B rfl) ?_
   refine .m rfl rfl rfl rfl (.refl _) (.load on_22_B rfl (by first | assumption | exact Mem.of_get aD 2 _ rfl)) ?_
   refine .mv rfl rfl ?_
   refine .m rfl rfl rfl rfl (.refl _) (.idxN sl_22_A (by assumption) rfl rfl (by omega)) ?_
   refine .m rfl rfl rfl rfl (.refl _) (.loadI on_2_A (by assumption) rfl (by omega)) ?_
   refine .mv rfl rfl ?_
   refine .m rfl rfl rfl rfl (.refl _) (.add rfl rfl rfl (by omega) (by omega)) ?_
   refine .c1 rfl rfl rfl rfl (.litR rfl sl_22_A ze_2_E rfl rfl (by omega) (by omega) rfl rfl) ?_
   rintro _ H99 ⟨g99, rfl, le99, ge99, at99⟩
   have hbl := le99
   refine ⟨hbl, ?_⟩
   have nx_H99 := le99.1
   replace hle := hle.trans le99
   replace lst4 := lst4.le le99
   replace rk := rk.le le99
   replace aD := le99.2 _ _ aD
   replace aR := le99.2 _ _ aR
   replace aI := le99.2 _ _ aI
   replace at_LT := le99.2 _ _ at_LT
   replace at_LC := le99.2 _ _ at_LC
   replace at87 := le99.2 _ _ at87
   replace at88 := le99.2 _ _ at88
   replace at18012 := le99.2 _ _ at18012
   have lt_at99 := GHeap.ltg at99
   replace hin := base_hin.mono hle
   replace hin1 := base_hin1.mono hle
   clear hb3 c03 c13 c23 c33 c43 i13 i23 i33 i43
   have hb3 : Cat.At _ g3 0 d q := ⟨Mem.of_get aD, hin1⟩
   obtain ⟨c03, c13, c23, c33, c43, i13, i23, i33, i43⟩ := hb3.get
   refine .c0 rfl rfl rfl rfl (.appendI rfl sl_22_A ze_2_E rfl by_2_E sl_22_A rfl rfl (by assumption) (by assumption) (by first | omega | (simp <;> omega)) (by omega) (by omega)) ?_
   rintro _ H100 ⟨g100, rfl, st100, ge100, at100⟩
   have nx_H100 := st100.nx
   replace hle := hle.st st100 (fun k hk => ⟨by omega, trivial⟩)
   replace lst4 := lst4.st st100 (fun k hk ho => by simp only [out, and_true] at ho ⊢ <;> first | exact ho | exact ho.1 | exact ho.2 | exact ho.2.1 | exact ho.2.2 | exact ho.2.2.1 | exact ho.2.2.2 | exact pl_LT.ne (by first | exact ho | exact ho.1 | exact ho.2 | exact ho.2.1 | exact ho.2.2 | exact ho.2.2.1 | exact ho.2.2.2 | omega) (by omega) | omega)
   replace rk := rk.st st100 (fun k hk ho => by simp only [out, and_true] at ho ⊢ <;> first | exact ho | exact ho.1 | exact ho.2 | exact ho.2.1 | exact ho.2.2 | exact ho.2.2.1 | exact ho.2.2.2 | exact pl_LT.ne (by first | exact ho | exact ho.1 | exact ho.2 | exact ho.2.1 | exact ho.2.2 | exact ho.2.2.1 | exact ho.2.2.2 | omega) (by omega) | omega)
   have ne_g3_gLT : g3 ≠ gLT := pl_LT.ne ne_g3_gT (by omega)
   replace aD := st100.same _ _ ⟨ne_g3_gLT, trivial⟩ aD
   have ne_g4_gLT : g4 ≠ gLT := pl_LT.ne ne_g4_gT (by omega)
   replace aR := st100.same _ _ ⟨ne_g4_gLT, trivial⟩ aR
   have ne_gLI_gLT : gLI ≠ gLT := pl_LT.ne ne_gLI_gT (by omega)
   replace aI := st100.same _ _ ⟨ne_gLI_gLT, trivial⟩ aI
   replace at_LC := st100.same _ _ ⟨(Ne.symm ap4_3), trivial⟩ at_LC
   replace at87 := st100.same _ _ ⟨(by first | assumption | omega), trivial⟩ at87
   replace at88 := st100.same _ _ ⟨(by first | assumption | omega), trivial⟩ at88
   replace at18012 := st100.same _ _ ⟨(Ne.symm ap4_4), trivial⟩ at18012
   replace at99 := st100.same _ _ ⟨(by first | assumption | omega), trivial⟩ at99
   have lt_at100 := GHeap.ltg at100
   replace hin := base_hin.mono hle
   replace hin1 := base_hin1.mono hle
   clear hb3 c03 c13 c23 c33 c43 i13 i23 i33 i43
   have hb3 : Cat.At _ g3 0 d q := ⟨Mem.of_get aD, hin1⟩
   obtain ⟨c03, c13, c23, c33, c43, i13, i23, i33, i43⟩ := hb3.get
   refine .m rfl rfl rfl rfl (.refl _) (.fieldAddr fo_30_2_B rfl) ?_
   refine .r0 rfl rfl rfl (.storeR rfl sz_22_E rfl rfl rfl (by assumption) (by first | exact Nat.le_of_ble_eq_true rfl | (simp; done) | (simp <;> omega))) ?_
   rintro _ H19012 ⟨rfl, st19012, at19012⟩
   have nx_H19012 := st19012.nx
   replace hle := hle.st st19012 (fun k hk => ⟨by omega, trivial⟩)
   replace lst4 := lst4.st st19012 (fun k hk ho => by simp only [out, and_true] at ho ⊢ <;> first | exact ho | exact ho.1 | exact ho.2 | exact ho.2.1 | exact ho.2.2 | exact ho.2.2.1 | exact ho.2.2.2 | omega)
   replace rk := rk.st st19012 (fun k hk ho => by simp only [out, and_true] at ho ⊢ <;> first | exact ho | exact ho.1 | exact ho.2 | exact ho.2.1 | exact ho.2.2 | exact ho.2.2.1 | exact ho.2.2.2 | omega)
   replace aD := st19012.same _ _ ⟨ne_g3_g7, trivial⟩ aD
   replace aR := st19012.same _ _ ⟨ne_g4_g7, trivial⟩ aR
   replace aI := st19012.same _ _ ⟨ne_gLI_g7, trivial⟩ aI
   replace at_LC := st19012.same _ _ ⟨ap4_5, trivial⟩ at_LC
   replace at87 := st19012.same _ _ ⟨ne_g87_g7, trivial⟩ at87
   replace at88 := st19012.same _ _ ⟨ne_g88_g7, trivial⟩ at88
   have ne_g99_g7 : g99 ≠ g7 := by first | assumption | omega
   replace at99 := st19012.same _ _ ⟨ne_g99_g7, trivial⟩ at99
   have ne_g100_g7 : g100 ≠ g7 := by first | assumption | omega
   replace at100 := st19012.same _ _ ⟨ne_g100_g7, trivial⟩ at100
   have lt_at19012 := GHeap.ltg at19012
   replace hin := base_hin.mono hle
   replace hin1 := base_hin1.mono hle
   clear hb3 c03 c13 c23 c33 c43 i13 i23 i33 i43
   have hb3 : Cat.At _ g3 0 d q := ⟨Mem.of_get aD, hin1⟩
   obtain ⟨c03, c13, c23, c33, c43, i13, i23, i33, i43⟩ := hb3.get
   try simp only [Nat.zero_add, List.set_cons_succ, List.set_cons_zero] at at19012
   refine .done ?_
   refine hK25 _ _ (.seq (fun K26 hK26 => .region ?_))
   refine .r rfl rfl rfl (.litR rfl sl_22_A ze_2_E rfl rfl (by omega) (by omega) rfl rfl) ?_
   rintro _ H102 ⟨g102, rfl, le102, ge102, at102⟩
   have nx_H102 := le102.1
   replace hle := hle.trans le102
   replace lst4 := lst4.le le102
   replace rk := rk.le le102
   replace aD := le102.2 _ _ aD
   replace aR := le102.2 _ _ aR
   replace aI := le102.2 _ _ aI
   replace at_LC := le102.2 _ _ at_LC
   replace at87 := le102.2 _ _ at87
   replace at88 := le102.2 _ _ at88
   replace at99 := le102.2 _ _ at99
   replace at100 := le102.2 _ _ at100
   replace at19012 := le102.2 _ _ at19012
   have lt_at102 := GHeap.ltg at102
   replace hin := base_hin.mono hle
   replace hin1 := base_hin1.mono hle
   clear hb3 c03 c13 c23 c33 c43 i13 i23 i33 i43
   have hb3 : Cat.At _ g3 0 d q := ⟨Mem.of_get aD, hin1⟩
   obtain ⟨c03, c13, c23, c33, c43, i13, i23, i33, i43⟩ := hb3.get
   replace at102 : GHeap.get H102 g102 = some (.row (ints []) 2 true) := at102
   refine .mv rfl (.nil (hK26 _ _ (.seq (fun K27 hK27 => .seq (fun K28 hK28 => .region (.mv rfl (.nil (hK28 _ _ ?_))))))))
   refine .block ?_
   refine .loopR (σ := Nat × Nat × Nat) [(3, some _), (4, some _), (5, some _), (6, some _), (7, some _), (11, some _)] (fun (j, gL12, nL12) => [(13, some (.int .i64 (j : Int))), (12, some (.slice (some ⟨gL12, 0, none⟩) nL12 nL12))]) (fun (j, gL12, nL12) H' => St [g102] H102 H' ∧ H'.get gL12 = some (.row (ints (List.replicate j (-1))) 2 true) ∧ PL gL12 g102 H102.next ∧ nL12 = (List.replicate j (-1)).length ∧ j ≤ c.src.length) (fun (j, gL12, nL12) => c.src.length - j) ((0, _, _)) ⟨rfl, rfl, rfl, rfl, rfl, rfl, trivial⟩ ⟨rfl, rfl, trivial⟩ ?_ ?_
   ·
    refine ⟨.refl _ _, by first | assumption | exact at102 | simpa using at102, ⟨.inl rfl⟩, by first | rfl | assumption | simp | omega, ?_⟩
    omega
   rintro ⟨j, gL12, nL12⟩ HL5 ⟨lst5, at_L12, pl_L12, ln_L12, hI⟩ KL5 hKL5
   refine .forget (fr' := [(13, some (.int .i64 (j : Int))), (12, some (.slice (some ⟨gL12, 0, none⟩) nL12 nL12)), (3, some _), (4, some _), (5, some _), (6, some _), (7, some _), (11, some _)]) ⟨rfl, rfl, rfl, rfl, rfl, rfl, rfl, rfl, trivial⟩ ?_
   have ge_L12 : H.next ≤ gL12 := pl_L12.ge (by omega) (by omega)
   have nx_HL5 := lst5.nx
   replace hle := hle.st lst5 (fun k hk => ⟨by omega, trivial⟩)
   replace lst4 := lst4.st lst5 (fun k hk ho => by simp only [out, and_true] at ho ⊢ <;> first | exact ho | exact ho.1 | exact ho.2 | exact ho.2.1 | exact ho.2.2 | exact ho.2.2.1 | exact ho.2.2.2 | omega)
   replace rk := rk.st lst5 (fun k hk ho => by simp only [out, and_true] at ho ⊢ <;> first | exact ho | exact ho.1 | exact ho.2 | exact ho.2.1 | exact ho.2.2 | exact ho.2.2.1 | exact ho.2.2.2 | omega)
   have ne_g3_g102 : g3 ≠ g102 := by first | assumption | omega
   replace aD := lst5.same _ _ ⟨ne_g3_g102, trivial⟩ aD
   have ne_g4_g102 : g4 ≠ g102 := by first | assumption | omega
   replace aR := lst5.same _ _ ⟨ne_g4_g102, trivial⟩ aR
   have ne_gLI_g102 : gLI ≠ g102 := by first | assumption | omega
   replace aI := lst5.same _ _ ⟨ne_gLI_g102, trivial⟩ aI
   have ne_gLC_g102 : gLC ≠ g102 := by first | assumption | omega
   replace at_LC := lst5.same _ _ ⟨ne_gLC_g102, trivial⟩ at_LC
   have ne_g87_g102 : g87 ≠ g102 := by first | assumption | omega
   replace at87 := lst5.same _ _ ⟨ne_g87_g102, trivial⟩ at87
   have ne_g88_g102 : g88 ≠ g102 := by first | assumption | omega
   replace at88 := lst5.same _ _ ⟨ne_g88_g102, trivial⟩ at88
   have ne_g99_g102 : g99 ≠ g102 := by first | assumption | omega
   replace at99 := lst5.same _ _ ⟨ne_g99_g102, trivial⟩ at99
   have ne_g100_g102 : g100 ≠ g102 := by first | assumption | omega
   replace at100 := lst5.same _ _ ⟨ne_g100_g102, trivial⟩ at100
   have ne_g7_g102 : g7 ≠ g102 := by first | assumption | omega
   replace at19012 := lst5.same _ _ ⟨ne_g7_g102, trivial⟩ at19012
   have lt_at_L12 := GHeap.ltg at_L12
   replace hin := base_hin.mono hle
   replace hin1 := base_hin1.mono hle
   clear hb3 c03 c13 c23 c33 c43 i13 i23 i33 i43
   have hb3 : Cat.At _ g3 0 d q := ⟨Mem.of_get aD, hin1⟩
   obtain ⟨c03, c13, c23, c33, c43, i13, i23, i33, i43⟩ := hb3.get
   have hz : (List.replicate j (-1 : Int)).length = j := List.length_replicate
   refine .seq (fun K29 hK29 => .seq (fun K30 hK30 => .region (.mv rfl (.mv rfl (.m rfl rfl rfl (.cmp rfl rfl rfl) (.nil (hK30 _ _ ?_)))))))
   refine .cond rfl (fun h105 => ?_) (fun h105 => ?_)
   ·
    simp only [sps] at h105
    refine .skip ?_
    refine hK29 _ _ (.seq (fun K31 hK31 => ?_))
    refine .block ?_
    refine .region (.mv rfl ?_)
    refine .r rfl rfl rfl (.litR rfl sl_22_A ze_2_E rfl rfl (by omega) (by omega) rfl rfl) ?_
    rintro _ H109 ⟨g109, rfl, le109, ge109, at109⟩
    have nx_H109 := le109.1
    replace hle := hle.trans le109
    replace lst4 := lst4.le le109
    replace rk := rk.le le109
    replace lst5 := lst5.le le109
    replace aD := le109.2 _ _ aD
    replace aR := le109.2 _ _ aR
    replace aI := le109.2 _ _ aI
    replace at_LC := le109.2 _ _ at_LC
    replace at87 := le109.2 _ _ at87
    replace at88 := le109.2 _ _ at88
    replace at99 := le109.2 _ _ at99
    replace at100 := le109.2 _ _ at100
    replace at19012 := le109.2 _ _ at19012
    replace at_L12 := le109.2 _ _ at_L12
    have lt_at109 := GHeap.ltg at109
    replace hin := base_hin.mono hle
    replace hin1 := base_hin1.mono hle
    clear hb3 c03 c13 c23 c33 c43 i13 i23 i33 i43
    have hb3 : Cat.At _ g3 0 d q := ⟨Mem.of_get aD, hin1⟩
    obtain ⟨c03, c13, c23, c33, c43, i13, i23, i33, i43⟩ := hb3.get
    refine .r rfl rfl rfl (.appendI rfl sl_22_A ze_2_E rfl by_2_E sl_22_A rfl rfl (by assumption) (by assumption) (by first | omega | (simp <;> omega)) (by omega) (by omega)) ?_
    rintro _ H110 ⟨g110, rfl, st110, ge110, at110⟩
    have nx_H110 := st110.nx
    replace hle := hle.st st110 (fun k hk => ⟨by omega, trivial⟩)
    replace lst4 := lst4.st st110 (fun k hk ho => by simp only [out, and_true] at ho ⊢ <;> first | exact ho | exact ho.1 | exact ho.2 | exact ho.2.1 | exact ho.2.2 | exact ho.2.2.1 | exact ho.2.2.2 | exact pl_L12.ne (by first | exact ho | exact ho.1 | exact ho.2 | exact ho.2.1 | exact ho.2.2 | exact ho.2.2.1 | exact ho.2.2.2 | omega) (by omega) | omega)
    replace rk := rk.st st110 (fun k hk ho => by simp only [out, and_true] at ho ⊢ <;> first | exact ho | exact ho.1 | exact ho.2 | exact ho.2.1 | exact ho.2.2 | exact ho.2.2.1 | exact ho.2.2.2 | exact pl_L12.ne (by first | exact ho | exact ho.1 | exact ho.2 | exact ho.2.1 | exact ho.2.2 | exact ho.2.2.1 | exact ho.2.2.2 | omega) (by omega) | omega)
    replace lst5 := lst5.st st110 (fun k hk ho => by simp only [out, and_true] at ho ⊢ <;> first | exact ho | exact ho.1 | exact ho.2 | exact ho.2.1 | exact ho.2.2 | exact ho.2.2.1 | exact ho.2.2.2 | exact pl_L12.ne (by first | exact ho | exact ho.1 | exact ho.2 | exact ho.2.1 | exact ho.2.2 | exact ho.2.2.1 | exact ho.2.2.2 | omega) (by omega) | omega)
    have ne_g3_gL12 : g3 ≠ gL12 := pl_L12.ne ne_g3_g102 (by omega)
    replace aD := st110.same _ _ ⟨ne_g3_gL12, trivial⟩ aD
    have ne_g4_gL12 : g4 ≠ gL12 := pl_L12.ne ne_g4_g102 (by omega)
    replace aR := st110.same _ _ ⟨ne_g4_gL12, trivial⟩ aR
    have ne_gLI_gL12 : gLI ≠ gL12 := pl_L12.ne ne_gLI_g102 (by omega)
    replace aI := st110.same _ _ ⟨ne_gLI_gL12, trivial⟩ aI
    have ne_gLC_gL12 : gLC ≠ gL12 := pl_L12.ne ne_gLC_g102 (by omega)
    replace at_LC := st110.same _ _ ⟨ne_gLC_gL12, trivial⟩ at_LC
    have ne_g87_gL12 : g87 ≠ gL12 := pl_L12.ne ne_g87_g102 (by omega)
    replace at87 := st110.same _ _ ⟨ne_g87_gL12, trivial⟩ at87
    have ne_g88_gL12 : g88 ≠ gL12 := pl_L12.ne ne_g88_g102 (by omega)
    replace at88 := st110.same _ _ ⟨ne_g88_gL12, trivial⟩ at88
    have ne_g99_gL12 : g99 ≠ gL12 := pl_L12.ne ne_g99_g102 (by omega)
    replace at99 := st110.same _ _ ⟨ne_g99_gL12, trivial⟩ at99
    have ne_g100_gL12 : g100 ≠ gL12 := pl_L12.ne ne_g100_g102 (by omega)
    replace at100 := st110.same _ _ ⟨ne_g100_gL12, trivial⟩ at100
    have ne_g7_gL12 : g7 ≠ gL12 := pl_L12.ne ne_g7_g102 (by omega)
    replace at19012 := st110.same _ _ ⟨ne_g7_gL12, trivial⟩ at19012
    replace at109 := st110.same _ _ ⟨(by first | assumption | omega), trivial⟩ at109
    have lt_at110 := GHeap.ltg at110
    replace hin := base_hin.mono hle
    replace hin1 := base_hin1.mono hle
    clear hb3 c03 c13 c23 c33 c43 i13 i23 i33 i43
    have hb3 : Cat.At _ g3 0 d q := ⟨Mem.of_get aD, hin1⟩
    obtain ⟨c03, c13, c23, c33, c43, i13, i23, i33, i43⟩ := hb3.get
    refine .mv rfl (.nil (hK31 _ _ (.region (.mv rfl ?_))))
    refine .m rfl rfl rfl (.add rfl rfl rfl (by omega) (by omega)) ?_
    refine .mv rfl (.nil ?_)
    refine hKL5 ((j + 1, _, _)) _ _ ?_ ?_ ⟨rfl, rfl, rfl, rfl, rfl, rfl, rfl, rfl, trivial⟩
    ·
     refine ⟨lst5, by first | assumption | (rw [List.replicate_succ']; assumption), by first | assumption | exact ⟨.inr (by omega)⟩ | exact ⟨.inl rfl⟩, by first | omega | (simp only [List.length_append, List.length_cons, List.length_nil] <;> omega) | (rw [List.replicate_succ'] <;> (first | omega | (simp only [List.length_append, List.length_cons, List.length_nil] <;> omega))), ?_⟩
     omega
    (dsimp only; omega)
   try simp only [sps] at h105
   refine .exit ?_
   refine hK27 _ _ (.seq (fun K32 hK32 => .seq (fun K33 hK33 => .region ?_)))
   obtain rfl : j = c.src.length := by omega
   have h9 : nL12 = (sumRow c.src.length ((d.comp.getD i []).take 0)).length := by rw [length_sumRow, ln_L12]; simp
   refine .mv rfl (.nil (hK33 _ _ ?_))
   refine .block ?_
   refine .loopR (σ := Nat × Nat × Nat) [(3, some _), (4, some _), (5, some _), (6, some _), (7, some _), (11, some _)] (fun (j, gL12v6, nL12v6) => [(14, some (.int .i64 (j : Int))), (12, some (.slice (some ⟨gL12v6, 0, none⟩) nL12v6 nL12v6))]) (fun (j, gL12v6, nL12v6) H' => St [gL12] HL5 H' ∧ H'.get gL12v6 = some (.row (ints (sumRow c.src.length ((d.comp.getD i []).take j))) 2 true) ∧ PL gL12v6 gL12 HL5.next ∧ nL12v6 = (sumRow c.src.length ((d.comp.getD i []).take j)).length ∧ j ≤ d.src.length) (fun (j, gL12v6, nL12v6) => d.src.length - j) ((0, _, _)) ⟨rfl, rfl, rfl, rfl, rfl, rfl, trivial⟩ ⟨rfl, rfl, trivial⟩ ?_ ?_
   ·
    refine ⟨.refl _ _, by first | assumption | (rw [List.take_zero, sumRow_nil]; assumption), ⟨.inl rfl⟩, by first | rfl | assumption | simp | omega, ?_⟩
    omega
   rintro ⟨j, gL12v6, nL12v6⟩ HL6 ⟨lst6, at_L12v6, pl_L12v6, ln_L12v6, hI⟩ KL6 hKL6
   refine .forget (fr' := [(14, some (.int .i64 (j : Int))), (12, some (.slice (some ⟨gL12v6, 0, none⟩) nL12v6 nL12v6)), (3, some _), (4, some _), (5, some _), (6, some _), (7, some _), (11, some _)]) ⟨rfl, rfl, rfl, rfl, rfl, rfl, rfl, rfl, trivial⟩ ?_
   have ge_L12v6 : H.next ≤ gL12v6 := pl_L12v6.ge (by omega) (by omega)
   have nx_HL6 := lst6.nx
   replace hle := hle.st lst6 (fun k hk => ⟨by omega, trivial⟩)
   replace lst4 := lst4.st lst6 (fun k hk ho => by simp only [out, and_true] at ho ⊢ <;> first | exact ho | exact ho.1 | exact ho.2 | exact ho.2.1 | exact ho.2.2 | exact ho.2.2.1 | exact ho.2.2.2 | exact pl_L12.ne (by first | exact ho | exact ho.1 | exact ho.2 | exact ho.2.1 | exact ho.2.2 | exact ho.2.2.1 | exact ho.2.2.2 | omega) (by omega) | omega)
   replace rk := rk.st lst6 (fun k hk ho => by simp only [out, and_true] at ho ⊢ <;> first | exact ho | exact ho.1 | exact ho.2 | exact ho.2.1 | exact ho.2.2 | exact ho.2.2.1 | exact ho.2.2.2 | exact pl_L12.ne (by first | exact ho | exact ho.1 | exact ho.2 | exact ho.2.1 | exact ho.2.2 | exact ho.2.2.1 | exact ho.2.2.2 | omega) (by omega) | omega)
   have ne_g3_gL12 : g3 ≠ gL12 := pl_L12.ne ne_g3_g102 (by omega)
   replace aD := lst6.same _ _ ⟨ne_g3_gL12, trivial⟩ aD
   have ne_g4_gL12 : g4 ≠ gL12 := pl_L12.ne ne_g4_g102 (by omega)
   replace aR := lst6.same _ _ ⟨ne_g4_gL12, trivial⟩ aR
   have ne_gLI_gL12 : gLI ≠ gL12 := pl_L12.ne ne_gLI_g102 (by omega)
   replace aI := lst6.same _ _ ⟨ne_gLI_gL12, trivial⟩ aI
   have ne_gLC_gL12 : gLC ≠ gL12 := pl_L12.ne ne_gLC_g102 (by omega)
   replace at_LC := lst6.same _ _ ⟨ne_gLC_gL12, trivial⟩ at_LC
   have ne_g87_gL12 : g87 ≠ gL12 := pl_L12.ne ne_g87_g102 (by omega)
   replace at87 := lst6.same _ _ ⟨ne_g87_gL12, trivial⟩ at87
   have ne_g88_gL12 : g88 ≠ gL12 := pl_L12.ne ne_g88_g102 (by omega)
   replace at88 := lst6.same _ _ ⟨ne_g88_gL12, trivial⟩ at88
   have ne_g99_gL12 : g99 ≠ gL12 := pl_L12.ne ne_g99_g102 (by omega)
   replace at99 := lst6.same _ _ ⟨ne_g99_gL12, trivial⟩ at99
   have ne_g100_gL12 : g100 ≠ gL12 := pl_L12.ne ne_g100_g102 (by omega)
   replace at100 := lst6.same _ _ ⟨ne_g100_gL12, trivial⟩ at100
   have ne_g7_gL12 : g7 ≠ gL12 := pl_L12.ne ne_g7_g102 (by omega)
   replace at19012 := lst6.same _ _ ⟨ne_g7_gL12, trivial⟩ at19012
   have lt_at_L12v6 := GHeap.ltg at_L12v6
   replace hin := base_hin.mono hle
   replace hin1 := base_hin1.mono hle
   clear hb3 c03 c13 c23 c33 c43 i13 i23 i33 i43
   have hb3 : Cat.At _ g3 0 d q := ⟨Mem.of_get aD, hin1⟩
   obtain ⟨c03, c13, c23, c33, c43, i13, i23, i33, i43⟩ := hb3.get
   have hz : (sumRow c.src.length ((d.comp.getD i []).take j)).length = c.src.length + j := by rw [length_sumRow, List.length_take]; omega
   refine .seq (fun K34 hK34 => .seq (fun K35 hK35 => .region (.mv rfl (.m rfl rfl rfl (.fieldAddr fo_30_1_B rfl) ?_))))
   refine .m rfl rfl rfl (.load on_22_B rfl (by first | assumption | exact Mem.of_get aD 1 _ rfl)) ?_
   refine .m rfl rfl rfl (.len sl_22_A rfl) (.m rfl rfl rfl (.cmp rfl rfl rfl) (.nil (hK35 _ _ ?_)))
   refine .cond rfl (fun h115 => ?_) (fun h115 => ?_)
   ·
    simp only [sps] at h115
    have q4 := b10 i (by omega) j (by omega)
    have hz2 : (sumRow c.src.length ((d.comp.getD i []).take (j + 1))).length = c.src.length + (j + 1) := by rw [length_sumRow, List.length_take]; omega
    have u1 := i43.2 i (by omega)
    refine .skip ?_
    refine hK34 _ _ (.seq (fun K36 hK36 => ?_))
    refine .block ?_
    refine .seq (fun K37 hK37 => .region (.m rfl rfl rfl (.fieldAddr fo_30_4_B rfl) ?_))
    refine .m rfl rfl rfl (.load on_23_B rfl (by first | assumption | exact Mem.of_get aD 4 _ rfl)) ?_
    refine .mv rfl ?_
    refine .m rfl rfl rfl (.idxN sl_23_B (Intss.sl (by assumption)) rfl rfl (by omega)) ?_
    refine .m rfl rfl rfl (.loadR on_22_B (by assumption) rfl (by omega)) ?_
    refine .mv rfl ?_
    refine .m rfl rfl rfl (.idxN sl_22_A (by assumption) rfl rfl (by omega)) ?_
    refine .m rfl rfl rfl (.loadI on_2_A (by assumption) rfl (by omega)) ?_
    refine .mv rfl (.nil (hK37 _ _ (.seq (fun K38 hK38 => .seq (fun K39 hK39 => .region (.mv rfl (.m rfl rfl rfl (.cmp rfl rfl rfl) (.nil (hK39 _ _ ?_)))))))))
    refine .cond rfl (fun h127 => ?_) (fun h127 => ?_)
    ·
     simp only [sps] at h127
     refine .region (.mv rfl (.mv rfl ?_))
     refine .m rfl rfl rfl (.add rfl rfl rfl (by omega) (by omega)) ?_
     refine .mv rfl (.nil (hK38 _ _ (.region (.mv rfl (.mv rfl ?_)))))
     refine .r rfl rfl rfl (.litR rfl sl_22_A ze_2_E rfl rfl (by omega) (by omega) rfl rfl) ?_
     rintro _ H133 ⟨g133, rfl, le133, ge133, at133⟩
     have nx_H133 := le133.1
     replace hle := hle.trans le133
     replace lst4 := lst4.le le133
     replace rk := rk.le le133
     replace lst6 := lst6.le le133
     replace aD := le133.2 _ _ aD
     replace aR := le133.2 _ _ aR
     replace aI := le133.2 _ _ aI
     replace at_LC := le133.2 _ _ at_LC
     replace at87 := le133.2 _ _ at87
     replace at88 := le133.2 _ _ at88
     replace at99 := le133.2 _ _ at99
     replace at100 := le133.2 _ _ at100
     replace at19012 := le133.2 _ _ at19012
     replace at_L12v6 := le133.2 _ _ at_L12v6
     have lt_at133 := GHeap.ltg at133
     replace hin := base_hin.mono hle
     replace hin1 := base_hin1.mono hle
     clear hb3 c03 c13 c23 c33 c43 i13 i23 i33 i43
     have hb3 : Cat.At _ g3 0 d q := ⟨Mem.of_get aD, hin1⟩
     obtain ⟨c03, c13, c23, c33, c43, i13, i23, i33, i43⟩ := hb3.get
     clear u1
     have u1 := i43.2 i (by omega)
     refine .r rfl rfl rfl (.appendI rfl sl_22_A ze_2_E rfl by_2_E sl_22_A rfl rfl (by assumption) (by assumption) (by first | omega | (simp <;> omega)) (by omega) (by omega)) ?_
     rintro _ H134 ⟨g134, rfl, st134, ge134, at134⟩
     have nx_H134 := st134.nx
     replace hle := hle.st st134 (fun k hk => ⟨by omega, trivial⟩)
     replace lst4 := lst4.st st134 (fun k hk ho => by simp only [out, and_true] at ho ⊢ <;> first | exact ho | exact ho.1 | exact ho.2 | exact ho.2.1 | exact ho.2.2 | exact ho.2.2.1 | exact ho.2.2.2 | exact pl_L12v6.ne (by first | exact ho | exact ho.1 | exact ho.2 | exact ho.2.1 | exact ho.2.2 | exact ho.2.2.1 | exact ho.2.2.2 | exact pl_L12.ne (by first | exact ho | exact ho.1 | exact ho.2 | exact ho.2.1 | exact ho.2.2 | exact ho.2.2.1 | exact ho.2.2.2 | omega) (by omega) | omega) (by omega) | omega)
     replace rk := rk.st st134 (fun k hk ho => by simp only [out, and_true] at ho ⊢ <;> first | exact ho | exact ho.1 | exact ho.2 | exact ho.2.1 | exact ho.2.2 | exact ho.2.2.1 | exact ho.2.2.2 | exact pl_L12v6.ne (by first | exact ho | exact ho.1 | exact ho.2 | exact ho.2.1 | exact ho.2.2 | exact ho.2.2.1 | exact ho.2.2.2 | exact pl_L12.ne (by first | exact ho | exact ho.1 | exact ho.2 | exact ho.2.1 | exact ho.2.2 | exact ho.2.2.1 | exact ho.2.2.2 | omega) (by omega) | omega) (by omega) | omega)
     replace lst6 := lst6.st st134 (fun k hk ho => by simp only [out, and_true] at ho ⊢ <;> first | exact ho | exact ho.1 | exact ho.2 | exact ho.2.1 | exact ho.2.2 | exact ho.2.2.1 | exact ho.2.2.2 | exact pl_L12v6.ne (by first | exact ho | exact ho.1 | exact ho.2 | exact ho.2.1 | exact ho.2.2 | exact ho.2.2.1 | exact ho.2.2.2 | exact pl_L12.ne (by first | exact ho | exact ho.1 | exact ho.2 | exact ho.2.1 | exact ho.2.2 | exact ho.2.2.1 | exact ho.2.2.2 | omega) (by omega) | omega) (by omega) | omega)
     have ne_g3_gL12v6 : g3 ≠ gL12v6 := pl_L12v6.ne ne_g3_gL12 (by omega)
     replace aD := st134.same _ _ ⟨ne_g3_gL12v6, trivial⟩ aD
     have ne_g4_gL12v6 : g4 ≠ gL12v6 := pl_L12v6.ne ne_g4_gL12 (by omega)
     replace aR := st134.same _ _ ⟨ne_g4_gL12v6, trivial⟩ aR
     have ne_gLI_gL12v6 : gLI ≠ gL12v6 := pl_L12v6.ne ne_gLI_gL12 (by omega)
     replace aI := st134.same _ _ ⟨ne_gLI_gL12v6, trivial⟩ aI
     have ne_gLC_gL12v6 : gLC ≠ gL12v6 := pl_L12v6.ne ne_gLC_gL12 (by omega)
     replace at_LC := st134.same _ _ ⟨ne_gLC_gL12v6, trivial⟩ at_LC
     have ne_g87_gL12v6 : g87 ≠ gL12v6 := pl_L12v6.ne ne_g87_gL12 (by omega)
     replace at87 := st134.same _ _ ⟨ne_g87_gL12v6, trivial⟩ at87
     have ne_g88_gL12v6 : g88 ≠ gL12v6 := pl_L12v6.ne ne_g88_gL12 (by omega)
     replace at88 := st134.same _ _ ⟨ne_g88_gL12v6, trivial⟩ at88
     have ne_g99_gL12v6 : g99 ≠ gL12v6 := pl_L12v6.ne ne_g99_gL12 (by omega)
     replace at99 := st134.same _ _ ⟨ne_g99_gL12v6, trivial⟩ at99
     have ne_g100_gL12v6 : g100 ≠ gL12v6 := pl_L12v6.ne ne_g100_gL12 (by omega)
     replace at100 := st134.same _ _ ⟨ne_g100_gL12v6, trivial⟩ at100
     have ne_g7_gL12v6 : g7 ≠ gL12v6 := pl_L12v6.ne ne_g7_gL12 (by omega)
     replace at19012 := st134.same _ _ ⟨ne_g7_gL12v6, trivial⟩ at19012
     replace at133 := st134.same _ _ ⟨(by first | assumption | omega), trivial⟩ at133
     have lt_at134 := GHeap.ltg at134
     replace hin := base_hin.mono hle
     replace hin1 := base_hin1.mono hle
     clear hb3 c03 c13 c23 c33 c43 i13 i23 i33 i43
     have hb3 : Cat.At _ g3 0 d q := ⟨Mem.of_get aD, hin1⟩
     obtain ⟨c03, c13, c23, c33, c43, i13, i23, i33, i43⟩ := hb3.get
     clear u1
     have u1 := i43.2 i (by omega)
     refine .mv rfl (.nil (hK36 _ _ (.region (.mv rfl ?_))))
     refine .m rfl rfl rfl (.add rfl rfl rfl (by omega) (by omega)) ?_
     refine .mv rfl (.nil ?_)
     refine hKL6 ((j + 1, _, _)) _ _ ?_ ?_ ⟨rfl, rfl, rfl, rfl, rfl, rfl, rfl, rfl, trivial⟩
     ·
      refine ⟨lst6, by first | assumption | (rw [sumRow_take (by omega), if_pos (by omega)]; assumption) | (rw [sumRow_take (by omega), if_neg (by omega)]; assumption), by first | assumption | exact ⟨.inr (by omega)⟩ | exact ⟨.inl rfl⟩, by first | omega | (simp only [List.length_append, List.length_cons, List.length_nil] <;> omega), ?_⟩
      omega
     (dsimp only; omega)
    simp only [sps] at h127
    refine .skip ?_
    refine hK38 _ _ (.region (.mv rfl (.mv rfl ?_)))
    refine .r rfl rfl rfl (.litR rfl sl_22_A ze_2_E rfl rfl (by omega) (by omega) rfl rfl) ?_
    rintro _ H133x2 ⟨g133x2, rfl, le133x2, ge133x2, at133x2⟩
    have nx_H133x2 := le133x2.1
    replace hle := hle.trans le133x2
    replace lst4 := lst4.le le133x2
    replace rk := rk.le le133x2
    replace lst6 := lst6.le le133x2
    replace aD := le133x2.2 _ _ aD
    replace aR := le133x2.2 _ _ aR
    replace aI := le133x2.2 _ _ aI
    replace at_LC := le133x2.2 _ _ at_LC
    replace at87 := le133x2.2 _ _ at87
    replace at88 := le133x2.2 _ _ at88
    replace at99 := le133x2.2 _ _ at99
    replace at100 := le133x2.2 _ _ at100
    replace at19012 := le133x2.2 _ _ at19012
    replace at_L12v6 := le133x2.2 _ _ at_L12v6
    have lt_at133x2 := GHeap.ltg at133x2
    replace hin := base_hin.mono hle
    replace hin1 := base_hin1.mono hle
    clear hb3 c03 c13 c23 c33 c43 i13 i23 i33 i43
    have hb3 : Cat.At _ g3 0 d q := ⟨Mem.of_get aD, hin1⟩
    obtain ⟨c03, c13, c23, c33, c43, i13, i23, i33, i43⟩ := hb3.get
    clear u1
    have u1 := i43.2 i (by omega)
    refine .r rfl rfl rfl (.appendI rfl sl_22_A ze_2_E rfl by_2_E sl_22_A rfl rfl (by assumption) (by assumption) (by first | omega | (simp <;> omega)) (by omega) (by omega)) ?_
    rintro _ H134x2 ⟨g134x2, rfl, st134x2, ge134x2, at134x2⟩
    have nx_H134x2 := st134x2.nx
    replace hle := hle.st st134x2 (fun k hk => ⟨by omega, trivial⟩)
    replace lst4 := lst4.st st134x2 (fun k hk ho => by simp only [out, and_true] at ho ⊢ <;> first | exact ho | exact ho.1 | exact ho.2 | exact ho.2.1 | exact ho.2.2 | exact ho.2.2.1 | exact ho.2.2.2 | exact pl_L12v6.ne (by first | exact ho | exact ho.1 | exact ho.2 | exact ho.2.1 | exact ho.2.2 | exact ho.2.2.1 | exact ho.2.2.2 | exact pl_L12.ne (by first | exact ho | exact ho.1 | exact ho.2 | exact ho.2.1 | exact ho.2.2 | exact ho.2.2.1 | exact ho.2.2.2 | omega) (by omega) | omega) (by omega) | omega)
    replace rk := rk.st st134x2 (fun k hk ho => by simp only [out, and_true] at ho ⊢ <;> first | exact ho | exact ho.1 | exact ho.2 | exact ho.2.1 | exact ho.2.2 | exact ho.2.2.1 | exact ho.2.2.2 | exact pl_L12v6.ne (by first | exact ho | exact ho.1 | exact ho.2 | exact ho.2.1 | exact ho.2.2 | exact ho.2.2.1 | exact ho.2.2.2 | exact pl_L12.ne (by first | exact ho | exact ho.1 | exact ho.2 | exact ho.2.1 | exact ho.2.2 | exact ho.2.2.1 | exact ho.2.2.2 | omega) (by omega) | omega) (by omega) | omega)
    replace lst6 := lst6.st st134x2 (fun k hk ho => by simp only [out, and_true] at ho ⊢ <;> first | exact ho | exact ho.1 | exact ho.2 | exact ho.2.1 | exact ho.2.2 | exact ho.2.2.1 | exact ho.2.2.2 | exact pl_L12v6.ne (by first | exact ho | exact ho.1 | exact ho.2 | exact ho.2.1 | exact ho.2.2 | exact ho.2.2.1 | exact ho.2.2.2 | exact pl_L12.ne (by first | exact ho | exact ho.1 | exact ho.2 | exact ho.2.1 | exact ho.2.2 | exact ho.2.2.1 | exact ho.2.2.2 | omega) (by omega) | omega) (by omega) | omega)
    have ne_g3_gL12v6 : g3 ≠ gL12v6 := pl_L12v6.ne ne_g3_gL12 (by omega)
    replace aD := st134x2.same _ _ ⟨ne_g3_gL12v6, trivial⟩ aD
    have ne_g4_gL12v6 : g4 ≠ gL12v6 := pl_L12v6.ne ne_g4_gL12 (by omega)
    replace aR := st134x2.same _ _ ⟨ne_g4_gL12v6, trivial⟩ aR
    have ne_gLI_gL12v6 : gLI ≠ gL12v6 := pl_L12v6.ne ne_gLI_gL12 (by omega)
    replace aI := st134x2.same _ _ ⟨ne_gLI_gL12v6, trivial⟩ aI
    have ne_gLC_gL12v6 : gLC ≠ gL12v6 := pl_L12v6.ne ne_gLC_gL12 (by omega)
    replace at_LC := st134x2.same _ _ ⟨ne_gLC_gL12v6, trivial⟩ at_LC
    have ne_g87_gL12v6 : g87 ≠ gL12v6 := pl_L12v6.ne ne_g87_gL12 (by omega)
    replace at87 := st134x2.same _ _ ⟨ne_g87_gL12v6, trivial⟩ at87
    have ne_g88_gL12v6 : g88 ≠ gL12v6 := pl_L12v6.ne ne_g88_gL12 (by omega)
    replace at88 := st134x2.same _ _ ⟨ne_g88_gL12v6, trivial⟩ at88
    have ne_g99_gL12v6 : g99 ≠ gL12v6 := pl_L12v6.ne ne_g99_gL12 (by omega)
    replace at99 := st134x2.same _ _ ⟨ne_g99_gL12v6, trivial⟩ at99
    have ne_g100_gL12v6 : g100 ≠ gL12v6 := pl_L12v6.ne ne_g100_gL12 (by omega)
    replace at100 := st134x2.same _ _ ⟨ne_g100_gL12v6, trivial⟩ at100
    have ne_g7_gL12v6 : g7 ≠ gL12v6 := pl_L12v6.ne ne_g7_gL12 (by omega)
    replace at19012 := st134x2.same _ _ ⟨ne_g7_gL12v6, trivial⟩ at19012
    replace at133x2 := st134x2.same _ _ ⟨(by first | assumption | omega), trivial⟩ at133x2
    have lt_at134x2 := GHeap.ltg at134x2
    replace hin := base_hin.mono hle
    replace hin1 := base_hin1.mono hle
    clear hb3 c03 c13 c23 c33 c43 i13 i23 i33 i43
    have hb3 : Cat.At _ g3 0 d q := ⟨Mem.of_get aD, hin1⟩
    obtain ⟨c03, c13, c23, c33, c43, i13, i23, i33, i43⟩ := hb3.get
    clear u1
    have u1 := i43.2 i (by omega)
    refine .mv rfl (.nil (hK36 _ _ (.region (.mv rfl ?_))))
    refine .m rfl rfl rfl (.add rfl rfl rfl (by omega) (by omega)) ?_
    refine .mv rfl (.nil ?_)
    refine hKL6 ((j + 1, _, _)) _ _ ?_ ?_ ⟨rfl, rfl, rfl, rfl, rfl, rfl, rfl, rfl, trivial⟩
    ·
     refine ⟨lst6, by first | assumption | (rw [sumRow_take (by omega), if_pos (by omega)]; assumption) | (rw [sumRow_take (by omega), if_neg (by omega)]; assumption), by first | assumption | exact ⟨.inr (by omega)⟩ | exact ⟨.inl rfl⟩, by first | omega | (simp only [List.length_append, List.length_cons, List.length_nil] <;> omega), ?_⟩
     omega
    (dsimp only; omega)
   try simp only [sps] at h115
   refine .exit ?_
   refine hK32 _ _ (.region ?_)
   obtain rfl : j = d.src.length := by omega
   rw [show (d.comp.getD i []).take d.src.length = d.comp.getD i [] from List.take_of_length_le (by omega)] at at_L12v6 ln_L12v6
   obtain rfl := ln_L12v6
   refine .m rfl rfl rfl (.fieldAddr fo_30_4_B rfl) ?_
   refine .m rfl rfl rfl (.load on_23_B rfl (by first | assumption | exact Mem.of_get at19012 4 _ rfl)) ?_
   refine .mv rfl ?_
   refine .r rfl rfl rfl (.litR rfl sl_23_B ze_22_E rfl rfl (by omega) (by omega) rfl rfl) ?_
   rintro _ H138 ⟨g138, rfl, le138, ge138, at138⟩
   have nx_H138 := le138.1
   replace hle := hle.trans le138
   replace lst4 := lst4.le le138
   replace rk := rk.le le138
   replace aD := le138.2 _ _ aD
   replace aR := le138.2 _ _ aR
   replace aI := le138.2 _ _ aI
   replace at_LC := le138.2 _ _ at_LC
   replace at87 := le138.2 _ _ at87
   replace at88 := le138.2 _ _ at88
   replace at99 := le138.2 _ _ at99
   replace at100 := le138.2 _ _ at100
   replace at19012 := le138.2 _ _ at19012
   replace at_L12v6 := le138.2 _ _ at_L12v6
   have lt_at138 := GHeap.ltg at138
   replace hin := base_hin.mono hle
   replace hin1 := base_hin1.mono hle
   clear hb3 c03 c13 c23 c33 c43 i13 i23 i33 i43
   have hb3 : Cat.At _ g3 0 d q := ⟨Mem.of_get aD, hin1⟩
   obtain ⟨c03, c13, c23, c33, c43, i13, i23, i33, i43⟩ := hb3.get
   refine .r rfl rfl rfl (.appendV rfl sl_23_B ze_22_E rfl by_22_E sl_23_B rfl rfl (by assumption) (by assumption) (by first | omega | (simp <;> omega)) rfl rfl (by omega) (by omega)) ?_
   rintro _ H139 ⟨g139, rfl, st139, ge139, at139⟩
   have nx_H139 := st139.nx
   replace hle := hle.st st139 (fun k hk => ⟨by omega, trivial⟩)
   replace lst4 := lst4.st st139 (fun k hk ho => by simp only [out, and_true] at ho ⊢ <;> first | exact ho | exact ho.1 | exact ho.2 | exact ho.2.1 | exact ho.2.2 | exact ho.2.2.1 | exact ho.2.2.2 | exact pl_LC.ne (by first | exact ho | exact ho.1 | exact ho.2 | exact ho.2.1 | exact ho.2.2 | exact ho.2.2.1 | exact ho.2.2.2 | omega) (by omega) | omega)
   replace rk := rk.st st139 (fun k hk ho => by simp only [out, and_true] at ho ⊢ <;> first | exact ho | exact ho.1 | exact ho.2 | exact ho.2.1 | exact ho.2.2 | exact ho.2.2.1 | exact ho.2.2.2 | exact pl_LC.ne (by first | exact ho | exact ho.1 | exact ho.2 | exact ho.2.1 | exact ho.2.2 | exact ho.2.2.1 | exact ho.2.2.2 | omega) (by omega) | omega)
   have ne_g3_gLC : g3 ≠ gLC := pl_LC.ne ne_g3_gC (by omega)
   replace aD := st139.same _ _ ⟨ne_g3_gLC, trivial⟩ aD
   have ne_g4_gLC : g4 ≠ gLC := pl_LC.ne ne_g4_gC (by omega)
   replace aR := st139.same _ _ ⟨ne_g4_gLC, trivial⟩ aR
   have ne_gLI_gLC : gLI ≠ gLC := pl_LC.ne ne_gLI_gC (by omega)
   replace aI := st139.same _ _ ⟨ne_gLI_gLC, trivial⟩ aI
   replace at87 := st139.same _ _ ⟨(by first | assumption | omega), trivial⟩ at87
   replace at88 := st139.same _ _ ⟨(by first | assumption | omega), trivial⟩ at88
   replace at99 := st139.same _ _ ⟨(by first | assumption | omega), trivial⟩ at99
   replace at100 := st139.same _ _ ⟨(by first | assumption | omega), trivial⟩ at100
   replace at19012 := st139.same _ _ ⟨(Ne.symm ap4_5), trivial⟩ at19012
   have ne_gLC_gL12v6 : gLC ≠ gL12v6 := pl_L12v6.ne ne_gLC_gL12 (by omega)
   replace at_L12v6 := st139.same _ _ ⟨(Ne.symm ne_gLC_gL12v6), trivial⟩ at_L12v6
   replace at138 := st139.same _ _ ⟨(by first | assumption | omega), trivial⟩ at138
   have lt_at139 := GHeap.ltg at139
   replace hin := base_hin.mono hle
   replace hin1 := base_hin1.mono hle
   clear hb3 c03 c13 c23 c33 c43 i13 i23 i33 i43
   have hb3 : Cat.At _ g3 0 d q := ⟨Mem.of_get aD, hin1⟩
   obtain ⟨c03, c13, c23, c33, c43, i13, i23, i33, i43⟩ := hb3.get
   refine .m rfl rfl rfl (.fieldAddr fo_30_4_B rfl) ?_
   refine .r0 rfl rfl (.storeR rfl sz_23_E rfl rfl rfl (by assumption) (by first | exact Nat.le_of_ble_eq_true rfl | (simp; done) | (simp <;> omega))) ?_
   rintro _ H32006 ⟨rfl, st32006, at32006⟩
   have nx_H32006 := st32006.nx
   replace hle := hle.st st32006 (fun k hk => ⟨by omega, trivial⟩)
   replace lst4 := lst4.st st32006 (fun k hk ho => by simp only [out, and_true] at ho ⊢ <;> first | exact ho | exact ho.1 | exact ho.2 | exact ho.2.1 | exact ho.2.2 | exact ho.2.2.1 | exact ho.2.2.2 | omega)
   replace rk := rk.st st32006 (fun k hk ho => by simp only [out, and_true] at ho ⊢ <;> first | exact ho | exact ho.1 | exact ho.2 | exact ho.2.1 | exact ho.2.2 | exact ho.2.2.1 | exact ho.2.2.2 | omega)
   replace aD := st32006.same _ _ ⟨ne_g3_g7, trivial⟩ aD
   replace aR := st32006.same _ _ ⟨ne_g4_g7, trivial⟩ aR
   replace aI := st32006.same _ _ ⟨ne_gLI_g7, trivial⟩ aI
   replace at87 := st32006.same _ _ ⟨ne_g87_g7, trivial⟩ at87
   replace at88 := st32006.same _ _ ⟨ne_g88_g7, trivial⟩ at88
   replace at99 := st32006.same _ _ ⟨ne_g99_g7, trivial⟩ at99
   replace at100 := st32006.same _ _ ⟨ne_g100_g7, trivial⟩ at100
   have ne_g7_gL12v6 : g7 ≠ gL12v6 := pl_L12v6.ne ne_g7_gL12 (by omega)
   replace at_L12v6 := st32006.same _ _ ⟨(Ne.symm ne_g7_gL12v6), trivial⟩ at_L12v6
   replace at138 := st32006.same _ _ ⟨(by first | assumption | omega), trivial⟩ at138
   replace at139 := st32006.same _ _ ⟨(by first | assumption | omega), trivial⟩ at139
   have lt_at32006 := GHeap.ltg at32006
   replace hin := base_hin.mono hle
   replace hin1 := base_hin1.mono hle
   clear hb3 c03 c13 c23 c33 c43 i13 i23 i33 i43
   have hb3 : Cat.At _ g3 0 d q := ⟨Mem.of_get aD, hin1⟩
   obtain ⟨c03, c13, c23, c33, c43, i13, i23, i33, i43⟩ := hb3.get
   try simp only [Nat.zero_add, List.set_cons_succ, List.set_cons_zero] at at32006
   refine .nil (hK23 _ _ (.region (.mv rfl ?_)))
   refine .m rfl rfl rfl (.add rfl rfl rfl (by omega) (by omega)) ?_
   refine .mv rfl (.nil ?_)
   refine hKL4 ((i + 1, upd r3 (c.sumL d ++ (d.comp.take i).map (sumRow c.src.length)).length (some ⟨gL12v6, 0, none⟩), g88, g100, g139)) _ _ ?_ ?_ ⟨rfl, rfl, rfl, rfl, rfl, rfl, trivial⟩
   ·
    refine ⟨lst4, by first | assumption | (rw [take_map_snoc (d := 0) (by omega), ← List.append_assoc]; assumption) | (rw [take_map_snoc (d := []) (by omega), ← List.append_assoc, slsL_snoc]; assumption), by first | assumption | exact ⟨.inr (by omega)⟩ | exact ⟨.inl rfl⟩, by first | assumption | (rw [take_map_snoc (d := 0) (by omega), ← List.append_assoc]; assumption) | (rw [take_map_snoc (d := []) (by omega), ← List.append_assoc, slsL_snoc]; assumption), by first | assumption | exact ⟨.inr (by omega)⟩ | exact ⟨.inl rfl⟩, by first | assumption | (rw [take_map_snoc (d := 0) (by omega), ← List.append_assoc]; assumption) | (rw [take_map_snoc (d := []) (by omega), ← List.append_assoc, slsL_snoc]; assumption), by first | assumption | exact ⟨.inr (by omega)⟩ | exact ⟨.inl rfl⟩, by first | assumption | (rw [take_map_snoc (d := 0) (by omega), ← List.append_assoc]; assumption) | (rw [take_map_snoc (d := []) (by omega), ← List.append_assoc, slsL_snoc]; assumption), by first | assumption | omega, by first | assumption | omega, by first | assumption | omega, by first | assumption | omega, by first | assumption | omega, by first | assumption | omega, ?_⟩
    have hg9 : g102 ≤ gL12v6 := pl_L12v6.ge (pl_L12.ge (Nat.le_refl _) (by omega)) (by omega)
    have hR' := hR.st rk (.cons hF (.cons hT (.cons (hR.neT hatC rfl) (.cons (hR.neT hat7 rfl) (.nil _ _)))))
    have hn1 := hR.ne (g := gL12v6) (by omega)
    have hn2 := hR.ne (g := g88) (by omega)
    have hn3 := hR.ne (g := g100) (by omega)
    have hrow := at_L12v6
    rw [take_map_snoc (d := []) (by omega), ← List.append_assoc]
    exact ⟨by omega, hR'.snoc2 hrow hn1 (by omega), ne_snoc hn2 (by omega), ne_snoc hn3 (by omega), ne_snoc hId (by omega)⟩
   (dsimp only; omega)
  try simp only [sps] at h75
  refine .exit ?_
  refine hK19 _ _ (.seq (fun K40 hK40 => .region ?_))
  obtain rfl : i = d.src.length := by omega
  rw [List.take_length] at at_LF
  rw [show d.tgt.take d.src.length = d.tgt from List.take_of_length_le (by omega)] at at_LT
  rw [show d.comp.take d.src.length = d.comp from List.take_of_length_le (by omega)] at at_LC hR hF hT hId
  refine .m rfl rfl rfl (.loadM ag_30_D rfl ⟨rfl, Mem.of_get at_Lg7⟩) ?_
  have hat4 := aR
  refine .r0 rfl rfl (.fillR rfl sz_30_D rfl rfl rfl rfl (by assumption) (by first | rfl | exact Nat.le_of_ble_eq_true rfl | simp)) ?_
  rintro _ H33001 ⟨rfl, st33001, at33001⟩
  have nx_H33001 := st33001.nx
  replace hle := hle.st st33001 (fun k hk => ⟨by omega, trivial⟩)
  replace aD := st33001.same _ _ ⟨(by first | assumption | omega), trivial⟩ aD
  have ne_gLI_g4 : gLI ≠ g4 := by first | assumption | omega
  replace aI := st33001.same _ _ ⟨ne_gLI_g4, trivial⟩ aI
  have ne_g4_gLF : g4 ≠ gLF := pl_LF.ne ne_g4_gF (by omega)
  replace at_LF := st33001.same _ _ ⟨(Ne.symm ne_g4_gLF), trivial⟩ at_LF
  have ne_g4_gLT : g4 ≠ gLT := pl_LT.ne ne_g4_gT (by omega)
  replace at_LT := st33001.same _ _ ⟨(Ne.symm ne_g4_gLT), trivial⟩ at_LT
  have ne_g4_gLC : g4 ≠ gLC := pl_LC.ne ne_g4_gC (by omega)
  replace at_LC := st33001.same _ _ ⟨(Ne.symm ne_g4_gLC), trivial⟩ at_LC
  replace at_Lg7 := st33001.same _ _ ⟨(Ne.symm ne_g4_g7), trivial⟩ at_Lg7
  have lt_at33001 := GHeap.ltg at33001
  replace hin := base_hin.mono hle
  replace hin1 := base_hin1.mono hle
  clear hb3 c03 c13 c23 c33 c43 i13 i23 i33 i43
  have hb3 : Cat.At _ g3 0 d q := ⟨Mem.of_get aD, hin1⟩
  obtain ⟨c03, c13, c23, c33, c43, i13, i23, i33, i43⟩ := hb3.get
  refine .nil (hK40 _ _ ?_)
  refine .ret ?_
  refine hret _ _ ?_
  refine ⟨_, _, _, _, rfl, ag_30_D, (by rfl), (Mem.of_get at33001), ?_⟩
  exact ⟨hle, gLF, gLT, gLI, gLC, r3, by simp [Cat.cells, Cat.sum, ownP, Cat.sumL, b3, b8, show d.idn.length = d.obj.toNat by omega], ⟨at_LF, at_LT, aI, at_LC, ge_LF, ge_LT, ge_LI, ge_LC, by assumption, Ne.symm nFI, Ne.symm nTI, hR.st st33001 (.cons (hR.neT hat4 rfl) (.nil _ _)), hF, hT, hId⟩⟩
end Go.Proofs.Ytdjodpdmbklfhaa
namespace Go.Proofs.Ytdjodpdmbklfhaa
open Go Go.GL Go.RowKit Go.Proofs
theorem l09Find_c {a b : Option Addr} {xss : List (List Int)} {r : Nat → Option Addr} {t : List Int} {H : GHeap} (h : Intss H a xss r := by assumption) (ht : Ints H b t := by assumption) (hl : xss.length ≤ 1048576 := by omega) (hl2 : ∀ i, (xss.getD i []).length ≤ 1048576) (htl : t.length ≤ 1048576 := by omega) :
    GCalls Try.prog 74 [.slice a xss.length xss.length, .slice b t.length t.length] H (Ret (.int .i64 (idxLL xss t)) H) := by
  refine GCalls.ret rfl ?_
  refine GCalls.body (N := 19) (rs := [.tmp 4]) Try.func74 rfl rfl rfl rfl (fun Qx hret hend => ?_)
  refine .forget (fr' := [(0, some _), (1, some _)]) ⟨rfl, rfl, trivial⟩ ?_
  have hle := GHeap.Le.refl H
  have base_h := h
  have base_ht := ht
  refine .seq (fun K1 hK1 => .region (.mv rfl (.nil (hK1 _ _ (.seq (fun K2 hK2 => .seq (fun K3 hK3 => .region (.mv rfl (.nil (hK3 _ _ ?_))))))))))
  refine .block ?_
  refine .loopR (σ := Nat) [(0, some _), (1, some _)] (fun k => [(5, some (.int .i64 (k : Int)))]) (fun k H' => St [] H H' ∧ k ≤ xss.length ∧ ∀ j, j < k → ¬ xss.getD j [] = t) (fun k => xss.length - k) (0) ⟨rfl, rfl, trivial⟩ ⟨rfl, trivial⟩ ?_ ?_
  ·
   refine ⟨.refl _ _, ?_⟩
   exact ⟨by omega, fun _ _ => by omega⟩
  rintro k HL1 ⟨lst1, hI⟩ KL1 hKL1
  refine .forget (fr' := [(5, some (.int .i64 (k : Int))), (0, some _), (1, some _)]) ⟨rfl, rfl, rfl, trivial⟩ ?_
  have nx_HL1 := lst1.nx
  replace hle := hle.st lst1 (fun k hk => trivial)
  replace h := base_h.mono hle
  replace ht := base_ht.mono hle
  obtain ⟨hi, ha⟩ := hI
  refine .seq (fun K4 hK4 => .seq (fun K5 hK5 => .region (.mv rfl (.mv rfl (.m rfl rfl rfl (.len sl_23_B rfl) (.m rfl rfl rfl (.cmp rfl rfl rfl) (.nil (hK5 _ _ ?_))))))))
  refine .cond rfl (fun h9 => ?_) (fun h9 => ?_)
  ·
   simp only [sps] at h9
   have q1 := hl2 k
   have u1 := h.2 k (by omega)
   refine .skip ?_
   refine hK4 _ _ (.seq (fun K6 hK6 => ?_))
   refine .block ?_
   refine .seq (fun K7 hK7 => .region (.mv rfl (.mv rfl ?_)))
   refine .m rfl rfl rfl (.idxN sl_23_B (Intss.sl (by assumption)) rfl rfl (by omega)) ?_
   refine .m rfl rfl rfl (.loadR on_22_B (by assumption) rfl (by omega)) ?_
   refine .mv rfl ?_
   refine .callQ rfl rfl rfl rfl @Try.call105 rfl (l01Same_c) ?_
   refine .nil (hK7 _ _ ?_)
   refine .cond rfl (fun h17 => ?_) (fun h17 => ?_)
   ·
    simp only [sps] at h17
    refine .seq (fun K8 hK8 => .region (.mv rfl (.mv rfl (.nil (hK8 _ _ ?_)))))
    refine .ret ?_
    refine hret _ _ ?_
    refine ⟨_, rfl, ?_⟩
    exact ⟨by rw [idxLL_some (by omega) h17 ha], hle⟩
   simp only [sps] at h17
   refine .skip ?_
   refine hK6 _ _ (.region (.mv rfl ?_))
   refine .m rfl rfl rfl (.add rfl rfl rfl (by omega) (by omega)) ?_
   refine .mv rfl (.nil ?_)
   refine hKL1 (k + 1) _ _ ?_ ?_ ⟨rfl, rfl, rfl, trivial⟩
   ·
    refine ⟨lst1, ?_⟩
    refine ⟨by omega, fun j hj => ?_⟩
    by_cases e : j < k
    · exact ha j e
    · obtain rfl : j = k := by omega
      exact h17
   omega
  try simp only [sps] at h9
  refine .exit ?_
  refine hK2 _ _ (.seq (fun K9 hK9 => .region (.mv rfl (.nil (hK9 _ _ ?_)))))
  refine .ret ?_
  refine hret _ _ ?_
  refine ⟨_, rfl, ?_⟩
  obtain rfl : k = xss.length := by omega
  exact ⟨by rw [idxLL_none ha], hle⟩
end Go.Proofs.Ytdjodpdmbklfhaa
