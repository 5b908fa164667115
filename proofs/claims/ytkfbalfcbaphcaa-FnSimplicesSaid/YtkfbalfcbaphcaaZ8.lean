/- What gathers lists: two ways. No condition. -/
import Derived.Test.YtkfbalfcbaphcaaZ7
namespace Go.GL
structure GathL (T1 T2 e : TypeId) (go gm most : Nat) (Tm : TypeId) (b : Nat) (fs : List (List Int)) (gF : Nat) (H : GHeap) : Prop where
  hd : H.get go = some (.row [.slice (some ⟨gF, 0, none⟩) fs.length fs.length] T1 true)
  most : H.get gm = some (.row [.int .i64 (most : Int)] Tm true)
  rows : ∃ r, H.get gF = some (.row (slsL r fs) T2 true) ∧ OwnL b H e r fs
theorem GathL.le {T1 T2 e : TypeId} {go gm most : Nat} {Tm : TypeId} {b : Nat} {fs : List (List Int)} {gF : Nat} {H H' : GHeap} (h : GathL T1 T2 e go gm most Tm b fs gF H) (s : H.Le H') : GathL T1 T2 e go gm most Tm b fs gF H' := by
  obtain ⟨r, h1, h2⟩ := h.rows
  exact ⟨s.2 _ _ h.hd, s.2 _ _ h.most, r, s.2 _ _ h1, h2.mono s⟩
theorem GathL.st {T1 T2 e : TypeId} {go gm most : Nat} {Tm : TypeId} {b : Nat} {fs : List (List Int)} {gF gc : Nat} {H H' : GHeap} (h : GathL T1 T2 e go gm most Tm b fs gF H) (s : St [gc] H H') (h1 : go ≠ gc) (h2 : gm ≠ gc) (h3 : gc ≠ gF) (h4 : gc < b) : GathL T1 T2 e go gm most Tm b fs gF H' := by
  obtain ⟨r, k1, k2⟩ := h.rows
  exact ⟨s.same _ _ ⟨h1, trivial⟩ h.hd, s.same _ _ ⟨h2, trivial⟩ h.most, r, s.same _ _ ⟨Ne.symm h3, trivial⟩ k1, k2.st s (.cons (k2.lowNe h4) (.nil _ _))⟩
theorem row_ne {H : GHeap} {g g' : Nat} {cs cs' : List Value} {e e' : TypeId} (h : H.get g = some (.row cs e true)) (h' : H.get g' = some (.row cs' e' true)) (hne : (e != e') = true) : g ≠ g' := fun ei => by
  subst ei
  rw [h] at h'
  cases h'
  simp at hne
structure GathI (T e : TypeId) (go : Nat) (b : Nat) (fs : List (List Int)) (gF : Nat) (H : GHeap) : Prop where
  ex : ∃ x, (fs = [] ∧ x = [] ∨ fs = [x]) ∧ H.get go = some (.row [.slice (some ⟨gF, 0, none⟩) x.length x.length] T true) ∧ H.get gF = some (.row (ints x) e true)
theorem GathI.le {T e : TypeId} {go b : Nat} {fs : List (List Int)} {gF : Nat} {H H' : GHeap} (h : GathI T e go b fs gF H) (s : H.Le H') : GathI T e go b fs gF H' := by
  obtain ⟨x, h1, h2, h3⟩ := h.ex
  exact ⟨x, h1, s.2 _ _ h2, s.2 _ _ h3⟩
theorem GathI.st {T e : TypeId} {go b : Nat} {fs : List (List Int)} {gF gc : Nat} {H H' : GHeap} (h : GathI T e go b fs gF H) (s : St [gc] H H') (h1 : go ≠ gc) (h3 : gc ≠ gF) : GathI T e go b fs gF H' := by
  obtain ⟨x, k1, k2, k3⟩ := h.ex
  exact ⟨x, k1, s.same _ _ ⟨h1, trivial⟩ k2, s.same _ _ ⟨Ne.symm h3, trivial⟩ k3⟩
end Go.GL
namespace Go.GL
theorem nest3_len {α : Type} {pr : Nat → Nat → Nat → α} {s1 : Nat → Nat} {s2 : Nat → Nat → Nat} {k t : Nat} : ∀ {u}, (nest3 pr s1 s2 k t u).length = (nest3 pr s1 s2 k t 0).length + u
  | 0 => rfl
  | u + 1 => by rw [nest3_snoc, List.length_append, nest3_len (u := u)]; simp; omega
theorem nest3_pre3 {α : Type} {pr : Nat → Nat → Nat → α} {s1 : Nat → Nat} {s2 : Nat → Nat → Nat} {k t u : Nat} : ∀ j, nest3 pr s1 s2 k t u <+: nest3 pr s1 s2 k t (u + j)
  | 0 => List.prefix_refl _
  | j + 1 => by rw [← Nat.add_assoc, nest3_snoc]; exact (nest3_pre3 j).trans (List.prefix_append _ _)
theorem nest3_pre2 {α : Type} {pr : Nat → Nat → Nat → α} {s1 : Nat → Nat} {s2 : Nat → Nat → Nat} {k t : Nat} : ∀ j, nest3 pr s1 s2 k t 0 <+: nest3 pr s1 s2 k (t + j) 0
  | 0 => List.prefix_refl _
  | j + 1 => by
    rw [← Nat.add_assoc, nest3_next2]
    have := nest3_pre3 (pr := pr) (s1 := s1) (s2 := s2) (k := k) (t := t + j) (u := 0) (s2 k (t + j))
    rw [Nat.zero_add] at this
    exact (nest3_pre2 j).trans this
theorem nest3_pre1 {α : Type} {pr : Nat → Nat → Nat → α} {s1 : Nat → Nat} {s2 : Nat → Nat → Nat} {k : Nat} : ∀ j, nest3 pr s1 s2 k 0 0 <+: nest3 pr s1 s2 (k + j) 0 0
  | 0 => List.prefix_refl _
  | j + 1 => by
    rw [← Nat.add_assoc, nest3_next1]
    have := nest3_pre2 (pr := pr) (s1 := s1) (s2 := s2) (k := k + j) (t := 0) (s1 (k + j))
    rw [Nat.zero_add] at this
    exact (nest3_pre1 j).trans this
theorem nest3_preR {α : Type} {pr : Nat → Nat → Nat → α} {s1 : Nat → Nat} {s2 : Nat → Nat → Nat} {n k t : Nat} (hk : k < n) (ht : t ≤ s1 k) : nest3 pr s1 s2 k t 0 <+: nest3 pr s1 s2 n 0 0 := by
  have h2 := nest3_pre2 (pr := pr) (s1 := s1) (s2 := s2) (k := k) (t := t) (s1 k - t)
  rw [show t + (s1 k - t) = s1 k by omega, ← nest3_next1] at h2
  have h3 := nest3_pre1 (pr := pr) (s1 := s1) (s2 := s2) (k := k + 1) (n - (k + 1))
  rw [show k + 1 + (n - (k + 1)) = n by omega] at h3
  exact h2.trans h3
theorem nest3_pre {α : Type} {pr : Nat → Nat → Nat → α} {s1 : Nat → Nat} {s2 : Nat → Nat → Nat} {n k t u : Nat} (hk : k < n) (ht : t < s1 k) (hu : u ≤ s2 k t) : nest3 pr s1 s2 k t u <+: nest3 pr s1 s2 n 0 0 := by
  have h1 := nest3_pre3 (pr := pr) (s1 := s1) (s2 := s2) (k := k) (t := t) (u := u) (s2 k t - u)
  rw [show u + (s2 k t - u) = s2 k t by omega, ← nest3_next2] at h1
  exact h1.trans (nest3_preR hk ht)
theorem nest3_at {α : Type} {pr : Nat → Nat → Nat → α} {s1 : Nat → Nat} {s2 : Nat → Nat → Nat} {n k t u : Nat} {d : α} (hk : k < n) (ht : t < s1 k) (hu : u < s2 k t) : (nest3 pr s1 s2 k t u).length < (nest3 pr s1 s2 n 0 0).length ∧ (nest3 pr s1 s2 n 0 0).getD (nest3 pr s1 s2 k t u).length d = pr k t u := by
  obtain ⟨r, hr⟩ := nest3_pre (pr := pr) (s1 := s1) (s2 := s2) (n := n) (u := u + 1) hk ht hu
  rw [← hr, nest3_snoc]
  refine ⟨by simp, ?_⟩
  rw [List.getD_eq_getElem?_getD, List.append_assoc, List.getElem?_append_right (Nat.le_refl _)]
  simp
theorem getD_append_l {α : Type} {xs ys : List α} {i : Nat} {d : α} (h : i < xs.length) : (xs ++ ys).getD i d = xs.getD i d := by
  rw [List.getD_eq_getElem?_getD, List.getElem?_append_left h, ← List.getD_eq_getElem?_getD]
theorem getD_append_r {α : Type} {xs ys : List α} {i : Nat} {d : α} (h : xs.length ≤ i) : (xs ++ ys).getD i d = ys.getD (i - xs.length) d := by
  rw [List.getD_eq_getElem?_getD, List.getElem?_append_right h, ← List.getD_eq_getElem?_getD]
theorem getD_map {α β : Type} {f : α → β} {xs : List α} {i : Nat} {d : α} {e : β} (h : i < xs.length) : (xs.map f).getD i e = f (xs.getD i d) := by
  rw [List.getD_eq_getElem?_getD, List.getElem?_map, List.getElem?_eq_getElem h, List.getD_eq_getElem?_getD, List.getElem?_eq_getElem h]; rfl
theorem getD_set2 {xss : List (List Int)} {i j : Nat} {ys : List Int} (h : i < xss.length) : (xss.set i ys).getD j [] = if i = j then ys else xss.getD j [] := by
  rw [List.getD_eq_getElem?_getD, List.getElem?_set]
  by_cases e : i = j
  · subst e; rw [if_pos rfl, if_pos rfl, if_pos h]; rfl
  · rw [if_neg e, if_neg e, ← List.getD_eq_getElem?_getD]
theorem OwnL.app {b gi g' i : Nat} {H H1 : GHeap} {e : TypeId} {r : Nat → Option Addr} {xss : List (List Int)} {ys : List Int} (h : OwnL b H e r xss) (s : St [gi] H H1) (hi : i < xss.length) (hr : r i = some ⟨gi, 0, none⟩) (hg : H1.get g' = some (.row (ints ys) e true)) (hn : H.next ≤ g') (hb : b ≤ g') :
    OwnL b H1 e (upd r i (some ⟨g', 0, none⟩)) (xss.set i ys) := by
  unfold OwnL
  rw [List.length_set]
  have old : ∀ j, j < xss.length → j ≠ i → ∃ x, r j = some ⟨x, 0, none⟩ ∧ b ≤ x ∧ x < H.next ∧ H1.get x = some (.row (ints (xss.getD j [])) e true) := fun j hj hne => by
    obtain ⟨x, h1, h2, h3⟩ := h.row j hj
    exact ⟨x, h1, h2, GHeap.ltg h3, s.same x _ ⟨fun ex => by subst ex; exact hne (h.inj j i hj hi (by rw [hr, h1])), trivial⟩ h3⟩
  refine ⟨fun j hj => ?_, fun j k hj hk hjk => ?_⟩
  · rw [getD_set2 hi]
    by_cases ej : j = i
    · subst ej
      exact ⟨g', upd_eq _ _ _, hb, by rw [if_pos rfl]; exact hg⟩
    · obtain ⟨x, h1, h2, _, h4⟩ := old j hj ej
      exact ⟨x, by rw [upd_ne ej]; exact h1, h2, by rw [if_neg (Ne.symm ej)]; exact h4⟩
  · by_cases ej : j = i
    · by_cases ek : k = i
      · omega
      · obtain ⟨x, h1, _, h3, _⟩ := old k hk ek
        rw [ej, upd_eq, upd_ne ek, h1] at hjk
        cases hjk
        omega
    · obtain ⟨x, h1, _, h3, _⟩ := old j hj ej
      by_cases ek : k = i
      · rw [ek, upd_eq, upd_ne ej, h1] at hjk
        cases hjk
        omega
      · rw [upd_ne ej, upd_ne ek] at hjk
        exact h.inj j k hj hk hjk
theorem slsL_set {r : Nat → Option Addr} {xss : List (List Int)} {i n : Nat} {a : Option Addr} {ys : List Int} (_ : i < xss.length) (hn : n = ys.length) : (slsL r xss).set i (.slice a n n) = slsL (upd r i a) (xss.set i ys) := by
  subst hn
  unfold slsL slsOf
  apply List.ext_getElem (by simp)
  intro j h1 h2
  simp only [List.length_set, List.length_map, List.length_range] at h1
  simp only [List.getElem_set, List.getElem_map, List.getElem_range]
  by_cases e : i = j
  · subst e
    rw [if_pos rfl, upd_eq, getD_set2 h1, if_pos rfl]
  · rw [if_neg e, upd_ne (Ne.symm e), getD_set2 (by omega), if_neg e]
theorem slsL_cell {r : Nat → Option Addr} {xss : List (List Int)} {H : GHeap} {g i : Nat} {e : TypeId} {own : Bool} (h : H.get g = some (.row (slsL r xss) e own)) (hi : i < xss.length) : H.cell g (0 + i) = some (.slice (r i) (xss.getD i []).length (xss.getD i []).length) := by
  rw [GHeap.cell_of h, Nat.zero_add]
  simp [slsL, slsOf, hi]
theorem ne_upd {g g' i n : Nat} {r : Nat → Option Addr} (h : ∀ j, j < n → r j ≠ some ⟨g, 0, none⟩) (hg : g' ≠ g) : ∀ j, j < n → upd r i (some ⟨g', 0, none⟩) j ≠ some ⟨g, 0, none⟩ := fun j hj => by
  by_cases e : j = i
  · subst e
    rw [upd_eq]
    intro e
    cases e
    exact hg rfl
  · rw [upd_ne e]
    exact h j hj
structure OwnCat (eI eS : TypeId) (b : Nat) (H : GHeap) (c : Cat) (g1 g2 g3 g4 : Nat) (rr : Nat → Option Addr) : Prop where
  a1 : H.get g1 = some (.row (ints c.src) eI true)
  a2 : H.get g2 = some (.row (ints c.tgt) eI true)
  a3 : H.get g3 = some (.row (ints c.idn) eI true)
  a4 : H.get g4 = some (.row (slsL rr c.comp) eS true)
  b1 : b ≤ g1
  b2 : b ≤ g2
  b3 : b ≤ g3
  b4 : b ≤ g4
  n12 : g1 ≠ g2
  n13 : g1 ≠ g3
  n23 : g2 ≠ g3
  rows : OwnL b H eI rr c.comp
  r1 : ∀ i, i < c.comp.length → rr i ≠ some ⟨g1, 0, none⟩
  r2 : ∀ i, i < c.comp.length → rr i ≠ some ⟨g2, 0, none⟩
  r3 : ∀ i, i < c.comp.length → rr i ≠ some ⟨g3, 0, none⟩
def ownP (g1 g2 g3 g4 : Nat) (rr : Nat → Option Addr) : CatP := ⟨some ⟨g1, 0, none⟩, some ⟨g2, 0, none⟩, some ⟨g3, 0, none⟩, some ⟨g4, 0, none⟩, rr⟩
theorem OwnCat.catR {eI eS : TypeId} {b : Nat} {H : GHeap} {c : Cat} {g1 g2 g3 g4 : Nat} {rr : Nat → Option Addr} (h : OwnCat eI eS b H c g1 g2 g3 g4 rr) : CatR b H c (ownP g1 g2 g3 g4 rr) :=
  .mk (.of_at h.a1 h.b1) (.of_at h.a2 h.b2) (.of_at h.a3 h.b3) (h.rows.done h.a4 h.b4) (.inr rfl) (.inr rfl) (.inr rfl) h.n12 h.n13 h.n23 (fun i hi => ⟨h.r1 i hi, h.r2 i hi, h.r3 i hi⟩)
def NewCatO (eI eS : TypeId) (H : GHeap) (c : Cat) (v : Value) (H' : GHeap) : Prop := H.Le H' ∧ ∃ g1 g2 g3 g4 rr, v = .agg (c.cells (ownP g1 g2 g3 g4 rr)).toArray ∧ OwnCat eI eS H.next H' c g1 g2 g3 g4 rr
structure Cat.Rect (c : Cat) (N : Nat) : Prop where
  obj : 0 ≤ c.obj ∧ c.obj ≤ N
  n : c.src.length ≤ N
  tl : c.tgt.length = c.src.length
  src : ∀ i, i < c.src.length → 0 ≤ c.src.getD i 0 ∧ c.src.getD i 0 ≤ N
  tgt : ∀ i, i < c.tgt.length → 0 ≤ c.tgt.getD i 0 ∧ c.tgt.getD i 0 ≤ N
  il : (c.idn.length : Int) = c.obj
  idn : ∀ i, i < c.idn.length → 0 ≤ c.idn.getD i 0 ∧ c.idn.getD i 0 ≤ N
  cl : c.comp.length = c.src.length
  row : ∀ f, f < c.comp.length → (c.comp.getD f []).length = c.src.length
  cell : ∀ f, f < c.comp.length → ∀ g, g < c.src.length → -(N : Int) - 1 ≤ (c.comp.getD f []).getD g 0 ∧ (c.comp.getD f []).getD g 0 ≤ N
theorem Cat.Rect.small {c : Cat} {N : Nat} (h : c.Rect N) (hN : N ≤ 1048576) : c.Small := by
  obtain ⟨h1, h2, h3, h4, h5, h6, h7, h8, h9, h10⟩ := h
  refine ⟨by omega, by omega, by omega, by omega, fun i => ?_, by omega, by omega⟩
  by_cases hi : i < c.comp.length
  · have := h9 i hi; omega
  · rw [List.getD_eq_getElem?_getD, List.getElem?_eq_none (by omega)]; simp
def sumRow (n : Nat) (row : List Int) : List Int := List.replicate n (-1) ++ row.map fun h => if 0 ≤ h then h + (n : Int) else h
def Cat.sumL (c d : Cat) : List (List Int) := c.comp.map (· ++ List.replicate d.src.length (-1))
def Cat.sum (c d : Cat) : Cat where
  obj := c.obj + d.obj
  src := c.src ++ d.src.map (· + c.obj)
  tgt := c.tgt ++ d.tgt.map (· + c.obj)
  idn := c.idn ++ d.idn.map (· + (c.src.length : Int))
  comp := c.sumL d ++ d.comp.map (sumRow c.src.length)
def extL (xss : List (List Int)) (k f j : Nat) : List (List Int) := (List.range xss.length).map fun i => xss.getD i [] ++ List.replicate (if i < f then k else if i = f then j else 0) (-1)
@[simp] theorem length_extL (xss : List (List Int)) (k f j : Nat) : (extL xss k f j).length = xss.length := by simp [extL]
theorem extL_get {xss : List (List Int)} {k f j i : Nat} (h : i < xss.length) : (extL xss k f j).getD i [] = xss.getD i [] ++ List.replicate (if i < f then k else if i = f then j else 0) (-1) := by simp [extL, List.getD_eq_getElem?_getD, h]
theorem extL_zero (xss : List (List Int)) (k : Nat) : extL xss k 0 0 = xss := by
  refine eq_of_getD2 (by simp) fun i hi => ?_
  rw [length_extL] at hi
  rw [extL_get hi]
  simp
theorem extL_succ {xss : List (List Int)} {k f j : Nat} (h : f < xss.length) : extL xss k f (j + 1) = (extL xss k f j).set f ((extL xss k f j).getD f [] ++ [-1]) := by
  refine eq_of_getD2 (by simp) fun i hi => ?_
  rw [length_extL] at hi
  rw [getD_set2 (by simpa using h), extL_get hi, extL_get h]
  by_cases e : f = i
  · subst e
    rw [if_pos rfl, if_neg (by omega), if_pos rfl, if_neg (by omega), if_pos rfl, List.replicate_succ', List.append_assoc]
  · rw [if_neg e, extL_get hi]
    by_cases e2 : i < f
    · rw [if_pos e2, if_pos e2]
    · rw [if_neg e2, if_neg e2, if_neg (Ne.symm e), if_neg (Ne.symm e)]
theorem extL_next {xss : List (List Int)} {k f : Nat} : extL xss k f k = extL xss k (f + 1) 0 := by
  refine eq_of_getD2 (by simp) fun i hi => ?_
  rw [length_extL] at hi
  rw [extL_get hi, extL_get hi]
  congr 2
  by_cases e : i < f
  · rw [if_pos e, if_pos (by omega)]
  · rw [if_neg e]
    by_cases e2 : i = f
    · rw [if_pos e2, if_pos (by omega)]
    · rw [if_neg e2, if_neg (by omega)]
      split <;> rfl
theorem Cat.extL_all {c d : Cat} : extL c.comp d.src.length c.comp.length 0 = c.sumL d := by
  refine eq_of_getD2 (by simp [Cat.sumL]) fun i hi => ?_
  rw [length_extL] at hi
  unfold Cat.sumL
  rw [extL_get hi, if_pos hi, getD_map (d := []) hi]
theorem extL_len {xss : List (List Int)} {k f j i : Nat} (hj : j ≤ k) (h : i < xss.length) : ((extL xss k f j).getD i []).length ≤ (xss.getD i []).length + k := by
  rw [extL_get h, List.length_append, List.length_replicate]
  split
  · omega
  · split <;> omega
theorem sumRow_take {n : Nat} {row : List Int} {j : Nat} (h : j < row.length) : sumRow n (row.take (j + 1)) = sumRow n (row.take j) ++ [if 0 ≤ row.getD j 0 then row.getD j 0 + (n : Int) else row.getD j 0] := by
  unfold sumRow
  rw [take_map_snoc (d := 0) h, List.append_assoc]
theorem length_sumRow (n : Nat) (row : List Int) : (sumRow n row).length = n + row.length := by simp [sumRow]
theorem sumRow_nil (n : Nat) : sumRow n [] = List.replicate n (-1) := by simp [sumRow]
structure SumSt (eI eS eT : TypeId) (H0 H : GHeap) (c d : Cat) (q : CatP) (gd gR gS gF gT gI gC : Nat) (zs : List Value) (rr : Nat → Option Addr) (f j : Nat) : Prop where
  hle : H0.Le H
  gc : H0.next ≤ gC
  ad : H.get gd = some (.row (d.cells q) eT true)
  aR : H.get gR = some (.row zs eT true)
  aS : H.get gS = some (.row [.int .i64 (c.obj + d.obj), .slice (some ⟨gF, 0, none⟩) c.src.length c.src.length, .slice (some ⟨gT, 0, none⟩) c.tgt.length c.tgt.length, .slice (some ⟨gI, 0, none⟩) (c.idn.length + d.obj.toNat) (c.idn.length + d.obj.toNat), .slice (some ⟨gC, 0, none⟩) c.comp.length c.comp.length] eT true)
  aF : H.get gF = some (.row (ints c.src) eI true)
  aT : H.get gT = some (.row (ints c.tgt) eI true)
  aI : H.get gI = some (.row (ints (c.sum d).idn) eI true)
  aC : H.get gC = some (.row (slsL rr (extL c.comp d.src.length f j)) eS true)
  rows : OwnL H0.next H eI rr (extL c.comp d.src.length f j)
  r1 : ∀ i, i < c.comp.length → rr i ≠ some ⟨gF, 0, none⟩
  r2 : ∀ i, i < c.comp.length → rr i ≠ some ⟨gT, 0, none⟩
  r3 : ∀ i, i < c.comp.length → rr i ≠ some ⟨gI, 0, none⟩
theorem SumSt.app {eI eS eT : TypeId} {H0 H Ha Hb Hc : GHeap} {c d : Cat} {q : CatP} {gd gR gS gF gT gI gC gi g' n : Nat} {zs : List Value} {rr : Nat → Option Addr} {f j : Nat} (h : SumSt eI eS eT H0 H c d q gd gR gS gF gT gI gC zs rr f j) (t1 : (eI != eS) = true) (t2 : (eI != eT) = true) (t3 : (eS != eT) = true) (hf : f < c.comp.length) (hgi : H.get gi = some (.row (ints ((extL c.comp d.src.length f j).getD f [])) eI true)) (hr : rr f = some ⟨gi, 0, none⟩) (le : H.Le Ha) (s1 : St [gi] Ha Hb) (hn : Ha.next ≤ g') (hg : Hb.get g' = some (.row (ints ((extL c.comp d.src.length f j).getD f [] ++ [-1])) eI true)) (s2 : St [gC] Hb Hc)
    (hC : Hc.get gC = some (.row ((slsL rr (extL c.comp d.src.length f j)).set f (.slice (some ⟨g', 0, none⟩) n n)) eS true)) (hnn : n = ((extL c.comp d.src.length f j).getD f []).length + 1) : SumSt eI eS eT H0 Hc c d q gd gR gS gF gT gI gC zs (upd rr f (some ⟨g', 0, none⟩)) f (j + 1) := by
  have u1 : (eS != eI) = true := by simp only [bne_iff_ne, ne_eq] at t1 ⊢; exact fun e => t1 e.symm
  have u2 : (eT != eI) = true := by simp only [bne_iff_ne, ne_eq] at t2 ⊢; exact fun e => t2 e.symm
  have u3 : (eT != eS) = true := by simp only [bne_iff_ne, ne_eq] at t3 ⊢; exact fun e => t3 e.symm
  obtain ⟨x1, x0, x2, xR, x3, x4, x5, x6, x7, x8, x9, x10, x11⟩ := h
  have hl : f < (extL c.comp d.src.length f j).length := by rw [length_extL]; exact hf
  have hgi0 : H0.next ≤ gi := by
    obtain ⟨x, h1, h2, _⟩ := x8.row f hl
    rw [hr] at h1; cases h1; exact h2
  have ltF := GHeap.ltg x4
  have ltT := GHeap.ltg x5
  have ltI := GHeap.ltg x6
  have lx := le.1
  have ly := x1.1
  have step : ∀ k o, k ≠ gi → k ≠ gC → H.get k = some o → Hc.get k = some o := fun k o h1 h2 h3 => s2.same k o ⟨h2, trivial⟩ (s1.same k o ⟨h1, trivial⟩ (le.2 k o h3))
  have nF : gF ≠ gi := fun e => x9 f hf (by rw [hr, e])
  have nT : gT ≠ gi := fun e => x10 f hf (by rw [hr, e])
  have nI : gI ≠ gi := fun e => x11 f hf (by rw [hr, e])
  have nC : gC ≠ gi := row_ne x7 hgi u1
  refine ⟨((x1.trans le).st s1 (fun k hk => ⟨by omega, trivial⟩)).st s2 (fun k hk => ⟨by omega, trivial⟩), x0, step _ _ (row_ne x2 hgi u2) (row_ne x2 x7 u3) x2, step _ _ (row_ne xR hgi u2) (row_ne xR x7 u3) xR, step _ _ (row_ne x3 hgi u2) (row_ne x3 x7 u3) x3, step _ _ nF (row_ne x4 x7 t1) x4, step _ _ nT (row_ne x5 x7 t1) x5, step _ _ nI (row_ne x6 x7 t1) x6, ?_, ?_, ne_upd x9 (by omega), ne_upd x10 (by omega), ne_upd x11 (by omega)⟩
  · rw [hC, slsL_set (ys := (extL c.comp d.src.length f j).getD f [] ++ [-1]) hl (by rw [hnn, List.length_append]; rfl), ← extL_succ hf]
  · rw [extL_succ hf]
    have hA := OwnL.app (x8.keep (Lasts.of_le le)) s1 hl hr hg hn (by omega)
    refine hA.st s2 (.cons (hA.neT (s1.same _ _ ⟨nC, trivial⟩ (le.2 _ _ x7)) t1) (.nil _ _))
theorem SumSt.next {eI eS eT : TypeId} {H0 H : GHeap} {c d : Cat} {q : CatP} {gd gR gS gF gT gI gC : Nat} {zs : List Value} {rr : Nat → Option Addr} {f : Nat} (h : SumSt eI eS eT H0 H c d q gd gR gS gF gT gI gC zs rr f d.src.length) : SumSt eI eS eT H0 H c d q gd gR gS gF gT gI gC zs rr (f + 1) 0 := by
  obtain ⟨x1, x0, x2, xR, x3, x4, x5, x6, x7, x8, x9, x10, x11⟩ := h
  rw [extL_next] at x7 x8
  exact ⟨x1, x0, x2, xR, x3, x4, x5, x6, x7, x8, x9, x10, x11⟩
def colPr (x y e : Nat) : List Int := [(x : Int), (y : Int), (e : Int)]
def Prof.colS2 (m : Prof) (x y : Nat) : Nat := ((m.sz.getD x []).getD y 0).toNat
def Prof.colP (m : Prof) (x y e : Nat) : List (List Int) := nest3 colPr (fun _ => m.t.obj.toNat) m.colS2 x y e
def Prof.colL (m : Prof) : List (List Int) := m.colP m.s.obj.toNat 0 0
def Prof.colA (m : Prof) (x y : Nat) : Int := (m.colP x y 0).length
theorem Prof.colP_snoc {m : Prof} {x y e : Nat} : m.colP x y (e + 1) = m.colP x y e ++ [colPr x y e] := nest3_snoc
theorem Prof.colL_nodup {m : Prof} {x : Nat} : (m.colP x 0 0).Nodup := nest3_nodup fun a b t a' b' t' _ _ _ _ _ _ e => by
  unfold colPr at e
  simp only [List.cons.injEq, and_true] at e
  omega
theorem Prof.Sized.at {m : Prof} (z : m.Sized) {x y : Nat} (hx : (x : Int) < m.s.obj) (hy : (y : Int) < m.t.obj) : x < m.sz.length ∧ y < (m.sz.getD x []).length ∧ 0 ≤ (m.sz.getD x []).getD y 0 ∧ (m.sz.getD x []).getD y 0 ≤ 64 := by
  have h1 := z.sl
  have h2 := z.row x (by omega)
  exact ⟨by omega, by omega, z.rng x (by omega) y (by omega)⟩
structure Prof.Cok (m : Prof) : Prop where
  z : m.Sized
  s0 : 0 ≤ m.s.obj
  s8 : m.s.obj ≤ 8
  t0 : 0 ≤ m.t.obj
  t8 : m.t.obj ≤ 8
theorem Prof.Shape.cok {m : Prof} (h : m.Shape) : m.Cok := ⟨h.z, h.s.1.obj.1, h.s.1.obj.2, h.t.1.obj.1, h.t.1.obj.2⟩
theorem Prof.Cok.s2 {m : Prof} (h : m.Cok) {x y : Nat} (hx : (x : Int) < m.s.obj) (hy : (y : Int) < m.t.obj) : (m.colS2 x y : Int) = (m.sz.getD x []).getD y 0 ∧ m.colS2 x y ≤ 64 := by
  have := h.z.at hx hy
  unfold Prof.colS2
  omega
theorem Prof.Cok.all {m : Prof} (h : m.Cok) : m.colL.length ≤ 4096 := by
  have h1 := h.s8
  have h2 := h.t8
  have := nest3_all (pr := colPr) (s1 := fun _ => m.t.obj.toNat) (s2 := m.colS2) (c := 64) (d := 8) (n := m.s.obj.toNat) (fun a _ => by show m.t.obj.toNat ≤ 8; omega) (fun a ha b hb => (h.s2 (by omega) (by omega)).2)
  unfold Prof.colL Prof.colP
  omega
theorem Prof.Cok.le {m : Prof} (h : m.Cok) {x y e : Nat} (hx : (x : Int) < m.s.obj) (hy : (y : Int) < m.t.obj) (he : e ≤ m.colS2 x y) : (m.colP x y e).length ≤ m.colL.length := by
  obtain ⟨r, hr⟩ := nest3_pre (pr := colPr) (s1 := fun _ => m.t.obj.toNat) (s2 := m.colS2) (n := m.s.obj.toNat) (k := x) (t := y) (u := e) (by omega) (by omega) he
  unfold Prof.colL Prof.colP
  rw [← hr, List.length_append]
  omega
theorem Prof.Cok.leY {m : Prof} (h : m.Cok) {x y : Nat} (hx : (x : Int) < m.s.obj) (hy : (y : Int) ≤ m.t.obj) : (m.colP x y 0).length ≤ m.colL.length := by
  obtain ⟨r, hr⟩ := nest3_preR (pr := colPr) (s1 := fun _ => m.t.obj.toNat) (s2 := m.colS2) (n := m.s.obj.toNat) (k := x) (t := y) (by omega) (by omega)
  unfold Prof.colL Prof.colP
  rw [← hr, List.length_append]
  omega
theorem Prof.Cok.idx {m : Prof} (h : m.Cok) {x y e : Int} (x0 : 0 ≤ x) (x1 : x < m.s.obj) (y0 : 0 ≤ y) (y1 : y < m.t.obj) (e0 : 0 ≤ e) (e1 : e < (m.sz.getD x.toNat []).getD y.toNat 0) :
    [x, y, e] ∈ m.colL ∧ idxLL m.colL [x, y, e] = m.colA x.toNat y.toNat + e ∧ idxLL m.colL [x, y, e] < m.colL.length ∧ 0 ≤ m.colA x.toNat y.toNat := by
  have hz := h.s2 (x := x.toNat) (y := y.toNat) (by omega) (by omega)
  obtain ⟨l, a⟩ := nest3_at (pr := colPr) (s1 := fun _ => m.t.obj.toNat) (s2 := m.colS2) (n := m.s.obj.toNat) (k := x.toNat) (t := y.toNat) (u := e.toNat) (d := []) (by omega) (by omega) (by omega)
  have hp : colPr x.toNat y.toNat e.toNat = [x, y, e] := by unfold colPr; rw [Int.toNat_of_nonneg x0, Int.toNat_of_nonneg y0, Int.toNat_of_nonneg e0]
  rw [hp] at a
  have hm := getD_mem_list (d := []) l
  rw [a] at hm
  have hi := idxLL_at (xss := m.colL) Prof.colL_nodup l
  have a' : m.colL.getD (m.colP x.toNat y.toNat e.toNat).length [] = [x, y, e] := a
  unfold Prof.colP at a'
  rw [a'] at hi
  have hl : ((nest3 colPr (fun _ => m.t.obj.toNat) m.colS2 x.toNat y.toNat e.toNat).length : Int) = m.colA x.toNat y.toNat + e := by
    rw [nest3_len]
    unfold Prof.colA Prof.colP
    omega
  exact ⟨hm, by rw [hi, hl], by rw [hi]; exact Int.ofNat_lt.2 l, by unfold Prof.colA; omega⟩
theorem Prof.Cok.tri {m : Prof} (h : m.Cok) {i : Nat} (hi : i < m.colL.length) : ∃ x y e : Nat, (x : Int) < m.s.obj ∧ (y : Int) < m.t.obj ∧ (e : Int) < (m.sz.getD x []).getD y 0 ∧ m.colL.getD i [] = [(x : Int), (y : Int), (e : Int)] ∧ (i : Int) = m.colA x y + e := by
  have hm := getD_mem_list (d := []) hi
  obtain ⟨x, y, e, hx, hy, he, hq⟩ := nest3_mem (k := m.s.obj.toNat) hm
  have hx' : (x : Int) < m.s.obj := by omega
  have hy' : (y : Int) < m.t.obj := by omega
  have hz := h.s2 (x := x) (y := y) hx' hy'
  refine ⟨x, y, e, hx', hy', by omega, hq, ?_⟩
  obtain ⟨l, a⟩ := nest3_at (pr := colPr) (s1 := fun _ => m.t.obj.toNat) (s2 := m.colS2) (n := m.s.obj.toNat) (k := x) (t := y) (u := e) (d := []) hx hy he
  have := getD_inj (xss := m.colL) Prof.colL_nodup hi l (by rw [hq]; exact a.symm)
  rw [this, nest3_len]
  unfold Prof.colA Prof.colP
  omega
def Prof.colQx (m : Prof) (x y : Nat) : List Int := (List.range y).map (m.colA x)
def Prof.colQ (m : Prof) (k : Nat) : List (List Int) := (List.range k).map fun x => m.colQx x (m.sz.getD x []).length
@[simp] theorem Prof.length_colQx (m : Prof) (x y : Nat) : (m.colQx x y).length = y := by simp [Prof.colQx]
@[simp] theorem Prof.length_colQ (m : Prof) (k : Nat) : (m.colQ k).length = k := by simp [Prof.colQ]
theorem Prof.colQx_get {m : Prof} {x y i : Nat} (h : i < y) : (m.colQx x y).getD i 0 = m.colA x i := by simp [Prof.colQx, List.getD_eq_getElem?_getD, h]
theorem Prof.colQ_get {m : Prof} {k x : Nat} (h : x < k) : (m.colQ k).getD x [] = m.colQx x (m.sz.getD x []).length := by simp [Prof.colQ, List.getD_eq_getElem?_getD, h]
theorem Prof.Cok.colA_bd {m : Prof} (h : m.Cok) {x y : Nat} (hx : (x : Int) < m.s.obj) (hy : (y : Int) ≤ m.t.obj) : 0 ≤ m.colA x y ∧ m.colA x y ≤ 4096 := by
  have h1 := h.leY hx hy
  have h2 := h.all
  unfold Prof.colA
  omega
theorem Prof.Cok.q {m : Prof} (h : m.Cok) {x y : Int} (x0 : 0 ≤ x) (x1 : x < m.s.obj) (y0 : 0 ≤ y) (y1 : y < m.t.obj) : x < (m.colQ m.sz.length).length ∧ (((m.colQ m.sz.length).getD x.toNat []).length : Int) = m.t.obj ∧ ((m.colQ m.sz.length).getD x.toNat []).getD y.toNat 0 = m.colA x.toNat y.toNat ∧ 0 ≤ m.colA x.toNat y.toNat ∧ m.colA x.toNat y.toNat ≤ 4096 := by
  have h1 := h.z.sl
  have h2 := h.z.row x.toNat (by omega)
  have h3 := h.colA_bd (x := x.toNat) (y := y.toNat) (by omega) (by omega)
  rw [Prof.length_colQ, Prof.colQ_get (by omega), Prof.length_colQx, Prof.colQx_get (by omega)]
  exact ⟨by omega, h2, rfl, h3⟩
def Prof.colN (m : Prof) : Nat := m.s.src.length + m.t.src.length
def Prof.colS (m : Prof) : List Int := (m.s.sum m.t).src ++ m.colL.map fun t => t.getD 0 0
def Prof.colT (m : Prof) : List Int := (m.s.sum m.t).tgt ++ m.colL.map fun t => m.s.obj + t.getD 1 0
def Prof.colR (m : Prof) (i : Nat) : List Int := m.colL.getD (i - m.colN) []
def Prof.colB (m : Prof) (f g : Nat) : Int := ((m.be.getD f []).getD ((m.colR g).getD 1 0).toNat []).getD ((m.colR g).getD 2 0).toNat 0
def Prof.colH (m : Prof) (f g : Nat) : Int := ((m.bh.getD (g - m.s.src.length) []).getD ((m.colR f).getD 0 0).toNat []).getD ((m.colR f).getD 2 0).toNat 0
def Prof.colK1 (m : Prof) (f g : Nat) : List Int := [m.colS.getD f 0, (m.colR g).getD 1 0, m.colB f g]
def Prof.colK2 (m : Prof) (f g : Nat) : List Int := [(m.colR f).getD 0 0, m.colT.getD g 0 - m.s.obj, m.colH f g]
theorem Prof.sum_n (m : Prof) : (m.s.sum m.t).src.length = m.colN := by simp [Cat.sum, Prof.colN]
theorem Prof.colS_c {m : Prof} {f : Nat} (h : f < m.s.src.length) : m.colS.getD f 0 = m.s.src.getD f 0 := by
  unfold Prof.colS Cat.sum
  rw [getD_append_l (by rw [List.length_append]; omega), getD_append_l h]
theorem Prof.colS_d {m : Prof} {f : Nat} (h1 : m.s.src.length ≤ f) (h2 : f < m.colN) : m.colS.getD f 0 = m.t.src.getD (f - m.s.src.length) 0 + m.s.obj := by
  unfold Prof.colN at h2
  unfold Prof.colS Cat.sum
  rw [getD_append_l (by rw [List.length_append, List.length_map]; omega), getD_append_r h1, getD_map (d := 0) (by omega)]
theorem Prof.colS_t {m : Prof} {f : Nat} (h1 : m.colN ≤ f) (h2 : f < m.colN + m.colL.length) : m.colS.getD f 0 = (m.colR f).getD 0 0 := by
  unfold Prof.colS Prof.colR
  rw [getD_append_r (by rw [Prof.sum_n]; exact h1), getD_map (d := []) (by rw [Prof.sum_n]; omega), Prof.sum_n]
theorem Prof.colT_c {m : Prof} {f : Nat} (hl : m.s.tgt.length = m.s.src.length) (h : f < m.s.src.length) : m.colT.getD f 0 = m.s.tgt.getD f 0 := by
  unfold Prof.colT Cat.sum
  rw [getD_append_l (by rw [List.length_append]; omega), getD_append_l (by omega)]
theorem Prof.colT_d {m : Prof} {f : Nat} (hl : m.s.tgt.length = m.s.src.length) (hl2 : m.t.tgt.length = m.t.src.length) (h1 : m.s.src.length ≤ f) (h2 : f < m.colN) : m.colT.getD f 0 = m.t.tgt.getD (f - m.s.src.length) 0 + m.s.obj := by
  unfold Prof.colN at h2
  unfold Prof.colT Cat.sum
  rw [getD_append_l (by rw [List.length_append, List.length_map]; omega), getD_append_r (by omega), getD_map (d := 0) (by omega), hl]
theorem Prof.colT_t {m : Prof} {f : Nat} (hl : m.s.tgt.length = m.s.src.length) (hl2 : m.t.tgt.length = m.t.src.length) (h1 : m.colN ≤ f) (h2 : f < m.colN + m.colL.length) : m.colT.getD f 0 = m.s.obj + (m.colR f).getD 1 0 := by
  have e : (m.s.sum m.t).tgt.length = m.colN := by simp only [Cat.sum, Prof.colN, List.length_append, List.length_map]; omega
  unfold Prof.colT Prof.colR
  rw [getD_append_r (by rw [e]; exact h1), getD_map (d := []) (by rw [e]; omega), e]
structure Prof.ColB (m : Prof) (f g : Nat) : Prop where
  fM : f < m.s.src.length
  sf : m.colS.getD f 0 = m.s.src.getD f 0
  tg : m.colT.getD g 0 = m.s.obj + (m.colR g).getD 1 0
  r3 : (m.colR g).length = 3
  y0 : 0 ≤ (m.colR g).getD 1 0
  y1 : (m.colR g).getD 1 0 < m.t.obj
  e0 : 0 ≤ (m.colR g).getD 2 0
  b0 : f < m.be.length
  b1 : ((m.colR g).getD 1 0).toNat < (m.be.getD f []).length
  b2 : ((m.colR g).getD 2 0).toNat < ((m.be.getD f []).getD ((m.colR g).getD 1 0).toNat []).length
  s0 : 0 ≤ m.s.src.getD f 0
  s1 : m.s.src.getD f 0 < m.s.obj
  t0 : 0 ≤ m.s.tgt.getD f 0
  t1 : m.s.tgt.getD f 0 < m.s.obj
  ae : (g : Int) - m.colN - m.colA (m.s.tgt.getD f 0).toNat ((m.colR g).getD 1 0).toNat = (m.colR g).getD 2 0
  ix : idxLL m.colL (m.colK1 f g) = m.colA (m.s.src.getD f 0).toNat ((m.colR g).getD 1 0).toNat + m.colB f g
  lt : idxLL m.colL (m.colK1 f g) < m.colL.length
  ca : 0 ≤ m.colA (m.s.src.getD f 0).toNat ((m.colR g).getD 1 0).toNat
  bb : 0 ≤ m.colB f g
structure Prof.ColH (m : Prof) (f g : Nat) : Prop where
  gM : m.s.src.length ≤ g
  gN : g < m.colN
  sf : m.colS.getD f 0 = (m.colR f).getD 0 0
  tg : m.colT.getD g 0 - m.s.obj = m.t.tgt.getD (g - m.s.src.length) 0
  r3 : (m.colR f).length = 3
  x0 : 0 ≤ (m.colR f).getD 0 0
  x1 : (m.colR f).getD 0 0 < m.s.obj
  e0 : 0 ≤ (m.colR f).getD 2 0
  b0 : g - m.s.src.length < m.bh.length
  b1 : ((m.colR f).getD 0 0).toNat < (m.bh.getD (g - m.s.src.length) []).length
  b2 : ((m.colR f).getD 2 0).toNat < ((m.bh.getD (g - m.s.src.length) []).getD ((m.colR f).getD 0 0).toNat []).length
  s0 : 0 ≤ m.t.src.getD (g - m.s.src.length) 0
  s1 : m.t.src.getD (g - m.s.src.length) 0 < m.t.obj
  t0 : 0 ≤ m.t.tgt.getD (g - m.s.src.length) 0
  t1 : m.t.tgt.getD (g - m.s.src.length) 0 < m.t.obj
  ae : (f : Int) - m.colN - m.colA ((m.colR f).getD 0 0).toNat (m.t.src.getD (g - m.s.src.length) 0).toNat = (m.colR f).getD 2 0
  ix : idxLL m.colL (m.colK2 f g) = m.colA ((m.colR f).getD 0 0).toNat (m.t.tgt.getD (g - m.s.src.length) 0).toNat + m.colH f g
  lt : idxLL m.colL (m.colK2 f g) < m.colL.length
  ca : 0 ≤ m.colA ((m.colR f).getD 0 0).toNat (m.t.tgt.getD (g - m.s.src.length) 0).toNat
  bb : 0 ≤ m.colH f g
theorem Prof.Shape.tri {m : Prof} (h : m.Shape) {i : Nat} (h1 : m.colN ≤ i) (h2 : i < m.colN + m.colL.length) : ∃ x y e : Nat, (x : Int) < m.s.obj ∧ (y : Int) < m.t.obj ∧ (e : Int) < (m.sz.getD x []).getD y 0 ∧ m.colR i = [(x : Int), (y : Int), (e : Int)] ∧ (i : Int) - m.colN = m.colA x y + e := by
  obtain ⟨x, y, e, q1, q2, q3, q4, q5⟩ := h.cok.tri (i := i - m.colN) (by omega)
  exact ⟨x, y, e, q1, q2, q3, q4, by omega⟩
theorem Prof.Shape.before {m : Prof} (h : m.Shape) {f g : Nat} (hf : f < m.s.src.length) (hg : m.colN ≤ g) (hg2 : g < m.colN + m.colL.length) (e : m.colT.getD f 0 = m.colS.getD g 0) : m.ColB f g := by
  have l1 := h.s.1.tl
  have l2 := h.t.1.tl
  have b0 := h.z.bl
  obtain ⟨x, y, i, q1, q2, q3, q4, q5⟩ := h.tri (i := g) hg hg2
  have es := Prof.colS_c hf
  have et := Prof.colT_c l1 hf
  have eg := Prof.colS_t (m := m) hg hg2
  have tg := Prof.colT_t (m := m) (f := g) l1 l2 hg hg2
  have r0 : (m.colR g).getD 0 0 = (x : Int) := by rw [q4]; rfl
  have r1 : (m.colR g).getD 1 0 = (y : Int) := by rw [q4]; rfl
  have r2 : (m.colR g).getD 2 0 = (i : Int) := by rw [q4]; rfl
  have hx : m.s.tgt.getD f 0 = (x : Int) := by omega
  have hb := h.by (a := f) (y := y) (by omega) q2
  rw [hx, Int.toNat_natCast] at hb
  have hs := h.s.1.src f hf
  have hbi := hb.2.2.2.2.1 i (by omega)
  have hB : m.colB f g = ((m.be.getD f []).getD y []).getD i 0 := by unfold Prof.colB; rw [r1, r2, Int.toNat_natCast, Int.toNat_natCast]
  obtain ⟨k1, k2, k3, k4⟩ := h.cok.idx (x := m.s.src.getD f 0) (y := (y : Int)) (e := m.colB f g) hs.1 hs.2 (by omega) q2 (by omega) (by rw [Int.toNat_natCast, hB]; exact hbi.2)
  have hK : m.colK1 f g = [m.s.src.getD f 0, (y : Int), m.colB f g] := by unfold Prof.colK1; rw [es, r1]
  rw [← hK] at k2 k3
  rw [Int.toNat_natCast] at k2 k4
  constructor
  · exact hf
  · exact es
  · exact tg
  · rw [q4]; rfl
  · omega
  · omega
  · omega
  · omega
  · rw [r1, Int.toNat_natCast]; omega
  · rw [r1, r2, Int.toNat_natCast, Int.toNat_natCast]; omega
  · exact hs.1
  · exact hs.2
  · omega
  · omega
  · rw [hx, r1, r2, Int.toNat_natCast, Int.toNat_natCast]; omega
  · rw [r1, Int.toNat_natCast]; exact k2
  · exact k3
  · rw [r1, Int.toNat_natCast]; exact k4
  · rw [hB]; exact hbi.1
theorem Prof.Shape.behind {m : Prof} (h : m.Shape) {f g : Nat} (hg : m.s.src.length ≤ g) (hg2 : g < m.colN) (hf : m.colN ≤ f) (hf2 : f < m.colN + m.colL.length) (e : m.colT.getD f 0 = m.colS.getD g 0) : m.ColH f g := by
  have l1 := h.s.1.tl
  have l2 := h.t.1.tl
  have b0 := h.z.hl
  have hg3 := hg2
  unfold Prof.colN at hg3
  obtain ⟨x, y, i, q1, q2, q3, q4, q5⟩ := h.tri (i := f) hf hf2
  have es := Prof.colS_t (m := m) hf hf2
  have et := Prof.colT_t (m := m) (f := f) l1 l2 hf hf2
  have eg := Prof.colS_d (m := m) hg hg2
  have tg := Prof.colT_d (m := m) l1 l2 hg hg2
  have r0 : (m.colR f).getD 0 0 = (x : Int) := by rw [q4]; rfl
  have r1 : (m.colR f).getD 1 0 = (y : Int) := by rw [q4]; rfl
  have r2 : (m.colR f).getD 2 0 = (i : Int) := by rw [q4]; rfl
  have hy : m.t.src.getD (g - m.s.src.length) 0 = (y : Int) := by omega
  have hb := h.hx (b := g - m.s.src.length) (x := x) (by omega) q1
  rw [hy, Int.toNat_natCast] at hb
  have ht := h.t.1.tgt (g - m.s.src.length) (by omega)
  have hbi := hb.2.2.2.2.2.1 i (by omega)
  have hH : m.colH f g = ((m.bh.getD (g - m.s.src.length) []).getD x []).getD i 0 := by unfold Prof.colH; rw [r0, r2, Int.toNat_natCast, Int.toNat_natCast]
  have tg' : m.colT.getD g 0 - m.s.obj = m.t.tgt.getD (g - m.s.src.length) 0 := by omega
  obtain ⟨k1, k2, k3, k4⟩ := h.cok.idx (x := (x : Int)) (y := m.t.tgt.getD (g - m.s.src.length) 0) (e := m.colH f g) (by omega) q1 ht.1 ht.2 (by omega) (by rw [Int.toNat_natCast, hH]; exact hbi.2)
  have hK : m.colK2 f g = [(x : Int), m.t.tgt.getD (g - m.s.src.length) 0, m.colH f g] := by unfold Prof.colK2; rw [tg', r0]
  rw [← hK] at k2 k3
  rw [Int.toNat_natCast] at k2 k4
  constructor
  · exact hg
  · exact hg2
  · exact es
  · exact tg'
  · rw [q4]; rfl
  · omega
  · omega
  · omega
  · omega
  · rw [r0, Int.toNat_natCast]; omega
  · rw [r0, r2, Int.toNat_natCast, Int.toNat_natCast]; omega
  · omega
  · omega
  · exact ht.1
  · exact ht.2
  · rw [hy, r0, r2, Int.toNat_natCast, Int.toNat_natCast]; omega
  · rw [r0, Int.toNat_natCast]; exact k2
  · exact k3
  · rw [r0, Int.toNat_natCast]; exact k4
  · rw [hH]; exact hbi.1
def Prof.colSp (m : Prof) (x y e : Nat) : List Int := (m.s.sum m.t).src ++ (m.colP x y e).map fun t => t.getD 0 0
def Prof.colTp (m : Prof) (x y e : Nat) : List Int := (m.s.sum m.t).tgt ++ (m.colP x y e).map fun t => m.s.obj + t.getD 1 0
theorem Prof.colSp_snoc {m : Prof} {x y e : Nat} : m.colSp x y (e + 1) = m.colSp x y e ++ [(x : Int)] := by
  unfold Prof.colSp
  rw [Prof.colP_snoc, List.map_append, ← List.append_assoc]; rfl
theorem Prof.colTp_snoc {m : Prof} {x y e : Nat} : m.colTp x y (e + 1) = m.colTp x y e ++ [m.s.obj + (y : Int)] := by
  unfold Prof.colTp
  rw [Prof.colP_snoc, List.map_append, ← List.append_assoc]; rfl
structure ColSt (eI eS eT eP : TypeId) (H0 H : GHeap) (m : Prof) (p : ProfP) (g1 g2 g3 g4 g5 gI gC : Nat) (r0 : Nat → Option Addr) (zs : List Value) (x y e : Nat) (r1 : Nat → Option Addr) (gV gF gT : Nat) : Prop where
  hle : H0.Le H
  a1 : H.get g1 = some (.row (m.cells p) eP true)
  a2 : H.get g2 = some (.row zs eT true)
  a3 : H.get g3 = some (.row (m.s.cells p.s) eT true)
  a4 : H.get g4 = some (.row (m.t.cells p.t) eT true)
  a5 : H.get g5 = some (.row [.int .i64 (m.s.obj + m.t.obj), .slice (some ⟨gF, 0, none⟩) (m.colSp x y e).length (m.colSp x y e).length, .slice (some ⟨gT, 0, none⟩) (m.colTp x y e).length (m.colTp x y e).length, .slice (some ⟨gI, 0, none⟩) (m.s.sum m.t).idn.length (m.s.sum m.t).idn.length, .slice (some ⟨gC, 0, none⟩) (m.s.sum m.t).comp.length (m.s.sum m.t).comp.length] eT true)
  aF : H.get gF = some (.row (ints (m.colSp x y e)) eI true)
  aT : H.get gT = some (.row (ints (m.colTp x y e)) eI true)
  aI : H.get gI = some (.row (ints (m.s.sum m.t).idn) eI true)
  aC : H.get gC = some (.row (slsL r0 (m.s.sum m.t).comp) eS true)
  aV : H.get gV = some (.row (slsL r1 (m.colP x y e)) eS true)
  rows0 : OwnL H0.next H eI r0 (m.s.sum m.t).comp
  rows1 : OwnL H0.next H eI r1 (m.colP x y e)
  z1 : ∀ i, i < (m.s.sum m.t).comp.length → r0 i ≠ some ⟨gF, 0, none⟩
  z2 : ∀ i, i < (m.s.sum m.t).comp.length → r0 i ≠ some ⟨gT, 0, none⟩
  z3 : ∀ i, i < (m.s.sum m.t).comp.length → r0 i ≠ some ⟨gI, 0, none⟩
  w1 : ∀ i, i < (m.colP x y e).length → r1 i ≠ some ⟨gF, 0, none⟩
  w2 : ∀ i, i < (m.colP x y e).length → r1 i ≠ some ⟨gT, 0, none⟩
  bF : H0.next ≤ gF
  bT : H0.next ≤ gT
  bI : H0.next ≤ gI
  bC : H0.next ≤ gC
  bV : H0.next ≤ gV
  b5 : H0.next ≤ g5
  n12 : gF ≠ gT
  n13 : gF ≠ gI
  n23 : gT ≠ gI
  nV : gV ≠ gC
  n15 : g1 ≠ g5
  n25 : g2 ≠ g5
  n35 : g3 ≠ g5
  n45 : g4 ≠ g5
theorem ColSt.app {eI eS eT eP : TypeId} {H0 H H' : GHeap} {m : Prof} {p : ProfP} {g1 g2 g3 g4 g5 gI gC : Nat} {r0 : Nat → Option Addr} {zs : List Value} {x y e : Nat} {r1 : Nat → Option Addr} {gV gF gT gr gV' gF' gT' a b c : Nat} (h : ColSt eI eS eT eP H0 H m p g1 g2 g3 g4 g5 gI gC r0 zs x y e r1 gV gF gT) (s : St [gV, gF, gT, g5] H H') (t1 : (eI != eS) = true) (t2 : (eI != eT) = true) (t3 : (eS != eT) = true) (t4 : (eP != eS) = true) (t5 : (eP != eI) = true)
    (kr : H'.get gr = some (.row (ints [(x : Int), (y : Int), (e : Int)]) eI true)) (qr : H.next ≤ gr) (kV : H'.get gV' = some (.row (slsL r1 (m.colP x y e) ++ [.slice (some ⟨gr, 0, none⟩) 3 3]) eS true)) (qV : H.next ≤ gV') (kF : H'.get gF' = some (.row (ints (m.colSp x y e ++ [(x : Int)])) eI true)) (qF : H.next ≤ gF') (kT : H'.get gT' = some (.row (ints (m.colTp x y e ++ [m.s.obj + (y : Int)])) eI true)) (qT : H.next ≤ gT')
    (k5 : H'.get g5 = some (.row [.int .i64 (m.s.obj + m.t.obj), .slice (some ⟨gF', 0, none⟩) a a, .slice (some ⟨gT', 0, none⟩) b b, .slice (some ⟨gI, 0, none⟩) (m.s.sum m.t).idn.length (m.s.sum m.t).idn.length, .slice (some ⟨gC, 0, none⟩) c c] eT true)) (ea : a = (m.colSp x y e).length + 1) (eb : b = (m.colTp x y e).length + 1) (ec : c = (m.s.sum m.t).comp.length) (nrF : gr ≠ gF') (nrT : gr ≠ gT') (nFT : gF' ≠ gT') : ColSt eI eS eT eP H0 H' m p g1 g2 g3 g4 g5 gI gC r0 zs x y (e + 1) (upd r1 (m.colP x y e).length (some ⟨gr, 0, none⟩)) gV' gF' gT' := by
  have u1 : (eS != eI) = true := by simp only [bne_iff_ne, ne_eq] at t1 ⊢; exact fun e => t1 e.symm
  have u2 : (eT != eI) = true := by simp only [bne_iff_ne, ne_eq] at t2 ⊢; exact fun e => t2 e.symm
  have u3 : (eT != eS) = true := by simp only [bne_iff_ne, ne_eq] at t3 ⊢; exact fun e => t3 e.symm
  obtain ⟨y1, y2, y3, y4, y5, y6, y7, y8, y9, y10, y11, y12, y13, y14, y15, y16, y17, y18, y19, y20, y21, y22, y23, y24, y25, y26, y27, y28, y29, y30, y31, y32⟩ := h
  have l0 := y1.1
  have lI := GHeap.ltg y9
  have lC := GHeap.ltg y10
  have step : ∀ k o, k ≠ gV → k ≠ gF → k ≠ gT → k ≠ g5 → H.get k = some o → H'.get k = some o := fun k o h1 h2 h3 h4 h5 => s.same k o ⟨h1, h2, h3, h4, trivial⟩ h5
  have off0 : Off r0 (m.s.sum m.t).comp.length [gV, gF, gT, g5] := .cons (y12.neT y11 t1) (.cons y14 (.cons y15 (.cons (y12.neT y6 t2) (.nil _ _))))
  have off1 : Off r1 (m.colP x y e).length [gV, gF, gT, g5] := .cons (y13.neT y11 t1) (.cons y17 (.cons y18 (.cons (y13.neT y6 t2) (.nil _ _))))
  have lr := y13.ne (g := gr) qr
  subst ea eb ec
  constructor
  · exact y1.st s fun k hk => ⟨by omega, by omega, by omega, by omega, trivial⟩
  · exact step _ _ (row_ne y2 y11 t4) (row_ne y2 y7 t5) (row_ne y2 y8 t5) y29 y2
  · exact step _ _ (row_ne y3 y11 u3) (row_ne y3 y7 u2) (row_ne y3 y8 u2) y30 y3
  · exact step _ _ (row_ne y4 y11 u3) (row_ne y4 y7 u2) (row_ne y4 y8 u2) y31 y4
  · exact step _ _ (row_ne y5 y11 u3) (row_ne y5 y7 u2) (row_ne y5 y8 u2) y32 y5
  · rw [Prof.colSp_snoc, Prof.colTp_snoc, List.length_append, List.length_append]; exact k5
  · rw [Prof.colSp_snoc]; exact kF
  · rw [Prof.colTp_snoc]; exact kT
  · exact step _ _ (row_ne y9 y11 t1) (Ne.symm y26) (Ne.symm y27) (row_ne y9 y6 t2) y9
  · exact step _ _ (Ne.symm y28) (row_ne y10 y7 u1) (row_ne y10 y8 u1) (row_ne y10 y6 t3) y10
  · rw [Prof.colP_snoc]; exact (slsL_snoc (r := r1) (xss := m.colP x y e) (x := colPr x y e) (a := some ⟨gr, 0, none⟩)).symm ▸ kV
  · exact y12.st s off0
  · rw [Prof.colP_snoc]; exact (y13.st s off1).snoc2 kr lr (by omega)
  · exact y12.ne qF
  · exact y12.ne qT
  · exact y16
  · rw [Prof.colP_snoc]; exact ne_snoc (y13.ne qF) nrF
  · rw [Prof.colP_snoc]; exact ne_snoc (y13.ne qT) nrT
  · omega
  · omega
  · omega
  · omega
  · omega
  · omega
  · exact nFT
  · omega
  · omega
  · omega
  · exact y29
  · exact y30
  · exact y31
  · exact y32
end Go.GL
namespace Go.GL
open Go.RowKit Go.WideShapes Go.ChangeShapes Go.Deep
def Bytes (H : GHeap) (a : Option Addr) (xs : List Int) : Prop := (SlA H a xs.length fun i => .int .u8 (xs.getD i 0)) ∧ ∀ i, 0 ≤ xs.getD i 0 ∧ xs.getD i 0 ≤ 255
theorem Bytes.mono {H H' : GHeap} {a : Option Addr} {xs : List Int} (h : Bytes H a xs) (hle : H.Le H') : Bytes H' a xs := ⟨SlA.mono h.1 hle, h.2⟩
def u8T (P : Program) (t : TypeId) : Bool := match P.underlying t with | some (.int .u8) => true | _ => false
def bytesDT (P : Program) (t : TypeId) : Bool := match P.underlying t with | some (.slice e) => u8T P e && (P.cellsOf e == 1) | _ => false
theorem bytesDT_run {P : Program} {t : TypeId} (h : bytesDT P t = true) : ∃ e, P.underlying t = some (.slice e) ∧ P.underlying e = some (.int .u8) ∧ P.cellsOf e = 1 := by
  unfold bytesDT at h
  split at h
  · simp only [Bool.and_eq_true, beq_iff_eq] at h
    refine ⟨_, by assumption, ?_, h.2⟩
    have h1 := h.1
    unfold u8T at h1
    split at h1
    · assumption
    · cases h1
  · cases h
def RBytes (ρ : Place) (H : GHeap) (cs : List Value) : Prop := ∃ a xs c, cs = [c] ∧ VRel ρ (.slice a xs.length xs.length) c ∧ Bytes H a xs ∧ xs.length ≤ 9223372036854775807
theorem import_bytes {P : Program} {t : TypeId} (ht : bytesDT P t = true) : Imports P t RBytes := by
  intro T enc B w0 ρ H w held fuel cs x hs hB h
  obtain ⟨e, h1, h2, h3⟩ := bytesDT_run ht
  rcases open_ints h1 h2 h3 h with ⟨rfl, _⟩ | ⟨a, len, cap, zs, rfl, _, hl, hm, hz, _, hc, hw⟩
  · exact ⟨ρ, H, hs, .refl ρ, .refl H, none, [], _, rfl, .nilSlice, ⟨.inl rfl, fun i => by simp⟩, by simp⟩
  · simp only [if_true] at hz
    have hlen : (zs.take len).length = len := by simp; omega
    obtain ⟨a', ρ', H', k1, k2, k3, k4, k5⟩ := hs.list hB (f := fun i => .int .u8 ((zs.take len).getD i 0)) hl hm (fun i hi => hc i (by omega)) (fun i hi => by rw [take_getD zs hi]; exact .int _ _)
    refine ⟨ρ', H', k1, k2, k3, a', zs.take len, _, rfl, by rw [hlen]; exact k4, ⟨by rw [hlen]; exact k5, fun i => ?_⟩, by rw [hlen]; unfold maxLen at hm; omega⟩
    rw [List.getD_eq_getElem?_getD]
    cases e : (zs.take len)[i]? with
    | none => simp
    | some n =>
      have := hw n (List.mem_of_mem_take (List.mem_of_getElem? e))
      simp [Lit.wf, IntKind.min, IntKind.max, IntKind.signed, IntKind.bits] at this
      simp only [Option.getD_some]
      omega
theorem imp1_bytes {P : Program} {t : TypeId} (ht : bytesDT P t = true) : Imp1 P t (fun H g => ∃ a xs, g = .slice a xs.length xs.length ∧ Bytes H a xs ∧ xs.length ≤ 9223372036854775807) where
  mono h := fun ⟨a, xs, h1, h2, h3⟩ => ⟨a, xs, h1, h2.mono h, h3⟩
  imp := by
    intro T enc B w0 ρ H w held base fuel v x hs hB h hv
    obtain ⟨e, hu, _⟩ := bytesDT_run ht
    obtain ⟨a, l, c, rfl⟩ := okWide_slice hu hv
    obtain ⟨ρ', H', h1, h2, h3, a', xs, c', h4, h5, h6, h7⟩ := import_bytes ht hs hB h
    have : Value.slice a l c = c' := by simpa [Value.cells] using h4
    subst this
    exact ⟨ρ', H', _, h1, h2, h3, h5, a', xs, rfl, h6, h7⟩
def andU (a b : Int) : Int := IntKind.wrap .u64 ((BitVec.ofInt 64 a &&& BitVec.ofInt 64 b).toNat : Nat)
theorem andU_le (a : Int) : 0 ≤ andU a 16777215 ∧ andU a 16777215 ≤ 16777215 := by
  have h : (BitVec.ofInt 64 a &&& BitVec.ofInt 64 16777215).toNat ≤ 16777215 := by
    rw [BitVec.toNat_and]
    exact Nat.le_trans Nat.and_le_right (by decide)
  unfold andU IntKind.wrap
  simp only [IntKind.bits, IntKind.signed, Bool.false_and, Bool.false_eq_true, if_false]
  omega
section
variable {P : Program} {fr : Slots} {H : GHeap}
theorem MStep.shrU {t u : TypeId} {x y : Operand} {j : IntKind} {a : Int} (hx : ev fr x = some (.int .u64 a)) (hy : ev fr y = some (.int j 33)) : MStep P fr H (.binOp .shr t x y u) (.int .u64 (a.fdiv (2 ^ 33))) :=
  .intOp hx hy fun w => by
    show (Op.shift .shr .u64 a j 33).run P w = _
    unfold Op.shift
    rw [if_neg (by decide)]
    rfl
theorem MStep.andU {t u : TypeId} {x y : Operand} {a b : Int} (hx : ev fr x = some (.int .u64 a)) (hy : ev fr y = some (.int .u64 b)) : MStep P fr H (.binOp .and t x y u) (.int .u64 (Go.GL.andU a b)) :=
  .intOp hx hy fun w => rfl
end
theorem cell_same {H H' : GHeap} {b i : Nat} {v : Value} (h : H.cell b i = some v) (s : ∀ o, H.get b = some o → H'.get b = some o) : H'.cell b i = some v := by
  unfold GHeap.cell at h ⊢
  cases e : H.get b with
  | none => rw [e] at h; simp at h
  | some o => rw [s o e]; rw [e] at h; exact h
theorem Bytes.st {H H' : GHeap} {a : Option Addr} {xs : List Int} {bs : List Nat} (h : Bytes H a xs) (s : St bs H H') (ho : ∀ b o t, a = some ⟨b, o, t⟩ → out bs b) : Bytes H' a xs := by
  refine ⟨h.1.imp id fun ⟨g, off, ha, hc⟩ => ⟨g, off, ha, fun i hi => cell_same (hc i hi) fun o hg => s.same g o (ho _ _ _ ha) hg⟩, h.2⟩
def DSrc (T : TypeId) (H : GHeap) (g : Nat) : Prop :=
  ∃ (a : Option Addr) (xs : List Int) (p h : Int), H.get g = some (.row [.slice a xs.length xs.length, .int .i64 p, .int .u64 h] T true) ∧ (0 ≤ p ∧ p ≤ 4096) ∧ xs.length ≤ 4096 ∧ Bytes H a xs ∧ ∀ b o t, a = some ⟨b, o, t⟩ → b < g
theorem DSrc.le {T : TypeId} {H H' : GHeap} {g : Nat} (h : DSrc T H g) (s : H.Le H') : DSrc T H' g := by
  obtain ⟨a, xs, p, hh, h1, h2, h3, h4, h5⟩ := h
  exact ⟨a, xs, p, hh, s.2 _ _ h1, h2, h3, h4.mono s, h5⟩
theorem DSrc.st {T : TypeId} {H H' : GHeap} {g : Nat} {bs : List Nat} (h : DSrc T H g) (s : St bs H H') (f : ∀ k, k < g + 1 → out [] k → out bs k) : DSrc T H' g := by
  obtain ⟨a, xs, p, hh, h1, h2, h3, h4, h5⟩ := h
  exact ⟨a, xs, p, hh, s.same _ _ (f g (by omega) trivial) h1, h2, h3, h4.st s fun b o t ha => f b (by have := h5 b o t ha; omega) trivial, h5⟩
theorem DSrc.sA {T : TypeId} {H H' : GHeap} {g : Nat} {bs : List Nat} (h : DSrc T H g) (s : St bs H H') (f : ∀ k, k < g + 1 → out [] k → out bs k := by intro k hk ho; simp only [out, and_true] at ho ⊢ <;> first | exact ho | exact ho.1 | exact ho.2 | exact ho.2.1 | exact ho.2.2 | exact ho.2.2.1 | exact ho.2.2.2 | omega) : DSrc T H' g := h.st s f
theorem DSrc.sQ {T : TypeId} {H H' : GHeap} {g : Nat} {bs : List Nat} (h : DSrc T H g) (s : St bs H H') (f : ∀ k, k < g + 1 → out [] k → out bs k := by intro k hk ho; simp only [out, and_true] at ho ⊢ <;> first | exact ho | exact ho.1 | exact ho.2 | exact ho.2.1 | exact ho.2.2 | exact ho.2.2.1 | exact ho.2.2.2 | exact PL.ne (by assumption) (by first | exact ho | exact ho.1 | exact ho.2 | exact ho.2.1 | exact ho.2.2 | exact ho.2.2.1 | exact ho.2.2.2 | exact PL.ne (by assumption) (by first | exact ho | exact ho.1 | exact ho.2 | exact ho.2.1 | exact ho.2.2 | exact ho.2.2.1 | exact ho.2.2.2 | exact PL.ne (by assumption) (by first | exact ho | exact ho.1 | exact ho.2 | exact ho.2.1 | exact ho.2.2 | exact ho.2.2.1 | exact ho.2.2.2 | omega) (by omega) | omega) (by omega) | omega) (by omega) | omega) : DSrc T H' g := h.st s f
theorem DSrc.sP {T : TypeId} {H H' : GHeap} {g : Nat} {bs : List Nat} (h : DSrc T H g) (s : St bs H H') (f : ∀ k, k < g + 1 → out [] k → out bs k := by intro k hk ho; simp only [out, and_true] at ho ⊢ <;> first | exact ho | exact ho.1 | exact ho.2 | exact ho.2.1 | exact ho.2.2 | exact ho.2.2.1 | exact ho.2.2.2 | exact PL.ne (by assumption) (by first | exact ho | exact ho.1 | exact ho.2 | exact ho.2.1 | exact ho.2.2 | exact ho.2.2.1 | exact ho.2.2.2 | omega) (by omega) | omega) : DSrc T H' g := h.st s f
theorem DSrc.lt {T : TypeId} {H : GHeap} {g : Nat} (h : DSrc T H g) : g < H.next := by
  obtain ⟨a, xs, p, hh, h1, _⟩ := h
  exact GHeap.ltg h1
theorem tmod_bd {x n : Int} (h0 : 0 ≤ x) (hn : 1 ≤ n) : 0 ≤ x.tmod n ∧ x.tmod n < n := ⟨Int.tmod_nonneg n h0, Int.tmod_lt_of_pos x (by omega)⟩
def Drawn (T : TypeId) (g : Nat) (n : Int) (H : GHeap) (v : Value) (H' : GHeap) : Prop := ∃ k, v = .int .i64 k ∧ 0 ≤ k ∧ (1 ≤ n → k < n) ∧ (n < 1 → k = 0) ∧ St [g] H H' ∧ DSrc T H' g
end Go.GL
namespace Go.GL
theorem rng_snoc {f : Nat → Int} {i : Nat} : (List.range (i + 1)).map f = (List.range i).map f ++ [f i] := by rw [List.range_succ, List.map_append]; rfl
def Cat.opRow (c : Cat) (f g : Nat) : List Int := (List.range g).map fun g => (c.comp.getD g []).getD f 0
def Cat.opTab (c : Cat) (k : Nat) : List (List Int) := (List.range k).map fun f => c.opRow f c.src.length
def Cat.op (c : Cat) : Cat := ⟨c.obj, c.tgt, c.src, c.idn, c.opTab c.src.length⟩
@[simp] theorem Cat.length_opRow (c : Cat) (f g : Nat) : (c.opRow f g).length = g := by simp [opRow]
@[simp] theorem Cat.length_opTab (c : Cat) (k : Nat) : (c.opTab k).length = k := by simp [opTab]
theorem Cat.opRow_snoc {c : Cat} {f g : Nat} : c.opRow f (g + 1) = c.opRow f g ++ [(c.comp.getD g []).getD f 0] := rng_snoc
theorem Cat.opTab_snoc {c : Cat} {k : Nat} : c.opTab (k + 1) = c.opTab k ++ [c.opRow k c.src.length] := by unfold opTab; rw [List.range_succ, List.map_append]; rfl
theorem Cat.opTab_get {c : Cat} {k i : Nat} (h : i < k) : (c.opTab k).getD i [] = c.opRow i c.src.length := by unfold opTab; simp [List.getD_eq_getElem?_getD, h]
theorem Cat.opRow_get {c : Cat} {f g j : Nat} (h : j < g) : (c.opRow f g).getD j 0 = (c.comp.getD j []).getD f 0 := by unfold opRow; simp [List.getD_eq_getElem?_getD, h]
theorem Cat.Rect.op {c : Cat} {N : Nat} (h : c.Rect N) : c.op.Rect N := by
  obtain ⟨h1, h2, h3, h4, h5, h6, h7, h8, h9, h10⟩ := h
  refine ⟨h1, by simp only [Cat.op]; omega, by simp only [Cat.op]; omega, h5, h4, h6, h7, by simp [Cat.op]; omega, fun f hf => ?_, fun f hf g hg => ?_⟩
  · simp only [Cat.op, length_opTab] at hf ⊢
    rw [opTab_get hf, length_opRow]; omega
  · simp only [Cat.op, length_opTab] at hf hg ⊢
    rw [opTab_get hf, opRow_get (by omega)]
    exact h10 g (by omega) f hf
theorem Cat.Rect.mono {c : Cat} {N M : Nat} (h : c.Rect N) (hm : N ≤ M) : c.Rect M := by
  obtain ⟨h1, h2, h3, h4, h5, h6, h7, h8, h9, h10⟩ := h
  exact ⟨⟨h1.1, by omega⟩, by omega, h3, fun i hi => by have := h4 i hi; omega, fun i hi => by have := h5 i hi; omega, h6, fun i hi => by have := h7 i hi; omega, h8, h9, fun f hf g hg => by have := h10 f hf g hg; omega⟩
end Go.GL
namespace Go.GL
def Bd (lo hi : Int) (l : List Int) : Prop := ∀ i, i < l.length → lo ≤ l.getD i 0 ∧ l.getD i 0 ≤ hi
theorem Bd.nil (lo hi : Int) : Bd lo hi [] := fun i h => by simp at h
theorem Bd.snoc {lo hi x : Int} {l : List Int} (h : Bd lo hi l) (h1 : lo ≤ x) (h2 : x ≤ hi) : Bd lo hi (l ++ [x]) := fun i hi => by
  rw [List.length_append, List.length_singleton] at hi
  by_cases e : i = l.length
  · subst e
    simp only [List.getD_eq_getElem?_getD, List.getElem?_concat_length, Option.getD_some]
    omega
  · have : i < l.length := by omega
    have h3 := h i this
    simp only [List.getD_eq_getElem?_getD, List.getElem?_append_left this] at h3 ⊢
    exact h3
theorem Bd.mono {lo hi lo' hi' : Int} {l : List Int} (h : Bd lo hi l) (h1 : lo' ≤ lo) (h2 : hi ≤ hi') : Bd lo' hi' l := fun i hi => by have := h i hi; omega
theorem Bd.rep {lo hi x : Int} (n : Nat) (h1 : lo ≤ x) (h2 : x ≤ hi) : Bd lo hi (List.replicate n x) := fun i hi => by
  rw [List.length_replicate] at hi
  simp [List.getD_eq_getElem?_getD, hi, h1, h2]
def Tb (lo hi : Int) (w : Nat) (T : List (List Int)) : Prop := ∀ i, i < T.length → (T.getD i []).length = w ∧ Bd lo hi (T.getD i [])
theorem Tb.nil (lo hi : Int) (w : Nat) : Tb lo hi w [] := fun i h => by simp at h
theorem Tb.snoc {lo hi : Int} {w : Nat} {x : List Int} {l : List (List Int)} (h : Tb lo hi w l) (h1 : x.length = w) (h2 : Bd lo hi x) : Tb lo hi w (l ++ [x]) := fun i hi => by
  rw [List.length_append, List.length_singleton] at hi
  by_cases e : i = l.length
  · subst e
    simp only [List.getD_eq_getElem?_getD, List.getElem?_concat_length, Option.getD_some]
    exact ⟨h1, h2⟩
  · have : i < l.length := by omega
    have h3 := h i this
    simp only [List.getD_eq_getElem?_getD, List.getElem?_append_left this] at h3 ⊢
    exact h3
theorem Tb.mono {lo hi lo' hi' : Int} {w : Nat} {l : List (List Int)} (h : Tb lo hi w l) (h1 : lo' ≤ lo) (h2 : hi ≤ hi') : Tb lo' hi' w l := fun i hi => ⟨(h i hi).1, (h i hi).2.mono h1 h2⟩
theorem Tb.at {lo hi : Int} {w i j : Nat} {T : List (List Int)} (h : Tb lo hi w T) (h1 : i < T.length) (hj : j < w) : lo ≤ (T.getD i []).getD j 0 ∧ (T.getD i []).getD j 0 ≤ hi := (h i h1).2 j (by rw [(h i h1).1]; exact hj)
theorem rect_mk {n : Int} {N : Nat} {ss ts is : List Int} {cs : List (List Int)} (h0 : 0 ≤ n ∧ n ≤ N) (h1 : ss.length ≤ N) (h2 : ts.length = ss.length) (h3 : Bd 0 N ss) (h4 : Bd 0 N ts) (h5 : (is.length : Int) = n) (h6 : Bd 0 N is) (h7 : cs.length = ss.length) (h8 : Tb (-(N : Int) - 1) N ss.length cs) : Cat.Rect ⟨n, ss, ts, is, cs⟩ N :=
  ⟨h0, h1, h2, h3, h4, h5, h6, h7, fun f hf => (h8 f hf).1, fun f hf g hg => h8.at hf hg⟩
theorem bd_iff {lo hi : Int} {l : List Int} : Bd lo hi l ↔ ∀ x ∈ l, lo ≤ x ∧ x ≤ hi := by
  constructor
  · intro h x hx
    obtain ⟨i, h1, rfl⟩ := List.getElem_of_mem hx
    have := h i h1
    rwa [List.getD_eq_getElem?_getD, List.getElem?_eq_getElem h1] at this
  · intro h i hi
    rw [List.getD_eq_getElem?_getD, List.getElem?_eq_getElem hi]
    exact h _ (List.getElem_mem hi)
theorem tb_iff {lo hi : Int} {w : Nat} {T : List (List Int)} : Tb lo hi w T ↔ ∀ r ∈ T, r.length = w ∧ ∀ x ∈ r, lo ≤ x ∧ x ≤ hi := by
  constructor
  · intro h r hr
    obtain ⟨i, h1, rfl⟩ := List.getElem_of_mem hr
    have := h i h1
    rw [List.getD_eq_getElem?_getD, List.getElem?_eq_getElem h1] at this
    exact ⟨this.1, bd_iff.1 this.2⟩
  · intro h i hi
    rw [List.getD_eq_getElem?_getD, List.getElem?_eq_getElem hi]
    have := h _ (List.getElem_mem hi)
    exact ⟨this.1, bd_iff.2 this.2⟩
theorem Cat.Rect.sum {c d : Cat} {N M : Nat} (h : c.Rect N) (h' : d.Rect M) : (c.sum d).Rect (N + M) := by
  obtain ⟨a1, a2, a3, a4, a5, a6, a7, a8, a9, a10⟩ := h
  obtain ⟨b1, b2, b3, b4, b5, b6, b7, b8, b9, b10⟩ := h'
  have s1 := bd_iff.1 (show Bd 0 N c.src from a4)
  have s2 := bd_iff.1 (show Bd 0 N c.tgt from a5)
  have s3 := bd_iff.1 (show Bd 0 N c.idn from a7)
  have t1 := bd_iff.1 (show Bd 0 M d.src from b4)
  have t2 := bd_iff.1 (show Bd 0 M d.tgt from b5)
  have t3 := bd_iff.1 (show Bd 0 M d.idn from b7)
  have s4 := tb_iff.1 (show Tb (-(N : Int) - 1) N c.src.length c.comp from fun i hi => ⟨a9 i hi, fun j hj => a10 i hi j (by rw [← a9 i hi]; exact hj)⟩)
  have t4 := tb_iff.1 (show Tb (-(M : Int) - 1) M d.src.length d.comp from fun i hi => ⟨b9 i hi, fun j hj => b10 i hi j (by rw [← b9 i hi]; exact hj)⟩)
  refine rect_mk (by omega) (by simp [Cat.sum]; omega) (by simp [Cat.sum]; omega) (bd_iff.2 ?_) (bd_iff.2 ?_) (by simp [Cat.sum]; omega) (bd_iff.2 ?_) (by simp [Cat.sum, Cat.sumL]; omega) (tb_iff.2 ?_)
  · intro x hx
    simp only [Cat.sum, List.mem_append, List.mem_map] at hx
    rcases hx with h | ⟨y, h, rfl⟩
    · have := s1 x h; omega
    · have := t1 y h; omega
  · intro x hx
    simp only [Cat.sum, List.mem_append, List.mem_map] at hx
    rcases hx with h | ⟨y, h, rfl⟩
    · have := s2 x h; omega
    · have := t2 y h; omega
  · intro x hx
    simp only [Cat.sum, List.mem_append, List.mem_map] at hx
    rcases hx with h | ⟨y, h, rfl⟩
    · have := s3 x h; omega
    · have := t3 y h; omega
  · intro r hr
    simp only [Cat.sum, Cat.sumL, List.mem_append, List.mem_map] at hr
    rcases hr with ⟨y, h, rfl⟩ | ⟨y, h, rfl⟩
    · have := s4 y h
      refine ⟨by simp [Cat.sum]; omega, fun x hx => ?_⟩
      rcases List.mem_append.1 hx with h | h
      · have := this.2 x h; omega
      · have := (List.mem_replicate.1 h).2; omega
    · have := t4 y h
      refine ⟨by simp [Cat.sum, sumRow]; omega, fun x hx => ?_⟩
      rcases List.mem_append.1 hx with h | h
      · have := (List.mem_replicate.1 h).2; omega
      · obtain ⟨z, h1, rfl⟩ := List.mem_map.1 h
        have := this.2 z h1
        split <;> omega
def NewRc (eI eS : TypeId) (N : Nat) (H : GHeap) (v : Value) (H' : GHeap) : Prop := ∃ c, c.Rect N ∧ NewCatO eI eS H c v H'
end Go.GL
namespace Go.GL
def LitAt (b : Nat) (H : GHeap) (e : TypeId) : List Nat → List (List Int) → Prop
  | [], [] => True
  | g :: gs, x :: T => (b ≤ g ∧ H.get g = some (.row (ints x) e true)) ∧ LitAt b H e gs T
  | _, _ => False
theorem LitAt.get {b : Nat} {H : GHeap} {e : TypeId} : ∀ {gs : List Nat} {T : List (List Int)}, LitAt b H e gs T → gs.length = T.length ∧ ∀ i, i < T.length → b ≤ gs.getD i 0 ∧ H.get (gs.getD i 0) = some (.row (ints (T.getD i [])) e true)
  | [], [], _ => ⟨rfl, fun i h => by simp at h⟩
  | g :: gs, x :: T, h => by
    obtain ⟨h1, h2⟩ := h.2.get
    refine ⟨by simp [h1], fun i hi => ?_⟩
    cases i with
    | zero => exact h.1
    | succ i => exact h2 i (by simpa using hi)
  | [], _ :: _, h => h.elim
  | _ :: _, [], h => h.elim
theorem lit_own {b : Nat} {H : GHeap} {e : TypeId} {gs : List Nat} {T : List (List Int)} (h : LitAt b H e gs T) (hd : gs.Nodup) : OwnL b H e (fun i => some ⟨gs.getD i 0, 0, none⟩) T := by
  obtain ⟨h1, h2⟩ := h.get
  refine ⟨fun i hi => ⟨_, rfl, h2 i hi⟩, fun i j hi hj e => ?_⟩
  have e' : gs.getD i 0 = gs.getD j 0 := by simpa using e
  simp only [List.getD_eq_getElem?_getD, List.getElem?_eq_getElem (show i < gs.length by omega), List.getElem?_eq_getElem (show j < gs.length by omega), Option.getD_some] at e'
  exact (List.getElem_inj hd).1 e'
theorem row_nes {gs : List Nat} {g n : Nat} (h : g ∉ gs) (hn : n ≤ gs.length := by exact Nat.le_refl _) : ∀ i, i < n → (fun i => some (⟨gs.getD i 0, 0, none⟩ : Addr)) i ≠ some ⟨g, 0, none⟩ := fun i hi e => h (by
  have e' : gs.getD i 0 = g := by simpa using e
  rw [List.getD_eq_getElem?_getD, List.getElem?_eq_getElem (by omega)] at e'
  exact e' ▸ List.getElem_mem (by omega))
def NewTab (TS : TypeId) (gS : Nat) (H : GHeap) (v : Value) (H' : GHeap) : Prop := ∃ a T r, v = .slice a T.length T.length ∧ IntssR H.next H' a T r ∧ (1 ≤ T.length ∧ T.length ≤ 4) ∧ Tb 0 3 T.length T ∧ St [gS] H H' ∧ DSrc TS H' gS
theorem OwnCat.low {eI eS : TypeId} {b b' : Nat} {H : GHeap} {c : Cat} {g1 g2 g3 g4 : Nat} {rr : Nat → Option Addr} (h : OwnCat eI eS b H c g1 g2 g3 g4 rr) (hb : b' ≤ b) : OwnCat eI eS b' H c g1 g2 g3 g4 rr :=
  ⟨h.a1, h.a2, h.a3, h.a4, Nat.le_trans hb h.b1, Nat.le_trans hb h.b2, Nat.le_trans hb h.b3, Nat.le_trans hb h.b4, h.n12, h.n13, h.n23, h.rows.low hb, h.r1, h.r2, h.r3⟩
theorem mul_bdg {a b A B : Int} (h : 0 ≤ a ∧ a ≤ A) (h' : 0 ≤ b ∧ b ≤ B) : 0 ≤ a * b ∧ a * b ≤ A * B := ⟨Int.mul_nonneg h.1 h'.1, Int.mul_le_mul h.2 h'.2 h'.1 (by omega)⟩
theorem mul_bd {a b : Int} (h : 0 ≤ a ∧ a ≤ 256) (h' : 0 ≤ b ∧ b ≤ 128) : 0 ≤ a * b ∧ a * b ≤ 32768 := ⟨Int.mul_nonneg h.1 h'.1, by have := Int.mul_le_mul h.2 h'.2 h'.1 (by omega : (0 : Int) ≤ 256); omega⟩
theorem mulN_bd {a b : Nat} (h : a ≤ 256) (h' : b ≤ 128) : a * b ≤ 32768 := Nat.mul_le_mul h h'
theorem sm (a m : Nat) : (a + 1) * m = a * m + m := Nat.succ_mul a m
theorem smz (x : Nat) (z : Int) : ((x + 1 : Nat) : Int) * z = x * z + z := by rw [Int.natCast_add, Int.add_mul]; simp
end Go.GL
namespace Go.GL
theorem slsL_lens {r : Nat → Option Addr} {X Y : List (List Int)} (hl : X.length = Y.length) (h : ∀ i, (X.getD i []).length = (Y.getD i []).length) : slsL r X = slsL r Y := by
  unfold slsL slsOf
  rw [hl]
  exact List.map_congr_left fun i _ => by rw [h i]
theorem getD_set_len {T : List (List Int)} {i : Nat} {ys : List Int} (h : ys.length = (T.getD i []).length) (j : Nat) : ((T.set i ys).getD j []).length = (T.getD j []).length := by
  rw [List.getD_eq_getElem?_getD, List.getElem?_set, List.getD_eq_getElem?_getD]
  by_cases e : i = j
  · subst e
    rw [if_pos rfl]
    split
    · simpa [List.getD_eq_getElem?_getD] using h
    · rw [List.getElem?_eq_none (by omega)]
  · rw [if_neg e]
theorem OwnL.setR {b gi i : Nat} {H H' : GHeap} {e : TypeId} {r : Nat → Option Addr} {xss : List (List Int)} {ys : List Int} (h : OwnL b H e r xss) (s : St [gi] H H') (hi : i < xss.length) (hr : r i = some ⟨gi, 0, none⟩) (hg : H'.get gi = some (.row (ints ys) e true)) : OwnL b H' e r (xss.set i ys) := by
  unfold OwnL
  rw [List.length_set]
  refine ⟨fun j hj => ?_, h.inj⟩
  obtain ⟨x, h1, h2, h3⟩ := h.row j hj
  rw [List.getD_eq_getElem?_getD, List.getElem?_set]
  by_cases ej : i = j
  · subst ej
    rw [hr] at h1; cases h1
    exact ⟨gi, hr, h2, by rw [if_pos rfl, if_pos hi]; exact hg⟩
  · refine ⟨x, h1, h2, ?_⟩
    rw [if_neg ej, ← List.getD_eq_getElem?_getD]
    exact s.same x _ ⟨fun ex => by
      subst ex
      exact ej (h.inj i j hi hj (by rw [hr, h1])), trivial⟩ h3
structure RelSt (TS eI eS : TypeId) (H H' : GHeap) (gS g5 n k : Nat) (rr : Nat → Option Addr) (T : List (List Int)) : Prop where
  st : St [gS] H H'
  a5 : H'.get g5 = some (.row (slsL rr T) eS true)
  b5 : H.next ≤ g5
  own : OwnL H.next H' eI rr T
  len : T.length = k
  row : ∀ i, i < T.length → (T.getD i []).length = n
  hs : DSrc TS H' gS
theorem RelSt.set1 {TS eI eS : TypeId} {H H1 H2 : GHeap} {gS g5 n k gi i : Nat} {rr : Nat → Option Addr} {T : List (List Int)} {ys : List Int} (h : RelSt TS eI eS H H1 gS g5 n k rr T) (hi : i < T.length) (hg : rr i = some ⟨gi, 0, none⟩) (hb : H.next ≤ gi) (s : St [gi] H1 H2) (hat : H2.get gi = some (.row (ints ys) eI true)) (hl : ys.length = n) (h5 : g5 ≠ gi) (hS : gS < H.next) : RelSt TS eI eS H H2 gS g5 n k rr (T.set i ys) := by
  have hl' : ys.length = (T.getD i []).length := by rw [hl, h.row i hi]
  refine ⟨h.st.st s (fun k hk ho => ⟨by omega, trivial⟩), ?_, h.b5, h.own.setR s hi hg hat, by rw [List.length_set]; exact h.len, fun j hj => ?_, h.hs.st s (fun k hk ho => ⟨by omega, trivial⟩)⟩
  · rw [slsL_lens (Y := T) (by simp) (getD_set_len hl')]
    exact s.same _ _ ⟨h5, trivial⟩ h.a5
  · rw [List.length_set] at hj
    rw [getD_set_len hl']
    exact h.row j hj
theorem RelSt.ex {TS eI eS : TypeId} {H H1 : GHeap} {gS g5 n k : Nat} {rr : Nat → Option Addr} {T : List (List Int)} (h : RelSt TS eI eS H H1 gS g5 n k rr T) : ∃ T', RelSt TS eI eS H H1 gS g5 n k rr T' := ⟨_, h⟩
theorem rows_snoc {n : Nat} {T : List (List Int)} {x : List Int} (h : ∀ i, i < T.length → (T.getD i []).length = n) (hx : x.length = n) : ∀ i, i < (T ++ [x]).length → ((T ++ [x]).getD i []).length = n := fun i hi => by
  rw [List.length_append, List.length_singleton] at hi
  rw [getD_snoc]
  split
  · exact h i (by assumption)
  · rw [if_pos (by omega)]; exact hx
def NewRel (TS : TypeId) (gS n : Nat) (H : GHeap) (v : Value) (H' : GHeap) : Prop := ∃ a T r, v = .slice a T.length T.length ∧ IntssR H.next H' a T r ∧ T.length = n ∧ (∀ i, i < T.length → (T.getD i []).length = T.length) ∧ St [gS] H H' ∧ DSrc TS H' gS
end Go.GL
namespace Go.GL
structure Pth where
  f : Int
  t : Int
  e : List Int
  g : Nat
def Pth.cs (p : Pth) : List Value := [.int .i64 p.f, .int .i64 p.t, .slice (some ⟨p.g, 0, none⟩) p.e.length p.e.length]
def pz : Pth := ⟨0, 0, [], 0⟩
def pcells (ps : List Pth) : List Value := ps.flatMap Pth.cs
theorem pcells_append (l r : List Pth) : pcells (l ++ r) = pcells l ++ pcells r := by simp [pcells]
theorem pcells_snoc (ps : List Pth) (p : Pth) : pcells (ps ++ [p]) = pcells ps ++ p.cs := by simp [pcells]
theorem pcells_len (ps : List Pth) : (pcells ps).length = ps.length * 3 := by
  induction ps with
  | nil => rfl
  | cons x r ih =>
    unfold pcells at ih ⊢
    simp only [List.flatMap_cons, List.length_append, Pth.cs, List.length_cons, List.length_nil] at ih ⊢
    omega
theorem split_at {ps : List Pth} {i : Nat} (hi : i < ps.length) : ∃ l r, ps = l ++ (ps.getD i pz :: r) ∧ l.length = i := by
  refine ⟨ps.take i, ps.drop (i + 1), ?_, by simp; omega⟩
  rw [List.getD_eq_getElem?_getD, List.getElem?_eq_getElem hi, Option.getD_some, ← List.drop_eq_getElem_cons hi, List.take_append_drop]
theorem pcells_get {ps : List Pth} {i j : Nat} (hi : i < ps.length) (hj : j < 3) : (pcells ps)[i * 3 + j]? = (ps.getD i pz).cs[j]? := by
  obtain ⟨l, r, e, hl⟩ := split_at hi
  have h1 := pcells_len l
  have h2 : pcells (ps.getD i pz :: r) = (ps.getD i pz).cs ++ pcells r := by simp [pcells]
  have h3 : (ps.getD i pz).cs.length = 3 := rfl
  conv => lhs; rw [e]
  rw [pcells_append, h2, List.getElem?_append_right (by omega), show i * 3 + j - (pcells l).length = j by omega, List.getElem?_append_left (by omega)]
theorem pcells_slA {H : GHeap} {g : Nat} {e : TypeId} {own : Bool} {ps : List Pth} (hg : H.get g = some (.row (pcells ps) e own)) : SlA H (some ⟨g, 0, none⟩) (ps.length * 3) (fun i => (pcells ps).getD i undef) :=
  .inr ⟨g, 0, rfl, fun i hi => by
    rw [GHeap.cell_of hg, Nat.zero_add]
    show _ = some ((pcells ps).getD i undef)
    rw [List.getD_eq_getElem?_getD, List.getElem?_eq_getElem (by rw [pcells_len]; exact hi)]; rfl⟩
theorem pcells_mem {H : GHeap} {g : Nat} {e : TypeId} {own : Bool} {ps : List Pth} (hg : H.get g = some (.row (pcells ps) e own)) {i : Nat} (hi : i < ps.length) : MemN H g (0 + (i : Int).toNat * 3) 3 (ps.getD i pz).cs := by
  refine ⟨rfl, fun j v hv => ?_⟩
  have hj : j < 3 := by
    have := (List.getElem?_eq_some_iff.1 hv).1
    exact this
  rw [GHeap.cell_of hg, Int.toNat_natCast, Nat.zero_add, pcells_get hi hj]
  exact hv
theorem pcells_set {ps : List Pth} {i : Nat} (q : Pth) (hi : i < ps.length) : setAll (pcells ps) (i * 3) q.cs = pcells (ps.set i q) := by
  obtain ⟨l, r, e, hl⟩ := split_at hi
  have h1 := pcells_len l
  have h2 : pcells ps = pcells l ++ ((ps.getD i pz).cs ++ pcells r) := by
    conv => lhs; rw [e]
    rw [pcells_append]
    simp [pcells]
  have h3 : ps.set i q = l ++ q :: r := by
    conv => lhs; rw [e]
    rw [← hl, List.set_append_right _ _ (Nat.le_refl _)]
    simp
  rw [h2, h3, show i * 3 = (pcells l).length by omega, setAll_gen q.cs (pcells l) (ps.getD i pz).cs (pcells r) rfl, pcells_append]
  simp [pcells]
def PthOk (b : Nat) (eI : TypeId) (N : Int) (H : GHeap) (ps : List Pth) : Prop := ∀ p ∈ ps, (0 ≤ p.f ∧ p.f ≤ N) ∧ (0 ≤ p.t ∧ p.t ≤ N) ∧ p.e.length ≤ ps.length ∧ b ≤ p.g ∧ H.get p.g = some (.row (ints p.e) eI true)
theorem PthOk.nil (b : Nat) (eI : TypeId) (N : Int) (H : GHeap) : PthOk b eI N H [] := fun p hp => by simp at hp
theorem PthOk.keep {b : Nat} {eI : TypeId} {N : Int} {H H' : GHeap} {ps : List Pth} (h : PthOk b eI N H ps) (s : Lasts eI H H') : PthOk b eI N H' ps := fun p hp => by
  obtain ⟨h1, h2, h3, h4, h5⟩ := h p hp
  exact ⟨h1, h2, h3, h4, s _ _ h5⟩
theorem PthOk.at {b : Nat} {eI : TypeId} {N : Int} {H : GHeap} {ps : List Pth} (h : PthOk b eI N H ps) {i : Nat} (hi : i < ps.length) : (0 ≤ (ps.getD i pz).f ∧ (ps.getD i pz).f ≤ N) ∧ (0 ≤ (ps.getD i pz).t ∧ (ps.getD i pz).t ≤ N) ∧ (ps.getD i pz).e.length ≤ ps.length ∧ b ≤ (ps.getD i pz).g ∧ H.get (ps.getD i pz).g = some (.row (ints (ps.getD i pz).e) eI true) :=
  h _ (by rw [List.getD_eq_getElem?_getD, List.getElem?_eq_getElem hi]; exact List.getElem_mem hi)
theorem PthOk.snoc {b : Nat} {eI : TypeId} {N : Int} {H : GHeap} {ps : List Pth} (h : PthOk b eI N H ps) {p : Pth} (h1 : 0 ≤ p.f ∧ p.f ≤ N) (h2 : 0 ≤ p.t ∧ p.t ≤ N) (h3 : p.e.length ≤ ps.length + 1) (h4 : b ≤ p.g) (h5 : H.get p.g = some (.row (ints p.e) eI true)) : PthOk b eI N H (ps ++ [p]) := fun q hq => by
  rw [List.length_append, List.length_singleton]
  rcases List.mem_append.1 hq with hq | hq
  · obtain ⟨a1, a2, a3, a4, a5⟩ := h q hq
    exact ⟨a1, a2, by omega, a4, a5⟩
  · obtain rfl := List.mem_singleton.1 hq
    exact ⟨h1, h2, h3, h4, h5⟩
theorem PthOk.set {b : Nat} {eI : TypeId} {N : Int} {H : GHeap} {ps : List Pth} (h : PthOk b eI N H ps) {i j : Nat} (hj : j < ps.length) : PthOk b eI N H (ps.set i (ps.getD j pz)) := fun q hq => by
  rw [List.length_set]
  rcases List.mem_or_eq_of_mem_set hq with hq | rfl
  · exact h q hq
  · exact h.at hj
def pw (t : Int) : Nat := if t ≤ 0 then 13 else if t ≤ 1 then 4 else 1
def pws (ps : List Pth) : Nat := (ps.map fun p => pw p.t).sum
def pwn (x : Nat) : Nat := if x = 0 then 0 else if x = 1 then 13 else if x = 2 then 17 else 18
theorem pw_pos (t : Int) : 1 ≤ pw t := by
  unfold pw
  repeat' split
  all_goals omega
theorem pw_up {t u : Int} (h0 : 0 ≤ t) (h : t < u) (h2 : u ≤ 2) : 3 * pw u + 1 ≤ pw t := by
  unfold pw
  rw [if_neg (show ¬ u ≤ 0 by omega)]
  by_cases e : t ≤ 0
  · rw [if_pos e]
    split <;> omega
  · rw [if_neg e, if_pos (show t ≤ 1 by omega), if_neg (show ¬ u ≤ 1 by omega)]
    omega
theorem pwn_succ {x : Nat} (h : x ≤ 2) : pwn x + pw (x : Int) = pwn (x + 1) := by
  have : x = 0 ∨ x = 1 ∨ x = 2 := by omega
  rcases this with rfl | rfl | rfl <;> rfl
theorem pwn_le (x : Nat) : pwn x ≤ 18 := by
  unfold pwn
  repeat' split
  all_goals omega
theorem pws_snoc (ps : List Pth) (p : Pth) : pws (ps ++ [p]) = pws ps + pw p.t := by simp [pws]
theorem pws_ge (ps : List Pth) : ps.length ≤ pws ps := by
  induction ps with
  | nil => exact Nat.le_refl _
  | cons p r ih =>
    have := pw_pos p.t
    simp only [pws, List.map_cons, List.sum_cons, List.length_cons] at ih ⊢
    omega
theorem pws_drop {ps : List Pth} {k : Nat} (h : k < ps.length) : pws (ps.drop k) = pw (ps.getD k pz).t + pws (ps.drop (k + 1)) := by
  rw [List.drop_eq_getElem_cons h, List.getD_eq_getElem?_getD, List.getElem?_eq_getElem h]
  rfl
theorem pws_drop_snoc {ps : List Pth} {p : Pth} {k : Nat} (h : k ≤ ps.length) : pws ((ps ++ [p]).drop k) = pws (ps.drop k) + pw p.t := by
  rw [List.drop_append_of_le_length h, pws_snoc]
theorem pws_len {ps : List Pth} {k : Nat} (h : k ≤ ps.length) (h' : k + pws (ps.drop k) ≤ 18) : ps.length ≤ 18 := by
  have := pws_ge (ps.drop k)
  rw [List.length_drop] at this
  omega
def NewPaths (eI eP : TypeId) (N : Int) (H : GHeap) (v : Value) (H' : GHeap) : Prop := H.Le H' ∧ ∃ g ps, v = .slice (some ⟨g, 0, none⟩) ps.length ps.length ∧ H.next ≤ g ∧ H'.get g = some (.row (pcells ps) eP true) ∧ PthOk H.next eI N H' ps ∧ ps.length ≤ 18
end Go.GL
namespace Go.GL
structure PthK (b : Nat) (eI : TypeId) (N : Int) (H : GHeap) (ps : List Pth) : Prop where
  ok : PthOk b eI N H ps
theorem PthK.keep {b b' : Nat} {eI : TypeId} {N : Int} {H H' : GHeap} {ps : List Pth} (h : PthK b eI N H ps) (k : Keep b' H H') (hb : b' ≤ b) : PthK b eI N H' ps := ⟨fun p hp => by
  obtain ⟨h1, h2, h3, h4, h5⟩ := h.ok p hp
  exact ⟨h1, h2, h3, h4, k _ _ (Nat.le_trans hb h4) h5⟩⟩
theorem up_snoc {xs ys : List Int} {x y : Int} (hl : ys.length = xs.length) (h : ∀ e, e < xs.length → xs.getD e 0 < ys.getD e 0) (hxy : x < y) : ∀ e, e < (xs ++ [x]).length → (xs ++ [x]).getD e 0 < (ys ++ [y]).getD e 0 := fun e he => by
  rw [List.length_append, List.length_singleton] at he
  rw [getD_snoc, getD_snoc]
  by_cases e1 : e < xs.length
  · rw [if_pos e1, if_pos (by omega)]; exact h e e1
  · rw [if_neg e1, if_pos (by omega), if_neg (by omega), if_pos (by omega)]; exact hxy
def DrawnCat (TS : TypeId) (N : Nat) (gS : Nat) (H : GHeap) (v : Value) (H' : GHeap) : Prop := ∃ c p, v = .agg (c.cells p).toArray ∧ c.Rect N ∧ CatR H.next H' c p ∧ St [gS] H H' ∧ DSrc TS H' gS
theorem Keep.mono {b b' : Nat} {H H' : GHeap} (k : Keep b' H H') (h : b' ≤ b) : Keep b H H' := fun g o hb hg => k g o (Nat.le_trans h hb) hg
theorem Keep.trans {b : Nat} {A B C : GHeap} (k : Keep b A B) (k' : Keep b B C) : Keep b A C := fun g o hb hg => k' g o hb (k g o hb hg)
structure KIn (b : Nat) (H : GHeap) (c : Cat) (p : CatP) : Prop where
  all : ∀ H', Keep b H H' → c.In H' p
theorem KIn.inn {b : Nat} {H : GHeap} {c : Cat} {p : CatP} (h : KIn b H c p) : c.In H p := h.all _ (fun _ _ _ x => x)
theorem KIn.keep {b b' : Nat} {H H1 : GHeap} {c : Cat} {p : CatP} (h : KIn b H c p) (k : Keep b' H H1) (hb : b' ≤ b) : KIn b' H1 c p := ⟨fun H' k' => h.all H' ((k.trans k').mono hb)⟩
theorem CatR.kin {b : Nat} {H : GHeap} {c : Cat} {p : CatP} (h : CatR b H c p) : KIn b H c p := ⟨fun _ k => (h.keep k (Nat.le_refl _)).inn⟩
theorem KIn.parts {eI eS : TypeId} {b : Nat} {H : GHeap} {c : Cat} {g1 g2 g3 g4 : Nat} {rr : Nat → Option Addr} (a1 : H.get g1 = some (.row (ints c.src) eI true)) (b1 : b ≤ g1) (a2 : H.get g2 = some (.row (ints c.tgt) eI true)) (b2 : b ≤ g2) (a3 : H.get g3 = some (.row (ints c.idn) eI true)) (b3 : b ≤ g3) (a4 : H.get g4 = some (.row (slsL rr c.comp) eS true)) (b4 : b ≤ g4)
    (hr : ∀ i, i < c.comp.length → ∀ H', Keep b H H' → Ints H' (rr i) (c.comp.getD i [])) : KIn b H c (ownP g1 g2 g3 g4 rr) :=
  ⟨fun H' k => ⟨Ints.of_get (k _ _ b1 a1), Ints.of_get (k _ _ b2 a2), Ints.of_get (k _ _ b3 a3), .inr ⟨g4, 0, rfl, fun i hi => slsL_cell (k _ _ b4 a4) hi⟩, fun i hi => hr i hi H' k⟩⟩
theorem KIn.own {eI eS : TypeId} {b : Nat} {H : GHeap} {c : Cat} {g1 g2 g3 g4 : Nat} {rr : Nat → Option Addr} (a1 : H.get g1 = some (.row (ints c.src) eI true)) (b1 : b ≤ g1) (a2 : H.get g2 = some (.row (ints c.tgt) eI true)) (b2 : b ≤ g2) (a3 : H.get g3 = some (.row (ints c.idn) eI true)) (b3 : b ≤ g3) (a4 : H.get g4 = some (.row (slsL rr c.comp) eS true)) (b4 : b ≤ g4) (hR : OwnL b H eI rr c.comp) : KIn b H c (ownP g1 g2 g3 g4 rr) :=
  .parts a1 b1 a2 b2 a3 b3 a4 b4 fun i hi H' k => by
    obtain ⟨x, h1, h2, h3⟩ := hR.row i hi
    rw [h1]
    exact Ints.of_get (k _ _ h2 h3)
def DrawnK (TS : TypeId) (gS : Nat) (H : GHeap) (v : Value) (H' : GHeap) : Prop := ∃ c p, v = .agg (c.cells p).toArray ∧ c.Small ∧ KIn H.next H' c p ∧ St [gS] H H' ∧ DSrc TS H' gS
theorem getD_set_le {T : List (List Int)} {i N : Nat} {ys : List Int} (h : ∀ j, (T.getD j []).length ≤ N) (hy : ys.length ≤ N) (j : Nat) : ((T.set i ys).getD j []).length ≤ N := by
  rw [List.getD_eq_getElem?_getD, List.getElem?_set]
  by_cases e : i = j
  · subst e
    rw [if_pos rfl]
    split
    · exact hy
    · exact Nat.zero_le _
  · rw [if_neg e, ← List.getD_eq_getElem?_getD]
    exact h j
theorem Ints.tail {H : GHeap} {g : Nat} {xs : List Int} {e : TypeId} {own : Bool} (h : H.get g = some (.row (ints xs) e own)) : Ints H (some ⟨g, 1, none⟩) xs.tail := .inr ⟨g, 1, rfl, fun i hi => by
  rw [List.length_tail] at hi
  rw [GHeap.cell_of h, ints_get (by omega)]
  simp only [List.getD_eq_getElem?_getD, List.getElem?_tail, Nat.add_comm]⟩
theorem bend_set {eI : TypeId} {b gi f : Nat} {H H1 : GHeap} {T : List (List Int)} {rr : Nat → Option Addr} {ys : List Int} (hR : OwnL b H eI rr T) (s : St [gi] H H1) (hf : f < T.length) (hg : rr f = some ⟨gi, 0, none⟩) (hat : H1.get gi = some (.row (ints ys) eI true)) (hl : ys.length = (T.getD f []).length) :
    ∃ T', slsL rr T' = slsL rr T ∧ T'.length = T.length ∧ (∀ j, (T'.getD j []).length = (T.getD j []).length) ∧ OwnL b H1 eI rr T' :=
  ⟨T.set f ys, slsL_lens (by simp) (getD_set_len hl), by simp, getD_set_len hl, hR.setR s hf hg hat⟩
theorem bend_cut {eI : TypeId} {b gi f : Nat} {H : GHeap} {T : List (List Int)} {rr : Nat → Option Addr} (hR : OwnL b H eI rr T) (hf : f < T.length) (hg : rr f = some ⟨gi, 0, none⟩) {n : Nat} (hn : n = (T.getD f []).length - 1) :
    ∃ rr' T', (slsL rr T).set f (.slice (some ⟨gi, 1, none⟩) n n) = slsL rr' T' ∧ T'.length = T.length ∧ (∀ N, (∀ j, (T.getD j []).length ≤ N) → ∀ j, (T'.getD j []).length ≤ N) ∧ ∀ i, i < T'.length → ∀ H', Keep b H H' → Ints H' (rr' i) (T'.getD i []) := by
  refine ⟨upd rr f (some ⟨gi, 1, none⟩), T.set f (T.getD f []).tail, slsL_set hf (by rw [hn, List.length_tail]), by simp, fun N h => getD_set_le h (by rw [List.length_tail]; have := h f; omega), fun i hi H' k => ?_⟩
  rw [List.length_set] at hi
  obtain ⟨x, h1, h2, h3⟩ := hR.row i hi
  rw [getD_set2 hf]
  by_cases e : f = i
  · subst e
    rw [hg] at h1
    cases h1
    rw [upd_eq, if_pos rfl]
    exact Ints.tail (k _ _ h2 h3)
  · rw [upd_ne (Ne.symm e), if_neg e, h1]
    exact Ints.of_get (k _ _ h2 h3)
theorem vrel_place {ρ : Place} {a : Addr} {n : Nat} {c : Value} (h : VRel ρ (.slice (some a) n n) c) : ∃ s, ρ a.block = some s := by
  generalize hv : Value.slice (some a) n n = v at h
  cases h with
  | slice h' _ _ _ => cases hv; exact ⟨_, h'⟩
  | empty h' => cases hv; exact ⟨_, h'⟩
  | _ => cases hv
theorem imp1_code {P : Program} {t : TypeId} (ht : bytesDT P t = true) : Imp1 P t (fun H g => ∃ a xs, g = .slice a xs.length xs.length ∧ Bytes H a xs ∧ xs.length ≤ 9223372036854775807 ∧ ∀ b o t, a = some ⟨b, o, t⟩ → b < H.next) where
  mono h := fun ⟨a, xs, h1, h2, h3, h4⟩ => ⟨a, xs, h1, h2.mono h, h3, fun b o t e => Nat.lt_of_lt_of_le (h4 b o t e) h.1⟩
  imp := by
    intro T enc B w0 ρ H w held base fuel v x hs hB h hv
    obtain ⟨ρ', H', g, h1, h2, h3, h4, a, xs, rfl, h5, h6⟩ := (imp1_bytes ht).imp hs hB h hv
    refine ⟨ρ', H', _, h1, h2, h3, h4, a, xs, rfl, h5, h6, fun b o t e => ?_⟩
    subst e
    refine Nat.lt_of_not_le fun hb => ?_
    obtain ⟨s, hs'⟩ := vrel_place h4
    rw [h1.dom b hb] at hs'
    cases hs'
end Go.GL
namespace Go.GL
noncomputable def Cat.code (c : Cat) (xs : List Int) : Int := if B c.Is = true then (if allIn xs c.src.length = true then 0 else 2) else 1
theorem Cat.code_ok {c : Cat} {xs : List Int} : c.code xs = 0 ↔ c.Is ∧ allIn xs c.src.length = true := by
  unfold Cat.code
  by_cases h : c.Is
  · rw [if_pos (B_iff.2 h)]
    split
    · exact ⟨fun _ => ⟨h, by assumption⟩, fun _ => rfl⟩
    · exact ⟨fun e => by omega, fun e => absurd e.2 (by assumption)⟩
  · rw [if_neg (fun e => h (B_iff.1 e))]
    exact ⟨fun e => by omega, fun e => absurd e.1 h⟩
theorem Cat.code_not {c : Cat} {xs : List Int} (h : ¬ c.Is) : c.code xs = 1 := by
  unfold Cat.code
  rw [if_neg (fun e => h (B_iff.1 e))]
theorem Cat.code_out {c : Cat} {xs : List Int} (h : c.Is) (h' : ¬ allIn xs c.src.length = true) : c.code xs = 2 := by
  unfold Cat.code
  rw [if_pos (B_iff.2 h), if_neg h']
def Cat.ext (c : Cat) (f g : Int) : List Int := (c.hom (c.T g) (c.T f)).filter fun h => decide (c.th g h = f)
noncomputable def codeL (k : Int) (xs : List Int) : List Int := if k = 0 then xs else []
theorem codeL_ok {k : Int} {xs : List Int} (h : k = 0) : codeL k xs = xs := by unfold codeL; rw [if_pos h]
theorem codeL_err {k : Int} {xs : List Int} (h : k ≠ 0) : codeL k xs = [] := by unfold codeL; rw [if_neg h]
end Go.GL
namespace Go.Proofs.Ytkfbalfcbaphcaa
open Go Go.GL Go.RowKit Go.Proofs
theorem sl_22_Fa : sliceT Try.prog 22 = some (5, 1) := by kernel_rfl
theorem big_c {a : Option Addr} {xs : List Int} {H : GHeap} : GCalls Try.prog 7 [.slice a xs.length xs.length] H (Ret (.bool (decide (4096 < (xs.length : Int)))) H) := by
  refine GCalls.body (N := 6) (rs := [.tmp 2]) Try.func7 rfl rfl rfl rfl (fun Qx hret hend => ?_)
  refine .fg [0] rfl ?_
  refine .seq (fun K1 hK1 => .region (.mv rfl (.nil (hK1 _ _ (.seq (fun K2 hK2 => .region (.mv rfl (.q rfl (.len sl_22_Fa rfl) (.q rfl (.cmp rfl rfl rfl) (.mv rfl (.nil (hK2 _ _ ?_))))))))))))
  refine .ret ?_
  refine hret _ _ ?_
  refine ⟨_, rfl, ?_⟩
  exact .mk
theorem likeInts_c {a b : Option Addr} {xs ys : List Int} {H : GHeap} (h : Ints H a xs := by assumption) (h' : Ints H b ys := by assumption) (hx : xs.length ≤ 1048576 := by omega) (hy : ys.length ≤ 1048576 := by omega) :
    GCalls Try.prog 11 [.slice a xs.length xs.length, .slice b ys.length ys.length] H (Ret (.bool (decide (xs = ys))) H) := by
  refine GCalls.body (N := 26) (rs := [.tmp 4]) Try.func11 rfl rfl rfl rfl (fun Qx hret hend => ?_)
  refine .fg [0, 1] rfl ?_
  refine .seq (fun K1 hK1 => .region (.mv rfl (.nil (hK1 _ _ (.seq (fun K2 hK2 => .seq (fun K3 hK3 => .region (.mv rfl (.q rfl (.len sl_24_A rfl) (.mv rfl (.q rfl (.len sl_24_A rfl) (.q rfl (.cmp rfl rfl rfl) (.nil (hK3 _ _ ?_))))))))))))))
  refine .cond rfl (fun h10 => ?_) (fun h10 => ?_)
  ·
   try simp only [sps] at h10
   refine .seq (fun K4 hK4 => .region (.mv rfl (.nil (hK4 _ _ ?_))))
   refine .ret ?_
   refine hret _ _ ?_
   refine ⟨_, rfl, ?_⟩
   exact .of (congrArg _ (decide_eq_false fun e => by subst e; first | omega | simp_all))
  try simp only [sps] at h10
  refine .skip ?_
  refine hK2 _ _ (.seq (fun K5 hK5 => .seq (fun K6 hK6 => .region (.mv rfl (.nil (hK6 _ _ ?_))))))
  refine .block ?_
  refine .loopR (σ := Nat) [(0, some _), (1, some _)] (fun k => [(5, some (.int .i64 (k : Int)))]) (fun k H' => H = H' ∧ k ≤ xs.length ∧ ∀ i, i < k → xs.getD i 0 = ys.getD i 0) (fun k => xs.length - k) (0) ⟨rfl, rfl, trivial⟩ ⟨rfl, trivial⟩ ?_ ?_
  ·
   refine ⟨rfl, ?_⟩
   exact ⟨by omega, fun i hi => by omega⟩
  rintro k _ ⟨rfl, hI⟩ KL1 hKL1
  refine .forget (fr' := [(5, some (.int .i64 (k : Int))), (0, some _), (1, some _)]) ⟨rfl, rfl, rfl, trivial⟩ ?_
  obtain ⟨hk, hall⟩ := hI
  refine .seq (fun K7 hK7 => .seq (fun K8 hK8 => .region (.mv rfl (.mv rfl (.q rfl (.len sl_24_A rfl) (.q rfl (.cmp rfl rfl rfl) (.nil (hK8 _ _ ?_))))))))
  refine .cond rfl (fun h14 => ?_) (fun h14 => ?_)
  ·
   try simp only [sps] at h14
   refine .skip ?_
   refine hK7 _ _ (.seq (fun K9 hK9 => ?_))
   refine .block ?_
   refine .seq (fun K10 hK10 => ?_)
   refine .regionD mo_B (.q 0 (.q 1 (.q 2 (.q 3 (.q 4 (.q 5 (.q 6 (.q 7 (.q 8 (.done)))))))))) (by kernel_rfl) ?_
   refine .mv rfl rfl (.mv rfl rfl ?_)
   refine .q rfl (.idxN sl_24_A (by assumption) rfl rfl (by omega)) ?_
   refine .q rfl (.loadI on_2_A (by assumption) rfl (by omega)) ?_
   refine .mv rfl rfl (.mv rfl rfl ?_)
   refine .q rfl (.idxN sl_24_A (by assumption) rfl rfl (by omega)) ?_
   refine .q rfl (.loadI on_2_A (by assumption) rfl (by omega)) ?_
   refine .q rfl (.cmp rfl rfl rfl) ?_
   refine .done ?_
   refine hK10 _ _ ?_
   refine .cond rfl (fun h25 => ?_) (fun h25 => ?_)
   ·
    try simp only [sps] at h25
    refine .seq (fun K11 hK11 => .region (.mv rfl (.nil (hK11 _ _ ?_))))
    refine .ret ?_
    refine hret _ _ ?_
    refine ⟨_, rfl, ?_⟩
    exact .of (congrArg _ (decide_eq_false fun e => by subst e; first | omega | simp_all))
   try simp only [sps] at h25
   refine .skip ?_
   refine hK9 _ _ (.region (.mv rfl ?_))
   refine .q rfl (.add rfl rfl rfl (by omega) (by omega)) ?_
   refine .mv rfl (.nil ?_)
   refine hKL1 (k + 1) _ _ ?_ ?_ ⟨rfl, rfl, rfl, trivial⟩
   ·
    refine ⟨rfl, ?_⟩
    refine ⟨by omega, fun i hi => ?_⟩
    by_cases e : i < k
    · exact hall i e
    · obtain rfl : i = k := by omega
      assumption
   omega
  try simp only [sps] at h14
  refine .exit ?_
  refine hK5 _ _ (.seq (fun K12 hK12 => .region (.mv rfl (.nil (hK12 _ _ ?_)))))
  refine .ret ?_
  refine hret _ _ ?_
  refine ⟨_, rfl, ?_⟩
  exact .of (congrArg _ (decide_eq_true (eq_of_getD (by omega) fun i hi => hall i (by omega))))
theorem arrowCode_c {g o : Nat} {c : Cat} {p : CatP} {a : Option Addr} {xs : List Int} {H : GHeap} (h : Cat.At H g o c p := by assumption) (hs : c.Small := by assumption) (hx : Ints H a xs := by assumption) (hl : xs.length ≤ 1048576 := by omega) :
    GCalls Try.prog 47 [.pointer (some ⟨g, o, none⟩), .slice a xs.length xs.length] H (Ret (.int .i64 (c.code xs)) H) := by
  obtain ⟨n1, n2, n3, n4, n5, n6⟩ := id hs
  refine GCalls.body (N := 13) (rs := [.tmp 4]) Try.func47 rfl rfl rfl rfl (fun Qx hret hend => ?_)
  refine .fg [0, 1] rfl ?_
  refine .seq (fun K1 hK1 => .region (.mv rfl (.nil (hK1 _ _ (.seq (fun K2 hK2 => .seq (fun K3 hK3 => .region (.mv rfl ?_))))))))
  refine .callQ rfl rfl rfl rfl @Try.call54 rfl (isCategory_c) ?_
  refine .q rfl (.not rfl) (.nil (hK3 _ _ ?_))
  refine .cond rfl (fun h7 => ?_) (fun h7 => ?_)
  ·
   try simp only [sps] at h7
   refine .seq (fun K4 hK4 => .region (.mv rfl (.nil (hK4 _ _ ?_))))
   refine .ret ?_
   refine hret _ _ ?_
   refine ⟨_, rfl, ?_⟩
   exact .of (congrArg _ (Cat.code_not h7))
  try simp only [sps] at h7
  refine .skip ?_
  refine hK2 _ _ (.seq (fun K5 hK5 => .seq (fun K6 hK6 => .region (.mv rfl (.mv rfl ?_)))))
  refine .callQ rfl rfl rfl rfl @Try.call81 rfl (arrows_c) ?_
  refine .callQ rfl rfl rfl rfl @Try.call80 rfl (within_c) ?_
  refine .q rfl (.not rfl) (.nil (hK6 _ _ ?_))
  refine .cond rfl (fun h12 => ?_) (fun h12 => ?_)
  ·
   try simp only [sps] at h12
   refine .seq (fun K7 hK7 => .region (.mv rfl (.nil (hK7 _ _ ?_))))
   refine .ret ?_
   refine hret _ _ ?_
   refine ⟨_, rfl, ?_⟩
   exact .of (congrArg _ (Cat.code_out h7 (by rw [h12]; simp)))
  try simp only [sps] at h12
  refine .skip ?_
  refine hK5 _ _ (.seq (fun K8 hK8 => .region (.mv rfl (.nil (hK8 _ _ ?_)))))
  refine .ret ?_
  refine hret _ _ ?_
  refine ⟨_, rfl, ?_⟩
  exact .of (congrArg _ (Cat.code_ok.2 ⟨h7, allIn_iff.2 h12⟩))
end Go.Proofs.Ytkfbalfcbaphcaa
namespace Go.Proofs.Ytkfbalfcbaphcaa
open Go Go.GL Go.RowKit Go.Proofs
end Go.Proofs.Ytkfbalfcbaphcaa
namespace Go.Proofs.Ytkfbalfcbaphcaa
open Go Go.GL Go.RowKit Go.Proofs
theorem l02Then_c {c : Cat} {p : CatP} {f k : Int} {H : GHeap} (hin : c.In H p := by assumption) (hS : c.Shape := by assumption) (h0 : 0 ≤ f := by omega) (h1 : f < c.src.length := by omega) (h2 : 0 ≤ k := by omega) (h3 : k < c.src.length := by omega) :
    GCalls Try.prog 44 [.agg (c.cells p).toArray, .int .i64 f, .int .i64 k] H (Ret (.int .i64 (c.th f k)) H) := by
  refine GCalls.ret rfl ?_
  refine GCalls.body (N := 15) (rs := [.tmp 6]) Try.func44 rfl rfl rfl rfl (fun Qx hret hend => ?_)
  refine .fg [0, 1, 2] rfl ?_
  have hle := GHeap.Le.refl H
  have base_hin := hin
  have q6 := hS.cl
  have q7 := hS.row f.toNat (by omega)
  refine .seq (fun K1 hK1 => .region ?_)
  refine .R rfl (.boxR rfl sz_27_D rfl) ?_
  rintro _ H3 ⟨g3, rfl, le3, ge3, at3⟩
  replace hle := hle.trans le3
  replace hin := base_hin.mono hle
  have hb3 : Cat.At _ g3 0 c p := ⟨Mem.of_get at3, hin⟩
  obtain ⟨-, -, -, -, c43, -, -, -, i43⟩ := hb3.get
  refine .mv rfl (.nil (hK1 _ _ (.seq (fun K2 hK2 => .region ?_))))
  have q8 := i43.2 f.toNat (by omega)
  refine .q rfl (.fieldAddr fo_27_4_B rfl) ?_
  refine .q rfl (.load on_25_B rfl (by first | assumption | exact Mem.of_get at3 4 _ rfl)) ?_
  refine .mv rfl ?_
  refine .q rfl (.idx1 sl_25_B (Intss.sl (by assumption)) rfl rfl (by omega) (by omega)) ?_
  refine .q rfl (.loadR on_24_B (by assumption) rfl (by omega)) ?_
  refine .mv rfl ?_
  refine .q rfl (.idx1 sl_24_A (by assumption) rfl rfl (by omega) (by omega)) ?_
  refine .q rfl (.loadI on_2_A (by assumption) rfl (by omega)) ?_
  refine .mv rfl (.nil (hK2 _ _ ?_))
  refine .ret ?_
  refine hret _ _ ?_
  refine ⟨_, rfl, ?_⟩
  exact ⟨rfl, hle⟩
end Go.Proofs.Ytkfbalfcbaphcaa
namespace Go.Proofs.Ytkfbalfcbaphcaa
open Go Go.GL Go.RowKit Go.Proofs
end Go.Proofs.Ytkfbalfcbaphcaa
namespace Go.Proofs.Ytkfbalfcbaphcaa
open Go Go.GL Go.RowKit Go.Proofs
end Go.Proofs.Ytkfbalfcbaphcaa
namespace Go.Proofs.Ytkfbalfcbaphcaa
open Go Go.GL Go.RowKit Go.Proofs
end Go.Proofs.Ytkfbalfcbaphcaa
namespace Go.Proofs.Ytkfbalfcbaphcaa
open Go Go.GL Go.RowKit Go.Proofs
end Go.Proofs.Ytkfbalfcbaphcaa
namespace Go.Proofs.Ytkfbalfcbaphcaa
open Go Go.GL Go.RowKit Go.Proofs
theorem ze_2_Pa : zeroT Try.prog 2 = some ([.int .i64 0], 1) := by kernel_rfl
theorem by_2_Pa : (Try.prog.info? 2).map (·.bytes) = some 8 := by kernel_rfl
theorem l01Own_c {a : Option Addr} {xs : List Int} {H : GHeap} (h : Ints H a xs := by assumption) (hl : xs.length ≤ 1048576 := by omega) :
    GCalls Try.prog 42 [.slice a xs.length xs.length] H (NewInts 2 H xs) := by
  refine GCalls.body (N := 6) (rs := [.tmp 2]) Try.func42 rfl rfl rfl rfl (fun Qx hret hend => ?_)
  refine .fg [0] rfl ?_
  have hle := GHeap.Le.refl H
  have base_h := h
  refine .seq (fun K1 hK1 => .region (.mv rfl (.nil (hK1 _ _ (.seq (fun K2 hK2 => .region ?_))))))
  refine .R rfl (.litA rfl sl_24_A ze_2_Pa rfl rfl rfl rfl) ?_
  rintro _ H3 ⟨g3, rfl, le3, ge3, at3⟩
  replace hle := hle.trans le3
  have lt_at3 := GHeap.ltg at3
  replace h := base_h.mono hle
  replace at3 : GHeap.get H3 g3 = some (.row (ints []) 2 true) := at3
  refine .mv rfl ?_
  refine .R rfl (.appendL rfl sl_24_A ze_2_Pa rfl by_2_Pa sl_24_A rfl rfl (by assumption) (by first | assumption | exact Ints.of_get (by assumption)) (by first | omega | (simp <;> omega)) (by omega) (by omega)) ?_
  rintro _ H5 ⟨g5, rfl, st5, ge5, at5⟩
  replace hle := hle.st st5 (fun k hk => ⟨by omega, trivial⟩)
  refine .mv rfl (.nil (hK2 _ _ ?_))
  refine .ret ?_
  refine hret _ _ ?_
  refine ⟨_, rfl, ?_⟩
  exact ⟨hle, _, by rw [Nat.zero_add], by simpa using at5, by omega⟩
theorem clone_c {a : Option Addr} {xs : List Int} {H : GHeap} (h : Ints H a xs := by assumption) (hl : xs.length ≤ 1048576 := by omega) :
    GCalls Try.prog 39 [.slice a xs.length xs.length] H (NewInts 2 H xs) := by
  refine GCalls.body (N := 6) (rs := [.tmp 2]) Try.func39 rfl rfl rfl rfl (fun Qx hret hend => ?_)
  refine .fg [0] rfl ?_
  have hle := GHeap.Le.refl H
  have base_h := h
  refine .seq (fun K1 hK1 => .region (.mv rfl (.nil (hK1 _ _ (.seq (fun K2 hK2 => .region ?_))))))
  refine .R rfl (.litA rfl sl_24_A ze_2_Pa rfl rfl rfl rfl) ?_
  rintro _ H3 ⟨g3, rfl, le3, ge3, at3⟩
  replace hle := hle.trans le3
  have lt_at3 := GHeap.ltg at3
  replace h := base_h.mono hle
  replace at3 : GHeap.get H3 g3 = some (.row (ints []) 2 true) := at3
  refine .mv rfl ?_
  refine .R rfl (.appendL rfl sl_24_A ze_2_Pa rfl by_2_Pa sl_24_A rfl rfl (by assumption) (by first | assumption | exact Ints.of_get (by assumption)) (by first | omega | (simp <;> omega)) (by omega) (by omega)) ?_
  rintro _ H5 ⟨g5, rfl, st5, ge5, at5⟩
  replace hle := hle.st st5 (fun k hk => ⟨by omega, trivial⟩)
  refine .mv rfl (.nil (hK2 _ _ ?_))
  refine .ret ?_
  refine hret _ _ ?_
  refine ⟨_, rfl, ?_⟩
  exact ⟨hle, _, by rw [Nat.zero_add], by simpa using at5, by omega⟩
end Go.Proofs.Ytkfbalfcbaphcaa
namespace Go.GL
structure Cans (xs : List Int) (n : Nat) (X : Int → Nat → Int) : Prop where
  all : ∀ i j, i < j → j < xs.length → ∃ w, w < n ∧ X (xs.getD i 0) w ≠ X (xs.getD j 0) w
structure Cat.Jm (c : Cat) (x : Int) (fs : List Int) : Prop where
  all : ∀ g h : Nat, g < c.src.length → h < c.src.length → c.src.getD g 0 = c.src.getD h 0 → c.tgt.getD g 0 = x → c.tgt.getD h 0 = x → (∀ w, w < fs.length → c.th g (fs.getD w 0) = c.th h (fs.getD w 0)) → g = h
structure Cat.Je (c : Cat) (x : Int) (fs : List Int) : Prop where
  all : ∀ g h : Nat, g < c.src.length → h < c.src.length → c.tgt.getD g 0 = c.tgt.getD h 0 → c.src.getD g 0 = x → c.src.getD h 0 = x → (∀ w, w < fs.length → c.th (fs.getD w 0) g = c.th (fs.getD w 0) h) → g = h
structure Cat.Mono (c : Cat) (f : Int) : Prop where
  all : ∀ g h : Nat, g < c.src.length → h < c.src.length → c.src.getD g 0 = c.src.getD h 0 → c.tgt.getD g 0 = c.S f → c.tgt.getD h 0 = c.S f → c.th g f = c.th h f → g = h
structure Cat.Epi (c : Cat) (f : Int) : Prop where
  all : ∀ g h : Nat, g < c.src.length → h < c.src.length → c.tgt.getD g 0 = c.tgt.getD h 0 → c.src.getD g 0 = c.T f → c.src.getD h 0 = c.T f → c.th f g = c.th f h → g = h
theorem Cat.Jm.one {c : Cat} {f : Int} : c.Jm (c.S f) [f] ↔ c.Mono f :=
  ⟨fun h => ⟨fun a b h1 h2 h3 h4 h5 h6 => h.all a b h1 h2 h3 h4 h5 fun w hw => by
    obtain rfl : w = 0 := by rw [List.length_singleton] at hw; omega
    exact h6⟩,
    fun h => ⟨fun a b h1 h2 h3 h4 h5 h6 => h.all a b h1 h2 h3 h4 h5 (h6 0 (by simp))⟩⟩
theorem Cat.Je.one {c : Cat} {f : Int} : c.Je (c.T f) [f] ↔ c.Epi f :=
  ⟨fun h => ⟨fun a b h1 h2 h3 h4 h5 h6 => h.all a b h1 h2 h3 h4 h5 fun w hw => by
    obtain rfl : w = 0 := by rw [List.length_singleton] at hw; omega
    exact h6⟩,
    fun h => ⟨fun a b h1 h2 h3 h4 h5 h6 => h.all a b h1 h2 h3 h4 h5 (h6 0 (by simp))⟩⟩
theorem Cat.op_get {c : Cat} {f g : Nat} (hf : f < c.src.length) (hg : g < c.src.length) : (c.op.comp.getD f []).getD g 0 = (c.comp.getD g []).getD f 0 := by
  show ((c.opTab c.src.length).getD f []).getD g 0 = _
  rw [Cat.opTab_get hf, Cat.opRow_get hg]
theorem Cat.Shape.op {c : Cat} (h : c.Shape) : c.op.Shape := by
  have tl := h.tl
  have cl := h.cl
  refine ⟨h.obj, by show c.tgt.length ≤ 40; have := h.n40; omega, tl.symm, h.tgt, h.src, h.il, fun i hi => by have := h.idn i hi; show 0 ≤ c.idn.getD i 0 ∧ c.idn.getD i 0 < (c.tgt.length : Int); omega, by show (c.opTab c.src.length).length = c.tgt.length; rw [Cat.length_opTab]; omega, fun x hx => (h.ids x hx).symm, fun f hf => ?_, fun f hf g hg => ?_⟩
  · have hf' : f < c.src.length := by simpa [Cat.op] using hf
    show ((c.opTab c.src.length).getD f []).length = c.tgt.length
    rw [Cat.opTab_get hf', Cat.length_opRow]; omega
  · have hf' : f < c.src.length := by simpa [Cat.op] using hf
    have hg' : g < c.src.length := by have : g < c.tgt.length := hg; omega
    have hc := h.cell g (by omega) f hf'
    have e0 := Cat.op_get hf' hg'
    by_cases e : c.tgt.getD g 0 = c.src.getD f 0
    · have q := (Cat.Cell.pos e).1 hc
      refine (Cat.Cell.pos (c := c.op) e.symm).2 ?_
      rw [e0]
      exact ⟨q.1, by show _ < (c.tgt.length : Int); omega, q.2.2.2, q.2.2.1⟩
    · refine (Cat.Cell.neg (c := c.op) (fun e' => e e'.symm)).2 ?_
      rw [e0]
      exact (Cat.Cell.neg e).1 hc
theorem Cat.op_th {c : Cat} {f g : Nat} (hf : f < c.src.length) (hg : g < c.src.length) : c.op.th f g = c.th g f := by
  rw [Cat.th_nat, Cat.th_nat]; exact Cat.op_get hf hg
theorem Cat.Is.op {c : Cat} (h : c.Is) : c.op.Is := by
  have hS := h.1
  have tl := hS.tl
  refine ⟨hS.op, fun f hf => ?_, fun f hf g hg e k hk e' => ?_⟩
  · have hf' : f < c.src.length := by have : f < c.tgt.length := hf; omega
    have hid := h.2.ids f hf'
    have s1 := hS.src f hf'
    have t1 := hS.tgt f (by omega)
    have i1 := hS.idn_lt s1.1 s1.2
    have i2 := hS.idn_lt t1.1 t1.2
    constructor
    · have := Cat.op_th (c := c) (f := (c.idn.getD (c.tgt.getD f 0).toNat 0).toNat) (g := f) (by omega) hf'
      rw [Int.toNat_of_nonneg i2.1] at this
      exact this.trans hid.2
    · have := Cat.op_th (c := c) (g := (c.idn.getD (c.src.getD f 0).toNat 0).toNat) (f := f) hf' (by omega)
      rw [Int.toNat_of_nonneg i1.1] at this
      exact this.trans hid.1
  · have hf' : f < c.src.length := by have : f < c.tgt.length := hf; omega
    have hg' : g < c.src.length := by have : g < c.tgt.length := hg; omega
    have hk' : k < c.src.length := by have : k < c.tgt.length := hk; omega
    have e1 : c.tgt.getD g 0 = c.src.getD f 0 := e.symm
    have e2 : c.tgt.getD k 0 = c.src.getD g 0 := e'.symm
    obtain ⟨p1, p2, p3, p4⟩ := hS.tn hg' hf' e1
    obtain ⟨q1, q2, q3, q4⟩ := hS.tn hk' hg' e2
    rw [Cat.op_th hf' hg', Cat.op_th hg' hk']
    have a1 : c.th (g : Int) f = (c.tn g f : Int) := by rw [Cat.th_nat]; exact p4
    have a2 : c.th (k : Int) g = (c.tn k g : Int) := by rw [Cat.th_nat]; exact q4
    rw [a1, a2, Cat.op_th p1 hk', Cat.op_th hf' q1, ← a1, ← a2]
    exact (h.2.as k hk' g hg' e2 f hf' e1).symm
theorem Cat.Shape.small {c : Cat} (h : c.Shape) : c.Small := by
  have h1 := h.n40
  have h2 := h.tl
  have h3 := h.cl
  have h4 := h.il
  have h5 := h.obj
  refine ⟨by omega, by omega, by omega, by omega, fun i => ?_, by omega, by omega⟩
  by_cases hi : i < c.comp.length
  · have := h.row i hi; omega
  · rw [List.getD_eq_getElem?_getD, List.getElem?_eq_none (by omega)]; simp
end Go.GL
namespace Go.Proofs.Ytkfbalfcbaphcaa
open Go Go.GL Go.RowKit Go.Proofs
end Go.Proofs.Ytkfbalfcbaphcaa
namespace Go.Proofs.Ytkfbalfcbaphcaa
open Go Go.GL Go.RowKit Go.Proofs
end Go.Proofs.Ytkfbalfcbaphcaa
namespace Go.GL
end Go.GL
namespace Go.GL
def Con.z : Con := ⟨0, []⟩
def conV (r : Nat → Option Addr) (cs : List Con) : List Value := (List.range cs.length).flatMap fun i => (cs.getD i .z).cells ⟨r i⟩
@[simp] theorem length_conV (r : Nat → Option Addr) (cs : List Con) : (conV r cs).length = cs.length * 2 := by
  unfold conV
  generalize cs.length = n
  induction n with
  | zero => rfl
  | succ n ih => rw [List.range_succ, List.flatMap_append, List.length_append, ih]; simp [Con.cells]; omega
structure ConsAt (T e : TypeId) (b0 : Nat) (H : GHeap) (g : Nat) (r : Nat → Option Addr) (cs : List Con) : Prop where
  hd : H.get g = some (.row (conV r cs) T true)
  rows : OwnL b0 H e r (cs.map Con.lg)
structure GathC (T1 T2 Tx e : TypeId) (go gx b0 e0 : Nat) (x : Int) (pre : List Con) (b : Nat) (fs : List (List Int)) (gF : Nat) (H : GHeap) : Prop where
  hd : H.get go = some (.row [.slice (some ⟨gF, 0, none⟩) (pre ++ fs.map fun l => (⟨x, l⟩ : Con)).length (pre ++ fs.map fun l => (⟨x, l⟩ : Con)).length] T1 true)
  ix : H.get gx = some (.row [.int .i64 x] Tx true)
  rows : ∃ r, H.get gF = some (.row (conV r (pre ++ fs.map fun l => (⟨x, l⟩ : Con))) T2 true) ∧ OwnL b0 H e r ((pre ++ fs.map fun l => (⟨x, l⟩ : Con)).map Con.lg) ∧ ∀ i, i < (pre ++ fs.map fun l => (⟨x, l⟩ : Con)).length → ∀ g, r i = some ⟨g, 0, none⟩ → g < e0 ∨ b ≤ g
theorem GathC.le {T1 T2 Tx e : TypeId} {go gx b0 e0 : Nat} {x : Int} {pre : List Con} {b : Nat} {fs : List (List Int)} {gF : Nat} {H H' : GHeap} (h : GathC T1 T2 Tx e go gx b0 e0 x pre b fs gF H) (s : H.Le H') : GathC T1 T2 Tx e go gx b0 e0 x pre b fs gF H' := by
  obtain ⟨r, h1, h2, h3⟩ := h.rows
  exact ⟨s.2 _ _ h.hd, s.2 _ _ h.ix, r, s.2 _ _ h1, h2.mono s, h3⟩
theorem GathC.st {T1 T2 Tx e : TypeId} {go gx b0 e0 : Nat} {x : Int} {pre : List Con} {b : Nat} {fs : List (List Int)} {gF gc : Nat} {H H' : GHeap} (h : GathC T1 T2 Tx e go gx b0 e0 x pre b fs gF H) (s : St [gc] H H') (h1 : go ≠ gc) (h2 : gx ≠ gc) (h3 : gc ≠ gF) (h4 : e0 ≤ gc) (h5 : gc < b) : GathC T1 T2 Tx e go gx b0 e0 x pre b fs gF H' := by
  obtain ⟨r, k1, k2, k3⟩ := h.rows
  refine ⟨s.same _ _ ⟨h1, trivial⟩ h.hd, s.same _ _ ⟨h2, trivial⟩ h.ix, r, s.same _ _ ⟨Ne.symm h3, trivial⟩ k1, k2.st s (.cons (fun i hi ei => ?_) (.nil _ _)), k3⟩
  rw [List.length_map] at hi
  have := k3 i hi gc ei
  omega
theorem OwnL.side {b : Nat} {H : GHeap} {e : TypeId} {r : Nat → Option Addr} {cs : List Con} (h : OwnL b H e r (cs.map Con.lg)) : ∀ i, i < cs.length → ∀ g, r i = some ⟨g, 0, none⟩ → g < H.next := fun i hi g hg => by
  obtain ⟨x, h1, _, h3⟩ := h.row i (by rw [List.length_map]; exact hi)
  rw [h1] at hg
  cases hg
  exact GHeap.ltg h3
theorem take_snocZ {l : List (List Int)} {i : Nat} (h : i < l.length) : l.take (i + 1) = l.take i ++ [l.getD i []] := by
  rw [List.take_add_one, List.getElem?_eq_getElem h, List.getD_eq_getElem?_getD, List.getElem?_eq_getElem h]; rfl
end Go.GL
namespace Go.Proofs.Ytkfbalfcbaphcaa
open Go Go.GL Go.RowKit Go.Proofs
theorem ze_24_Hj : zeroT Try.prog 24 = some ([.slice none 0 0], 1) := by kernel_rfl
theorem by_24_Hj : (Try.prog.info? 24).map (·.bytes) = some 24 := by kernel_rfl
theorem ze_27_Hj : zeroT Try.prog 27 = some ([.int .i64 0, .slice none 0 0, .slice none 0 0, .slice none 0 0, .slice none 0 0], 5) := by kernel_rfl
theorem bt_27_Hj : buildT Try.prog 27 = some ([.int .i64 0, .slice none 0 0, .slice none 0 0, .slice none 0 0, .slice none 0 0], [(0, 1), (1, 1), (2, 1), (3, 1), (4, 1)]) := by kernel_rfl
end Go.Proofs.Ytkfbalfcbaphcaa
namespace Go.Proofs.Ytkfbalfcbaphcaa
open Go Go.GL Go.RowKit Go.Proofs
end Go.Proofs.Ytkfbalfcbaphcaa
namespace Go.Proofs.Ytkfbalfcbaphcaa
open Go Go.GL Go.RowKit Go.Proofs
theorem l02Fits_c {c : Cat} {p : CatP} {H : GHeap} (hin : c.In H p := by assumption) :
    GCalls Try.prog 117 [.agg (c.cells p).toArray] H (Ret (.bool (B (c.obj ≤ 8 ∧ c.src.length ≤ 40))) H) := by
  refine GCalls.ret rfl ?_
  refine GCalls.body (N := 12) (rs := [.tmp 2]) Try.func117 rfl rfl rfl rfl (fun Qx hret hend => ?_)
  refine .fg [0] rfl ?_
  have hle := GHeap.Le.refl H
  have base_hin := hin
  refine .seq (fun K1 hK1 => .region ?_)
  refine .R rfl (.boxR rfl sz_27_D rfl) ?_
  rintro _ H1 ⟨g1, rfl, le1, ge1, at1⟩
  replace hle := hle.trans le1
  replace hin := base_hin.mono hle
  have hb1 : Cat.At _ g1 0 c p := ⟨Mem.of_get at1, hin⟩
  obtain ⟨c01, c11, -, -, -, -, -, -, -⟩ := hb1.get
  refine .mv rfl (.nil (hK1 _ _ (.seq (fun K2 hK2 => .region (.q rfl (.fieldAddr fo_27_0_B rfl) ?_)))))
  refine .q rfl (.load on_2_A rfl (by first | assumption | exact Mem.of_get at1 0 _ rfl)) ?_
  refine .q rfl (.cmp rfl rfl rfl) (.mv rfl ?_)
  refine .split (fun h6 => ?_) (fun h6 => ?_)
  ·
   try simp only [sps] at h6
   refine .qg rfl (.fieldAddr fo_27_1_B rfl) ?_
   refine .qg rfl (.load on_24_B rfl (by first | assumption | exact Mem.of_get at1 1 _ rfl)) ?_
   refine .qg rfl (.len sl_24_A rfl) (.qg rfl (.cmp rfl rfl rfl) (.q rfl (.pickT rfl rfl) (.mv rfl (.nil (hK2 _ _ ?_)))))
   refine .ret ?_
   refine hret _ _ ?_
   refine ⟨_, rfl, ?_⟩
   exact ⟨congrArg _ (by unfold B; first | (rw [decide_eq_decide]; omega) | (rw [decide_eq_false_iff_not]; omega)), hle⟩
  try simp only [sps] at h6
  refine .z rfl (.z rfl (.z rfl (.z rfl (.q rfl (.pickF rfl rfl) (.mv rfl (.nil (hK2 _ _ ?_)))))))
  refine .ret ?_
  refine hret _ _ ?_
  refine ⟨_, rfl, ?_⟩
  exact ⟨congrArg _ (by unfold B; first | (rw [decide_eq_decide]; omega) | (rw [decide_eq_false_iff_not]; omega)), hle⟩
set_option maxHeartbeats 4000000 in
theorem l01Own2O_c {a : Option Addr} {pss : List (List Int)} {r : Nat → Option Addr} {H : GHeap} (h : Intss H a pss r := by assumption) (hl : pss.length ≤ 1048576 := by omega) (hl2 : ∀ i, (pss.getD i []).length ≤ 1048576) :
    GCalls Try.prog 119 [.slice a pss.length pss.length] H (fun v H' => H.Le H' ∧ ∃ g rr, v = .slice (some ⟨g, 0, none⟩) pss.length pss.length ∧ H'.get g = some (.row (slsL rr pss) 24 true) ∧ H.next ≤ g ∧ OwnL H.next H' 2 rr pss) := by
  refine GCalls.body (N := 21) (rs := [.tmp 2]) Try.func119 rfl rfl rfl rfl (fun Qx hret hend => ?_)
  refine .fg [0] rfl ?_
  have hle := GHeap.Le.refl H
  have base_h := h
  refine .seq (fun K1 hK1 => .region (.mv rfl (.nil (hK1 _ _ (.seq (fun K2 hK2 => .region ?_))))))
  refine .R rfl (.litA rfl sl_25_B ze_24_Hj rfl rfl rfl rfl) ?_
  rintro _ H5 ⟨g5, rfl, le5, ge5, at5⟩
  replace hle := hle.trans le5
  have lt_at5 := GHeap.ltg at5
  refine .mv rfl (.nil (hK2 _ _ (.seq (fun K3 hK3 => .seq (fun K4 hK4 => .region (.mv rfl (.nil (hK4 _ _ ?_))))))))
  refine .block ?_
  refine .loopR (σ := Nat × (Nat → Option Addr) × Nat × Nat) [(0, some _)] (fun (i, rr, gL3, nL3) => [(4, some (.int .i64 (i : Int))), (3, some (.slice (some ⟨gL3, 0, none⟩) nL3 nL3))]) (fun (i, rr, gL3, nL3) H' => St [g5] H5 H' ∧ H'.get gL3 = some (.row ((slsL rr (pss.take i))) 24 true) ∧ (gL3 = g5 ∨ H5.next ≤ gL3) ∧ nL3 = (slsL rr (pss.take i)).length ∧ i ≤ pss.length ∧ OwnL H.next H' 2 rr (pss.take i)) (fun (i, rr, gL3, nL3) => pss.length - i) ((0, fun _ => none, _, _)) ⟨rfl, trivial⟩ ⟨rfl, rfl, trivial⟩ ?_ ?_
  ·
   refine ⟨.refl _ _, by first | assumption | exact at5 | simpa using at5, .inl rfl, by first | rfl | assumption | simp | omega, ?_⟩
   exact ⟨by omega, .nil _ _ _ _⟩
  rintro ⟨i, rr, gL3, nL3⟩ HL1 ⟨lst1, at_L3, pl_L3, ln_L3, hI⟩ KL1 hKL1
  refine .forget (fr' := [(4, some (.int .i64 (i : Int))), (3, some (.slice (some ⟨gL3, 0, none⟩) nL3 nL3)), (0, some _)]) ⟨rfl, rfl, rfl, trivial⟩ ?_
  have ge_L3 : H.next ≤ gL3 := by omega
  have nx_HL1 := lst1.nx
  replace hle := hle.st lst1 (fun k hk => ⟨by omega, trivial⟩)
  have lt_at_L3 := GHeap.ltg at_L3
  replace h := base_h.mono hle
  have rk := St.refl [gL3] HL1
  obtain ⟨hi, hR⟩ := hI
  have hat3 := at_L3
  have htk : (pss.take i).length = i := by rw [List.length_take]; omega
  have hfl : (slsL rr (pss.take i)).length = (pss.take i).length := length_slsL _ _
  have hli := hl2 i
  refine .seq (fun K5 hK5 => .seq (fun K6 hK6 => .region (.mv rfl (.mv rfl (.q rfl (.len sl_25_B rfl) (.q rfl (.cmp rfl rfl rfl) (.nil (hK6 _ _ ?_))))))))
  refine .cond rfl (fun h9 => ?_) (fun h9 => ?_)
  ·
   simp only [sps] at h9
   have u1 := h.2 i (by omega)
   refine .skip ?_
   refine hK5 _ _ (.seq (fun K7 hK7 => ?_))
   refine .block ?_
   refine .region (.mv rfl (.mv rfl (.mv rfl ?_)))
   refine .q rfl (.idxN sl_25_B (Intss.sl (by assumption)) rfl rfl (by omega)) ?_
   refine .q rfl (.loadR on_24_B (by assumption) rfl (by omega)) ?_
   refine .call rfl rfl rfl rfl @Try.call42 rfl (l01Own_c) ?_
   rintro _ H17 ⟨le17, g17, rfl, at17, ge17⟩
   replace lst1 := lst1.le le17
   replace rk := rk.le le17
   replace at_L3 := le17.2 _ _ at_L3
   have lt_at17 := GHeap.ltg at17
   clear u1
   refine .R rfl (.litA rfl sl_25_B ze_24_Hj rfl rfl rfl rfl) ?_
   rintro _ H18 ⟨g18, rfl, le18, ge18, at18⟩
   replace lst1 := lst1.le le18
   replace rk := rk.le le18
   replace at_L3 := le18.2 _ _ at_L3
   replace at17 := le18.2 _ _ at17
   have lt_at18 := GHeap.ltg at18
   refine .R rfl (.appendV rfl sl_25_B ze_24_Hj rfl by_24_Hj sl_25_B rfl rfl (by assumption) (by assumption) (by first | omega | (simp <;> omega)) rfl rfl (by omega) (by omega)) ?_
   rintro _ H19 ⟨g19, rfl, st19, ge19, at19⟩
   replace lst1 := lst1.sA st19
   replace rk := rk.sA st19
   replace at17 := st19.s at17
   refine .mv rfl (.nil (hK7 _ _ (.region (.mv rfl ?_))))
   refine .q rfl (.add rfl rfl rfl (by omega) (by omega)) ?_
   refine .mv rfl (.nil ?_)
   refine hKL1 ((i + 1, upd rr (pss.take i).length (some ⟨g17, 0, none⟩), _, _)) _ _ ?_ ?_ ⟨rfl, rfl, rfl, trivial⟩
   ·
    refine ⟨lst1, by first | assumption | (rw [take_snocZ (by omega), slsL_snoc]; assumption), by omega, by first | omega | (simp only [List.length_append, List.length_cons, List.length_nil] <;> omega) | (rw [take_snocZ (by omega), slsL_snoc] <;> (first | omega | (simp only [List.length_append, List.length_cons, List.length_nil] <;> omega))), ?_⟩
    exact ⟨by omega, by rw [take_snocZ (by omega)]; exact hR.snoc (x := pss.getD i []) (rk.lasts1 hat3 rfl) (by assumption) (by omega) (by omega)⟩
   (dsimp only; omega)
  try simp only [sps] at h9
  refine .exit ?_
  refine hK3 _ _ (.seq (fun K8 hK8 => .region (.mv rfl (.mv rfl (.nil (hK8 _ _ ?_))))))
  refine .ret ?_
  refine hret _ _ ?_
  refine ⟨_, rfl, ?_⟩
  obtain rfl : i = pss.length := by omega
  rw [List.take_length] at hR at_L3 ln_L3
  exact ⟨hle, gL3, rr, by rw [ln_L3, length_slsL], at_L3, by omega, hR⟩
set_option maxHeartbeats 4000000 in
theorem l02OwnO_c {c : Cat} {p : CatP} {H : GHeap} (hin : c.In H p := by assumption) (hs : c.Small := by assumption) :
    GCalls Try.prog 99 [.agg (c.cells p).toArray] H (NewCatO 2 24 H c) := by
  obtain ⟨n1, n2, n3, n4, n5, -⟩ := hs
  refine GCalls.body (N := 18) (rs := [.cell 2 27]) Try.func99 rfl rfl rfl rfl (fun Qx hret hend => ?_)
  refine .fg [0] rfl ?_
  have hle := GHeap.Le.refl H
  have base_hin := hin
  refine .seq (fun K1 hK1 => .region ?_)
  refine .R rfl (.boxR rfl sz_27_D rfl) ?_
  rintro _ H1 ⟨g1, rfl, le1, ge1, at1⟩
  replace hle := hle.trans le1
  have lt_at1 := GHeap.ltg at1
  replace hin := base_hin.mono hle
  have hb1 : Cat.At _ g1 0 c p := ⟨Mem.of_get at1, hin⟩
  refine .R rfl (.allocR rfl ze_27_Hj rfl) ?_
  rintro _ H2 ⟨g2, rfl, le2, ge2, at2⟩
  replace hle := hle.trans le2
  replace at1 := le2.2 _ _ at1
  have lt_at2 := GHeap.ltg at2
  replace hin := base_hin.mono hle
  clear hb1
  have hb1 : Cat.At _ g1 0 c p := ⟨Mem.of_get at1, hin⟩
  obtain ⟨c01, c11, c21, c31, c41, i11, -, -, -⟩ := hb1.get
  refine .nil (hK1 _ _ (.seq (fun K2 hK2 => ?_)))
  refine .regionD mo_B (.q 0 (.q 1 (.q 2 (.q 3 (.q 5 (.q 6 (.q 8 (.q 9 (.q 11 (.q 12 (.c 4 1 (.c 7 1 (.c 10 1 (.c 13 1 (.q 14 (.c 15 0 (.done))))))))))))))))) (by kernel_rfl) ?_
  refine .q rfl (.fieldAddr fo_27_0_B rfl) ?_
  refine .q rfl (.load on_2_A rfl (by first | assumption | exact Mem.of_get at1 0 _ rfl)) ?_
  refine .q rfl (.fieldAddr fo_27_1_B rfl) ?_
  refine .q rfl (.load on_24_B rfl (by first | assumption | exact Mem.of_get at1 1 _ rfl)) ?_
  refine .q rfl (.fieldAddr fo_27_2_B rfl) ?_
  refine .q rfl (.load on_24_B rfl (by first | assumption | exact Mem.of_get at1 2 _ rfl)) ?_
  refine .q rfl (.fieldAddr fo_27_3_B rfl) ?_
  refine .q rfl (.load on_24_B rfl (by first | assumption | exact Mem.of_get at1 3 _ rfl)) ?_
  refine .q rfl (.fieldAddr fo_27_4_B rfl) ?_
  refine .q rfl (.load on_25_B rfl (by first | assumption | exact Mem.of_get at1 4 _ rfl)) ?_
  refine .call1 rfl rfl rfl rfl rfl @Try.call42 rfl (l01Own_c) ?_
  rintro _ H7 ⟨le7, g7, rfl, at7, ge7⟩
  have hbl := le7
  refine ⟨hbl, ?_⟩
  replace hle := hle.trans le7
  replace at1 := le7.2 _ _ at1
  replace at2 := le7.2 _ _ at2
  have lt_at7 := GHeap.ltg at7
  replace hin := base_hin.mono hle
  clear hb1 c01 c11 c21 c31 c41 i11
  have hb1 : Cat.At _ g1 0 c p := ⟨Mem.of_get at1, hin⟩
  obtain ⟨-, -, -, -, -, -, i21, -, -⟩ := hb1.get
  refine .call1 rfl rfl rfl rfl rfl @Try.call42 rfl (l01Own_c) ?_
  rintro _ H10 ⟨le10, g10, rfl, at10, ge10⟩
  replace hbl := hbl.trans le10
  refine ⟨hbl, ?_⟩
  replace hle := hle.trans le10
  replace at1 := le10.2 _ _ at1
  replace at2 := le10.2 _ _ at2
  replace at7 := le10.2 _ _ at7
  have lt_at10 := GHeap.ltg at10
  replace hin := base_hin.mono hle
  clear hb1 i21
  have hb1 : Cat.At _ g1 0 c p := ⟨Mem.of_get at1, hin⟩
  obtain ⟨-, -, -, -, -, -, -, i31, -⟩ := hb1.get
  refine .call1 rfl rfl rfl rfl rfl @Try.call42 rfl (l01Own_c) ?_
  rintro _ H13 ⟨le13, g13, rfl, at13, ge13⟩
  replace hbl := hbl.trans le13
  refine ⟨hbl, ?_⟩
  have nx_H13 := le13.1
  replace hle := hle.trans le13
  replace at1 := le13.2 _ _ at1
  replace at2 := le13.2 _ _ at2
  replace at7 := le13.2 _ _ at7
  replace at10 := le13.2 _ _ at10
  have lt_at13 := GHeap.ltg at13
  replace hin := base_hin.mono hle
  clear hb1 i31
  have hb1 : Cat.At _ g1 0 c p := ⟨Mem.of_get at1, hin⟩
  obtain ⟨-, -, -, -, -, -, -, -, i41⟩ := hb1.get
  refine .call1 rfl rfl rfl rfl rfl @Try.call119 rfl (l01Own2O_c (hl2 := n5)) ?_
  rintro _ H16 ⟨le16, g16, rr16, rfl, at16, ge16, v16⟩
  replace hbl := hbl.trans le16
  refine ⟨hbl, ?_⟩
  replace hle := hle.trans le16
  replace at1 := le16.2 _ _ at1
  replace at2 := le16.2 _ _ at2
  replace at7 := le16.2 _ _ at7
  replace at10 := le16.2 _ _ at10
  replace at13 := le16.2 _ _ at13
  replace hin := base_hin.mono hle
  clear hb1 i41
  have hb1 : Cat.At _ g1 0 c p := ⟨Mem.of_get at1, hin⟩
  refine .m rfl rfl rfl rfl hbl (.build bt_27_Hj rfl rfl rfl) ?_
  have hat2 := at2
  refine .r0 rfl rfl rfl (.fillA rfl sz_27_D rfl rfl rfl rfl) ?_
  rintro _ H1015 ⟨rfl, st1015, at1015⟩
  replace hle := hle.st st1015 (fun k hk => ⟨by omega, trivial⟩)
  replace at1 := st1015.s at1
  replace at7 := st1015.s at7
  replace at10 := st1015.s at10
  replace at13 := st1015.s at13
  replace at16 := st1015.s at16
  replace hin := base_hin.mono hle
  clear hb1
  have hb1 : Cat.At _ g1 0 c p := ⟨Mem.of_get at1, hin⟩
  refine .done ?_
  refine hK2 _ _ ?_
  refine .ret ?_
  refine hret _ _ ?_
  refine ⟨_, _, _, _, rfl, ag_27_D, (by rfl), (Mem.of_get at1015), ?_⟩
  exact ⟨hle, g7, g10, g13, g16, rr16, rfl, at7, at10, at13, at16, by omega, by omega, by omega, by omega, by omega, by omega, by omega, (v16.st st1015 (.cons (v16.neT hat2 rfl) (.nil _ _))).low (by omega), v16.lowNe (by omega), v16.lowNe (by omega), v16.lowNe (by omega)⟩
end Go.Proofs.Ytkfbalfcbaphcaa
namespace Go.Proofs.Ytkfbalfcbaphcaa
open Go Go.GL Go.RowKit Go.Proofs
theorem sz_2_Ch : (Try.prog.info? 2).map (·.size) = some 1 := by kernel_rfl
theorem sz_24_Ch : (Try.prog.info? 24).map (·.size) = some 1 := by kernel_rfl
theorem sz_25_Ch : (Try.prog.info? 25).map (·.size) = some 1 := by kernel_rfl
set_option maxHeartbeats 8000000 in
theorem l03Sum_c {c d : Cat} {p q : CatP} {N : Nat} {H : GHeap} (hin : c.In H p := by assumption) (hin1 : d.In H q := by assumption) (hc : c.Rect N) (hd : d.Rect N) (hN : N ≤ 100000) :
    GCalls Try.prog 115 [.agg (c.cells p).toArray, .agg (d.cells q).toArray] H (NewCatO 2 24 H (c.sum d)) := by
  obtain ⟨a1, a2, a3, -, -, a6, -, a8, a9, -⟩ := id hc
  obtain ⟨b1, b2, b3, b4, b5, b6, b7, b8, b9, b10⟩ := id hd
  refine GCalls.body (N := 142) (rs := [.cell 4 27]) Try.func115 rfl rfl rfl rfl (fun Qx hret hend => ?_)
  refine .fg [0, 1] rfl ?_
  have hle := GHeap.Le.refl H
  have base_hin := hin
  have base_hin1 := hin1
  refine .seq (fun K1 hK1 => .region ?_)
  refine .R rfl (.boxR rfl sz_27_D rfl) ?_
  rintro _ H2 ⟨g2, rfl, le2, ge2, at2⟩
  replace hle := hle.trans le2
  have lt_at2 := GHeap.ltg at2
  replace hin := base_hin.mono hle
  have hb2 : Cat.At _ g2 0 c p := ⟨Mem.of_get at2, hin⟩
  refine .R rfl (.boxR rfl sz_27_D rfl) ?_
  rintro _ H3 ⟨g3, rfl, le3, ge3, at3⟩
  replace hle := hle.trans le3
  replace at2 := le3.2 _ _ at2
  have lt_at3 := GHeap.ltg at3
  replace hin := base_hin.mono hle
  replace hin1 := base_hin1.mono hle
  clear hb2
  have hb2 : Cat.At _ g2 0 c p := ⟨Mem.of_get at2, hin⟩
  have hb3 : Cat.At _ g3 0 d q := ⟨Mem.of_get at3, hin1⟩
  refine .R rfl (.allocR rfl ze_27_Hj rfl) ?_
  rintro _ H4 ⟨g4, rfl, le4, ge4, at4⟩
  have nx_H4 := le4.1
  replace hle := hle.trans le4
  replace at2 := le4.2 _ _ at2
  replace at3 := le4.2 _ _ at3
  have lt_at4 := GHeap.ltg at4
  replace hin := base_hin.mono hle
  replace hin1 := base_hin1.mono hle
  clear hb2
  have hb2 : Cat.At _ g2 0 c p := ⟨Mem.of_get at2, hin⟩
  obtain ⟨c02, c12, -, -, -, -, -, -, -⟩ := hb2.get
  have hi2 := hb2.2
  clear hb3
  have hb3 : Cat.At _ g3 0 d q := ⟨Mem.of_get at3, hin1⟩
  refine .nil (hK1 _ _ (.seq (fun K2 hK2 => ?_)))
  refine .regionD mo_B (.q 0 (.q 1 (.q 2 (.q 3 (.q 4 (.q 5 (.q 6 (.done)))))))) (by kernel_rfl) ?_
  refine .q rfl (.fieldAddr fo_27_0_B rfl) ?_
  refine .q rfl (.load on_2_A rfl (by first | assumption | exact Mem.of_get at2 0 _ rfl)) ?_
  refine .q rfl (.fieldAddr fo_27_1_B rfl) ?_
  refine .q rfl (.load on_24_B rfl (by first | assumption | exact Mem.of_get at2 1 _ rfl)) ?_
  refine .q rfl (.len sl_24_A rfl) (.mv rfl rfl (.mv rfl rfl ?_))
  refine .done ?_
  refine hK2 _ _ (.seq (fun K3 hK3 => .region ?_))
  refine .q rfl (.loadM ag_27_D rfl ⟨rfl, Mem.of_get at2⟩) ?_
  refine .call rfl rfl rfl rfl @Try.call99 rfl (l02OwnO_c (hs := hc.small (by omega))) ?_
  rintro _ H22 ⟨le22, gF, gT, gI, gC, rr, rfl, v22⟩
  have aF := v22.a1
  have aT := v22.a2
  have aI := v22.a3
  have aC := v22.a4
  have bF := v22.b1
  have bT := v22.b2
  have bI := v22.b3
  have bC := v22.b4
  have n12 := v22.n12
  have n13 := v22.n13
  have n23 := v22.n23
  have n4 := row_ne aC aF rfl
  have n5 := row_ne aC aT rfl
  have n6 := row_ne aC aI rfl
  have rk := St.refl [gI] H22
  replace hle := hle.trans le22
  replace at2 := le22.2 _ _ at2
  replace at3 := le22.2 _ _ at3
  replace at4 := le22.2 _ _ at4
  have lt_aF := GHeap.ltg aF
  have lt_aT := GHeap.ltg aT
  have lt_aI := GHeap.ltg aI
  have lt_aC := GHeap.ltg aC
  replace hin := base_hin.mono hle
  replace hin1 := base_hin1.mono hle
  clear hb2 c02 c12 hi2
  have hb2 : Cat.At _ g2 0 c p := ⟨Mem.of_get at2, hin⟩
  clear hb3
  have hb3 : Cat.At _ g3 0 d q := ⟨Mem.of_get at3, hin1⟩
  refine .R rfl (.allocR rfl ze_27_Hj rfl) ?_
  rintro _ H7 ⟨g7, rfl, le7, ge7, at7⟩
  have nx_H7 := le7.1
  replace hle := hle.trans le7
  replace rk := rk.le le7
  replace at2 := le7.2 _ _ at2
  replace at3 := le7.2 _ _ at3
  replace at4 := le7.2 _ _ at4
  replace aF := le7.2 _ _ aF
  replace aT := le7.2 _ _ aT
  replace aI := le7.2 _ _ aI
  replace aC := le7.2 _ _ aC
  replace hin := base_hin.mono hle
  replace hin1 := base_hin1.mono hle
  clear hb2
  have hb2 : Cat.At _ g2 0 c p := ⟨Mem.of_get at2, hin⟩
  clear hb3
  have hb3 : Cat.At _ g3 0 d q := ⟨Mem.of_get at3, hin1⟩
  refine .r0 rfl rfl (.fillA rfl sz_27_D rfl rfl rfl rfl) ?_
  rintro _ H2003 ⟨rfl, st2003, at2003⟩
  have nx_H2003 := st2003.nx
  replace hle := hle.st st2003 (fun k hk => ⟨by omega, trivial⟩)
  replace rk := rk.sA st2003
  have ne_g2_g7 : NE g2 g7 := .a
  replace at2 := st2003.s at2 ne_g2_g7.ne
  have ne_g3_g7 : NE g3 g7 := .a
  replace at3 := st2003.s at3 ne_g3_g7.ne
  have ne_g4_g7 : NE g4 g7 := .a
  replace at4 := st2003.s at4 ne_g4_g7.ne
  have ne_gF_g7 : NE gF g7 := .a
  replace aF := st2003.s aF ne_gF_g7.ne
  have ne_gT_g7 : NE gT g7 := .a
  replace aT := st2003.s aT ne_gT_g7.ne
  have ne_gI_g7 : NE gI g7 := .a
  replace aI := st2003.s aI ne_gI_g7.ne
  have ne_gC_g7 : NE gC g7 := .a
  replace aC := st2003.s aC ne_gC_g7.ne
  replace hin := base_hin.mono hle
  replace hin1 := base_hin1.mono hle
  clear hb2
  have hb2 : Cat.At _ g2 0 c p := ⟨Mem.of_get at2, hin⟩
  clear hb3
  have hb3 : Cat.At _ g3 0 d q := ⟨Mem.of_get at3, hin1⟩
  obtain ⟨c03, -, -, -, -, -, -, -, -⟩ := hb3.get
  refine .nil (hK3 _ _ (.seq (fun K4 hK4 => .region (.mv rfl (.q rfl (.fieldAddr fo_27_0_B rfl) ?_)))))
  refine .q rfl (.load on_2_A rfl (by first | assumption | exact Mem.of_get at3 0 _ rfl)) ?_
  refine .q rfl (.add rfl rfl rfl (by omega) (by omega)) ?_
  refine .q rfl (.fieldAddr fo_27_0_B rfl) ?_
  refine .r0 rfl rfl (.storeR rfl sz_2_Ch rfl rfl rfl (by assumption) (by first | exact Nat.le_of_ble_eq_true rfl | (simp; done) | (simp <;> omega))) ?_
  rintro _ H3005 ⟨rfl, st3005, at3005⟩
  have nx_H3005 := st3005.nx
  replace hle := hle.st st3005 (fun k hk => ⟨by omega, trivial⟩)
  replace rk := rk.sA st3005
  replace at2 := st3005.s at2 ne_g2_g7.ne
  replace at3 := st3005.s at3 ne_g3_g7.ne
  replace at4 := st3005.s at4 ne_g4_g7.ne
  replace aF := st3005.s aF ne_gF_g7.ne
  replace aT := st3005.s aT ne_gT_g7.ne
  replace aI := st3005.s aI ne_gI_g7.ne
  replace aC := st3005.s aC ne_gC_g7.ne
  have lt_at3005 := GHeap.ltg at3005
  replace hin := base_hin.mono hle
  replace hin1 := base_hin1.mono hle
  clear hb2
  have hb2 : Cat.At _ g2 0 c p := ⟨Mem.of_get at2, hin⟩
  clear hb3 c03
  have hb3 : Cat.At _ g3 0 d q := ⟨Mem.of_get at3, hin1⟩
  try simp only [Nat.zero_add, List.set_cons_succ, List.set_cons_zero] at at3005
  refine .nil (hK4 _ _ (.seq (fun K5 hK5 => .seq (fun K6 hK6 => .region (.mv rfl (.nil (hK6 _ _ ?_)))))))
  refine .block ?_
  refine .loopR (σ := Nat × Nat) [(3, some _), (4, some _), (5, some _), (6, some _), (7, some _)] (fun (y, gLI) => [(8, some (.int .i64 (y : Int)))]) (fun (y, gLI) H' => St [gI, g7] H3005 H' ∧ H'.get gLI = some (.row (ints (c.idn ++ (d.idn.take y).map (· + (c.src.length : Int)))) 2 true) ∧ PL gLI gI H3005.next ∧ H'.get g7 = some (.row ([.int .i64 (c.obj + d.obj), .slice (some ⟨gF, 0, none⟩) c.src.length c.src.length, .slice (some ⟨gT, 0, none⟩) c.tgt.length c.tgt.length, .slice (some ⟨gLI, 0, none⟩) (c.idn.length + y) (c.idn.length + y), .slice (some ⟨gC, 0, none⟩) c.comp.length c.comp.length]) 27 true) ∧ gLI ≠ g7 ∧ (y : Int) ≤ d.obj) (fun (y, gLI) => (d.obj - y : Int).toNat) ((0, gI)) ⟨rfl, rfl, rfl, rfl, rfl, trivial⟩ ⟨rfl, trivial⟩ ?_ ?_
  ·
   refine ⟨.refl _ _, by simpa using aI, ⟨.inl rfl⟩, by assumption, by omega, ?_⟩
   omega
  rintro ⟨y, gLI⟩ HL1 ⟨lst1, at_LI, pl_LI, at_Lg7, ap1_0, hI⟩ KL1 hKL1
  refine .forget (fr' := [(8, some (.int .i64 (y : Int))), (3, some _), (4, some _), (5, some _), (6, some _), (7, some _)]) ⟨rfl, rfl, rfl, rfl, rfl, rfl, trivial⟩ ?_
  have ge_LI : H.next ≤ gLI := pl_LI.ge (by omega) (by omega)
  have nx_HL1 := lst1.nx
  replace hle := hle.st lst1 (fun k hk => ⟨by omega, by omega, trivial⟩)
  replace rk := rk.st lst1 (fun k hk ho => by simp only [out, and_true] at ho ⊢ <;> exact ⟨by first | exact ho | exact ho.1 | exact ho.2 | exact ho.2.1 | exact ho.2.2 | exact ho.2.2.1 | exact ho.2.2.2 | omega, by first | exact ho | exact ho.1 | exact ho.2 | exact ho.2.1 | exact ho.2.2 | exact ho.2.2.1 | exact ho.2.2.2 | omega⟩)
  have ne_g2_gI : NE g2 gI := .a
  replace at2 := lst1.same _ _ ⟨ne_g2_gI.ne, ne_g2_g7.ne, trivial⟩ at2
  have ne_g3_gI : NE g3 gI := .a
  replace at3 := lst1.same _ _ ⟨ne_g3_gI.ne, ne_g3_g7.ne, trivial⟩ at3
  replace at4 := lst1.same _ _ ⟨(by first | assumption | omega), ne_g4_g7.ne, trivial⟩ at4
  replace aF := lst1.same _ _ ⟨(by first | assumption | omega), ne_gF_g7.ne, trivial⟩ aF
  replace aT := lst1.same _ _ ⟨(by first | assumption | omega), ne_gT_g7.ne, trivial⟩ aT
  replace aC := lst1.same _ _ ⟨(by first | assumption | omega), ne_gC_g7.ne, trivial⟩ aC
  have lt_at_Lg7 := GHeap.ltg at_Lg7
  replace hin := base_hin.mono hle
  replace hin1 := base_hin1.mono hle
  clear hb2
  have hb2 : Cat.At _ g2 0 c p := ⟨Mem.of_get at2, hin⟩
  clear hb3
  have hb3 : Cat.At _ g3 0 d q := ⟨Mem.of_get at3, hin1⟩
  obtain ⟨c03, -, -, c33, -, -, -, i33, -⟩ := hb3.get
  have hfl : (c.idn ++ (d.idn.take y).map (· + (c.src.length : Int))).length = c.idn.length + y := by simp; omega
  refine .seq (fun K7 hK7 => .seq (fun K8 hK8 => .region (.mv rfl (.q rfl (.fieldAddr fo_27_0_B rfl) ?_))))
  refine .q rfl (.load on_2_A rfl (by first | assumption | exact Mem.of_get at3 0 _ rfl)) ?_
  refine .q rfl (.cmp rfl rfl rfl) (.nil (hK8 _ _ ?_))
  refine .cond rfl (fun h31 => ?_) (fun h31 => ?_)
  ·
   simp only [sps] at h31
   have r1 := b7 y (by omega)
   refine .skip ?_
   refine hK7 _ _ (.seq (fun K9 hK9 => ?_))
   refine .block ?_
   refine .regionD mo_B (.q 0 (.q 1 (.q 2 (.q 3 (.q 4 (.q 5 (.q 6 (.q 7 (.q 8 (.c 9 1 (.c 10 0 (.q 11 (.c 12 0 (.done)))))))))))))) (by kernel_rfl) ?_
   refine .q rfl (.fieldAddr fo_27_3_B rfl) ?_
   refine .q rfl (.load on_24_B rfl (by first | assumption | exact Mem.of_get at_Lg7 3 _ rfl)) ?_
   refine .q rfl (.fieldAddr fo_27_3_B rfl) ?_
   refine .q rfl (.load on_24_B rfl (by first | assumption | exact Mem.of_get at3 3 _ rfl)) ?_
   refine .mv rfl rfl ?_
   refine .q rfl (.idxN sl_24_A (by assumption) rfl rfl (by omega)) ?_
   refine .q rfl (.loadI on_2_A (by assumption) rfl (by omega)) ?_
   refine .mv rfl rfl ?_
   refine .q rfl (.add rfl rfl rfl (by omega) (by omega)) ?_
   refine .c1 rfl rfl rfl rfl (.litA rfl sl_24_A ze_2_Pa rfl rfl rfl rfl) ?_
   rintro _ H43 ⟨g43, rfl, le43, ge43, at43⟩
   have hbl := le43
   refine ⟨hbl, ?_⟩
   replace hle := hle.trans le43
   replace lst1 := lst1.le le43
   replace at2 := le43.2 _ _ at2
   replace at3 := le43.2 _ _ at3
   replace at_LI := le43.2 _ _ at_LI
   replace at_Lg7 := le43.2 _ _ at_Lg7
   have lt_at43 := GHeap.ltg at43
   replace hin := base_hin.mono hle
   replace hin1 := base_hin1.mono hle
   clear hb2
   have hb2 : Cat.At _ g2 0 c p := ⟨Mem.of_get at2, hin⟩
   clear hb3 c03 c33 i33
   have hb3 : Cat.At _ g3 0 d q := ⟨Mem.of_get at3, hin1⟩
   refine .c0 rfl rfl rfl rfl (.appendI rfl sl_24_A ze_2_Pa rfl by_2_Pa sl_24_A rfl rfl (by assumption) (by assumption) (by first | omega | (simp <;> omega)) (by omega) (by omega)) ?_
   rintro _ H44 ⟨g44, rfl, st44, ge44, at44⟩
   replace hle := hle.st st44 (fun k hk => ⟨by omega, trivial⟩)
   replace lst1 := lst1.sP st44
   replace at2 := st44.same _ _ ⟨(pl_LI.ne ne_g2_gI.ne (by omega)), trivial⟩ at2
   replace at3 := st44.same _ _ ⟨(pl_LI.ne ne_g3_gI.ne (by omega)), trivial⟩ at3
   replace at_Lg7 := st44.same _ _ ⟨(Ne.symm ap1_0), trivial⟩ at_Lg7
   replace hin := base_hin.mono hle
   replace hin1 := base_hin1.mono hle
   clear hb2
   have hb2 : Cat.At _ g2 0 c p := ⟨Mem.of_get at2, hin⟩
   clear hb3
   have hb3 : Cat.At _ g3 0 d q := ⟨Mem.of_get at3, hin1⟩
   refine .q rfl (.fieldAddr fo_27_3_B rfl) ?_
   refine .r0 rfl rfl rfl (.storeR rfl sz_24_Ch rfl rfl rfl (by assumption) (by first | exact Nat.le_of_ble_eq_true rfl | (simp; done) | (simp <;> omega))) ?_
   rintro _ H7012 ⟨rfl, st7012, at7012⟩
   replace hle := hle.st st7012 (fun k hk => ⟨by omega, trivial⟩)
   replace lst1 := lst1.sA st7012
   replace at2 := st7012.s at2 ne_g2_g7.ne
   replace at3 := st7012.s at3 ne_g3_g7.ne
   replace at44 := st7012.s at44
   replace hin := base_hin.mono hle
   replace hin1 := base_hin1.mono hle
   clear hb2
   have hb2 : Cat.At _ g2 0 c p := ⟨Mem.of_get at2, hin⟩
   clear hb3
   have hb3 : Cat.At _ g3 0 d q := ⟨Mem.of_get at3, hin1⟩
   try simp only [Nat.zero_add, List.set_cons_succ, List.set_cons_zero] at at7012
   refine .done ?_
   refine hK9 _ _ (.region (.mv rfl ?_))
   refine .q rfl (.add rfl rfl rfl (by omega) (by omega)) ?_
   refine .mv rfl (.nil ?_)
   refine hKL1 ((y + 1, g44)) _ _ ?_ ?_ ⟨rfl, rfl, rfl, rfl, rfl, rfl, trivial⟩
   ·
    refine ⟨lst1, by (rw [take_map_snoc (d := 0) (by omega), ← List.append_assoc]; assumption), by exact ⟨.inr (by omega)⟩, by assumption, by omega, ?_⟩
    omega
   (dsimp only; omega)
  try simp only [sps] at h31
  refine .exit ?_
  refine hK5 _ _ (.seq (fun K10 hK10 => .seq (fun K11 hK11 => .region ?_)))
  obtain rfl : y = d.obj.toNat := by omega
  have hI9 : (d.idn.take d.obj.toNat) = d.idn := List.take_of_length_le (by omega)
  rw [hI9] at at_LI
  have k1 := row_ne aC at_LI rfl
  have ne_gF_gLI : gF ≠ gLI := pl_LI.ne n13 (by omega)
  have ne_gT_gLI : gT ≠ gLI := pl_LI.ne n23 (by omega)
  refine .mv rfl (.nil (hK11 _ _ ?_))
  refine .block ?_
  refine .loopR (σ := Nat × (Nat → Option Addr)) [(3, some _), (4, some _), (5, some _), (6, some _), (7, some _)] (fun (f, rr) => [(9, some (.int .i64 (f : Int)))]) (fun (f, rr) H' => f ≤ c.comp.length ∧ SumSt 2 24 27 H H' c d q g3 g4 g7 gF gT gLI gC [.int .i64 0, .slice none 0 0, .slice none 0 0, .slice none 0 0, .slice none 0 0] rr f 0) (fun (f, rr) => c.comp.length - f) ((0, rr)) ⟨rfl, rfl, rfl, rfl, rfl, trivial⟩ ⟨rfl, trivial⟩ ?_ ?_
  ·
   refine ⟨by omega, hle, by omega, ?_, at4, at_Lg7, aF, aT, at_LI, by rw [extL_zero]; exact aC, by rw [extL_zero]; exact (v22.rows.st rk (.cons v22.r3 (.nil _ _))).low (by omega), v22.r1, v22.r2, ?_⟩
   · assumption
   · exact fun i hi e => by
       obtain ⟨x, h1, h2, h3⟩ := v22.rows.row i hi
       rw [h1] at e
       cases e
       have := GHeap.ltg h3
       exact pl_LI.ne (fun e => v22.r3 i hi (by rw [h1, e])) (by omega) rfl
  rintro ⟨f, rr⟩ HL2 hI KL2 hKL2
  refine .forget (fr' := [(9, some (.int .i64 (f : Int))), (3, some _), (4, some _), (5, some _), (6, some _), (7, some _)]) ⟨rfl, rfl, rfl, rfl, rfl, rfl, trivial⟩ ?_
  obtain ⟨hf, hS⟩ := hI
  obtain ⟨hle, bC, aD, aR, aS, aF, aT, aI, aC, hR, hr1, hr2, hr3⟩ := id hS
  have nx_HL2 := hle.1
  have lt_aD := GHeap.ltg aD
  have lt_aR := GHeap.ltg aR
  have lt_aF := GHeap.ltg aF
  have lt_aI := GHeap.ltg aI
  replace hin1 := base_hin1.mono hle
  have hb3 : Cat.At _ g3 0 d q := ⟨Mem.of_get aD, hin1⟩
  refine .seq (fun K12 hK12 => .seq (fun K13 hK13 => .region (.mv rfl (.q rfl (.fieldAddr fo_27_4_B rfl) ?_))))
  refine .q rfl (.load on_25_B rfl (by first | assumption | exact Mem.of_get aS 4 _ rfl)) ?_
  refine .q rfl (.len sl_25_B rfl) (.q rfl (.cmp rfl rfl rfl) (.nil (hK13 _ _ ?_)))
  refine .cond rfl (fun h50 => ?_) (fun h50 => ?_)
  ·
   simp only [sps] at h50
   refine .skip ?_
   refine hK12 _ _ (.seq (fun K14 hK14 => ?_))
   refine .block ?_
   refine .seq (fun K15 hK15 => .region (.mv rfl (.nil (hK15 _ _ ?_))))
   refine .block ?_
   refine .loopR (σ := Nat × (Nat → Option Addr)) [(3, some _), (4, some _), (5, some _), (6, some _), (7, some _), (9, some _)] (fun (j, r2) => [(10, some (.int .i64 (j : Int)))]) (fun (j, r2) H' => j ≤ d.src.length ∧ SumSt 2 24 27 H H' c d q g3 g4 g7 gF gT gLI gC [.int .i64 0, .slice none 0 0, .slice none 0 0, .slice none 0 0, .slice none 0 0] r2 f j) (fun (j, r2) => d.src.length - j) ((0, rr)) ⟨rfl, rfl, rfl, rfl, rfl, rfl, trivial⟩ ⟨rfl, trivial⟩ ?_ ?_
   ·
    exact ⟨by omega, hS⟩
   rintro ⟨j, r2⟩ HL3 hI KL3 hKL3
   refine .forget (fr' := [(10, some (.int .i64 (j : Int))), (3, some _), (4, some _), (5, some _), (6, some _), (7, some _), (9, some _)]) ⟨rfl, rfl, rfl, rfl, rfl, rfl, rfl, trivial⟩ ?_
   obtain ⟨hj, hS⟩ := hI
   obtain ⟨-, -, aD, aR, aS, -, -, aI, aC, hR, -, -, -⟩ := id hS
   have hel := extL_len (xss := c.comp) (k := d.src.length) (f := f) (j := j) (i := f) hj (by omega)
   have hrow := a9 f (by omega)
   refine .seq (fun K16 hK16 => .seq (fun K17 hK17 => .region (.mv rfl (.q rfl (.fieldAddr fo_27_1_B rfl) ?_))))
   refine .q rfl (.load on_24_B rfl (by first | assumption | exact Mem.of_get aD 1 _ rfl)) ?_
   refine .q rfl (.len sl_24_A rfl) (.q rfl (.cmp rfl rfl rfl) (.nil (hK17 _ _ ?_)))
   refine .cond rfl (fun h57 => ?_) (fun h57 => ?_)
   ·
    simp only [sps] at h57
    obtain ⟨gi, hgi, -, hati0⟩ := hR.row f (by rw [length_extL]; omega)
    have hati := hati0
    have m1 := row_ne aS hati rfl
    have m3 := row_ne aC hati rfl
    refine .skip ?_
    refine hK16 _ _ (.seq (fun K18 hK18 => ?_))
    refine .block ?_
    refine .regionDB mo_B (.q 0 (.q 1 (.q 2 (.q 3 (.q 4 (.q 5 (.q 6 (.q 7 (.c 8 1 (.c 9 1 (.q 10 (.c 11 0 (.done))))))))))))) (by kernel_rfl) (GHeap.le_erase HL3 gi) ?_
    have hbl := GHeap.le_erase HL3 gi
    have aSB := GHeap.get_erase_of aS m1
    have aCB := GHeap.get_erase_of aC m3
    have cC := slsL_cell aCB (i := f) (by rw [length_extL]; omega)
    rw [hgi] at cC
    refine .qB rfl hbl (.fieldAddr fo_27_4_B rfl) (.qB rfl hbl (.load on_25_B rfl (Mem.of_get aSB 4 _ rfl)) (.qB rfl hbl (.move rfl) (.qB rfl hbl (.fieldAddr fo_27_4_B rfl) (.qB rfl hbl (.load on_25_B rfl (Mem.of_get aSB 4 _ rfl)) (.qB rfl hbl (.move rfl) ?_)))))
    refine .qB rfl hbl (.idxN sl_25_B (SlA.of_row aCB (by simp)) rfl rfl (by omega)) ?_
    refine .qB rfl hbl (.load on_24_B rfl cC) ?_
    refine .c1 rfl rfl rfl rfl (.litA rfl sl_24_A ze_2_Pa rfl rfl rfl rfl) ?_
    rintro _ H68 ⟨g68, rfl, le68, ge68, at68⟩
    replace hbl := hbl.trans le68
    refine ⟨hbl, ?_⟩
    replace aC := le68.2 _ _ aC
    replace hati := le68.2 _ _ hati
    refine .c1 rfl rfl rfl rfl (.appendI rfl sl_24_A ze_2_Pa rfl by_2_Pa sl_24_A rfl rfl (by assumption) (by assumption) (by first | omega | (simp <;> omega)) (by omega) (by omega)) ?_
    rintro _ H69 ⟨g69, rfl, st69, ge69, at69⟩
    refine ⟨(hbl.erase_st st69), ?_⟩
    replace aC := st69.s aC
    replace hbl := hbl.erase_st st69
    refine .qB rfl hbl (.idxN sl_25_B (SlA.of_row aCB (by simp)) rfl rfl (by omega)) ?_
    have at69s := at69
    refine .r0 rfl rfl rfl (.storeR rfl sz_24_Ch rfl rfl rfl (by assumption) (by first | exact Nat.le_of_ble_eq_true rfl | (simp; done) | (simp <;> omega))) ?_
    rintro _ H14011 ⟨rfl, st14011, at14011⟩
    rw [Nat.zero_add] at at14011
    refine .done ?_
    refine hK18 _ _ (.region (.mv rfl ?_))
    refine .q rfl (.add rfl rfl rfl (by omega) (by omega)) ?_
    refine .mv rfl (.nil ?_)
    refine hKL3 ((j + 1, upd r2 f (some ⟨g69, 0, none⟩))) _ _ ?_ ?_ ⟨rfl, rfl, rfl, rfl, rfl, rfl, rfl, trivial⟩
    ·
     exact ⟨by omega, hS.app rfl rfl rfl (by omega) hati0 hgi le68 st69 ge69 at69s st14011 at14011 rfl⟩
    (dsimp only; omega)
   try simp only [sps] at h57
   refine .exit ?_
   refine hK14 _ _ (.region (.mv rfl ?_))
   refine .q rfl (.add rfl rfl rfl (by omega) (by omega)) ?_
   refine .mv rfl (.nil ?_)
   refine hKL2 ((f + 1, r2)) _ _ ?_ ?_ ⟨rfl, rfl, rfl, rfl, rfl, rfl, trivial⟩
   ·
    obtain rfl : j = d.src.length := by omega
    exact ⟨by omega, hS.next⟩
   (dsimp only; omega)
  try simp only [sps] at h50
  refine .exit ?_
  refine hK10 _ _ (.seq (fun K19 hK19 => .seq (fun K20 hK20 => .region ?_)))
  obtain rfl : f = c.comp.length := by omega
  rw [Cat.extL_all] at aC hR
  have ne_g3_gF := row_ne aD aF rfl
  have ne_g3_gT := row_ne aD aT rfl
  have ne_g3_gC := row_ne aD aC rfl
  have ne_g4_gF := row_ne aR aF rfl
  have ne_gLI_g4 := row_ne aI aR rfl
  have ne_g4_gT := row_ne aR aT rfl
  have ne_g4_gC := row_ne aR aC rfl
  have ne_g7_gF := row_ne aS aF rfl
  have ne_g7_gT := row_ne aS aT rfl
  have ne_g7_gC := row_ne aS aC rfl
  refine .mv rfl (.nil (hK20 _ _ ?_))
  refine .block ?_
  refine .loopR (σ := Nat × (Nat → Option Addr) × Nat × Nat × Nat) [(3, some _), (4, some _), (5, some _), (6, some _), (7, some _)] (fun (i, r3, gLF, gLT, gLC) => [(11, some (.int .i64 (i : Int)))]) (fun (i, r3, gLF, gLT, gLC) H' => St [gF, gT, gC, g7] HL2 H' ∧ H'.get gLF = some (.row (ints (c.src ++ (d.src.take i).map (· + c.obj))) 2 true) ∧ PL gLF gF HL2.next ∧ H'.get gLT = some (.row (ints (c.tgt ++ (d.tgt.take i).map (· + c.obj))) 2 true) ∧ PL gLT gT HL2.next ∧ H'.get gLC = some (.row ((slsL r3 (c.sumL d ++ (d.comp.take i).map (sumRow c.src.length)))) 24 true) ∧ PL gLC gC HL2.next ∧ H'.get g7 = some (.row ([.int .i64 (c.obj + d.obj), .slice (some ⟨gLF, 0, none⟩) (c.src.length + i) (c.src.length + i), .slice (some ⟨gLT, 0, none⟩) (c.tgt.length + i) (c.tgt.length + i), .slice (some ⟨gLI, 0, none⟩) (c.idn.length + d.obj.toNat) (c.idn.length + d.obj.toNat), .slice (some ⟨gLC, 0, none⟩) (c.comp.length + i) (c.comp.length + i)]) 27 true) ∧ gLF ≠ gLT ∧ gLF ≠ gLC ∧ gLF ≠ g7 ∧ gLT ≠ gLC ∧ gLT ≠ g7 ∧ gLC ≠ g7 ∧ i ≤ d.src.length ∧ OwnL H.next H' 2 r3 (c.sumL d ++ (d.comp.take i).map (sumRow c.src.length)) ∧ (∀ j, j < (c.sumL d ++ (d.comp.take i).map (sumRow c.src.length)).length → r3 j ≠ some ⟨gLF, 0, none⟩) ∧ (∀ j, j < (c.sumL d ++ (d.comp.take i).map (sumRow c.src.length)).length → r3 j ≠ some ⟨gLT, 0, none⟩) ∧ ∀ j, j < (c.sumL d ++ (d.comp.take i).map (sumRow c.src.length)).length → r3 j ≠ some ⟨gLI, 0, none⟩) (fun (i, r3, gLF, gLT, gLC) => d.src.length - i) ((0, rr, gF, gT, gC)) ⟨rfl, rfl, rfl, rfl, rfl, trivial⟩ ⟨rfl, trivial⟩ ?_ ?_
  ·
   refine ⟨.refl _ _, by simpa using aF, ⟨.inl rfl⟩, by simpa using aT, ⟨.inl rfl⟩, by simpa using aC, ⟨.inl rfl⟩, by assumption, by omega, by omega, by omega, by omega, by omega, by omega, ?_⟩
   have e0 : c.sumL d ++ (d.comp.take 0).map (sumRow c.src.length) = c.sumL d := by simp
   rw [e0]
   have e1 : (c.sumL d).length = c.comp.length := by simp [Cat.sumL]
   exact ⟨by omega, hR, fun j hj => hr1 j (by omega), fun j hj => hr2 j (by omega), fun j hj => hr3 j (by omega)⟩
  rintro ⟨i, r3, gLF, gLT, gLC⟩ HL4 ⟨lst4, at_LF, pl_LF, at_LT, pl_LT, at_LC, pl_LC, at_Lg7, ap4_0, ap4_1, ap4_2, ap4_3, ap4_4, ap4_5, hI⟩ KL4 hKL4
  refine .forget (fr' := [(11, some (.int .i64 (i : Int))), (3, some _), (4, some _), (5, some _), (6, some _), (7, some _)]) ⟨rfl, rfl, rfl, rfl, rfl, rfl, trivial⟩ ?_
  have ge_LF : H.next ≤ gLF := pl_LF.ge (by omega) (by omega)
  have ge_LT : H.next ≤ gLT := pl_LT.ge (by omega) (by omega)
  have ge_LC : H.next ≤ gLC := pl_LC.ge (by omega) (by omega)
  have nx_HL4 := lst4.nx
  replace hle := hle.st lst4 (fun k hk => ⟨by omega, by omega, by omega, by omega, trivial⟩)
  have ne_g3_gF : NE g3 gF := .a
  have ne_g3_gT : NE g3 gT := .a
  have ne_g3_gC : NE g3 gC := .a
  have ne_g3_g7 : NE g3 g7 := .a
  replace aD := lst4.same _ _ ⟨ne_g3_gF.ne, ne_g3_gT.ne, ne_g3_gC.ne, ne_g3_g7.ne, trivial⟩ aD
  have ne_g4_gF : NE g4 gF := .a
  have ne_g4_gT : NE g4 gT := .a
  have ne_g4_gC : NE g4 gC := .a
  have ne_g4_g7 : NE g4 g7 := .a
  replace aR := lst4.same _ _ ⟨ne_g4_gF.ne, ne_g4_gT.ne, ne_g4_gC.ne, ne_g4_g7.ne, trivial⟩ aR
  have ne_gLI_gF : NE gLI gF := .a
  have ne_gLI_g7 : NE gLI g7 := .a
  replace aI := lst4.same _ _ ⟨ne_gLI_gF.ne, (by first | assumption | omega), (by first | assumption | omega), ne_gLI_g7.ne, trivial⟩ aI
  have lt_at_LF := GHeap.ltg at_LF
  have lt_at_LT := GHeap.ltg at_LT
  have lt_at_LC := GHeap.ltg at_LC
  have lt_at_Lg7 := GHeap.ltg at_Lg7
  replace hin1 := base_hin1.mono hle
  clear hb3
  have hb3 : Cat.At _ g3 0 d q := ⟨Mem.of_get aD, hin1⟩
  obtain ⟨-, c13, -, -, -, i13, -, -, -⟩ := hb3.get
  have rk := St.refl [gLF, gLT, gLC, g7] HL4
  obtain ⟨hi, hR, hF, hT, hId⟩ := hI
  have hatC := at_LC
  have nFI : gLI ≠ gLF := pl_LF.ne (Ne.symm ne_gF_gLI) (by omega)
  have nTI : gLI ≠ gLT := pl_LT.ne (Ne.symm ne_gT_gLI) (by omega)
  have hat7 := at_Lg7
  have hql : (c.sumL d ++ (d.comp.take i).map (sumRow c.src.length)).length = c.comp.length + i := by simp [Cat.sumL]; omega
  have hl1 : (c.src ++ (d.src.take i).map (· + c.obj)).length = c.src.length + i := by simp; omega
  have hl2 : (c.tgt ++ (d.tgt.take i).map (· + c.obj)).length = c.tgt.length + i := by simp; omega
  have hfl : (slsL r3 (c.sumL d ++ (d.comp.take i).map (sumRow c.src.length))).length = c.comp.length + i := by rw [length_slsL, hql]
  refine .seq (fun K21 hK21 => .seq (fun K22 hK22 => .region (.mv rfl (.q rfl (.fieldAddr fo_27_1_B rfl) ?_))))
  refine .q rfl (.load on_24_B rfl (by first | assumption | exact Mem.of_get aD 1 _ rfl)) ?_
  refine .q rfl (.len sl_24_A rfl) (.q rfl (.cmp rfl rfl rfl) (.nil (hK22 _ _ ?_)))
  refine .cond rfl (fun h75 => ?_) (fun h75 => ?_)
  ·
   simp only [sps] at h75
   have q1 := b4 i (by omega)
   have q2 := b5 i (by omega)
   have q3 := b9 i (by omega)
   refine .skip ?_
   refine hK21 _ _ (.seq (fun K23 hK23 => ?_))
   refine .block ?_
   refine .seq (fun K24 hK24 => ?_)
   refine .regionD mo_B (.q 0 (.q 1 (.q 2 (.q 3 (.q 4 (.q 5 (.q 6 (.q 7 (.q 8 (.c 9 1 (.c 10 0 (.q 11 (.c 12 0 (.done)))))))))))))) (by kernel_rfl) ?_
   refine .q rfl (.fieldAddr fo_27_1_B rfl) ?_
   refine .q rfl (.load on_24_B rfl (by first | assumption | exact Mem.of_get at_Lg7 1 _ rfl)) ?_
   refine .q rfl (.fieldAddr fo_27_1_B rfl) ?_
   refine .q rfl (.load on_24_B rfl (by first | assumption | exact Mem.of_get aD 1 _ rfl)) ?_
   refine .mv rfl rfl ?_
   refine .q rfl (.idxN sl_24_A (by assumption) rfl rfl (by omega)) ?_
   refine .q rfl (.loadI on_2_A (by assumption) rfl (by omega)) ?_
   refine .mv rfl rfl ?_
   refine .q rfl (.add rfl rfl rfl (by omega) (by omega)) ?_
   refine .c1 rfl rfl rfl rfl (.litA rfl sl_24_A ze_2_Pa rfl rfl rfl rfl) ?_
   rintro _ H87 ⟨g87, rfl, le87, ge87, at87⟩
   have hbl := le87
   refine ⟨hbl, ?_⟩
   replace hle := hle.trans le87
   replace lst4 := lst4.le le87
   replace rk := rk.le le87
   replace aD := le87.2 _ _ aD
   replace aR := le87.2 _ _ aR
   replace aI := le87.2 _ _ aI
   replace at_LF := le87.2 _ _ at_LF
   replace at_LT := le87.2 _ _ at_LT
   replace at_LC := le87.2 _ _ at_LC
   replace at_Lg7 := le87.2 _ _ at_Lg7
   have lt_at87 := GHeap.ltg at87
   replace hin1 := base_hin1.mono hle
   clear hb3 c13 i13
   have hb3 : Cat.At _ g3 0 d q := ⟨Mem.of_get aD, hin1⟩
   refine .c0 rfl rfl rfl rfl (.appendI rfl sl_24_A ze_2_Pa rfl by_2_Pa sl_24_A rfl rfl (by assumption) (by assumption) (by first | omega | (simp <;> omega)) (by omega) (by omega)) ?_
   rintro _ H88 ⟨g88, rfl, st88, ge88, at88⟩
   replace hle := hle.st st88 (fun k hk => ⟨by omega, trivial⟩)
   replace lst4 := lst4.sP st88
   replace rk := rk.sP st88
   replace aD := st88.same _ _ ⟨(pl_LF.ne ne_g3_gF.ne (by omega)), trivial⟩ aD
   have ne_g4_gLF : NE g4 gLF := ⟨pl_LF.ne ne_g4_gF.ne (by omega)⟩
   replace aR := st88.s aR ne_g4_gLF.ne
   replace aI := st88.same _ _ ⟨(pl_LF.ne ne_gLI_gF.ne (by omega)), trivial⟩ aI
   replace at_LT := st88.same _ _ ⟨(Ne.symm ap4_0), trivial⟩ at_LT
   replace at_LC := st88.same _ _ ⟨(Ne.symm ap4_1), trivial⟩ at_LC
   replace at_Lg7 := st88.same _ _ ⟨(Ne.symm ap4_2), trivial⟩ at_Lg7
   replace at87 := st88.s at87
   have lt_at88 := GHeap.ltg at88
   replace hin := base_hin.mono hle
   replace hin1 := base_hin1.mono hle
   clear hb3
   have hb3 : Cat.At _ g3 0 d q := ⟨Mem.of_get aD, hin1⟩
   obtain ⟨c03, c13, c23, c33, c43, i13, i23, i33, i43⟩ := hb3.get
   have hm3 : MemN _ _ _ _ _ := ⟨rfl, hb3.1⟩
   have hi3 := hb3.2
   refine .q rfl (.fieldAddr fo_27_1_B rfl) ?_
   refine .r0 rfl rfl rfl (.storeR rfl sz_24_Ch rfl rfl rfl (by assumption) (by first | exact Nat.le_of_ble_eq_true rfl | (simp; done) | (simp <;> omega))) ?_
   rintro _ H18012 ⟨rfl, st18012, at18012⟩
   have nx_H18012 := st18012.nx
   replace hle := hle.st st18012 (fun k hk => ⟨by omega, trivial⟩)
   replace lst4 := lst4.sA st18012
   replace rk := rk.sA st18012
   replace aD := st18012.s aD ne_g3_g7.ne
   replace aR := st18012.s aR ne_g4_g7.ne
   replace aI := st18012.s aI ne_gLI_g7.ne
   replace at_LT := st18012.same _ _ ⟨ap4_4, trivial⟩ at_LT
   replace at_LC := st18012.same _ _ ⟨ap4_5, trivial⟩ at_LC
   replace at87 := st18012.s at87
   have ne_g88_g7 : NE g88 g7 := .a
   replace at88 := st18012.s at88 ne_g88_g7.ne
   have lt_at18012 := GHeap.ltg at18012
   replace hin := base_hin.mono hle
   replace hin1 := base_hin1.mono hle
   clear hb3 c03 c13 c23 c33 c43 i13 i23 i33 i43 hm3 hi3
   have hb3 : Cat.At _ g3 0 d q := ⟨Mem.of_get aD, hin1⟩
   obtain ⟨c03, c13, c23, c33, c43, i13, i23, i33, i43⟩ := hb3.get
   have hm3 : MemN _ _ _ _ _ := ⟨rfl, hb3.1⟩
   have hi3 := hb3.2
   try simp only [Nat.zero_add, List.set_cons_succ, List.set_cons_zero] at at18012
   refine .done ?_
   refine hK24 _ _ (.seq (fun K25 hK25 => ?_))
   refine .regionD mo_B (.q 0 (.q 1 (.q 2 (.q 3 (.q 4 (.q 5 (.q 6 (.q 7 (.q 8 (.c 9 1 (.c 10 0 (.q 11 (.c 12 0 (.done)))))))))))))) (by kernel_rfl) ?_
   refine .q rfl (.fieldAddr fo_27_2_B rfl) ?_
   refine .q rfl (.load on_24_B rfl (by first | assumption | exact Mem.of_get at18012 2 _ rfl)) ?_
   refine .q rfl (.fieldAddr fo_27_2_B rfl) ?_
   refine .q rfl (.load on_24_B rfl (by first | assumption | exact Mem.of_get aD 2 _ rfl)) ?_
   refine .mv rfl rfl ?_
   refine .q rfl (.idxN sl_24_A (by assumption) rfl rfl (by omega)) ?_
   refine .q rfl (.loadI on_2_A (by assumption) rfl (by omega)) ?_
   refine .mv rfl rfl ?_
   refine .q rfl (.add rfl rfl rfl (by omega) (by omega)) ?_
   refine .c1 rfl rfl rfl rfl (.litA rfl sl_24_A ze_2_Pa rfl rfl rfl rfl) ?_
   rintro _ H99 ⟨g99, rfl, le99, ge99, at99⟩
   have hbl := le99
   refine ⟨hbl, ?_⟩
   have nx_H99 := le99.1
   replace hle := hle.trans le99
   replace lst4 := lst4.le le99
   replace rk := rk.le le99
   replace aD := le99.2 _ _ aD
   replace aR := le99.2 _ _ aR
   replace aI := le99.2 _ _ aI
   replace at_LT := le99.2 _ _ at_LT
   replace at_LC := le99.2 _ _ at_LC
   replace at87 := le99.2 _ _ at87
   replace at88 := le99.2 _ _ at88
   replace at18012 := le99.2 _ _ at18012
   have lt_at99 := GHeap.ltg at99
   replace hin := base_hin.mono hle
   replace hin1 := base_hin1.mono hle
   clear hb3 c03 c13 c23 c33 c43 i13 i23 i33 i43 hm3 hi3
   have hb3 : Cat.At _ g3 0 d q := ⟨Mem.of_get aD, hin1⟩
   obtain ⟨c03, c13, c23, c33, c43, i13, i23, i33, i43⟩ := hb3.get
   have hm3 : MemN _ _ _ _ _ := ⟨rfl, hb3.1⟩
   have hi3 := hb3.2
   refine .c0 rfl rfl rfl rfl (.appendI rfl sl_24_A ze_2_Pa rfl by_2_Pa sl_24_A rfl rfl (by assumption) (by assumption) (by first | omega | (simp <;> omega)) (by omega) (by omega)) ?_
   rintro _ H100 ⟨g100, rfl, st100, ge100, at100⟩
   replace hle := hle.st st100 (fun k hk => ⟨by omega, trivial⟩)
   replace lst4 := lst4.sP st100
   replace rk := rk.sP st100
   replace aD := st100.same _ _ ⟨(pl_LT.ne ne_g3_gT.ne (by omega)), trivial⟩ aD
   replace at_LC := st100.same _ _ ⟨(Ne.symm ap4_3), trivial⟩ at_LC
   replace at88 := st100.s at88
   replace at18012 := st100.same _ _ ⟨(Ne.symm ap4_4), trivial⟩ at18012
   have lt_at100 := GHeap.ltg at100
   replace hin1 := base_hin1.mono hle
   clear hb3 c03 c13 c23 c33 c43 i13 i23 i33 i43 hm3 hi3
   have hb3 : Cat.At _ g3 0 d q := ⟨Mem.of_get aD, hin1⟩
   refine .q rfl (.fieldAddr fo_27_2_B rfl) ?_
   refine .r0 rfl rfl rfl (.storeR rfl sz_24_Ch rfl rfl rfl (by assumption) (by first | exact Nat.le_of_ble_eq_true rfl | (simp; done) | (simp <;> omega))) ?_
   rintro _ H19012 ⟨rfl, st19012, at19012⟩
   have nx_H19012 := st19012.nx
   replace hle := hle.st st19012 (fun k hk => ⟨by omega, trivial⟩)
   replace lst4 := lst4.sA st19012
   replace rk := rk.sA st19012
   replace aD := st19012.s aD ne_g3_g7.ne
   replace at_LC := st19012.same _ _ ⟨ap4_5, trivial⟩ at_LC
   replace at88 := st19012.s at88 ne_g88_g7.ne
   have ne_g100_g7 : NE g100 g7 := .a
   replace at100 := st19012.s at100 ne_g100_g7.ne
   have lt_at19012 := GHeap.ltg at19012
   replace hin1 := base_hin1.mono hle
   clear hb3
   have hb3 : Cat.At _ g3 0 d q := ⟨Mem.of_get aD, hin1⟩
   try simp only [Nat.zero_add, List.set_cons_succ, List.set_cons_zero] at at19012
   refine .done ?_
   refine hK25 _ _ (.seq (fun K26 hK26 => .region ?_))
   refine .R rfl (.litA rfl sl_24_A ze_2_Pa rfl rfl rfl rfl) ?_
   rintro _ H102 ⟨g102, rfl, le102, ge102, at102⟩
   replace hle := hle.trans le102
   replace lst4 := lst4.le le102
   replace rk := rk.le le102
   replace aD := le102.2 _ _ aD
   replace at_LC := le102.2 _ _ at_LC
   replace at88 := le102.2 _ _ at88
   replace at100 := le102.2 _ _ at100
   replace at19012 := le102.2 _ _ at19012
   have lt_at102 := GHeap.ltg at102
   replace hin1 := base_hin1.mono hle
   clear hb3
   have hb3 : Cat.At _ g3 0 d q := ⟨Mem.of_get aD, hin1⟩
   replace at102 : GHeap.get H102 g102 = some (.row (ints []) 2 true) := at102
   refine .mv rfl (.nil (hK26 _ _ (.seq (fun K27 hK27 => .seq (fun K28 hK28 => .region (.mv rfl (.nil (hK28 _ _ ?_))))))))
   refine .block ?_
   refine .loopR (σ := Nat × Nat × Nat) [(3, some _), (4, some _), (5, some _), (6, some _), (7, some _), (11, some _)] (fun (j, gL12, nL12) => [(13, some (.int .i64 (j : Int))), (12, some (.slice (some ⟨gL12, 0, none⟩) nL12 nL12))]) (fun (j, gL12, nL12) H' => St [g102] H102 H' ∧ H'.get gL12 = some (.row (ints (List.replicate j (-1))) 2 true) ∧ PL gL12 g102 H102.next ∧ nL12 = (List.replicate j (-1)).length ∧ j ≤ c.src.length) (fun (j, gL12, nL12) => c.src.length - j) ((0, _, _)) ⟨rfl, rfl, rfl, rfl, rfl, rfl, trivial⟩ ⟨rfl, rfl, trivial⟩ ?_ ?_
   ·
    refine ⟨.refl _ _, by assumption, ⟨.inl rfl⟩, by rfl, ?_⟩
    omega
   rintro ⟨j, gL12, nL12⟩ HL5 ⟨lst5, at_L12, pl_L12, ln_L12, hI⟩ KL5 hKL5
   refine .forget (fr' := [(13, some (.int .i64 (j : Int))), (12, some (.slice (some ⟨gL12, 0, none⟩) nL12 nL12)), (3, some _), (4, some _), (5, some _), (6, some _), (7, some _), (11, some _)]) ⟨rfl, rfl, rfl, rfl, rfl, rfl, rfl, rfl, trivial⟩ ?_
   have ge_L12 : H.next ≤ gL12 := pl_L12.ge (by omega) (by omega)
   have nx_HL5 := lst5.nx
   replace hle := hle.st lst5 (fun k hk => ⟨by omega, trivial⟩)
   replace lst4 := lst4.sA lst5
   replace rk := rk.sA lst5
   have ne_g3_g102 : NE g3 g102 := .a
   replace aD := lst5.s aD ne_g3_g102.ne
   have ne_gLC_g102 : NE gLC g102 := .a
   replace at_LC := lst5.s at_LC ne_gLC_g102.ne
   have ne_g88_g102 : NE g88 g102 := .a
   replace at88 := lst5.s at88 ne_g88_g102.ne
   have ne_g100_g102 : NE g100 g102 := .a
   replace at100 := lst5.s at100 ne_g100_g102.ne
   have ne_g7_g102 : NE g7 g102 := .a
   replace at19012 := lst5.s at19012 ne_g7_g102.ne
   have lt_at_L12 := GHeap.ltg at_L12
   replace hin1 := base_hin1.mono hle
   clear hb3
   have hb3 : Cat.At _ g3 0 d q := ⟨Mem.of_get aD, hin1⟩
   have hz : (List.replicate j (-1 : Int)).length = j := List.length_replicate
   refine .seq (fun K29 hK29 => .seq (fun K30 hK30 => .region (.mv rfl (.mv rfl (.q rfl (.cmp rfl rfl rfl) (.nil (hK30 _ _ ?_)))))))
   refine .cond rfl (fun h105 => ?_) (fun h105 => ?_)
   ·
    simp only [sps] at h105
    refine .skip ?_
    refine hK29 _ _ (.seq (fun K31 hK31 => ?_))
    refine .block ?_
    refine .region (.mv rfl ?_)
    refine .R rfl (.litA rfl sl_24_A ze_2_Pa rfl rfl rfl rfl) ?_
    rintro _ H109 ⟨g109, rfl, le109, ge109, at109⟩
    replace hle := hle.trans le109
    replace lst5 := lst5.le le109
    replace aD := le109.2 _ _ aD
    replace at_L12 := le109.2 _ _ at_L12
    have lt_at109 := GHeap.ltg at109
    replace hin1 := base_hin1.mono hle
    clear hb3
    have hb3 : Cat.At _ g3 0 d q := ⟨Mem.of_get aD, hin1⟩
    refine .R rfl (.appendI rfl sl_24_A ze_2_Pa rfl by_2_Pa sl_24_A rfl rfl (by assumption) (by assumption) (by first | omega | (simp <;> omega)) (by omega) (by omega)) ?_
    rintro _ H110 ⟨g110, rfl, st110, ge110, at110⟩
    replace hle := hle.st st110 (fun k hk => ⟨by omega, trivial⟩)
    replace lst5 := lst5.sP st110
    have ne_g3_gL12 : NE g3 gL12 := ⟨pl_L12.ne ne_g3_g102.ne (by omega)⟩
    replace aD := st110.s aD ne_g3_gL12.ne
    replace hin1 := base_hin1.mono hle
    clear hb3
    have hb3 : Cat.At _ g3 0 d q := ⟨Mem.of_get aD, hin1⟩
    refine .mv rfl (.nil (hK31 _ _ (.region (.mv rfl ?_))))
    refine .q rfl (.add rfl rfl rfl (by omega) (by omega)) ?_
    refine .mv rfl (.nil ?_)
    refine hKL5 ((j + 1, _, _)) _ _ ?_ ?_ ⟨rfl, rfl, rfl, rfl, rfl, rfl, rfl, rfl, trivial⟩
    ·
     refine ⟨lst5, by (rw [List.replicate_succ']; assumption), by exact ⟨.inr (by omega)⟩, by (rw [List.replicate_succ'] <;> (first | omega | (simp only [List.length_append, List.length_cons, List.length_nil] <;> omega))), ?_⟩
     omega
    (dsimp only; omega)
   try simp only [sps] at h105
   refine .exit ?_
   refine hK27 _ _ (.seq (fun K32 hK32 => .seq (fun K33 hK33 => .region ?_)))
   obtain rfl : j = c.src.length := by omega
   have h9 : nL12 = (sumRow c.src.length ((d.comp.getD i []).take 0)).length := by rw [length_sumRow, ln_L12]; simp
   refine .mv rfl (.nil (hK33 _ _ ?_))
   refine .block ?_
   refine .loopR (σ := Nat × Nat × Nat) [(3, some _), (4, some _), (5, some _), (6, some _), (7, some _), (11, some _)] (fun (j, gL12v6, nL12v6) => [(14, some (.int .i64 (j : Int))), (12, some (.slice (some ⟨gL12v6, 0, none⟩) nL12v6 nL12v6))]) (fun (j, gL12v6, nL12v6) H' => St [gL12] HL5 H' ∧ H'.get gL12v6 = some (.row (ints (sumRow c.src.length ((d.comp.getD i []).take j))) 2 true) ∧ PL gL12v6 gL12 HL5.next ∧ nL12v6 = (sumRow c.src.length ((d.comp.getD i []).take j)).length ∧ j ≤ d.src.length) (fun (j, gL12v6, nL12v6) => d.src.length - j) ((0, _, _)) ⟨rfl, rfl, rfl, rfl, rfl, rfl, trivial⟩ ⟨rfl, rfl, trivial⟩ ?_ ?_
   ·
    refine ⟨.refl _ _, by (rw [List.take_zero, sumRow_nil]; assumption), ⟨.inl rfl⟩, by assumption, ?_⟩
    omega
   rintro ⟨j, gL12v6, nL12v6⟩ HL6 ⟨lst6, at_L12v6, pl_L12v6, ln_L12v6, hI⟩ KL6 hKL6
   refine .forget (fr' := [(14, some (.int .i64 (j : Int))), (12, some (.slice (some ⟨gL12v6, 0, none⟩) nL12v6 nL12v6)), (3, some _), (4, some _), (5, some _), (6, some _), (7, some _), (11, some _)]) ⟨rfl, rfl, rfl, rfl, rfl, rfl, rfl, rfl, trivial⟩ ?_
   have ge_L12v6 : H.next ≤ gL12v6 := pl_L12v6.ge (by omega) (by omega)
   have nx_HL6 := lst6.nx
   replace hle := hle.st lst6 (fun k hk => ⟨by omega, trivial⟩)
   replace lst4 := lst4.sP lst6
   replace rk := rk.sP lst6
   have ne_g3_gL12 : NE g3 gL12 := ⟨pl_L12.ne ne_g3_g102.ne (by omega)⟩
   replace aD := lst6.s aD ne_g3_gL12.ne
   have ne_gLC_gL12 : NE gLC gL12 := ⟨pl_L12.ne ne_gLC_g102.ne (by omega)⟩
   replace at_LC := lst6.s at_LC ne_gLC_gL12.ne
   replace at88 := lst6.same _ _ ⟨(pl_L12.ne ne_g88_g102.ne (by omega)), trivial⟩ at88
   replace at100 := lst6.same _ _ ⟨(pl_L12.ne ne_g100_g102.ne (by omega)), trivial⟩ at100
   have ne_g7_gL12 : NE g7 gL12 := ⟨pl_L12.ne ne_g7_g102.ne (by omega)⟩
   replace at19012 := lst6.s at19012 ne_g7_gL12.ne
   replace hin1 := base_hin1.mono hle
   have hb3 : Cat.At _ g3 0 d q := ⟨Mem.of_get aD, hin1⟩
   obtain ⟨-, c13, -, -, c43, -, -, -, i43⟩ := hb3.get
   have hz : (sumRow c.src.length ((d.comp.getD i []).take j)).length = c.src.length + j := by rw [length_sumRow, List.length_take]; omega
   refine .seq (fun K34 hK34 => .seq (fun K35 hK35 => .region (.mv rfl (.q rfl (.fieldAddr fo_27_1_B rfl) ?_))))
   refine .q rfl (.load on_24_B rfl (by first | assumption | exact Mem.of_get aD 1 _ rfl)) ?_
   refine .q rfl (.len sl_24_A rfl) (.q rfl (.cmp rfl rfl rfl) (.nil (hK35 _ _ ?_)))
   refine .cond rfl (fun h115 => ?_) (fun h115 => ?_)
   ·
    simp only [sps] at h115
    have q4 := b10 i (by omega) j (by omega)
    have hz2 : (sumRow c.src.length ((d.comp.getD i []).take (j + 1))).length = c.src.length + (j + 1) := by rw [length_sumRow, List.length_take]; omega
    have u1 := i43.2 i (by omega)
    refine .skip ?_
    refine hK34 _ _ (.seq (fun K36 hK36 => ?_))
    refine .block ?_
    refine .seq (fun K37 hK37 => .region (.q rfl (.fieldAddr fo_27_4_B rfl) ?_))
    refine .q rfl (.load on_25_B rfl (by first | assumption | exact Mem.of_get aD 4 _ rfl)) ?_
    refine .mv rfl ?_
    refine .q rfl (.idxN sl_25_B (Intss.sl (by assumption)) rfl rfl (by omega)) ?_
    refine .q rfl (.loadR on_24_B (by assumption) rfl (by omega)) ?_
    refine .mv rfl ?_
    refine .q rfl (.idxN sl_24_A (by assumption) rfl rfl (by omega)) ?_
    refine .q rfl (.loadI on_2_A (by assumption) rfl (by omega)) ?_
    refine .mv rfl (.nil (hK37 _ _ (.seq (fun K38 hK38 => .seq (fun K39 hK39 => .region (.mv rfl (.q rfl (.cmp rfl rfl rfl) (.nil (hK39 _ _ ?_)))))))))
    refine .cond rfl (fun h127 => ?_) (fun h127 => ?_)
    ·
     simp only [sps] at h127
     refine .region (.mv rfl (.mv rfl ?_))
     refine .q rfl (.add rfl rfl rfl (by omega) (by omega)) ?_
     refine .mv rfl (.nil (hK38 _ _ (.region (.mv rfl (.mv rfl ?_)))))
     refine .R rfl (.litA rfl sl_24_A ze_2_Pa rfl rfl rfl rfl) ?_
     rintro _ H133 ⟨g133, rfl, le133, ge133, at133⟩
     replace hle := hle.trans le133
     replace lst6 := lst6.le le133
     replace aD := le133.2 _ _ aD
     replace at_L12v6 := le133.2 _ _ at_L12v6
     have lt_at133 := GHeap.ltg at133
     replace hin1 := base_hin1.mono hle
     clear hb3 c13 c43 i43
     have hb3 : Cat.At _ g3 0 d q := ⟨Mem.of_get aD, hin1⟩
     clear u1
     refine .R rfl (.appendI rfl sl_24_A ze_2_Pa rfl by_2_Pa sl_24_A rfl rfl (by assumption) (by assumption) (by first | omega | (simp <;> omega)) (by omega) (by omega)) ?_
     rintro _ H134 ⟨g134, rfl, st134, ge134, at134⟩
     replace hle := hle.st st134 (fun k hk => ⟨by omega, trivial⟩)
     replace lst6 := lst6.sQ st134
     have ne_g3_gL12v6 : NE g3 gL12v6 := ⟨pl_L12v6.ne ne_g3_gL12.ne (by omega)⟩
     replace aD := st134.s aD ne_g3_gL12v6.ne
     replace hin1 := base_hin1.mono hle
     clear hb3
     have hb3 : Cat.At _ g3 0 d q := ⟨Mem.of_get aD, hin1⟩
     refine .mv rfl (.nil (hK36 _ _ (.region (.mv rfl ?_))))
     refine .q rfl (.add rfl rfl rfl (by omega) (by omega)) ?_
     refine .mv rfl (.nil ?_)
     refine hKL6 ((j + 1, _, _)) _ _ ?_ ?_ ⟨rfl, rfl, rfl, rfl, rfl, rfl, rfl, rfl, trivial⟩
     ·
      refine ⟨lst6, by (rw [sumRow_take (by omega), if_pos (by omega)]; assumption), by exact ⟨.inr (by omega)⟩, by omega, ?_⟩
      omega
     (dsimp only; omega)
    simp only [sps] at h127
    refine .skip ?_
    refine hK38 _ _ (.region (.mv rfl (.mv rfl ?_)))
    refine .R rfl (.litA rfl sl_24_A ze_2_Pa rfl rfl rfl rfl) ?_
    rintro _ H133x2 ⟨g133x2, rfl, le133x2, ge133x2, at133x2⟩
    replace hle := hle.trans le133x2
    replace lst6 := lst6.le le133x2
    replace aD := le133x2.2 _ _ aD
    replace at_L12v6 := le133x2.2 _ _ at_L12v6
    have lt_at133x2 := GHeap.ltg at133x2
    replace hin1 := base_hin1.mono hle
    have hb3 : Cat.At _ g3 0 d q := ⟨Mem.of_get aD, hin1⟩
    refine .R rfl (.appendI rfl sl_24_A ze_2_Pa rfl by_2_Pa sl_24_A rfl rfl (by assumption) (by assumption) (by first | omega | (simp <;> omega)) (by omega) (by omega)) ?_
    rintro _ H134x2 ⟨g134x2, rfl, st134x2, ge134x2, at134x2⟩
    replace hle := hle.st st134x2 (fun k hk => ⟨by omega, trivial⟩)
    replace lst6 := lst6.sQ st134x2
    have ne_g3_gL12v6 : NE g3 gL12v6 := ⟨pl_L12v6.ne ne_g3_gL12.ne (by omega)⟩
    replace aD := st134x2.s aD ne_g3_gL12v6.ne
    replace hin1 := base_hin1.mono hle
    clear hb3
    have hb3 : Cat.At _ g3 0 d q := ⟨Mem.of_get aD, hin1⟩
    refine .mv rfl (.nil (hK36 _ _ (.region (.mv rfl ?_))))
    refine .q rfl (.add rfl rfl rfl (by omega) (by omega)) ?_
    refine .mv rfl (.nil ?_)
    refine hKL6 ((j + 1, _, _)) _ _ ?_ ?_ ⟨rfl, rfl, rfl, rfl, rfl, rfl, rfl, rfl, trivial⟩
    ·
     refine ⟨lst6, by (rw [sumRow_take (by omega), if_neg (by omega)]; assumption), by exact ⟨.inr (by omega)⟩, by omega, ?_⟩
     omega
    (dsimp only; omega)
   try simp only [sps] at h115
   refine .exit ?_
   refine hK32 _ _ (.region ?_)
   obtain rfl : j = d.src.length := by omega
   rw [show (d.comp.getD i []).take d.src.length = d.comp.getD i [] from List.take_of_length_le (by omega)] at at_L12v6 ln_L12v6
   obtain rfl := ln_L12v6
   refine .q rfl (.fieldAddr fo_27_4_B rfl) ?_
   refine .q rfl (.load on_25_B rfl (by first | assumption | exact Mem.of_get at19012 4 _ rfl)) ?_
   refine .mv rfl ?_
   refine .R rfl (.litA rfl sl_25_B ze_24_Hj rfl rfl rfl rfl) ?_
   rintro _ H138 ⟨g138, rfl, le138, ge138, at138⟩
   replace hle := hle.trans le138
   replace lst4 := lst4.le le138
   replace rk := rk.le le138
   replace aD := le138.2 _ _ aD
   replace at_LC := le138.2 _ _ at_LC
   replace at88 := le138.2 _ _ at88
   replace at100 := le138.2 _ _ at100
   replace at19012 := le138.2 _ _ at19012
   replace at_L12v6 := le138.2 _ _ at_L12v6
   have lt_at138 := GHeap.ltg at138
   replace hin1 := base_hin1.mono hle
   have hb3 : Cat.At _ g3 0 d q := ⟨Mem.of_get aD, hin1⟩
   refine .R rfl (.appendV rfl sl_25_B ze_24_Hj rfl by_24_Hj sl_25_B rfl rfl (by assumption) (by assumption) (by first | omega | (simp <;> omega)) rfl rfl (by omega) (by omega)) ?_
   rintro _ H139 ⟨g139, rfl, st139, ge139, at139⟩
   replace hle := hle.st st139 (fun k hk => ⟨by omega, trivial⟩)
   replace lst4 := lst4.sP st139
   replace rk := rk.sP st139
   replace aD := st139.same _ _ ⟨(pl_LC.ne ne_g3_gC.ne (by omega)), trivial⟩ aD
   replace at88 := st139.s at88
   replace at100 := st139.s at100
   replace at19012 := st139.same _ _ ⟨(Ne.symm ap4_5), trivial⟩ at19012
   replace at_L12v6 := st139.same _ _ ⟨(Ne.symm (pl_L12v6.ne ne_gLC_gL12.ne (by omega))), trivial⟩ at_L12v6
   replace hin1 := base_hin1.mono hle
   clear hb3
   have hb3 : Cat.At _ g3 0 d q := ⟨Mem.of_get aD, hin1⟩
   refine .q rfl (.fieldAddr fo_27_4_B rfl) ?_
   refine .r0 rfl rfl (.storeR rfl sz_25_Ch rfl rfl rfl (by assumption) (by first | exact Nat.le_of_ble_eq_true rfl | (simp; done) | (simp <;> omega))) ?_
   rintro _ H32006 ⟨rfl, st32006, at32006⟩
   replace hle := hle.st st32006 (fun k hk => ⟨by omega, trivial⟩)
   replace lst4 := lst4.sA st32006
   replace rk := rk.sA st32006
   replace aD := st32006.s aD ne_g3_g7.ne
   replace at88 := st32006.s at88 ne_g88_g7.ne
   replace at100 := st32006.s at100 ne_g100_g7.ne
   replace at_L12v6 := st32006.same _ _ ⟨(Ne.symm (pl_L12v6.ne ne_g7_gL12.ne (by omega))), trivial⟩ at_L12v6
   replace at139 := st32006.s at139
   replace hin1 := base_hin1.mono hle
   clear hb3
   have hb3 : Cat.At _ g3 0 d q := ⟨Mem.of_get aD, hin1⟩
   try simp only [Nat.zero_add, List.set_cons_succ, List.set_cons_zero] at at32006
   refine .nil (hK23 _ _ (.region (.mv rfl ?_)))
   refine .q rfl (.add rfl rfl rfl (by omega) (by omega)) ?_
   refine .mv rfl (.nil ?_)
   refine hKL4 ((i + 1, upd r3 (c.sumL d ++ (d.comp.take i).map (sumRow c.src.length)).length (some ⟨gL12v6, 0, none⟩), g88, g100, g139)) _ _ ?_ ?_ ⟨rfl, rfl, rfl, rfl, rfl, rfl, trivial⟩
   ·
    refine ⟨lst4, by (rw [take_map_snoc (d := 0) (by omega), ← List.append_assoc]; assumption), by exact ⟨.inr (by omega)⟩, by (rw [take_map_snoc (d := 0) (by omega), ← List.append_assoc]; assumption), by exact ⟨.inr (by omega)⟩, by (rw [take_map_snoc (d := []) (by omega), ← List.append_assoc, slsL_snoc]; assumption), by exact ⟨.inr (by omega)⟩, by assumption, by omega, by omega, by omega, by omega, by omega, by omega, ?_⟩
    have hg9 : g102 ≤ gL12v6 := pl_L12v6.ge (pl_L12.ge (Nat.le_refl _) (by omega)) (by omega)
    have hR' := hR.st rk (.cons hF (.cons hT (.cons (hR.neT hatC rfl) (.cons (hR.neT hat7 rfl) (.nil _ _)))))
    have hn1 := hR.ne (g := gL12v6) (by omega)
    have hn2 := hR.ne (g := g88) (by omega)
    have hn3 := hR.ne (g := g100) (by omega)
    have hrow := at_L12v6
    rw [take_map_snoc (d := []) (by omega), ← List.append_assoc]
    exact ⟨by omega, hR'.snoc2 hrow hn1 (by omega), ne_snoc hn2 (by omega), ne_snoc hn3 (by omega), ne_snoc hId (by omega)⟩
   (dsimp only; omega)
  try simp only [sps] at h75
  refine .exit ?_
  refine hK19 _ _ (.seq (fun K40 hK40 => .region ?_))
  obtain rfl : i = d.src.length := by omega
  rw [List.take_length] at at_LF
  rw [show d.tgt.take d.src.length = d.tgt from List.take_of_length_le (by omega)] at at_LT
  rw [show d.comp.take d.src.length = d.comp from List.take_of_length_le (by omega)] at at_LC hR hF hT hId
  refine .q rfl (.loadM ag_27_D rfl ⟨rfl, Mem.of_get at_Lg7⟩) ?_
  have hat4 := aR
  refine .r0 rfl rfl (.fillA rfl sz_27_D rfl rfl rfl rfl) ?_
  rintro _ H33001 ⟨rfl, st33001, at33001⟩
  replace hle := hle.st st33001 (fun k hk => ⟨by omega, trivial⟩)
  replace aD := st33001.s aD
  have ne_gLI_g4 : NE gLI g4 := .a
  replace aI := st33001.s aI ne_gLI_g4.ne
  have ne_g4_gLF : NE g4 gLF := ⟨pl_LF.ne ne_g4_gF.ne (by omega)⟩
  replace at_LF := st33001.s at_LF (Ne.symm ne_g4_gLF.ne)
  replace at_LT := st33001.same _ _ ⟨(Ne.symm (pl_LT.ne ne_g4_gT.ne (by omega))), trivial⟩ at_LT
  replace at_LC := st33001.same _ _ ⟨(Ne.symm (pl_LC.ne ne_g4_gC.ne (by omega))), trivial⟩ at_LC
  replace hin1 := base_hin1.mono hle
  have hb3 : Cat.At _ g3 0 d q := ⟨Mem.of_get aD, hin1⟩
  refine .nil (hK40 _ _ ?_)
  refine .ret ?_
  refine hret _ _ ?_
  refine ⟨_, _, _, _, rfl, ag_27_D, (by rfl), (Mem.of_get at33001), ?_⟩
  exact ⟨hle, gLF, gLT, gLI, gLC, r3, by simp [Cat.cells, Cat.sum, ownP, Cat.sumL, b3, b8, show d.idn.length = d.obj.toNat by omega], ⟨at_LF, at_LT, aI, at_LC, ge_LF, ge_LT, ge_LI, ge_LC, by assumption, Ne.symm nFI, Ne.symm nTI, hR.st st33001 (.cons (hR.neT hat4 rfl) (.nil _ _)), hF, hT, hId⟩⟩
end Go.Proofs.Ytkfbalfcbaphcaa
namespace Go.Proofs.Ytkfbalfcbaphcaa
open Go Go.GL Go.RowKit Go.Proofs
theorem us_91_Da : (Try.prog.underlying 91).isSome = true := by kernel_rfl
theorem it_2_Da : intT Try.prog 2 = some .i64 := by kernel_rfl
theorem fo_93_2_Da : fieldOff Try.prog 93 2 = some 2 := by kernel_rfl
theorem on_91_Da : oneT Try.prog 91 = true := by kernel_rfl
theorem sz_91_Da : (Try.prog.info? 91).map (·.size) = some 1 := by kernel_rfl
theorem fo_93_1_Da : fieldOff Try.prog 93 1 = some 1 := by kernel_rfl
theorem on_3_Da : oneT Try.prog 3 = true := by kernel_rfl
theorem fo_93_0_Da : fieldOff Try.prog 93 0 = some 0 := by kernel_rfl
theorem on_22_Da : oneT Try.prog 22 = true := by kernel_rfl
theorem sl_22_Da : sliceT Try.prog 22 = some (5, 1) := by kernel_rfl
theorem on_5_Da : oneT Try.prog 5 = true := by kernel_rfl
theorem us_5_Da : (Try.prog.underlying 5).isSome = true := by kernel_rfl
theorem sz_3_Da : (Try.prog.info? 3).map (·.size) = some 1 := by kernel_rfl
theorem us_3_Da : (Try.prog.underlying 3).isSome = true := by kernel_rfl
theorem it_91_Da : intT Try.prog 91 = some .u64 := by kernel_rfl
theorem bt_93_Da : buildT Try.prog 93 = some ([.slice none 0 0, .int .i64 0, .int .u64 0], [(0, 1), (1, 1), (2, 1)]) := by kernel_rfl
theorem sz_93_Da : (Try.prog.info? 93).map (·.size) = some 3 := by kernel_rfl
theorem l01Next_c {gS : Nat} {n : Int} {H : GHeap} (hs : DSrc 93 H gS := by assumption) :
    GCalls Try.prog 73 [.pointer (some ⟨gS, 0, none⟩), .int .i64 n] H (Drawn 93 gS n H) := by
  obtain ⟨a, xs, p, hh, hg, ⟨p0, p1⟩, hx, hb, hlt⟩ := hs
  have hx0 := andU_le ((IntKind.wrap .u64 (IntKind.wrap .u64 (hh * 6364136223846793005) + 1442695040888963407)).fdiv (2 ^ 33))
  have hlo : ∀ b o t, a = some ⟨b, o, t⟩ → out [gS] b := fun b o t ha => ⟨by have := hlt b o t ha; omega, trivial⟩
  refine GCalls.body (N := 58) (rs := [.tmp 4]) Try.func73 rfl rfl rfl rfl (fun Qx hret hend => ?_)
  refine .fg [0, 1] rfl ?_
  have hst := St.refl [gS] H
  have hbs := hb.st hst hlo
  refine .seq (fun K1 hK1 => .region (.mv rfl (.nil (hK1 _ _ (.seq (fun K2 hK2 => .seq (fun K3 hK3 => .region (.mv rfl (.q rfl (.cmp rfl rfl rfl) (.nil (hK3 _ _ ?_)))))))))))
  refine .cond rfl (fun h7 => ?_) (fun h7 => ?_)
  ·
   try simp only [sps] at h7
   refine .seq (fun K4 hK4 => .region (.mv rfl (.nil (hK4 _ _ ?_))))
   refine .ret ?_
   refine hret _ _ ?_
   refine ⟨_, rfl, ?_⟩
   exact ⟨0, rfl, by omega, fun h => by omega, fun _ => rfl, hst, a, xs, p, hh, hg, ⟨p0, p1⟩, hx, hbs, hlt⟩
  try simp only [sps] at h7
  refine .skip ?_
  refine hK2 _ _ (.seq (fun K5 hK5 => .region (.mv rfl (.mv rfl (.q rfl (.nilCheck rfl) (.q rfl (.fieldAddr fo_93_2_Da rfl) ?_))))))
  refine .q rfl (.load on_91_Da rfl (by first | assumption | exact Mem.of_get hg 2 _ rfl)) ?_
  refine .q rfl (.arith rfl rfl rfl) (.q rfl (.arith rfl rfl rfl) (.q rfl (.nilCheck rfl) (.q rfl (.fieldAddr fo_93_2_Da rfl) ?_)))
  refine .r0 rfl rfl (.storeR rfl sz_91_Da rfl rfl rfl (by assumption) (by first | exact Nat.le_of_ble_eq_true rfl | (simp; done) | (simp <;> omega))) ?_
  rintro _ H3009 ⟨rfl, st3009, at3009⟩
  replace hst := hst.sA st3009
  clear hbs
  have hbs := hb.st hst hlo
  have c0 := hbs.1
  have c1 := hbs.2 p.toNat
  try simp only [Nat.zero_add, List.set_cons_succ, List.set_cons_zero] at at3009
  refine .nil (hK5 _ _ (.seq (fun K6 hK6 => .region (.mv rfl (.q rfl (.nilCheck rfl) (.q rfl (.fieldAddr fo_93_2_Da rfl) ?_))))))
  refine .q rfl (.load on_91_Da rfl (by first | assumption | exact Mem.of_get at3009 2 _ rfl)) ?_
  refine .q rfl (.shrU rfl rfl) (.q rfl (.andU rfl rfl) ?_)
  refine .q rfl (.conv64 us_91_Da it_2_Da rfl (Int.le_trans (by decide) (andU_le _).1) (Int.le_trans (andU_le _).2 (by decide))) ?_
  refine .mv rfl (.nil (hK6 _ _ (.seq (fun K7 hK7 => .seq (fun K8 hK8 => ?_)))))
  refine .regionD mo_B (.q 0 (.q 1 (.q 2 (.q 3 (.q 4 (.q 5 (.q 6 (.q 7 (.q 8 (.q 9 (.done))))))))))) (by kernel_rfl) ?_
  refine .mv rfl rfl (.q rfl (.nilCheck rfl) (.q rfl (.fieldAddr fo_93_1_Da rfl) ?_))
  refine .q rfl (.load on_3_Da rfl (by first | assumption | exact Mem.of_get at3009 1 _ rfl)) ?_
  refine .mv rfl rfl (.q rfl (.nilCheck rfl) (.q rfl (.fieldAddr fo_93_0_Da rfl) ?_))
  refine .q rfl (.load on_22_Da rfl (by first | assumption | exact Mem.of_get at3009 0 _ rfl)) ?_
  refine .q rfl (.len sl_22_Da rfl) (.q rfl (.cmp rfl rfl rfl) ?_)
  refine .done ?_
  refine hK8 _ _ ?_
  refine .cond rfl (fun h33 => ?_) (fun h33 => ?_)
  ·
   try simp only [sps] at h33
   refine .seq (fun K9 hK9 => ?_)
   refine .regionD mo_B (.q 0 (.q 1 (.q 2 (.q 3 (.q 4 (.q 5 (.q 6 (.q 7 (.q 8 (.q 9 (.q 10 (.q 11 (.q 12 (.c 13 0 (.done))))))))))))))) (by kernel_rfl) ?_
   refine .mv rfl rfl (.mv rfl rfl (.q rfl (.nilCheck rfl) (.q rfl (.fieldAddr fo_93_0_Da rfl) ?_)))
   refine .q rfl (.load on_22_Da rfl (by first | assumption | exact Mem.of_get at3009 0 _ rfl)) ?_
   refine .mv rfl rfl (.q rfl (.nilCheck rfl) (.q rfl (.fieldAddr fo_93_1_Da rfl) ?_))
   refine .q rfl (.load on_3_Da rfl (by first | assumption | exact Mem.of_get at3009 1 _ rfl)) ?_
   refine .q rfl (.idx1 sl_22_Da (by assumption) rfl rfl (by omega) (by omega)) ?_
   refine .q rfl (.loadE on_5_Da (by assumption) rfl (by omega)) ?_
   refine .q rfl (.conv64 us_5_Da it_2_Da rfl (by omega) (by omega)) ?_
   refine .q rfl (.add rfl rfl rfl (by omega) (by omega)) ?_
   refine .d0 rfl rfl rfl rfl (.quiet (.assign rfl) CIs.mk) ?_
   refine .done ?_
   refine hK9 _ _ (.region (.mv rfl (.mv rfl (.q rfl (.nilCheck rfl) (.q rfl (.fieldAddr fo_93_1_Da rfl) ?_)))))
   refine .q rfl (.load on_3_Da rfl (by first | assumption | exact Mem.of_get at3009 1 _ rfl)) ?_
   refine .q rfl (.add rfl rfl rfl (by omega) (by omega)) ?_
   refine .q rfl (.nilCheck rfl) (.q rfl (.fieldAddr fo_93_1_Da rfl) ?_)
   refine .r0 rfl rfl (.storeR rfl sz_3_Da rfl rfl rfl (by assumption) (by first | exact Nat.le_of_ble_eq_true rfl | (simp; done) | (simp <;> omega))) ?_
   rintro _ H7008 ⟨rfl, st7008, at7008⟩
   replace hst := hst.sA st7008
   clear hbs c0 c1
   have hbs := hb.st hst hlo
   have c1 := hbs.2 p.toNat
   try simp only [Nat.zero_add, List.set_cons_succ, List.set_cons_zero] at at7008
   refine .nil (hK7 _ _ (.seq (fun K10 hK10 => .region (.mv rfl (.mv rfl ?_)))))
   refine .q rfl (.rem rfl rfl (by omega)) ?_
   refine .mv rfl (.nil (hK10 _ _ ?_))
   refine .ret ?_
   refine hret _ _ ?_
   refine ⟨_, rfl, ?_⟩
   have hm := tmod_bd (x := Go.GL.andU ((IntKind.wrap .u64 (IntKind.wrap .u64 (hh * 6364136223846793005) + 1442695040888963407)).fdiv (2 ^ 33)) 16777215 + xs.getD p.toNat 0) (n := n) (by omega) (by omega)
   exact ⟨_, rfl, hm.1, fun _ => hm.2, fun h => by omega, hst, a, xs, p + 1, _, at7008, ⟨by omega, by omega⟩, hx, hbs, hlt⟩
  try simp only [sps] at h33
  refine .skip ?_
  refine hK7 _ _ (.seq (fun K11 hK11 => .region (.mv rfl (.mv rfl ?_))))
  refine .q rfl (.rem rfl rfl (by omega)) ?_
  refine .mv rfl (.nil (hK11 _ _ ?_))
  refine .ret ?_
  refine hret _ _ ?_
  refine ⟨_, rfl, ?_⟩
  have hm := tmod_bd (x := Go.GL.andU ((IntKind.wrap .u64 (IntKind.wrap .u64 (hh * 6364136223846793005) + 1442695040888963407)).fdiv (2 ^ 33)) 16777215) (n := n) (by omega) (by omega)
  exact ⟨_, rfl, hm.1, fun _ => hm.2, fun h => by omega, hst, a, xs, p, _, at3009, ⟨p0, p1⟩, hx, hbs, hlt⟩
theorem l01From_c {a : Option Addr} {xs : List Int} {H : GHeap} (hb : Bytes H a xs := by assumption) (hlt : ∀ b o t, a = some ⟨b, o, t⟩ → b < H.next) (hx : xs.length ≤ 4096 := by omega) :
    GCalls Try.prog 46 [.slice a xs.length xs.length] H (fun v H' => H.Le H' ∧ ∃ g, v = .pointer (some ⟨g, 0, none⟩) ∧ H.next ≤ g ∧ DSrc 93 H' g) := by
  refine GCalls.body (N := 38) (rs := [.tmp 2]) Try.func46 rfl rfl rfl rfl (fun Qx hret hend => ?_)
  refine .fg [0] rfl ?_
  have hle := GHeap.Le.refl H
  have base_hb := hb
  refine .seq (fun K1 hK1 => .region (.mv rfl (.nil (hK1 _ _ (.seq (fun K2 hK2 => .region (.mv rfl (.mv rfl (.q rfl (.len sl_22_Da rfl) (.q rfl (.conv us_3_Da it_91_Da rfl) (.q rfl (.arith rfl rfl rfl) (.q rfl (.build bt_93_Da rfl rfl rfl) ?_))))))))))))
  refine .R rfl (.boxR rfl sz_93_Da rfl) ?_
  rintro _ H11 ⟨g11, rfl, le11, ge11, at11⟩
  replace hle := hle.trans le11
  refine .mv rfl (.nil (hK2 _ _ (.seq (fun K3 hK3 => .seq (fun K4 hK4 => .region (.mv rfl (.nil (hK4 _ _ ?_))))))))
  refine .block ?_
  refine .loopR (σ := Nat × Int) [(0, some _), (3, some _)] (fun (k, hh) => [(4, some (.int .i64 (k : Int)))]) (fun (k, hh) H' => St [g11] H11 H' ∧ H'.get g11 = some (.row ([.slice a xs.length xs.length, .int .i64 0, .int .u64 hh]) 93 true) ∧ k ≤ xs.length) (fun (k, hh) => xs.length - k) ((0, IntKind.wrap .u64 (7019 + IntKind.wrap .u64 (xs.length : Int)))) ⟨rfl, rfl, trivial⟩ ⟨rfl, trivial⟩ ?_ ?_
  ·
   refine ⟨.refl _ _, by first | assumption | exact at11 | simpa using at11, ?_⟩
   omega
  rintro ⟨k, hh⟩ HL1 ⟨lst1, at_Lg11, hI⟩ KL1 hKL1
  refine .forget (fr' := [(4, some (.int .i64 (k : Int))), (0, some _), (3, some _)]) ⟨rfl, rfl, rfl, trivial⟩ ?_
  replace hle := hle.st lst1 (fun k hk => ⟨by omega, trivial⟩)
  replace hb := base_hb.mono hle
  refine .seq (fun K5 hK5 => .seq (fun K6 hK6 => .region (.mv rfl (.mv rfl (.q rfl (.len sl_22_Da rfl) (.q rfl (.cmp rfl rfl rfl) (.mv rfl ?_)))))))
  refine .split (fun h16 => ?_) (fun h16 => ?_)
  ·
   try simp only [sps] at h16
   refine .qg rfl (.move rfl) (.qg rfl (.cmp rfl rfl rfl) (.q rfl (.pickT rfl rfl) (.nil (hK6 _ _ ?_))))
   refine .cond rfl (fun h19 => ?_) (fun h19 => ?_)
   ·
    simp only [sps] at h19
    refine .skip ?_
    refine hK5 _ _ (.seq (fun K7 hK7 => ?_))
    refine .block ?_
    refine .regionD mo_B (.q 0 (.q 1 (.q 2 (.q 3 (.q 4 (.q 5 (.q 6 (.q 7 (.q 8 (.q 9 (.q 10 (.q 11 (.q 12 (.q 13 (.q 14 (.c 15 0 (.done))))))))))))))))) (by kernel_rfl) ?_
    have c0 := hb.1
    refine .mv rfl rfl (.mv rfl rfl (.q rfl (.nilCheck rfl) (.q rfl (.fieldAddr fo_93_2_Da rfl) ?_)))
    refine .q rfl (.load on_91_Da rfl (by first | assumption | exact Mem.of_get at_Lg11 2 _ rfl)) ?_
    refine .q rfl (.arith rfl rfl rfl) (.mv rfl rfl (.mv rfl rfl ?_))
    refine .q rfl (.idxN sl_22_Da (by assumption) rfl rfl (by omega)) ?_
    refine .q rfl (.loadE on_5_Da (by assumption) rfl (by omega)) ?_
    refine .q rfl (.conv us_5_Da it_91_Da rfl) (.q rfl (.arith rfl rfl rfl) (.q rfl (.arith rfl rfl rfl) (.q rfl (.nilCheck rfl) (.q rfl (.fieldAddr fo_93_2_Da rfl) ?_))))
    refine .r0 rfl rfl rfl (.storeR rfl sz_91_Da rfl rfl rfl (by assumption) (by first | exact Nat.le_of_ble_eq_true rfl | (simp; done) | (simp <;> omega))) ?_
    rintro _ H5015 ⟨rfl, st5015, at5015⟩
    replace lst1 := lst1.sA st5015
    try simp only [Nat.zero_add, List.set_cons_succ, List.set_cons_zero] at at5015
    refine .done ?_
    refine hK7 _ _ (.region (.mv rfl ?_))
    refine .q rfl (.add rfl rfl rfl (by omega) (by omega)) ?_
    refine .mv rfl (.nil ?_)
    refine hKL1 ((k + 1, IntKind.wrap .u64 (IntKind.wrap .u64 (IntKind.wrap .u64 (hh * 1099511628211) + IntKind.wrap .u64 (xs.getD k 0)) + 7))) _ _ ?_ ?_ ⟨rfl, rfl, rfl, trivial⟩
    ·
     refine ⟨lst1, by assumption, ?_⟩
     omega
    (dsimp only; omega)
   simp only [sps] at h19
   refine .exit ?_
   refine hK3 _ _ (.seq (fun K8 hK8 => .region (.mv rfl (.mv rfl (.nil (hK8 _ _ ?_))))))
   refine .ret ?_
   refine hret _ _ ?_
   refine ⟨_, rfl, ?_⟩
   exact ⟨hle, g11, rfl, by omega, a, xs, 0, hh, at_Lg11, ⟨by omega, by omega⟩, hx, hb, fun b o t ha => by have := hlt b o t ha; omega⟩
  try simp only [sps] at h16
  refine .z rfl (.z rfl (.q rfl (.pickF rfl rfl) (.nil (hK6 _ _ ?_))))
  refine .condF rfl ?_
  refine .exit ?_
  refine hK3 _ _ (.seq (fun K9 hK9 => .region (.mv rfl (.mv rfl (.nil (hK9 _ _ ?_))))))
  refine .ret ?_
  refine hret _ _ ?_
  refine ⟨_, rfl, ?_⟩
  exact ⟨hle, g11, rfl, by omega, a, xs, 0, hh, at_Lg11, ⟨by omega, by omega⟩, hx, hb, fun b o t ha => by have := hlt b o t ha; omega⟩
theorem l01Pick_c {gS : Nat} {a : Option Addr} {xs : List Int} {H : GHeap} (hs : DSrc 93 H gS := by assumption) (hl : ∀ H', St [gS] H H' → Ints H' a xs) (h0 : 0 < xs.length) :
    GCalls Try.prog 104 [.pointer (some ⟨gS, 0, none⟩), .slice a xs.length xs.length] H (fun v H' => ∃ i, i < xs.length ∧ v = .int .i64 (xs.getD i 0) ∧ St [gS] H H' ∧ DSrc 93 H' gS) := by
  refine GCalls.body (N := 12) (rs := [.tmp 4]) Try.func104 rfl rfl rfl rfl (fun Qx hret hend => ?_)
  refine .fg [0, 1] rfl ?_
  have hst := St.refl [gS] H
  refine .seq (fun K1 hK1 => .region (.mv rfl (.nil (hK1 _ _ (.seq (fun K2 hK2 => .region (.mv rfl (.mv rfl (.mv rfl (.q rfl (.len sl_24_A rfl) ?_))))))))))
  refine .call rfl rfl rfl rfl @Try.call73 rfl (l01Next_c) ?_
  rintro _ H9 ⟨k9, rfl, ka9, kb9, kc9, st9, hs⟩
  replace hst := hst.sA st9
  have i0 := hl _ hst
  refine .q rfl (.idx1 sl_24_A (by assumption) rfl rfl (by omega) (by omega)) ?_
  refine .q rfl (.loadI on_2_A (by assumption) rfl (by omega)) ?_
  refine .mv rfl (.nil (hK2 _ _ ?_))
  refine .ret ?_
  refine hret _ _ ?_
  refine ⟨_, rfl, ?_⟩
  exact ⟨_, by omega, rfl, hst, hs⟩
end Go.Proofs.Ytkfbalfcbaphcaa
