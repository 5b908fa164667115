/- Lists of lists that grow row by row; lists made in two nested loops. No condition. -/
import Derived.Test.YtkcpjflhjghapaaZ9
namespace Go.GL
def slsL (r : Nat → Option Addr) (xss : List (List Int)) : List Value := slsOf r (fun i => xss.getD i []) xss.length
@[simp] theorem length_slsL (r : Nat → Option Addr) (xss : List (List Int)) : (slsL r xss).length = xss.length := by simp [slsL]
theorem slsOf_congr {r : Nat → Option Addr} {X Y : Nat → List Int} {k : Nat} (h : ∀ i, i < k → X i = Y i) : slsOf r X k = slsOf r Y k := List.map_congr_left fun i hi => by rw [h i (List.mem_range.1 hi)]
theorem getD_snoc {α : Type} {xs : List α} {x d : α} {i : Nat} : (xs ++ [x]).getD i d = if i < xs.length then xs.getD i d else if i = xs.length then x else d := by
  rw [List.getD_eq_getElem?_getD, List.getD_eq_getElem?_getD]
  by_cases h : i < xs.length
  · rw [if_pos h, List.getElem?_append_left h]
  · rw [if_neg h, List.getElem?_append_right (by omega)]
    by_cases e : i = xs.length
    · subst e; simp
    · rw [if_neg e, List.getElem?_eq_none (by simp; omega)]; rfl
theorem slsL_snoc {r : Nat → Option Addr} {xss : List (List Int)} {x : List Int} {a : Option Addr} : slsL (upd r xss.length a) (xss ++ [x]) = slsL r xss ++ [.slice a x.length x.length] := by
  unfold slsL
  rw [List.length_append, List.length_singleton]
  rw [slsOf_succ]
  congr 1
  · refine slsOf_congr fun i hi => ?_
    rw [getD_snoc, if_pos hi]
  · rw [getD_snoc, if_neg (by omega), if_pos rfl]
/-- Rows of their own, no two alike. -/
def OwnL (b : Nat) (H : GHeap) (e : TypeId) (r : Nat → Option Addr) (xss : List (List Int)) : Prop := OwnRows b H e r (fun i => xss.getD i []) xss.length
theorem OwnL.nil (b : Nat) (H : GHeap) (e : TypeId) (r : Nat → Option Addr) : OwnL b H e r [] := OwnRows.zero _ _ _ _ _
theorem OwnRows.congr {b : Nat} {H : GHeap} {e : TypeId} {r : Nat → Option Addr} {X Y : Nat → List Int} {k : Nat} (h : OwnRows b H e r X k) (hx : ∀ i, i < k → X i = Y i) : OwnRows b H e r Y k := ⟨fun i hi => by rw [← hx i hi]; exact h.row i hi, h.inj⟩
theorem OwnL.snoc {b g : Nat} {H H' : GHeap} {e : TypeId} {r : Nat → Option Addr} {xss : List (List Int)} {x : List Int} (h : OwnL b H e r xss) (s : Lasts e H H') (hg : H'.get g = some (.row (ints x) e true)) (hn : H.next ≤ g) (hb : b ≤ g) : OwnL b H' e (upd r xss.length (some ⟨g, 0, none⟩)) (xss ++ [x]) := by
  unfold OwnL at h ⊢
  rw [List.length_append, List.length_singleton]
  have h' : OwnRows b H e r (fun i => (xss ++ [x]).getD i []) xss.length := h.congr fun i hi => by rw [getD_snoc, if_pos hi]
  exact h'.succ' s (by rw [getD_snoc, if_neg (by omega), if_pos rfl]; exact hg) hn hb
theorem OwnL.keep {b : Nat} {H H' : GHeap} {e : TypeId} {r : Nat → Option Addr} {xss : List (List Int)} (h : OwnL b H e r xss) (s : Lasts e H H') : OwnL b H' e r xss := OwnRows.keep h s
theorem rowsOf_self (xss : List (List Int)) : rowsOf (fun i => xss.getD i []) xss.length = xss := by
  apply List.ext_getElem (by simp)
  intro i h1 h2
  simp only [rowsOf, List.getElem_map, List.getElem_range, List.getD_eq_getElem?_getD, List.getElem?_eq_getElem h2, Option.getD_some]
theorem OwnL.done {b g : Nat} {H : GHeap} {e e' : TypeId} {r : Nat → Option Addr} {xss : List (List Int)} (h : OwnL b H e r xss) (hg : H.get g = some (.row (slsL r xss) e' true)) (hb : b ≤ g) : IntssR b H (some ⟨g, 0, none⟩) xss r := by
  have := OwnRows.done (X := fun i => xss.getD i []) h hg hb
  rwa [rowsOf_self] at this
theorem OwnL.intss {b g : Nat} {H : GHeap} {e e' : TypeId} {r : Nat → Option Addr} {xss : List (List Int)} (h : OwnL b H e r xss) (hg : H.get g = some (.row (slsL r xss) e' true)) (hb : b ≤ g) : Intss H (some ⟨g, 0, none⟩) xss r := (h.done hg hb).intss
theorem IntsR.nodup {a : Option Addr} {n : Nat} : (lvBlks [(a, n)]).Nodup := by
  simp only [lvBlks, List.flatMap_cons, List.flatMap_nil, List.append_nil]
  unfold lvBlk
  split <;> simp
theorem IntsR.of_at {b : Nat} {H : GHeap} {g : Nat} {e : TypeId} {xs : List Int} (h : H.get g = some (.row (Go.GL.ints xs) e true)) (hb : b ≤ g) : IntsR b H (some ⟨g, 0, none⟩) xs := .inr ⟨g, e, rfl, hb, h⟩

/-- The rows of two nested loops, up to (k, t). -/
def nestL {α : Type} (pr : Nat → Nat → α) (sz : Nat → Nat) (k t : Nat) : List α := (List.range k).flatMap (fun a => (List.range (sz a)).map (pr a)) ++ (List.range t).map (pr k)
theorem nestL_zero {α : Type} (pr : Nat → Nat → α) (sz : Nat → Nat) : nestL pr sz 0 0 = [] := rfl
theorem nestL_snoc {α : Type} {pr : Nat → Nat → α} {sz : Nat → Nat} {k t : Nat} : nestL pr sz k (t + 1) = nestL pr sz k t ++ [pr k t] := by
  unfold nestL
  rw [List.range_succ, List.map_append, ← List.append_assoc]
  rfl
theorem nestL_next {α : Type} {pr : Nat → Nat → α} {sz : Nat → Nat} {k : Nat} : nestL pr sz (k + 1) 0 = nestL pr sz k (sz k) := by
  unfold nestL
  rw [List.range_succ, List.flatMap_append]
  simp
theorem nestL_mem {α : Type} {pr : Nat → Nat → α} {sz : Nat → Nat} {k : Nat} {x : α} (h : x ∈ nestL pr sz k 0) : ∃ a t, a < k ∧ t < sz a ∧ x = pr a t := by
  simp only [nestL, List.range_zero, List.map_nil, List.append_nil, List.mem_flatMap, List.mem_range, List.mem_map] at h
  obtain ⟨a, ha, t, ht, e⟩ := h
  exact ⟨a, t, ha, ht, e.symm⟩
theorem nestL_length {α : Type} {pr : Nat → Nat → α} {sz : Nat → Nat} {c : Nat} : ∀ {k}, (∀ a, a < k → sz a ≤ c) → (nestL pr sz k 0).length ≤ k * c
  | 0, _ => by simp [nestL]
  | k + 1, h => by
    have ih := nestL_length (pr := pr) (sz := sz) (c := c) (k := k) fun a ha => h a (by omega)
    have := h k (by omega)
    rw [nestL_next]
    simp only [nestL, List.length_append, List.length_map, List.length_range, List.range_zero, List.map_nil, List.append_nil] at ih ⊢
    rw [Nat.add_mul]
    omega
theorem nestL_le {α : Type} {pr : Nat → Nat → α} {sz : Nat → Nat} {c k t n : Nat} (h : ∀ a, a < n → sz a ≤ c) (hk : k < n) (ht : t ≤ sz k) : (nestL pr sz k t).length ≤ n * c := by
  have h1 := nestL_length (pr := pr) (sz := sz) (c := c) (k := k) fun a ha => h a (by omega)
  have h2 := h k hk
  have h3 : (k + 1) * c ≤ n * c := Nat.mul_le_mul_right _ hk
  rw [Nat.add_mul] at h3
  simp only [nestL, List.length_append, List.length_map, List.length_range, List.range_zero, List.map_nil, List.append_nil] at h1 ⊢
  omega
theorem nestL_map {α β : Type} (f : α → β) (pr : Nat → Nat → α) (sz : Nat → Nat) (k t : Nat) : (nestL pr sz k t).map f = nestL (fun a i => f (pr a i)) sz k t := by
  simp [nestL, List.map_flatMap, Function.comp_def]
/-- The rows of three nested loops, up to (k, t, u). -/
def nest3 {α : Type} (pr : Nat → Nat → Nat → α) (s1 : Nat → Nat) (s2 : Nat → Nat → Nat) (k t u : Nat) : List α := (List.range k).flatMap (fun a => nestL (pr a) (s2 a) (s1 a) 0) ++ nestL (pr k) (s2 k) t u
theorem nest3_zero {α : Type} (pr : Nat → Nat → Nat → α) (s1 : Nat → Nat) (s2 : Nat → Nat → Nat) : nest3 pr s1 s2 0 0 0 = [] := rfl
theorem nest3_snoc {α : Type} {pr : Nat → Nat → Nat → α} {s1 : Nat → Nat} {s2 : Nat → Nat → Nat} {k t u : Nat} : nest3 pr s1 s2 k t (u + 1) = nest3 pr s1 s2 k t u ++ [pr k t u] := by
  unfold nest3
  rw [nestL_snoc, List.append_assoc]
theorem nest3_next2 {α : Type} {pr : Nat → Nat → Nat → α} {s1 : Nat → Nat} {s2 : Nat → Nat → Nat} {k t : Nat} : nest3 pr s1 s2 k (t + 1) 0 = nest3 pr s1 s2 k t (s2 k t) := by
  unfold nest3
  rw [nestL_next]
theorem nest3_next1 {α : Type} {pr : Nat → Nat → Nat → α} {s1 : Nat → Nat} {s2 : Nat → Nat → Nat} {k : Nat} : nest3 pr s1 s2 (k + 1) 0 0 = nest3 pr s1 s2 k (s1 k) 0 := by
  unfold nest3
  rw [List.range_succ, List.flatMap_append]
  simp [nestL_zero]
theorem nest3_mem {α : Type} {pr : Nat → Nat → Nat → α} {s1 : Nat → Nat} {s2 : Nat → Nat → Nat} {k : Nat} {x : α} (h : x ∈ nest3 pr s1 s2 k 0 0) : ∃ a b t, a < k ∧ b < s1 a ∧ t < s2 a b ∧ x = pr a b t := by
  unfold nest3 at h
  rw [nestL_zero, List.append_nil, List.mem_flatMap] at h
  obtain ⟨a, ha, hx⟩ := h
  obtain ⟨b, t, hb, ht, e⟩ := nestL_mem hx
  exact ⟨a, b, t, List.mem_range.1 ha, hb, ht, e⟩
theorem flatMap_len {α : Type} {f : Nat → List α} {c : Nat} : ∀ {k}, (∀ a, a < k → (f a).length ≤ c) → ((List.range k).flatMap f).length ≤ k * c
  | 0, _ => by simp
  | k + 1, h => by
    have ih := flatMap_len (f := f) (c := c) (k := k) fun a ha => h a (by omega)
    have := h k (by omega)
    rw [List.range_succ, List.flatMap_append, List.length_append, Nat.add_mul]
    simp only [List.flatMap_cons, List.flatMap_nil, List.append_nil]
    omega
theorem nest3_le {α : Type} {pr : Nat → Nat → Nat → α} {s1 : Nat → Nat} {s2 : Nat → Nat → Nat} {c d k t u n : Nat} (h1 : ∀ a, a < n → s1 a ≤ d) (h2 : ∀ a, a < n → ∀ b, b < s1 a → s2 a b ≤ c) (hk : k < n) (ht : t < s1 k) (hu : u ≤ s2 k t) : (nest3 pr s1 s2 k t u).length ≤ n * (d * c) := by
  unfold nest3
  rw [List.length_append]
  have q1 := flatMap_len (f := fun a => nestL (pr a) (s2 a) (s1 a) 0) (c := d * c) (k := k) fun a ha => by
    have r1 := nestL_length (pr := pr a) (sz := s2 a) (c := c) (k := s1 a) fun b hb => h2 a (by omega) b hb
    exact Nat.le_trans r1 (Nat.mul_le_mul_right _ (h1 a (by omega)))
  have q2 := nestL_le (pr := pr k) (sz := s2 k) (c := c) (k := t) (t := u) (n := s1 k) (fun b hb => h2 k hk b hb) ht hu
  have q3 : s1 k * c ≤ d * c := Nat.mul_le_mul_right _ (h1 k hk)
  have q4 : (k + 1) * (d * c) ≤ n * (d * c) := Nat.mul_le_mul_right _ hk
  rw [Nat.add_mul] at q4
  omega
theorem nest3_all {α : Type} {pr : Nat → Nat → Nat → α} {s1 : Nat → Nat} {s2 : Nat → Nat → Nat} {c d n : Nat} (h1 : ∀ a, a < n → s1 a ≤ d) (h2 : ∀ a, a < n → ∀ b, b < s1 a → s2 a b ≤ c) : (nest3 pr s1 s2 n 0 0).length ≤ n * (d * c) := by
  unfold nest3
  rw [nestL_zero, List.append_nil]
  exact flatMap_len fun a ha => by
    have r1 := nestL_length (pr := pr a) (sz := s2 a) (c := c) (k := s1 a) fun b hb => h2 a ha b hb
    exact Nat.le_trans r1 (Nat.mul_le_mul_right _ (h1 a ha))
theorem getD_mem_list {α : Type} {xs : List α} {d : α} {i : Nat} (h : i < xs.length) : xs.getD i d ∈ xs := by
  rw [List.getD_eq_getElem?_getD, List.getElem?_eq_getElem h]
  exact List.getElem_mem h

/-! ### Categories as results. -/
def CatR (b : Nat) (H : GHeap) (c : Cat) (p : CatP) : Prop := (IntsR b H p.a1 c.src ∧ IntsR b H p.a2 c.tgt ∧ IntsR b H p.a3 c.idn ∧ IntssR b H p.a4 c.comp p.r) ∧ (lvBlks (c.leaves p)).Nodup
theorem CatR.keep {b b' : Nat} {H H' : GHeap} {c : Cat} {p : CatP} (h : CatR b H c p) (k : Keep b' H H') (hb : b' ≤ b) : CatR b' H' c p := ⟨⟨h.1.1.keep k hb, h.1.2.1.keep k hb, h.1.2.2.1.keep k hb, h.1.2.2.2.keep k hb⟩, h.2⟩
theorem CatR.inn {b : Nat} {H : GHeap} {c : Cat} {p : CatP} (h : CatR b H c p) : c.In H p := ⟨h.1.1.ints, h.1.2.1.ints, h.1.2.2.1.ints, h.1.2.2.2.intss⟩
theorem CatW.of_r {b : Nat} {H0 H : GHeap} {c : Cat} {p : CatP} (h : CatR b H0 c p) (k : Keep b H0 H) : CatW b H0.next H c p := ⟨.of_r h.1.1 k, .of_r h.1.2.1 k, .of_r h.1.2.2.1 k, .of_r h.1.2.2.2 k⟩
def Cat.zero : Cat := ⟨0, [], [], [], []⟩
def CatP.zero : CatP := ⟨none, none, none, none, fun _ => none⟩
theorem CatR.zero (b : Nat) (H : GHeap) : CatR b H .zero .zero := ⟨⟨.inl ⟨rfl, rfl⟩, .inl ⟨rfl, rfl⟩, .inl ⟨rfl, rfl⟩, .nil _ _ _⟩, by simp [Cat.leaves, Cat.zero, CatP.zero, lvBlks, lvBlk, rowsL]⟩
theorem mem_lvBlk1 {a : Option Addr} {n x : Nat} (h : x ∈ lvBlk (a, n)) : ∃ o s, a = some ⟨x, o, s⟩ := by
  unfold lvBlk at h
  split at h
  · rename_i a' m e
    cases e
    rw [List.mem_singleton] at h
    subst h
    exact ⟨_, _, rfl⟩
  · cases h
theorem lvBlk_nodup (l : Leaf) : (lvBlk l).Nodup := by unfold lvBlk; split <;> simp
/-- A category whose lists lie in rows of their own. -/
theorem CatR.mk {b : Nat} {H : GHeap} {c : Cat} {p : CatP} (h1 : IntsR b H p.a1 c.src) (h2 : IntsR b H p.a2 c.tgt) (h3 : IntsR b H p.a3 c.idn) (h4 : IntssR b H p.a4 c.comp p.r) {g1 g2 g3 : Nat} (k1 : p.a1 = none ∨ p.a1 = some ⟨g1, 0, none⟩) (k2 : p.a2 = none ∨ p.a2 = some ⟨g2, 0, none⟩) (k3 : p.a3 = none ∨ p.a3 = some ⟨g3, 0, none⟩)
    (n12 : g1 ≠ g2) (n13 : g1 ≠ g3) (n23 : g2 ≠ g3) (n4 : ∀ i, i < c.comp.length → p.r i ≠ some ⟨g1, 0, none⟩ ∧ p.r i ≠ some ⟨g2, 0, none⟩ ∧ p.r i ≠ some ⟨g3, 0, none⟩) : CatR b H c p := by
  have one : ∀ {a : Option Addr} {g n x : Nat}, (a = none ∨ a = some ⟨g, 0, none⟩) → x ∈ lvBlk (a, n) → x = g := by
    intro a g n x hk hx
    obtain ⟨o, s, e⟩ := mem_lvBlk1 hx
    rcases hk with h | h
    · rw [h] at e; cases e
    · rw [h] at e; cases e; rfl
  have rows : ∀ x ∈ lvBlks (rowsL p.r c.comp c.comp.length), x ≠ g1 ∧ x ≠ g2 ∧ x ≠ g3 := by
    intro x hx
    obtain ⟨l, hl, hxl⟩ := List.mem_flatMap.1 hx
    obtain ⟨i, hi, rfl⟩ := List.mem_map.1 hl
    have hi' := List.mem_range.1 hi
    have hlen : 0 < (c.comp.getD i []).length := by
      unfold lvBlk at hxl
      split at hxl
      · rename_i e; have := congrArg Prod.snd e; simp only at this; omega
      · cases hxl
    obtain ⟨o, s, e⟩ := mem_lvBlk1 hxl
    have hrow : ∃ g, p.r i = some ⟨g, 0, none⟩ := by
      rcases h4.1 with ⟨h, _⟩ | ⟨g, e', cs, _, _, _, _, _, h6⟩
      · rw [h] at hi'; simp at hi'
      · obtain ⟨g', _, hg', _⟩ := h6 i hi'
        exact ⟨g', hg'⟩
    obtain ⟨g, hg⟩ := hrow
    rw [hg] at e
    cases e
    obtain ⟨q1, q2, q3⟩ := n4 i hi'
    rw [hg] at q1 q2 q3
    exact ⟨fun h => q1 (by rw [h]), fun h => q2 (by rw [h]), fun h => q3 (by rw [h])⟩
  refine ⟨⟨h1, h2, h3, h4⟩, ?_⟩
  unfold Cat.leaves
  rw [lvBlks_append, lvBlks_append, lvBlks_append]
  have s1 : lvBlks [(p.a1, c.src.length)] = lvBlk (p.a1, c.src.length) := by simp [lvBlks]
  have s2 : lvBlks [(p.a2, c.tgt.length)] = lvBlk (p.a2, c.tgt.length) := by simp [lvBlks]
  have s3 : lvBlks [(p.a3, c.idn.length)] = lvBlk (p.a3, c.idn.length) := by simp [lvBlks]
  rw [s1, s2, s3]
  refine List.nodup_append.2 ⟨lvBlk_nodup _, List.nodup_append.2 ⟨lvBlk_nodup _, List.nodup_append.2 ⟨lvBlk_nodup _, h4.2, ?_⟩, ?_⟩, ?_⟩
  · intro x hx y hy hxy
    have e1 := one k3 hx
    have e2 := rows y hy
    omega
  · intro x hx y hy hxy
    have e1 := one k2 hx
    rcases List.mem_append.1 hy with hy | hy
    · have e2 := one k3 hy; omega
    · have e2 := rows y hy; omega
  · intro x hx y hy hxy
    have e1 := one k1 hx
    rcases List.mem_append.1 hy with hy | hy
    · have e2 := one k2 hy; omega
    · rcases List.mem_append.1 hy with hy | hy
      · have e2 := one k3 hy; omega
      · have e2 := rows y hy; omega
end Go.GL
/- The coend of a profunctor of a category with itself. No condition. -/
namespace Go.GL
/-- How many pairs arrow a brings. -/
def Prof.coSz (m : Prof) (a : Nat) : Nat := ((m.sz.getD (m.s.tgt.getD a 0).toNat []).getD (m.s.src.getD a 0).toNat 0).toNat
def Prof.coPr (m : Prof) (a t : Nat) : List Int := [sumN m.diag (m.s.src.getD a 0).toNat + ((m.be.getD a []).getD (m.s.src.getD a 0).toNat []).getD t 0, sumN m.diag (m.s.tgt.getD a 0).toNat + ((m.bh.getD a []).getD (m.s.tgt.getD a 0).toNat []).getD t 0]
def Prof.coL (m : Prof) (k t : Nat) : List (List Int) := nestL m.coPr m.coSz k t
def Prof.coP (m : Prof) (k t : Nat) : List (Nat × Nat) := nestL (fun a t => (pA (m.coPr a t), pB (m.coPr a t))) m.coSz k t
theorem Prof.coL_snoc {m : Prof} {k t : Nat} : m.coL k (t + 1) = m.coL k t ++ [m.coPr k t] := nestL_snoc
theorem Prof.coL_next {m : Prof} {k : Nat} : m.coL (k + 1) 0 = m.coL k (m.coSz k) := nestL_next
theorem Prof.coP_snoc {m : Prof} {k t : Nat} : m.coP k (t + 1) = m.coP k t ++ [(pA (m.coPr k t), pB (m.coPr k t))] := nestL_snoc
theorem Prof.coP_next {m : Prof} {k : Nat} : m.coP (k + 1) 0 = m.coP k (m.coSz k) := nestL_next
theorem Prof.coP_eq {m : Prof} {k t : Nat} : (m.coL k t).map (fun p => (pA p, pB p)) = m.coP k t := nestL_map _ _ _ _ _
def Prof.coend (m : Prof) : List Int := joinL (sumN m.diag m.sz.length).toNat (m.coP m.s.src.length 0)
noncomputable def Prof.coendR (m : Prof) : List Int := bif B (m.code = 0) then m.coend else []
theorem Prof.coendR_ok {m : Prof} (h : m.code = 0) : m.coendR = m.coend := by unfold Prof.coendR; rw [B_true h]; rfl
theorem Prof.coendR_not {m : Prof} (h : ¬ m.code = 0) : m.coendR = [] := by unfold Prof.coendR; rw [B_false h]; rfl
theorem sumN_mono {f : Nat → Int} (h : ∀ i, 0 ≤ f i) {a b : Nat} (hab : a ≤ b) : sumN f a ≤ sumN f b := by
  induction b with
  | zero => obtain rfl : a = 0 := by omega
            exact Int.le_refl _
  | succ b ih =>
    by_cases e : a = b + 1
    · subst e; exact Int.le_refl _
    · have := ih (by omega)
      have := h b
      simp only [sumN]
      omega
theorem sumN_le {f : Nat → Int} {N : Nat} (h : ∀ i, i < N → 0 ≤ f i) : ∀ {b a : Nat}, a ≤ b → b ≤ N → sumN f a ≤ sumN f b
  | 0, a, hab, _ => by obtain rfl : a = 0 := by omega
                       exact Int.le_refl _
  | b + 1, a, hab, hb => by
    by_cases e : a = b + 1
    · subst e; exact Int.le_refl _
    · have h1 := sumN_le h (b := b) (a := a) (by omega) (by omega)
      have := h b (by omega)
      simp only [sumN]
      omega
/-- A place lies below all places. -/
theorem Prof.place_lt {m : Prof} (z : m.Sized) (e : m.s = m.t) {x : Nat} {v : Int} (hx : x < m.sz.length) (h0 : 0 ≤ v) (h1 : v < m.diag x) : 0 ≤ sumN m.diag x + v ∧ sumN m.diag x + v < sumN m.diag m.sz.length := by
  have h2 := z.sum e (n := x) (by omega)
  have h3 := sumN_le (f := m.diag) (N := m.sz.length) (fun i hi => (z.diag e hi).2.1) (a := x + 1) (b := m.sz.length) (by omega) (Nat.le_refl _)
  simp only [sumN] at h3
  omega
/-- What the pairs of arrow a are. -/
theorem Prof.Shape.co {m : Prof} (h : m.Shape) (e : m.s = m.t) {a : Nat} (ha : a < m.s.src.length) : a < m.be.length ∧ a < m.bh.length ∧ a < m.s.tgt.length ∧ 0 ≤ m.s.src.getD a 0 ∧ m.s.src.getD a 0 < m.sz.length ∧ 0 ≤ m.s.tgt.getD a 0 ∧ m.s.tgt.getD a 0 < m.sz.length ∧
    (m.s.src.getD a 0).toNat < (m.sz.getD (m.s.tgt.getD a 0).toNat []).length ∧ 0 ≤ (m.sz.getD (m.s.tgt.getD a 0).toNat []).getD (m.s.src.getD a 0).toNat 0 ∧ (m.sz.getD (m.s.tgt.getD a 0).toNat []).getD (m.s.src.getD a 0).toNat 0 ≤ 64 ∧
    (m.s.src.getD a 0).toNat < (m.be.getD a []).length ∧ (m.s.tgt.getD a 0).toNat < (m.bh.getD a []).length ∧
    (((m.be.getD a []).getD (m.s.src.getD a 0).toNat []).length : Int) = (m.sz.getD (m.s.tgt.getD a 0).toNat []).getD (m.s.src.getD a 0).toNat 0 ∧ (((m.bh.getD a []).getD (m.s.tgt.getD a 0).toNat []).length : Int) = (m.sz.getD (m.s.tgt.getD a 0).toNat []).getD (m.s.src.getD a 0).toNat 0 ∧
    (∀ t, t < ((m.be.getD a []).getD (m.s.src.getD a 0).toNat []).length → 0 ≤ ((m.be.getD a []).getD (m.s.src.getD a 0).toNat []).getD t 0 ∧ ((m.be.getD a []).getD (m.s.src.getD a 0).toNat []).getD t 0 < m.diag (m.s.src.getD a 0).toNat) ∧
    (∀ t, t < ((m.bh.getD a []).getD (m.s.tgt.getD a 0).toNat []).length → 0 ≤ ((m.bh.getD a []).getD (m.s.tgt.getD a 0).toNat []).getD t 0 ∧ ((m.bh.getD a []).getD (m.s.tgt.getD a 0).toNat []).getD t 0 < m.diag (m.s.tgt.getD a 0).toNat) := by
  have hbl := h.z.bl
  have hhl := h.z.hl
  have e1 : m.t.src.length = m.s.src.length := by rw [e]
  have q := h.z.b h.s (a := a) (by omega)
  have hsl := h.z.sl
  have hso : m.t.obj = m.s.obj := by rw [e]
  have r1 := h.by (a := a) (y := (m.s.src.getD a 0).toNat) (by omega) (by omega)
  have r2 := h.hx (b := a) (x := (m.s.tgt.getD a 0).toNat) (by omega) (by omega)
  have e2 : m.t.src = m.s.src := by rw [e]
  have e3 : m.t.tgt = m.s.tgt := by rw [e]
  rw [e2, e3] at r2
  exact ⟨by omega, by omega, by omega, by omega, by omega, by omega, by omega, by omega, by omega, by omega, r1.1, r2.1, r1.2.2.2.1, r2.2.2.2.2.1, r1.2.2.2.2.1, r2.2.2.2.2.2.1⟩
theorem Prof.Shape.coPr {m : Prof} (h : m.Shape) (e : m.s = m.t) {a t : Nat} (ha : a < m.s.src.length) (ht : t < m.coSz a) : 2 ≤ (m.coPr a t).length ∧ 0 ≤ (m.coPr a t).getD 0 0 ∧ (m.coPr a t).getD 0 0 < sumN m.diag m.sz.length ∧ 0 ≤ (m.coPr a t).getD 1 0 ∧ (m.coPr a t).getD 1 0 < sumN m.diag m.sz.length := by
  obtain ⟨_, _, _, q4, q5, q6, q7, _, q9, _, _, _, q13, q14, q15, q16⟩ := h.co e ha
  have htt : t < ((m.be.getD a []).getD (m.s.src.getD a 0).toNat []).length := by unfold Prof.coSz at ht; omega
  have htt' : t < ((m.bh.getD a []).getD (m.s.tgt.getD a 0).toNat []).length := by unfold Prof.coSz at ht; omega
  have p1 := Prof.place_lt h.z e (x := (m.s.src.getD a 0).toNat) (by omega) (q15 t htt).1 (q15 t htt).2
  have p2 := Prof.place_lt h.z e (x := (m.s.tgt.getD a 0).toNat) (by omega) (q16 t htt').1 (q16 t htt').2
  exact ⟨Nat.le_refl _, p1.1, p1.2, p2.1, p2.2⟩
theorem Prof.coendR_len (m : Prof) : m.coendR.length ≤ 512 := by
  by_cases h : m.code = 0
  · obtain ⟨hI, he⟩ := Prof.of_code h
    rw [Prof.coendR_ok h]
    unfold Prof.coend
    rw [length_joinL]
    have b1 := hI.1.s.1.obj
    have b3 := hI.1.z.sl
    have b4 := hI.1.z.sum he (n := m.sz.length) (Nat.le_refl _)
    omega
  · rw [Prof.coendR_not h]; simp
end Go.GL
/- The coend of a profunctor. No condition but those of each statement. -/
namespace Go.Proofs.Ytkcpjflhjghapaa
open Go Go.GL Go.RowKit Go.Proofs
set_option maxHeartbeats 4000000 in
theorem l22Coend_c {m : Prof} {p : ProfP} {H : GHeap} (hin : m.In H p := by assumption) (hs : m.Small := by assumption) (hS : m.Shape) (he : m.s = m.t) :
    GCalls Try.prog 27 [.agg (m.cells p).toArray] H (NewInts 2 H m.coend) := by
  have hc := hin.1
  have hz := hS.z
  have b1 := hS.s.1.obj
  have b2 := hS.s.1.n40
  have b3 := hz.sl
  have b4 := hz.sum he (n := m.sz.length) (Nat.le_refl _)
  refine GCalls.body (N := 79) (rs := [.tmp 2]) Try.func27 rfl rfl rfl rfl (fun Qx hret hend => ?_)
  refine .forget (fr' := [(0, some _)]) ⟨rfl, trivial⟩ ?_
  have hle := GHeap.Le.refl H
  have base_hin := hin
  have base_hc := hc
  refine .seq (fun K1 hK1 => ?_)
  refine .region ?_
  refine .r rfl rfl rfl (.boxR rfl sz_34_VProf rfl) ?_
  rintro _ H1 ⟨g1, rfl, le1, ge1, at1⟩
  have nx_H1 := le1.1
  replace hle := hle.trans le1
  have lt_at1 := GHeap.lt_of_get at1
  replace hin := base_hin.mono hle
  replace hc := base_hc.mono hle
  have hb1 : Prof.At _ g1 0 m p := ⟨Mem.of_get at1, hin⟩
  obtain ⟨fs1, ft1, c101, c111, c121, i21, i31, i41⟩ := hb1.get
  have hm1 : MemN _ _ _ _ _ := ⟨rfl, hb1.1⟩
  have hi1 := hb1.2
  have hms1 : MemN _ _ _ _ _ := ⟨rfl, fs1.1⟩
  have his1 := fs1.2
  have hmt1 : MemN _ _ _ _ _ := ⟨rfl, ft1.1⟩
  have hit1 := ft1.2
  refine .m rfl rfl rfl (.assign rfl) ?_
  refine .nil ?_
  refine hK1 _ _ ?_
  refine .seq (fun K2 hK2 => ?_)
  refine .region ?_
  refine .m rfl rfl rfl (.fieldAddr fo_34_0_VProf rfl) ?_
  refine .m rfl rfl rfl (.loadM ag_32_D rfl (by assumption)) ?_
  refine .r rfl rfl rfl (.allocR rfl ze_32_E rfl) ?_
  rintro _ H3 ⟨g3, rfl, le3, ge3, at3⟩
  have nx_H3 := le3.1
  replace hle := hle.trans le3
  replace at1 := le3.2 _ _ at1
  have lt_at3 := GHeap.lt_of_get at3
  replace hin := base_hin.mono hle
  replace hc := base_hc.mono hle
  clear hb1 fs1 ft1 c101 c111 c121 i21 i31 i41 hm1 hi1 hms1 his1 hmt1 hit1
  have hb1 : Prof.At _ g1 0 m p := ⟨Mem.of_get at1, hin⟩
  obtain ⟨fs1, ft1, c101, c111, c121, i21, i31, i41⟩ := hb1.get
  have hm1 : MemN _ _ _ _ _ := ⟨rfl, hb1.1⟩
  have hi1 := hb1.2
  have hms1 : MemN _ _ _ _ _ := ⟨rfl, fs1.1⟩
  have his1 := fs1.2
  have hmt1 : MemN _ _ _ _ _ := ⟨rfl, ft1.1⟩
  have hit1 := ft1.2
  refine .r0 rfl rfl (.fillR rfl sz_32_D rfl rfl rfl rfl (by assumption) (by first | rfl | exact Nat.le_of_ble_eq_true rfl | simp)) ?_
  rintro _ H1003 ⟨rfl, st1003, at1003⟩
  have nx_H1003 := st1003.nx
  replace hle := hle.st st1003 (fun k hk => ⟨by omega, trivial⟩)
  replace at1 := st1003.same _ _ ⟨by omega, trivial⟩ at1
  have lt_at1003 := GHeap.lt_of_get at1003
  replace hin := base_hin.mono hle
  replace hc := base_hc.mono hle
  clear hb1 fs1 ft1 c101 c111 c121 i21 i31 i41 hm1 hi1 hms1 his1 hmt1 hit1
  have hb1 : Prof.At _ g1 0 m p := ⟨Mem.of_get at1, hin⟩
  obtain ⟨fs1, ft1, c101, c111, c121, i21, i31, i41⟩ := hb1.get
  have hm1 : MemN _ _ _ _ _ := ⟨rfl, hb1.1⟩
  have hi1 := hb1.2
  have hms1 : MemN _ _ _ _ _ := ⟨rfl, fs1.1⟩
  have his1 := fs1.2
  have hmt1 : MemN _ _ _ _ _ := ⟨rfl, ft1.1⟩
  have hit1 := ft1.2
  have mm1003 : MemN _ _ _ _ _ := ⟨rfl, Mem.of_get at1003⟩
  have hb3 : Cat.At _ g3 0 m.s p.s := ⟨Mem.of_get at1003, hc⟩
  obtain ⟨c03, c13, c23, c33, c43, i13, i23, i33, i43⟩ := hb3.get
  have hm3 : MemN _ _ _ _ _ := ⟨rfl, hb3.1⟩
  have hi3 := hb3.2
  refine .nil ?_
  refine hK2 _ _ ?_
  refine .seq (fun K3 hK3 => ?_)
  refine .region ?_
  refine .r rfl rfl rfl (.litR rfl sl_23_B ze_22_E rfl rfl (by omega) (by omega) rfl rfl) ?_
  rintro _ H11 ⟨g11, rfl, le11, ge11, at11⟩
  have nx_H11 := le11.1
  replace hle := hle.trans le11
  replace at1 := le11.2 _ _ at1
  replace at1003 := le11.2 _ _ at1003
  have lt_at11 := GHeap.lt_of_get at11
  replace hin := base_hin.mono hle
  replace hc := base_hc.mono hle
  clear hb1 fs1 ft1 c101 c111 c121 i21 i31 i41 hm1 hi1 hms1 his1 hmt1 hit1
  have hb1 : Prof.At _ g1 0 m p := ⟨Mem.of_get at1, hin⟩
  obtain ⟨fs1, ft1, c101, c111, c121, i21, i31, i41⟩ := hb1.get
  have hm1 : MemN _ _ _ _ _ := ⟨rfl, hb1.1⟩
  have hi1 := hb1.2
  have hms1 : MemN _ _ _ _ _ := ⟨rfl, fs1.1⟩
  have his1 := fs1.2
  have hmt1 : MemN _ _ _ _ _ := ⟨rfl, ft1.1⟩
  have hit1 := ft1.2
  clear mm1003
  have mm1003 : MemN _ _ _ _ _ := ⟨rfl, Mem.of_get at1003⟩
  clear hb3 c03 c13 c23 c33 c43 i13 i23 i33 i43 hm3 hi3
  have hb3 : Cat.At _ g3 0 m.s p.s := ⟨Mem.of_get at1003, hc⟩
  obtain ⟨c03, c13, c23, c33, c43, i13, i23, i33, i43⟩ := hb3.get
  have hm3 : MemN _ _ _ _ _ := ⟨rfl, hb3.1⟩
  have hi3 := hb3.2
  refine .m rfl rfl rfl (.assign rfl) ?_
  refine .nil ?_
  refine hK3 _ _ ?_
  refine .seq (fun K4 hK4 => ?_)
  refine .seq (fun K5 hK5 => ?_)
  refine .region ?_
  refine .m rfl rfl rfl (.assign rfl) ?_
  refine .nil ?_
  refine hK5 _ _ ?_
  refine .block ?_
  refine .loopR (σ := Nat × (Nat → Option Addr) × Nat × Nat) [(1, some _), (3, some _)] (fun (k, rr, gL4, nL4) => [(5, some (.int .i64 (k : Int))), (4, some (.slice (some ⟨gL4, 0, none⟩) nL4 nL4))]) (fun (k, rr, gL4, nL4) H' => St [g11] H11 H' ∧ H'.get gL4 = some (.row ((slsL rr (m.coL k 0))) 22 true) ∧ (gL4 = g11 ∨ H11.next ≤ gL4) ∧ nL4 = (slsL rr (m.coL k 0)).length ∧ k ≤ m.s.src.length ∧ OwnL H.next H' 2 rr (m.coL k 0)) (fun (k, rr, gL4, nL4) => m.s.src.length - k) ((0, fun _ => none, _, _)) ⟨rfl, rfl, trivial⟩ ⟨rfl, rfl, trivial⟩ ?_ ?_
  ·
   refine ⟨.refl _ _, by first | assumption | exact at11 | simpa using at11, .inl rfl, by first | rfl | assumption | simp | omega, ?_⟩
   exact ⟨by omega, .nil _ _ _ _⟩
  ·
   rintro ⟨k, rr, gL4, nL4⟩ HL1 ⟨lst1, at_L4, pl_L4, ln_L4, hI⟩ KL1 hKL1
   refine .forget (fr' := [(5, some (.int .i64 (k : Int))), (4, some (.slice (some ⟨gL4, 0, none⟩) nL4 nL4)), (1, some _), (3, some _)]) ⟨rfl, rfl, rfl, rfl, trivial⟩ ?_
   have ge_L4 : H.next ≤ gL4 := by omega
   have nx_HL1 := lst1.nx
   replace hle := hle.st lst1 (fun k hk => ⟨by omega, trivial⟩)
   replace at1 := lst1.same _ _ ⟨by omega, trivial⟩ at1
   replace at1003 := lst1.same _ _ ⟨by omega, trivial⟩ at1003
   have lt_at_L4 := GHeap.lt_of_get at_L4
   replace hin := base_hin.mono hle
   replace hc := base_hc.mono hle
   clear hb1 fs1 ft1 c101 c111 c121 i21 i31 i41 hm1 hi1 hms1 his1 hmt1 hit1
   have hb1 : Prof.At _ g1 0 m p := ⟨Mem.of_get at1, hin⟩
   obtain ⟨fs1, ft1, c101, c111, c121, i21, i31, i41⟩ := hb1.get
   have hm1 : MemN _ _ _ _ _ := ⟨rfl, hb1.1⟩
   have hi1 := hb1.2
   have hms1 : MemN _ _ _ _ _ := ⟨rfl, fs1.1⟩
   have his1 := fs1.2
   have hmt1 : MemN _ _ _ _ _ := ⟨rfl, ft1.1⟩
   have hit1 := ft1.2
   clear mm1003
   have mm1003 : MemN _ _ _ _ _ := ⟨rfl, Mem.of_get at1003⟩
   clear hb3 c03 c13 c23 c33 c43 i13 i23 i33 i43 hm3 hi3
   have hb3 : Cat.At _ g3 0 m.s p.s := ⟨Mem.of_get at1003, hc⟩
   obtain ⟨c03, c13, c23, c33, c43, i13, i23, i33, i43⟩ := hb3.get
   have hm3 : MemN _ _ _ _ _ := ⟨rfl, hb3.1⟩
   have hi3 := hb3.2
   obtain ⟨hk, hR⟩ := hI
   refine .seq (fun K6 hK6 => ?_)
   refine .seq (fun K7 hK7 => ?_)
   refine .region ?_
   refine .m rfl rfl rfl (.move rfl) ?_
   refine .m rfl rfl rfl (.fieldAddr fo_32_1_B rfl) ?_
   refine .m rfl rfl rfl (.load on_22_B rfl (by assumption)) ?_
   refine .m rfl rfl rfl (.len sl_22_A rfl) ?_
   refine .m rfl rfl rfl (.cmp rfl rfl rfl) ?_
   refine .nil ?_
   refine hK7 _ _ ?_
   refine .cond rfl (fun h16 => ?_) (fun h16 => ?_)
   ·
    simp only [sps] at h16
    obtain ⟨q1, q2, q3, q4, q5, q6, q7, q8, q9, q10, q11, q12, q13, q14, q15, q16⟩ := hS.co he (a := k) (by omega)
    have hcs : (m.coSz k : Int) = (m.sz.getD (m.s.tgt.getD k 0).toNat []).getD (m.s.src.getD k 0).toNat 0 := by unfold Prof.coSz; omega
    have u1 := i21.2 (m.s.tgt.getD k 0).toNat (by omega)
    have u2 := i31.2 k (by omega)
    have u3 := u2.2 (m.s.src.getD k 0).toNat (by omega)
    have u4 := i41.2 k (by omega)
    have u5 := u4.2 (m.s.tgt.getD k 0).toNat (by omega)
    refine .skip ?_
    refine hK6 _ _ ?_
    refine .seq (fun K8 hK8 => ?_)
    refine .block ?_
    refine .seq (fun K9 hK9 => ?_)
    refine .regionD mixed_orders_B (.q 0 (.q 1 (.q 2 (.q 3 (.q 4 (.q 5 (.q 6 (.q 7 (.q 8 (.q 9 (.q 10 (.q 11 (.done))))))))))))) (by kernel_rfl) ?_
    refine .m rfl rfl rfl rfl (.refl _) (.fieldAddr fo_32_1_B rfl) ?_
    refine .m rfl rfl rfl rfl (.refl _) (.load on_22_B rfl (by assumption)) ?_
    refine .m rfl rfl rfl rfl (.refl _) (.move rfl) ?_
    refine .m rfl rfl rfl rfl (.refl _) (.idxN sl_22_A (by assumption) rfl rfl (by omega)) ?_
    refine .m rfl rfl rfl rfl (.refl _) (.loadI on_2_A (by assumption) rfl (by omega)) ?_
    refine .m rfl rfl rfl rfl (.refl _) (.fieldAddr fo_32_2_B rfl) ?_
    refine .m rfl rfl rfl rfl (.refl _) (.load on_22_B rfl (by assumption)) ?_
    refine .m rfl rfl rfl rfl (.refl _) (.move rfl) ?_
    refine .m rfl rfl rfl rfl (.refl _) (.idxN sl_22_A (by assumption) rfl rfl (by omega)) ?_
    refine .m rfl rfl rfl rfl (.refl _) (.loadI on_2_A (by assumption) rfl (by omega)) ?_
    refine .m rfl rfl rfl rfl (.refl _) (.assign rfl) ?_
    refine .m rfl rfl rfl rfl (.refl _) (.assign rfl) ?_
    refine .done ?_
    refine hK9 _ _ ?_
    refine .seq (fun K10 hK10 => ?_)
    refine .region ?_
    refine .m rfl rfl rfl (.assign rfl) ?_
    refine .nil ?_
    refine hK10 _ _ ?_
    refine .block ?_
    refine .loopR (σ := Nat × (Nat → Option Addr) × Nat × Nat) [(1, some _), (3, some _), (5, some _), (6, some _), (7, some _)] (fun (t, r2, gL4v2, nL4v2) => [(8, some (.int .i64 (t : Int))), (4, some (.slice (some ⟨gL4v2, 0, none⟩) nL4v2 nL4v2))]) (fun (t, r2, gL4v2, nL4v2) H' => St [gL4] HL1 H' ∧ H'.get gL4v2 = some (.row ((slsL r2 (m.coL k t))) 22 true) ∧ (gL4v2 = gL4 ∨ HL1.next ≤ gL4v2) ∧ nL4v2 = (slsL r2 (m.coL k t)).length ∧ t ≤ m.coSz k ∧ OwnL H.next H' 2 r2 (m.coL k t)) (fun (t, r2, gL4v2, nL4v2) => m.coSz k - t) ((0, rr, _, _)) ⟨rfl, rfl, rfl, rfl, rfl, trivial⟩ ⟨rfl, rfl, trivial⟩ ?_ ?_
    ·
     refine ⟨.refl _ _, by first | assumption | exact at_L4 | simpa using at_L4, .inl rfl, by first | rfl | assumption | simp | omega, ?_⟩
     exact ⟨by omega, hR⟩
    ·
     rintro ⟨t, r2, gL4v2, nL4v2⟩ HL2 ⟨lst2, at_L4v2, pl_L4v2, ln_L4v2, hI⟩ KL2 hKL2
     refine .forget (fr' := [(8, some (.int .i64 (t : Int))), (4, some (.slice (some ⟨gL4v2, 0, none⟩) nL4v2 nL4v2)), (1, some _), (3, some _), (5, some _), (6, some _), (7, some _)]) ⟨rfl, rfl, rfl, rfl, rfl, rfl, rfl, trivial⟩ ?_
     have ge_L4v2 : H.next ≤ gL4v2 := by omega
     have nx_HL2 := lst2.nx
     replace hle := hle.st lst2 (fun k hk => ⟨by omega, trivial⟩)
     replace lst1 := lst1.st lst2 (fun k hk ho => by simp only [out, and_true] at ho ⊢ <;> omega)
     replace at1 := lst2.same _ _ ⟨by omega, trivial⟩ at1
     replace at1003 := lst2.same _ _ ⟨by omega, trivial⟩ at1003
     have lt_at_L4v2 := GHeap.lt_of_get at_L4v2
     replace hin := base_hin.mono hle
     replace hc := base_hc.mono hle
     clear hb1 fs1 ft1 c101 c111 c121 i21 i31 i41 hm1 hi1 hms1 his1 hmt1 hit1
     have hb1 : Prof.At _ g1 0 m p := ⟨Mem.of_get at1, hin⟩
     obtain ⟨fs1, ft1, c101, c111, c121, i21, i31, i41⟩ := hb1.get
     have hm1 : MemN _ _ _ _ _ := ⟨rfl, hb1.1⟩
     have hi1 := hb1.2
     have hms1 : MemN _ _ _ _ _ := ⟨rfl, fs1.1⟩
     have his1 := fs1.2
     have hmt1 : MemN _ _ _ _ _ := ⟨rfl, ft1.1⟩
     have hit1 := ft1.2
     clear mm1003
     have mm1003 : MemN _ _ _ _ _ := ⟨rfl, Mem.of_get at1003⟩
     clear hb3 c03 c13 c23 c33 c43 i13 i23 i33 i43 hm3 hi3
     have hb3 : Cat.At _ g3 0 m.s p.s := ⟨Mem.of_get at1003, hc⟩
     obtain ⟨c03, c13, c23, c33, c43, i13, i23, i33, i43⟩ := hb3.get
     have hm3 : MemN _ _ _ _ _ := ⟨rfl, hb3.1⟩
     have hi3 := hb3.2
     clear u1 u2 u3 u4 u5
     have u1 := i21.2 (m.s.tgt.getD k 0).toNat (by omega)
     have u2 := i31.2 k (by omega)
     have u3 := u2.2 (m.s.src.getD k 0).toNat (by omega)
     have u4 := i41.2 k (by omega)
     have u5 := u4.2 (m.s.tgt.getD k 0).toNat (by omega)
     have rk := St.refl [gL4v2] HL2
     obtain ⟨ht, hR⟩ := hI
     have hat4 := at_L4v2
     have hln := nestL_le (pr := m.coPr) (sz := m.coSz) (c := 64) (k := k) (t := t) (n := m.s.src.length) (fun a ha => by have := hS.co he ha; unfold Prof.coSz; omega) (by omega) ht
     have hfl : (slsL r2 (m.coL k t)).length = (m.coL k t).length := length_slsL _ _
     have hln2 : (m.coL k t).length ≤ m.s.src.length * 64 := hln
     refine .seq (fun K11 hK11 => ?_)
     refine .seq (fun K12 hK12 => ?_)
     refine .region ?_
     refine .m rfl rfl rfl (.move rfl) ?_
     refine .m rfl rfl rfl (.fieldAddr fo_34_2_VProf rfl) ?_
     refine .m rfl rfl rfl (.load on_23_B rfl (by assumption)) ?_
     refine .m rfl rfl rfl (.move rfl) ?_
     refine .m rfl rfl rfl (.idx1 sl_23_B (Intss.sl (by assumption)) rfl rfl (by omega) (by omega)) ?_
     refine .m rfl rfl rfl (.loadR on_22_B (by assumption) rfl (by omega)) ?_
     refine .m rfl rfl rfl (.move rfl) ?_
     refine .m rfl rfl rfl (.idx1 sl_22_A (by assumption) rfl rfl (by omega) (by omega)) ?_
     refine .m rfl rfl rfl (.loadI on_2_A (by assumption) rfl (by omega)) ?_
     refine .m rfl rfl rfl (.cmp rfl rfl rfl) ?_
     refine .nil ?_
     refine hK12 _ _ ?_
     refine .cond rfl (fun h38 => ?_) (fun h38 => ?_)
     ·
      simp only [sps] at h38
      have q17 := q15 t (by omega)
      have q18 := q16 t (by omega)
      have q19 := (hz.diag he (i := (m.s.src.getD k 0).toNat) (by omega)).2
      have q20 := (hz.diag he (i := (m.s.tgt.getD k 0).toNat) (by omega)).2
      refine .skip ?_
      refine hK11 _ _ ?_
      refine .seq (fun K13 hK13 => ?_)
      refine .block ?_
      refine .regionD mixed_orders_B (.q 0 (.q 1 (.q 2 (.q 3 (.q 4 (.q 5 (.q 6 (.q 7 (.q 8 (.q 9 (.q 10 (.q 11 (.q 12 (.q 13 (.q 15 (.q 16 (.q 17 (.q 18 (.q 19 (.q 20 (.q 21 (.q 22 (.q 23 (.q 24 (.q 25 (.q 26 (.q 27 (.c 14 1 (.c 28 1 (.c 29 1 (.c 30 1 (.c 31 0 (.c 32 0 (.done)))))))))))))))))))))))))))))))))) (by kernel_rfl) ?_
      refine .m rfl rfl rfl rfl (.refl _) (.move rfl) ?_
      refine .m rfl rfl rfl rfl (.refl _) (.loadM ag_34_VProf rfl ⟨rfl, Mem.of_get at1⟩) ?_
      refine .m rfl rfl rfl rfl (.refl _) (.move rfl) ?_
      refine .m rfl rfl rfl rfl (.refl _) (.fieldAddr fo_34_3_VProf rfl) ?_
      refine .m rfl rfl rfl rfl (.refl _) (.load on_26_VProf rfl (by assumption)) ?_
      refine .m rfl rfl rfl rfl (.refl _) (.move rfl) ?_
      refine .m rfl rfl rfl rfl (.refl _) (.idxN sl_26_VZ (Intsss.sl (by assumption)) rfl rfl (by omega)) ?_
      refine .m rfl rfl rfl rfl (.refl _) (.loadRR on_23_B (by assumption) rfl (by omega)) ?_
      refine .m rfl rfl rfl rfl (.refl _) (.move rfl) ?_
      refine .m rfl rfl rfl rfl (.refl _) (.idx1 sl_23_B (Intss.sl (by assumption)) rfl rfl (by omega) (by omega)) ?_
      refine .m rfl rfl rfl rfl (.refl _) (.loadR on_22_B (by assumption) rfl (by omega)) ?_
      refine .m rfl rfl rfl rfl (.refl _) (.move rfl) ?_
      refine .m rfl rfl rfl rfl (.refl _) (.idxN sl_22_A (by assumption) rfl rfl (by omega)) ?_
      refine .m rfl rfl rfl rfl (.refl _) (.loadI on_2_A (by assumption) rfl (by omega)) ?_
      refine .m rfl rfl rfl rfl (.refl _) (.loadM ag_34_VProf rfl ⟨rfl, Mem.of_get at1⟩) ?_
      refine .m rfl rfl rfl rfl (.refl _) (.move rfl) ?_
      refine .m rfl rfl rfl rfl (.refl _) (.fieldAddr fo_34_4_VProf rfl) ?_
      refine .m rfl rfl rfl rfl (.refl _) (.load on_26_VProf rfl (by assumption)) ?_
      refine .m rfl rfl rfl rfl (.refl _) (.move rfl) ?_
      refine .m rfl rfl rfl rfl (.refl _) (.idxN sl_26_VZ (Intsss.sl (by assumption)) rfl rfl (by omega)) ?_
      refine .m rfl rfl rfl rfl (.refl _) (.loadRR on_23_B (by assumption) rfl (by omega)) ?_
      refine .m rfl rfl rfl rfl (.refl _) (.move rfl) ?_
      refine .m rfl rfl rfl rfl (.refl _) (.idx1 sl_23_B (Intss.sl (by assumption)) rfl rfl (by omega) (by omega)) ?_
      refine .m rfl rfl rfl rfl (.refl _) (.loadR on_22_B (by assumption) rfl (by omega)) ?_
      refine .m rfl rfl rfl rfl (.refl _) (.move rfl) ?_
      refine .m rfl rfl rfl rfl (.refl _) (.idxN sl_22_A (by assumption) rfl rfl (by omega)) ?_
      refine .m rfl rfl rfl rfl (.refl _) (.loadI on_2_A (by assumption) rfl (by omega)) ?_
      refine .callQ1 rfl rfl rfl rfl rfl @Try.call48 rfl (l22Place_c) (.refl _) ?_
      refine .callQ1 rfl rfl rfl rfl rfl @Try.call48 rfl (l22Place_c) (.refl _) ?_
      refine .c1 rfl rfl rfl rfl (.litR rfl sl_22_A ze_2_E rfl rfl (by omega) (by omega) rfl rfl) ?_
      rintro _ H70 ⟨g70, rfl, le70, ge70, at70⟩
      have hbl := le70
      refine ⟨hbl, ?_⟩
      have nx_H70 := le70.1
      replace hle := hle.trans le70
      replace lst1 := lst1.le le70
      replace lst2 := lst2.le le70
      replace rk := rk.le le70
      replace at1 := le70.2 _ _ at1
      replace at1003 := le70.2 _ _ at1003
      replace at_L4v2 := le70.2 _ _ at_L4v2
      have lt_at70 := GHeap.lt_of_get at70
      replace hin := base_hin.mono hle
      replace hc := base_hc.mono hle
      clear hb1 fs1 ft1 c101 c111 c121 i21 i31 i41 hm1 hi1 hms1 his1 hmt1 hit1
      have hb1 : Prof.At _ g1 0 m p := ⟨Mem.of_get at1, hin⟩
      obtain ⟨fs1, ft1, c101, c111, c121, i21, i31, i41⟩ := hb1.get
      have hm1 : MemN _ _ _ _ _ := ⟨rfl, hb1.1⟩
      have hi1 := hb1.2
      have hms1 : MemN _ _ _ _ _ := ⟨rfl, fs1.1⟩
      have his1 := fs1.2
      have hmt1 : MemN _ _ _ _ _ := ⟨rfl, ft1.1⟩
      have hit1 := ft1.2
      clear mm1003
      have mm1003 : MemN _ _ _ _ _ := ⟨rfl, Mem.of_get at1003⟩
      clear hb3 c03 c13 c23 c33 c43 i13 i23 i33 i43 hm3 hi3
      have hb3 : Cat.At _ g3 0 m.s p.s := ⟨Mem.of_get at1003, hc⟩
      obtain ⟨c03, c13, c23, c33, c43, i13, i23, i33, i43⟩ := hb3.get
      have hm3 : MemN _ _ _ _ _ := ⟨rfl, hb3.1⟩
      have hi3 := hb3.2
      clear u1 u2 u3 u4 u5
      have u1 := i21.2 (m.s.tgt.getD k 0).toNat (by omega)
      have u2 := i31.2 k (by omega)
      have u3 := u2.2 (m.s.src.getD k 0).toNat (by omega)
      have u4 := i41.2 k (by omega)
      have u5 := u4.2 (m.s.tgt.getD k 0).toNat (by omega)
      refine .c1 rfl rfl rfl rfl (.litR rfl sl_23_B ze_22_E rfl rfl (by omega) (by omega) rfl rfl) ?_
      rintro _ H71 ⟨g71, rfl, le71, ge71, at71⟩
      replace hbl := hbl.trans le71
      refine ⟨hbl, ?_⟩
      have nx_H71 := le71.1
      replace hle := hle.trans le71
      replace lst1 := lst1.le le71
      replace lst2 := lst2.le le71
      replace rk := rk.le le71
      replace at1 := le71.2 _ _ at1
      replace at1003 := le71.2 _ _ at1003
      replace at_L4v2 := le71.2 _ _ at_L4v2
      replace at70 := le71.2 _ _ at70
      have lt_at71 := GHeap.lt_of_get at71
      replace hin := base_hin.mono hle
      replace hc := base_hc.mono hle
      clear hb1 fs1 ft1 c101 c111 c121 i21 i31 i41 hm1 hi1 hms1 his1 hmt1 hit1
      have hb1 : Prof.At _ g1 0 m p := ⟨Mem.of_get at1, hin⟩
      obtain ⟨fs1, ft1, c101, c111, c121, i21, i31, i41⟩ := hb1.get
      have hm1 : MemN _ _ _ _ _ := ⟨rfl, hb1.1⟩
      have hi1 := hb1.2
      have hms1 : MemN _ _ _ _ _ := ⟨rfl, fs1.1⟩
      have his1 := fs1.2
      have hmt1 : MemN _ _ _ _ _ := ⟨rfl, ft1.1⟩
      have hit1 := ft1.2
      clear mm1003
      have mm1003 : MemN _ _ _ _ _ := ⟨rfl, Mem.of_get at1003⟩
      clear hb3 c03 c13 c23 c33 c43 i13 i23 i33 i43 hm3 hi3
      have hb3 : Cat.At _ g3 0 m.s p.s := ⟨Mem.of_get at1003, hc⟩
      obtain ⟨c03, c13, c23, c33, c43, i13, i23, i33, i43⟩ := hb3.get
      have hm3 : MemN _ _ _ _ _ := ⟨rfl, hb3.1⟩
      have hi3 := hb3.2
      clear u1 u2 u3 u4 u5
      have u1 := i21.2 (m.s.tgt.getD k 0).toNat (by omega)
      have u2 := i31.2 k (by omega)
      have u3 := u2.2 (m.s.src.getD k 0).toNat (by omega)
      have u4 := i41.2 k (by omega)
      have u5 := u4.2 (m.s.tgt.getD k 0).toNat (by omega)
      refine .c0 rfl rfl rfl rfl (.appendV rfl sl_23_B ze_22_E rfl by_22_E sl_23_B rfl rfl (by assumption) (by assumption) (by first | omega | (simp <;> omega)) rfl rfl (by omega) (by omega)) ?_
      rintro _ H72 ⟨g72, rfl, st72, ge72, at72⟩
      have nx_H72 := st72.nx
      replace hle := hle.st st72 (fun k hk => ⟨by omega, trivial⟩)
      replace lst1 := lst1.st st72 (fun k hk ho => by simp only [out, and_true] at ho ⊢ <;> omega)
      replace lst2 := lst2.st st72 (fun k hk ho => by simp only [out, and_true] at ho ⊢ <;> omega)
      replace rk := rk.st st72 (fun k hk ho => by simp only [out, and_true] at ho ⊢ <;> omega)
      replace at1 := st72.same _ _ ⟨by omega, trivial⟩ at1
      replace at1003 := st72.same _ _ ⟨by omega, trivial⟩ at1003
      replace at70 := st72.same _ _ ⟨by omega, trivial⟩ at70
      replace at71 := st72.same _ _ ⟨by omega, trivial⟩ at71
      have lt_at72 := GHeap.lt_of_get at72
      replace hin := base_hin.mono hle
      replace hc := base_hc.mono hle
      clear hb1 fs1 ft1 c101 c111 c121 i21 i31 i41 hm1 hi1 hms1 his1 hmt1 hit1
      have hb1 : Prof.At _ g1 0 m p := ⟨Mem.of_get at1, hin⟩
      obtain ⟨fs1, ft1, c101, c111, c121, i21, i31, i41⟩ := hb1.get
      have hm1 : MemN _ _ _ _ _ := ⟨rfl, hb1.1⟩
      have hi1 := hb1.2
      have hms1 : MemN _ _ _ _ _ := ⟨rfl, fs1.1⟩
      have his1 := fs1.2
      have hmt1 : MemN _ _ _ _ _ := ⟨rfl, ft1.1⟩
      have hit1 := ft1.2
      clear mm1003
      have mm1003 : MemN _ _ _ _ _ := ⟨rfl, Mem.of_get at1003⟩
      clear hb3 c03 c13 c23 c33 c43 i13 i23 i33 i43 hm3 hi3
      have hb3 : Cat.At _ g3 0 m.s p.s := ⟨Mem.of_get at1003, hc⟩
      obtain ⟨c03, c13, c23, c33, c43, i13, i23, i33, i43⟩ := hb3.get
      have hm3 : MemN _ _ _ _ _ := ⟨rfl, hb3.1⟩
      have hi3 := hb3.2
      clear u1 u2 u3 u4 u5
      have u1 := i21.2 (m.s.tgt.getD k 0).toNat (by omega)
      have u2 := i31.2 k (by omega)
      have u3 := u2.2 (m.s.src.getD k 0).toNat (by omega)
      have u4 := i41.2 k (by omega)
      have u5 := u4.2 (m.s.tgt.getD k 0).toNat (by omega)
      refine .d0 rfl rfl rfl rfl (.quiet (.assign rfl) CIs.mk) ?_
      refine .done ?_
      refine hK13 _ _ ?_
      refine .region ?_
      refine .m rfl rfl rfl (.move rfl) ?_
      refine .m rfl rfl rfl (.add rfl rfl rfl (by omega) (by omega)) ?_
      refine .m rfl rfl rfl (.assign rfl) ?_
      refine .nil ?_
      refine hKL2 ((t + 1, upd r2 (m.coL k t).length (some ⟨g70, 0, none⟩), _, _)) _ _ ?_ ?_ ⟨rfl, rfl, rfl, rfl, rfl, rfl, rfl, trivial⟩
      ·
       refine ⟨lst2, by first | assumption | (rw [m.coL_snoc, slsL_snoc]; assumption), by omega, by first | omega | (simp only [List.length_append, List.length_cons, List.length_nil] <;> omega) | (rw [m.coL_snoc, slsL_snoc] <;> (first | omega | (simp only [List.length_append, List.length_cons, List.length_nil] <;> omega))), ?_⟩
       exact ⟨by omega, by rw [m.coL_snoc]; exact hR.snoc (x := m.coPr k t) (rk.lasts1 hat4 rfl) (by assumption) (by omega) (by omega)⟩
      ·
       (dsimp only; omega)
     ·
      try simp only [sps] at h38
      refine .exit ?_
      refine hK8 _ _ ?_
      refine .region ?_
      refine .m rfl rfl rfl (.move rfl) ?_
      refine .m rfl rfl rfl (.add rfl rfl rfl (by omega) (by omega)) ?_
      refine .m rfl rfl rfl (.assign rfl) ?_
      refine .nil ?_
      obtain rfl : t = m.coSz k := by omega
      refine hKL1 ((k + 1, r2, _, _)) _ _ ?_ ?_ ⟨rfl, rfl, rfl, rfl, trivial⟩
      ·
       refine ⟨lst1, by first | assumption | (rw [m.coL_next]; assumption), by omega, by first | omega | (simp only [List.length_append, List.length_cons, List.length_nil] <;> omega) | (rw [m.coL_next] <;> (first | omega | (simp only [List.length_append, List.length_cons, List.length_nil] <;> omega))), ?_⟩
       exact ⟨by omega, by rw [m.coL_next]; exact hR⟩
      ·
       (dsimp only; omega)
   ·
    try simp only [sps] at h16
    refine .exit ?_
    refine hK4 _ _ ?_
    refine .seq (fun K14 hK14 => ?_)
    refine .region ?_
    refine .m rfl rfl rfl (.loadM ag_34_VProf rfl ⟨rfl, Mem.of_get at1⟩) ?_
    refine .m rfl rfl rfl (.fieldAddr fo_32_0_B rfl) ?_
    refine .m rfl rfl rfl (.load on_2_A rfl (by assumption)) ?_
    refine .callQ rfl rfl rfl rfl @Try.call48 rfl (l22Place_c) ?_
    refine .m rfl rfl rfl (.move rfl) ?_
    obtain rfl : k = m.s.src.length := by omega
    have hiss := hR.intss at_L4 ge_L4
    have hcl := nestL_length (pr := m.coPr) (sz := m.coSz) (c := 64) (k := m.s.src.length) fun a ha => by have := hS.co he ha; unfold Prof.coSz; omega
    have hfl : (slsL rr (m.coL m.s.src.length 0)).length = (m.coL m.s.src.length 0).length := length_slsL _ _
    have hfl2 : (m.coL m.s.src.length 0).length ≤ m.s.src.length * 64 := hcl
    have hso : m.s.obj.toNat = m.sz.length := by omega
    refine .call rfl rfl rfl rfl @Try.call49 rfl (l01JoinN_c (n := (sumN m.diag m.sz.length).toNat) (by rw [hso]; omega) (by omega) hiss (by omega) (by omega) (fun i hi => by obtain ⟨a, t, ha, ht, e⟩ := nestL_mem (getD_mem_list (d := []) hi); have e' : (m.coL m.s.src.length 0).getD i [] = m.coPr a t := e; rw [e']; have := hS.coPr he ha ht; omega)) ?_
    rintro _ H78 ⟨le78, g78, rfl, at78, ge78⟩
    have nx_H78 := le78.1
    replace hle := hle.trans le78
    replace lst1 := lst1.le le78
    replace at1 := le78.2 _ _ at1
    replace at1003 := le78.2 _ _ at1003
    replace at_L4 := le78.2 _ _ at_L4
    have lt_at78 := GHeap.lt_of_get at78
    replace hin := base_hin.mono hle
    replace hc := base_hc.mono hle
    clear hb1 fs1 ft1 c101 c111 c121 i21 i31 i41 hm1 hi1 hms1 his1 hmt1 hit1
    have hb1 : Prof.At _ g1 0 m p := ⟨Mem.of_get at1, hin⟩
    obtain ⟨fs1, ft1, c101, c111, c121, i21, i31, i41⟩ := hb1.get
    have hm1 : MemN _ _ _ _ _ := ⟨rfl, hb1.1⟩
    have hi1 := hb1.2
    have hms1 : MemN _ _ _ _ _ := ⟨rfl, fs1.1⟩
    have his1 := fs1.2
    have hmt1 : MemN _ _ _ _ _ := ⟨rfl, ft1.1⟩
    have hit1 := ft1.2
    clear mm1003
    have mm1003 : MemN _ _ _ _ _ := ⟨rfl, Mem.of_get at1003⟩
    clear hb3 c03 c13 c23 c33 c43 i13 i23 i33 i43 hm3 hi3
    have hb3 : Cat.At _ g3 0 m.s p.s := ⟨Mem.of_get at1003, hc⟩
    obtain ⟨c03, c13, c23, c33, c43, i13, i23, i33, i43⟩ := hb3.get
    have hm3 : MemN _ _ _ _ _ := ⟨rfl, hb3.1⟩
    have hi3 := hb3.2
    have i78 := Ints.of_get at78
    refine .m rfl rfl rfl (.assign rfl) ?_
    refine .nil ?_
    refine hK14 _ _ ?_
    refine .ret ?_
    -- leaf e1
    refine hret _ _ ?_
    refine ⟨_, rfl, ?_⟩
    rw [show m.coend = joinL (sumN m.diag m.sz.length).toNat ((m.coL m.s.src.length 0).map fun p => (pA p, pB p)) by unfold Prof.coend; rw [m.coP_eq]]
    exact ⟨hle, g78, rfl, at78, by omega⟩
theorem specCoendOf_c {m : Prof} {p : ProfP} {H : GHeap} (hin : m.In H p := by assumption) (hs : m.Small := by assumption) :
    GCalls Try.prog 6 [.agg (m.cells p).toArray] H (fun v H' => H.Le H' ∧ ∃ a, v = .tuple #[.slice a m.coendR.length m.coendR.length, .int .i64 m.code] ∧ IntsR H.next H' a m.coendR) := by
  refine GCalls.body (N := 12) (rs := [.tmp 2, .tmp 3]) Try.func6 rfl rfl rfl rfl (fun Qx hret hend => ?_)
  refine .forget (fr' := [(0, some _)]) ⟨rfl, trivial⟩ ?_
  have hle := GHeap.Le.refl H
  have base_hin := hin
  refine .seq (fun K1 hK1 => ?_)
  refine .region ?_
  refine .r rfl rfl rfl (.boxR rfl sz_34_VProf rfl) ?_
  rintro _ H1 ⟨g1, rfl, le1, ge1, at1⟩
  have nx_H1 := le1.1
  replace hle := hle.trans le1
  have lt_at1 := GHeap.lt_of_get at1
  replace hin := base_hin.mono hle
  have hb1 : Prof.At _ g1 0 m p := ⟨Mem.of_get at1, hin⟩
  obtain ⟨fs1, ft1, c101, c111, c121, i21, i31, i41⟩ := hb1.get
  have hm1 : MemN _ _ _ _ _ := ⟨rfl, hb1.1⟩
  have hi1 := hb1.2
  have hms1 : MemN _ _ _ _ _ := ⟨rfl, fs1.1⟩
  have his1 := fs1.2
  have hmt1 : MemN _ _ _ _ _ := ⟨rfl, ft1.1⟩
  have hit1 := ft1.2
  refine .m rfl rfl rfl (.assign rfl) ?_
  refine .m rfl rfl rfl (.assign rfl) ?_
  refine .nil ?_
  refine hK1 _ _ ?_
  refine .seq (fun K2 hK2 => ?_)
  refine .seq (fun K3 hK3 => ?_)
  refine .region ?_
  refine .m rfl rfl rfl (.loadM ag_34_VProf rfl ⟨rfl, Mem.of_get at1⟩) ?_
  refine .callQ rfl rfl rfl rfl @Try.call26 rfl (l22Loop_c) ?_
  refine .m rfl rfl rfl (.assign rfl) ?_
  refine .nil ?_
  refine hK3 _ _ ?_
  refine .seq (fun K4 hK4 => ?_)
  refine .region ?_
  refine .m rfl rfl rfl (.move rfl) ?_
  refine .m rfl rfl rfl (.cmp rfl rfl rfl) ?_
  refine .nil ?_
  refine hK4 _ _ ?_
  refine .cond rfl (fun h8 => ?_) (fun h8 => ?_)
  ·
   simp only [sps] at h8
   refine .seq (fun K5 hK5 => ?_)
   refine .region ?_
   refine .m rfl rfl rfl (.move rfl) ?_
   refine .m rfl rfl rfl (.assign rfl) ?_
   refine .m rfl rfl rfl (.assign rfl) ?_
   refine .nil ?_
   refine hK5 _ _ ?_
   refine .ret ?_
   -- leaf e1
   refine hret _ _ ?_
   refine ⟨_, _, rfl, rfl, ?_⟩
   rw [Prof.coendR_not h8]
   exact ⟨hle, none, rfl, .inl ⟨rfl, rfl⟩⟩
  ·
   simp only [sps] at h8
   refine .skip ?_
   refine hK2 _ _ ?_
   refine .seq (fun K6 hK6 => ?_)
   refine .region ?_
   obtain ⟨hI, he⟩ := Prof.of_code h8
   refine .m rfl rfl rfl (.loadM ag_34_VProf rfl ⟨rfl, Mem.of_get at1⟩) ?_
   refine .call rfl rfl rfl rfl @Try.call27 rfl (l22Coend_c (hS := hI.1) (he := he)) ?_
   rintro _ H11 ⟨le11, g11, rfl, at11, ge11⟩
   have nx_H11 := le11.1
   replace hle := hle.trans le11
   replace at1 := le11.2 _ _ at1
   have lt_at11 := GHeap.lt_of_get at11
   replace hin := base_hin.mono hle
   clear hb1 fs1 ft1 c101 c111 c121 i21 i31 i41 hm1 hi1 hms1 his1 hmt1 hit1
   have hb1 : Prof.At _ g1 0 m p := ⟨Mem.of_get at1, hin⟩
   obtain ⟨fs1, ft1, c101, c111, c121, i21, i31, i41⟩ := hb1.get
   have hm1 : MemN _ _ _ _ _ := ⟨rfl, hb1.1⟩
   have hi1 := hb1.2
   have hms1 : MemN _ _ _ _ _ := ⟨rfl, fs1.1⟩
   have his1 := fs1.2
   have hmt1 : MemN _ _ _ _ _ := ⟨rfl, ft1.1⟩
   have hit1 := ft1.2
   have i11 := Ints.of_get at11
   refine .m rfl rfl rfl (.assign rfl) ?_
   refine .m rfl rfl rfl (.assign rfl) ?_
   refine .nil ?_
   refine hK6 _ _ ?_
   refine .ret ?_
   -- leaf e2
   refine hret _ _ ?_
   refine ⟨_, _, rfl, rfl, ?_⟩
   rw [Prof.coendR_ok h8, h8]
   exact ⟨hle, _, rfl, IntsR.of_at at11 (by omega)⟩
set_option maxHeartbeats 4000000 in
theorem implCoendOf_c {m : Prof} {p : ProfP} {H : GHeap} (hin : m.In H p := by assumption) (hs : m.Small := by assumption) :
    GCalls Try.prog 8 [.agg (m.cells p).toArray] H (fun v H' => H.Le H' ∧ ∃ a, v = .tuple #[.slice a m.coendR.length m.coendR.length, .int .i64 m.code] ∧ IntsR H.next H' a m.coendR) := by
  refine GCalls.body (N := 95) (rs := [.tmp 2, .tmp 3]) Try.func8 rfl rfl rfl rfl (fun Qx hret hend => ?_)
  refine .forget (fr' := [(0, some _)]) ⟨rfl, trivial⟩ ?_
  have hle := GHeap.Le.refl H
  have base_hin := hin
  refine .seq (fun K1 hK1 => ?_)
  refine .region ?_
  refine .r rfl rfl rfl (.boxR rfl sz_34_VProf rfl) ?_
  rintro _ H1 ⟨g1, rfl, le1, ge1, at1⟩
  have nx_H1 := le1.1
  replace hle := hle.trans le1
  have lt_at1 := GHeap.lt_of_get at1
  replace hin := base_hin.mono hle
  have hb1 : Prof.At _ g1 0 m p := ⟨Mem.of_get at1, hin⟩
  obtain ⟨fs1, ft1, c101, c111, c121, i21, i31, i41⟩ := hb1.get
  have hm1 : MemN _ _ _ _ _ := ⟨rfl, hb1.1⟩
  have hi1 := hb1.2
  have hms1 : MemN _ _ _ _ _ := ⟨rfl, fs1.1⟩
  have his1 := fs1.2
  have hmt1 : MemN _ _ _ _ _ := ⟨rfl, ft1.1⟩
  have hit1 := ft1.2
  refine .m rfl rfl rfl (.assign rfl) ?_
  refine .m rfl rfl rfl (.assign rfl) ?_
  refine .nil ?_
  refine hK1 _ _ ?_
  refine .seq (fun K2 hK2 => ?_)
  refine .seq (fun K3 hK3 => ?_)
  refine .region ?_
  refine .callQ rfl rfl rfl rfl @Try.call31 rfl (loopCode_c) ?_
  refine .m rfl rfl rfl (.assign rfl) ?_
  refine .nil ?_
  refine hK3 _ _ ?_
  refine .seq (fun K4 hK4 => ?_)
  refine .region ?_
  refine .m rfl rfl rfl (.move rfl) ?_
  refine .m rfl rfl rfl (.cmp rfl rfl rfl) ?_
  refine .nil ?_
  refine hK4 _ _ ?_
  refine .cond rfl (fun h15 => ?_) (fun h15 => ?_)
  ·
   simp only [sps] at h15
   refine .seq (fun K5 hK5 => ?_)
   refine .region ?_
   refine .m rfl rfl rfl (.move rfl) ?_
   refine .m rfl rfl rfl (.assign rfl) ?_
   refine .m rfl rfl rfl (.assign rfl) ?_
   refine .nil ?_
   refine hK5 _ _ ?_
   refine .ret ?_
   -- leaf e1
   refine hret _ _ ?_
   refine ⟨_, _, rfl, rfl, ?_⟩
   first
   | (rw [Prof.coendR_not h15]; exact ⟨hle, none, rfl, .inl ⟨rfl, rfl⟩⟩)
   | (obtain rfl : k = m.s.src.length := by omega
      rw [Prof.coendR_ok h15, h15]
      have e1 : m.coend = clsL (joinK (m.coP m.s.src.length 0)) (numsL (sumN m.diag m.sz.length).toNat).length := by rw [hnl]; rfl
      rw [e1]
      exact ⟨hle, _, by rw [length_clsL], IntsR.of_at at94 (by omega)⟩)
  ·
   simp only [sps] at h15
   refine .skip ?_
   refine hK2 _ _ ?_
   refine .seq (fun K6 hK6 => ?_)
   refine .region ?_
   obtain ⟨hI, he⟩ := Prof.of_code h15
   have hS := hI.1
   have hz := hS.z
   have b1 := hS.s.1.obj
   have b2 := hS.s.1.n40
   have b3 := hz.sl
   have b4 := hz.sum he (n := m.sz.length) (Nat.le_refl _)
   refine .call rfl rfl rfl rfl @Try.call32 rfl (firstPlaces_c) ?_
   rintro _ H18 ⟨le18, g18, rfl, at18, ge18⟩
   have nx_H18 := le18.1
   replace hle := hle.trans le18
   replace at1 := le18.2 _ _ at1
   have lt_at18 := GHeap.lt_of_get at18
   replace hin := base_hin.mono hle
   clear hb1 fs1 ft1 c101 c111 c121 i21 i31 i41 hm1 hi1 hms1 his1 hmt1 hit1
   have hb1 : Prof.At _ g1 0 m p := ⟨Mem.of_get at1, hin⟩
   obtain ⟨fs1, ft1, c101, c111, c121, i21, i31, i41⟩ := hb1.get
   have hm1 : MemN _ _ _ _ _ := ⟨rfl, hb1.1⟩
   have hi1 := hb1.2
   have hms1 : MemN _ _ _ _ _ := ⟨rfl, fs1.1⟩
   have his1 := fs1.2
   have hmt1 : MemN _ _ _ _ _ := ⟨rfl, ft1.1⟩
   have hit1 := ft1.2
   have i18 := Ints.of_get at18
   refine .m rfl rfl rfl (.move rfl) ?_
   refine .m rfl rfl rfl (.extract rfl rfl) ?_
   refine .m rfl rfl rfl (.extract rfl rfl) ?_
   refine .m rfl rfl rfl (.assign rfl) ?_
   refine .m rfl rfl rfl (.assign rfl) ?_
   refine .nil ?_
   refine hK6 _ _ ?_
   refine .seq (fun K7 hK7 => ?_)
   refine .region ?_
   refine .m rfl rfl rfl (.move rfl) ?_
   refine .call rfl rfl rfl rfl @Try.call33 rfl (joinerOf_c) ?_
   rintro _ H22 ⟨le22, g22, rfl, at22, ge22⟩
   have nx_H22 := le22.1
   replace hle := hle.trans le22
   replace at1 := le22.2 _ _ at1
   replace at18 := le22.2 _ _ at18
   have lt_at22 := GHeap.lt_of_get at22
   replace hin := base_hin.mono hle
   clear hb1 fs1 ft1 c101 c111 c121 i21 i31 i41 hm1 hi1 hms1 his1 hmt1 hit1
   have hb1 : Prof.At _ g1 0 m p := ⟨Mem.of_get at1, hin⟩
   obtain ⟨fs1, ft1, c101, c111, c121, i21, i31, i41⟩ := hb1.get
   have hm1 : MemN _ _ _ _ _ := ⟨rfl, hb1.1⟩
   have hi1 := hb1.2
   have hms1 : MemN _ _ _ _ _ := ⟨rfl, fs1.1⟩
   have his1 := fs1.2
   have hmt1 : MemN _ _ _ _ _ := ⟨rfl, ft1.1⟩
   have hit1 := ft1.2
   clear i18
   have i18 := Ints.of_get at18
   have i22 := Ints.of_get at22
   refine .m rfl rfl rfl (.assign rfl) ?_
   refine .nil ?_
   refine hK7 _ _ ?_
   refine .seq (fun K8 hK8 => ?_)
   refine .region ?_
   refine .m rfl rfl rfl (.fieldAddr fo_34_0_VProf rfl) ?_
   refine .m rfl rfl rfl (.assign rfl) ?_
   refine .nil ?_
   refine hK8 _ _ ?_
   refine .seq (fun K9 hK9 => ?_)
   refine .seq (fun K10 hK10 => ?_)
   refine .region ?_
   obtain ⟨d0, d1, d2, d3, d4, d5, d6, d7, d8⟩ := fs1.get
   refine .m rfl rfl rfl (.move rfl) ?_
   refine .m rfl rfl rfl (.nilCheck rfl) ?_
   refine .m rfl rfl rfl (.fieldAddr fo_32_1_B rfl) ?_
   refine .m rfl rfl rfl (.load on_22_B rfl (by assumption)) ?_
   refine .m rfl rfl rfl (.len sl_22_A rfl) ?_
   refine .m rfl rfl rfl (.move rfl) ?_
   refine .nil ?_
   refine hK10 _ _ ?_
   refine .block ?_
   have hnl : (numsL (sumN m.diag m.sz.length).toNat).length = (sumN m.diag m.sz.length).toNat := length_numsL _
   have hfl := m.length_firsts m.sz.length
   refine .loopR (σ := Nat × List Int) [(1, some _), (5, some _), (7, some _), (8, some _), (28, some _)] (fun (k, js) => [(29, some (.int .i64 (k : Int)))]) (fun (k, js) H' => St [g22] H22 H' ∧ H'.get g22 = some (.row (ints js) 2 true) ∧ k ≤ m.s.src.length ∧ RootK js (joinK (m.coP k 0)) (numsL (sumN m.diag m.sz.length).toNat).length) (fun (k, js) => m.s.src.length - k) ((0, numsL (sumN m.diag m.sz.length).toNat)) ⟨rfl, rfl, rfl, rfl, rfl, trivial⟩ ⟨rfl, trivial⟩ ?_ ?_
   ·
    refine ⟨.refl _ _, by first | assumption | exact at22 | simpa using at22, ?_⟩
    exact ⟨by omega, RootK.start rfl fun i hi => numsL_get (by omega)⟩
   ·
    rintro ⟨k, js⟩ HL1 ⟨lst1, at_L7, hI⟩ KL1 hKL1
    refine .forget (fr' := [(29, some (.int .i64 (k : Int))), (1, some _), (5, some _), (7, some _), (8, some _), (28, some _)]) ⟨rfl, rfl, rfl, rfl, rfl, rfl, trivial⟩ ?_
    have nx_HL1 := lst1.nx
    replace hle := hle.st lst1 (fun k hk => ⟨by omega, trivial⟩)
    replace at1 := lst1.same _ _ ⟨by omega, trivial⟩ at1
    replace at18 := lst1.same _ _ ⟨by omega, trivial⟩ at18
    have lt_at_L7 := GHeap.lt_of_get at_L7
    replace hin := base_hin.mono hle
    clear hb1 fs1 ft1 c101 c111 c121 i21 i31 i41 hm1 hi1 hms1 his1 hmt1 hit1
    have hb1 : Prof.At _ g1 0 m p := ⟨Mem.of_get at1, hin⟩
    obtain ⟨fs1, ft1, c101, c111, c121, i21, i31, i41⟩ := hb1.get
    have hm1 : MemN _ _ _ _ _ := ⟨rfl, hb1.1⟩
    have hi1 := hb1.2
    have hms1 : MemN _ _ _ _ _ := ⟨rfl, fs1.1⟩
    have his1 := fs1.2
    have hmt1 : MemN _ _ _ _ _ := ⟨rfl, ft1.1⟩
    have hit1 := ft1.2
    clear i18
    have i18 := Ints.of_get at18
    clear i22
    have i22 := Ints.of_get at22
    obtain ⟨hk, hK⟩ := hI
    refine .seq (fun K11 hK11 => ?_)
    refine .region ?_
    refine .m rfl rfl rfl (.cmp rfl rfl rfl) ?_
    refine .nil ?_
    refine hK11 _ _ ?_
    refine .seq (fun K12 hK12 => ?_)
    refine .cond rfl (fun h30 => ?_) (fun h30 => ?_)
    ·
     simp only [sps] at h30
     obtain ⟨q1, q2, q3, q4, q5, q6, q7, q8, q9, q10, q11, q12, q13, q14, q15, q16⟩ := hS.co he (a := k) (by omega)
     have hcs : (m.coSz k : Int) = (m.sz.getD (m.s.tgt.getD k 0).toNat []).getD (m.s.src.getD k 0).toNat 0 := by unfold Prof.coSz; omega
     have u1 := i21.2 (m.s.tgt.getD k 0).toNat (by omega)
     have u2 := i31.2 k (by omega)
     have u3 := u2.2 (m.s.src.getD k 0).toNat (by omega)
     have u4 := i41.2 k (by omega)
     have u5 := u4.2 (m.s.tgt.getD k 0).toNat (by omega)
     obtain ⟨d0, d1, d2, d3, d4, d5, d6, d7, d8⟩ := fs1.get
     refine .skip ?_
     refine hK12 _ _ ?_
     refine .seq (fun K13 hK13 => ?_)
     refine .block ?_
     refine .seq (fun K14 hK14 => ?_)
     refine .region ?_
     refine .m rfl rfl rfl (.move rfl) ?_
     refine .m rfl rfl rfl (.assign rfl) ?_
     refine .nil ?_
     refine hK14 _ _ ?_
     refine .seq (fun K15 hK15 => ?_)
     refine .regionD mixed_orders_B (.q 0 (.q 1 (.q 2 (.q 3 (.q 4 (.q 5 (.q 6 (.q 7 (.q 8 (.q 9 (.q 10 (.q 11 (.q 12 (.q 13 (.q 14 (.q 15 (.done))))))))))))))))) (by kernel_rfl) ?_
     refine .m rfl rfl rfl rfl (.refl _) (.move rfl) ?_
     refine .m rfl rfl rfl rfl (.refl _) (.nilCheck rfl) ?_
     refine .m rfl rfl rfl rfl (.refl _) (.fieldAddr fo_32_1_B rfl) ?_
     refine .m rfl rfl rfl rfl (.refl _) (.load on_22_B rfl (by assumption)) ?_
     refine .m rfl rfl rfl rfl (.refl _) (.move rfl) ?_
     refine .m rfl rfl rfl rfl (.refl _) (.idxN sl_22_A (by assumption) rfl rfl (by omega)) ?_
     refine .m rfl rfl rfl rfl (.refl _) (.loadI on_2_A (by assumption) rfl (by omega)) ?_
     refine .m rfl rfl rfl rfl (.refl _) (.move rfl) ?_
     refine .m rfl rfl rfl rfl (.refl _) (.nilCheck rfl) ?_
     refine .m rfl rfl rfl rfl (.refl _) (.fieldAddr fo_32_2_B rfl) ?_
     refine .m rfl rfl rfl rfl (.refl _) (.load on_22_B rfl (by assumption)) ?_
     refine .m rfl rfl rfl rfl (.refl _) (.move rfl) ?_
     refine .m rfl rfl rfl rfl (.refl _) (.idxN sl_22_A (by assumption) rfl rfl (by omega)) ?_
     refine .m rfl rfl rfl rfl (.refl _) (.loadI on_2_A (by assumption) rfl (by omega)) ?_
     refine .m rfl rfl rfl rfl (.refl _) (.assign rfl) ?_
     refine .m rfl rfl rfl rfl (.refl _) (.assign rfl) ?_
     refine .done ?_
     refine hK15 _ _ ?_
     refine .seq (fun K16 hK16 => ?_)
     refine .region ?_
     refine .m rfl rfl rfl (.fieldAddr fo_34_2_VProf rfl) ?_
     refine .m rfl rfl rfl (.load on_23_B rfl (by assumption)) ?_
     refine .m rfl rfl rfl (.move rfl) ?_
     refine .m rfl rfl rfl (.idx1 sl_23_B (Intss.sl (by assumption)) rfl rfl (by omega) (by omega)) ?_
     refine .m rfl rfl rfl (.loadR on_22_B (by assumption) rfl (by omega)) ?_
     refine .m rfl rfl rfl (.move rfl) ?_
     refine .m rfl rfl rfl (.idx1 sl_22_A (by assumption) rfl rfl (by omega) (by omega)) ?_
     refine .m rfl rfl rfl (.loadI on_2_A (by assumption) rfl (by omega)) ?_
     refine .m rfl rfl rfl (.move rfl) ?_
     refine .nil ?_
     refine hK16 _ _ ?_
     refine .block ?_
     refine .loopR (σ := Nat × List Int) [(1, some _), (5, some _), (7, some _), (8, some _), (9, some _), (10, some _), (11, some _), (28, some _), (29, some _), (53, some _)] (fun (t, ks) => [(54, some (.int .i64 (t : Int)))]) (fun (t, ks) H' => St [g22] HL1 H' ∧ H'.get g22 = some (.row (ints ks) 2 true) ∧ t ≤ m.coSz k ∧ RootK ks (joinK (m.coP k t)) (numsL (sumN m.diag m.sz.length).toNat).length) (fun (t, ks) => m.coSz k - t) ((0, js)) ⟨rfl, rfl, rfl, rfl, rfl, rfl, rfl, rfl, rfl, rfl, trivial⟩ ⟨rfl, trivial⟩ ?_ ?_
     ·
      refine ⟨.refl _ _, by first | assumption | exact at_L7 | simpa using at_L7, ?_⟩
      exact ⟨by omega, hK⟩
     ·
      rintro ⟨t, ks⟩ HL2 ⟨lst2, at_L7, hI⟩ KL2 hKL2
      refine .forget (fr' := [(54, some (.int .i64 (t : Int))), (1, some _), (5, some _), (7, some _), (8, some _), (9, some _), (10, some _), (11, some _), (28, some _), (29, some _), (53, some _)]) ⟨rfl, rfl, rfl, rfl, rfl, rfl, rfl, rfl, rfl, rfl, rfl, trivial⟩ ?_
      have nx_HL2 := lst2.nx
      replace hle := hle.st lst2 (fun k hk => ⟨by omega, trivial⟩)
      replace lst1 := lst1.st lst2 (fun k hk ho => by simp only [out, and_true] at ho ⊢ <;> omega)
      replace at1 := lst2.same _ _ ⟨by omega, trivial⟩ at1
      replace at18 := lst2.same _ _ ⟨by omega, trivial⟩ at18
      have lt_at_L7 := GHeap.lt_of_get at_L7
      replace hin := base_hin.mono hle
      clear hb1 fs1 ft1 c101 c111 c121 i21 i31 i41 hm1 hi1 hms1 his1 hmt1 hit1
      have hb1 : Prof.At _ g1 0 m p := ⟨Mem.of_get at1, hin⟩
      obtain ⟨fs1, ft1, c101, c111, c121, i21, i31, i41⟩ := hb1.get
      have hm1 : MemN _ _ _ _ _ := ⟨rfl, hb1.1⟩
      have hi1 := hb1.2
      have hms1 : MemN _ _ _ _ _ := ⟨rfl, fs1.1⟩
      have his1 := fs1.2
      have hmt1 : MemN _ _ _ _ _ := ⟨rfl, ft1.1⟩
      have hit1 := ft1.2
      clear i18
      have i18 := Ints.of_get at18
      clear i22
      have i22 := Ints.of_get at22
      clear u1 u2 u3 u4 u5 d0 d1 d2 d3 d4 d5 d6 d7 d8
      have u1 := i21.2 (m.s.tgt.getD k 0).toNat (by omega)
      have u2 := i31.2 k (by omega)
      have u3 := u2.2 (m.s.src.getD k 0).toNat (by omega)
      have u4 := i41.2 k (by omega)
      have u5 := u4.2 (m.s.tgt.getD k 0).toNat (by omega)
      obtain ⟨d0, d1, d2, d3, d4, d5, d6, d7, d8⟩ := fs1.get
      obtain ⟨ht, hK⟩ := hI
      refine .seq (fun K17 hK17 => ?_)
      refine .region ?_
      refine .m rfl rfl rfl (.cmp rfl rfl rfl) ?_
      refine .nil ?_
      refine hK17 _ _ ?_
      refine .seq (fun K18 hK18 => ?_)
      refine .cond rfl (fun h55 => ?_) (fun h55 => ?_)
      ·
       simp only [sps] at h55
       have q17 := q15 t (by omega)
       have q18 := q16 t (by omega)
       have q19 := (hz.diag he (i := (m.s.src.getD k 0).toNat) (by omega)).2
       have q20 := (hz.diag he (i := (m.s.tgt.getD k 0).toNat) (by omega)).2
       have q21 := Prof.place_lt hz he (x := (m.s.src.getD k 0).toNat) (by omega) q17.1 q17.2
       have q24 := Prof.place_lt hz he (x := (m.s.tgt.getD k 0).toNat) (by omega) q18.1 q18.2
       have q22 := m.firsts_get (n := m.sz.length) (i := (m.s.src.getD k 0).toNat) (by omega)
       have q23 := m.firsts_get (n := m.sz.length) (i := (m.s.tgt.getD k 0).toNat) (by omega)
       refine .skip ?_
       refine hK18 _ _ ?_
       refine .seq (fun K19 hK19 => ?_)
       refine .block ?_
       refine .seq (fun K20 hK20 => ?_)
       refine .region ?_
       refine .m rfl rfl rfl (.move rfl) ?_
       refine .m rfl rfl rfl (.assign rfl) ?_
       refine .nil ?_
       refine hK20 _ _ ?_
       refine .regionD mixed_orders_B (.q 0 (.q 1 (.q 2 (.q 3 (.q 4 (.q 5 (.q 6 (.q 7 (.q 8 (.q 9 (.q 10 (.q 11 (.q 12 (.q 13 (.q 14 (.q 15 (.q 16 (.q 17 (.q 18 (.q 19 (.q 20 (.q 21 (.q 22 (.q 23 (.q 24 (.q 25 (.q 26 (.q 27 (.q 28 (.q 29 (.q 30 (.q 31 (.q 32 (.c 33 0 (.done))))))))))))))))))))))))))))))))))) (by kernel_rfl) ?_
       refine .m rfl rfl rfl rfl (.refl _) (.move rfl) ?_
       refine .m rfl rfl rfl rfl (.refl _) (.move rfl) ?_
       refine .m rfl rfl rfl rfl (.refl _) (.move rfl) ?_
       refine .m rfl rfl rfl rfl (.refl _) (.idx1 sl_22_A (by assumption) rfl rfl (by omega) (by omega)) ?_
       refine .m rfl rfl rfl rfl (.refl _) (.loadI on_2_A (by assumption) rfl (by omega)) ?_
       refine .m rfl rfl rfl rfl (.refl _) (.fieldAddr fo_34_3_VProf rfl) ?_
       refine .m rfl rfl rfl rfl (.refl _) (.load on_26_VProf rfl (by assumption)) ?_
       refine .m rfl rfl rfl rfl (.refl _) (.move rfl) ?_
       refine .m rfl rfl rfl rfl (.refl _) (.idxN sl_26_VZ (Intsss.sl (by assumption)) rfl rfl (by omega)) ?_
       refine .m rfl rfl rfl rfl (.refl _) (.loadRR on_23_B (by assumption) rfl (by omega)) ?_
       refine .m rfl rfl rfl rfl (.refl _) (.move rfl) ?_
       refine .m rfl rfl rfl rfl (.refl _) (.idx1 sl_23_B (Intss.sl (by assumption)) rfl rfl (by omega) (by omega)) ?_
       refine .m rfl rfl rfl rfl (.refl _) (.loadR on_22_B (by assumption) rfl (by omega)) ?_
       refine .m rfl rfl rfl rfl (.refl _) (.move rfl) ?_
       refine .m rfl rfl rfl rfl (.refl _) (.idxN sl_22_A (by assumption) rfl rfl (by omega)) ?_
       refine .m rfl rfl rfl rfl (.refl _) (.loadI on_2_A (by assumption) rfl (by omega)) ?_
       refine .m rfl rfl rfl rfl (.refl _) (.add rfl rfl rfl (by omega) (by omega)) ?_
       refine .m rfl rfl rfl rfl (.refl _) (.move rfl) ?_
       refine .m rfl rfl rfl rfl (.refl _) (.move rfl) ?_
       refine .m rfl rfl rfl rfl (.refl _) (.idx1 sl_22_A (by assumption) rfl rfl (by omega) (by omega)) ?_
       refine .m rfl rfl rfl rfl (.refl _) (.loadI on_2_A (by assumption) rfl (by omega)) ?_
       refine .m rfl rfl rfl rfl (.refl _) (.fieldAddr fo_34_4_VProf rfl) ?_
       refine .m rfl rfl rfl rfl (.refl _) (.load on_26_VProf rfl (by assumption)) ?_
       refine .m rfl rfl rfl rfl (.refl _) (.move rfl) ?_
       refine .m rfl rfl rfl rfl (.refl _) (.idxN sl_26_VZ (Intsss.sl (by assumption)) rfl rfl (by omega)) ?_
       refine .m rfl rfl rfl rfl (.refl _) (.loadRR on_23_B (by assumption) rfl (by omega)) ?_
       refine .m rfl rfl rfl rfl (.refl _) (.move rfl) ?_
       refine .m rfl rfl rfl rfl (.refl _) (.idx1 sl_23_B (Intss.sl (by assumption)) rfl rfl (by omega) (by omega)) ?_
       refine .m rfl rfl rfl rfl (.refl _) (.loadR on_22_B (by assumption) rfl (by omega)) ?_
       refine .m rfl rfl rfl rfl (.refl _) (.move rfl) ?_
       refine .m rfl rfl rfl rfl (.refl _) (.idxN sl_22_A (by assumption) rfl rfl (by omega)) ?_
       refine .m rfl rfl rfl rfl (.refl _) (.loadI on_2_A (by assumption) rfl (by omega)) ?_
       refine .m rfl rfl rfl rfl (.refl _) (.add rfl rfl rfl (by omega) (by omega)) ?_
       refine .call0 rfl rfl rfl rfl rfl @Try.call34 rfl (join_c) ?_
       rintro _ H90 ⟨⟨b90, rfl⟩, st90, js90, at90, hK90⟩
       have nx_H90 := st90.nx
       replace hle := hle.st st90 (fun k hk => ⟨by omega, trivial⟩)
       replace lst1 := lst1.st st90 (fun k hk ho => by simp only [out, and_true] at ho ⊢ <;> omega)
       replace lst2 := lst2.st st90 (fun k hk ho => by simp only [out, and_true] at ho ⊢ <;> omega)
       replace at1 := st90.same _ _ ⟨by omega, trivial⟩ at1
       replace at18 := st90.same _ _ ⟨by omega, trivial⟩ at18
       have lt_at90 := GHeap.lt_of_get at90
       replace hin := base_hin.mono hle
       clear hb1 fs1 ft1 c101 c111 c121 i21 i31 i41 hm1 hi1 hms1 his1 hmt1 hit1
       have hb1 : Prof.At _ g1 0 m p := ⟨Mem.of_get at1, hin⟩
       obtain ⟨fs1, ft1, c101, c111, c121, i21, i31, i41⟩ := hb1.get
       have hm1 : MemN _ _ _ _ _ := ⟨rfl, hb1.1⟩
       have hi1 := hb1.2
       have hms1 : MemN _ _ _ _ _ := ⟨rfl, fs1.1⟩
       have his1 := fs1.2
       have hmt1 : MemN _ _ _ _ _ := ⟨rfl, ft1.1⟩
       have hit1 := ft1.2
       clear i18
       have i18 := Ints.of_get at18
       clear i22
       have i22 := Ints.of_get at22
       clear u1 u2 u3 u4 u5 d0 d1 d2 d3 d4 d5 d6 d7 d8
       have u1 := i21.2 (m.s.tgt.getD k 0).toNat (by omega)
       have u2 := i31.2 k (by omega)
       have u3 := u2.2 (m.s.src.getD k 0).toNat (by omega)
       have u4 := i41.2 k (by omega)
       have u5 := u4.2 (m.s.tgt.getD k 0).toNat (by omega)
       obtain ⟨d0, d1, d2, d3, d4, d5, d6, d7, d8⟩ := fs1.get
       refine .done ?_
       refine hK19 _ _ ?_
       refine .region ?_
       refine .m rfl rfl rfl (.add rfl rfl rfl (by omega) (by omega)) ?_
       refine .m rfl rfl rfl (.move rfl) ?_
       refine .nil ?_
       refine hKL2 ((t + 1, js90)) _ _ ?_ ?_ ⟨rfl, rfl, rfl, rfl, rfl, rfl, rfl, rfl, rfl, rfl, rfl, trivial⟩
       ·
        refine ⟨lst2, by assumption, ?_⟩
        rw [q22, q23] at hK90
        exact ⟨by omega, by rw [m.coP_snoc, joinK_snoc]; exact hK90⟩
       ·
        (dsimp only; omega)
      ·
       try simp only [sps] at h55
       refine .exit ?_
       refine hK13 _ _ ?_
       refine .region ?_
       refine .m rfl rfl rfl (.add rfl rfl rfl (by omega) (by omega)) ?_
       refine .m rfl rfl rfl (.move rfl) ?_
       refine .nil ?_
       refine hKL1 ((k + 1, ks)) _ _ ?_ ?_ ⟨rfl, rfl, rfl, rfl, rfl, rfl, trivial⟩
       ·
        refine ⟨lst1, by assumption, ?_⟩
        obtain rfl : t = m.coSz k := by omega
        exact ⟨by omega, by rw [m.coP_next]; exact hK⟩
       ·
        (dsimp only; omega)
    ·
     try simp only [sps] at h30
     refine .exit ?_
     refine hK9 _ _ ?_
     refine .seq (fun K21 hK21 => ?_)
     refine .region ?_
     refine .m rfl rfl rfl (.move rfl) ?_
     refine .call rfl rfl rfl rfl @Try.call35 rfl (partition_c) ?_
     rintro _ H94 ⟨g94, rfl, st94, ge94, at94⟩
     have nx_H94 := st94.nx
     replace hle := hle.st st94 (fun k hk => ⟨by omega, trivial⟩)
     replace lst1 := lst1.st st94 (fun k hk ho => by simp only [out, and_true] at ho ⊢ <;> omega)
     replace at1 := st94.same _ _ ⟨by omega, trivial⟩ at1
     replace at18 := st94.same _ _ ⟨by omega, trivial⟩ at18
     have lt_at94 := GHeap.lt_of_get at94
     replace hin := base_hin.mono hle
     clear hb1 fs1 ft1 c101 c111 c121 i21 i31 i41 hm1 hi1 hms1 his1 hmt1 hit1
     have hb1 : Prof.At _ g1 0 m p := ⟨Mem.of_get at1, hin⟩
     obtain ⟨fs1, ft1, c101, c111, c121, i21, i31, i41⟩ := hb1.get
     have hm1 : MemN _ _ _ _ _ := ⟨rfl, hb1.1⟩
     have hi1 := hb1.2
     have hms1 : MemN _ _ _ _ _ := ⟨rfl, fs1.1⟩
     have his1 := fs1.2
     have hmt1 : MemN _ _ _ _ _ := ⟨rfl, ft1.1⟩
     have hit1 := ft1.2
     clear i18
     have i18 := Ints.of_get at18
     clear i22
     have i22 := Ints.of_get at22
     refine .m rfl rfl rfl (.assign rfl) ?_
     refine .m rfl rfl rfl (.assign rfl) ?_
     refine .nil ?_
     refine hK21 _ _ ?_
     refine .ret ?_
     -- leaf e2
     refine hret _ _ ?_
     refine ⟨_, _, rfl, rfl, ?_⟩
     first
     | (rw [Prof.coendR_not h15]; exact ⟨hle, none, rfl, .inl ⟨rfl, rfl⟩⟩)
     | (obtain rfl : k = m.s.src.length := by omega
        rw [Prof.coendR_ok h15, h15]
        have e1 : m.coend = clsL (joinK (m.coP m.s.src.length 0)) (numsL (sumN m.diag m.sz.length).toNat).length := by rw [hnl]; rfl
        rw [e1]
        exact ⟨hle, _, by rw [length_clsL], IntsR.of_at at94 (by omega)⟩)
end Go.Proofs.Ytkcpjflhjghapaa
/- Marks on profunctors. No condition. -/
namespace Go.GL
def sumL3 : List (List (List Int)) → Nat
  | [] => 0
  | xs :: r => sumL xs + sumL3 r
theorem sumL3_take_succ {x : List (List (List Int))} {k : Nat} (h : k < x.length) : sumL3 (x.take (k + 1)) = sumL3 (x.take k) + sumL (x.getD k []) := by
  induction x generalizing k with
  | nil => simp at h
  | cons y r ih =>
    cases k with
    | zero => simp [sumL3]
    | succ k =>
      have := ih (k := k) (by simpa using h)
      simp only [List.take_succ_cons, sumL3, List.getD_cons_succ]
      omega
theorem sumL3_take_le {x : List (List (List Int))} {k : Nat} : sumL3 (x.take k) ≤ sumL3 x := by
  induction x generalizing k with
  | nil => simp
  | cons y r ih =>
    cases k with
    | zero => simp [sumL3]
    | succ k => simp only [List.take_succ_cons, sumL3]; have := ih (k := k); omega
theorem sumL3_le {m : Nat} : ∀ {x : List (List (List Int))}, (∀ i, sumL (x.getD i []) ≤ m) → sumL3 x ≤ x.length * m
  | [], _ => by simp [sumL3]
  | y :: r, h => by
    have h0 := h 0
    have := sumL3_le (x := r) fun i => by simpa using h (i + 1)
    simp only [sumL3, List.length_cons, Nat.add_mul]
    simp at h0
    omega
theorem sumL3_tot {x : List (List (List Int))} (h : Sm3 x) : sumL3 x ≤ 1048576 * (1048576 * 1048576) := by
  have := sumL3_le (m := 1048576 * 1048576) (x := x) fun i => sumL_tot (h.2 i).1 (h.2 i).2
  exact Nat.le_trans this (Nat.mul_le_mul_right _ h.1)
def rows3L (r : Nat → Nat → Option Addr) (x : List (List (List Int))) (n : Nat) : List Leaf := (List.range n).flatMap fun i => rowsL (r i) (x.getD i []) (x.getD i []).length
theorem rows3L_succ (r : Nat → Nat → Option Addr) (x : List (List (List Int))) (n : Nat) : rows3L r x (n + 1) = rows3L r x n ++ rowsL (r n) (x.getD n []) (x.getD n []).length := by simp [rows3L, List.range_succ]
theorem lvSum_rowsL_all (r : Nat → Option Addr) (xss : List (List Int)) : lvSum (rowsL r xss xss.length) = sumL xss := by rw [lvSum_rowsL r xss _ (Nat.le_refl _), List.take_length]
theorem lvSum_rows3L (r : Nat → Nat → Option Addr) (x : List (List (List Int))) : ∀ n, n ≤ x.length → lvSum (rows3L r x n) = sumL3 (x.take n)
  | 0, _ => by simp [rows3L, lvSum, sumL3]
  | n + 1, h => by rw [rows3L_succ, lvSum_append, lvSum_rows3L r x n (by omega), sumL3_take_succ (by omega), lvSum_rowsL_all]
def IntsssW (lo hi : Nat) (H : GHeap) (a : Option Addr) (x : List (List (List Int))) (r : Nat → Option Addr) (s : Nat → Nat → Option Addr) : Prop :=
  SlA H a x.length (fun i => .slice (r i) (x.getD i []).length (x.getD i []).length) ∧ (∀ i, i < x.length → IntssW lo hi H (r i) (x.getD i []) (s i)) ∧ HdGe lo a x.length
theorem IntsssW.stm {lo hi : Nat} {H H' : GHeap} {a : Option Addr} {x : List (List (List Int))} {r : Nat → Option Addr} {q : Nat → Nat → Option Addr} (h : IntsssW lo hi H a x r q) (s : StM lo hi H H') : IntsssW lo hi H' a x r q :=
  ⟨h.1.stm s fun i m e => (by cases e), fun i hi => (h.2.1 i hi).stm s, h.2.2⟩
theorem IntsssW.keep {lo lo' hi : Nat} {H H' : GHeap} {a : Option Addr} {x : List (List (List Int))} {r : Nat → Option Addr} {q : Nat → Nat → Option Addr} (h : IntsssW lo hi H a x r q) (k : Keep lo' H H') (hb : lo' ≤ lo) : IntsssW lo hi H' a x r q := ⟨h.1.keep h.2.2 k hb, fun i hi => (h.2.1 i hi).keep k hb, h.2.2⟩
theorem IntsssW.of_at {b : Nat} {H0 H : GHeap} {a : Option Addr} {x : List (List (List Int))} {r : Nat → Option Addr} {q : Nat → Nat → Option Addr} (h : IntsssAt b H0 a x r q) (k : Keep b H0 H) : IntsssW b H0.next H a x r q :=
  ⟨(h.keep k (Nat.le_refl _)).intsss.1, fun i hi => by obtain ⟨g, e, cs, _, _, _, _, _, h6⟩ := h; exact .of_at (h6 i hi) k, by obtain ⟨g, e, cs, h1, h2, _⟩ := h; exact .inr ⟨g, 0, h1, h2⟩⟩
def Prof.total (f : Prof) : Nat := f.s.total + (f.t.total + (sumL f.sz + (sumL3 f.be + sumL3 f.bh)))
def ProfW (lo hi : Nat) (H : GHeap) (f : Prof) (p : ProfP) : Prop := CatW lo hi H f.s p.s ∧ CatW lo hi H f.t p.t ∧ IntssW lo hi H p.a2 f.sz p.r2 ∧ IntsssW lo hi H p.a3 f.be p.r3 p.s3 ∧ IntsssW lo hi H p.a4 f.bh p.r4 p.s4
theorem ProfW.stm {lo hi : Nat} {H H' : GHeap} {c : Prof} {p : ProfP} (h : ProfW lo hi H c p) (s : StM lo hi H H') : ProfW lo hi H' c p := ⟨h.1.stm s, h.2.1.stm s, h.2.2.1.stm s, h.2.2.2.1.stm s, h.2.2.2.2.stm s⟩
theorem ProfW.keep {lo lo' hi : Nat} {H H' : GHeap} {c : Prof} {p : ProfP} (h : ProfW lo hi H c p) (k : Keep lo' H H') (hb : lo' ≤ lo) : ProfW lo hi H' c p := ⟨h.1.keep k hb, h.2.1.keep k hb, h.2.2.1.keep k hb, h.2.2.2.1.keep k hb, h.2.2.2.2.keep k hb⟩
theorem ProfW.of_at {b : Nat} {H0 H : GHeap} {c : Prof} {p : ProfP} (h : ProfAt b H0 c p) (k : Keep b H0 H) : ProfW b H0.next H c p := ⟨.of_at h.1 k, .of_at h.2.1 k, .of_at h.2.2.1 k, .of_at h.2.2.2.1 k, .of_at h.2.2.2.2 k⟩
def Prof.leaves (f : Prof) (p : ProfP) : List Leaf := f.s.leaves p.s ++ (f.t.leaves p.t ++ (rowsL p.r2 f.sz f.sz.length ++ (rows3L p.s3 f.be f.be.length ++ rows3L p.s4 f.bh f.bh.length)))
theorem Prof.Small.tot {c : Prof} (h : c.Small) : c.total ≤ 8 * 1048576 + 4 * 1048576 * 1048576 + 2 * (1048576 * (1048576 * 1048576)) := by
  obtain ⟨h1, h2, h3, h4, h5⟩ := h
  have := h1.tot
  have := h2.tot
  have := sumL_tot h3.1 h3.2
  have := sumL3_tot h4
  have := sumL3_tot h5
  unfold Prof.total
  omega
end Go.GL
/- Marks on profunctors. No condition but those of each statement. -/
namespace Go.Proofs.Ytkcpjflhjghapaa
open Go Go.GL Go.RowKit Go.Proofs
theorem markInt64SSS_c {a : Option Addr} {x : List (List (List Int))} {r : Nat → Option Addr} {s : Nat → Nat → Option Addr} {lo hi : Nat} {k : Int} {H : GHeap} (h : IntsssW lo hi H a x r s := by assumption) (hm : Sm3 x := by assumption) (hk : 0 ≤ k := by omega) (hk' : k + sumL3 x ≤ 4611686018427387904 := by omega) :
    GCalls Try.prog 39 [.slice a x.length x.length, .int .i64 k] H (fun v H' => v = .int .i64 (k + sumL3 x) ∧ Marked lo hi H H' (rows3L s x x.length) k) := by
  obtain ⟨hl, hm2⟩ := hm
  refine GCalls.body (N := 19) (rs := [.tmp 4]) Try.func39 rfl rfl rfl rfl (fun Qx hret hend => ?_)
  refine .forget (fr' := [(0, some _), (1, some _)]) ⟨rfl, rfl, trivial⟩ ?_
  refine .seq (fun K1 hK1 => ?_)
  refine .region ?_
  refine .m rfl rfl rfl (.assign rfl) ?_
  refine .nil ?_
  refine hK1 _ _ ?_
  refine .seq (fun K2 hK2 => ?_)
  refine .seq (fun K3 hK3 => ?_)
  refine .region ?_
  refine .m rfl rfl rfl (.assign rfl) ?_
  refine .nil ?_
  refine hK3 _ _ ?_
  refine .block ?_
  refine .loopR (σ := Nat × Int) [(0, some _)] (fun (i, q) => [(5, some (.int .i64 (i : Int))), (1, some (.int .i64 q))]) (fun (i, q) H' => i ≤ x.length ∧ q = k + sumL3 (x.take i) ∧ Marked lo hi H H' (rows3L s x i) k) (fun (i, q) => x.length - i) ((0, k)) ⟨rfl, trivial⟩ ⟨rfl, rfl, trivial⟩ ?_ ?_
  ·
   exact ⟨by omega, by simp [sumL3], .nil _ _ _ _⟩
  ·
   rintro ⟨i, q⟩ H' hI KL1 hKL1
   refine .forget (fr' := [(5, some (.int .i64 (i : Int))), (1, some (.int .i64 q)), (0, some _)]) ⟨rfl, rfl, rfl, trivial⟩ ?_
   obtain ⟨hi', hq, hmk⟩ := hI
   have hw := h.stm hmk.stm
   have hsl := hw.1
   have hle1 := sumL3_take_le (x := x) (k := i + 1)
   refine .seq (fun K4 hK4 => ?_)
   refine .seq (fun K5 hK5 => ?_)
   refine .region ?_
   refine .m rfl rfl rfl (.move rfl) ?_
   refine .m rfl rfl rfl (.move rfl) ?_
   refine .m rfl rfl rfl (.len sl_26_VZ rfl) ?_
   refine .m rfl rfl rfl (.cmp rfl rfl rfl) ?_
   refine .nil ?_
   refine hK5 _ _ ?_
   refine .cond rfl (fun h9 => ?_) (fun h9 => ?_)
   ·
    simp only [sps] at h9
    have hts := sumL3_take_succ (x := x) (k := i) (by omega)
    refine .skip ?_
    refine hK4 _ _ ?_
    refine .seq (fun K6 hK6 => ?_)
    refine .block ?_
    refine .region ?_
    refine .m rfl rfl rfl (.move rfl) ?_
    refine .m rfl rfl rfl (.move rfl) ?_
    refine .m rfl rfl rfl (.idxN sl_26_VZ hsl rfl rfl (by omega)) ?_
    refine .m rfl rfl rfl (.loadE on_23_B hsl rfl (by omega)) ?_
    refine .m rfl rfl rfl (.move rfl) ?_
    refine .call rfl rfl rfl rfl @Try.call21 rfl (markInt64SS_c (hw.2.1 i (by omega)) (by omega) (by omega) (hm2 i).1) ?_
    rintro _ H17 ⟨rfl, mk17⟩
    refine .m rfl rfl rfl (.assign rfl) ?_
    refine .nil ?_
    refine hK6 _ _ ?_
    refine .region ?_
    refine .m rfl rfl rfl (.move rfl) ?_
    refine .m rfl rfl rfl (.add rfl rfl rfl (by omega) (by omega)) ?_
    refine .m rfl rfl rfl (.assign rfl) ?_
    refine .nil ?_
    refine hKL1 ((i + 1, _)) _ _ ?_ ?_ ⟨rfl, rfl, rfl, trivial⟩
    ·
     exact ⟨by omega, by rw [sumL3_take_succ (by omega)]; omega, by rw [rows3L_succ]; exact hmk.app' mk17 (by rw [lvSum_rows3L _ _ _ (by omega)]; omega)⟩
    ·
     (dsimp only; omega)
   ·
    try simp only [sps] at h9
    refine .exit ?_
    refine hK2 _ _ ?_
    refine .seq (fun K7 hK7 => ?_)
    refine .region ?_
    refine .m rfl rfl rfl (.move rfl) ?_
    refine .m rfl rfl rfl (.assign rfl) ?_
    refine .nil ?_
    refine hK7 _ _ ?_
    refine .ret ?_
    -- leaf e1
    refine hret _ _ ?_
    refine ⟨_, rfl, ?_⟩
    obtain rfl : i = x.length := by omega
    exact ⟨by rw [hq, List.take_length], hmk⟩
theorem markProfunctor_c {c : Prof} {p : ProfP} {lo hi : Nat} {k : Int} {H : GHeap} (w : ProfW lo hi H c p := by assumption) (hs : c.Small := by assumption) (hk : 0 ≤ k := by omega) (hk' : k + c.total ≤ 4611686018427387904 := by omega) (hhi : hi ≤ H.next := by omega) :
    GCalls Try.prog 11 [.agg (c.cells p).toArray, .int .i64 k] H (fun v H' => v = .int .i64 (k + c.total) ∧ Marked lo hi H H' (c.leaves p) k) := by
  obtain ⟨w1, w2, w3, w4, w5⟩ := w
  have ht : c.total = c.s.total + (c.t.total + (sumL c.sz + (sumL3 c.be + sumL3 c.bh))) := rfl
  obtain ⟨s1, s2, s3, s4, s5⟩ := hs
  obtain ⟨s31, s32⟩ := s3
  refine GCalls.body (N := 26) (rs := [.tmp 4]) Try.func11 rfl rfl rfl rfl (fun Qx hret hend => ?_)
  refine .forget (fr' := [(0, some _), (1, some _)]) ⟨rfl, rfl, trivial⟩ ?_
  refine .seq (fun K1 hK1 => ?_)
  refine .region ?_
  refine .r rfl rfl rfl (.boxR rfl sz_34_VProf rfl) ?_
  rintro _ H2 ⟨g2, rfl, le2, ge2, at2⟩
  have nx_H2 := le2.1
  have lt_at2 := GHeap.lt_of_get at2
  have mm2 : MemN _ _ _ _ _ := ⟨rfl, Mem.of_get at2⟩
  replace w1 := w1.stm (.of_le le2)
  replace w2 := w2.stm (.of_le le2)
  replace w3 := w3.stm (.of_le le2)
  replace w4 := w4.stm (.of_le le2)
  replace w5 := w5.stm (.of_le le2)
  refine .m rfl rfl rfl (.assign rfl) ?_
  refine .nil ?_
  refine hK1 _ _ ?_
  refine .seq (fun K2 hK2 => ?_)
  refine .region ?_
  have hx : Mem H2 g2 0 (c.s.cells p.s ++ (c.t.cells p.t ++ [.slice p.a2 c.sz.length c.sz.length, .slice p.a3 c.be.length c.be.length, .slice p.a4 c.bh.length c.bh.length])) := Mem.of_get at2
  have m1 : MemN H2 g2 (0 + 0) 5 (c.s.cells p.s) := ⟨rfl, hx.left⟩
  refine .m rfl rfl rfl (.fieldAddr fo_34_0_VProf rfl) ?_
  refine .m rfl rfl rfl (.loadM ag_32_D rfl (by assumption)) ?_
  refine .m rfl rfl rfl (.move rfl) ?_
  refine .call rfl rfl rfl rfl @Try.call38 rfl (markCategory_c) ?_
  rintro _ H8 ⟨rfl, mk8⟩
  have sm8 := mk8.stm
  have nx_H8 := sm8.nx
  replace at2 := sm8.same _ _ (by omega) at2
  replace w1 := w1.stm sm8
  replace w2 := w2.stm sm8
  replace w3 := w3.stm sm8
  replace w4 := w4.stm sm8
  replace w5 := w5.stm sm8
  clear mm2
  have mm2 : MemN _ _ _ _ _ := ⟨rfl, Mem.of_get at2⟩
  refine .m rfl rfl rfl (.assign rfl) ?_
  refine .nil ?_
  refine hK2 _ _ ?_
  refine .seq (fun K3 hK3 => ?_)
  refine .region ?_
  have hx : Mem H8 g2 0 (c.s.cells p.s ++ (c.t.cells p.t ++ [.slice p.a2 c.sz.length c.sz.length, .slice p.a3 c.be.length c.be.length, .slice p.a4 c.bh.length c.bh.length])) := Mem.of_get at2
  have m2 : MemN H8 g2 (0 + 5) 5 (c.t.cells p.t) := ⟨rfl, (hx.right (n := 5) rfl).left⟩
  refine .m rfl rfl rfl (.fieldAddr fo_34_1_VProf rfl) ?_
  refine .m rfl rfl rfl (.loadM ag_32_D rfl (by assumption)) ?_
  refine .m rfl rfl rfl (.move rfl) ?_
  refine .call rfl rfl rfl rfl @Try.call38 rfl (markCategory_c) ?_
  rintro _ H12 ⟨rfl, mk12⟩
  have sm12 := mk12.stm
  have nx_H12 := sm12.nx
  replace at2 := sm12.same _ _ (by omega) at2
  replace w1 := w1.stm sm12
  replace w2 := w2.stm sm12
  replace w3 := w3.stm sm12
  replace w4 := w4.stm sm12
  replace w5 := w5.stm sm12
  clear mm2
  have mm2 : MemN _ _ _ _ _ := ⟨rfl, Mem.of_get at2⟩
  refine .m rfl rfl rfl (.assign rfl) ?_
  refine .nil ?_
  refine hK3 _ _ ?_
  refine .seq (fun K4 hK4 => ?_)
  refine .region ?_
  have c1 : H12.cell g2 (0 + 10) = some (.slice p.a2 c.sz.length c.sz.length) := Mem.of_get at2 10 _ rfl
  refine .m rfl rfl rfl (.fieldAddr fo_34_2_VProf rfl) ?_
  refine .m rfl rfl rfl (.load on_23_B rfl (by assumption)) ?_
  refine .m rfl rfl rfl (.move rfl) ?_
  refine .call rfl rfl rfl rfl @Try.call21 rfl (markInt64SS_c) ?_
  rintro _ H16 ⟨rfl, mk16⟩
  have sm16 := mk16.stm
  have nx_H16 := sm16.nx
  replace at2 := sm16.same _ _ (by omega) at2
  replace w1 := w1.stm sm16
  replace w2 := w2.stm sm16
  replace w3 := w3.stm sm16
  replace w4 := w4.stm sm16
  replace w5 := w5.stm sm16
  clear mm2
  have mm2 : MemN _ _ _ _ _ := ⟨rfl, Mem.of_get at2⟩
  refine .m rfl rfl rfl (.assign rfl) ?_
  refine .nil ?_
  refine hK4 _ _ ?_
  refine .seq (fun K5 hK5 => ?_)
  refine .region ?_
  have c1 : H16.cell g2 (0 + 11) = some (.slice p.a3 c.be.length c.be.length) := Mem.of_get at2 11 _ rfl
  refine .m rfl rfl rfl (.fieldAddr fo_34_3_VProf rfl) ?_
  refine .m rfl rfl rfl (.load on_26_VProf rfl (by assumption)) ?_
  refine .m rfl rfl rfl (.move rfl) ?_
  refine .call rfl rfl rfl rfl @Try.call39 rfl (markInt64SSS_c) ?_
  rintro _ H20 ⟨rfl, mk20⟩
  have sm20 := mk20.stm
  have nx_H20 := sm20.nx
  replace at2 := sm20.same _ _ (by omega) at2
  replace w1 := w1.stm sm20
  replace w2 := w2.stm sm20
  replace w3 := w3.stm sm20
  replace w4 := w4.stm sm20
  replace w5 := w5.stm sm20
  clear mm2
  have mm2 : MemN _ _ _ _ _ := ⟨rfl, Mem.of_get at2⟩
  refine .m rfl rfl rfl (.assign rfl) ?_
  refine .nil ?_
  refine hK5 _ _ ?_
  refine .seq (fun K6 hK6 => ?_)
  refine .region ?_
  have c1 : H20.cell g2 (0 + 12) = some (.slice p.a4 c.bh.length c.bh.length) := Mem.of_get at2 12 _ rfl
  refine .m rfl rfl rfl (.fieldAddr fo_34_4_VProf rfl) ?_
  refine .m rfl rfl rfl (.load on_26_VProf rfl (by assumption)) ?_
  refine .m rfl rfl rfl (.move rfl) ?_
  refine .call rfl rfl rfl rfl @Try.call39 rfl (markInt64SSS_c) ?_
  rintro _ H24 ⟨rfl, mk24⟩
  have sm24 := mk24.stm
  have nx_H24 := sm24.nx
  replace at2 := sm24.same _ _ (by omega) at2
  replace w1 := w1.stm sm24
  replace w2 := w2.stm sm24
  replace w3 := w3.stm sm24
  replace w4 := w4.stm sm24
  replace w5 := w5.stm sm24
  clear mm2
  have mm2 : MemN _ _ _ _ _ := ⟨rfl, Mem.of_get at2⟩
  refine .m rfl rfl rfl (.assign rfl) ?_
  refine .nil ?_
  refine hK6 _ _ ?_
  refine .seq (fun K7 hK7 => ?_)
  refine .region ?_
  refine .m rfl rfl rfl (.move rfl) ?_
  refine .m rfl rfl rfl (.assign rfl) ?_
  refine .nil ?_
  refine hK7 _ _ ?_
  refine .ret ?_
  -- leaf e1
  refine hret _ _ ?_
  refine ⟨_, rfl, ?_⟩
  refine ⟨by rw [ht]; congr 1; omega, .le_left le2 (mk8.app' (mk12.app' (mk16.app' (mk20.app' mk24 ?_) ?_) ?_) ?_)⟩
  · rw [lvSum_rows3L _ _ _ (Nat.le_refl _), List.take_length]
  · rw [lvSum_rowsL_all]
  · rw [Cat.lvSum_leaves]
  · rw [Cat.lvSum_leaves]
end Go.Proofs.Ytkcpjflhjghapaa
/- The law of CoendOf. No condition but those of each statement. -/
namespace Go.Proofs.Ytkcpjflhjghapaa
open Go Go.GL Go.RowKit Go.Proofs
theorem ag_28_LCoendOf : aggT Try.prog 28 = some 13 := by kernel_rfl
set_option maxHeartbeats 40000000 in
theorem lawCoendOf_c {m : Prof} {p : ProfP} {H : GHeap} (h0 : m.In H p) (w0 : m.Wide) :
    GCalls Try.prog 3 [.agg (m.cells p).toArray] H (fun v _ => v = .bool true) := by
  refine GCalls.body (N := 96) (rs := [.tmp 2]) Try.func3 rfl rfl rfl rfl (fun Qx hret hend => ?_)
  refine .forget (fr' := [(0, some _)]) ⟨rfl, trivial⟩ ?_
  have hle := GHeap.Le.refl H
  have base_h0 := h0
  refine .seq (fun K1 hK1 => ?_)
  refine .region ?_
  refine .r rfl rfl rfl (.boxR rfl sz_28_VProf rfl) ?_
  rintro _ H1 ⟨g1, rfl, le1, ge1, at1⟩
  have nx_H1 := le1.1
  replace hle := hle.trans le1
  have lt_at1 := GHeap.lt_of_get at1
  replace h0 := base_h0.mono hle
  have hb1 : Prof.At _ g1 0 m p := ⟨Mem.of_get at1, h0⟩
  obtain ⟨fs1, ft1, c101, c111, c121, i21, i31, i41⟩ := hb1.get
  have hm1 : MemN _ _ _ _ _ := ⟨rfl, hb1.1⟩
  have hi1 := hb1.2
  have hms1 : MemN _ _ _ _ _ := ⟨rfl, fs1.1⟩
  have his1 := fs1.2
  have hmt1 : MemN _ _ _ _ _ := ⟨rfl, ft1.1⟩
  have hit1 := ft1.2
  refine .m rfl rfl rfl (.assign rfl) ?_
  refine .nil ?_
  refine hK1 _ _ ?_
  refine .seq (fun K2 hK2 => ?_)
  refine .region ?_
  refine .m rfl rfl rfl (.assign rfl) ?_
  refine .nil ?_
  refine hK2 _ _ ?_
  refine .seq (fun K3 hK3 => ?_)
  refine .region ?_
  refine .m rfl rfl rfl (.loadM ag_28_LCoendOf rfl ⟨rfl, Mem.of_get at1⟩) ?_
  refine .m rfl rfl rfl (.move rfl) ?_
  refine .call rfl rfl rfl rfl @Try.call5 rfl (szProfunctor_c) ?_
  rintro _ _ ⟨heq, lf16, rfl, z116, z216, z316⟩
  obtain rfl := heq.symm
  refine .m rfl rfl rfl (.assign rfl) ?_
  refine .nil ?_
  refine hK3 _ _ ?_
  refine .seq (fun K4 hK4 => ?_)
  refine .seq (fun K5 hK5 => ?_)
  refine .region ?_
  refine .m rfl rfl rfl (.move rfl) ?_
  refine .m rfl rfl rfl (.cmp rfl rfl rfl) ?_
  refine .nil ?_
  refine hK5 _ _ ?_
  refine .cond rfl (fun h18 => ?_) (fun h18 => ?_)
  ·
   try simp only [sps] at h18
   refine .seq (fun K6 hK6 => ?_)
   refine .region ?_
   refine .m rfl rfl rfl (.assign rfl) ?_
   refine .nil ?_
   refine hK6 _ _ ?_
   refine .ret ?_
   -- leaf e1
   refine hret _ _ ?_
   refine ⟨_, rfl, ?_⟩
   first
   | exact rfl
   | exact absurd trivial (by assumption)
   | contradiction
   | (exfalso; omega)
  ·
   simp only [sps] at h18
   have hcl := m.coendR_len
   have hsm16 := z316 (by omega)
   have tb16 := hsm16.tot
   refine .skip ?_
   refine hK4 _ _ ?_
   refine .seq (fun K7 hK7 => ?_)
   refine .region ?_
   refine .m rfl rfl rfl (.loadM ag_28_LCoendOf rfl ⟨rfl, Mem.of_get at1⟩) ?_
   refine .call rfl rfl rfl rfl @Try.call7 rfl (toProfunctor_c) ?_
   rintro _ H21 ⟨le21, p21, rfl, v21⟩
   have nx_H21 := le21.1
   replace hle := hle.trans le21
   replace at1 := le21.2 _ _ at1
   have bs_v21 := v21
   have lv_v21 : Keep H1.next H21 H21 := fun _ _ _ h => h
   replace h0 := base_h0.mono hle
   clear hb1 fs1 ft1 c101 c111 c121 i21 i31 i41 hm1 hi1 hms1 his1 hmt1 hit1
   have hb1 : Prof.At _ g1 0 m p := ⟨Mem.of_get at1, h0⟩
   obtain ⟨fs1, ft1, c101, c111, c121, i21, i31, i41⟩ := hb1.get
   have hm1 : MemN _ _ _ _ _ := ⟨rfl, hb1.1⟩
   have hi1 := hb1.2
   have hms1 : MemN _ _ _ _ _ := ⟨rfl, fs1.1⟩
   have his1 := fs1.2
   have hmt1 : MemN _ _ _ _ _ := ⟨rfl, ft1.1⟩
   have hit1 := ft1.2
   have i21 := v21.inn
   refine .call rfl rfl rfl rfl @Try.call6 rfl (specCoendOf_c) ?_
   rintro _ H22 ⟨le22, a22, rfl, v22⟩
   have nx_H22 := le22.1
   replace hle := hle.trans le22
   replace at1 := le22.2 _ _ at1
   replace lv_v21 := Keep.le lv_v21 le22
   replace v21 := bs_v21.keep lv_v21 (Nat.le_refl _)
   have bs_v22 := v22
   have lv_v22 : Keep H21.next H22 H22 := fun _ _ _ h => h
   replace h0 := base_h0.mono hle
   clear hb1 fs1 ft1 c101 c111 c121 i21 i31 i41 hm1 hi1 hms1 his1 hmt1 hit1
   have hb1 : Prof.At _ g1 0 m p := ⟨Mem.of_get at1, h0⟩
   obtain ⟨fs1, ft1, c101, c111, c121, i21, i31, i41⟩ := hb1.get
   have hm1 : MemN _ _ _ _ _ := ⟨rfl, hb1.1⟩
   have hi1 := hb1.2
   have hms1 : MemN _ _ _ _ _ := ⟨rfl, fs1.1⟩
   have his1 := fs1.2
   have hmt1 : MemN _ _ _ _ _ := ⟨rfl, ft1.1⟩
   have hit1 := ft1.2
   clear i21
   have i21 := v21.inn
   have i22 := v22.ints
   refine .m rfl rfl rfl (.move rfl) ?_
   refine .m rfl rfl rfl (.extract rfl rfl) ?_
   refine .m rfl rfl rfl (.extract rfl rfl) ?_
   refine .m rfl rfl rfl (.assign rfl) ?_
   refine .m rfl rfl rfl (.assign rfl) ?_
   refine .nil ?_
   refine hK7 _ _ ?_
   refine .seq (fun K8 hK8 => ?_)
   refine .region ?_
   refine .m rfl rfl rfl (.loadM ag_28_LCoendOf rfl ⟨rfl, Mem.of_get at1⟩) ?_
   refine .call rfl rfl rfl rfl @Try.call7 rfl (toProfunctor_c) ?_
   rintro _ H26 ⟨le26, p26, rfl, v26⟩
   have nx_H26 := le26.1
   replace hle := hle.trans le26
   replace at1 := le26.2 _ _ at1
   replace lv_v21 := Keep.le lv_v21 le26
   replace v21 := bs_v21.keep lv_v21 (Nat.le_refl _)
   replace lv_v22 := Keep.le lv_v22 le26
   replace v22 := bs_v22.keep lv_v22 (Nat.le_refl _)
   have bs_v26 := v26
   have lv_v26 : Keep H22.next H26 H26 := fun _ _ _ h => h
   replace h0 := base_h0.mono hle
   clear hb1 fs1 ft1 c101 c111 c121 i21 i31 i41 hm1 hi1 hms1 his1 hmt1 hit1
   have hb1 : Prof.At _ g1 0 m p := ⟨Mem.of_get at1, h0⟩
   obtain ⟨fs1, ft1, c101, c111, c121, i21, i31, i41⟩ := hb1.get
   have hm1 : MemN _ _ _ _ _ := ⟨rfl, hb1.1⟩
   have hi1 := hb1.2
   have hms1 : MemN _ _ _ _ _ := ⟨rfl, fs1.1⟩
   have his1 := fs1.2
   have hmt1 : MemN _ _ _ _ _ := ⟨rfl, ft1.1⟩
   have hit1 := ft1.2
   clear i21
   have i21 := v21.inn
   clear i22
   have i22 := v22.ints
   have i26 := v26.inn
   refine .r rfl rfl rfl (.allocR rfl ze_34_VProf rfl) ?_
   rintro _ H6 ⟨g6, rfl, le6, ge6, at6⟩
   have nx_H6 := le6.1
   replace hle := hle.trans le6
   replace at1 := le6.2 _ _ at1
   replace lv_v21 := Keep.le lv_v21 le6
   replace v21 := bs_v21.keep lv_v21 (Nat.le_refl _)
   replace lv_v22 := Keep.le lv_v22 le6
   replace v22 := bs_v22.keep lv_v22 (Nat.le_refl _)
   replace lv_v26 := Keep.le lv_v26 le6
   replace v26 := bs_v26.keep lv_v26 (Nat.le_refl _)
   have lt_at6 := GHeap.lt_of_get at6
   replace h0 := base_h0.mono hle
   clear hb1 fs1 ft1 c101 c111 c121 i21 i31 i41 hm1 hi1 hms1 his1 hmt1 hit1
   have hb1 : Prof.At _ g1 0 m p := ⟨Mem.of_get at1, h0⟩
   obtain ⟨fs1, ft1, c101, c111, c121, i21, i31, i41⟩ := hb1.get
   have hm1 : MemN _ _ _ _ _ := ⟨rfl, hb1.1⟩
   have hi1 := hb1.2
   have hms1 : MemN _ _ _ _ _ := ⟨rfl, fs1.1⟩
   have his1 := fs1.2
   have hmt1 : MemN _ _ _ _ _ := ⟨rfl, ft1.1⟩
   have hit1 := ft1.2
   clear i21
   have i21 := v21.inn
   clear i22
   have i22 := v22.ints
   clear i26
   have i26 := v26.inn
   refine .r0 rfl rfl (.fillR rfl sz_34_VProf rfl rfl rfl rfl (by assumption) (by first | rfl | exact Nat.le_of_ble_eq_true rfl | simp)) ?_
   rintro _ H6003 ⟨rfl, st6003, at6003⟩
   have nx_H6003 := st6003.nx
   replace hle := hle.st st6003 (fun k hk => ⟨by omega, trivial⟩)
   replace at1 := st6003.same _ _ ⟨by omega, trivial⟩ at1
   replace lv_v21 := Keep.st lv_v21 st6003 (fun k hb hk => ⟨by omega, trivial⟩)
   replace v21 := bs_v21.keep lv_v21 (Nat.le_refl _)
   replace lv_v22 := Keep.st lv_v22 st6003 (fun k hb hk => ⟨by omega, trivial⟩)
   replace v22 := bs_v22.keep lv_v22 (Nat.le_refl _)
   replace lv_v26 := Keep.st lv_v26 st6003 (fun k hb hk => ⟨by omega, trivial⟩)
   replace v26 := bs_v26.keep lv_v26 (Nat.le_refl _)
   have lt_at6003 := GHeap.lt_of_get at6003
   replace h0 := base_h0.mono hle
   clear hb1 fs1 ft1 c101 c111 c121 i21 i31 i41 hm1 hi1 hms1 his1 hmt1 hit1
   have hb1 : Prof.At _ g1 0 m p := ⟨Mem.of_get at1, h0⟩
   obtain ⟨fs1, ft1, c101, c111, c121, i21, i31, i41⟩ := hb1.get
   have hm1 : MemN _ _ _ _ _ := ⟨rfl, hb1.1⟩
   have hi1 := hb1.2
   have hms1 : MemN _ _ _ _ _ := ⟨rfl, fs1.1⟩
   have his1 := fs1.2
   have hmt1 : MemN _ _ _ _ _ := ⟨rfl, ft1.1⟩
   have hit1 := ft1.2
   clear i21
   have i21 := v21.inn
   clear i22
   have i22 := v22.ints
   clear i26
   have i26 := v26.inn
   have mm6003 : MemN _ _ _ _ _ := ⟨rfl, Mem.of_get at6003⟩
   refine .nil ?_
   refine hK8 _ _ ?_
   refine .seq (fun K9 hK9 => ?_)
   refine .region ?_
   refine .m rfl rfl rfl (.loadM ag_34_VProf rfl ⟨rfl, Mem.of_get at6003⟩) ?_
   refine .call rfl rfl rfl rfl @Try.call8 rfl (implCoendOf_c) ?_
   rintro _ H29 ⟨le29, a29, rfl, v29⟩
   have nx_H29 := le29.1
   replace hle := hle.trans le29
   replace at1 := le29.2 _ _ at1
   replace at6003 := le29.2 _ _ at6003
   replace lv_v21 := Keep.le lv_v21 le29
   replace v21 := bs_v21.keep lv_v21 (Nat.le_refl _)
   replace lv_v22 := Keep.le lv_v22 le29
   replace v22 := bs_v22.keep lv_v22 (Nat.le_refl _)
   replace lv_v26 := Keep.le lv_v26 le29
   replace v26 := bs_v26.keep lv_v26 (Nat.le_refl _)
   have bs_v29 := v29
   have lv_v29 : Keep H6003.next H29 H29 := fun _ _ _ h => h
   replace h0 := base_h0.mono hle
   clear hb1 fs1 ft1 c101 c111 c121 i21 i31 i41 hm1 hi1 hms1 his1 hmt1 hit1
   have hb1 : Prof.At _ g1 0 m p := ⟨Mem.of_get at1, h0⟩
   obtain ⟨fs1, ft1, c101, c111, c121, i21, i31, i41⟩ := hb1.get
   have hm1 : MemN _ _ _ _ _ := ⟨rfl, hb1.1⟩
   have hi1 := hb1.2
   have hms1 : MemN _ _ _ _ _ := ⟨rfl, fs1.1⟩
   have his1 := fs1.2
   have hmt1 : MemN _ _ _ _ _ := ⟨rfl, ft1.1⟩
   have hit1 := ft1.2
   clear i21
   have i21 := v21.inn
   clear i22
   have i22 := v22.ints
   clear i26
   have i26 := v26.inn
   clear mm6003
   have mm6003 : MemN _ _ _ _ _ := ⟨rfl, Mem.of_get at6003⟩
   have i29 := v29.ints
   refine .m rfl rfl rfl (.move rfl) ?_
   refine .m rfl rfl rfl (.extract rfl rfl) ?_
   refine .m rfl rfl rfl (.extract rfl rfl) ?_
   refine .m rfl rfl rfl (.assign rfl) ?_
   refine .m rfl rfl rfl (.assign rfl) ?_
   refine .nil ?_
   refine hK9 _ _ ?_
   refine .seq (fun K10 hK10 => ?_)
   refine .seq (fun K11 hK11 => ?_)
   refine .region ?_
   refine .m rfl rfl rfl (.move rfl) ?_
   refine .m rfl rfl rfl (.move rfl) ?_
   refine .callQ rfl rfl rfl rfl @Try.call9 rfl (eqInt64S_c) ?_
   refine .m rfl rfl rfl (.not rfl) ?_
   refine .m rfl rfl rfl (.move rfl) ?_
   refine .split (fun h36 => ?_) (fun h36 => ?_)
   ·
    try simp only [sps] at h36
    refine .sg rfl rfl rfl rfl rfl ?_
    refine .sg rfl rfl rfl rfl rfl ?_
    refine .sg rfl rfl rfl rfl rfl ?_
    refine .m rfl rfl rfl (.pickT rfl rfl) ?_
    refine .nil ?_
    refine hK11 _ _ ?_
    refine .condT rfl ?_
    refine .seq (fun K12 hK12 => ?_)
    refine .region ?_
    refine .m rfl rfl rfl (.assign rfl) ?_
    refine .nil ?_
    refine hK12 _ _ ?_
    refine .ret ?_
    -- leaf e2
    refine hret _ _ ?_
    refine ⟨_, rfl, ?_⟩
    first
    | exact rfl
    | exact absurd trivial (by assumption)
    | contradiction
    | (exfalso; omega)
   ·
    try simp only [sps] at h36
    refine .mg rfl rfl rfl rfl rfl (.move rfl) ?_
    refine .mg rfl rfl rfl rfl rfl (.move rfl) ?_
    refine .mg rfl rfl rfl rfl rfl (.cmp rfl rfl rfl) ?_
    refine .m rfl rfl rfl (.pickF rfl rfl) ?_
    refine .nil ?_
    refine hK11 _ _ ?_
    refine .cond rfl (fun h40 => ?_) (fun h40 => ?_)
    ·
     try simp only [sps] at h40
     refine .seq (fun K13 hK13 => ?_)
     refine .region ?_
     refine .m rfl rfl rfl (.assign rfl) ?_
     refine .nil ?_
     refine hK13 _ _ ?_
     refine .ret ?_
     -- leaf e3
     refine hret _ _ ?_
     refine ⟨_, rfl, ?_⟩
     first
     | exact rfl
     | exact absurd trivial (by assumption)
     | contradiction
     | (exfalso; omega)
    ·
     try simp only [sps] at h40
     refine .skip ?_
     refine hK10 _ _ ?_
     refine .seq (fun K14 hK14 => ?_)
     refine .seq (fun K15 hK15 => ?_)
     refine .regionD mixed_orders_B (.q 0 (.q 1 (.c 2 1 (.c 3 0 (.q 4 (.done)))))) (by kernel_rfl) ?_
     refine .m rfl rfl rfl rfl (.refl _) (.loadM ag_34_VProf rfl ⟨rfl, Mem.of_get at6003⟩) ?_
     refine .m rfl rfl rfl rfl (.refl _) (.loadM ag_28_LCoendOf rfl ⟨rfl, Mem.of_get at1⟩) ?_
     refine .call1 rfl rfl rfl rfl rfl @Try.call7 rfl (toProfunctor_c) ?_
     rintro _ H43 ⟨le43, p43, rfl, v43⟩
     have hbl := le43
     refine ⟨hbl, ?_⟩
     have nx_H43 := le43.1
     replace hle := hle.trans le43
     replace at1 := le43.2 _ _ at1
     replace at6003 := le43.2 _ _ at6003
     replace lv_v21 := Keep.le lv_v21 le43
     replace v21 := bs_v21.keep lv_v21 (Nat.le_refl _)
     replace lv_v22 := Keep.le lv_v22 le43
     replace v22 := bs_v22.keep lv_v22 (Nat.le_refl _)
     replace lv_v26 := Keep.le lv_v26 le43
     replace v26 := bs_v26.keep lv_v26 (Nat.le_refl _)
     replace lv_v29 := Keep.le lv_v29 le43
     replace v29 := bs_v29.keep lv_v29 (Nat.le_refl _)
     have bs_v43 := v43
     have lv_v43 : Keep H29.next H43 H43 := fun _ _ _ h => h
     replace h0 := base_h0.mono hle
     clear hb1 fs1 ft1 c101 c111 c121 i21 i31 i41 hm1 hi1 hms1 his1 hmt1 hit1
     have hb1 : Prof.At _ g1 0 m p := ⟨Mem.of_get at1, h0⟩
     obtain ⟨fs1, ft1, c101, c111, c121, i21, i31, i41⟩ := hb1.get
     have hm1 : MemN _ _ _ _ _ := ⟨rfl, hb1.1⟩
     have hi1 := hb1.2
     have hms1 : MemN _ _ _ _ _ := ⟨rfl, fs1.1⟩
     have his1 := fs1.2
     have hmt1 : MemN _ _ _ _ _ := ⟨rfl, ft1.1⟩
     have hit1 := ft1.2
     clear i21
     have i21 := v21.inn
     clear i22
     have i22 := v22.ints
     clear i26
     have i26 := v26.inn
     clear mm6003
     have mm6003 : MemN _ _ _ _ _ := ⟨rfl, Mem.of_get at6003⟩
     clear i29
     have i29 := v29.ints
     have i43 := v43.inn
     refine .callQ0 rfl rfl rfl rfl rfl @Try.call10 rfl (eqProfunctor_c) ?_
     refine .m rfl rfl rfl rfl (.refl _) (.not rfl) ?_
     refine .done ?_
     refine hK15 _ _ ?_
     refine .cond rfl (fun h45 => ?_) (fun h45 => ?_)
     ·
      try simp only [sps] at h45
      refine .seq (fun K16 hK16 => ?_)
      refine .region ?_
      refine .m rfl rfl rfl (.assign rfl) ?_
      refine .nil ?_
      refine hK16 _ _ ?_
      refine .ret ?_
      -- leaf e4
      refine hret _ _ ?_
      refine ⟨_, rfl, ?_⟩
      first
      | exact rfl
      | exact absurd trivial (by assumption)
      | contradiction
      | (exfalso; omega)
     ·
      try simp only [sps] at h45
      refine .skip ?_
      refine hK14 _ _ ?_
      refine .seq (fun K17 hK17 => ?_)
      refine .region ?_
      refine .m rfl rfl rfl (.assign rfl) ?_
      refine .nil ?_
      refine hK17 _ _ ?_
      refine .seq (fun K18 hK18 => ?_)
      refine .region ?_
      refine .m rfl rfl rfl (.loadM ag_34_VProf rfl ⟨rfl, Mem.of_get at6003⟩) ?_
      refine .m rfl rfl rfl (.move rfl) ?_
      have w_v26 := ProfW.of_at bs_v26 lv_v26
      refine .call rfl rfl rfl rfl @Try.call11 rfl (markProfunctor_c) ?_
      rintro _ H48 ⟨rfl, mk48⟩
      have sm48 := mk48.stm
      have nx_H48 := sm48.nx
      replace hle := StM.le_left hle sm48 (by omega)
      replace at1 := sm48.same _ _ (by omega) at1
      replace at6003 := sm48.same _ _ (by omega) at6003
      replace lv_v21 := Keep.stM lv_v21 sm48 (fun k hb hk => by omega)
      replace v21 := bs_v21.keep lv_v21 (Nat.le_refl _)
      replace lv_v22 := Keep.stM lv_v22 sm48 (fun k hb hk => by omega)
      replace v22 := bs_v22.keep lv_v22 (Nat.le_refl _)
      replace lv_v29 := Keep.stM lv_v29 sm48 (fun k hb hk => by omega)
      replace v29 := bs_v29.keep lv_v29 (Nat.le_refl _)
      replace lv_v43 := Keep.stM lv_v43 sm48 (fun k hb hk => by omega)
      replace v43 := bs_v43.keep lv_v43 (Nat.le_refl _)
      replace h0 := base_h0.mono hle
      clear hb1 fs1 ft1 c101 c111 c121 i21 i31 i41 hm1 hi1 hms1 his1 hmt1 hit1
      have hb1 : Prof.At _ g1 0 m p := ⟨Mem.of_get at1, h0⟩
      obtain ⟨fs1, ft1, c101, c111, c121, i21, i31, i41⟩ := hb1.get
      have hm1 : MemN _ _ _ _ _ := ⟨rfl, hb1.1⟩
      have hi1 := hb1.2
      have hms1 : MemN _ _ _ _ _ := ⟨rfl, fs1.1⟩
      have his1 := fs1.2
      have hmt1 : MemN _ _ _ _ _ := ⟨rfl, ft1.1⟩
      have hit1 := ft1.2
      clear i21
      have i21 := v21.inn
      clear i22
      have i22 := v22.ints
      clear mm6003
      have mm6003 : MemN _ _ _ _ _ := ⟨rfl, Mem.of_get at6003⟩
      clear i29
      have i29 := v29.ints
      clear i43
      have i43 := v43.inn
      refine .m rfl rfl rfl (.assign rfl) ?_
      refine .nil ?_
      refine hK18 _ _ ?_
      refine .seq (fun K19 hK19 => ?_)
      refine .seq (fun K20 hK20 => ?_)
      refine .region ?_
      refine .m rfl rfl rfl (.move rfl) ?_
      refine .m rfl rfl rfl (.cmp rfl rfl rfl) ?_
      refine .m rfl rfl rfl (.move rfl) ?_
      refine .split (fun h51 => ?_) (fun h51 => ?_)
      ·
       try simp only [sps] at h51
       refine .sg rfl rfl rfl rfl rfl ?_
       refine .sg rfl rfl rfl rfl rfl ?_
       refine .sg rfl rfl rfl rfl rfl ?_
       refine .sg rfl rfl rfl rfl rfl ?_
       refine .m rfl rfl rfl (.pickT rfl rfl) ?_
       refine .m rfl rfl rfl (.move rfl) ?_
       refine .sg rfl rfl rfl rfl rfl ?_
       refine .sg rfl rfl rfl rfl rfl ?_
       refine .sg rfl rfl rfl rfl rfl ?_
       refine .m rfl rfl rfl (.pickT rfl rfl) ?_
       refine .nil ?_
       refine hK20 _ _ ?_
       refine .condT rfl ?_
       refine .seq (fun K21 hK21 => ?_)
       refine .region ?_
       refine .m rfl rfl rfl (.assign rfl) ?_
       refine .nil ?_
       refine hK21 _ _ ?_
       refine .ret ?_
       -- leaf e5
       refine hret _ _ ?_
       refine ⟨_, rfl, ?_⟩
       first
       | exact rfl
       | exact absurd trivial (by assumption)
       | contradiction
       | (exfalso; omega)
      ·
       try simp only [sps] at h51
       refine .mg rfl rfl rfl rfl rfl (.move rfl) ?_
       refine .mg rfl rfl rfl rfl rfl (.move rfl) ?_
       refine .callQg rfl rfl rfl rfl rfl rfl @Try.call9 rfl (eqInt64S_c) ?_
       refine .mg rfl rfl rfl rfl rfl (.not rfl) ?_
       refine .m rfl rfl rfl (.pickF rfl rfl) ?_
       refine .m rfl rfl rfl (.move rfl) ?_
       refine .split (fun h57 => ?_) (fun h57 => ?_)
       ·
        try simp only [sps] at h57
        refine .sg rfl rfl rfl rfl rfl ?_
        refine .sg rfl rfl rfl rfl rfl ?_
        refine .sg rfl rfl rfl rfl rfl ?_
        refine .m rfl rfl rfl (.pickT rfl rfl) ?_
        refine .nil ?_
        refine hK20 _ _ ?_
        refine .condT rfl ?_
        refine .seq (fun K22 hK22 => ?_)
        refine .region ?_
        refine .m rfl rfl rfl (.assign rfl) ?_
        refine .nil ?_
        refine hK22 _ _ ?_
        refine .ret ?_
        -- leaf e6
        refine hret _ _ ?_
        refine ⟨_, rfl, ?_⟩
        first
        | exact rfl
        | exact absurd trivial (by assumption)
        | contradiction
        | (exfalso; omega)
       ·
        try simp only [sps] at h57
        refine .mg rfl rfl rfl rfl rfl (.move rfl) ?_
        refine .mg rfl rfl rfl rfl rfl (.move rfl) ?_
        refine .mg rfl rfl rfl rfl rfl (.cmp rfl rfl rfl) ?_
        refine .m rfl rfl rfl (.pickF rfl rfl) ?_
        refine .nil ?_
        refine hK20 _ _ ?_
        refine .cond rfl (fun h61 => ?_) (fun h61 => ?_)
        ·
         try simp only [sps] at h61
         refine .seq (fun K23 hK23 => ?_)
         refine .region ?_
         refine .m rfl rfl rfl (.assign rfl) ?_
         refine .nil ?_
         refine hK23 _ _ ?_
         refine .ret ?_
         -- leaf e7
         refine hret _ _ ?_
         refine ⟨_, rfl, ?_⟩
         first
         | exact rfl
         | exact absurd trivial (by assumption)
         | contradiction
         | (exfalso; omega)
        ·
         try simp only [sps] at h61
         refine .skip ?_
         refine hK19 _ _ ?_
         refine .seq (fun K24 hK24 => ?_)
         refine .region ?_
         refine .m rfl rfl rfl (.assign rfl) ?_
         refine .nil ?_
         refine hK24 _ _ ?_
         refine .seq (fun K25 hK25 => ?_)
         refine .region ?_
         refine .m rfl rfl rfl (.move rfl) ?_
         refine .m rfl rfl rfl (.move rfl) ?_
         have w_v29 := IntsW.of_r bs_v29 lv_v29
         refine .call rfl rfl rfl rfl @Try.call12 rfl (markInt64S_c) ?_
         rintro _ H64 ⟨rfl, mk64⟩
         have sm64 := mk64.stm
         have nx_H64 := sm64.nx
         replace hle := StM.le_left hle sm64 (by omega)
         replace at1 := sm64.same _ _ (by omega) at1
         replace at6003 := sm64.same _ _ (by omega) at6003
         replace lv_v21 := Keep.stM lv_v21 sm64 (fun k hb hk => by omega)
         replace v21 := bs_v21.keep lv_v21 (Nat.le_refl _)
         replace lv_v22 := Keep.stM lv_v22 sm64 (fun k hb hk => by omega)
         replace v22 := bs_v22.keep lv_v22 (Nat.le_refl _)
         replace lv_v43 := Keep.stM lv_v43 sm64 (fun k hb hk => by omega)
         replace v43 := bs_v43.keep lv_v43 (Nat.le_refl _)
         replace h0 := base_h0.mono hle
         clear hb1 fs1 ft1 c101 c111 c121 i21 i31 i41 hm1 hi1 hms1 his1 hmt1 hit1
         have hb1 : Prof.At _ g1 0 m p := ⟨Mem.of_get at1, h0⟩
         obtain ⟨fs1, ft1, c101, c111, c121, i21, i31, i41⟩ := hb1.get
         have hm1 : MemN _ _ _ _ _ := ⟨rfl, hb1.1⟩
         have hi1 := hb1.2
         have hms1 : MemN _ _ _ _ _ := ⟨rfl, fs1.1⟩
         have his1 := fs1.2
         have hmt1 : MemN _ _ _ _ _ := ⟨rfl, ft1.1⟩
         have hit1 := ft1.2
         clear i21
         have i21 := v21.inn
         clear i22
         have i22 := v22.ints
         clear mm6003
         have mm6003 : MemN _ _ _ _ _ := ⟨rfl, Mem.of_get at6003⟩
         clear i43
         have i43 := v43.inn
         have hd64 := mk64.held (IntsR.nodup)
         have wd64 := w_v29.stm sm64
         have bs_hd64 := hd64
         have lv_hd64 : Keep H6003.next H64 H64 := fun _ _ _ h => h
         have bs_wd64 := wd64
         have lv_wd64 : Keep H6003.next H64 H64 := fun _ _ _ h => h
         refine .m rfl rfl rfl (.assign rfl) ?_
         refine .nil ?_
         refine hK25 _ _ ?_
         refine .seq (fun K26 hK26 => ?_)
         refine .region ?_
         refine .m rfl rfl rfl (.assign rfl) ?_
         refine .nil ?_
         refine hK26 _ _ ?_
         refine .seq (fun K27 hK27 => ?_)
         refine .region ?_
         refine .m rfl rfl rfl (.move rfl) ?_
         refine .m rfl rfl rfl (.move rfl) ?_
         refine .callQ rfl rfl rfl rfl @Try.call13 rfl (heldInt64S_c) ?_
         refine .m rfl rfl rfl (.assign rfl) ?_
         refine .nil ?_
         refine hK27 _ _ ?_
         refine .seq (fun K28 hK28 => ?_)
         refine .seq (fun K29 hK29 => ?_)
         refine .region ?_
         refine .m rfl rfl rfl (.move rfl) ?_
         refine .m rfl rfl rfl (.cmp rfl rfl rfl) ?_
         refine .nil ?_
         refine hK29 _ _ ?_
         refine .cond rfl (fun h69 => ?_) (fun h69 => ?_)
         ·
          try simp only [sps] at h69
          refine .seq (fun K30 hK30 => ?_)
          refine .region ?_
          refine .m rfl rfl rfl (.assign rfl) ?_
          refine .nil ?_
          refine hK30 _ _ ?_
          refine .ret ?_
          -- leaf e8
          refine hret _ _ ?_
          refine ⟨_, rfl, ?_⟩
          first
          | exact rfl
          | exact absurd trivial (by assumption)
          | contradiction
          | (exfalso; omega)
         ·
          try simp only [sps] at h69
          refine .skip ?_
          refine hK28 _ _ ?_
          refine .seq (fun K31 hK31 => ?_)
          refine .seq (fun K32 hK32 => ?_)
          refine .region ?_
          refine .m rfl rfl rfl (.move rfl) ?_
          refine .m rfl rfl rfl (.move rfl) ?_
          refine .m rfl rfl rfl (.cmp rfl rfl rfl) ?_
          refine .nil ?_
          refine hK32 _ _ ?_
          refine .cond rfl (fun h72 => ?_) (fun h72 => ?_)
          ·
           try simp only [sps] at h72
           refine .seq (fun K33 hK33 => ?_)
           refine .region ?_
           refine .m rfl rfl rfl (.assign rfl) ?_
           refine .nil ?_
           refine hK33 _ _ ?_
           refine .ret ?_
           -- leaf e9
           refine hret _ _ ?_
           refine ⟨_, rfl, ?_⟩
           first
           | exact rfl
           | exact absurd trivial (by assumption)
           | contradiction
           | (exfalso; omega)
          ·
           try simp only [sps] at h72
           refine .skip ?_
           refine hK31 _ _ ?_
           refine .seq (fun K34 hK34 => ?_)
           refine .region ?_
           refine .m rfl rfl rfl (.loadM ag_28_LCoendOf rfl ⟨rfl, Mem.of_get at1⟩) ?_
           refine .call rfl rfl rfl rfl @Try.call7 rfl (toProfunctor_c) ?_
           rintro _ H75 ⟨le75, p75, rfl, v75⟩
           have nx_H75 := le75.1
           replace hle := hle.trans le75
           replace at1 := le75.2 _ _ at1
           replace at6003 := le75.2 _ _ at6003
           replace lv_v21 := Keep.le lv_v21 le75
           replace v21 := bs_v21.keep lv_v21 (Nat.le_refl _)
           replace lv_v22 := Keep.le lv_v22 le75
           replace v22 := bs_v22.keep lv_v22 (Nat.le_refl _)
           replace lv_v43 := Keep.le lv_v43 le75
           replace v43 := bs_v43.keep lv_v43 (Nat.le_refl _)
           replace lv_hd64 := Keep.le lv_hd64 le75
           replace hd64 := bs_hd64.keep lv_hd64 (Nat.le_refl _)
           replace lv_wd64 := Keep.le lv_wd64 le75
           replace wd64 := bs_wd64.keep lv_wd64 (Nat.le_refl _)
           have bs_v75 := v75
           have lv_v75 : Keep H64.next H75 H75 := fun _ _ _ h => h
           replace h0 := base_h0.mono hle
           clear hb1 fs1 ft1 c101 c111 c121 i21 i31 i41 hm1 hi1 hms1 his1 hmt1 hit1
           have hb1 : Prof.At _ g1 0 m p := ⟨Mem.of_get at1, h0⟩
           obtain ⟨fs1, ft1, c101, c111, c121, i21, i31, i41⟩ := hb1.get
           have hm1 : MemN _ _ _ _ _ := ⟨rfl, hb1.1⟩
           have hi1 := hb1.2
           have hms1 : MemN _ _ _ _ _ := ⟨rfl, fs1.1⟩
           have his1 := fs1.2
           have hmt1 : MemN _ _ _ _ _ := ⟨rfl, ft1.1⟩
           have hit1 := ft1.2
           clear i21
           have i21 := v21.inn
           clear i22
           have i22 := v22.ints
           clear mm6003
           have mm6003 : MemN _ _ _ _ _ := ⟨rfl, Mem.of_get at6003⟩
           clear i43
           have i43 := v43.inn
           have i75 := v75.inn
           refine .call rfl rfl rfl rfl @Try.call8 rfl (implCoendOf_c) ?_
           rintro _ H76 ⟨le76, a76, rfl, v76⟩
           have nx_H76 := le76.1
           replace hle := hle.trans le76
           replace at1 := le76.2 _ _ at1
           replace at6003 := le76.2 _ _ at6003
           replace lv_v21 := Keep.le lv_v21 le76
           replace v21 := bs_v21.keep lv_v21 (Nat.le_refl _)
           replace lv_v22 := Keep.le lv_v22 le76
           replace v22 := bs_v22.keep lv_v22 (Nat.le_refl _)
           replace lv_v43 := Keep.le lv_v43 le76
           replace v43 := bs_v43.keep lv_v43 (Nat.le_refl _)
           replace lv_hd64 := Keep.le lv_hd64 le76
           replace hd64 := bs_hd64.keep lv_hd64 (Nat.le_refl _)
           replace lv_wd64 := Keep.le lv_wd64 le76
           replace wd64 := bs_wd64.keep lv_wd64 (Nat.le_refl _)
           replace lv_v75 := Keep.le lv_v75 le76
           replace v75 := bs_v75.keep lv_v75 (Nat.le_refl _)
           have bs_v76 := v76
           have lv_v76 : Keep H75.next H76 H76 := fun _ _ _ h => h
           replace h0 := base_h0.mono hle
           clear hb1 fs1 ft1 c101 c111 c121 i21 i31 i41 hm1 hi1 hms1 his1 hmt1 hit1
           have hb1 : Prof.At _ g1 0 m p := ⟨Mem.of_get at1, h0⟩
           obtain ⟨fs1, ft1, c101, c111, c121, i21, i31, i41⟩ := hb1.get
           have hm1 : MemN _ _ _ _ _ := ⟨rfl, hb1.1⟩
           have hi1 := hb1.2
           have hms1 : MemN _ _ _ _ _ := ⟨rfl, fs1.1⟩
           have his1 := fs1.2
           have hmt1 : MemN _ _ _ _ _ := ⟨rfl, ft1.1⟩
           have hit1 := ft1.2
           clear i21
           have i21 := v21.inn
           clear i22
           have i22 := v22.ints
           clear mm6003
           have mm6003 : MemN _ _ _ _ _ := ⟨rfl, Mem.of_get at6003⟩
           clear i43
           have i43 := v43.inn
           clear i75
           have i75 := v75.inn
           have i76 := v76.ints
           refine .m rfl rfl rfl (.move rfl) ?_
           refine .m rfl rfl rfl (.extract rfl rfl) ?_
           refine .m rfl rfl rfl (.extract rfl rfl) ?_
           refine .m rfl rfl rfl (.assign rfl) ?_
           refine .m rfl rfl rfl (.assign rfl) ?_
           refine .nil ?_
           refine hK34 _ _ ?_
           refine .seq (fun K35 hK35 => ?_)
           refine .seq (fun K36 hK36 => ?_)
           refine .region ?_
           refine .m rfl rfl rfl (.move rfl) ?_
           refine .m rfl rfl rfl (.move rfl) ?_
           refine .callQ rfl rfl rfl rfl @Try.call9 rfl (eqInt64S_c) ?_
           refine .m rfl rfl rfl (.not rfl) ?_
           refine .m rfl rfl rfl (.move rfl) ?_
           refine .split (fun h83 => ?_) (fun h83 => ?_)
           ·
            try simp only [sps] at h83
            refine .sg rfl rfl rfl rfl rfl ?_
            refine .sg rfl rfl rfl rfl rfl ?_
            refine .sg rfl rfl rfl rfl rfl ?_
            refine .m rfl rfl rfl (.pickT rfl rfl) ?_
            refine .nil ?_
            refine hK36 _ _ ?_
            refine .condT rfl ?_
            refine .seq (fun K37 hK37 => ?_)
            refine .region ?_
            refine .m rfl rfl rfl (.assign rfl) ?_
            refine .nil ?_
            refine hK37 _ _ ?_
            refine .ret ?_
            -- leaf e10
            refine hret _ _ ?_
            refine ⟨_, rfl, ?_⟩
            first
            | exact rfl
            | exact absurd trivial (by assumption)
            | contradiction
            | (exfalso; omega)
           ·
            try simp only [sps] at h83
            refine .mg rfl rfl rfl rfl rfl (.move rfl) ?_
            refine .mg rfl rfl rfl rfl rfl (.move rfl) ?_
            refine .mg rfl rfl rfl rfl rfl (.cmp rfl rfl rfl) ?_
            refine .m rfl rfl rfl (.pickF rfl rfl) ?_
            refine .nil ?_
            refine hK36 _ _ ?_
            refine .cond rfl (fun h87 => ?_) (fun h87 => ?_)
            ·
             try simp only [sps] at h87
             refine .seq (fun K38 hK38 => ?_)
             refine .region ?_
             refine .m rfl rfl rfl (.assign rfl) ?_
             refine .nil ?_
             refine hK38 _ _ ?_
             refine .ret ?_
             -- leaf e11
             refine hret _ _ ?_
             refine ⟨_, rfl, ?_⟩
             first
             | exact rfl
             | exact absurd trivial (by assumption)
             | contradiction
             | (exfalso; omega)
            ·
             try simp only [sps] at h87
             refine .skip ?_
             refine hK35 _ _ ?_
             refine .seq (fun K39 hK39 => ?_)
             refine .region ?_
             refine .m rfl rfl rfl (.assign rfl) ?_
             refine .nil ?_
             refine hK39 _ _ ?_
             refine .seq (fun K40 hK40 => ?_)
             refine .region ?_
             refine .m rfl rfl rfl (.move rfl) ?_
             refine .m rfl rfl rfl (.move rfl) ?_
             refine .callQ rfl rfl rfl rfl @Try.call13 rfl (heldInt64S_c) ?_
             refine .m rfl rfl rfl (.assign rfl) ?_
             refine .nil ?_
             refine hK40 _ _ ?_
             refine .seq (fun K41 hK41 => ?_)
             refine .seq (fun K42 hK42 => ?_)
             refine .region ?_
             refine .m rfl rfl rfl (.move rfl) ?_
             refine .m rfl rfl rfl (.cmp rfl rfl rfl) ?_
             refine .nil ?_
             refine hK42 _ _ ?_
             refine .cond rfl (fun h92 => ?_) (fun h92 => ?_)
             ·
              try simp only [sps] at h92
              refine .seq (fun K43 hK43 => ?_)
              refine .region ?_
              refine .m rfl rfl rfl (.assign rfl) ?_
              refine .nil ?_
              refine hK43 _ _ ?_
              refine .ret ?_
              -- leaf e12
              refine hret _ _ ?_
              refine ⟨_, rfl, ?_⟩
              first
              | exact rfl
              | exact absurd trivial (by assumption)
              | contradiction
              | (exfalso; omega)
             ·
              try simp only [sps] at h92
              refine .skip ?_
              refine hK41 _ _ ?_
              refine .seq (fun K44 hK44 => ?_)
              refine .seq (fun K45 hK45 => ?_)
              refine .region ?_
              refine .m rfl rfl rfl (.move rfl) ?_
              refine .m rfl rfl rfl (.move rfl) ?_
              refine .m rfl rfl rfl (.cmp rfl rfl rfl) ?_
              refine .nil ?_
              refine hK45 _ _ ?_
              refine .cond rfl (fun h95 => ?_) (fun h95 => ?_)
              ·
               try simp only [sps] at h95
               refine .seq (fun K46 hK46 => ?_)
               refine .region ?_
               refine .m rfl rfl rfl (.assign rfl) ?_
               refine .nil ?_
               refine hK46 _ _ ?_
               refine .ret ?_
               -- leaf e13
               refine hret _ _ ?_
               refine ⟨_, rfl, ?_⟩
               first
               | exact rfl
               | exact absurd trivial (by assumption)
               | contradiction
               | (exfalso; omega)
              ·
               try simp only [sps] at h95
               refine .skip ?_
               refine hK44 _ _ ?_
               refine .seq (fun K47 hK47 => ?_)
               refine .region ?_
               refine .m rfl rfl rfl (.assign rfl) ?_
               refine .nil ?_
               refine hK47 _ _ ?_
               refine .ret ?_
               -- leaf e14
               refine hret _ _ ?_
               refine ⟨_, rfl, ?_⟩
               first
               | exact rfl
               | exact absurd trivial (by assumption)
               | contradiction
               | (exfalso; omega)
end Go.Proofs.Ytkcpjflhjghapaa
/- The call of a law, whatever it takes: the arguments brought in one by one. No condition. -/
namespace Go.GL
open Go.RowKit Go.WideShapes Go.ChangeShapes Go.Deep

/-- An argument of type t may be brought in so that R holds of what stands for it. -/
structure Imp1 (P : Program) (t : TypeId) (R : GHeap → Value → Prop) : Prop where
  mono : ∀ {H H' : GHeap} {g : Value}, H.Le H' → R H g → R H' g
  imp : ∀ {T : Type} {enc : TypeId × Value → T} {B : Nat} {w0 : World} {ρ : Place} {H : GHeap} {w : World} {held : Bool} {base fuel : Nat} {v : Value} {x : DataW T × List MemPlace}, Sim P B w0 ρ H w → w.heap.size ≤ B →
    DataW.trod enc P w 0 (fun _ => true) held fuel t v.cells.toList = some x → Value.okWide P w .any base t v → ∃ ρ' H' g, Sim P B w0 ρ' H' w ∧ Ext ρ ρ' ∧ H.Le H' ∧ VRel ρ' g v ∧ R H' g

def structT (P : Program) (t : TypeId) : Bool := match P.underlying t with | some (.struct _) => true | _ => false
theorem imp1_struct {P : Program} {t : TypeId} {α β : Type} {cells : α → β → List Value} {I : GHeap → α → β → Prop} {W : α → Prop} (hm : ∀ {H H' : GHeap} {c : α} {p : β}, I H c p → H.Le H' → I H' c p)
    (hI : Imports P t (fun ρ H cs => ∃ (c : α) (p : β), LRel ρ (cells c p) cs ∧ I H c p ∧ W c)) (hst : structT P t = true) : Imp1 P t (fun H g => ∃ (c : α) (p : β), g = .agg (cells c p).toArray ∧ I H c p ∧ W c) where
  mono h := fun ⟨c, p, h1, h2, h3⟩ => ⟨c, p, h1, hm h2 h, h3⟩
  imp := by
    intro T enc B w0 ρ H w held base fuel v x hs hB h hv
    have hagg : ∃ cs, v = .agg cs := by
      unfold Value.okWide at hv
      unfold structT at hst
      split at hst
      · rename_i fs hu
        rw [hu] at hv
        obtain ⟨cs, h, _⟩ := hv
        exact ⟨cs, h⟩
      · cases hst
    obtain ⟨cs, rfl⟩ := hagg
    obtain ⟨ρ', H', h1, h2, h3, c, p, h4, h5, h6⟩ := hI hs hB h
    exact ⟨ρ', H', _, h1, h2, h3, by have := VRel.agg_of h4; simpa [Value.cells] using this, c, p, rfl, h5, h6⟩
theorem imp1_int {P : Program} {t : TypeId} (ht : i64T P t = true) : Imp1 P t (fun _ g => ∃ n, g = .int .i64 n ∧ I64 n) where
  mono _ := id
  imp := by
    intro T enc B w0 ρ H w held base fuel v x hs hB h hv
    obtain ⟨n, rfl⟩ := okWide_int (i64T_run ht) hv
    obtain ⟨ρ', H', h1, h2, h3, m, h4, h5⟩ := import_int ht hs hB h
    have : n = m := by simpa [Value.cells] using h4
    subst this
    exact ⟨ρ', H', _, h1, h2, h3, .int _ _, n, rfl, h5⟩
theorem imp1_ints {P : Program} {t : TypeId} (ht : intsT P t = true) : Imp1 P t (fun H g => ∃ a xs, g = .slice a xs.length xs.length ∧ Ints H a xs ∧ I64s xs) where
  mono h := fun ⟨a, xs, h1, h2, h3⟩ => ⟨a, xs, h1, h2.mono h, h3⟩
  imp := by
    intro T enc B w0 ρ H w held base fuel v x hs hB h hv
    obtain ⟨e, hu, _⟩ := intsT_run ht
    obtain ⟨a, l, c, rfl⟩ := okWide_slice hu hv
    obtain ⟨ρ', H', h1, h2, h3, a', xs, c', h4, h5, h6, h7⟩ := import_ints ht hs hB h
    have : Value.slice a l c = c' := by simpa [Value.cells] using h4
    subst this
    exact ⟨ρ', H', _, h1, h2, h3, h5, a', xs, rfl, h6, h7⟩
theorem imp1_intss {P : Program} {t : TypeId} (ht : intssT P t = true) : Imp1 P t (fun H g => ∃ a xss r, g = .slice a xss.length xss.length ∧ Intss H a xss r ∧ xss.length ≤ 9223372036854775807 ∧ ∀ i, I64s (xss.getD i [])) where
  mono h := fun ⟨a, xs, r, h1, h2, h3⟩ => ⟨a, xs, r, h1, h2.mono h, h3⟩
  imp := by
    intro T enc B w0 ρ H w held base fuel v x hs hB h hv
    obtain ⟨e, hu, _⟩ := intssT_run ht
    obtain ⟨a, l, c, rfl⟩ := okWide_slice hu hv
    obtain ⟨ρ', H', h1, h2, h3, a', xs, r, c', h4, h5, h6, h7⟩ := import_intss ht hs hB h
    have : Value.slice a l c = c' := by simpa [Value.cells] using h4
    subst this
    exact ⟨ρ', H', _, h1, h2, h3, h5, a', xs, r, rfl, h6, h7⟩
theorem imp1_intsss {P : Program} {t : TypeId} (ht : intsssT P t = true) : Imp1 P t (fun H g => ∃ a x r s, g = .slice a x.length x.length ∧ Intsss H a x r s ∧ Wd3 x) where
  mono h := fun ⟨a, xs, r, s, h1, h2, h3⟩ => ⟨a, xs, r, s, h1, h2.mono h, h3⟩
  imp := by
    intro T enc B w0 ρ H w held base fuel v x hs hB h hv
    obtain ⟨e, hu, _⟩ := intsssT_run ht
    obtain ⟨a, l, c, rfl⟩ := okWide_slice hu hv
    obtain ⟨ρ', H', h1, h2, h3, a', xs, r, s, c', h4, h5, h6, h7⟩ := import_intsss ht hs hB h
    have : Value.slice a l c = c' := by simpa [Value.cells] using h4
    subst this
    exact ⟨ρ', H', _, h1, h2, h3, h5, a', xs, r, s, rfl, h6, h7⟩

/-- Arguments of types ts may be brought in so that R holds of what stands for them. -/
structure ImpAll (P : Program) (ts : List TypeId) (R : GHeap → List Value → Prop) : Prop where
  imp : ∀ {T : Type} {enc : TypeId × Value → T} {B : Nat} {w0 : World} {ρ : Place} {H : GHeap} {w : World} {base : Nat} {vs : List Value} {ds : List (DataW T)} {ps : List MemPlace}, Sim P B w0 ρ H w → w.heap.size ≤ B →
    DataW.TrodAll enc P w 0 (fun _ => true) true ts vs ds ps → (∀ (j : Nat) t v, ts[j]? = some t → vs[j]? = some v → Value.okWide P w .any base t v) → ds.length = ts.length ∧ ∃ ρ' H' gs, Sim P B w0 ρ' H' w ∧ Ext ρ ρ' ∧ H.Le H' ∧ LRel ρ' gs vs ∧ R H' gs
theorem ImpAll.nil {P : Program} : ImpAll P [] (fun _ gs => gs = []) where
  imp := by
    intro T enc B w0 ρ H w base vs ds ps hs hB h hv
    obtain ⟨rfl, rfl, rfl⟩ := trodAll_nil h
    exact ⟨rfl, ρ, H, [], hs, .refl ρ, .refl H, .nil ρ, rfl⟩
theorem ImpAll.cons {P : Program} {t : TypeId} {ts : List TypeId} {R1 : GHeap → Value → Prop} {R : GHeap → List Value → Prop} (h1 : Imp1 P t R1) (h2 : ImpAll P ts R) : ImpAll P (t :: ts) (fun H gs => ∃ g r, gs = g :: r ∧ R1 H g ∧ R H r) where
  imp := by
    intro T enc B w0 ρ H w base vs ds ps hs hB h hv
    obtain ⟨v, vs, d, ds, p, q, rfl, rfl, rfl, ⟨fuel, k1⟩, k2⟩ := trodAll_cons h
    obtain ⟨ρ1, H1, g, s1, e1, l1, v1, r1⟩ := h1.imp hs hB k1 (hv 0 t v rfl rfl)
    obtain ⟨hl, ρ2, H2, gs, s2, e2, l2, v2, r2⟩ := h2.imp s1 hB k2 (fun j t v ht hj => hv (j + 1) t v (by simpa using ht) (by simpa using hj))
    exact ⟨by simp [hl], ρ2, H2, g :: gs, s2, e1.trans e2, l1.trans l2, .cons (v1.mono e2) v2, g, gs, rfl, h1.mono l2 r1, r2⟩

/-- The call of a law. -/
theorem law_calls {P : Program} {f : FuncId} {fn : Func} {ts : List TypeId} {tb : TypeId} {R : GHeap → List Value → Prop} (hI : ImpAll P ts R) (hp : fn.params = ts.toArray)
    (hc : ∀ H gs, R H gs → GCalls P f gs H fun v _ => v = .bool true)
    {T : Type} {enc : TypeId × Value → T} {W : World} {base : Nat} {args : Array Value} {s : ChangeSpec} {apart fresh handsOn again : Bool} {ds gs : List (DataW T)} {before : List MemPlace}
    (hval : ∀ (j : Nat) t v, fn.params[j]? = some t → args[j]? = some v → Value.okWide P W .any base t v)
    (hW : DataW.Whole enc P fn.params.toList s.vars apart W args.toList ds gs before)
    (hl : laidOutB P = true) (hr : readB P fn.params.toList = true) (hv : s.vars = []) (hrt : fn.resultTypes = #[tb]) (htb : P.underlying tb = some .bool)
    (hs : ∀ ds : List (DataW T), ds.length = ts.length → (s.fn T ds).results = [.lit (.bool true)] ∧ (s.fn T ds).args = ds ∧ (s.fn T ds).vars = []) :
    Calls P f args W fun e W' => ∃ v, e = .returned v ∧ s.post enc P fn apart fresh handsOn again W args v W' := by
  have hWW := hW
  obtain ⟨p, q, hA, _⟩ := hW
  rw [hp] at hA
  obtain ⟨hlen, ρ, H, gs', hs', _, _, hrel, hR⟩ := hI.imp (base := base) (Sim.start P W) (Nat.le_refl _) (by simpa using hA) (fun j t v ht hj => hval j t v (by rw [hp]; simpa using ht) (by simpa using hj))
  have := (hc H gs' hR) _ _ ρ args.toList W hs' hrel
  rw [Array.toArray_toList] at this
  refine this.mono fun e W' ⟨v, c, ρ', H', he, hv', _, hsim, hrv⟩ => ?_
  subst hv'
  cases hrv
  exact ⟨_, he, law_post hl hr hv hrt htb hWW (hs ds hlen).1 (hs ds hlen).2.1 (hs ds hlen).2.2 hsim.below⟩
end Go.GL
