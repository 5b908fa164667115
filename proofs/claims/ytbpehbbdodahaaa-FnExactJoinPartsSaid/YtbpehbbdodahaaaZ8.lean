/- Rows of truth values, made and written in place; parts that connectives make. No condition. -/
import Derived.Test.YtbpehbbdodahaaaZ7
namespace Go.GL
def tabB (n : Nat) (p : Nat → Bool) : List Bool := (List.range n).map p
@[simp] theorem length_tabB (n : Nat) (p : Nat → Bool) : (tabB n p).length = n := by simp [tabB]
theorem tabB_get {n i : Nat} {p : Nat → Bool} (h : i < n) : (tabB n p).getD i false = p i := by simp [tabB, List.getD_eq_getElem?_getD, h]
theorem tabB_congr {n : Nat} {p q : Nat → Bool} (h : ∀ i, i < n → p i = q i) : tabB n p = tabB n q := List.map_congr_left fun i hi => h i (List.mem_range.1 hi)
theorem tabB_set (n : Nat) (p : Nat → Bool) (i : Nat) (v : Bool) : (tabB n p).set i v = tabB n (fun j => bif j == i then v else p j) := by
  apply List.ext_getElem (by simp)
  intro j h1 h2
  simp only [length_tabB] at h2
  rw [List.getElem_set]
  simp only [tabB, List.getElem_map, List.getElem_range]
  by_cases e : i = j
  · subst e; simp
  · rw [if_neg e]
    have : (j == i) = false := by simp; omega
    rw [this]; rfl
theorem tabB_false (n : Nat) : List.replicate n false = tabB n (fun _ => false) := by
  apply List.ext_getElem (by simp)
  intro j h1 h2
  simp [tabB]
/-- The first e numbers of a list, as marks. -/
def markP (xs : List Int) (e : Nat) : Nat → Bool := fun d => (xs.take e).contains (d : Int)
theorem markP_zero (xs : List Int) : markP xs 0 = fun _ => false := by funext d; simp [markP]
theorem markP_all (xs : List Int) : markP xs xs.length = fun d : Nat => xs.contains (d : Int) := by funext d; simp [markP]
theorem markP_succ {n e : Nat} {xs : List Int} (h : e < xs.length) (h0 : 0 ≤ xs.getD e 0) : tabB n (markP xs (e + 1)) = (tabB n (markP xs e)).set (xs.getD e 0).toNat true := by
  rw [tabB_set]
  refine tabB_congr fun d _ => ?_
  have e1 : xs[e]? = some (xs.getD e 0) := by simp [List.getD_eq_getElem?_getD, h]
  simp only [markP, List.take_add_one, e1, Option.toList_some, List.contains_append]
  have e2 : ([xs.getD e 0].contains (d : Int)) = (d == (xs.getD e 0).toNat) := by
    rw [Bool.eq_iff_iff]
    simp only [List.contains_cons, List.contains_nil, Bool.or_false, beq_iff_eq]
    omega
  rw [e2]
  cases (d == (xs.getD e 0).toNat) <;> simp

theorem Bools.tabS {H : GHeap} {a : Option Addr} {n : Nat} {p : Nat → Bool} (h : Bools H a (tabB n p)) : SlA H a n (fun i => .bool ((tabB n p).getD i false)) := by
  have h' : SlA H a (tabB n p).length _ := h
  rw [length_tabB] at h'
  exact h'
/-- Slices of whole rows. -/
def slsN (r : Nat → Nat) (L : Nat → Nat) (k : Nat) : List Value := (List.range k).map fun i => .slice (some ⟨r i, 0, none⟩) (L i) (L i)
@[simp] theorem length_slsN (r : Nat → Nat) (L : Nat → Nat) (k : Nat) : (slsN r L k).length = k := by simp [slsN]
def updN (r : Nat → Nat) (k g : Nat) : Nat → Nat := fun i => if i = k then g else r i
theorem updN_eq (r : Nat → Nat) (k g : Nat) : updN r k g k = g := by simp [updN]
theorem updN_ne {r : Nat → Nat} {k i g : Nat} (h : i ≠ k) : updN r k g i = r i := by simp [updN, h]
theorem slsN_succ {r : Nat → Nat} {L : Nat → Nat} {k g : Nat} : slsN (updN r k g) L (k + 1) = slsN r L k ++ [.slice (some ⟨g, 0, none⟩) (L k) (L k)] := by
  unfold slsN
  rw [List.range_succ, List.map_append]
  congr 1
  · refine List.map_congr_left fun i hi => ?_
    rw [updN_ne (by have := List.mem_range.1 hi; omega)]
  · simp [updN_eq]
/-- Rows of elements of type e live on. -/
def LastsV (e : TypeId) (H H' : GHeap) : Prop := ∀ x cs, H.get x = some (.row cs e true) → H'.get x = some (.row cs e true)
theorem LastsV.trans {e : TypeId} {A B C : GHeap} (h : LastsV e A B) (h' : LastsV e B C) : LastsV e A C := fun x xs hx => h' x xs (h x xs hx)
theorem LastsV.of_le {e : TypeId} {H H' : GHeap} (h : H.Le H') : LastsV e H H' := fun x cs hx => h.2 x _ hx
theorem St.lastsV1 {g0 : Nat} {H H' : GHeap} {e e' : TypeId} {cs : List Value} (s : St [g0] H H') (h0 : H.get g0 = some (.row cs e' true)) (hne : (e != e') = true) : LastsV e H H' := fun x xs hx => by
  simp only [bne_iff_ne, ne_eq] at hne
  refine s.same x _ ⟨fun ex => ?_, trivial⟩ hx
  subst ex
  rw [h0] at hx
  cases hx
  exact hne rfl
theorem St.lastsVA {g : Nat} {H H' : GHeap} {e e' : TypeId} (s : St [g] H H') (h : H.next ≤ g ∨ ∃ cs, H.get g = some (.row cs e' true)) (hne : (e != e') = true) : LastsV e H H' := fun x xs hx => by
  simp only [bne_iff_ne, ne_eq] at hne
  refine s.same x _ ⟨fun ex => ?_, trivial⟩ hx
  subst ex
  rcases h with h | ⟨cs, h⟩
  · have := GHeap.lt_of_get hx
    omega
  · rw [h] at hx
    cases hx
    exact hne rfl
/-- Rows of truth values, no two alike; L: their lengths, M: what they hold. -/
structure OwnB (b : Nat) (H : GHeap) (e : TypeId) (r : Nat → Nat) (L : Nat → Nat) (M : Nat → Nat → Bool) (k : Nat) : Prop where
  row : ∀ i, i < k → b ≤ r i ∧ H.get (r i) = some (.row (bools (tabB (L i) (M i))) e true)
  inj : ∀ i j, i < k → j < k → r i = r j → i = j
theorem OwnB.zero (b : Nat) (H : GHeap) (e : TypeId) (r : Nat → Nat) (L : Nat → Nat) (M : Nat → Nat → Bool) : OwnB b H e r L M 0 := ⟨fun i hi => by omega, fun i j hi => by omega⟩
theorem OwnB.keep {b k : Nat} {H H' : GHeap} {e : TypeId} {r : Nat → Nat} {L : Nat → Nat} {M : Nat → Nat → Bool} (h : OwnB b H e r L M k) (s : LastsV e H H') : OwnB b H' e r L M k := ⟨fun i hi => ⟨(h.row i hi).1, s _ _ (h.row i hi).2⟩, h.inj⟩
theorem OwnB.succ {b g k : Nat} {H H' : GHeap} {e : TypeId} {r : Nat → Nat} {L : Nat → Nat} {M : Nat → Nat → Bool} (h : OwnB b H e r L M k) (s : LastsV e H H')
    (hg : H'.get g = some (.row (bools (tabB (L k) (M k))) e true)) (hn : H.next ≤ g) (hb : b ≤ g) : OwnB b H' e (updN r k g) L M (k + 1) := by
  have lt : ∀ i, i < k → r i < g := fun i hi => Nat.lt_of_lt_of_le (GHeap.lt_of_get (h.row i hi).2) hn
  refine ⟨fun i hi => ?_, fun i j hi hj hij => ?_⟩
  · by_cases ek : i = k
    · subst ek; rw [updN_eq]; exact ⟨hb, hg⟩
    · rw [updN_ne ek]; exact ⟨(h.row i (by omega)).1, s _ _ (h.row i (by omega)).2⟩
  · by_cases ei : i = k
    · by_cases ej : j = k
      · omega
      · subst ei
        rw [updN_eq, updN_ne ej] at hij
        have := lt j (by omega)
        omega
    · by_cases ej : j = k
      · subst ej
        rw [updN_eq, updN_ne ei] at hij
        have := lt i (by omega)
        omega
      · rw [updN_ne ei, updN_ne ej] at hij
        exact h.inj i j (by omega) (by omega) hij
/-- A row is written to. -/
theorem OwnB.put {b k i : Nat} {H H' : GHeap} {e : TypeId} {r : Nat → Nat} {L : Nat → Nat} {M M' : Nat → Nat → Bool} (h : OwnB b H e r L M k) (hi : i < k) (s : St [r i] H H') (hg : H'.get (r i) = some (.row (bools (tabB (L i) (M' i))) e true))
    (hM : ∀ j, j < k → j ≠ i → ∀ d, d < L j → M' j d = M j d) : OwnB b H' e r L M' k := ⟨fun j hj => by
  by_cases ej : j = i
  · subst ej; exact ⟨(h.row j hj).1, hg⟩
  · refine ⟨(h.row j hj).1, ?_⟩
    rw [tabB_congr (hM j hj ej)]
    exact s.same _ _ ⟨fun er => ej (h.inj j i hj hi er), trivial⟩ (h.row j hj).2, h.inj⟩
theorem OwnB.congr {b k : Nat} {H : GHeap} {e : TypeId} {r : Nat → Nat} {L : Nat → Nat} {M M' : Nat → Nat → Bool} (h : OwnB b H e r L M k) (hM : ∀ j, j < k → ∀ d, d < L j → M' j d = M j d) : OwnB b H e r L M' k :=
  ⟨fun j hj => ⟨(h.row j hj).1, by rw [tabB_congr (hM j hj)]; exact (h.row j hj).2⟩, h.inj⟩
/-- A list of lists of truth values. -/
structure BMat (b : Nat) (H : GHeap) (g : Nat) (e1 e2 : TypeId) (r : Nat → Nat) (L : Nat → Nat) (M : Nat → Nat → Bool) (n : Nat) : Prop where
  hd : H.get g = some (.row (slsN r L n) e1 true)
  gb : b ≤ g
  own : OwnB b H e2 r L M n
theorem BMat.keep {b b' n g : Nat} {H H' : GHeap} {e1 e2 : TypeId} {r : Nat → Nat} {L : Nat → Nat} {M : Nat → Nat → Bool} (h : BMat b H g e1 e2 r L M n) (k : Keep b' H H') (hb : b' ≤ b) : BMat b' H' g e1 e2 r L M n :=
  ⟨k _ _ (by have := h.gb; omega) h.hd, by have := h.gb; omega, fun i hi => ⟨by have := (h.own.row i hi).1; omega, k _ _ (by have := (h.own.row i hi).1; omega) (h.own.row i hi).2⟩, h.own.inj⟩
theorem BMat.mono {b n g : Nat} {H H' : GHeap} {e1 e2 : TypeId} {r : Nat → Nat} {L : Nat → Nat} {M : Nat → Nat → Bool} (h : BMat b H g e1 e2 r L M n) (hle : H.Le H') : BMat b H' g e1 e2 r L M n :=
  ⟨hle.2 _ _ h.hd, h.gb, fun i hi => ⟨(h.own.row i hi).1, hle.2 _ _ (h.own.row i hi).2⟩, h.own.inj⟩
theorem BMat.congr {b n g : Nat} {H : GHeap} {e1 e2 : TypeId} {r : Nat → Nat} {L : Nat → Nat} {M M' : Nat → Nat → Bool} (h : BMat b H g e1 e2 r L M n) (hM : ∀ j, j < n → ∀ d, d < L j → M' j d = M j d) : BMat b H g e1 e2 r L M' n := ⟨h.hd, h.gb, h.own.congr hM⟩
theorem BMat.row {b n g i : Nat} {H : GHeap} {e1 e2 : TypeId} {r : Nat → Nat} {L : Nat → Nat} {M : Nat → Nat → Bool} (h : BMat b H g e1 e2 r L M n) (hi : i < n) : Bools H (some ⟨r i, 0, none⟩) (tabB (L i) (M i)) := Bools.of_get (h.own.row i hi).2
/-- Two matrices, the second made behind the first: no row of the one is one of the other. -/
theorem BMat.lt {b n g i : Nat} {H : GHeap} {e1 e2 : TypeId} {r : Nat → Nat} {L : Nat → Nat} {M : Nat → Nat → Bool} (h : BMat b H g e1 e2 r L M n) : g < H.next ∧ (i < n → r i < H.next) := ⟨GHeap.lt_of_get h.hd, fun hi => GHeap.lt_of_get (h.own.row i hi).2⟩
/-- The entries up to (k, l), row by row, are new ones. -/
def meetM (N A : Nat → Nat → Bool) (k l : Nat) : Nat → Nat → Bool := fun x e => bif decide (x < k) || (x == k && decide (e < l)) then N x e else A x e
theorem meetM_zero {N A : Nat → Nat → Bool} : meetM N A 0 0 = A := by funext x e; simp [meetM]
theorem meetM_next {N A : Nat → Nat → Bool} {k n : Nat} {L : Nat → Nat} : ∀ j, j < n → ∀ d, d < L j → meetM N A (k + 1) 0 j d = meetM N A k (L k) j d := fun j _ d hd => by
  unfold meetM
  congr 1
  rw [Bool.eq_iff_iff]
  simp only [Bool.or_eq_true, decide_eq_true_eq, Bool.and_eq_true, beq_iff_eq]
  constructor
  · rintro (h | ⟨_, h⟩)
    · by_cases e : j = k
      · subst e; exact .inr ⟨rfl, hd⟩
      · exact .inl (by omega)
    · omega
  · rintro (h | ⟨rfl, _⟩)
    · exact .inl (by omega)
    · exact .inl (by omega)
theorem meetM_done {N A : Nat → Nat → Bool} {n : Nat} : ∀ j, j < n → ∀ d, N j d = meetM N A n 0 j d := fun j hj d => by
  unfold meetM
  have : decide (j < n) = true := by simpa using hj
  rw [this]; rfl
theorem meetM_at {N A : Nat → Nat → Bool} {k l : Nat} : meetM N A k l k l = A k l := by
  unfold meetM
  have : (decide (k < k) || (k == k && decide (l < l))) = false := by simp
  rw [this]; rfl
theorem meetM_set {N A : Nat → Nat → Bool} {k l n : Nat} {v : Bool} (hv : v = N k l) : (tabB n (meetM N A k l k)).set l v = tabB n (meetM N A k (l + 1) k) := by
  rw [tabB_set]
  refine tabB_congr fun d _ => ?_
  unfold meetM
  by_cases e : d = l
  · subst e
    have h1 : (d == d) = true := by simp
    have h2 : (decide (k < k) || (k == k && decide (d < d + 1))) = true := by simp
    rw [h1, h2, hv]; rfl
  · have h1 : (d == l) = false := by simpa using e
    have h2 : (decide (k < k) || (k == k && decide (d < l + 1))) = (decide (k < k) || (k == k && decide (d < l))) := by
      rw [Bool.eq_iff_iff]; simp; omega
    rw [h1, h2]; rfl
theorem meetM_other {N A : Nat → Nat → Bool} {k l n : Nat} {L : Nat → Nat} : ∀ j, j < n → j ≠ k → ∀ d, d < L j → meetM N A k (l + 1) j d = meetM N A k l j d := fun j _ hne d _ => by
  unfold meetM
  have h1 : (j == k) = false := by simpa using hne
  simp [h1]
theorem BMat.sl {b n g : Nat} {H : GHeap} {e1 e2 : TypeId} {r : Nat → Nat} {L : Nat → Nat} {M : Nat → Nat → Bool} (h : BMat b H g e1 e2 r L M n) : SlA H (some ⟨g, 0, none⟩) n (fun i => .slice (some ⟨r i, 0, none⟩) (L i) (L i)) :=
  .inr ⟨g, 0, rfl, fun i hi => by rw [GHeap.cell_of h.hd, Nat.zero_add]; simp [slsN, hi]⟩
theorem BMat.put {b n g i : Nat} {H H' : GHeap} {e1 e2 : TypeId} {r : Nat → Nat} {L : Nat → Nat} {M M' : Nat → Nat → Bool} (h : BMat b H g e1 e2 r L M n) (hi : i < n) (s : St [r i] H H') (hg : H'.get (r i) = some (.row (bools (tabB (L i) (M' i))) e2 true))
    (hM : ∀ j, j < n → j ≠ i → ∀ d, d < L j → M' j d = M j d) (hne : (e1 != e2) = true) : BMat b H' g e1 e2 r L M' n := ⟨by
    simp only [bne_iff_ne, ne_eq] at hne
    refine s.same _ _ ⟨fun ex => ?_, trivial⟩ h.hd
    have h1 := h.hd
    rw [ex, (h.own.row i hi).2] at h1
    injection h1 with h1
    injection h1 with _ h1 _
    exact hne h1.symm, h.gb, h.own.put hi s hg hM⟩
/-- Another matrix of rows of its own stays when a row of this one is written to. -/
theorem BMat.st {b n g k : Nat} {H H' : GHeap} {e1 e2 : TypeId} {r : Nat → Nat} {L : Nat → Nat} {M : Nat → Nat → Bool} (h : BMat b H g e1 e2 r L M n) (s : St [k] H H') (hlt : k < b) : BMat b H' g e1 e2 r L M n :=
  ⟨s.same _ _ ⟨by have := h.gb; omega, trivial⟩ h.hd, h.gb, fun i hi => ⟨(h.own.row i hi).1, s.same _ _ ⟨by have := (h.own.row i hi).1; omega, trivial⟩ (h.own.row i hi).2⟩, h.own.inj⟩
def NewBMat (e1 e2 : TypeId) (H : GHeap) (L : Nat → Nat) (M : Nat → Nat → Bool) (n : Nat) (v : Value) (H' : GHeap) : Prop := H.Le H' ∧ ∃ g r, v = .slice (some ⟨g, 0, none⟩) n n ∧ BMat H.next H' g e1 e2 r L M n

def hasL (me : List (List Int)) (x e : Nat) : Bool := (me.getD x []).contains (e : Int)
def opL (op : Bool → Bool → Bool) (p q : List (List Int)) (x e : Nat) : Bool := op (hasL p x e) (hasL q x e)
theorem markP_has {me : List (List Int)} {k : Nat} : markP (me.getD k []) (me.getD k []).length = hasL me k := markP_all _
/-- A connective of two parts. -/
def SFun.conn (f : SFun) (op : Bool → Bool → Bool) (p q : List (List Int)) : Prt := f.pick (opL op p q)
noncomputable def SFun.con (f : SFun) (op : Bool → Bool → Bool) (p q : List (List Int)) : Prt := bif B (f.Is ∧ f.Part p ∧ f.Part q) then f.conn op p q else ⟨[]⟩
noncomputable def SFun.conC (f : SFun) (p q : List (List Int)) : Int := bif B (f.Is ∧ f.Part p ∧ f.Part q) then 0 else 1
theorem SFun.con_not {f : SFun} {op : Bool → Bool → Bool} {p q : List (List Int)} (h : ¬ (f.Is ∧ f.Part p ∧ f.Part q)) : f.con op p q = ⟨[]⟩ ∧ f.conC p q = 1 := by unfold SFun.con SFun.conC; rw [B_false h]; exact ⟨rfl, rfl⟩
theorem SFun.con_ok {f : SFun} {op : Bool → Bool → Bool} {p q : List (List Int)} (h : f.Is ∧ f.Part p ∧ f.Part q) : f.con op p q = f.conn op p q ∧ f.conC p q = 0 := by unfold SFun.con SFun.conC; rw [B_true h]; exact ⟨rfl, rfl⟩
theorem SFun.pick_small {f : SFun} (hs : f.Small) (hz : ∀ i, i < f.sz.length → 0 ≤ f.sz.getD i 0 ∧ f.sz.getD i 0 ≤ 16) (Y : Nat → Nat → Bool) : (f.pick Y).Small := by
  obtain ⟨_, h2, _, _⟩ := hs
  refine ⟨by simp only [SFun.pick, length_rowsOf]; omega, fun i => ?_⟩
  simp only [SFun.pick]
  by_cases hi : i < f.sz.length
  · rw [rowsOf_get hi]
    have := hz i hi
    exact Nat.le_trans (filtN_le _ _) (by omega)
  · rw [List.getD_eq_getElem?_getD, List.getElem?_eq_none (by rw [length_rowsOf]; omega)]
    simp
theorem SFun.con_small {f : SFun} {op : Bool → Bool → Bool} {p q : List (List Int)} (hs : f.Small) : (f.con op p q).Small := by
  by_cases h : f.Is ∧ f.Part p ∧ f.Part q
  · rw [(SFun.con_ok h).1]; exact SFun.pick_small hs h.1.1.sz _
  · rw [(SFun.con_not h).1]; exact ⟨by simp, fun i => by simp⟩
/-- The image of a part under a map. -/
def SMap.dirY (m : SMap) (p : List (List Int)) (x d : Nat) : Bool := (p.getD x []).any fun e => (m.pa.getD x []).getD e.toNat 0 == (d : Int)
/-- The marks after k rows and l elements of row k. -/
def SMap.dirM (m : SMap) (p : List (List Int)) (k l : Nat) : Nat → Nat → Bool := fun x d => bif decide (x < k) then m.dirY p x d else bif x == k then ((p.getD k []).take l).any (fun e => (m.pa.getD k []).getD e.toNat 0 == (d : Int)) else false
theorem SMap.dirM_zero {m : SMap} {p : List (List Int)} : m.dirM p 0 0 = fun _ _ => false := by
  funext x d; unfold SMap.dirM
  have : decide (x < 0) = false := by simp
  rw [this]
  cases (x == 0) <;> simp
theorem SMap.dirM_next {m : SMap} {p : List (List Int)} {k n : Nat} {L : Nat → Nat} : ∀ j, j < n → ∀ d, d < L j → m.dirM p (k + 1) 0 j d = m.dirM p k (p.getD k []).length j d := fun j _ d _ => by
  unfold SMap.dirM
  rcases Nat.lt_trichotomy j k with h | h | h
  · have h1 : decide (j < k + 1) = true := by simp; omega
    have h2 : decide (j < k) = true := by simpa using h
    rw [h1, h2]; rfl
  · subst h
    have h1 : decide (j < j + 1) = true := by simp
    have h2 : decide (j < j) = false := by simp
    have h3 : (j == j) = true := by simp
    rw [h1, h2, h3, List.take_length]; rfl
  · have h1 : decide (j < k + 1) = false := by simp; omega
    have h2 : decide (j < k) = false := by simp; omega
    have h3 : (j == k) = false := by simp; omega
    rw [h1, h2, h3]
    cases (j == k + 1) <;> simp
theorem SMap.dirM_done {m : SMap} {p : List (List Int)} {n : Nat} : ∀ j, j < n → ∀ d, m.dirY p j d = m.dirM p n 0 j d := fun j hj d => by
  unfold SMap.dirM
  have : decide (j < n) = true := by simpa using hj
  rw [this]; rfl
theorem SMap.dirM_set {m : SMap} {p : List (List Int)} {k l n i : Nat} (hl : l < (p.getD k []).length) (hi : (m.pa.getD k []).getD ((p.getD k []).getD l 0).toNat 0 = (i : Int)) : (tabB n (m.dirM p k l k)).set i true = tabB n (m.dirM p k (l + 1) k) := by
  rw [tabB_set]
  refine tabB_congr fun d _ => ?_
  unfold SMap.dirM
  have h2 : decide (k < k) = false := by simp
  have h3 : (k == k) = true := by simp
  rw [h2, h3]
  have e1 : (p.getD k [])[l]? = some ((p.getD k []).getD l 0) := by rw [List.getD_eq_getElem?_getD (i := l), List.getElem?_eq_getElem hl]; rfl
  simp only [cond_false, cond_true, List.take_add_one, e1, Option.toList_some, List.any_append, List.any_cons, List.any_nil, Bool.or_false, hi]
  by_cases e : d = i
  · subst e; simp
  · have h4 : (d == i) = false := by simpa using e
    have h5 : ((i : Int) == (d : Int)) = false := by simp; omega
    rw [h4, h5]; simp
theorem SMap.dirM_other {m : SMap} {p : List (List Int)} {k l n : Nat} {L : Nat → Nat} : ∀ j, j < n → j ≠ k → ∀ d, d < L j → m.dirM p k (l + 1) j d = m.dirM p k l j d := fun j _ hne d _ => by
  unfold SMap.dirM
  have h1 : (j == k) = false := by simpa using hne
  rw [h1]; rfl
noncomputable def SMap.dir (m : SMap) (p : List (List Int)) : Prt := bif B (m.Is ∧ m.s.Part p) then m.t.pick (m.dirY p) else ⟨[]⟩
noncomputable def SMap.dirC (m : SMap) (p : List (List Int)) : Int := bif B (m.Is ∧ m.s.Part p) then 0 else 1
theorem SMap.dir_not {m : SMap} {p : List (List Int)} (h : ¬ (m.Is ∧ m.s.Part p)) : m.dir p = ⟨[]⟩ ∧ m.dirC p = 1 := by unfold SMap.dir SMap.dirC; rw [B_false h]; exact ⟨rfl, rfl⟩
theorem SMap.dir_ok {m : SMap} {p : List (List Int)} (h : m.Is ∧ m.s.Part p) : m.dir p = m.t.pick (m.dirY p) ∧ m.dirC p = 0 := by unfold SMap.dir SMap.dirC; rw [B_true h]; exact ⟨rfl, rfl⟩
theorem SMap.dir_small {m : SMap} {p : List (List Int)} (hs : m.Small) : (m.dir p).Small := by
  by_cases h : m.Is ∧ m.s.Part p
  · rw [(SMap.dir_ok h).1]; exact SFun.pick_small hs.2.1 h.1.1.t.1.sz _
  · rw [(SMap.dir_not h).1]; exact ⟨by simp, fun i => by simp⟩
end Go.GL
/- Parts that connectives and maps make. No condition but those of each statement. -/
namespace Go.Proofs.Ytbpehbbdodahaaa
open Go Go.GL Go.RowKit Go.Proofs
theorem sl_88_Ue : sliceT Try.prog 88 = some (90, 1) := by kernel_rfl
theorem ze_90_Ue : zeroT Try.prog 90 = some ([.slice none 0 0], 1) := by kernel_rfl
theorem sl_90_Ue : sliceT Try.prog 90 = some (4, 1) := by kernel_rfl
theorem ze_4_Ue : zeroT Try.prog 4 = some ([.bool false], 1) := by kernel_rfl
theorem by_4_Ue : (Try.prog.info? 4).map (·.bytes) = some 1 := by kernel_rfl
theorem sz_4_Ue : (Try.prog.info? 4).map (·.size) = some 1 := by kernel_rfl
theorem by_90_Ue : (Try.prog.info? 90).map (·.bytes) = some 24 := by kernel_rfl
theorem on_90_Ue : oneT Try.prog 90 = true := by kernel_rfl
theorem on_4_Ue : oneT Try.prog 4 = true := by kernel_rfl
set_option maxHeartbeats 4000000 in
theorem l26Marks_c {f : SFun} {p : SFunP} {a : Option Addr} {me : List (List Int)} {r : Nat → Option Addr} {H : GHeap} (hin : f.In H p := by assumption) (hm : Intss H a me r := by assumption) (hs : f.Small := by assumption)
    (hz : ∀ i, i < f.sz.length → 0 ≤ f.sz.getD i 0 ∧ f.sz.getD i 0 ≤ 16) (hml : me.length = f.sz.length) (hme : ∀ x, x < me.length → (me.getD x []).length ≤ 1048576 ∧ allIn (me.getD x []) (f.sz.getD x 0) = true) :
    GCalls Try.prog 71 [.agg (f.cells p).toArray, .slice a me.length me.length] H (NewBMat 90 4 H (fun x => (f.sz.getD x 0).toNat) (hasL me) f.sz.length) := by
  obtain ⟨s1, s2, s3, s4⟩ := hs
  refine GCalls.body (N := 46) (rs := [.tmp 4]) Try.func71 rfl rfl rfl rfl (fun Qx hret hend => ?_)
  refine .forget (fr' := [(0, some _), (1, some _)]) ⟨rfl, rfl, trivial⟩ ?_
  have hle := GHeap.Le.refl H
  have base_hin := hin
  have base_hm := hm
  refine .seq (fun K1 hK1 => ?_)
  refine .region ?_
  refine .r rfl rfl rfl (.boxR rfl sz_39_VSFun rfl) ?_
  rintro _ H2 ⟨g2, rfl, le2, ge2, at2⟩
  have nx_H2 := le2.1
  replace hle := hle.trans le2
  have lt_at2 := GHeap.lt_of_get at2
  replace hin := base_hin.mono hle
  replace hm := base_hm.mono hle
  have hb2 : SFun.At _ g2 0 f p := ⟨Mem.of_get at2, hin⟩
  obtain ⟨fsh2, c52, c62, i12, i22⟩ := hb2.get
  have hm2 : MemN _ _ _ _ _ := ⟨rfl, hb2.1⟩
  have hi2 := hb2.2
  have hmsh2 : MemN _ _ _ _ _ := ⟨rfl, fsh2.1⟩
  have hish2 := fsh2.2
  refine .m rfl rfl rfl (.assign rfl) ?_
  refine .nil ?_
  refine hK1 _ _ ?_
  refine .seq (fun K2 hK2 => ?_)
  refine .region ?_
  refine .r rfl rfl rfl (.litR rfl sl_88_Ue ze_90_Ue rfl rfl (by omega) (by omega) rfl rfl) ?_
  rintro _ H9 ⟨g9, rfl, le9, ge9, at9⟩
  have nx_H9 := le9.1
  replace hle := hle.trans le9
  replace at2 := le9.2 _ _ at2
  have lt_at9 := GHeap.lt_of_get at9
  replace hin := base_hin.mono hle
  replace hm := base_hm.mono hle
  clear hb2 fsh2 c52 c62 i12 i22 hm2 hi2 hmsh2 hish2
  have hb2 : SFun.At _ g2 0 f p := ⟨Mem.of_get at2, hin⟩
  obtain ⟨fsh2, c52, c62, i12, i22⟩ := hb2.get
  have hm2 : MemN _ _ _ _ _ := ⟨rfl, hb2.1⟩
  have hi2 := hb2.2
  have hmsh2 : MemN _ _ _ _ _ := ⟨rfl, fsh2.1⟩
  have hish2 := fsh2.2
  refine .m rfl rfl rfl (.assign rfl) ?_
  refine .nil ?_
  refine hK2 _ _ ?_
  refine .seq (fun K3 hK3 => ?_)
  refine .seq (fun K4 hK4 => ?_)
  refine .region ?_
  refine .m rfl rfl rfl (.assign rfl) ?_
  refine .nil ?_
  refine hK4 _ _ ?_
  refine .block ?_
  refine .loopR (σ := Nat × (Nat → Nat) × Nat × Nat) [(1, some _), (2, some _)] (fun (k, rr, gL5, nL5) => [(6, some (.int .i64 (k : Int))), (5, some (.slice (some ⟨gL5, 0, none⟩) nL5 nL5))]) (fun (k, rr, gL5, nL5) H' => St [g9] H9 H' ∧ H'.get gL5 = some (.row ((slsN rr (fun x => (f.sz.getD x 0).toNat) k)) 90 true) ∧ (gL5 = g9 ∨ H9.next ≤ gL5) ∧ nL5 = (slsN rr (fun x => (f.sz.getD x 0).toNat) k).length ∧ k ≤ f.sz.length ∧ OwnB H.next H' 4 rr (fun x => (f.sz.getD x 0).toNat) (hasL me) k) (fun (k, rr, gL5, nL5) => f.sz.length - k) ((0, fun _ => 0, _, _)) ⟨rfl, rfl, trivial⟩ ⟨rfl, rfl, trivial⟩ ?_ ?_
  ·
   refine ⟨.refl _ _, by first | assumption | exact at9 | simpa using at9, .inl rfl, by first | rfl | assumption | simp | omega, ?_⟩
   exact ⟨by omega, .zero _ _ _ _ _ _⟩
  ·
   rintro ⟨k, rr, gL5, nL5⟩ HL1 ⟨lst1, at_L5, pl_L5, ln_L5, hI⟩ KL1 hKL1
   refine .forget (fr' := [(6, some (.int .i64 (k : Int))), (5, some (.slice (some ⟨gL5, 0, none⟩) nL5 nL5)), (1, some _), (2, some _)]) ⟨rfl, rfl, rfl, rfl, trivial⟩ ?_
   have ge_L5 : H.next ≤ gL5 := by omega
   have nx_HL1 := lst1.nx
   replace hle := hle.st lst1 (fun k hk => ⟨by omega, trivial⟩)
   replace at2 := lst1.same _ _ ⟨by omega, trivial⟩ at2
   have lt_at_L5 := GHeap.lt_of_get at_L5
   replace hin := base_hin.mono hle
   replace hm := base_hm.mono hle
   clear hb2 fsh2 c52 c62 i12 i22 hm2 hi2 hmsh2 hish2
   have hb2 : SFun.At _ g2 0 f p := ⟨Mem.of_get at2, hin⟩
   obtain ⟨fsh2, c52, c62, i12, i22⟩ := hb2.get
   have hm2 : MemN _ _ _ _ _ := ⟨rfl, hb2.1⟩
   have hi2 := hb2.2
   have hmsh2 : MemN _ _ _ _ _ := ⟨rfl, fsh2.1⟩
   have hish2 := fsh2.2
   have rk := St.refl [gL5] HL1
   obtain ⟨hk, hR⟩ := hI
   have hat5 := at_L5
   have hfl : (slsN rr (fun x => (f.sz.getD x 0).toNat) k).length = k := length_slsN _ _ _
   refine .seq (fun K5 hK5 => ?_)
   refine .seq (fun K6 hK6 => ?_)
   refine .region ?_
   refine .m rfl rfl rfl (.move rfl) ?_
   refine .m rfl rfl rfl (.fieldAddr fo_39_1_P rfl) ?_
   refine .m rfl rfl rfl (.load on_22_B rfl (by assumption)) ?_
   refine .m rfl rfl rfl (.len sl_22_A rfl) ?_
   refine .m rfl rfl rfl (.cmp rfl rfl rfl) ?_
   refine .nil ?_
   refine hK6 _ _ ?_
   refine .cond rfl (fun h14 => ?_) (fun h14 => ?_)
   ·
    simp only [sps] at h14
    have r2 := hz k (by omega)
    have r3 := hme k (by omega)
    have r4 := allIn_iff.1 r3.2
    have r1 := hm.2 k (by omega)
    refine .skip ?_
    refine hK5 _ _ ?_
    refine .seq (fun K7 hK7 => ?_)
    refine .block ?_
    refine .seq (fun K8 hK8 => ?_)
    refine .region ?_
    refine .m rfl rfl rfl (.fieldAddr fo_39_1_P rfl) ?_
    refine .m rfl rfl rfl (.load on_22_B rfl (by assumption)) ?_
    refine .m rfl rfl rfl (.move rfl) ?_
    refine .m rfl rfl rfl (.idxN sl_22_A (by assumption) rfl rfl (by omega)) ?_
    refine .m rfl rfl rfl (.loadI on_2_A (by assumption) rfl (by omega)) ?_
    refine .r rfl rfl rfl (.makeB rfl sl_90_Ue ze_4_Ue by_4_Ue rfl rfl (by omega) (by omega) (by omega) (by omega)) ?_
    rintro _ H22 ⟨g22, rfl, le22, ge22, at22⟩
    have nx_H22 := le22.1
    replace hle := hle.trans le22
    replace lst1 := lst1.le le22
    replace rk := rk.le le22
    replace at2 := le22.2 _ _ at2
    replace at_L5 := le22.2 _ _ at_L5
    have lt_at22 := GHeap.lt_of_get at22
    replace hin := base_hin.mono hle
    replace hm := base_hm.mono hle
    clear hb2 fsh2 c52 c62 i12 i22 hm2 hi2 hmsh2 hish2
    have hb2 : SFun.At _ g2 0 f p := ⟨Mem.of_get at2, hin⟩
    obtain ⟨fsh2, c52, c62, i12, i22⟩ := hb2.get
    have hm2 : MemN _ _ _ _ _ := ⟨rfl, hb2.1⟩
    have hi2 := hb2.2
    have hmsh2 : MemN _ _ _ _ _ := ⟨rfl, fsh2.1⟩
    have hish2 := fsh2.2
    clear r1
    have r1 := hm.2 k (by omega)
    refine .m rfl rfl rfl (.assign rfl) ?_
    refine .nil ?_
    refine hK8 _ _ ?_
    refine .seq (fun K9 hK9 => ?_)
    refine .seq (fun K10 hK10 => ?_)
    refine .region ?_
    refine .m rfl rfl rfl (.assign rfl) ?_
    refine .nil ?_
    refine hK10 _ _ ?_
    refine .block ?_
    refine .loopR (σ := Nat) [(1, some _), (2, some _), (5, some _), (6, some _), (7, some _)] (fun e => [(8, some (.int .i64 (e : Int)))]) (fun e H' => St [g22] H22 H' ∧ H'.get g22 = some (.row (bools (tabB (f.sz.getD k 0).toNat (markP (me.getD k []) e))) 4 true) ∧ e ≤ (me.getD k []).length) (fun e => (me.getD k []).length - e) (0) ⟨rfl, rfl, rfl, rfl, rfl, trivial⟩ ⟨rfl, trivial⟩ ?_ ?_
    ·
     refine ⟨.refl _ _, by (rw [markP_zero, ← tabB_false]; assumption), ?_⟩
     omega
    ·
     rintro e HL2 ⟨lst2, at_L7, hI⟩ KL2 hKL2
     refine .forget (fr' := [(8, some (.int .i64 (e : Int))), (1, some _), (2, some _), (5, some _), (6, some _), (7, some _)]) ⟨rfl, rfl, rfl, rfl, rfl, rfl, trivial⟩ ?_
     have nx_HL2 := lst2.nx
     replace hle := hle.st lst2 (fun k hk => ⟨by omega, trivial⟩)
     replace lst1 := lst1.st lst2 (fun k hk ho => by simp only [out, and_true] at ho ⊢ <;> omega)
     replace rk := rk.st lst2 (fun k hk ho => by simp only [out, and_true] at ho ⊢ <;> omega)
     replace at2 := lst2.same _ _ ⟨by omega, trivial⟩ at2
     replace at_L5 := lst2.same _ _ ⟨by omega, trivial⟩ at_L5
     have lt_at_L7 := GHeap.lt_of_get at_L7
     replace hin := base_hin.mono hle
     replace hm := base_hm.mono hle
     clear hb2 fsh2 c52 c62 i12 i22 hm2 hi2 hmsh2 hish2
     have hb2 : SFun.At _ g2 0 f p := ⟨Mem.of_get at2, hin⟩
     obtain ⟨fsh2, c52, c62, i12, i22⟩ := hb2.get
     have hm2 : MemN _ _ _ _ _ := ⟨rfl, hb2.1⟩
     have hi2 := hb2.2
     have hmsh2 : MemN _ _ _ _ _ := ⟨rfl, fsh2.1⟩
     have hish2 := fsh2.2
     clear r1
     have r1 := hm.2 k (by omega)
     have b7 := (Bools.of_get at_L7).tabS
     have hlb : (tabB (f.sz.getD k 0).toNat (markP (me.getD k []) e)).length = (f.sz.getD k 0).toNat := length_tabB _ _
     refine .seq (fun K11 hK11 => ?_)
     refine .seq (fun K12 hK12 => ?_)
     refine .region ?_
     refine .m rfl rfl rfl (.move rfl) ?_
     refine .m rfl rfl rfl (.move rfl) ?_
     refine .m rfl rfl rfl (.move rfl) ?_
     refine .m rfl rfl rfl (.idxN sl_23_B (Intss.sl (by assumption)) rfl rfl (by omega)) ?_
     refine .m rfl rfl rfl (.loadR on_22_B (by assumption) rfl (by omega)) ?_
     refine .m rfl rfl rfl (.len sl_22_A rfl) ?_
     refine .m rfl rfl rfl (.cmp rfl rfl rfl) ?_
     refine .nil ?_
     refine hK12 _ _ ?_
     refine .cond rfl (fun h29 => ?_) (fun h29 => ?_)
     ·
      simp only [sps] at h29
      have r5 := r4 e (by omega)
      refine .skip ?_
      refine hK11 _ _ ?_
      refine .seq (fun K13 hK13 => ?_)
      refine .block ?_
      refine .region ?_
      refine .m rfl rfl rfl (.move rfl) ?_
      refine .m rfl rfl rfl (.move rfl) ?_
      refine .m rfl rfl rfl (.move rfl) ?_
      refine .m rfl rfl rfl (.idxN sl_23_B (Intss.sl (by assumption)) rfl rfl (by omega)) ?_
      refine .m rfl rfl rfl (.loadR on_22_B (by assumption) rfl (by omega)) ?_
      refine .m rfl rfl rfl (.move rfl) ?_
      refine .m rfl rfl rfl (.idxN sl_22_A (by assumption) rfl rfl (by omega)) ?_
      refine .m rfl rfl rfl (.loadI on_2_A (by assumption) rfl (by omega)) ?_
      refine .m rfl rfl rfl (.idx1 sl_90_Ue (by assumption) rfl rfl (by omega) (by omega)) ?_
      refine .r0 rfl rfl (.storeB rfl sz_4_Ue rfl rfl (by assumption) (by first | omega | (simp <;> omega))) ?_
      rintro _ H9009 ⟨rfl, st9009, at9009⟩
      have nx_H9009 := st9009.nx
      replace hle := hle.st st9009 (fun k hk => ⟨by omega, trivial⟩)
      replace lst1 := lst1.st st9009 (fun k hk ho => by simp only [out, and_true] at ho ⊢ <;> omega)
      replace rk := rk.st st9009 (fun k hk ho => by simp only [out, and_true] at ho ⊢ <;> omega)
      replace lst2 := lst2.st st9009 (fun k hk ho => by simp only [out, and_true] at ho ⊢ <;> omega)
      replace at2 := st9009.same _ _ ⟨by omega, trivial⟩ at2
      replace at_L5 := st9009.same _ _ ⟨by omega, trivial⟩ at_L5
      have lt_at9009 := GHeap.lt_of_get at9009
      replace hin := base_hin.mono hle
      replace hm := base_hm.mono hle
      clear hb2 fsh2 c52 c62 i12 i22 hm2 hi2 hmsh2 hish2
      have hb2 : SFun.At _ g2 0 f p := ⟨Mem.of_get at2, hin⟩
      obtain ⟨fsh2, c52, c62, i12, i22⟩ := hb2.get
      have hm2 : MemN _ _ _ _ _ := ⟨rfl, hb2.1⟩
      have hi2 := hb2.2
      have hmsh2 : MemN _ _ _ _ _ := ⟨rfl, fsh2.1⟩
      have hish2 := fsh2.2
      clear r1
      have r1 := hm.2 k (by omega)
      refine .nil ?_
      refine hK13 _ _ ?_
      refine .region ?_
      refine .m rfl rfl rfl (.move rfl) ?_
      refine .m rfl rfl rfl (.add rfl rfl rfl (by omega) (by omega)) ?_
      refine .m rfl rfl rfl (.assign rfl) ?_
      refine .nil ?_
      refine hKL2 (e + 1) _ _ ?_ ?_ ⟨rfl, rfl, rfl, rfl, rfl, rfl, trivial⟩
      ·
       refine ⟨lst2, by (rw [markP_succ (by omega) (by omega)]; simpa using at9009), ?_⟩
       omega
      ·
       omega
     ·
      try simp only [sps] at h29
      refine .exit ?_
      refine hK9 _ _ ?_
      refine .region ?_
      obtain rfl : e = (me.getD k []).length := by omega
      refine .m rfl rfl rfl (.move rfl) ?_
      refine .m rfl rfl rfl (.move rfl) ?_
      refine .r rfl rfl rfl (.litR rfl sl_88_Ue ze_90_Ue rfl rfl (by omega) (by omega) rfl rfl) ?_
      rintro _ H43 ⟨g43, rfl, le43, ge43, at43⟩
      have nx_H43 := le43.1
      replace hle := hle.trans le43
      replace lst1 := lst1.le le43
      replace rk := rk.le le43
      replace at2 := le43.2 _ _ at2
      replace at_L5 := le43.2 _ _ at_L5
      replace at_L7 := le43.2 _ _ at_L7
      have lt_at43 := GHeap.lt_of_get at43
      replace hin := base_hin.mono hle
      replace hm := base_hm.mono hle
      clear hb2 fsh2 c52 c62 i12 i22 hm2 hi2 hmsh2 hish2
      have hb2 : SFun.At _ g2 0 f p := ⟨Mem.of_get at2, hin⟩
      obtain ⟨fsh2, c52, c62, i12, i22⟩ := hb2.get
      have hm2 : MemN _ _ _ _ _ := ⟨rfl, hb2.1⟩
      have hi2 := hb2.2
      have hmsh2 : MemN _ _ _ _ _ := ⟨rfl, fsh2.1⟩
      have hish2 := fsh2.2
      clear r1
      have r1 := hm.2 k (by omega)
      refine .r rfl rfl rfl (.appendV rfl sl_88_Ue ze_90_Ue rfl by_90_Ue sl_88_Ue rfl rfl (by assumption) (by assumption) (by first | omega | (simp <;> omega)) rfl rfl (by omega) (by omega)) ?_
      rintro _ H44 ⟨g44, rfl, st44, ge44, at44⟩
      have nx_H44 := st44.nx
      replace hle := hle.st st44 (fun k hk => ⟨by omega, trivial⟩)
      replace lst1 := lst1.st st44 (fun k hk ho => by simp only [out, and_true] at ho ⊢ <;> omega)
      replace rk := rk.st st44 (fun k hk ho => by simp only [out, and_true] at ho ⊢ <;> omega)
      replace at2 := st44.same _ _ ⟨by omega, trivial⟩ at2
      replace at_L7 := st44.same _ _ ⟨by omega, trivial⟩ at_L7
      replace at43 := st44.same _ _ ⟨by omega, trivial⟩ at43
      have lt_at44 := GHeap.lt_of_get at44
      replace hin := base_hin.mono hle
      replace hm := base_hm.mono hle
      clear hb2 fsh2 c52 c62 i12 i22 hm2 hi2 hmsh2 hish2
      have hb2 : SFun.At _ g2 0 f p := ⟨Mem.of_get at2, hin⟩
      obtain ⟨fsh2, c52, c62, i12, i22⟩ := hb2.get
      have hm2 : MemN _ _ _ _ _ := ⟨rfl, hb2.1⟩
      have hi2 := hb2.2
      have hmsh2 : MemN _ _ _ _ _ := ⟨rfl, fsh2.1⟩
      have hish2 := fsh2.2
      clear r1
      have r1 := hm.2 k (by omega)
      refine .m rfl rfl rfl (.assign rfl) ?_
      refine .nil ?_
      refine hK7 _ _ ?_
      refine .region ?_
      refine .m rfl rfl rfl (.move rfl) ?_
      refine .m rfl rfl rfl (.add rfl rfl rfl (by omega) (by omega)) ?_
      refine .m rfl rfl rfl (.assign rfl) ?_
      refine .nil ?_
      refine hKL1 ((k + 1, updN rr k g22, _, _)) _ _ ?_ ?_ ⟨rfl, rfl, rfl, rfl, trivial⟩
      ·
       refine ⟨lst1, by first | assumption | (rw [slsN_succ]; assumption), by omega, by first | omega | (simp only [List.length_append, List.length_cons, List.length_nil] <;> omega) | (rw [slsN_succ] <;> (first | omega | (simp only [List.length_append, List.length_cons, List.length_nil] <;> omega))), ?_⟩
       exact ⟨by omega, hR.succ (rk.lastsV1 hat5 rfl) (by rw [← markP_has]; assumption) (by omega) (by omega)⟩
      ·
       (dsimp only; omega)
   ·
    try simp only [sps] at h14
    refine .exit ?_
    refine hK3 _ _ ?_
    refine .seq (fun K14 hK14 => ?_)
    refine .region ?_
    refine .m rfl rfl rfl (.move rfl) ?_
    refine .m rfl rfl rfl (.assign rfl) ?_
    refine .nil ?_
    refine hK14 _ _ ?_
    refine .ret ?_
    -- leaf e1
    refine hret _ _ ?_
    refine ⟨_, rfl, ?_⟩
    obtain rfl : k = f.sz.length := by omega
    exact ⟨hle, _, rr, by rw [ln_L5]; simp, at_L5, by omega, hR⟩
set_option maxHeartbeats 4000000 in
theorem l26Marked_c {b g n : Nat} {r L : Nat → Nat} {M : Nat → Nat → Bool} {H : GHeap} (h : BMat b H g 90 4 r L M n := by assumption) (hn : n ≤ 1048576 := by omega) (hL : ∀ i, i < n → L i ≤ 1048576) :
    GCalls Try.prog 72 [.slice (some ⟨g, 0, none⟩) n n] H (NewIntssR H (rowsOf (fun x => filtN (L x) (M x)) n)) := by
  refine GCalls.body (N := 40) (rs := [.tmp 2]) Try.func72 rfl rfl rfl rfl (fun Qx hret hend => ?_)
  refine .forget (fr' := [(0, some _)]) ⟨rfl, trivial⟩ ?_
  have hle := GHeap.Le.refl H
  have base_h := h
  have hsl := h.sl
  refine .seq (fun K1 hK1 => ?_)
  refine .region ?_
  refine .m rfl rfl rfl (.assign rfl) ?_
  refine .nil ?_
  refine hK1 _ _ ?_
  refine .seq (fun K2 hK2 => ?_)
  refine .region ?_
  refine .r rfl rfl rfl (.litR rfl sl_23_B ze_22_E rfl rfl (by omega) (by omega) rfl rfl) ?_
  rintro _ H7 ⟨g7, rfl, le7, ge7, at7⟩
  have nx_H7 := le7.1
  replace hle := hle.trans le7
  have lt_at7 := GHeap.lt_of_get at7
  replace h := base_h.mono hle
  clear hsl
  have hsl := h.sl
  refine .m rfl rfl rfl (.assign rfl) ?_
  refine .nil ?_
  refine hK2 _ _ ?_
  refine .seq (fun K3 hK3 => ?_)
  refine .seq (fun K4 hK4 => ?_)
  refine .region ?_
  refine .m rfl rfl rfl (.assign rfl) ?_
  refine .nil ?_
  refine hK4 _ _ ?_
  refine .block ?_
  refine .loopR (σ := Nat × (Nat → Option Addr) × Nat × Nat) [(0, some _)] (fun (k, rr, gL3, nL3) => [(4, some (.int .i64 (k : Int))), (3, some (.slice (some ⟨gL3, 0, none⟩) nL3 nL3))]) (fun (k, rr, gL3, nL3) H' => St [g7] H7 H' ∧ H'.get gL3 = some (.row ((slsOf rr (fun x => filtN (L x) (M x)) k)) 22 true) ∧ (gL3 = g7 ∨ H7.next ≤ gL3) ∧ nL3 = (slsOf rr (fun x => filtN (L x) (M x)) k).length ∧ k ≤ n ∧ OwnRows H.next H' 2 rr (fun x => filtN (L x) (M x)) k) (fun (k, rr, gL3, nL3) => n - k) ((0, fun _ => none, _, _)) ⟨rfl, trivial⟩ ⟨rfl, rfl, trivial⟩ ?_ ?_
  ·
   refine ⟨.refl _ _, by first | assumption | exact at7 | simpa using at7, .inl rfl, by first | rfl | assumption | simp | omega, ?_⟩
   exact ⟨by omega, .zero _ _ _ _ _⟩
  ·
   rintro ⟨k, rr, gL3, nL3⟩ HL1 ⟨lst1, at_L3, pl_L3, ln_L3, hI⟩ KL1 hKL1
   refine .forget (fr' := [(4, some (.int .i64 (k : Int))), (3, some (.slice (some ⟨gL3, 0, none⟩) nL3 nL3)), (0, some _)]) ⟨rfl, rfl, rfl, trivial⟩ ?_
   have ge_L3 : H.next ≤ gL3 := by omega
   have nx_HL1 := lst1.nx
   replace hle := hle.st lst1 (fun k hk => ⟨by omega, trivial⟩)
   have lt_at_L3 := GHeap.lt_of_get at_L3
   replace h := base_h.mono hle
   clear hsl
   have hsl := h.sl
   have rk := St.refl [gL3] HL1
   obtain ⟨hk, hR⟩ := hI
   have hat3 := at_L3
   have hfl : (slsOf rr (fun x => filtN (L x) (M x)) k).length = k := length_slsOf _ _ _
   refine .seq (fun K5 hK5 => ?_)
   refine .seq (fun K6 hK6 => ?_)
   refine .region ?_
   refine .m rfl rfl rfl (.move rfl) ?_
   refine .m rfl rfl rfl (.move rfl) ?_
   refine .m rfl rfl rfl (.len sl_88_Ue rfl) ?_
   refine .m rfl rfl rfl (.cmp rfl rfl rfl) ?_
   refine .nil ?_
   refine hK6 _ _ ?_
   refine .cond rfl (fun h11 => ?_) (fun h11 => ?_)
   ·
    simp only [sps] at h11
    have r2 := hL k (by omega)
    have r1 := h.row (i := k) (by omega)
    have r3 := r1.tabS
    refine .skip ?_
    refine hK5 _ _ ?_
    refine .seq (fun K7 hK7 => ?_)
    refine .block ?_
    refine .seq (fun K8 hK8 => ?_)
    refine .region ?_
    refine .r rfl rfl rfl (.litR rfl sl_22_A ze_2_E rfl rfl (by omega) (by omega) rfl rfl) ?_
    rintro _ H14 ⟨g14, rfl, le14, ge14, at14⟩
    have nx_H14 := le14.1
    replace hle := hle.trans le14
    replace lst1 := lst1.le le14
    replace rk := rk.le le14
    replace at_L3 := le14.2 _ _ at_L3
    have lt_at14 := GHeap.lt_of_get at14
    replace h := base_h.mono hle
    clear hsl
    have hsl := h.sl
    clear r1 r3
    have r1 := h.row (i := k) (by omega)
    have r3 := r1.tabS
    replace at14 : GHeap.get H14 g14 = some (.row (ints []) 2 true) := at14
    refine .m rfl rfl rfl (.assign rfl) ?_
    refine .nil ?_
    refine hK8 _ _ ?_
    refine .seq (fun K9 hK9 => ?_)
    refine .seq (fun K10 hK10 => ?_)
    refine .region ?_
    refine .m rfl rfl rfl (.assign rfl) ?_
    refine .nil ?_
    refine hK10 _ _ ?_
    refine .block ?_
    refine .loopR (σ := Nat × Nat × Nat) [(0, some _), (3, some _), (4, some _)] (fun (e, gL5, nL5) => [(6, some (.int .i64 (e : Int))), (5, some (.slice (some ⟨gL5, 0, none⟩) nL5 nL5))]) (fun (e, gL5, nL5) H' => St [g14] H14 H' ∧ H'.get gL5 = some (.row (ints (filtN e (M k))) 2 true) ∧ (gL5 = g14 ∨ H14.next ≤ gL5) ∧ nL5 = (filtN e (M k)).length ∧ e ≤ L k) (fun (e, gL5, nL5) => L k - e) ((0, _, _)) ⟨rfl, rfl, rfl, trivial⟩ ⟨rfl, rfl, trivial⟩ ?_ ?_
    ·
     refine ⟨.refl _ _, by first | assumption | exact at14 | simpa using at14, .inl rfl, by first | rfl | assumption | simp | omega, ?_⟩
     omega
    ·
     rintro ⟨e, gL5, nL5⟩ HL2 ⟨lst2, at_L5, pl_L5, ln_L5, hI⟩ KL2 hKL2
     refine .forget (fr' := [(6, some (.int .i64 (e : Int))), (5, some (.slice (some ⟨gL5, 0, none⟩) nL5 nL5)), (0, some _), (3, some _), (4, some _)]) ⟨rfl, rfl, rfl, rfl, rfl, trivial⟩ ?_
     have ge_L5 : H.next ≤ gL5 := by omega
     have nx_HL2 := lst2.nx
     replace hle := hle.st lst2 (fun k hk => ⟨by omega, trivial⟩)
     replace lst1 := lst1.st lst2 (fun k hk ho => by simp only [out, and_true] at ho ⊢ <;> omega)
     replace rk := rk.st lst2 (fun k hk ho => by simp only [out, and_true] at ho ⊢ <;> omega)
     replace at_L3 := lst2.same _ _ ⟨by omega, trivial⟩ at_L3
     have lt_at_L5 := GHeap.lt_of_get at_L5
     replace h := base_h.mono hle
     clear hsl
     have hsl := h.sl
     clear r1 r3
     have r1 := h.row (i := k) (by omega)
     have r3 := r1.tabS
     have hfl2 := filtN_le e (M k)
     refine .seq (fun K11 hK11 => ?_)
     refine .seq (fun K12 hK12 => ?_)
     refine .region ?_
     refine .m rfl rfl rfl (.move rfl) ?_
     refine .m rfl rfl rfl (.move rfl) ?_
     refine .m rfl rfl rfl (.move rfl) ?_
     refine .m rfl rfl rfl (.idxN sl_88_Ue (by assumption) rfl rfl (by omega)) ?_
     refine .m rfl rfl rfl (.loadE on_90_Ue (by assumption) rfl (by omega)) ?_
     refine .m rfl rfl rfl (.len sl_90_Ue rfl) ?_
     refine .m rfl rfl rfl (.cmp rfl rfl rfl) ?_
     refine .nil ?_
     refine hK12 _ _ ?_
     refine .cond rfl (fun h21 => ?_) (fun h21 => ?_)
     ·
      simp only [sps] at h21
      have hlb : (tabB (L k) (M k)).length = L k := length_tabB _ _
      refine .skip ?_
      refine hK11 _ _ ?_
      refine .seq (fun K13 hK13 => ?_)
      refine .block ?_
      refine .seq (fun K14 hK14 => ?_)
      refine .region ?_
      refine .m rfl rfl rfl (.move rfl) ?_
      refine .m rfl rfl rfl (.move rfl) ?_
      refine .m rfl rfl rfl (.idxN sl_88_Ue (by assumption) rfl rfl (by omega)) ?_
      refine .m rfl rfl rfl (.loadE on_90_Ue (by assumption) rfl (by omega)) ?_
      refine .m rfl rfl rfl (.move rfl) ?_
      refine .m rfl rfl rfl (.idxN sl_90_Ue (by assumption) rfl rfl (by omega)) ?_
      refine .m rfl rfl rfl (.loadB on_4_Ue (by assumption) rfl (by omega)) ?_
      refine .nil ?_
      refine hK14 _ _ ?_
      refine .cond rfl (fun h30 => ?_) (fun h30 => ?_)
      ·
       rw [tabB_get (by omega)] at h30
       refine .region ?_
       refine .m rfl rfl rfl (.move rfl) ?_
       refine .m rfl rfl rfl (.move rfl) ?_
       refine .r rfl rfl rfl (.litR rfl sl_22_A ze_2_E rfl rfl (by omega) (by omega) rfl rfl) ?_
       rintro _ H33 ⟨g33, rfl, le33, ge33, at33⟩
       have nx_H33 := le33.1
       replace hle := hle.trans le33
       replace lst1 := lst1.le le33
       replace rk := rk.le le33
       replace lst2 := lst2.le le33
       replace at_L3 := le33.2 _ _ at_L3
       replace at_L5 := le33.2 _ _ at_L5
       have lt_at33 := GHeap.lt_of_get at33
       replace h := base_h.mono hle
       clear hsl
       have hsl := h.sl
       clear r1 r3
       have r1 := h.row (i := k) (by omega)
       have r3 := r1.tabS
       refine .r rfl rfl rfl (.appendI rfl sl_22_A ze_2_E rfl by_2_E sl_22_A rfl rfl (by assumption) (by assumption) (by first | omega | (simp <;> omega)) (by omega) (by omega)) ?_
       rintro _ H34 ⟨g34, rfl, st34, ge34, at34⟩
       have nx_H34 := st34.nx
       replace hle := hle.st st34 (fun k hk => ⟨by omega, trivial⟩)
       replace lst1 := lst1.st st34 (fun k hk ho => by simp only [out, and_true] at ho ⊢ <;> omega)
       replace rk := rk.st st34 (fun k hk ho => by simp only [out, and_true] at ho ⊢ <;> omega)
       replace lst2 := lst2.st st34 (fun k hk ho => by simp only [out, and_true] at ho ⊢ <;> omega)
       replace at_L3 := st34.same _ _ ⟨by omega, trivial⟩ at_L3
       replace at33 := st34.same _ _ ⟨by omega, trivial⟩ at33
       have lt_at34 := GHeap.lt_of_get at34
       replace h := base_h.mono hle
       clear hsl
       have hsl := h.sl
       clear r1 r3
       have r1 := h.row (i := k) (by omega)
       have r3 := r1.tabS
       refine .m rfl rfl rfl (.assign rfl) ?_
       refine .nil ?_
       refine hK13 _ _ ?_
       refine .region ?_
       refine .m rfl rfl rfl (.move rfl) ?_
       refine .m rfl rfl rfl (.add rfl rfl rfl (by omega) (by omega)) ?_
       refine .m rfl rfl rfl (.assign rfl) ?_
       refine .nil ?_
       refine hKL2 ((e + 1, _, _)) _ _ ?_ ?_ ⟨rfl, rfl, rfl, rfl, rfl, trivial⟩
       ·
        refine ⟨lst2, by first | assumption | (rw [filtN_T h30]; assumption) | (rw [filtN_F h30]; assumption), by omega, by first | omega | (simp only [List.length_append, List.length_cons, List.length_nil] <;> omega) | (rw [filtN_T h30] <;> (first | omega | (simp only [List.length_append, List.length_cons, List.length_nil] <;> omega))) | (rw [filtN_F h30] <;> (first | omega | (simp only [List.length_append, List.length_cons, List.length_nil] <;> omega))), ?_⟩
        omega
       ·
        (dsimp only; omega)
      ·
       rw [tabB_get (by omega)] at h30
       refine .skip ?_
       refine hK13 _ _ ?_
       refine .region ?_
       refine .m rfl rfl rfl (.move rfl) ?_
       refine .m rfl rfl rfl (.add rfl rfl rfl (by omega) (by omega)) ?_
       refine .m rfl rfl rfl (.assign rfl) ?_
       refine .nil ?_
       refine hKL2 ((e + 1, _, _)) _ _ ?_ ?_ ⟨rfl, rfl, rfl, rfl, rfl, trivial⟩
       ·
        refine ⟨lst2, by first | assumption | (rw [filtN_T h30]; assumption) | (rw [filtN_F h30]; assumption), by omega, by first | omega | (simp only [List.length_append, List.length_cons, List.length_nil] <;> omega) | (rw [filtN_T h30] <;> (first | omega | (simp only [List.length_append, List.length_cons, List.length_nil] <;> omega))) | (rw [filtN_F h30] <;> (first | omega | (simp only [List.length_append, List.length_cons, List.length_nil] <;> omega))), ?_⟩
        omega
       ·
        (dsimp only; omega)
     ·
      try simp only [sps] at h21
      refine .exit ?_
      refine hK9 _ _ ?_
      refine .region ?_
      obtain rfl : e = L k := by omega
      obtain rfl := ln_L5
      refine .m rfl rfl rfl (.move rfl) ?_
      refine .m rfl rfl rfl (.move rfl) ?_
      refine .r rfl rfl rfl (.litR rfl sl_23_B ze_22_E rfl rfl (by omega) (by omega) rfl rfl) ?_
      rintro _ H37 ⟨g37, rfl, le37, ge37, at37⟩
      have nx_H37 := le37.1
      replace hle := hle.trans le37
      replace lst1 := lst1.le le37
      replace rk := rk.le le37
      replace at_L3 := le37.2 _ _ at_L3
      replace at_L5 := le37.2 _ _ at_L5
      have lt_at37 := GHeap.lt_of_get at37
      replace h := base_h.mono hle
      clear hsl
      have hsl := h.sl
      clear r1 r3
      have r1 := h.row (i := k) (by omega)
      have r3 := r1.tabS
      refine .r rfl rfl rfl (.appendV rfl sl_23_B ze_22_E rfl by_22_E sl_23_B rfl rfl (by assumption) (by assumption) (by first | omega | (simp <;> omega)) rfl rfl (by omega) (by omega)) ?_
      rintro _ H38 ⟨g38, rfl, st38, ge38, at38⟩
      have nx_H38 := st38.nx
      replace hle := hle.st st38 (fun k hk => ⟨by omega, trivial⟩)
      replace lst1 := lst1.st st38 (fun k hk ho => by simp only [out, and_true] at ho ⊢ <;> omega)
      replace rk := rk.st st38 (fun k hk ho => by simp only [out, and_true] at ho ⊢ <;> omega)
      replace at_L5 := st38.same _ _ ⟨by omega, trivial⟩ at_L5
      replace at37 := st38.same _ _ ⟨by omega, trivial⟩ at37
      have lt_at38 := GHeap.lt_of_get at38
      replace h := base_h.mono hle
      clear hsl
      have hsl := h.sl
      clear r1 r3
      have r1 := h.row (i := k) (by omega)
      have r3 := r1.tabS
      refine .m rfl rfl rfl (.assign rfl) ?_
      refine .nil ?_
      refine hK7 _ _ ?_
      refine .region ?_
      refine .m rfl rfl rfl (.move rfl) ?_
      refine .m rfl rfl rfl (.add rfl rfl rfl (by omega) (by omega)) ?_
      refine .m rfl rfl rfl (.assign rfl) ?_
      refine .nil ?_
      refine hKL1 ((k + 1, upd rr k (some ⟨gL5, 0, none⟩), _, _)) _ _ ?_ ?_ ⟨rfl, rfl, rfl, trivial⟩
      ·
       refine ⟨lst1, by first | assumption | (rw [slsOf_succ]; assumption), by omega, by first | omega | (simp only [List.length_append, List.length_cons, List.length_nil] <;> omega) | (rw [slsOf_succ] <;> (first | omega | (simp only [List.length_append, List.length_cons, List.length_nil] <;> omega))), ?_⟩
       exact ⟨by omega, hR.succ rk hat3 rfl (by assumption) (by omega) (by omega)⟩
      ·
       (dsimp only; omega)
   ·
    try simp only [sps] at h11
    refine .exit ?_
    refine hK3 _ _ ?_
    refine .seq (fun K15 hK15 => ?_)
    refine .region ?_
    refine .m rfl rfl rfl (.move rfl) ?_
    refine .m rfl rfl rfl (.assign rfl) ?_
    refine .nil ?_
    refine hK15 _ _ ?_
    refine .ret ?_
    -- leaf e1
    refine hret _ _ ?_
    refine ⟨_, rfl, ?_⟩
    obtain rfl : k = n := by omega
    exact ⟨hle, _, rr, by rw [ln_L3]; simp, hR.done at_L3 (by omega)⟩
end Go.Proofs.Ytbpehbbdodahaaa
/- Parts that connectives and maps make: the reference. No condition but those of each statement. -/
namespace Go.Proofs.Ytbpehbbdodahaaa
open Go Go.GL Go.RowKit Go.Proofs
set_option maxHeartbeats 4000000 in
theorem l26Join_c {f : SFun} {p : SFunP} {a a' : Option Addr} {me me' : List (List Int)} {r r' : Nat → Option Addr} {H : GHeap} (hin : f.In H p := by assumption) (hm : Intss H a me r := by assumption) (hm' : Intss H a' me' r' := by assumption) (hs : f.Small := by assumption) (hI : f.Is) (hp : f.Part me) (hp' : f.Part me')
    (hl : ∀ i, (me.getD i []).length ≤ 1048576 := by assumption) (hl' : ∀ i, (me'.getD i []).length ≤ 1048576 := by assumption) :
    GCalls Try.prog 51 [.agg (f.cells p).toArray, .slice a me.length me.length, .slice a' me'.length me'.length] H (NewIntssR H (f.conn (· || ·) me me').me) := by
  have hz := hI.1.sz
  have hn : f.sz.length ≤ 1048576 := hs.2.1
  have e1 := hp.pl
  have e2 := hp'.pl
  refine GCalls.body (N := 56) (rs := [.tmp 6]) Try.func51 rfl rfl rfl rfl (fun Qx hret hend => ?_)
  refine .forget (fr' := [(0, some _), (1, some _), (2, some _)]) ⟨rfl, rfl, rfl, trivial⟩ ?_
  have hle := GHeap.Le.refl H
  have base_hin := hin
  have base_hm := hm
  have base_hm' := hm'
  refine .seq (fun K1 hK1 => ?_)
  refine .region ?_
  refine .r rfl rfl rfl (.boxR rfl sz_39_VSFun rfl) ?_
  rintro _ H3 ⟨g3, rfl, le3, ge3, at3⟩
  have nx_H3 := le3.1
  replace hle := hle.trans le3
  have lt_at3 := GHeap.lt_of_get at3
  replace hin := base_hin.mono hle
  replace hm := base_hm.mono hle
  replace hm' := base_hm'.mono hle
  have hb3 : SFun.At _ g3 0 f p := ⟨Mem.of_get at3, hin⟩
  obtain ⟨fsh3, c53, c63, i13, i23⟩ := hb3.get
  have hm3 : MemN _ _ _ _ _ := ⟨rfl, hb3.1⟩
  have hi3 := hb3.2
  have hmsh3 : MemN _ _ _ _ _ := ⟨rfl, fsh3.1⟩
  have hish3 := fsh3.2
  refine .m rfl rfl rfl (.assign rfl) ?_
  refine .nil ?_
  refine hK1 _ _ ?_
  refine .seq (fun K2 hK2 => ?_)
  refine .regionD mixed_orders_B (.q 0 (.q 1 (.q 3 (.q 4 (.c 2 1 (.c 5 0 (.q 6 (.q 7 (.done))))))))) (by kernel_rfl) ?_
  refine .m rfl rfl rfl rfl (.refl _) (.loadM ag_39_VSFun rfl ⟨rfl, Mem.of_get at3⟩) ?_
  refine .m rfl rfl rfl rfl (.refl _) (.move rfl) ?_
  refine .m rfl rfl rfl rfl (.refl _) (.loadM ag_39_VSFun rfl ⟨rfl, Mem.of_get at3⟩) ?_
  refine .m rfl rfl rfl rfl (.refl _) (.move rfl) ?_
  refine .call1 rfl rfl rfl rfl rfl @Try.call71 rfl (l26Marks_c (a := a) (r := r) (hz := hz) (hml := e1) (hme := fun x hx => ⟨hl x, (hp.rs x hx).2⟩)) ?_
  rintro _ H13 ⟨le13, g13, r13, rfl, v13⟩
  have hbl := le13
  refine ⟨hbl, ?_⟩
  have nx_H13 := le13.1
  replace hle := hle.trans le13
  replace at3 := le13.2 _ _ at3
  have bs_v13 := v13
  have lv_v13 : Keep H3.next H13 H13 := fun _ _ _ h => h
  replace hin := base_hin.mono hle
  replace hm := base_hm.mono hle
  replace hm' := base_hm'.mono hle
  clear hb3 fsh3 c53 c63 i13 i23 hm3 hi3 hmsh3 hish3
  have hb3 : SFun.At _ g3 0 f p := ⟨Mem.of_get at3, hin⟩
  obtain ⟨fsh3, c53, c63, i13, i23⟩ := hb3.get
  have hm3 : MemN _ _ _ _ _ := ⟨rfl, hb3.1⟩
  have hi3 := hb3.2
  have hmsh3 : MemN _ _ _ _ _ := ⟨rfl, fsh3.1⟩
  have hish3 := fsh3.2
  have i13 := v13.sl
  refine .call0 rfl rfl rfl rfl rfl @Try.call71 rfl (l26Marks_c (a := a') (r := r') (hz := hz) (hml := e2) (hme := fun x hx => ⟨hl' x, (hp'.rs x hx).2⟩)) ?_
  rintro _ H16 ⟨le16, g16, r16, rfl, v16⟩
  have nx_H16 := le16.1
  replace hle := hle.trans le16
  replace at3 := le16.2 _ _ at3
  replace lv_v13 := Keep.le lv_v13 le16
  replace v13 := bs_v13.keep lv_v13 (Nat.le_refl _)
  have bs_v16 := v16
  have lv_v16 : Keep H13.next H16 H16 := fun _ _ _ h => h
  replace hin := base_hin.mono hle
  replace hm := base_hm.mono hle
  replace hm' := base_hm'.mono hle
  clear hb3 fsh3 c53 c63 i13 i23 hm3 hi3 hmsh3 hish3
  have hb3 : SFun.At _ g3 0 f p := ⟨Mem.of_get at3, hin⟩
  obtain ⟨fsh3, c53, c63, i13, i23⟩ := hb3.get
  have hm3 : MemN _ _ _ _ _ := ⟨rfl, hb3.1⟩
  have hi3 := hb3.2
  have hmsh3 : MemN _ _ _ _ _ := ⟨rfl, fsh3.1⟩
  have hish3 := fsh3.2
  clear i13
  have i13 := v13.sl
  have i16 := v16.sl
  refine .m rfl rfl rfl rfl (.refl _) (.assign rfl) ?_
  refine .m rfl rfl rfl rfl (.refl _) (.assign rfl) ?_
  refine .done ?_
  refine hK2 _ _ ?_
  refine .seq (fun K3 hK3 => ?_)
  refine .seq (fun K4 hK4 => ?_)
  refine .region ?_
  refine .m rfl rfl rfl (.assign rfl) ?_
  refine .nil ?_
  refine hK4 _ _ ?_
  refine .block ?_
  have q1 : ∀ i, i < f.sz.length → r13 i < H13.next := fun i hi => (bs_v13.lt (i := i)).2 hi
  clear i13 i16
  refine .loopR (σ := Nat) [(7, some _), (8, some _)] (fun k => [(9, some (.int .i64 (k : Int)))]) (fun k H' => k ≤ f.sz.length ∧ H.Le H' ∧ BMat H.next H' g13 90 4 r13 (fun x => (f.sz.getD x 0).toNat) (meetM (opL (· || ·) me me') (hasL me) k 0) f.sz.length ∧ BMat H13.next H' g16 90 4 r16 (fun x => (f.sz.getD x 0).toNat) (hasL me') f.sz.length) (fun k => f.sz.length - k) (0) ⟨rfl, rfl, trivial⟩ ⟨rfl, trivial⟩ ?_ ?_
  ·
   exact ⟨by omega, hle, by rw [meetM_zero]; exact v13.keep (.of_le (.refl _)) (by omega), v16⟩
  ·
   rintro k HL1 hI KL1 hKL1
   refine .forget (fr' := [(9, some (.int .i64 (k : Int))), (7, some _), (8, some _)]) ⟨rfl, rfl, rfl, trivial⟩ ?_
   obtain ⟨hk, hle, m1, m2⟩ := hI
   have nx_HL1 := hle.1
   replace hin := base_hin.mono hle
   replace hm := base_hm.mono hle
   replace hm' := base_hm'.mono hle
   have i13 := m1.sl
   refine .seq (fun K5 hK5 => ?_)
   refine .seq (fun K6 hK6 => ?_)
   refine .region ?_
   refine .m rfl rfl rfl (.move rfl) ?_
   refine .m rfl rfl rfl (.move rfl) ?_
   refine .m rfl rfl rfl (.len sl_88_Ue rfl) ?_
   refine .m rfl rfl rfl (.cmp rfl rfl rfl) ?_
   refine .nil ?_
   refine hK6 _ _ ?_
   refine .cond rfl (fun h20 => ?_) (fun h20 => ?_)
   ·
    simp only [sps] at h20
    have r2 := hz k (by omega)
    refine .skip ?_
    refine hK5 _ _ ?_
    refine .seq (fun K7 hK7 => ?_)
    refine .block ?_
    refine .seq (fun K8 hK8 => ?_)
    refine .region ?_
    refine .m rfl rfl rfl (.assign rfl) ?_
    refine .nil ?_
    refine hK8 _ _ ?_
    refine .block ?_
    refine .loopR (σ := Nat) [(7, some _), (8, some _), (9, some _)] (fun l => [(10, some (.int .i64 (l : Int)))]) (fun l H' => l ≤ (f.sz.getD k 0).toNat ∧ H.Le H' ∧ BMat H.next H' g13 90 4 r13 (fun x => (f.sz.getD x 0).toNat) (meetM (opL (· || ·) me me') (hasL me) k l) f.sz.length ∧ BMat H13.next H' g16 90 4 r16 (fun x => (f.sz.getD x 0).toNat) (hasL me') f.sz.length) (fun l => (f.sz.getD k 0).toNat - l) (0) ⟨rfl, rfl, rfl, trivial⟩ ⟨rfl, trivial⟩ ?_ ?_
    ·
     exact ⟨by omega, hle, m1, m2⟩
    ·
     rintro l HL2 hI KL2 hKL2
     refine .forget (fr' := [(10, some (.int .i64 (l : Int))), (7, some _), (8, some _), (9, some _)]) ⟨rfl, rfl, rfl, rfl, trivial⟩ ?_
     obtain ⟨hl0, hle, m1, m2⟩ := hI
     have r3 := m1.row (i := k) (by omega)
     have r4 := m2.row (i := k) (by omega)
     have r5 := r3.tabS
     have r6 := r4.tabS
     have b1 := length_tabB (f.sz.getD k 0).toNat (meetM (opL (· || ·) me me') (hasL me) k l k)
     have b2 := length_tabB (f.sz.getD k 0).toNat (hasL me' k)
     obtain ⟨rg, g1⟩ := m1.own.row k (by omega)
     have nx_HL2 := hle.1
     replace hin := base_hin.mono hle
     replace hm := base_hm.mono hle
     replace hm' := base_hm'.mono hle
     have i13 := m1.sl
     have i16 := m2.sl
     refine .seq (fun K9 hK9 => ?_)
     refine .seq (fun K10 hK10 => ?_)
     refine .region ?_
     refine .m rfl rfl rfl (.move rfl) ?_
     refine .m rfl rfl rfl (.move rfl) ?_
     refine .m rfl rfl rfl (.move rfl) ?_
     refine .m rfl rfl rfl (.idxN sl_88_Ue (by assumption) rfl rfl (by omega)) ?_
     refine .m rfl rfl rfl (.loadE on_90_Ue (by assumption) rfl (by omega)) ?_
     refine .m rfl rfl rfl (.len sl_90_Ue rfl) ?_
     refine .m rfl rfl rfl (.cmp rfl rfl rfl) ?_
     refine .nil ?_
     refine hK10 _ _ ?_
     refine .cond rfl (fun h29 => ?_) (fun h29 => ?_)
     ·
      simp only [sps] at h29
      refine .skip ?_
      refine hK9 _ _ ?_
      refine .seq (fun K11 hK11 => ?_)
      refine .block ?_
      refine .regionD mixed_orders_B (.q 0 (.q 1 (.q 2 (.q 3 (.q 4 (.q 5 (.q 6 (.q 7 (.q 8 (.q 9 (.q 10 (.q 11 (.q 12 (.q 13 (.q 14 (.q 15 (.q 16 (.q 17 (.q 18 (.q 19 (.q 20 (.q 21 (.c 22 0 (.done)))))))))))))))))))))))) (by kernel_rfl) ?_
      refine .m rfl rfl rfl rfl (.refl _) (.move rfl) ?_
      refine .m rfl rfl rfl rfl (.refl _) (.move rfl) ?_
      refine .m rfl rfl rfl rfl (.refl _) (.idxN sl_88_Ue (by assumption) rfl rfl (by omega)) ?_
      refine .m rfl rfl rfl rfl (.refl _) (.loadE on_90_Ue (by assumption) rfl (by omega)) ?_
      refine .m rfl rfl rfl rfl (.refl _) (.move rfl) ?_
      refine .m rfl rfl rfl rfl (.refl _) (.move rfl) ?_
      refine .m rfl rfl rfl rfl (.refl _) (.move rfl) ?_
      refine .m rfl rfl rfl rfl (.refl _) (.idxN sl_88_Ue (by assumption) rfl rfl (by omega)) ?_
      refine .m rfl rfl rfl rfl (.refl _) (.loadE on_90_Ue (by assumption) rfl (by omega)) ?_
      refine .m rfl rfl rfl rfl (.refl _) (.move rfl) ?_
      refine .m rfl rfl rfl rfl (.refl _) (.idxN sl_90_Ue (by assumption) rfl rfl (by omega)) ?_
      refine .m rfl rfl rfl rfl (.refl _) (.loadB on_4_Ue (by assumption) rfl (by omega)) ?_
      refine .m rfl rfl rfl rfl (.refl _) (.move rfl) ?_
      refine .split (fun h44 => ?_) (fun h44 => ?_)
      ·
       rw [tabB_get (by omega), meetM_at] at h44
       refine .sg rfl rfl rfl rfl rfl rfl ?_
       refine .sg rfl rfl rfl rfl rfl rfl ?_
       refine .sg rfl rfl rfl rfl rfl rfl ?_
       refine .sg rfl rfl rfl rfl rfl rfl ?_
       refine .sg rfl rfl rfl rfl rfl rfl ?_
       refine .sg rfl rfl rfl rfl rfl rfl ?_
       refine .sg rfl rfl rfl rfl rfl rfl ?_
       refine .m rfl rfl rfl rfl (.refl _) (.pickT rfl rfl) ?_
       refine .m rfl rfl rfl rfl (.refl _) (.idxN sl_90_Ue (by assumption) rfl rfl (by omega)) ?_
       refine .r0 rfl rfl rfl (.storeB rfl sz_4_Ue rfl rfl (by assumption) (by first | omega | (simp <;> omega))) ?_
       rintro _ H8022 ⟨rfl, st8022, at8022⟩
       have nx_H8022 := st8022.nx
       replace hle := hle.st st8022 (fun k hk => ⟨by omega, trivial⟩)
       have lt_at8022 := GHeap.lt_of_get at8022
       replace hin := base_hin.mono hle
       replace hm := base_hm.mono hle
       replace hm' := base_hm'.mono hle
       clear i13
       have i13 := m1.sl
       clear i16
       have i16 := m2.sl
       have e8 := at8022
       rw [Nat.zero_add, meetM_set (N := opL (· || ·) me me') ?_] at e8
       rotate_left
       · first | (rw [tabB_get (by omega)]; simp [opL, h44]; done) | (simp [opL, h44]; done)
       have m1' := m1.put (i := k) (M' := meetM (opL (· || ·) me me') (hasL me) k (l + 1)) (by omega) st8022 e8 meetM_other rfl
       have m2' := m2.st st8022 (q1 k (by omega))
       refine .done ?_
       refine hK11 _ _ ?_
       refine .region ?_
       refine .m rfl rfl rfl (.move rfl) ?_
       refine .m rfl rfl rfl (.add rfl rfl rfl (by omega) (by omega)) ?_
       refine .m rfl rfl rfl (.assign rfl) ?_
       refine .nil ?_
       refine hKL2 (l + 1) _ _ ?_ ?_ ⟨rfl, rfl, rfl, rfl, trivial⟩
       ·
        exact ⟨by omega, hle, m1', m2'⟩
       ·
        omega
      ·
       rw [tabB_get (by omega), meetM_at] at h44
       refine .mg rfl rfl rfl rfl rfl rfl (.refl _) (.move rfl) ?_
       refine .mg rfl rfl rfl rfl rfl rfl (.refl _) (.move rfl) ?_
       refine .mg rfl rfl rfl rfl rfl rfl (.refl _) (.idxN sl_88_Ue (by assumption) rfl rfl (by omega)) ?_
       refine .mg rfl rfl rfl rfl rfl rfl (.refl _) (.loadE on_90_Ue (by assumption) rfl (by omega)) ?_
       refine .mg rfl rfl rfl rfl rfl rfl (.refl _) (.move rfl) ?_
       refine .mg rfl rfl rfl rfl rfl rfl (.refl _) (.idxN sl_90_Ue (by assumption) rfl rfl (by omega)) ?_
       refine .mg rfl rfl rfl rfl rfl rfl (.refl _) (.loadB on_4_Ue (by assumption) rfl (by omega)) ?_
       refine .m rfl rfl rfl rfl (.refl _) (.pickF rfl rfl) ?_
       refine .m rfl rfl rfl rfl (.refl _) (.idxN sl_90_Ue (by assumption) rfl rfl (by omega)) ?_
       refine .r0 rfl rfl rfl (.storeB rfl sz_4_Ue rfl rfl (by assumption) (by first | omega | (simp <;> omega))) ?_
       rintro _ H8022x2 ⟨rfl, st8022x2, at8022x2⟩
       have nx_H8022x2 := st8022x2.nx
       replace hle := hle.st st8022x2 (fun k hk => ⟨by omega, trivial⟩)
       have lt_at8022x2 := GHeap.lt_of_get at8022x2
       replace hin := base_hin.mono hle
       replace hm := base_hm.mono hle
       replace hm' := base_hm'.mono hle
       clear i13
       have i13 := m1.sl
       clear i16
       have i16 := m2.sl
       have e8 := at8022x2
       rw [Nat.zero_add, meetM_set (N := opL (· || ·) me me') ?_] at e8
       rotate_left
       · first | (rw [tabB_get (by omega)]; simp [opL, h44]; done) | (simp [opL, h44]; done)
       have m1' := m1.put (i := k) (M' := meetM (opL (· || ·) me me') (hasL me) k (l + 1)) (by omega) st8022x2 e8 meetM_other rfl
       have m2' := m2.st st8022x2 (q1 k (by omega))
       refine .done ?_
       refine hK11 _ _ ?_
       refine .region ?_
       refine .m rfl rfl rfl (.move rfl) ?_
       refine .m rfl rfl rfl (.add rfl rfl rfl (by omega) (by omega)) ?_
       refine .m rfl rfl rfl (.assign rfl) ?_
       refine .nil ?_
       refine hKL2 (l + 1) _ _ ?_ ?_ ⟨rfl, rfl, rfl, rfl, trivial⟩
       ·
        exact ⟨by omega, hle, m1', m2'⟩
       ·
        omega
     ·
      try simp only [sps] at h29
      refine .exit ?_
      refine hK7 _ _ ?_
      refine .region ?_
      refine .m rfl rfl rfl (.move rfl) ?_
      refine .m rfl rfl rfl (.add rfl rfl rfl (by omega) (by omega)) ?_
      refine .m rfl rfl rfl (.assign rfl) ?_
      refine .nil ?_
      refine hKL1 (k + 1) _ _ ?_ ?_ ⟨rfl, rfl, rfl, trivial⟩
      ·
       obtain rfl : l = (f.sz.getD k 0).toNat := by omega
       exact ⟨by omega, hle, m1.congr meetM_next, m2⟩
      ·
       omega
   ·
    try simp only [sps] at h20
    refine .exit ?_
    refine hK3 _ _ ?_
    refine .seq (fun K12 hK12 => ?_)
    refine .region ?_
    refine .m rfl rfl rfl (.move rfl) ?_
    obtain rfl : k = f.sz.length := by omega
    have m1d := m1.congr (M' := opL (· || ·) me me') (fun j hj d _ => meetM_done j hj d)
    refine .call rfl rfl rfl rfl @Try.call72 rfl (l26Marked_c (h := m1d) (hL := fun i hi => by have := hz i hi; omega)) ?_
    rintro _ H55 ⟨le55, a55, r55, rfl, v55⟩
    have nx_H55 := le55.1
    replace hle := hle.trans le55
    have bs_v55 := v55
    have lv_v55 : Keep HL1.next H55 H55 := fun _ _ _ h => h
    replace hin := base_hin.mono hle
    replace hm := base_hm.mono hle
    replace hm' := base_hm'.mono hle
    clear i13
    have i13 := m1.sl
    have i55 := v55.intss
    refine .m rfl rfl rfl (.assign rfl) ?_
    refine .nil ?_
    refine hK12 _ _ ?_
    refine .ret ?_
    -- leaf e1
    refine hret _ _ ?_
    refine ⟨_, rfl, ?_⟩
    exact ⟨hle, a55, r55, rfl, v55.keep (.of_le (.refl _)) (by omega)⟩
theorem specJoinParts_c {f : SFun} {p : SFunP} {m m' : Prt} {q q' : PrtP} {H : GHeap} (hin : f.In H p := by assumption) (hin1 : m.In H q := by assumption) (hin2 : m'.In H q' := by assumption) (hs : f.Small := by assumption) (hs1 : m.Small := by assumption) (hs2 : m'.Small := by assumption) :
    GCalls Try.prog 24 [.agg (f.cells p).toArray, .agg (m.cells q).toArray, .agg (m'.cells q').toArray] H (fun v H' => H.Le H' ∧ ∃ r, v = .tuple #[.agg ((f.con (· || ·) m.me m'.me).cells r).toArray, .int .i64 (f.conC m.me m'.me)] ∧ PrtR H.next H' (f.con (· || ·) m.me m'.me) r) := by
  obtain ⟨_, w1⟩ := id hs1
  obtain ⟨_, w2⟩ := id hs2
  refine GCalls.body (N := 21) (rs := [.cell 6 34, .tmp 7]) Try.func24 rfl rfl rfl rfl (fun Qx hret hend => ?_)
  refine .forget (fr' := [(0, some _), (1, some _), (2, some _)]) ⟨rfl, rfl, rfl, trivial⟩ ?_
  have hle := GHeap.Le.refl H
  have base_hin := hin
  have base_hin1 := hin1
  have base_hin2 := hin2
  refine .seq (fun K1 hK1 => ?_)
  refine .region ?_
  refine .r rfl rfl rfl (.boxR rfl sz_39_VSFun rfl) ?_
  rintro _ H3 ⟨g3, rfl, le3, ge3, at3⟩
  have nx_H3 := le3.1
  replace hle := hle.trans le3
  have lt_at3 := GHeap.lt_of_get at3
  replace hin := base_hin.mono hle
  replace hin1 := base_hin1.mono hle
  replace hin2 := base_hin2.mono hle
  have hb3 : SFun.At _ g3 0 f p := ⟨Mem.of_get at3, hin⟩
  obtain ⟨fsh3, c53, c63, i13, i23⟩ := hb3.get
  have hm3 : MemN _ _ _ _ _ := ⟨rfl, hb3.1⟩
  have hi3 := hb3.2
  have hmsh3 : MemN _ _ _ _ _ := ⟨rfl, fsh3.1⟩
  have hish3 := fsh3.2
  refine .r rfl rfl rfl (.boxR rfl sz_34_VPrt rfl) ?_
  rintro _ H4 ⟨g4, rfl, le4, ge4, at4⟩
  have nx_H4 := le4.1
  replace hle := hle.trans le4
  replace at3 := le4.2 _ _ at3
  have lt_at4 := GHeap.lt_of_get at4
  replace hin := base_hin.mono hle
  replace hin1 := base_hin1.mono hle
  replace hin2 := base_hin2.mono hle
  clear hb3 fsh3 c53 c63 i13 i23 hm3 hi3 hmsh3 hish3
  have hb3 : SFun.At _ g3 0 f p := ⟨Mem.of_get at3, hin⟩
  obtain ⟨fsh3, c53, c63, i13, i23⟩ := hb3.get
  have hm3 : MemN _ _ _ _ _ := ⟨rfl, hb3.1⟩
  have hi3 := hb3.2
  have hmsh3 : MemN _ _ _ _ _ := ⟨rfl, fsh3.1⟩
  have hish3 := fsh3.2
  have hb4 : Prt.At _ g4 0 m q := ⟨Mem.of_get at4, hin1⟩
  obtain ⟨c04, i04⟩ := hb4.get
  have hm4 : MemN _ _ _ _ _ := ⟨rfl, hb4.1⟩
  have hi4 := hb4.2
  refine .r rfl rfl rfl (.boxR rfl sz_34_VPrt rfl) ?_
  rintro _ H5 ⟨g5, rfl, le5, ge5, at5⟩
  have nx_H5 := le5.1
  replace hle := hle.trans le5
  replace at3 := le5.2 _ _ at3
  replace at4 := le5.2 _ _ at4
  have lt_at5 := GHeap.lt_of_get at5
  replace hin := base_hin.mono hle
  replace hin1 := base_hin1.mono hle
  replace hin2 := base_hin2.mono hle
  clear hb3 fsh3 c53 c63 i13 i23 hm3 hi3 hmsh3 hish3
  have hb3 : SFun.At _ g3 0 f p := ⟨Mem.of_get at3, hin⟩
  obtain ⟨fsh3, c53, c63, i13, i23⟩ := hb3.get
  have hm3 : MemN _ _ _ _ _ := ⟨rfl, hb3.1⟩
  have hi3 := hb3.2
  have hmsh3 : MemN _ _ _ _ _ := ⟨rfl, fsh3.1⟩
  have hish3 := fsh3.2
  clear hb4 c04 i04 hm4 hi4
  have hb4 : Prt.At _ g4 0 m q := ⟨Mem.of_get at4, hin1⟩
  obtain ⟨c04, i04⟩ := hb4.get
  have hm4 : MemN _ _ _ _ _ := ⟨rfl, hb4.1⟩
  have hi4 := hb4.2
  have hb5 : Prt.At _ g5 0 m' q' := ⟨Mem.of_get at5, hin2⟩
  obtain ⟨c05, i05⟩ := hb5.get
  have hm5 : MemN _ _ _ _ _ := ⟨rfl, hb5.1⟩
  have hi5 := hb5.2
  refine .r rfl rfl rfl (.allocR rfl ze_34_VPrt rfl) ?_
  rintro _ H6 ⟨g6, rfl, le6, ge6, at6⟩
  have nx_H6 := le6.1
  replace hle := hle.trans le6
  replace at3 := le6.2 _ _ at3
  replace at4 := le6.2 _ _ at4
  replace at5 := le6.2 _ _ at5
  have lt_at6 := GHeap.lt_of_get at6
  replace hin := base_hin.mono hle
  replace hin1 := base_hin1.mono hle
  replace hin2 := base_hin2.mono hle
  clear hb3 fsh3 c53 c63 i13 i23 hm3 hi3 hmsh3 hish3
  have hb3 : SFun.At _ g3 0 f p := ⟨Mem.of_get at3, hin⟩
  obtain ⟨fsh3, c53, c63, i13, i23⟩ := hb3.get
  have hm3 : MemN _ _ _ _ _ := ⟨rfl, hb3.1⟩
  have hi3 := hb3.2
  have hmsh3 : MemN _ _ _ _ _ := ⟨rfl, fsh3.1⟩
  have hish3 := fsh3.2
  clear hb4 c04 i04 hm4 hi4
  have hb4 : Prt.At _ g4 0 m q := ⟨Mem.of_get at4, hin1⟩
  obtain ⟨c04, i04⟩ := hb4.get
  have hm4 : MemN _ _ _ _ _ := ⟨rfl, hb4.1⟩
  have hi4 := hb4.2
  clear hb5 c05 i05 hm5 hi5
  have hb5 : Prt.At _ g5 0 m' q' := ⟨Mem.of_get at5, hin2⟩
  obtain ⟨c05, i05⟩ := hb5.get
  have hm5 : MemN _ _ _ _ _ := ⟨rfl, hb5.1⟩
  have hi5 := hb5.2
  refine .m rfl rfl rfl (.assign rfl) ?_
  refine .nil ?_
  refine hK1 _ _ ?_
  refine .seq (fun K2 hK2 => ?_)
  refine .seq (fun K3 hK3 => ?_)
  refine .region ?_
  refine .m rfl rfl rfl (.loadM ag_39_VSFun rfl ⟨rfl, Mem.of_get at3⟩) ?_
  refine .m rfl rfl rfl (.loadM ag_34_VPrt rfl ⟨rfl, Mem.of_get at4⟩) ?_
  refine .m rfl rfl rfl (.loadM ag_34_VPrt rfl ⟨rfl, Mem.of_get at5⟩) ?_
  refine .callQ rfl rfl rfl rfl @Try.call41 rfl (l26Two_c) ?_
  refine .m rfl rfl rfl (.not rfl) ?_
  refine .nil ?_
  refine hK3 _ _ ?_
  refine .cond rfl (fun h12 => ?_) (fun h12 => ?_)
  ·
   simp only [sps] at h12
   refine .seq (fun K4 hK4 => ?_)
   refine .region ?_
   refine .m rfl rfl rfl (.build bt_34_Uc rfl rfl rfl) ?_
   refine .r0 rfl rfl (.fillR rfl sz_34_VPrt rfl rfl rfl rfl (by assumption) (by first | rfl | exact Nat.le_of_ble_eq_true rfl | simp)) ?_
   rintro _ H2001 ⟨rfl, st2001, at2001⟩
   have nx_H2001 := st2001.nx
   replace hle := hle.st st2001 (fun k hk => ⟨by omega, trivial⟩)
   replace at3 := st2001.same _ _ ⟨by omega, trivial⟩ at3
   replace at4 := st2001.same _ _ ⟨by omega, trivial⟩ at4
   replace at5 := st2001.same _ _ ⟨by omega, trivial⟩ at5
   have lt_at2001 := GHeap.lt_of_get at2001
   replace hin := base_hin.mono hle
   replace hin1 := base_hin1.mono hle
   replace hin2 := base_hin2.mono hle
   clear hb3 fsh3 c53 c63 i13 i23 hm3 hi3 hmsh3 hish3
   have hb3 : SFun.At _ g3 0 f p := ⟨Mem.of_get at3, hin⟩
   obtain ⟨fsh3, c53, c63, i13, i23⟩ := hb3.get
   have hm3 : MemN _ _ _ _ _ := ⟨rfl, hb3.1⟩
   have hi3 := hb3.2
   have hmsh3 : MemN _ _ _ _ _ := ⟨rfl, fsh3.1⟩
   have hish3 := fsh3.2
   clear hb4 c04 i04 hm4 hi4
   have hb4 : Prt.At _ g4 0 m q := ⟨Mem.of_get at4, hin1⟩
   obtain ⟨c04, i04⟩ := hb4.get
   have hm4 : MemN _ _ _ _ _ := ⟨rfl, hb4.1⟩
   have hi4 := hb4.2
   clear hb5 c05 i05 hm5 hi5
   have hb5 : Prt.At _ g5 0 m' q' := ⟨Mem.of_get at5, hin2⟩
   obtain ⟨c05, i05⟩ := hb5.get
   have hm5 : MemN _ _ _ _ _ := ⟨rfl, hb5.1⟩
   have hi5 := hb5.2
   have mm2001 : MemN _ _ _ _ _ := ⟨rfl, Mem.of_get at2001⟩
   refine .m rfl rfl rfl (.assign rfl) ?_
   refine .nil ?_
   refine hK4 _ _ ?_
   refine .ret ?_
   -- leaf e1
   refine hret _ _ ?_
   refine ⟨_, _, _, _, _, rfl, ag_34_VPrt, (by rfl), (Mem.of_get at2001), rfl, ?_⟩
   obtain ⟨e1, e2⟩ := SFun.con_not (op := (· || ·)) h12
   rw [e1, e2]
   exact ⟨hle, ⟨none, fun _ => none⟩, rfl, .nil _ _ _⟩
  ·
   simp only [sps] at h12
   refine .skip ?_
   refine hK2 _ _ ?_
   refine .seq (fun K5 hK5 => ?_)
   refine .region ?_
   refine .m rfl rfl rfl (.loadM ag_39_VSFun rfl ⟨rfl, Mem.of_get at3⟩) ?_
   refine .m rfl rfl rfl (.fieldAddr fo_34_0_VPrt rfl) ?_
   refine .m rfl rfl rfl (.load on_23_B rfl (by assumption)) ?_
   refine .m rfl rfl rfl (.fieldAddr fo_34_0_VPrt rfl) ?_
   refine .m rfl rfl rfl (.load on_23_B rfl (by assumption)) ?_
   refine .call rfl rfl rfl rfl @Try.call51 rfl (l26Join_c (hI := h12.1) (hp := h12.2.1) (hp' := h12.2.2)) ?_
   rintro _ H19 ⟨le19, a19, r19, rfl, v19⟩
   have nx_H19 := le19.1
   replace hle := hle.trans le19
   replace at3 := le19.2 _ _ at3
   replace at4 := le19.2 _ _ at4
   replace at5 := le19.2 _ _ at5
   replace at6 := le19.2 _ _ at6
   have bs_v19 := v19
   have lv_v19 : Keep H6.next H19 H19 := fun _ _ _ h => h
   replace hin := base_hin.mono hle
   replace hin1 := base_hin1.mono hle
   replace hin2 := base_hin2.mono hle
   clear hb3 fsh3 c53 c63 i13 i23 hm3 hi3 hmsh3 hish3
   have hb3 : SFun.At _ g3 0 f p := ⟨Mem.of_get at3, hin⟩
   obtain ⟨fsh3, c53, c63, i13, i23⟩ := hb3.get
   have hm3 : MemN _ _ _ _ _ := ⟨rfl, hb3.1⟩
   have hi3 := hb3.2
   have hmsh3 : MemN _ _ _ _ _ := ⟨rfl, fsh3.1⟩
   have hish3 := fsh3.2
   clear hb4 c04 i04 hm4 hi4
   have hb4 : Prt.At _ g4 0 m q := ⟨Mem.of_get at4, hin1⟩
   obtain ⟨c04, i04⟩ := hb4.get
   have hm4 : MemN _ _ _ _ _ := ⟨rfl, hb4.1⟩
   have hi4 := hb4.2
   clear hb5 c05 i05 hm5 hi5
   have hb5 : Prt.At _ g5 0 m' q' := ⟨Mem.of_get at5, hin2⟩
   obtain ⟨c05, i05⟩ := hb5.get
   have hm5 : MemN _ _ _ _ _ := ⟨rfl, hb5.1⟩
   have hi5 := hb5.2
   have i19 := v19.intss
   refine .m rfl rfl rfl (.build bt_34_Uc rfl rfl rfl) ?_
   refine .r0 rfl rfl (.fillR rfl sz_34_VPrt rfl rfl rfl rfl (by assumption) (by first | rfl | exact Nat.le_of_ble_eq_true rfl | simp)) ?_
   rintro _ H3007 ⟨rfl, st3007, at3007⟩
   have nx_H3007 := st3007.nx
   replace hle := hle.st st3007 (fun k hk => ⟨by omega, trivial⟩)
   replace at3 := st3007.same _ _ ⟨by omega, trivial⟩ at3
   replace at4 := st3007.same _ _ ⟨by omega, trivial⟩ at4
   replace at5 := st3007.same _ _ ⟨by omega, trivial⟩ at5
   replace lv_v19 := Keep.st lv_v19 st3007 (fun k hb hk => ⟨by omega, trivial⟩)
   replace v19 := bs_v19.keep lv_v19 (Nat.le_refl _)
   have lt_at3007 := GHeap.lt_of_get at3007
   replace hin := base_hin.mono hle
   replace hin1 := base_hin1.mono hle
   replace hin2 := base_hin2.mono hle
   clear hb3 fsh3 c53 c63 i13 i23 hm3 hi3 hmsh3 hish3
   have hb3 : SFun.At _ g3 0 f p := ⟨Mem.of_get at3, hin⟩
   obtain ⟨fsh3, c53, c63, i13, i23⟩ := hb3.get
   have hm3 : MemN _ _ _ _ _ := ⟨rfl, hb3.1⟩
   have hi3 := hb3.2
   have hmsh3 : MemN _ _ _ _ _ := ⟨rfl, fsh3.1⟩
   have hish3 := fsh3.2
   clear hb4 c04 i04 hm4 hi4
   have hb4 : Prt.At _ g4 0 m q := ⟨Mem.of_get at4, hin1⟩
   obtain ⟨c04, i04⟩ := hb4.get
   have hm4 : MemN _ _ _ _ _ := ⟨rfl, hb4.1⟩
   have hi4 := hb4.2
   clear hb5 c05 i05 hm5 hi5
   have hb5 : Prt.At _ g5 0 m' q' := ⟨Mem.of_get at5, hin2⟩
   obtain ⟨c05, i05⟩ := hb5.get
   have hm5 : MemN _ _ _ _ _ := ⟨rfl, hb5.1⟩
   have hi5 := hb5.2
   clear i19
   have i19 := v19.intss
   have mm3007 : MemN _ _ _ _ _ := ⟨rfl, Mem.of_get at3007⟩
   refine .m rfl rfl rfl (.assign rfl) ?_
   refine .nil ?_
   refine hK5 _ _ ?_
   refine .ret ?_
   -- leaf e2
   refine hret _ _ ?_
   refine ⟨_, _, _, _, _, rfl, ag_34_VPrt, (by rfl), (Mem.of_get at3007), rfl, ?_⟩
   obtain ⟨e1, e2⟩ := SFun.con_ok (op := (· || ·)) h12
   rw [e1, e2]
   exact ⟨hle, ⟨a19, r19⟩, rfl, v19.keep (.of_le (.refl _)) (by omega)⟩
end Go.Proofs.Ytbpehbbdodahaaa
/- Parts that connectives and maps make: the program. No condition but those of each statement. -/
namespace Go.Proofs.Ytbpehbbdodahaaa
open Go Go.GL Go.RowKit Go.Proofs
theorem join1_c {m m' : Prt} {q q' : PrtP} {g2 g3 x e : Nat} {H : GHeap} (h2 : Prt.At H g2 0 m q) (h3 : Prt.At H g3 0 m' q') (hs1 : m.Small := by assumption) (hs2 : m'.Small := by assumption) (hx : x < m.me.length) (hx' : x < m'.me.length) :
    GCalls Try.prog 75 [.int .i64 (x : Int), .int .i64 (e : Int), .pointer (some ⟨g2, 0, none⟩), .pointer (some ⟨g3, 0, none⟩)] H (Ret (.bool (opL (· || ·) m.me m'.me x e)) H) := by
  have hm2 : MemN _ _ _ _ _ := ⟨rfl, h2.1⟩
  have hm3 : MemN _ _ _ _ _ := ⟨rfl, h3.1⟩
  have hi2 := h2.2
  have hi3 := h3.2
  refine GCalls.body (N := 17) (rs := [.tmp 6]) Try.func75 rfl rfl rfl rfl (fun Qx hret hend => ?_)
  refine .forget (fr' := [(0, some _), (1, some _), (2, some _), (3, some _)]) ⟨rfl, rfl, rfl, rfl, trivial⟩ ?_
  refine .seq (fun K1 hK1 => ?_)
  refine .region ?_
  refine .m rfl rfl rfl (.assign rfl) ?_
  refine .nil ?_
  refine hK1 _ _ ?_
  refine .seq (fun K2 hK2 => ?_)
  refine .region ?_
  refine .m rfl rfl rfl (.loadM ag_34_VPrt rfl (by assumption)) ?_
  refine .m rfl rfl rfl (.move rfl) ?_
  refine .m rfl rfl rfl (.move rfl) ?_
  refine .callQ rfl rfl rfl rfl @Try.call68 rfl (holds_c) ?_
  refine .m rfl rfl rfl (.move rfl) ?_
  refine .split (fun h11 => ?_) (fun h11 => ?_)
  ·
   try simp only [sps] at h11
   refine .sg rfl rfl rfl rfl rfl ?_
   refine .sg rfl rfl rfl rfl rfl ?_
   refine .sg rfl rfl rfl rfl rfl ?_
   refine .sg rfl rfl rfl rfl rfl ?_
   refine .m rfl rfl rfl (.pickT rfl rfl) ?_
   refine .m rfl rfl rfl (.assign rfl) ?_
   refine .nil ?_
   refine hK2 _ _ ?_
   refine .ret ?_
   -- leaf e1
   refine hret _ _ ?_
   refine ⟨_, rfl, ?_⟩
   exact .of (congrArg _ (by simp only [opL, hasL, h11, Bool.true_or, Bool.false_or]))
  ·
   try simp only [sps] at h11
   refine .mg rfl rfl rfl rfl rfl (.loadM ag_34_VPrt rfl (by assumption)) ?_
   refine .mg rfl rfl rfl rfl rfl (.move rfl) ?_
   refine .mg rfl rfl rfl rfl rfl (.move rfl) ?_
   refine .callQg rfl rfl rfl rfl rfl rfl @Try.call68 rfl (holds_c) ?_
   refine .m rfl rfl rfl (.pickF rfl rfl) ?_
   refine .m rfl rfl rfl (.assign rfl) ?_
   refine .nil ?_
   refine hK2 _ _ ?_
   refine .ret ?_
   -- leaf e2
   refine hret _ _ ?_
   refine ⟨_, rfl, ?_⟩
   exact .of (congrArg _ (by simp only [opL, hasL, h11, Bool.true_or, Bool.false_or]))
theorem sfJoin_c {f : SFun} {p : SFunP} {m m' : Prt} {q q' : PrtP} {g o : Nat} {H : GHeap} (h : SFun.At H g o f p) (hin1 : m.In H q) (hin2 : m'.In H q') (hs : f.Small) (hs1 : m.Small) (hs2 : m'.Small) (hI : f.Is) (hp : f.Part m.me) (hp' : f.Part m'.me) :
    GCalls Try.prog 52 [.pointer (some ⟨g, o, none⟩), .agg (m.cells q).toArray, .agg (m'.cells q').toArray] H (fun v H' => H.Le H' ∧ ∃ r, v = .agg ((f.conn (· || ·) m.me m'.me).cells r).toArray ∧ PrtR H.next H' (f.conn (· || ·) m.me m'.me) r) := by
  have e1 := hp.pl
  have e2 := hp'.pl
  have hn : f.sz.length ≤ 1048576 := hs.2.1
  refine GCalls.body (N := 10) (rs := [.cell 6 34]) Try.func52 rfl rfl rfl rfl (fun Qx hret hend => ?_)
  refine .forget (fr' := [(0, some _), (1, some _), (2, some _)]) ⟨rfl, rfl, rfl, trivial⟩ ?_
  have hle := GHeap.Le.refl H
  have base_h := h
  have base_hin1 := hin1
  have base_hin2 := hin2
  refine .seq (fun K1 hK1 => ?_)
  refine .region ?_
  refine .r rfl rfl rfl (.boxR rfl sz_34_VPrt rfl) ?_
  rintro _ H4 ⟨g4, rfl, le4, ge4, at4⟩
  have nx_H4 := le4.1
  replace hle := hle.trans le4
  have lt_at4 := GHeap.lt_of_get at4
  replace h := base_h.mono hle
  replace hin1 := base_hin1.mono hle
  replace hin2 := base_hin2.mono hle
  have hb4 : Prt.At _ g4 0 m q := ⟨Mem.of_get at4, hin1⟩
  obtain ⟨c04, i04⟩ := hb4.get
  have hm4 : MemN _ _ _ _ _ := ⟨rfl, hb4.1⟩
  have hi4 := hb4.2
  refine .r rfl rfl rfl (.boxR rfl sz_34_VPrt rfl) ?_
  rintro _ H5 ⟨g5, rfl, le5, ge5, at5⟩
  have nx_H5 := le5.1
  replace hle := hle.trans le5
  replace at4 := le5.2 _ _ at4
  have lt_at5 := GHeap.lt_of_get at5
  replace h := base_h.mono hle
  replace hin1 := base_hin1.mono hle
  replace hin2 := base_hin2.mono hle
  clear hb4 c04 i04 hm4 hi4
  have hb4 : Prt.At _ g4 0 m q := ⟨Mem.of_get at4, hin1⟩
  obtain ⟨c04, i04⟩ := hb4.get
  have hm4 : MemN _ _ _ _ _ := ⟨rfl, hb4.1⟩
  have hi4 := hb4.2
  have hb5 : Prt.At _ g5 0 m' q' := ⟨Mem.of_get at5, hin2⟩
  obtain ⟨c05, i05⟩ := hb5.get
  have hm5 : MemN _ _ _ _ _ := ⟨rfl, hb5.1⟩
  have hi5 := hb5.2
  refine .r rfl rfl rfl (.allocR rfl ze_34_VPrt rfl) ?_
  rintro _ H6 ⟨g6, rfl, le6, ge6, at6⟩
  have nx_H6 := le6.1
  replace hle := hle.trans le6
  replace at4 := le6.2 _ _ at4
  replace at5 := le6.2 _ _ at5
  have lt_at6 := GHeap.lt_of_get at6
  replace h := base_h.mono hle
  replace hin1 := base_hin1.mono hle
  replace hin2 := base_hin2.mono hle
  clear hb4 c04 i04 hm4 hi4
  have hb4 : Prt.At _ g4 0 m q := ⟨Mem.of_get at4, hin1⟩
  obtain ⟨c04, i04⟩ := hb4.get
  have hm4 : MemN _ _ _ _ _ := ⟨rfl, hb4.1⟩
  have hi4 := hb4.2
  clear hb5 c05 i05 hm5 hi5
  have hb5 : Prt.At _ g5 0 m' q' := ⟨Mem.of_get at5, hin2⟩
  obtain ⟨c05, i05⟩ := hb5.get
  have hm5 : MemN _ _ _ _ _ := ⟨rfl, hb5.1⟩
  have hi5 := hb5.2
  refine .nil ?_
  refine hK1 _ _ ?_
  refine .seq (fun K2 hK2 => ?_)
  refine .region ?_
  refine .m rfl rfl rfl (.move rfl) ?_
  refine .m rfl rfl rfl (.makeFunc rfl) ?_
  refine .call rfl rfl rfl rfl @Try.call66 rfl (partOf_c (Y := opL (· || ·) m.me m'.me) h hI.1.sz (by omega) @Try.call75 (fun H' hle' x e hx he => join1_c (hb4.mono hle') (hb5.mono hle') hs1 hs2 (by omega) (by omega))) ?_
  rintro _ H9 ⟨le9, p9, rfl, v9⟩
  have nx_H9 := le9.1
  replace hle := hle.trans le9
  replace at4 := le9.2 _ _ at4
  replace at5 := le9.2 _ _ at5
  replace at6 := le9.2 _ _ at6
  have bs_v9 := v9
  have lv_v9 : Keep H6.next H9 H9 := fun _ _ _ h => h
  replace h := base_h.mono hle
  replace hin1 := base_hin1.mono hle
  replace hin2 := base_hin2.mono hle
  clear hb4 c04 i04 hm4 hi4
  have hb4 : Prt.At _ g4 0 m q := ⟨Mem.of_get at4, hin1⟩
  obtain ⟨c04, i04⟩ := hb4.get
  have hm4 : MemN _ _ _ _ _ := ⟨rfl, hb4.1⟩
  have hi4 := hb4.2
  clear hb5 c05 i05 hm5 hi5
  have hb5 : Prt.At _ g5 0 m' q' := ⟨Mem.of_get at5, hin2⟩
  obtain ⟨c05, i05⟩ := hb5.get
  have hm5 : MemN _ _ _ _ _ := ⟨rfl, hb5.1⟩
  have hi5 := hb5.2
  have i9 := v9.inn
  refine .r0 rfl rfl (.fillR rfl sz_34_VPrt rfl rfl rfl rfl (by assumption) (by first | rfl | exact Nat.le_of_ble_eq_true rfl | simp)) ?_
  rintro _ H1003 ⟨rfl, st1003, at1003⟩
  have nx_H1003 := st1003.nx
  replace hle := hle.st st1003 (fun k hk => ⟨by omega, trivial⟩)
  replace at4 := st1003.same _ _ ⟨by omega, trivial⟩ at4
  replace at5 := st1003.same _ _ ⟨by omega, trivial⟩ at5
  replace lv_v9 := Keep.st lv_v9 st1003 (fun k hb hk => ⟨by omega, trivial⟩)
  replace v9 := bs_v9.keep lv_v9 (Nat.le_refl _)
  have lt_at1003 := GHeap.lt_of_get at1003
  replace h := base_h.mono hle
  replace hin1 := base_hin1.mono hle
  replace hin2 := base_hin2.mono hle
  clear hb4 c04 i04 hm4 hi4
  have hb4 : Prt.At _ g4 0 m q := ⟨Mem.of_get at4, hin1⟩
  obtain ⟨c04, i04⟩ := hb4.get
  have hm4 : MemN _ _ _ _ _ := ⟨rfl, hb4.1⟩
  have hi4 := hb4.2
  clear hb5 c05 i05 hm5 hi5
  have hb5 : Prt.At _ g5 0 m' q' := ⟨Mem.of_get at5, hin2⟩
  obtain ⟨c05, i05⟩ := hb5.get
  have hm5 : MemN _ _ _ _ _ := ⟨rfl, hb5.1⟩
  have hi5 := hb5.2
  clear i9
  have i9 := v9.inn
  have mm1003 : MemN _ _ _ _ _ := ⟨rfl, Mem.of_get at1003⟩
  refine .nil ?_
  refine hK2 _ _ ?_
  refine .ret ?_
  -- leaf e1
  refine hret _ _ ?_
  refine ⟨_, _, _, _, rfl, ag_34_VPrt, (by rfl), (Mem.of_get at1003), ?_⟩
  exact ⟨hle, p9, rfl, v9.keep (.of_le (.refl _)) (by omega)⟩
theorem connective_c {op : Bool → Bool → Bool} {fn g o : Nat} {f : SFun} {p : SFunP} {m m' : Prt} {q q' : PrtP} {H : GHeap} (h : SFun.At H g o f p) (hin1 : m.In H q) (hin2 : m'.In H q') (hs : f.Small) (hs1 : m.Small) (hs2 : m'.Small)
    (hcall : ∀ (xs : Array Value) (w : World), (callFunc fn xs).run Try.prog w = .ok (.enter fn xs) w)
    (hq : ∀ H', H.Le H' → f.Is → f.Part m.me → f.Part m'.me → GCalls Try.prog fn [.pointer (some ⟨g, o, none⟩), .agg (m.cells q).toArray, .agg (m'.cells q').toArray] H' (fun v H'' => H'.Le H'' ∧ ∃ r, v = .agg ((f.conn op m.me m'.me).cells r).toArray ∧ PrtR H'.next H'' (f.conn op m.me m'.me) r)) :
    GCalls Try.prog 45 [.pointer (some ⟨g, o, none⟩), .agg (m.cells q).toArray, .agg (m'.cells q').toArray, .func (.func fn) #[] #[]] H (fun v H' => H.Le H' ∧ ∃ r, v = .tuple #[.agg ((f.con op m.me m'.me).cells r).toArray, .int .i64 (f.conC m.me m'.me)] ∧ PrtR H.next H' (f.con op m.me m'.me) r) := by
  refine GCalls.body (N := 22) (rs := [.cell 8 34, .tmp 9]) Try.func45 rfl rfl rfl rfl (fun Qx hret hend => ?_)
  refine .forget (fr' := [(0, some _), (1, some _), (2, some _), (3, some _)]) ⟨rfl, rfl, rfl, rfl, trivial⟩ ?_
  have hle := GHeap.Le.refl H
  have base_h := h
  have base_hin1 := hin1
  have base_hin2 := hin2
  refine .seq (fun K1 hK1 => ?_)
  refine .region ?_
  refine .r rfl rfl rfl (.boxR rfl sz_34_VPrt rfl) ?_
  rintro _ H5 ⟨g5, rfl, le5, ge5, at5⟩
  have nx_H5 := le5.1
  replace hle := hle.trans le5
  have lt_at5 := GHeap.lt_of_get at5
  replace h := base_h.mono hle
  replace hin1 := base_hin1.mono hle
  replace hin2 := base_hin2.mono hle
  have hb5 : Prt.At _ g5 0 m q := ⟨Mem.of_get at5, hin1⟩
  obtain ⟨c05, i05⟩ := hb5.get
  have hm5 : MemN _ _ _ _ _ := ⟨rfl, hb5.1⟩
  have hi5 := hb5.2
  refine .r rfl rfl rfl (.boxR rfl sz_34_VPrt rfl) ?_
  rintro _ H6 ⟨g6, rfl, le6, ge6, at6⟩
  have nx_H6 := le6.1
  replace hle := hle.trans le6
  replace at5 := le6.2 _ _ at5
  have lt_at6 := GHeap.lt_of_get at6
  replace h := base_h.mono hle
  replace hin1 := base_hin1.mono hle
  replace hin2 := base_hin2.mono hle
  clear hb5 c05 i05 hm5 hi5
  have hb5 : Prt.At _ g5 0 m q := ⟨Mem.of_get at5, hin1⟩
  obtain ⟨c05, i05⟩ := hb5.get
  have hm5 : MemN _ _ _ _ _ := ⟨rfl, hb5.1⟩
  have hi5 := hb5.2
  have hb6 : Prt.At _ g6 0 m' q' := ⟨Mem.of_get at6, hin2⟩
  obtain ⟨c06, i06⟩ := hb6.get
  have hm6 : MemN _ _ _ _ _ := ⟨rfl, hb6.1⟩
  have hi6 := hb6.2
  refine .r rfl rfl rfl (.allocR rfl ze_34_VPrt rfl) ?_
  rintro _ H8 ⟨g8, rfl, le8, ge8, at8⟩
  have nx_H8 := le8.1
  replace hle := hle.trans le8
  replace at5 := le8.2 _ _ at5
  replace at6 := le8.2 _ _ at6
  have lt_at8 := GHeap.lt_of_get at8
  replace h := base_h.mono hle
  replace hin1 := base_hin1.mono hle
  replace hin2 := base_hin2.mono hle
  clear hb5 c05 i05 hm5 hi5
  have hb5 : Prt.At _ g5 0 m q := ⟨Mem.of_get at5, hin1⟩
  obtain ⟨c05, i05⟩ := hb5.get
  have hm5 : MemN _ _ _ _ _ := ⟨rfl, hb5.1⟩
  have hi5 := hb5.2
  clear hb6 c06 i06 hm6 hi6
  have hb6 : Prt.At _ g6 0 m' q' := ⟨Mem.of_get at6, hin2⟩
  obtain ⟨c06, i06⟩ := hb6.get
  have hm6 : MemN _ _ _ _ _ := ⟨rfl, hb6.1⟩
  have hi6 := hb6.2
  refine .m rfl rfl rfl (.assign rfl) ?_
  refine .nil ?_
  refine hK1 _ _ ?_
  refine .seq (fun K2 hK2 => ?_)
  refine .seq (fun K3 hK3 => ?_)
  refine .region ?_
  refine .m rfl rfl rfl (.move rfl) ?_
  refine .m rfl rfl rfl (.loadM ag_34_VPrt rfl ⟨rfl, Mem.of_get at5⟩) ?_
  refine .m rfl rfl rfl (.loadM ag_34_VPrt rfl ⟨rfl, Mem.of_get at6⟩) ?_
  refine .r rfl rfl rfl (.litR rfl sl_99_S ze_34_VPrt rfl rfl (by omega) (by omega) rfl rfl) ?_
  rintro _ H13 ⟨g13, rfl, le13, ge13, at13⟩
  have nx_H13 := le13.1
  replace hle := hle.trans le13
  replace at5 := le13.2 _ _ at5
  replace at6 := le13.2 _ _ at6
  replace at8 := le13.2 _ _ at8
  have lt_at13 := GHeap.lt_of_get at13
  replace h := base_h.mono hle
  replace hin1 := base_hin1.mono hle
  replace hin2 := base_hin2.mono hle
  clear hb5 c05 i05 hm5 hi5
  have hb5 : Prt.At _ g5 0 m q := ⟨Mem.of_get at5, hin1⟩
  obtain ⟨c05, i05⟩ := hb5.get
  have hm5 : MemN _ _ _ _ _ := ⟨rfl, hb5.1⟩
  have hi5 := hb5.2
  clear hb6 c06 i06 hm6 hi6
  have hb6 : Prt.At _ g6 0 m' q' := ⟨Mem.of_get at6, hin2⟩
  obtain ⟨c06, i06⟩ := hb6.get
  have hm6 : MemN _ _ _ _ _ := ⟨rfl, hb6.1⟩
  have hi6 := hb6.2
  refine .callQ rfl rfl rfl rfl @Try.call73 rfl (areParts2_c) ?_
  refine .m rfl rfl rfl (.not rfl) ?_
  refine .nil ?_
  refine hK3 _ _ ?_
  refine .cond rfl (fun h15 => ?_) (fun h15 => ?_)
  ·
   try simp only [sps] at h15
   refine .seq (fun K4 hK4 => ?_)
   refine .region ?_
   refine .m rfl rfl rfl (.build bt_34_Uc rfl rfl rfl) ?_
   refine .r0 rfl rfl (.fillR rfl sz_34_VPrt rfl rfl rfl rfl (by assumption) (by first | rfl | exact Nat.le_of_ble_eq_true rfl | simp)) ?_
   rintro _ H2001 ⟨rfl, st2001, at2001⟩
   have nx_H2001 := st2001.nx
   replace hle := hle.st st2001 (fun k hk => ⟨by omega, trivial⟩)
   replace at5 := st2001.same _ _ ⟨by omega, trivial⟩ at5
   replace at6 := st2001.same _ _ ⟨by omega, trivial⟩ at6
   replace at13 := st2001.same _ _ ⟨by omega, trivial⟩ at13
   have lt_at2001 := GHeap.lt_of_get at2001
   replace h := base_h.mono hle
   replace hin1 := base_hin1.mono hle
   replace hin2 := base_hin2.mono hle
   clear hb5 c05 i05 hm5 hi5
   have hb5 : Prt.At _ g5 0 m q := ⟨Mem.of_get at5, hin1⟩
   obtain ⟨c05, i05⟩ := hb5.get
   have hm5 : MemN _ _ _ _ _ := ⟨rfl, hb5.1⟩
   have hi5 := hb5.2
   clear hb6 c06 i06 hm6 hi6
   have hb6 : Prt.At _ g6 0 m' q' := ⟨Mem.of_get at6, hin2⟩
   obtain ⟨c06, i06⟩ := hb6.get
   have hm6 : MemN _ _ _ _ _ := ⟨rfl, hb6.1⟩
   have hi6 := hb6.2
   have mm2001 : MemN _ _ _ _ _ := ⟨rfl, Mem.of_get at2001⟩
   refine .m rfl rfl rfl (.assign rfl) ?_
   refine .nil ?_
   refine hK4 _ _ ?_
   refine .ret ?_
   -- leaf e1
   refine hret _ _ ?_
   refine ⟨_, _, _, _, _, rfl, ag_34_VPrt, (by rfl), (Mem.of_get at2001), rfl, ?_⟩
   obtain ⟨e1, e2⟩ := SFun.con_not (op := op) (by simpa only [sps] using h15)
   rw [e1, e2]
   exact ⟨hle, ⟨none, fun _ => none⟩, rfl, .nil _ _ _⟩
  ·
   simp only [sps] at h15
   refine .skip ?_
   refine hK2 _ _ ?_
   refine .seq (fun K5 hK5 => ?_)
   refine .region ?_
   refine .m rfl rfl rfl (.move rfl) ?_
   refine .m rfl rfl rfl (.move rfl) ?_
   refine .m rfl rfl rfl (.loadM ag_34_VPrt rfl ⟨rfl, Mem.of_get at5⟩) ?_
   refine .m rfl rfl rfl (.loadM ag_34_VPrt rfl ⟨rfl, Mem.of_get at6⟩) ?_
   refine .callV rfl rfl rfl rfl rfl hcall rfl ((hq _ hle h15.1 h15.2.1 h15.2.2)) ?_
   rintro _ H21 ⟨le21, p21, rfl, v21⟩
   have nx_H21 := le21.1
   replace hle := hle.trans le21
   replace at5 := le21.2 _ _ at5
   replace at6 := le21.2 _ _ at6
   replace at8 := le21.2 _ _ at8
   replace at13 := le21.2 _ _ at13
   have bs_v21 := v21
   have lv_v21 : Keep H13.next H21 H21 := fun _ _ _ h => h
   replace h := base_h.mono hle
   replace hin1 := base_hin1.mono hle
   replace hin2 := base_hin2.mono hle
   clear hb5 c05 i05 hm5 hi5
   have hb5 : Prt.At _ g5 0 m q := ⟨Mem.of_get at5, hin1⟩
   obtain ⟨c05, i05⟩ := hb5.get
   have hm5 : MemN _ _ _ _ _ := ⟨rfl, hb5.1⟩
   have hi5 := hb5.2
   clear hb6 c06 i06 hm6 hi6
   have hb6 : Prt.At _ g6 0 m' q' := ⟨Mem.of_get at6, hin2⟩
   obtain ⟨c06, i06⟩ := hb6.get
   have hm6 : MemN _ _ _ _ _ := ⟨rfl, hb6.1⟩
   have hi6 := hb6.2
   have i21 := v21.inn
   refine .r0 rfl rfl (.fillR rfl sz_34_VPrt rfl rfl rfl rfl (by assumption) (by first | rfl | exact Nat.le_of_ble_eq_true rfl | simp)) ?_
   rintro _ H3005 ⟨rfl, st3005, at3005⟩
   have nx_H3005 := st3005.nx
   replace hle := hle.st st3005 (fun k hk => ⟨by omega, trivial⟩)
   replace at5 := st3005.same _ _ ⟨by omega, trivial⟩ at5
   replace at6 := st3005.same _ _ ⟨by omega, trivial⟩ at6
   replace at13 := st3005.same _ _ ⟨by omega, trivial⟩ at13
   replace lv_v21 := Keep.st lv_v21 st3005 (fun k hb hk => ⟨by omega, trivial⟩)
   replace v21 := bs_v21.keep lv_v21 (Nat.le_refl _)
   have lt_at3005 := GHeap.lt_of_get at3005
   replace h := base_h.mono hle
   replace hin1 := base_hin1.mono hle
   replace hin2 := base_hin2.mono hle
   clear hb5 c05 i05 hm5 hi5
   have hb5 : Prt.At _ g5 0 m q := ⟨Mem.of_get at5, hin1⟩
   obtain ⟨c05, i05⟩ := hb5.get
   have hm5 : MemN _ _ _ _ _ := ⟨rfl, hb5.1⟩
   have hi5 := hb5.2
   clear hb6 c06 i06 hm6 hi6
   have hb6 : Prt.At _ g6 0 m' q' := ⟨Mem.of_get at6, hin2⟩
   obtain ⟨c06, i06⟩ := hb6.get
   have hm6 : MemN _ _ _ _ _ := ⟨rfl, hb6.1⟩
   have hi6 := hb6.2
   clear i21
   have i21 := v21.inn
   have mm3005 : MemN _ _ _ _ _ := ⟨rfl, Mem.of_get at3005⟩
   refine .m rfl rfl rfl (.assign rfl) ?_
   refine .nil ?_
   refine hK5 _ _ ?_
   refine .ret ?_
   -- leaf e2
   refine hret _ _ ?_
   refine ⟨_, _, _, _, _, rfl, ag_34_VPrt, (by rfl), (Mem.of_get at3005), rfl, ?_⟩
   obtain ⟨e1, e2⟩ := SFun.con_ok (op := op) h15
   rw [e1, e2]
   exact ⟨hle, p21, rfl, v21.keep (.of_le (.refl _)) (by omega)⟩
theorem implJoinParts_c {f : SFun} {p : SFunP} {m m' : Prt} {q q' : PrtP} {H : GHeap} (hin : f.In H p := by assumption) (hin1 : m.In H q := by assumption) (hin2 : m'.In H q' := by assumption) (hs : f.Small := by assumption) (hs1 : m.Small := by assumption) (hs2 : m'.Small := by assumption) :
    GCalls Try.prog 25 [.agg (f.cells p).toArray, .agg (m.cells q).toArray, .agg (m'.cells q').toArray] H (fun v H' => H.Le H' ∧ ∃ r, v = .tuple #[.agg ((f.con (· || ·) m.me m'.me).cells r).toArray, .int .i64 (f.conC m.me m'.me)] ∧ PrtR H.next H' (f.con (· || ·) m.me m'.me) r) := by
  refine GCalls.body (N := 13) (rs := [.cell 6 34, .tmp 7]) Try.func25 rfl rfl rfl rfl (fun Qx hret hend => ?_)
  refine .forget (fr' := [(0, some _), (1, some _), (2, some _)]) ⟨rfl, rfl, rfl, trivial⟩ ?_
  have hle := GHeap.Le.refl H
  have base_hin := hin
  have base_hin1 := hin1
  have base_hin2 := hin2
  refine .seq (fun K1 hK1 => ?_)
  refine .region ?_
  refine .r rfl rfl rfl (.boxR rfl sz_39_VSFun rfl) ?_
  rintro _ H3 ⟨g3, rfl, le3, ge3, at3⟩
  have nx_H3 := le3.1
  replace hle := hle.trans le3
  have lt_at3 := GHeap.lt_of_get at3
  replace hin := base_hin.mono hle
  replace hin1 := base_hin1.mono hle
  replace hin2 := base_hin2.mono hle
  have hb3 : SFun.At _ g3 0 f p := ⟨Mem.of_get at3, hin⟩
  obtain ⟨fsh3, c53, c63, i13, i23⟩ := hb3.get
  have hm3 : MemN _ _ _ _ _ := ⟨rfl, hb3.1⟩
  have hi3 := hb3.2
  have hmsh3 : MemN _ _ _ _ _ := ⟨rfl, fsh3.1⟩
  have hish3 := fsh3.2
  refine .r rfl rfl rfl (.boxR rfl sz_34_VPrt rfl) ?_
  rintro _ H4 ⟨g4, rfl, le4, ge4, at4⟩
  have nx_H4 := le4.1
  replace hle := hle.trans le4
  replace at3 := le4.2 _ _ at3
  have lt_at4 := GHeap.lt_of_get at4
  replace hin := base_hin.mono hle
  replace hin1 := base_hin1.mono hle
  replace hin2 := base_hin2.mono hle
  clear hb3 fsh3 c53 c63 i13 i23 hm3 hi3 hmsh3 hish3
  have hb3 : SFun.At _ g3 0 f p := ⟨Mem.of_get at3, hin⟩
  obtain ⟨fsh3, c53, c63, i13, i23⟩ := hb3.get
  have hm3 : MemN _ _ _ _ _ := ⟨rfl, hb3.1⟩
  have hi3 := hb3.2
  have hmsh3 : MemN _ _ _ _ _ := ⟨rfl, fsh3.1⟩
  have hish3 := fsh3.2
  have hb4 : Prt.At _ g4 0 m q := ⟨Mem.of_get at4, hin1⟩
  obtain ⟨c04, i04⟩ := hb4.get
  have hm4 : MemN _ _ _ _ _ := ⟨rfl, hb4.1⟩
  have hi4 := hb4.2
  refine .r rfl rfl rfl (.boxR rfl sz_34_VPrt rfl) ?_
  rintro _ H5 ⟨g5, rfl, le5, ge5, at5⟩
  have nx_H5 := le5.1
  replace hle := hle.trans le5
  replace at3 := le5.2 _ _ at3
  replace at4 := le5.2 _ _ at4
  have lt_at5 := GHeap.lt_of_get at5
  replace hin := base_hin.mono hle
  replace hin1 := base_hin1.mono hle
  replace hin2 := base_hin2.mono hle
  clear hb3 fsh3 c53 c63 i13 i23 hm3 hi3 hmsh3 hish3
  have hb3 : SFun.At _ g3 0 f p := ⟨Mem.of_get at3, hin⟩
  obtain ⟨fsh3, c53, c63, i13, i23⟩ := hb3.get
  have hm3 : MemN _ _ _ _ _ := ⟨rfl, hb3.1⟩
  have hi3 := hb3.2
  have hmsh3 : MemN _ _ _ _ _ := ⟨rfl, fsh3.1⟩
  have hish3 := fsh3.2
  clear hb4 c04 i04 hm4 hi4
  have hb4 : Prt.At _ g4 0 m q := ⟨Mem.of_get at4, hin1⟩
  obtain ⟨c04, i04⟩ := hb4.get
  have hm4 : MemN _ _ _ _ _ := ⟨rfl, hb4.1⟩
  have hi4 := hb4.2
  have hb5 : Prt.At _ g5 0 m' q' := ⟨Mem.of_get at5, hin2⟩
  obtain ⟨c05, i05⟩ := hb5.get
  have hm5 : MemN _ _ _ _ _ := ⟨rfl, hb5.1⟩
  have hi5 := hb5.2
  refine .r rfl rfl rfl (.allocR rfl ze_34_VPrt rfl) ?_
  rintro _ H6 ⟨g6, rfl, le6, ge6, at6⟩
  have nx_H6 := le6.1
  replace hle := hle.trans le6
  replace at3 := le6.2 _ _ at3
  replace at4 := le6.2 _ _ at4
  replace at5 := le6.2 _ _ at5
  have lt_at6 := GHeap.lt_of_get at6
  replace hin := base_hin.mono hle
  replace hin1 := base_hin1.mono hle
  replace hin2 := base_hin2.mono hle
  clear hb3 fsh3 c53 c63 i13 i23 hm3 hi3 hmsh3 hish3
  have hb3 : SFun.At _ g3 0 f p := ⟨Mem.of_get at3, hin⟩
  obtain ⟨fsh3, c53, c63, i13, i23⟩ := hb3.get
  have hm3 : MemN _ _ _ _ _ := ⟨rfl, hb3.1⟩
  have hi3 := hb3.2
  have hmsh3 : MemN _ _ _ _ _ := ⟨rfl, fsh3.1⟩
  have hish3 := fsh3.2
  clear hb4 c04 i04 hm4 hi4
  have hb4 : Prt.At _ g4 0 m q := ⟨Mem.of_get at4, hin1⟩
  obtain ⟨c04, i04⟩ := hb4.get
  have hm4 : MemN _ _ _ _ _ := ⟨rfl, hb4.1⟩
  have hi4 := hb4.2
  clear hb5 c05 i05 hm5 hi5
  have hb5 : Prt.At _ g5 0 m' q' := ⟨Mem.of_get at5, hin2⟩
  obtain ⟨c05, i05⟩ := hb5.get
  have hm5 : MemN _ _ _ _ _ := ⟨rfl, hb5.1⟩
  have hi5 := hb5.2
  refine .m rfl rfl rfl (.assign rfl) ?_
  refine .nil ?_
  refine hK1 _ _ ?_
  refine .seq (fun K2 hK2 => ?_)
  refine .region ?_
  refine .m rfl rfl rfl (.loadM ag_34_VPrt rfl ⟨rfl, Mem.of_get at4⟩) ?_
  refine .m rfl rfl rfl (.loadM ag_34_VPrt rfl ⟨rfl, Mem.of_get at5⟩) ?_
  refine .call rfl rfl rfl rfl @Try.call45 rfl (connective_c (op := (· || ·)) hb3 hin1 hin2 hs hs1 hs2 @Try.call52 (fun H' hle' hI hp hp' => sfJoin_c (hb3.mono hle') (hin1.mono hle') (hin2.mono hle') hs hs1 hs2 hI hp hp')) ?_
  rintro _ H10 ⟨le10, p10, rfl, v10⟩
  have nx_H10 := le10.1
  replace hle := hle.trans le10
  replace at3 := le10.2 _ _ at3
  replace at4 := le10.2 _ _ at4
  replace at5 := le10.2 _ _ at5
  replace at6 := le10.2 _ _ at6
  have bs_v10 := v10
  have lv_v10 : Keep H6.next H10 H10 := fun _ _ _ h => h
  replace hin := base_hin.mono hle
  replace hin1 := base_hin1.mono hle
  replace hin2 := base_hin2.mono hle
  clear hb3 fsh3 c53 c63 i13 i23 hm3 hi3 hmsh3 hish3
  have hb3 : SFun.At _ g3 0 f p := ⟨Mem.of_get at3, hin⟩
  obtain ⟨fsh3, c53, c63, i13, i23⟩ := hb3.get
  have hm3 : MemN _ _ _ _ _ := ⟨rfl, hb3.1⟩
  have hi3 := hb3.2
  have hmsh3 : MemN _ _ _ _ _ := ⟨rfl, fsh3.1⟩
  have hish3 := fsh3.2
  clear hb4 c04 i04 hm4 hi4
  have hb4 : Prt.At _ g4 0 m q := ⟨Mem.of_get at4, hin1⟩
  obtain ⟨c04, i04⟩ := hb4.get
  have hm4 : MemN _ _ _ _ _ := ⟨rfl, hb4.1⟩
  have hi4 := hb4.2
  clear hb5 c05 i05 hm5 hi5
  have hb5 : Prt.At _ g5 0 m' q' := ⟨Mem.of_get at5, hin2⟩
  obtain ⟨c05, i05⟩ := hb5.get
  have hm5 : MemN _ _ _ _ _ := ⟨rfl, hb5.1⟩
  have hi5 := hb5.2
  have i10 := v10.inn
  refine .m rfl rfl rfl (.extract rfl rfl) ?_
  refine .m rfl rfl rfl (.extract rfl rfl) ?_
  refine .r0 rfl rfl (.fillR rfl sz_34_VPrt rfl rfl rfl rfl (by assumption) (by first | rfl | exact Nat.le_of_ble_eq_true rfl | simp)) ?_
  rintro _ H1005 ⟨rfl, st1005, at1005⟩
  have nx_H1005 := st1005.nx
  replace hle := hle.st st1005 (fun k hk => ⟨by omega, trivial⟩)
  replace at3 := st1005.same _ _ ⟨by omega, trivial⟩ at3
  replace at4 := st1005.same _ _ ⟨by omega, trivial⟩ at4
  replace at5 := st1005.same _ _ ⟨by omega, trivial⟩ at5
  replace lv_v10 := Keep.st lv_v10 st1005 (fun k hb hk => ⟨by omega, trivial⟩)
  replace v10 := bs_v10.keep lv_v10 (Nat.le_refl _)
  have lt_at1005 := GHeap.lt_of_get at1005
  replace hin := base_hin.mono hle
  replace hin1 := base_hin1.mono hle
  replace hin2 := base_hin2.mono hle
  clear hb3 fsh3 c53 c63 i13 i23 hm3 hi3 hmsh3 hish3
  have hb3 : SFun.At _ g3 0 f p := ⟨Mem.of_get at3, hin⟩
  obtain ⟨fsh3, c53, c63, i13, i23⟩ := hb3.get
  have hm3 : MemN _ _ _ _ _ := ⟨rfl, hb3.1⟩
  have hi3 := hb3.2
  have hmsh3 : MemN _ _ _ _ _ := ⟨rfl, fsh3.1⟩
  have hish3 := fsh3.2
  clear hb4 c04 i04 hm4 hi4
  have hb4 : Prt.At _ g4 0 m q := ⟨Mem.of_get at4, hin1⟩
  obtain ⟨c04, i04⟩ := hb4.get
  have hm4 : MemN _ _ _ _ _ := ⟨rfl, hb4.1⟩
  have hi4 := hb4.2
  clear hb5 c05 i05 hm5 hi5
  have hb5 : Prt.At _ g5 0 m' q' := ⟨Mem.of_get at5, hin2⟩
  obtain ⟨c05, i05⟩ := hb5.get
  have hm5 : MemN _ _ _ _ _ := ⟨rfl, hb5.1⟩
  have hi5 := hb5.2
  clear i10
  have i10 := v10.inn
  have mm1005 : MemN _ _ _ _ _ := ⟨rfl, Mem.of_get at1005⟩
  refine .m rfl rfl rfl (.assign rfl) ?_
  refine .nil ?_
  refine hK2 _ _ ?_
  refine .ret ?_
  -- leaf e1
  refine hret _ _ ?_
  refine ⟨_, _, _, _, _, rfl, ag_34_VPrt, (by rfl), (Mem.of_get at1005), rfl, ?_⟩
  exact ⟨hle, p10, rfl, v10.keep (.of_le (.refl _)) (by omega)⟩
end Go.Proofs.Ytbpehbbdodahaaa
