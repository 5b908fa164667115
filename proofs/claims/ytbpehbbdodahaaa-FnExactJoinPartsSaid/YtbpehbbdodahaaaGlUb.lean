/- Rows of truth values, made and written in place; parts that connectives make. No condition. -/
import Derived.Test.YtbpehbbdodahaaaGlUa
namespace Go.GL
def tabB (n : Nat) (p : Nat → Bool) : List Bool := (List.range n).map p
@[simp] theorem length_tabB (n : Nat) (p : Nat → Bool) : (tabB n p).length = n := by simp [tabB]
theorem tabB_get {n i : Nat} {p : Nat → Bool} (h : i < n) : (tabB n p).getD i false = p i := by simp [tabB, List.getD_eq_getElem?_getD, h]
theorem tabB_congr {n : Nat} {p q : Nat → Bool} (h : ∀ i, i < n → p i = q i) : tabB n p = tabB n q := List.map_congr_left fun i hi => h i (List.mem_range.1 hi)
theorem tabB_set (n : Nat) (p : Nat → Bool) (i : Nat) (v : Bool) : (tabB n p).set i v = tabB n (fun j => bif j == i then v else p j) := by
  apply List.ext_getElem (by simp)
  intro j h1 h2
  simp only [length_tabB] at h2
  rw [List.getElem_set]
  simp only [tabB, List.getElem_map, List.getElem_range]
  by_cases e : i = j
  · subst e; simp
  · rw [if_neg e]
    have : (j == i) = false := by simp; omega
    rw [this]; rfl
theorem tabB_false (n : Nat) : List.replicate n false = tabB n (fun _ => false) := by
  apply List.ext_getElem (by simp)
  intro j h1 h2
  simp [tabB]
/-- The first e numbers of a list, as marks. -/
def markP (xs : List Int) (e : Nat) : Nat → Bool := fun d => (xs.take e).contains (d : Int)
theorem markP_zero (xs : List Int) : markP xs 0 = fun _ => false := by funext d; simp [markP]
theorem markP_all (xs : List Int) : markP xs xs.length = fun d : Nat => xs.contains (d : Int) := by funext d; simp [markP]
theorem markP_succ {n e : Nat} {xs : List Int} (h : e < xs.length) (h0 : 0 ≤ xs.getD e 0) : tabB n (markP xs (e + 1)) = (tabB n (markP xs e)).set (xs.getD e 0).toNat true := by
  rw [tabB_set]
  refine tabB_congr fun d _ => ?_
  have e1 : xs[e]? = some (xs.getD e 0) := by simp [List.getD_eq_getElem?_getD, h]
  simp only [markP, List.take_add_one, e1, Option.toList_some, List.contains_append]
  have e2 : ([xs.getD e 0].contains (d : Int)) = (d == (xs.getD e 0).toNat) := by
    rw [Bool.eq_iff_iff]
    simp only [List.contains_cons, List.contains_nil, Bool.or_false, beq_iff_eq]
    omega
  rw [e2]
  cases (d == (xs.getD e 0).toNat) <;> simp

theorem Bools.tabS {H : GHeap} {a : Option Addr} {n : Nat} {p : Nat → Bool} (h : Bools H a (tabB n p)) : SlA H a n (fun i => .bool ((tabB n p).getD i false)) := by
  have h' : SlA H a (tabB n p).length _ := h
  rw [length_tabB] at h'
  exact h'
/-- Slices of whole rows. -/
def slsN (r : Nat → Nat) (L : Nat → Nat) (k : Nat) : List Value := (List.range k).map fun i => .slice (some ⟨r i, 0, none⟩) (L i) (L i)
@[simp] theorem length_slsN (r : Nat → Nat) (L : Nat → Nat) (k : Nat) : (slsN r L k).length = k := by simp [slsN]
def updN (r : Nat → Nat) (k g : Nat) : Nat → Nat := fun i => if i = k then g else r i
theorem updN_eq (r : Nat → Nat) (k g : Nat) : updN r k g k = g := by simp [updN]
theorem updN_ne {r : Nat → Nat} {k i g : Nat} (h : i ≠ k) : updN r k g i = r i := by simp [updN, h]
theorem slsN_succ {r : Nat → Nat} {L : Nat → Nat} {k g : Nat} : slsN (updN r k g) L (k + 1) = slsN r L k ++ [.slice (some ⟨g, 0, none⟩) (L k) (L k)] := by
  unfold slsN
  rw [List.range_succ, List.map_append]
  congr 1
  · refine List.map_congr_left fun i hi => ?_
    rw [updN_ne (by have := List.mem_range.1 hi; omega)]
  · simp [updN_eq]
/-- Rows of elements of type e live on. -/
def LastsV (e : TypeId) (H H' : GHeap) : Prop := ∀ x cs, H.get x = some (.row cs e true) → H'.get x = some (.row cs e true)
theorem LastsV.trans {e : TypeId} {A B C : GHeap} (h : LastsV e A B) (h' : LastsV e B C) : LastsV e A C := fun x xs hx => h' x xs (h x xs hx)
theorem LastsV.of_le {e : TypeId} {H H' : GHeap} (h : H.Le H') : LastsV e H H' := fun x cs hx => h.2 x _ hx
theorem St.lastsV1 {g0 : Nat} {H H' : GHeap} {e e' : TypeId} {cs : List Value} (s : St [g0] H H') (h0 : H.get g0 = some (.row cs e' true)) (hne : (e != e') = true) : LastsV e H H' := fun x xs hx => by
  simp only [bne_iff_ne, ne_eq] at hne
  refine s.same x _ ⟨fun ex => ?_, trivial⟩ hx
  subst ex
  rw [h0] at hx
  cases hx
  exact hne rfl
theorem St.lastsVA {g : Nat} {H H' : GHeap} {e e' : TypeId} (s : St [g] H H') (h : H.next ≤ g ∨ ∃ cs, H.get g = some (.row cs e' true)) (hne : (e != e') = true) : LastsV e H H' := fun x xs hx => by
  simp only [bne_iff_ne, ne_eq] at hne
  refine s.same x _ ⟨fun ex => ?_, trivial⟩ hx
  subst ex
  rcases h with h | ⟨cs, h⟩
  · have := GHeap.lt_of_get hx
    omega
  · rw [h] at hx
    cases hx
    exact hne rfl
/-- Rows of truth values, no two alike; L: their lengths, M: what they hold. -/
structure OwnB (b : Nat) (H : GHeap) (e : TypeId) (r : Nat → Nat) (L : Nat → Nat) (M : Nat → Nat → Bool) (k : Nat) : Prop where
  row : ∀ i, i < k → b ≤ r i ∧ H.get (r i) = some (.row (bools (tabB (L i) (M i))) e true)
  inj : ∀ i j, i < k → j < k → r i = r j → i = j
theorem OwnB.zero (b : Nat) (H : GHeap) (e : TypeId) (r : Nat → Nat) (L : Nat → Nat) (M : Nat → Nat → Bool) : OwnB b H e r L M 0 := ⟨fun i hi => by omega, fun i j hi => by omega⟩
theorem OwnB.keep {b k : Nat} {H H' : GHeap} {e : TypeId} {r : Nat → Nat} {L : Nat → Nat} {M : Nat → Nat → Bool} (h : OwnB b H e r L M k) (s : LastsV e H H') : OwnB b H' e r L M k := ⟨fun i hi => ⟨(h.row i hi).1, s _ _ (h.row i hi).2⟩, h.inj⟩
theorem OwnB.succ {b g k : Nat} {H H' : GHeap} {e : TypeId} {r : Nat → Nat} {L : Nat → Nat} {M : Nat → Nat → Bool} (h : OwnB b H e r L M k) (s : LastsV e H H')
    (hg : H'.get g = some (.row (bools (tabB (L k) (M k))) e true)) (hn : H.next ≤ g) (hb : b ≤ g) : OwnB b H' e (updN r k g) L M (k + 1) := by
  have lt : ∀ i, i < k → r i < g := fun i hi => Nat.lt_of_lt_of_le (GHeap.lt_of_get (h.row i hi).2) hn
  refine ⟨fun i hi => ?_, fun i j hi hj hij => ?_⟩
  · by_cases ek : i = k
    · subst ek; rw [updN_eq]; exact ⟨hb, hg⟩
    · rw [updN_ne ek]; exact ⟨(h.row i (by omega)).1, s _ _ (h.row i (by omega)).2⟩
  · by_cases ei : i = k
    · by_cases ej : j = k
      · omega
      · subst ei
        rw [updN_eq, updN_ne ej] at hij
        have := lt j (by omega)
        omega
    · by_cases ej : j = k
      · subst ej
        rw [updN_eq, updN_ne ei] at hij
        have := lt i (by omega)
        omega
      · rw [updN_ne ei, updN_ne ej] at hij
        exact h.inj i j (by omega) (by omega) hij
/-- A row is written to. -/
theorem OwnB.put {b k i : Nat} {H H' : GHeap} {e : TypeId} {r : Nat → Nat} {L : Nat → Nat} {M M' : Nat → Nat → Bool} (h : OwnB b H e r L M k) (hi : i < k) (s : St [r i] H H') (hg : H'.get (r i) = some (.row (bools (tabB (L i) (M' i))) e true))
    (hM : ∀ j, j < k → j ≠ i → ∀ d, d < L j → M' j d = M j d) : OwnB b H' e r L M' k := ⟨fun j hj => by
  by_cases ej : j = i
  · subst ej; exact ⟨(h.row j hj).1, hg⟩
  · refine ⟨(h.row j hj).1, ?_⟩
    rw [tabB_congr (hM j hj ej)]
    exact s.same _ _ ⟨fun er => ej (h.inj j i hj hi er), trivial⟩ (h.row j hj).2, h.inj⟩
theorem OwnB.congr {b k : Nat} {H : GHeap} {e : TypeId} {r : Nat → Nat} {L : Nat → Nat} {M M' : Nat → Nat → Bool} (h : OwnB b H e r L M k) (hM : ∀ j, j < k → ∀ d, d < L j → M' j d = M j d) : OwnB b H e r L M' k :=
  ⟨fun j hj => ⟨(h.row j hj).1, by rw [tabB_congr (hM j hj)]; exact (h.row j hj).2⟩, h.inj⟩
/-- A list of lists of truth values. -/
structure BMat (b : Nat) (H : GHeap) (g : Nat) (e1 e2 : TypeId) (r : Nat → Nat) (L : Nat → Nat) (M : Nat → Nat → Bool) (n : Nat) : Prop where
  hd : H.get g = some (.row (slsN r L n) e1 true)
  gb : b ≤ g
  own : OwnB b H e2 r L M n
theorem BMat.keep {b b' n g : Nat} {H H' : GHeap} {e1 e2 : TypeId} {r : Nat → Nat} {L : Nat → Nat} {M : Nat → Nat → Bool} (h : BMat b H g e1 e2 r L M n) (k : Keep b' H H') (hb : b' ≤ b) : BMat b' H' g e1 e2 r L M n :=
  ⟨k _ _ (by have := h.gb; omega) h.hd, by have := h.gb; omega, fun i hi => ⟨by have := (h.own.row i hi).1; omega, k _ _ (by have := (h.own.row i hi).1; omega) (h.own.row i hi).2⟩, h.own.inj⟩
theorem BMat.mono {b n g : Nat} {H H' : GHeap} {e1 e2 : TypeId} {r : Nat → Nat} {L : Nat → Nat} {M : Nat → Nat → Bool} (h : BMat b H g e1 e2 r L M n) (hle : H.Le H') : BMat b H' g e1 e2 r L M n :=
  ⟨hle.2 _ _ h.hd, h.gb, fun i hi => ⟨(h.own.row i hi).1, hle.2 _ _ (h.own.row i hi).2⟩, h.own.inj⟩
theorem BMat.congr {b n g : Nat} {H : GHeap} {e1 e2 : TypeId} {r : Nat → Nat} {L : Nat → Nat} {M M' : Nat → Nat → Bool} (h : BMat b H g e1 e2 r L M n) (hM : ∀ j, j < n → ∀ d, d < L j → M' j d = M j d) : BMat b H g e1 e2 r L M' n := ⟨h.hd, h.gb, h.own.congr hM⟩
theorem BMat.row {b n g i : Nat} {H : GHeap} {e1 e2 : TypeId} {r : Nat → Nat} {L : Nat → Nat} {M : Nat → Nat → Bool} (h : BMat b H g e1 e2 r L M n) (hi : i < n) : Bools H (some ⟨r i, 0, none⟩) (tabB (L i) (M i)) := Bools.of_get (h.own.row i hi).2
/-- Two matrices, the second made behind the first: no row of the one is one of the other. -/
theorem BMat.lt {b n g i : Nat} {H : GHeap} {e1 e2 : TypeId} {r : Nat → Nat} {L : Nat → Nat} {M : Nat → Nat → Bool} (h : BMat b H g e1 e2 r L M n) : g < H.next ∧ (i < n → r i < H.next) := ⟨GHeap.lt_of_get h.hd, fun hi => GHeap.lt_of_get (h.own.row i hi).2⟩
/-- The entries up to (k, l), row by row, are new ones. -/
def meetM (N A : Nat → Nat → Bool) (k l : Nat) : Nat → Nat → Bool := fun x e => bif decide (x < k) || (x == k && decide (e < l)) then N x e else A x e
theorem meetM_zero {N A : Nat → Nat → Bool} : meetM N A 0 0 = A := by funext x e; simp [meetM]
theorem meetM_next {N A : Nat → Nat → Bool} {k n : Nat} {L : Nat → Nat} : ∀ j, j < n → ∀ d, d < L j → meetM N A (k + 1) 0 j d = meetM N A k (L k) j d := fun j _ d hd => by
  unfold meetM
  congr 1
  rw [Bool.eq_iff_iff]
  simp only [Bool.or_eq_true, decide_eq_true_eq, Bool.and_eq_true, beq_iff_eq]
  constructor
  · rintro (h | ⟨_, h⟩)
    · by_cases e : j = k
      · subst e; exact .inr ⟨rfl, hd⟩
      · exact .inl (by omega)
    · omega
  · rintro (h | ⟨rfl, _⟩)
    · exact .inl (by omega)
    · exact .inl (by omega)
theorem meetM_done {N A : Nat → Nat → Bool} {n : Nat} : ∀ j, j < n → ∀ d, N j d = meetM N A n 0 j d := fun j hj d => by
  unfold meetM
  have : decide (j < n) = true := by simpa using hj
  rw [this]; rfl
theorem meetM_at {N A : Nat → Nat → Bool} {k l : Nat} : meetM N A k l k l = A k l := by
  unfold meetM
  have : (decide (k < k) || (k == k && decide (l < l))) = false := by simp
  rw [this]; rfl
theorem meetM_set {N A : Nat → Nat → Bool} {k l n : Nat} {v : Bool} (hv : v = N k l) : (tabB n (meetM N A k l k)).set l v = tabB n (meetM N A k (l + 1) k) := by
  rw [tabB_set]
  refine tabB_congr fun d _ => ?_
  unfold meetM
  by_cases e : d = l
  · subst e
    have h1 : (d == d) = true := by simp
    have h2 : (decide (k < k) || (k == k && decide (d < d + 1))) = true := by simp
    rw [h1, h2, hv]; rfl
  · have h1 : (d == l) = false := by simpa using e
    have h2 : (decide (k < k) || (k == k && decide (d < l + 1))) = (decide (k < k) || (k == k && decide (d < l))) := by
      rw [Bool.eq_iff_iff]; simp; omega
    rw [h1, h2]; rfl
theorem meetM_other {N A : Nat → Nat → Bool} {k l n : Nat} {L : Nat → Nat} : ∀ j, j < n → j ≠ k → ∀ d, d < L j → meetM N A k (l + 1) j d = meetM N A k l j d := fun j _ hne d _ => by
  unfold meetM
  have h1 : (j == k) = false := by simpa using hne
  simp [h1]
theorem BMat.sl {b n g : Nat} {H : GHeap} {e1 e2 : TypeId} {r : Nat → Nat} {L : Nat → Nat} {M : Nat → Nat → Bool} (h : BMat b H g e1 e2 r L M n) : SlA H (some ⟨g, 0, none⟩) n (fun i => .slice (some ⟨r i, 0, none⟩) (L i) (L i)) :=
  .inr ⟨g, 0, rfl, fun i hi => by rw [GHeap.cell_of h.hd, Nat.zero_add]; simp [slsN, hi]⟩
theorem BMat.put {b n g i : Nat} {H H' : GHeap} {e1 e2 : TypeId} {r : Nat → Nat} {L : Nat → Nat} {M M' : Nat → Nat → Bool} (h : BMat b H g e1 e2 r L M n) (hi : i < n) (s : St [r i] H H') (hg : H'.get (r i) = some (.row (bools (tabB (L i) (M' i))) e2 true))
    (hM : ∀ j, j < n → j ≠ i → ∀ d, d < L j → M' j d = M j d) (hne : (e1 != e2) = true) : BMat b H' g e1 e2 r L M' n := ⟨by
    simp only [bne_iff_ne, ne_eq] at hne
    refine s.same _ _ ⟨fun ex => ?_, trivial⟩ h.hd
    have h1 := h.hd
    rw [ex, (h.own.row i hi).2] at h1
    injection h1 with h1
    injection h1 with _ h1 _
    exact hne h1.symm, h.gb, h.own.put hi s hg hM⟩
/-- Another matrix of rows of its own stays when a row of this one is written to. -/
theorem BMat.st {b n g k : Nat} {H H' : GHeap} {e1 e2 : TypeId} {r : Nat → Nat} {L : Nat → Nat} {M : Nat → Nat → Bool} (h : BMat b H g e1 e2 r L M n) (s : St [k] H H') (hlt : k < b) : BMat b H' g e1 e2 r L M n :=
  ⟨s.same _ _ ⟨by have := h.gb; omega, trivial⟩ h.hd, h.gb, fun i hi => ⟨(h.own.row i hi).1, s.same _ _ ⟨by have := (h.own.row i hi).1; omega, trivial⟩ (h.own.row i hi).2⟩, h.own.inj⟩
def NewBMat (e1 e2 : TypeId) (H : GHeap) (L : Nat → Nat) (M : Nat → Nat → Bool) (n : Nat) (v : Value) (H' : GHeap) : Prop := H.Le H' ∧ ∃ g r, v = .slice (some ⟨g, 0, none⟩) n n ∧ BMat H.next H' g e1 e2 r L M n

def hasL (me : List (List Int)) (x e : Nat) : Bool := (me.getD x []).contains (e : Int)
def opL (op : Bool → Bool → Bool) (p q : List (List Int)) (x e : Nat) : Bool := op (hasL p x e) (hasL q x e)
theorem markP_has {me : List (List Int)} {k : Nat} : markP (me.getD k []) (me.getD k []).length = hasL me k := markP_all _
/-- A connective of two parts. -/
def SFun.conn (f : SFun) (op : Bool → Bool → Bool) (p q : List (List Int)) : Prt := f.pick (opL op p q)
noncomputable def SFun.con (f : SFun) (op : Bool → Bool → Bool) (p q : List (List Int)) : Prt := bif B (f.Is ∧ f.Part p ∧ f.Part q) then f.conn op p q else ⟨[]⟩
noncomputable def SFun.conC (f : SFun) (p q : List (List Int)) : Int := bif B (f.Is ∧ f.Part p ∧ f.Part q) then 0 else 1
theorem SFun.con_not {f : SFun} {op : Bool → Bool → Bool} {p q : List (List Int)} (h : ¬ (f.Is ∧ f.Part p ∧ f.Part q)) : f.con op p q = ⟨[]⟩ ∧ f.conC p q = 1 := by unfold SFun.con SFun.conC; rw [B_false h]; exact ⟨rfl, rfl⟩
theorem SFun.con_ok {f : SFun} {op : Bool → Bool → Bool} {p q : List (List Int)} (h : f.Is ∧ f.Part p ∧ f.Part q) : f.con op p q = f.conn op p q ∧ f.conC p q = 0 := by unfold SFun.con SFun.conC; rw [B_true h]; exact ⟨rfl, rfl⟩
theorem SFun.pick_small {f : SFun} (hs : f.Small) (hz : ∀ i, i < f.sz.length → 0 ≤ f.sz.getD i 0 ∧ f.sz.getD i 0 ≤ 16) (Y : Nat → Nat → Bool) : (f.pick Y).Small := by
  obtain ⟨_, h2, _, _⟩ := hs
  refine ⟨by simp only [SFun.pick, length_rowsOf]; omega, fun i => ?_⟩
  simp only [SFun.pick]
  by_cases hi : i < f.sz.length
  · rw [rowsOf_get hi]
    have := hz i hi
    exact Nat.le_trans (filtN_le _ _) (by omega)
  · rw [List.getD_eq_getElem?_getD, List.getElem?_eq_none (by rw [length_rowsOf]; omega)]
    simp
theorem SFun.con_small {f : SFun} {op : Bool → Bool → Bool} {p q : List (List Int)} (hs : f.Small) : (f.con op p q).Small := by
  by_cases h : f.Is ∧ f.Part p ∧ f.Part q
  · rw [(SFun.con_ok h).1]; exact SFun.pick_small hs h.1.1.sz _
  · rw [(SFun.con_not h).1]; exact ⟨by simp, fun i => by simp⟩
/-- The image of a part under a map. -/
def SMap.dirY (m : SMap) (p : List (List Int)) (x d : Nat) : Bool := (p.getD x []).any fun e => (m.pa.getD x []).getD e.toNat 0 == (d : Int)
/-- The marks after k rows and l elements of row k. -/
def SMap.dirM (m : SMap) (p : List (List Int)) (k l : Nat) : Nat → Nat → Bool := fun x d => bif decide (x < k) then m.dirY p x d else bif x == k then ((p.getD k []).take l).any (fun e => (m.pa.getD k []).getD e.toNat 0 == (d : Int)) else false
theorem SMap.dirM_zero {m : SMap} {p : List (List Int)} : m.dirM p 0 0 = fun _ _ => false := by
  funext x d; unfold SMap.dirM
  have : decide (x < 0) = false := by simp
  rw [this]
  cases (x == 0) <;> simp
theorem SMap.dirM_next {m : SMap} {p : List (List Int)} {k n : Nat} {L : Nat → Nat} : ∀ j, j < n → ∀ d, d < L j → m.dirM p (k + 1) 0 j d = m.dirM p k (p.getD k []).length j d := fun j _ d _ => by
  unfold SMap.dirM
  rcases Nat.lt_trichotomy j k with h | h | h
  · have h1 : decide (j < k + 1) = true := by simp; omega
    have h2 : decide (j < k) = true := by simpa using h
    rw [h1, h2]; rfl
  · subst h
    have h1 : decide (j < j + 1) = true := by simp
    have h2 : decide (j < j) = false := by simp
    have h3 : (j == j) = true := by simp
    rw [h1, h2, h3, List.take_length]; rfl
  · have h1 : decide (j < k + 1) = false := by simp; omega
    have h2 : decide (j < k) = false := by simp; omega
    have h3 : (j == k) = false := by simp; omega
    rw [h1, h2, h3]
    cases (j == k + 1) <;> simp
theorem SMap.dirM_done {m : SMap} {p : List (List Int)} {n : Nat} : ∀ j, j < n → ∀ d, m.dirY p j d = m.dirM p n 0 j d := fun j hj d => by
  unfold SMap.dirM
  have : decide (j < n) = true := by simpa using hj
  rw [this]; rfl
theorem SMap.dirM_set {m : SMap} {p : List (List Int)} {k l n i : Nat} (hl : l < (p.getD k []).length) (hi : (m.pa.getD k []).getD ((p.getD k []).getD l 0).toNat 0 = (i : Int)) : (tabB n (m.dirM p k l k)).set i true = tabB n (m.dirM p k (l + 1) k) := by
  rw [tabB_set]
  refine tabB_congr fun d _ => ?_
  unfold SMap.dirM
  have h2 : decide (k < k) = false := by simp
  have h3 : (k == k) = true := by simp
  rw [h2, h3]
  have e1 : (p.getD k [])[l]? = some ((p.getD k []).getD l 0) := by rw [List.getD_eq_getElem?_getD (i := l), List.getElem?_eq_getElem hl]; rfl
  simp only [cond_false, cond_true, List.take_add_one, e1, Option.toList_some, List.any_append, List.any_cons, List.any_nil, Bool.or_false, hi]
  by_cases e : d = i
  · subst e; simp
  · have h4 : (d == i) = false := by simpa using e
    have h5 : ((i : Int) == (d : Int)) = false := by simp; omega
    rw [h4, h5]; simp
theorem SMap.dirM_other {m : SMap} {p : List (List Int)} {k l n : Nat} {L : Nat → Nat} : ∀ j, j < n → j ≠ k → ∀ d, d < L j → m.dirM p k (l + 1) j d = m.dirM p k l j d := fun j _ hne d _ => by
  unfold SMap.dirM
  have h1 : (j == k) = false := by simpa using hne
  rw [h1]; rfl
noncomputable def SMap.dir (m : SMap) (p : List (List Int)) : Prt := bif B (m.Is ∧ m.s.Part p) then m.t.pick (m.dirY p) else ⟨[]⟩
noncomputable def SMap.dirC (m : SMap) (p : List (List Int)) : Int := bif B (m.Is ∧ m.s.Part p) then 0 else 1
theorem SMap.dir_not {m : SMap} {p : List (List Int)} (h : ¬ (m.Is ∧ m.s.Part p)) : m.dir p = ⟨[]⟩ ∧ m.dirC p = 1 := by unfold SMap.dir SMap.dirC; rw [B_false h]; exact ⟨rfl, rfl⟩
theorem SMap.dir_ok {m : SMap} {p : List (List Int)} (h : m.Is ∧ m.s.Part p) : m.dir p = m.t.pick (m.dirY p) ∧ m.dirC p = 0 := by unfold SMap.dir SMap.dirC; rw [B_true h]; exact ⟨rfl, rfl⟩
theorem SMap.dir_small {m : SMap} {p : List (List Int)} (hs : m.Small) : (m.dir p).Small := by
  by_cases h : m.Is ∧ m.s.Part p
  · rw [(SMap.dir_ok h).1]; exact SFun.pick_small hs.2.1 h.1.1.t.1.sz _
  · rw [(SMap.dir_not h).1]; exact ⟨by simp, fun i => by simp⟩
end Go.GL
