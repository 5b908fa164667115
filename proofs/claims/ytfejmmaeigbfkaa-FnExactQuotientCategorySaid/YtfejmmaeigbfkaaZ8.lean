/- Partitions: classes numbered by their least elements, and the finest partition that joins pairs. No condition. -/
import Derived.Test.YtfejmmaeigbfkaaZ7
namespace Go.GL
/-- The least mate of i. -/
def least (K : Nat → Nat → Bool) (i : Nat) : Nat := ((List.range i).find? fun j => K j i).getD i
/-- How many of the numbers below m are the least of their classes. -/
def reps (K : Nat → Nat → Bool) (m : Nat) : Nat := ((List.range m).filter fun j => least K j == j).length
def clsAt (K : Nat → Nat → Bool) (i : Nat) : Int := (reps K (least K i) : Int)
def clsL (K : Nat → Nat → Bool) (n : Nat) : List Int := (List.range n).map (clsAt K)
@[simp] theorem length_clsL (K : Nat → Nat → Bool) (n : Nat) : (clsL K n).length = n := by simp [clsL]
theorem clsL_get {K : Nat → Nat → Bool} {n i : Nat} (h : i < n) : (clsL K n).getD i 0 = clsAt K i := by simp [clsL, List.getD_eq_getElem?_getD, h]
theorem clsL_succ (K : Nat → Nat → Bool) (n : Nat) : clsL K (n + 1) = clsL K n ++ [clsAt K n] := by simp [clsL, List.range_succ]
/-- It is an equivalence below n. -/
structure Eqv (K : Nat → Nat → Bool) (n : Nat) : Prop where
  rf : ∀ a, a < n → K a a = true
  sy : ∀ a b, a < n → b < n → K a b = true → K b a = true
  tr : ∀ a b c, a < n → b < n → c < n → K a b = true → K b c = true → K a c = true
theorem find_range {p : Nat → Bool} {i : Nat} : (∃ j, (List.range i).find? p = some j ∧ j < i ∧ p j = true ∧ ∀ k, k < j → p k = false) ∨ ((List.range i).find? p = none ∧ ∀ k, k < i → p k = false) := by
  cases h : (List.range i).find? p with
  | none =>
    rw [List.find?_range_eq_none] at h
    exact .inr ⟨rfl, fun k hk => by simpa using h k hk⟩
  | some j =>
    rw [List.find?_range_eq_some] at h
    exact .inl ⟨j, rfl, List.mem_range.1 h.2.1, h.1, fun k hk => by simpa using h.2.2 k hk⟩
theorem least_le (K : Nat → Nat → Bool) (i : Nat) : least K i ≤ i := by
  unfold least
  rcases find_range (p := fun j => K j i) (i := i) with ⟨j, h, hl, _⟩ | ⟨h, _⟩
  · rw [h]; exact Nat.le_of_lt hl
  · rw [h]; exact Nat.le_refl _
theorem least_mate {K : Nat → Nat → Bool} {n i : Nat} (e : Eqv K n) (h : i < n) : K (least K i) i = true ∧ ∀ j, j < least K i → K j i = false := by
  unfold least
  rcases find_range (p := fun j => K j i) (i := i) with ⟨j, hj, hl, hp, hb⟩ | ⟨hj, hb⟩
  · rw [hj]; exact ⟨hp, hb⟩
  · rw [hj]; exact ⟨e.rf i h, hb⟩
theorem least_eq {K : Nat → Nat → Bool} {n i j : Nat} (e : Eqv K n) (hi : i < n) (hk : K j i = true) (hm : ∀ k, k < j → K k i = false) : least K i = j := by
  obtain ⟨h1, h2⟩ := least_mate e hi
  rcases Nat.lt_trichotomy (least K i) j with h | h | h
  · rw [hm _ h] at h1; cases h1
  · exact h
  · rw [h2 _ h] at hk; cases hk
theorem least_congr_mate {K : Nat → Nat → Bool} {n i j : Nat} (e : Eqv K n) (hi : i < n) (hj : j < n) : least K i = least K j ↔ K i j = true := by
  obtain ⟨h1, h2⟩ := least_mate e hi
  obtain ⟨k1, k2⟩ := least_mate e hj
  have li := least_le K i
  have lj := least_le K j
  constructor
  · intro h
    rw [← h] at k1
    exact e.tr i _ j hi (by omega) hj (e.sy _ _ (by omega) hi h1) k1
  · intro h
    refine least_eq e hi (e.tr _ j i (by omega) hj hi k1 (e.sy _ _ hi hj h)) fun k hk => ?_
    cases hh : K k i with
    | false => rfl
    | true => rw [← k2 k hk]; exact (e.tr k i j (by omega) hi hj hh h).symm
theorem least_idem {K : Nat → Nat → Bool} {n i : Nat} (e : Eqv K n) (hi : i < n) : least K (least K i) = least K i := by
  have := least_le K i
  exact (least_congr_mate e (by omega) hi).2 (least_mate e hi).1
theorem least_congr {K K' : Nat → Nat → Bool} {n i : Nat} (h : ∀ a b, a < n → b < n → K a b = K' a b) (hi : i < n) : least K i = least K' i := by
  unfold least
  have : ∀ l : List Nat, (∀ j ∈ l, j < n) → l.find? (fun j => K j i) = l.find? (fun j => K' j i) := by
    intro l
    induction l with
    | nil => intro _; rfl
    | cons a l ih =>
      intro hl
      simp only [List.find?_cons]
      rw [h a i (hl a (by simp)) hi, ih fun j hj => hl j (by simp [hj])]
  rw [this _ fun j hj => by have := List.mem_range.1 hj; omega]
theorem reps_congr {K K' : Nat → Nat → Bool} {n m : Nat} (h : ∀ a b, a < n → b < n → K a b = K' a b) (hm : m ≤ n) : reps K m = reps K' m := by
  unfold reps
  congr 1
  refine List.filter_congr fun j hj => ?_
  rw [least_congr h (by have := List.mem_range.1 hj; omega)]
theorem clsL_congr {K K' : Nat → Nat → Bool} {n : Nat} (h : ∀ a b, a < n → b < n → K a b = K' a b) : clsL K n = clsL K' n := by
  refine List.map_congr_left fun i hi => ?_
  have hi' := List.mem_range.1 hi
  unfold clsAt
  rw [least_congr h hi', reps_congr h (by have := least_le K' i; omega)]
theorem reps_succ (K : Nat → Nat → Bool) (m : Nat) : reps K (m + 1) = reps K m + (if least K m = m then 1 else 0) := by
  unfold reps
  rw [List.range_succ, List.filter_append, List.length_append]
  congr 1
  by_cases h : least K m = m <;> simp [h]
theorem reps_le (K : Nat → Nat → Bool) (m : Nat) : reps K m ≤ m := by
  unfold reps; exact Nat.le_trans (List.length_filter_le _ _) (by simp)
theorem reps_mono {K : Nat → Nat → Bool} {a b : Nat} (h : a ≤ b) : reps K a ≤ reps K b := by
  induction b with
  | zero => obtain rfl : a = 0 := by omega
            exact Nat.le_refl _
  | succ b ih =>
    by_cases e : a = b + 1
    · subst e; exact Nat.le_refl _
    · have := ih (by omega)
      rw [reps_succ]
      omega

/-- Two numbers have the same label. -/
def kerB (xs : List Int) (a b : Nat) : Bool := xs.getD a 0 == xs.getD b 0
theorem kerB_eqv (xs : List Int) (n : Nat) : Eqv (kerB xs) n := ⟨fun a _ => by simp [kerB], fun a b _ _ h => by simp only [kerB, beq_iff_eq] at h ⊢; exact h.symm, fun a b c _ _ _ h h' => by simp only [kerB, beq_iff_eq] at h h' ⊢; exact h.trans h'⟩
/-- The labels that have been seen below i, in order. -/
def seenL (xs : List Int) (i : Nat) : List Int := ((List.range i).filter fun j => least (kerB xs) j == j).map fun j => xs.getD j 0
@[simp] theorem length_seenL (xs : List Int) (i : Nat) : (seenL xs i).length = reps (kerB xs) i := by simp [seenL, reps]
theorem seenL_new {xs : List Int} {i : Nat} (h : least (kerB xs) i = i) : seenL xs (i + 1) = seenL xs i ++ [xs.getD i 0] := by simp [seenL, List.range_succ, List.filter_append, h]
theorem seenL_old {xs : List Int} {i : Nat} (h : least (kerB xs) i ≠ i) : seenL xs (i + 1) = seenL xs i := by simp [seenL, List.range_succ, List.filter_append, h]
theorem seenL_get {xs : List Int} {j : Nat} : ∀ {i : Nat}, j < i → least (kerB xs) j = j → (seenL xs i).getD (reps (kerB xs) j) 0 = xs.getD j 0
  | 0, h, _ => by omega
  | i + 1, h, hj => by
    by_cases e : j = i
    · subst e
      rw [seenL_new hj, List.getD_eq_getElem?_getD, List.getElem?_append_right (by simp)]
      simp
    · have ih := seenL_get (i := i) (by omega) hj
      by_cases hi : least (kerB xs) i = i
      · rw [seenL_new hi]
        have hlt : reps (kerB xs) j < reps (kerB xs) i := by
          have h1 := reps_mono (K := kerB xs) (a := j + 1) (b := i) (by omega)
          rw [reps_succ, if_pos hj] at h1
          omega
        rw [List.getD_eq_getElem?_getD, List.getElem?_append_left (by simpa using hlt), ← List.getD_eq_getElem?_getD]
        exact ih
      · rw [seenL_old hi]; exact ih
theorem mem_seenL {xs : List Int} {i : Nat} {v : Int} (h : v ∈ seenL xs i) : ∃ j, j < i ∧ least (kerB xs) j = j ∧ v = xs.getD j 0 := by
  simp only [seenL, List.mem_map, List.mem_filter, List.mem_range, beq_iff_eq] at h
  obtain ⟨j, ⟨h1, h2⟩, h3⟩ := h
  exact ⟨j, h1, h2, h3.symm⟩
theorem seenL_at {xs : List Int} {i m : Nat} (h : m < (seenL xs i).length) : ∃ j, j < i ∧ least (kerB xs) j = j ∧ reps (kerB xs) j = m ∧ (seenL xs i).getD m 0 = xs.getD j 0 := by
  induction i with
  | zero => simp [seenL] at h
  | succ i ih =>
    by_cases hi : least (kerB xs) i = i
    · rw [seenL_new hi] at h ⊢
      by_cases e : m < (seenL xs i).length
      · obtain ⟨j, h1, h2, h3, h4⟩ := ih e
        refine ⟨j, by omega, h2, h3, ?_⟩
        rw [List.getD_eq_getElem?_getD, List.getElem?_append_left e, ← List.getD_eq_getElem?_getD]
        exact h4
      · have hm : m = (seenL xs i).length := by simp at h; rw [length_seenL] at *; omega
        refine ⟨i, by omega, hi, by rw [hm, length_seenL], ?_⟩
        rw [hm, List.getD_eq_getElem?_getD, List.getElem?_append_right (Nat.le_refl _)]
        simp
    · rw [seenL_old hi] at h ⊢
      obtain ⟨j, h1, h2, h3, h4⟩ := ih h
      exact ⟨j, by omega, h2, h3, h4⟩
/-- What a search for the label among the seen ones finds. -/
theorem seen_find {xs : List Int} {i m : Nat} (h : m < (seenL xs i).length) : (seenL xs i).getD m 0 = xs.getD i 0 ↔ (least (kerB xs) i < i ∧ m = reps (kerB xs) (least (kerB xs) i)) := by
  have e := kerB_eqv xs (i + 1)
  obtain ⟨j, h1, h2, h3, h4⟩ := seenL_at h
  rw [h4]
  constructor
  · intro hx
    have hl : least (kerB xs) i = j := by
      have := (least_congr_mate (j := i) e (i := j) (by omega) (by omega)).2 (by simp only [kerB, beq_iff_eq]; exact hx)
      omega
    rw [hl]; exact ⟨h1, h3.symm⟩
  · rintro ⟨hl, hm⟩
    have hli := least_idem (K := kerB xs) (i := i) e (by omega)
    have hmate := (least_mate (i := i) e (by omega)).1
    simp only [kerB, beq_iff_eq] at hmate
    -- the number of representatives tells the representative
    have : j = least (kerB xs) i := by
      rcases Nat.lt_trichotomy j (least (kerB xs) i) with hh | hh | hh
      · have h5 := reps_mono (K := kerB xs) (a := j + 1) hh
        rw [reps_succ, if_pos h2] at h5
        omega
      · exact hh
      · have h5 := reps_mono (K := kerB xs) (a := least (kerB xs) i + 1) hh
        rw [reps_succ, if_pos hli] at h5
        omega
    rw [this, hmate]
theorem seen_none {xs : List Int} {i : Nat} : (∀ m, m < (seenL xs i).length → (seenL xs i).getD m 0 ≠ xs.getD i 0) ↔ least (kerB xs) i = i := by
  constructor
  · intro h
    have hl := least_le (kerB xs) i
    refine Classical.byContradiction fun hne => ?_
    have hli := least_idem (K := kerB xs) (i := i) (kerB_eqv xs (i + 1)) (by omega)
    have hlt : reps (kerB xs) (least (kerB xs) i) < (seenL xs i).length := by
      rw [length_seenL]
      have h5 := reps_mono (K := kerB xs) (a := least (kerB xs) i + 1) (b := i) (by omega)
      rw [reps_succ, if_pos hli] at h5
      omega
    exact h _ hlt ((seen_find hlt).2 ⟨by omega, rfl⟩)
  · intro h m hm hx
    have := ((seen_find hm).1 hx).1
    omega

theorem numsL_succ (n : Nat) : numsL (n + 1) = numsL n ++ [(n : Int)] := by simp [numsL, List.range_succ]
/-- The first index of a number in a list, or -1. -/
def idxL (xs : List Int) (v : Int) : Int := match firstN xs.length fun i => xs.getD i 0 == v with | some i => (i : Int) | none => -1
theorem idxL_some {xs : List Int} {v : Int} {i : Nat} (hi : i < xs.length) (h : xs.getD i 0 = v) (hb : ∀ j, j < i → ¬ xs.getD j 0 = v) : idxL xs v = i := by
  unfold idxL; rw [firstN_some hi (by simpa using h) fun j hj => by simpa using hb j hj]
theorem idxL_none {xs : List Int} {v : Int} (h : ∀ j, j < xs.length → ¬ xs.getD j 0 = v) : idxL xs v = -1 := by
  unfold idxL; rw [firstN_none fun j hj => by simpa using h j hj]
theorem idxL_cases (xs : List Int) (v : Int) : (∃ i, i < xs.length ∧ xs.getD i 0 = v ∧ (∀ j, j < i → ¬ xs.getD j 0 = v) ∧ idxL xs v = i) ∨ ((∀ j, j < xs.length → ¬ xs.getD j 0 = v) ∧ idxL xs v = -1) := by
  rcases find_range (p := fun i => xs.getD i 0 == v) (i := xs.length) with ⟨j, _, hl, hp, hb⟩ | ⟨_, hb⟩
  · exact .inl ⟨j, hl, by simpa using hp, fun k hk => by simpa using hb k hk, idxL_some hl (by simpa using hp) fun k hk => by simpa using hb k hk⟩
  · exact .inr ⟨fun k hk => by simpa using hb k hk, idxL_none fun k hk => by simpa using hb k hk⟩
theorem idxL_lt (xs : List Int) (v : Int) : idxL xs v < xs.length ∧ -1 ≤ idxL xs v := by
  rcases idxL_cases xs v with ⟨i, h, _, _, e⟩ | ⟨_, e⟩ <;> omega
theorem cls_new {xs : List Int} {k : Nat} (h : idxL (seenL xs k) (xs.getD k 0) < 0) : clsL (kerB xs) (k + 1) = clsL (kerB xs) k ++ [((seenL xs k).length : Int)] ∧ seenL xs (k + 1) = seenL xs k ++ [xs.getD k 0] := by
  have hl : least (kerB xs) k = k := by
    rcases idxL_cases (seenL xs k) (xs.getD k 0) with ⟨i, _, _, _, e⟩ | ⟨hn, _⟩
    · omega
    · exact seen_none.1 fun m hm => hn m hm
  refine ⟨?_, seenL_new hl⟩
  rw [clsL_succ]
  unfold clsAt
  rw [hl, length_seenL]
theorem cls_old {xs : List Int} {k : Nat} (h : 0 ≤ idxL (seenL xs k) (xs.getD k 0)) : clsL (kerB xs) (k + 1) = clsL (kerB xs) k ++ [idxL (seenL xs k) (xs.getD k 0)] ∧ seenL xs (k + 1) = seenL xs k := by
  rcases idxL_cases (seenL xs k) (xs.getD k 0) with ⟨i, hi, hv, _, e⟩ | ⟨_, e⟩
  · obtain ⟨h1, h2⟩ := (seen_find hi).1 hv
    refine ⟨?_, seenL_old (by omega)⟩
    rw [clsL_succ, e, h2]
    rfl
  · omega
/-- The seen labels with their numbers. -/
def seenE (xs : List Int) (k : Nat) : List (Int × Int) := (List.range (seenL xs k).length).map fun i => ((seenL xs k).getD i 0, (i : Int))
@[simp] theorem length_seenE (xs : List Int) (k : Nat) : (seenE xs k).length = (seenL xs k).length := by simp [seenE]
theorem seenE_zero (xs : List Int) : seenE xs 0 = [] := by simp [seenE, seenL]
theorem seenE_new {xs : List Int} {k : Nat} (h : seenL xs (k + 1) = seenL xs k ++ [xs.getD k 0]) : seenE xs (k + 1) = seenE xs k ++ [(xs.getD k 0, ((seenE xs k).length : Int))] := by
  rw [length_seenE]
  unfold seenE
  rw [h, List.length_append, List.length_singleton, List.range_succ, List.map_append]
  congr 1
  · refine List.map_congr_left fun i hi => ?_
    have := List.mem_range.1 hi
    rw [List.getD_eq_getElem?_getD, List.getElem?_append_left this, ← List.getD_eq_getElem?_getD]
  · simp [List.getD_eq_getElem?_getD]
theorem seenE_old {xs : List Int} {k : Nat} (h : seenL xs (k + 1) = seenL xs k) : seenE xs (k + 1) = seenE xs k := by unfold seenE; rw [h]
theorem lookE_seen (xs : List Int) (k : Nat) (v : Int) : (idxL (seenL xs k) v < 0 ∧ lookE (seenE xs k) v = none) ∨ (0 ≤ idxL (seenL xs k) v ∧ lookE (seenE xs k) v = some (idxL (seenL xs k) v)) := by
  have hfind : ∀ p : Nat → Bool, ∀ n, ((List.range n).map fun i => ((seenL xs k).getD i 0, (i : Int))).find? (fun e => e.1 == v) = ((List.range n).find? fun i => (seenL xs k).getD i 0 == v).map fun i => ((seenL xs k).getD i 0, (i : Int)) := fun _ n => by
    rw [List.find?_map]; rfl
  unfold lookE seenE
  rw [hfind (fun _ => true)]
  unfold idxL firstN
  cases h : (List.range (seenL xs k).length).find? fun i => (seenL xs k).getD i 0 == v with
  | some i => exact .inr ⟨by simp, rfl⟩
  | none => exact .inl ⟨by simp, rfl⟩
theorem clsAt_new {xs : List Int} {k : Nat} (h : idxL (seenL xs k) (xs.getD k 0) < 0) : ((seenE xs k).length : Int) = clsAt (kerB xs) k := by
  have e := (cls_new h).1
  rw [clsL_succ] at e
  have := List.append_cancel_left e
  rw [length_seenE]
  exact (List.cons.inj this).1.symm
theorem clsAt_old {xs : List Int} {k : Nat} (h : 0 ≤ idxL (seenL xs k) (xs.getD k 0)) (h' : lookE (seenE xs k) (xs.getD k 0) = some (idxL (seenL xs k) (xs.getD k 0))) : (lookE (seenE xs k) (xs.getD k 0)).getD 0 = clsAt (kerB xs) k := by
  have e := (cls_old h).1
  rw [clsL_succ] at e
  have := List.append_cancel_left e
  rw [h']
  exact (List.cons.inj this).1.symm
/-- The first k of n numbers. -/
def part0 (n : Nat) (f : Nat → Int) (k : Nat) : List Int := (List.range n).map fun i => bif decide (i < k) then f i else 0
@[simp] theorem length_part0 (n : Nat) (f : Nat → Int) (k : Nat) : (part0 n f k).length = n := by simp [part0]
theorem part0_get {n : Nat} {f : Nat → Int} {k i : Nat} (h : i < n) : (part0 n f k).getD i 0 = bif decide (i < k) then f i else 0 := by simp [part0, List.getD_eq_getElem?_getD, h]
theorem part0_zero (n : Nat) (f : Nat → Int) : part0 n f 0 = List.replicate n 0 := by
  refine eq_of_getD (by simp) fun i hi => ?_
  simp only [List.length_replicate] at hi
  rw [part0_get hi, List.getD_eq_getElem?_getD, List.getElem?_replicate, if_pos hi]
  rfl
theorem part0_set {n : Nat} {f : Nat → Int} {k : Nat} {v : Int} (hk : k < n) (hv : v = f k) : part0 n f (k + 1) = (part0 n f k).set k v := by
  refine eq_of_getD (by simp) fun i hi => ?_
  simp only [List.length_set, length_part0] at hi
  rw [getD_set (by simpa using hk), part0_get hi, part0_get hi]
  by_cases e : i = k
  · subst e
    rw [if_pos rfl, hv]
    simp
  · rw [if_neg e]
    have : decide (i < k + 1) = decide (i < k) := by simp; omega
    rw [this]
theorem part0_all (n : Nat) (f : Nat → Int) : part0 n f n = (List.range n).map f := List.map_congr_left fun i hi => by
  have : decide (i < n) = true := by simpa using List.mem_range.1 hi
  rw [this]; rfl
/-- One more than the greatest number, at least 0. -/
def topL (xs : List Int) : Int := xs.foldl (fun n k => max n (k + 1)) 0
def topN (xs : List Int) (k : Nat) : Int := topL (xs.take k)
theorem topN_succ {xs : List Int} {k : Nat} (h : k < xs.length) : topN xs (k + 1) = max (topN xs k) (xs.getD k 0 + 1) := by
  unfold topN topL
  have e1 : xs[k]? = some (xs.getD k 0) := by rw [List.getD_eq_getElem?_getD (i := k), List.getElem?_eq_getElem h]; rfl
  rw [List.take_add_one, e1, List.foldl_append]; rfl

/-! ### Joining. -/
abbrev pA (p : List Int) : Nat := (p.getD 0 0).toNat
abbrev pB (p : List Int) : Nat := (p.getD 1 0).toNat
def stepK (K : Nat → Nat → Bool) (p q : Nat) : Nat → Nat → Bool := fun a b => K a b || (K a p && K q b) || (K a q && K p b)
/-- Joined by the first m pairs. -/
def joinK (ps : List (Nat × Nat)) : Nat → Nat → Bool := ps.foldl (fun K p => stepK K p.1 p.2) (fun a b => a == b)
theorem joinK_nil : joinK [] = fun a b => a == b := rfl
theorem joinK_snoc (ps : List (Nat × Nat)) (p : Nat × Nat) : joinK (ps ++ [p]) = stepK (joinK ps) p.1 p.2 := by simp [joinK, List.foldl_append]
/-- Labels tell a relation. -/
def Ker (lab : List Int) (K : Nat → Nat → Bool) (n : Nat) : Prop := ∀ a b, a < n → b < n → kerB lab a b = K a b
theorem Ker.eqv {lab : List Int} {K : Nat → Nat → Bool} {n : Nat} (h : Ker lab K n) : Eqv K n := by
  have e := kerB_eqv lab n
  refine ⟨fun a ha => ?_, fun a b ha hb hk => ?_, fun a b c ha hb hc h1 h2 => ?_⟩
  · rw [← h a a ha ha]; exact e.rf a ha
  · rw [← h b a hb ha]; exact e.sy a b ha hb (by rw [h a b ha hb]; exact hk)
  · rw [← h a c ha hc]; exact e.tr a b c ha hb hc (by rw [h a b ha hb]; exact h1) (by rw [h b c hb hc]; exact h2)
theorem Ker.start {lab : List Int} {n : Nat} (h : ∀ i, i < n → lab.getD i 0 = (i : Int)) : Ker lab (joinK []) n := fun a b ha hb => by
  unfold kerB
  rw [h a ha, h b hb, joinK_nil, Bool.eq_iff_iff]
  simp only [beq_iff_eq]
  omega
theorem Ker.step {lab lab' : List Int} {K : Nat → Nat → Bool} {n p q : Nat} (h : Ker lab K n) (hp : p < n) (hq : q < n) (hs : ∀ i, i < n → lab'.getD i 0 = if lab.getD i 0 = lab.getD q 0 then lab.getD p 0 else lab.getD i 0) : Ker lab' (stepK K p q) n := fun a b ha hb => by
  unfold stepK
  rw [← h a b ha hb, ← h a p ha hp, ← h q b hq hb, ← h a q ha hq, ← h p b hp hb, Bool.eq_iff_iff]
  unfold kerB
  rw [hs a ha, hs b hb]
  simp only [beq_iff_eq, Bool.or_eq_true, Bool.and_eq_true]
  generalize lab.getD a 0 = x at *
  generalize lab.getD b 0 = y at *
  generalize lab.getD p 0 = u at *
  generalize lab.getD q 0 = v at *
  by_cases h1 : x = v
  · by_cases h2 : y = v
    · rw [if_pos h1, if_pos h2]; omega
    · rw [if_pos h1, if_neg h2]; omega
  · by_cases h2 : y = v
    · rw [if_neg h1, if_pos h2]; omega
    · rw [if_neg h1, if_neg h2]; omega
/-- The first k labels b are labels a. -/
def relab (xs : List Int) (a b : Int) (k : Nat) : List Int := (xs.take k).map (fun z => if z = b then a else z) ++ xs.drop k
@[simp] theorem length_relab (xs : List Int) (a b : Int) (k : Nat) : (relab xs a b k).length = xs.length := by simp [relab]; omega
theorem relab_zero (xs : List Int) (a b : Int) : relab xs a b 0 = xs := by simp [relab]
theorem relab_getD {xs : List Int} {a b : Int} {k i : Nat} (hi : i < xs.length) : (relab xs a b k).getD i 0 = if i < k then (if xs.getD i 0 = b then a else xs.getD i 0) else xs.getD i 0 := by
  unfold relab
  by_cases h : i < k
  · rw [if_pos h, List.getD_eq_getElem?_getD, List.getElem?_append_left (by simp; omega)]
    simp only [List.getElem?_map, List.getElem?_take, h, if_true, List.getD_eq_getElem?_getD]
    rw [List.getElem?_eq_getElem hi]
    simp
  · rw [if_neg h, List.getD_eq_getElem?_getD, List.getElem?_append_right (by simp; omega)]
    simp only [List.length_map, List.length_take, List.getElem?_drop, List.getD_eq_getElem?_getD]
    congr 2
    omega
theorem relab_T {xs : List Int} {a b : Int} {k : Nat} (hk : k < xs.length) (h : xs.getD k 0 = b) : relab xs a b (k + 1) = (relab xs a b k).set k a := by
  refine eq_of_getD (by simp) fun i hi => ?_
  simp only [List.length_set, length_relab] at hi
  rw [getD_set (by simpa using hk), relab_getD hi, relab_getD hi]
  by_cases e : i = k
  · subst e; rw [if_pos (by omega), if_pos h, if_pos rfl]
  · by_cases e2 : i < k
    · rw [if_pos (by omega), if_neg e, if_pos e2]
    · rw [if_neg (by omega), if_neg e, if_neg e2]
theorem relab_F {xs : List Int} {a b : Int} {k : Nat} (hk : k < xs.length) (h : ¬ xs.getD k 0 = b) : relab xs a b (k + 1) = relab xs a b k := by
  refine eq_of_getD (by simp) fun i hi => ?_
  simp only [length_relab] at hi
  rw [relab_getD hi, relab_getD hi]
  by_cases e : i = k
  · subst e; rw [if_pos (by omega), if_neg h, if_neg (by omega)]
  · by_cases e2 : i < k
    · rw [if_pos (by omega), if_pos e2]
    · rw [if_neg (by omega), if_neg e2]

def pairL (pss : List (List Int)) (k : Nat) : List (Nat × Nat) := (pss.take k).map fun p => (pA p, pB p)
theorem pairL_succ {pss : List (List Int)} {k : Nat} (h : k < pss.length) : pairL pss (k + 1) = pairL pss k ++ [(pA (pss.getD k []), pB (pss.getD k []))] := by
  have e1 : pss[k]? = some (pss.getD k []) := by rw [List.getD_eq_getElem?_getD (i := k), List.getElem?_eq_getElem h]; rfl
  unfold pairL
  rw [List.take_add_one, e1]; simp
theorem pairL_zero (pss : List (List Int)) : pairL pss 0 = [] := by simp [pairL]
theorem pairL_all (pss : List (List Int)) : pairL pss pss.length = pss.map fun p => (pA p, pB p) := by simp [pairL]
/-- What the inner loop of the joining leaves. -/
theorem Ker.relab {lab : List Int} {K : Nat → Nat → Bool} {n p q e : Nat} (h : Ker lab K n) (hl : lab.length = n) (hp : p < n) (hq : q < n) (he : e = n ∨ lab.getD p 0 = lab.getD q 0) : Ker (Go.GL.relab lab (lab.getD p 0) (lab.getD q 0) e) (stepK K p q) n := by
  refine h.step hp hq fun i hi => ?_
  rw [relab_getD (by omega)]
  rcases he with rfl | he
  · rw [if_pos hi]
  · by_cases hie : i < e
    · rw [if_pos hie]
    · rw [if_neg hie]
      by_cases hx : lab.getD i 0 = lab.getD q 0
      · rw [if_pos hx, he, hx]
      · rw [if_neg hx]

/-! ### Roots. -/
/-- Each element's parent is not above it. -/
structure Forest (j : List Int) : Prop where
  up : ∀ x, x < j.length → 0 ≤ j.getD x 0 ∧ j.getD x 0 ≤ (x : Int)
def rootF (j : List Int) : Nat → Nat → Nat
  | 0, x => x
  | f + 1, x => if (j.getD x 0).toNat < x then rootF j f (j.getD x 0).toNat else x
/-- The root of x. -/
def rootOf (j : List Int) (x : Nat) : Nat := rootF j (x + 1) x
theorem rootF_enough (j : List Int) : ∀ {f g x : Nat}, x < f → x < g → rootF j f x = rootF j g x
  | 0, _, _, h, _ => by omega
  | _, 0, _, _, h => by omega
  | f + 1, g + 1, x, hf, hg => by
    unfold rootF
    by_cases h : (j.getD x 0).toNat < x
    · rw [if_pos h, if_pos h]; exact rootF_enough j (by omega) (by omega)
    · rw [if_neg h, if_neg h]
theorem rootOf_step {j : List Int} {x : Nat} (h : (j.getD x 0).toNat < x) : rootOf j x = rootOf j (j.getD x 0).toNat := by
  unfold rootOf
  rw [show rootF j (x + 1) x = rootF j x (j.getD x 0).toNat by conv => lhs; unfold rootF; rw [if_pos h]]
  exact rootF_enough j h (by omega)
theorem rootOf_end {j : List Int} {x : Nat} (h : ¬ (j.getD x 0).toNat < x) : rootOf j x = x := by
  unfold rootOf rootF; rw [if_neg h]
theorem rootOf_le (j : List Int) (x : Nat) : rootOf j x ≤ x := by
  induction x using Nat.strongRecOn with
  | _ x ih =>
    by_cases h : (j.getD x 0).toNat < x
    · rw [rootOf_step h]; have := ih _ h; omega
    · rw [rootOf_end h]; exact Nat.le_refl _
theorem rootOf_root {j : List Int} (hF : Forest j) {x : Nat} (hx : x < j.length) : j.getD (rootOf j x) 0 = (rootOf j x : Int) := by
  induction x using Nat.strongRecOn with
  | _ x ih =>
    by_cases h : (j.getD x 0).toNat < x
    · rw [rootOf_step h]; exact ih _ h (by omega)
    · rw [rootOf_end h]; have := hF.up x hx; omega
theorem rootOf_fix {j : List Int} {x : Nat} (h : j.getD x 0 = (x : Int)) : rootOf j x = x := rootOf_end (by omega)
theorem rootOf_idem {j : List Int} (hF : Forest j) {x : Nat} (hx : x < j.length) : rootOf j (rootOf j x) = rootOf j x := rootOf_fix (rootOf_root hF hx)
theorem rootOf_parent {j : List Int} (hF : Forest j) {x : Nat} (hx : x < j.length) : rootOf j (j.getD x 0).toNat = rootOf j x := by
  by_cases h : (j.getD x 0).toNat < x
  · exact (rootOf_step h).symm
  · have := hF.up x hx
    rw [show (j.getD x 0).toNat = x by omega]
/-- A parent that is a higher one of the same root: roots stay. -/
theorem rootOf_set {j : List Int} (hF : Forest j) {x y : Nat} (hx : x < j.length) (hy : y < x) (hr : rootOf j y = rootOf j x) : Forest (j.set x (y : Int)) ∧ ∀ z, z < j.length → rootOf (j.set x (y : Int)) z = rootOf j z := by
  have hF' : Forest (j.set x (y : Int)) := ⟨fun z hz => by
    rw [List.length_set] at hz
    rw [getD_set hx]
    by_cases e : z = x
    · subst e; simp; omega
    · rw [if_neg e]; exact hF.up z hz⟩
  refine ⟨hF', fun z => ?_⟩
  induction z using Nat.strongRecOn with
  | _ z ih =>
    intro hz
    have hg : (j.set x (y : Int)).getD z 0 = if z = x then (y : Int) else j.getD z 0 := getD_set hx
    by_cases e : z = x
    · subst e
      rw [if_pos rfl] at hg
      rw [rootOf_step (by rw [hg]; simpa using hy), hg, Int.toNat_natCast, ih y hy (by omega), hr]
    · rw [if_neg e] at hg
      by_cases h : (j.getD z 0).toNat < z
      · rw [rootOf_step (by rw [hg]; exact h), hg, ih _ h (by omega), rootOf_step h]
      · rw [rootOf_end (by rw [hg]; exact h), rootOf_end h]
/-- A root gets a parent. -/
theorem rootOf_join {j : List Int} (hF : Forest j) {x y : Nat} (hx : x < j.length) (hr : j.getD x 0 = (x : Int)) (hry : j.getD y 0 = (y : Int)) (hy : y ≤ x) : Forest (j.set x (y : Int)) ∧ ∀ z, z < j.length → rootOf (j.set x (y : Int)) z = if rootOf j z = x then y else rootOf j z := by
  have hF' : Forest (j.set x (y : Int)) := ⟨fun z hz => by
    rw [List.length_set] at hz
    rw [getD_set hx]
    by_cases e : z = x
    · subst e; simp; omega
    · rw [if_neg e]; exact hF.up z hz⟩
  refine ⟨hF', fun z => ?_⟩
  induction z using Nat.strongRecOn with
  | _ z ih =>
    intro hz
    have hg : (j.set x (y : Int)).getD z 0 = if z = x then (y : Int) else j.getD z 0 := getD_set hx
    by_cases e : z = x
    · subst e
      rw [if_pos rfl] at hg
      rw [rootOf_fix hr, if_pos rfl]
      by_cases e2 : y = z
      · subst e2; exact rootOf_fix (by rw [hg])
      · rw [rootOf_step (by rw [hg]; simp; omega), hg, Int.toNat_natCast, ih y (by omega) (by omega), rootOf_fix hry, if_neg e2]
    · rw [if_neg e] at hg
      by_cases h : (j.getD z 0).toNat < z
      · rw [rootOf_step (by rw [hg]; exact h), hg, ih _ h (by omega), rootOf_step h]
      · rw [rootOf_end (by rw [hg]; exact h), rootOf_end h, if_neg e]
/-- The roots of a forest tell a relation. -/
def RootK (j : List Int) (K : Nat → Nat → Bool) (n : Nat) : Prop := j.length = n ∧ Forest j ∧ ∀ a b, a < n → b < n → ((rootOf j a == rootOf j b) = K a b)
theorem RootK.start {j : List Int} {n : Nat} (hn : j.length = n) (h : ∀ i, i < n → j.getD i 0 = (i : Int)) : RootK j (joinK []) n := by
  refine ⟨hn, ⟨fun x hx => by rw [h x (by omega)]; omega⟩, fun a b ha hb => ?_⟩
  rw [rootOf_fix (h a ha), rootOf_fix (h b hb), joinK_nil]
theorem RootK.same {j j' : List Int} {K : Nat → Nat → Bool} {n : Nat} (h : RootK j K n) (hl : j'.length = j.length) (hF : Forest j') (hr : ∀ z, z < j.length → rootOf j' z = rootOf j z) : RootK j' K n :=
  ⟨by rw [hl]; exact h.1, hF, fun a b ha hb => by rw [hr a (by have := h.1; omega), hr b (by have := h.1; omega)]; exact h.2.2 a b ha hb⟩
theorem RootK.join {j : List Int} {K : Nat → Nat → Bool} {n p q : Nat} (h : RootK j K n) (hp : p < n) (hq : q < n) : RootK (j.set (max (rootOf j p) (rootOf j q)) ((min (rootOf j p) (rootOf j q) : Nat) : Int)) (stepK K p q) n := by
  obtain ⟨hl, hF, hk⟩ := h
  have lp := rootOf_le j p
  have lq := rootOf_le j q
  have rp := rootOf_root hF (x := p) (by omega)
  have rq := rootOf_root hF (x := q) (by omega)
  have hmx : j.getD (max (rootOf j p) (rootOf j q)) 0 = ((max (rootOf j p) (rootOf j q) : Nat) : Int) := by
    rcases Nat.le_total (rootOf j p) (rootOf j q) with h | h
    · rw [Nat.max_eq_right h]; exact rq
    · rw [Nat.max_eq_left h]; exact rp
  have hmn : j.getD (min (rootOf j p) (rootOf j q)) 0 = ((min (rootOf j p) (rootOf j q) : Nat) : Int) := by
    rcases Nat.le_total (rootOf j p) (rootOf j q) with h | h
    · rw [Nat.min_eq_left h]; exact rp
    · rw [Nat.min_eq_right h]; exact rq
  obtain ⟨k1, k2⟩ := rootOf_join hF (x := max (rootOf j p) (rootOf j q)) (y := min (rootOf j p) (rootOf j q)) (by omega) hmx hmn (by omega)
  refine ⟨by simpa using hl, k1, fun a b ha hb => ?_⟩
  rw [k2 a (by omega), k2 b (by omega)]
  unfold stepK
  rw [← hk a b ha hb, ← hk a p ha hp, ← hk q b hq hb, ← hk a q ha hq, ← hk p b hp hb, Bool.eq_iff_iff]
  simp only [beq_iff_eq, Bool.or_eq_true, Bool.and_eq_true]
  generalize rootOf j a = ra at *
  generalize rootOf j b = rb at *
  generalize rootOf j p = x at *
  generalize rootOf j q = y at *
  rcases Nat.le_total x y with h | h
  · rw [Nat.max_eq_right h, Nat.min_eq_left h]
    by_cases h1 : ra = y
    · by_cases h2 : rb = y
      · rw [if_pos h1, if_pos h2]; omega
      · rw [if_pos h1, if_neg h2]; omega
    · by_cases h2 : rb = y
      · rw [if_neg h1, if_pos h2]; omega
      · rw [if_neg h1, if_neg h2]; omega
  · rw [Nat.max_eq_left h, Nat.min_eq_right h]
    by_cases h1 : ra = x
    · by_cases h2 : rb = x
      · rw [if_pos h1, if_pos h2]; omega
      · rw [if_pos h1, if_neg h2]; omega
    · by_cases h2 : rb = x
      · rw [if_neg h1, if_pos h2]; omega
      · rw [if_neg h1, if_neg h2]; omega
/-- Labels that are roots. -/
theorem RootK.ker {j lab : List Int} {K : Nat → Nat → Bool} {n : Nat} (h : RootK j K n) (hl : ∀ i, i < n → lab.getD i 0 = (rootOf j i : Int)) : Ker lab K n := fun a b ha hb => by
  rw [← h.2.2 a b ha hb]
  unfold kerB
  rw [hl a ha, hl b hb, Bool.eq_iff_iff]
  simp only [beq_iff_eq]
  omega
theorem Ker.cls {lab : List Int} {K : Nat → Nat → Bool} {n : Nat} (h : Ker lab K n) : clsL (kerB lab) n = clsL K n := clsL_congr h
/-- The finest partition of n elements that joins pairs. -/
def joinL (n : Nat) (ps : List (Nat × Nat)) : List Int := clsL (joinK ps) n
@[simp] theorem length_joinL (n : Nat) (ps : List (Nat × Nat)) : (joinL n ps).length = n := by simp [joinL]
theorem clsL_range {K : Nat → Nat → Bool} {n i : Nat} (h : i < n) : 0 ≤ (clsL K n).getD i 0 ∧ (clsL K n).getD i 0 ≤ (i : Int) := by
  rw [clsL_get h]
  unfold clsAt
  have := reps_le K (least K i)
  have := least_le K i
  omega
end Go.GL
/- Partitions: the reference's and the program's. No condition but those of each statement. -/
namespace Go.Proofs.Ytfejmmaeigbfkaa
open Go Go.GL Go.RowKit Go.Proofs
theorem l01Own_c {a : Option Addr} {xs : List Int} {H : GHeap} (h : Ints H a xs := by assumption) (hl : xs.length ≤ 1048576 := by omega) :
    GCalls Try.prog 132 [.slice a xs.length xs.length] H (NewInts 2 H xs) := by
  refine GCalls.body (N := 6) (rs := [.tmp 2]) Try.func132 rfl rfl rfl rfl (fun Qx hret hend => ?_)
  refine .forget (fr' := [(0, some _)]) ⟨rfl, trivial⟩ ?_
  have hle := GHeap.Le.refl H
  have base_h := h
  refine .seq (fun K1 hK1 => ?_)
  refine .region ?_
  refine .m rfl rfl rfl (.assign rfl) ?_
  refine .nil ?_
  refine hK1 _ _ ?_
  refine .seq (fun K2 hK2 => ?_)
  refine .region ?_
  refine .r rfl rfl rfl (.litR rfl sl_22_A ze_2_E rfl rfl (by omega) (by omega) rfl rfl) ?_
  rintro _ H3 ⟨g3, rfl, le3, ge3, at3⟩
  have nx_H3 := le3.1
  replace hle := hle.trans le3
  have lt_at3 := GHeap.lt_of_get at3
  replace h := base_h.mono hle
  replace at3 : GHeap.get H3 g3 = some (.row (ints []) 2 true) := at3
  refine .m rfl rfl rfl (.move rfl) ?_
  refine .r rfl rfl rfl (.appendL rfl sl_22_A ze_2_E rfl by_2_E sl_22_A rfl rfl (by assumption) (by assumption) (by first | omega | (simp <;> omega)) (by omega) (by omega)) ?_
  rintro _ H5 ⟨g5, rfl, st5, ge5, at5⟩
  have nx_H5 := st5.nx
  replace hle := hle.st st5 (fun k hk => ⟨by omega, trivial⟩)
  have lt_at5 := GHeap.lt_of_get at5
  replace h := base_h.mono hle
  refine .m rfl rfl rfl (.assign rfl) ?_
  refine .nil ?_
  refine hK2 _ _ ?_
  refine .ret ?_
  -- leaf e1
  refine hret _ _ ?_
  refine ⟨_, rfl, ?_⟩
  exact ⟨hle, _, by rw [Nat.zero_add], by simpa using at5, by omega⟩
theorem l01Index_c {a : Option Addr} {xs : List Int} {n : Int} {H : GHeap} (h : Ints H a xs := by assumption) (hl : xs.length ≤ 16777216 := by omega) :
    GCalls Try.prog 85 [.slice a xs.length xs.length, .int .i64 n] H (Ret (.int .i64 (idxL xs n)) H) := by
  refine GCalls.body (N := 19) (rs := [.tmp 4]) Try.func85 rfl rfl rfl rfl (fun Qx hret hend => ?_)
  refine .forget (fr' := [(0, some _), (1, some _)]) ⟨rfl, rfl, trivial⟩ ?_
  refine .seq (fun K1 hK1 => ?_)
  refine .region ?_
  refine .m rfl rfl rfl (.assign rfl) ?_
  refine .nil ?_
  refine hK1 _ _ ?_
  refine .seq (fun K2 hK2 => ?_)
  refine .seq (fun K3 hK3 => ?_)
  refine .region ?_
  refine .m rfl rfl rfl (.assign rfl) ?_
  refine .nil ?_
  refine hK3 _ _ ?_
  refine .block ?_
  refine .loopR (σ := Nat) [(0, some _), (1, some _)] (fun k => [(5, some (.int .i64 (k : Int)))]) (fun k H' => H = H' ∧ (k : Int) ≤ xs.length ∧ ∀ i, i < k → ¬ xs.getD i 0 = n) (fun k => (xs.length - k : Int).toNat) (0) ⟨rfl, rfl, trivial⟩ ⟨rfl, trivial⟩ ?_ ?_
  ·
   refine ⟨rfl, ?_⟩
   exact ⟨by omega, fun _ _ => by omega⟩
  ·
   rintro k _ ⟨rfl, hI⟩ KL1 hKL1
   refine .forget (fr' := [(5, some (.int .i64 (k : Int))), (0, some _), (1, some _)]) ⟨rfl, rfl, rfl, trivial⟩ ?_
   obtain ⟨hk1, ha1⟩ := hI
   refine .seq (fun K4 hK4 => ?_)
   refine .seq (fun K5 hK5 => ?_)
   refine .region ?_
   refine .m rfl rfl rfl (.move rfl) ?_
   refine .m rfl rfl rfl (.move rfl) ?_
   refine .m rfl rfl rfl (.len sl_22_A rfl) ?_
   refine .m rfl rfl rfl (.cmp rfl rfl rfl) ?_
   refine .nil ?_
   refine hK5 _ _ ?_
   refine .cond rfl (fun h9 => ?_) (fun h9 => ?_)
   ·
    try simp only [sps] at h9
    refine .skip ?_
    refine hK4 _ _ ?_
    refine .seq (fun K6 hK6 => ?_)
    refine .block ?_
    refine .seq (fun K7 hK7 => ?_)
    refine .region ?_
    refine .m rfl rfl rfl (.move rfl) ?_
    refine .m rfl rfl rfl (.move rfl) ?_
    refine .m rfl rfl rfl (.idxN sl_22_A (by assumption) rfl rfl (by omega)) ?_
    refine .m rfl rfl rfl (.loadI on_2_A (by assumption) rfl (by omega)) ?_
    refine .m rfl rfl rfl (.move rfl) ?_
    refine .m rfl rfl rfl (.cmp rfl rfl rfl) ?_
    refine .nil ?_
    refine hK7 _ _ ?_
    refine .cond rfl (fun h17 => ?_) (fun h17 => ?_)
    ·
     try simp only [sps] at h17
     refine .seq (fun K8 hK8 => ?_)
     refine .region ?_
     refine .m rfl rfl rfl (.move rfl) ?_
     refine .m rfl rfl rfl (.assign rfl) ?_
     refine .nil ?_
     refine hK8 _ _ ?_
     refine .ret ?_
     -- leaf e1
     refine hret _ _ ?_
     refine ⟨_, rfl, ?_⟩
     exact .of (congrArg _ (idxL_some (by omega) h17 ha1))
    ·
     try simp only [sps] at h17
     refine .skip ?_
     refine hK6 _ _ ?_
     refine .region ?_
     refine .m rfl rfl rfl (.move rfl) ?_
     refine .m rfl rfl rfl (.add rfl rfl rfl (by omega) (by omega)) ?_
     refine .m rfl rfl rfl (.assign rfl) ?_
     refine .nil ?_
     refine hKL1 (k + 1) _ _ ?_ ?_ ⟨rfl, rfl, rfl, trivial⟩
     ·
      refine ⟨rfl, ?_⟩
      refine ⟨by omega, fun i hx => ?_⟩
      by_cases hltq : i < k
      · exact ha1 i hltq
      · obtain rfl : i = k := by omega
        exact h17
     ·
      omega
   ·
    try simp only [sps] at h9
    refine .exit ?_
    refine hK2 _ _ ?_
    refine .seq (fun K9 hK9 => ?_)
    refine .region ?_
    refine .m rfl rfl rfl (.assign rfl) ?_
    refine .nil ?_
    refine hK9 _ _ ?_
    refine .ret ?_
    -- leaf e2
    refine hret _ _ ?_
    refine ⟨_, rfl, ?_⟩
    exact .of (congrArg _ (idxL_none fun j hj => ha1 j (by omega)))
theorem l01Classes_c {a : Option Addr} {xs : List Int} {H : GHeap} (h : Ints H a xs := by assumption) (hl : xs.length ≤ 1048576 := by omega) :
    GCalls Try.prog 110 [.slice a xs.length xs.length] H (NewInts 2 H (clsL (kerB xs) xs.length)) := by
  refine GCalls.body (N := 37) (rs := [.tmp 2]) Try.func110 rfl rfl rfl rfl (fun Qx hret hend => ?_)
  refine .forget (fr' := [(0, some _)]) ⟨rfl, trivial⟩ ?_
  have hle := GHeap.Le.refl H
  have base_h := h
  refine .seq (fun K1 hK1 => ?_)
  refine .region ?_
  refine .m rfl rfl rfl (.assign rfl) ?_
  refine .nil ?_
  refine hK1 _ _ ?_
  refine .seq (fun K2 hK2 => ?_)
  refine .region ?_
  refine .r rfl rfl rfl (.litR rfl sl_22_A ze_2_E rfl rfl (by omega) (by omega) rfl rfl) ?_
  rintro _ H7 ⟨g7, rfl, le7, ge7, at7⟩
  have nx_H7 := le7.1
  replace hle := hle.trans le7
  have lt_at7 := GHeap.lt_of_get at7
  replace h := base_h.mono hle
  replace at7 : GHeap.get H7 g7 = some (.row (ints []) 2 true) := at7
  refine .r rfl rfl rfl (.litR rfl sl_22_A ze_2_E rfl rfl (by omega) (by omega) rfl rfl) ?_
  rintro _ H8 ⟨g8, rfl, le8, ge8, at8⟩
  have nx_H8 := le8.1
  replace hle := hle.trans le8
  replace at7 := le8.2 _ _ at7
  have lt_at8 := GHeap.lt_of_get at8
  replace h := base_h.mono hle
  replace at8 : GHeap.get H8 g8 = some (.row (ints []) 2 true) := at8
  refine .m rfl rfl rfl (.assign rfl) ?_
  refine .m rfl rfl rfl (.assign rfl) ?_
  refine .nil ?_
  refine hK2 _ _ ?_
  refine .seq (fun K3 hK3 => ?_)
  refine .seq (fun K4 hK4 => ?_)
  refine .region ?_
  refine .m rfl rfl rfl (.assign rfl) ?_
  refine .nil ?_
  refine hK4 _ _ ?_
  refine .block ?_
  refine .loopR (σ := Nat × Nat × Nat × Nat × Nat) [(0, some _)] (fun (k, gL3, nL3, gL4, nL4) => [(5, some (.int .i64 (k : Int))), (3, some (.slice (some ⟨gL3, 0, none⟩) nL3 nL3)), (4, some (.slice (some ⟨gL4, 0, none⟩) nL4 nL4))]) (fun (k, gL3, nL3, gL4, nL4) H' => St [g7, g8] H8 H' ∧ H'.get gL3 = some (.row (ints (clsL (kerB xs) k)) 2 true) ∧ (gL3 = g7 ∨ H8.next ≤ gL3) ∧ nL3 = (clsL (kerB xs) k).length ∧ H'.get gL4 = some (.row (ints (seenL xs k)) 2 true) ∧ (gL4 = g8 ∨ H8.next ≤ gL4) ∧ nL4 = (seenL xs k).length ∧ gL3 ≠ gL4 ∧ k ≤ xs.length) (fun (k, gL3, nL3, gL4, nL4) => xs.length - k) ((0, _, _, _, _)) ⟨rfl, trivial⟩ ⟨rfl, rfl, rfl, trivial⟩ ?_ ?_
  ·
   refine ⟨.refl _ _, by first | assumption | exact at7 | simpa using at7, .inl rfl, by first | rfl | assumption | simp | omega, by first | assumption | exact at8 | simpa using at8, .inl rfl, by first | rfl | assumption | simp | omega, by omega, ?_⟩
   omega
  ·
   rintro ⟨k, gL3, nL3, gL4, nL4⟩ HL1 ⟨lst1, at_L3, pl_L3, ln_L3, at_L4, pl_L4, ln_L4, ap1_0, hI⟩ KL1 hKL1
   refine .forget (fr' := [(5, some (.int .i64 (k : Int))), (3, some (.slice (some ⟨gL3, 0, none⟩) nL3 nL3)), (4, some (.slice (some ⟨gL4, 0, none⟩) nL4 nL4)), (0, some _)]) ⟨rfl, rfl, rfl, rfl, trivial⟩ ?_
   have ge_L3 : H.next ≤ gL3 := by omega
   have ge_L4 : H.next ≤ gL4 := by omega
   have nx_HL1 := lst1.nx
   replace hle := hle.st lst1 (fun k hk => ⟨by omega, by omega, trivial⟩)
   have lt_at_L3 := GHeap.lt_of_get at_L3
   have lt_at_L4 := GHeap.lt_of_get at_L4
   replace h := base_h.mono hle
   have i4 := Ints.of_get at_L4
   have hl3 : (clsL (kerB xs) k).length = k := length_clsL _ _
   have hl4 : (seenL xs k).length ≤ k := by rw [length_seenL]; exact reps_le _ _
   obtain rfl := ln_L4
   have hix := idxL_lt (seenL xs k) (xs.getD k 0)
   refine .seq (fun K5 hK5 => ?_)
   refine .seq (fun K6 hK6 => ?_)
   refine .region ?_
   refine .m rfl rfl rfl (.move rfl) ?_
   refine .m rfl rfl rfl (.move rfl) ?_
   refine .m rfl rfl rfl (.len sl_22_A rfl) ?_
   refine .m rfl rfl rfl (.cmp rfl rfl rfl) ?_
   refine .nil ?_
   refine hK6 _ _ ?_
   refine .cond rfl (fun h12 => ?_) (fun h12 => ?_)
   ·
    try simp only [sps] at h12
    refine .skip ?_
    refine hK5 _ _ ?_
    refine .seq (fun K7 hK7 => ?_)
    refine .block ?_
    refine .seq (fun K8 hK8 => ?_)
    refine .region ?_
    refine .m rfl rfl rfl (.move rfl) ?_
    refine .m rfl rfl rfl (.move rfl) ?_
    refine .m rfl rfl rfl (.move rfl) ?_
    refine .m rfl rfl rfl (.idxN sl_22_A (by assumption) rfl rfl (by omega)) ?_
    refine .m rfl rfl rfl (.loadI on_2_A (by assumption) rfl (by omega)) ?_
    refine .callQ rfl rfl rfl rfl @Try.call85 rfl (l01Index_c) ?_
    refine .m rfl rfl rfl (.assign rfl) ?_
    refine .nil ?_
    refine hK8 _ _ ?_
    refine .seq (fun K9 hK9 => ?_)
    refine .seq (fun K10 hK10 => ?_)
    refine .region ?_
    refine .m rfl rfl rfl (.move rfl) ?_
    refine .m rfl rfl rfl (.cmp rfl rfl rfl) ?_
    refine .nil ?_
    refine hK10 _ _ ?_
    refine .cond rfl (fun h22 => ?_) (fun h22 => ?_)
    ·
     try simp only [sps] at h22
     refine .seq (fun K11 hK11 => ?_)
     refine .region ?_
     refine .m rfl rfl rfl (.move rfl) ?_
     refine .m rfl rfl rfl (.len sl_22_A rfl) ?_
     refine .m rfl rfl rfl (.assign rfl) ?_
     refine .nil ?_
     refine hK11 _ _ ?_
     refine .region ?_
     refine .m rfl rfl rfl (.move rfl) ?_
     refine .m rfl rfl rfl (.move rfl) ?_
     refine .m rfl rfl rfl (.move rfl) ?_
     refine .m rfl rfl rfl (.idxN sl_22_A (by assumption) rfl rfl (by omega)) ?_
     refine .m rfl rfl rfl (.loadI on_2_A (by assumption) rfl (by omega)) ?_
     refine .r rfl rfl rfl (.litR rfl sl_22_A ze_2_E rfl rfl (by omega) (by omega) rfl rfl) ?_
     rintro _ H30 ⟨g30, rfl, le30, ge30, at30⟩
     have nx_H30 := le30.1
     replace hle := hle.trans le30
     replace lst1 := lst1.le le30
     replace at_L3 := le30.2 _ _ at_L3
     replace at_L4 := le30.2 _ _ at_L4
     have lt_at30 := GHeap.lt_of_get at30
     replace h := base_h.mono hle
     refine .r rfl rfl rfl (.appendI rfl sl_22_A ze_2_E rfl by_2_E sl_22_A rfl rfl (by assumption) (by assumption) (by first | omega | (simp <;> omega)) (by omega) (by omega)) ?_
     rintro _ H31 ⟨g31, rfl, st31, ge31, at31⟩
     have nx_H31 := st31.nx
     replace hle := hle.st st31 (fun k hk => ⟨by omega, trivial⟩)
     replace lst1 := lst1.st st31 (fun k hk ho => by simp only [out, and_true] at ho ⊢ <;> omega)
     replace at_L3 := st31.same _ _ ⟨by omega, trivial⟩ at_L3
     replace at30 := st31.same _ _ ⟨by omega, trivial⟩ at30
     have lt_at31 := GHeap.lt_of_get at31
     replace h := base_h.mono hle
     refine .m rfl rfl rfl (.assign rfl) ?_
     refine .nil ?_
     refine hK9 _ _ ?_
     refine .region ?_
     refine .m rfl rfl rfl (.move rfl) ?_
     refine .m rfl rfl rfl (.move rfl) ?_
     refine .r rfl rfl rfl (.litR rfl sl_22_A ze_2_E rfl rfl (by omega) (by omega) rfl rfl) ?_
     rintro _ H34 ⟨g34, rfl, le34, ge34, at34⟩
     have nx_H34 := le34.1
     replace hle := hle.trans le34
     replace lst1 := lst1.le le34
     replace at_L3 := le34.2 _ _ at_L3
     replace at30 := le34.2 _ _ at30
     replace at31 := le34.2 _ _ at31
     have lt_at34 := GHeap.lt_of_get at34
     replace h := base_h.mono hle
     refine .r rfl rfl rfl (.appendI rfl sl_22_A ze_2_E rfl by_2_E sl_22_A rfl rfl (by assumption) (by assumption) (by first | omega | (simp <;> omega)) (by omega) (by omega)) ?_
     rintro _ H35 ⟨g35, rfl, st35, ge35, at35⟩
     have nx_H35 := st35.nx
     replace hle := hle.st st35 (fun k hk => ⟨by omega, trivial⟩)
     replace lst1 := lst1.st st35 (fun k hk ho => by simp only [out, and_true] at ho ⊢ <;> omega)
     replace at30 := st35.same _ _ ⟨by omega, trivial⟩ at30
     replace at31 := st35.same _ _ ⟨by omega, trivial⟩ at31
     replace at34 := st35.same _ _ ⟨by omega, trivial⟩ at34
     have lt_at35 := GHeap.lt_of_get at35
     replace h := base_h.mono hle
     refine .m rfl rfl rfl (.assign rfl) ?_
     refine .nil ?_
     refine hK7 _ _ ?_
     refine .region ?_
     refine .m rfl rfl rfl (.move rfl) ?_
     refine .m rfl rfl rfl (.add rfl rfl rfl (by omega) (by omega)) ?_
     refine .m rfl rfl rfl (.assign rfl) ?_
     refine .nil ?_
     refine hKL1 ((k + 1, _, _, _, _)) _ _ ?_ ?_ ⟨rfl, rfl, rfl, rfl, trivial⟩
     ·
      refine ⟨lst1, by first | assumption | (rw [(cls_new h22).1]; assumption) | (rw [(cls_new h22).2]; assumption) | (rw [(cls_old h22).1]; assumption) | (rw [(cls_old h22).2]; assumption), by omega, by first | omega | (simp only [List.length_append, List.length_cons, List.length_nil] <;> omega) | (rw [(cls_new h22).1] <;> (first | omega | (simp only [List.length_append, List.length_cons, List.length_nil] <;> omega))) | (rw [(cls_new h22).2] <;> (first | omega | (simp only [List.length_append, List.length_cons, List.length_nil] <;> omega))) | (rw [(cls_old h22).1] <;> (first | omega | (simp only [List.length_append, List.length_cons, List.length_nil] <;> omega))) | (rw [(cls_old h22).2] <;> (first | omega | (simp only [List.length_append, List.length_cons, List.length_nil] <;> omega))), by first | assumption | (rw [(cls_new h22).1]; assumption) | (rw [(cls_new h22).2]; assumption) | (rw [(cls_old h22).1]; assumption) | (rw [(cls_old h22).2]; assumption), by omega, by first | omega | (simp only [List.length_append, List.length_cons, List.length_nil] <;> omega) | (rw [(cls_new h22).1] <;> (first | omega | (simp only [List.length_append, List.length_cons, List.length_nil] <;> omega))) | (rw [(cls_new h22).2] <;> (first | omega | (simp only [List.length_append, List.length_cons, List.length_nil] <;> omega))) | (rw [(cls_old h22).1] <;> (first | omega | (simp only [List.length_append, List.length_cons, List.length_nil] <;> omega))) | (rw [(cls_old h22).2] <;> (first | omega | (simp only [List.length_append, List.length_cons, List.length_nil] <;> omega))), by omega, ?_⟩
      omega
     ·
      (dsimp only; omega)
    ·
     try simp only [sps] at h22
     refine .skip ?_
     refine hK9 _ _ ?_
     refine .region ?_
     refine .m rfl rfl rfl (.move rfl) ?_
     refine .m rfl rfl rfl (.move rfl) ?_
     refine .r rfl rfl rfl (.litR rfl sl_22_A ze_2_E rfl rfl (by omega) (by omega) rfl rfl) ?_
     rintro _ H34x2 ⟨g34x2, rfl, le34x2, ge34x2, at34x2⟩
     have nx_H34x2 := le34x2.1
     replace hle := hle.trans le34x2
     replace lst1 := lst1.le le34x2
     replace at_L3 := le34x2.2 _ _ at_L3
     replace at_L4 := le34x2.2 _ _ at_L4
     have lt_at34x2 := GHeap.lt_of_get at34x2
     replace h := base_h.mono hle
     refine .r rfl rfl rfl (.appendI rfl sl_22_A ze_2_E rfl by_2_E sl_22_A rfl rfl (by assumption) (by assumption) (by first | omega | (simp <;> omega)) (by omega) (by omega)) ?_
     rintro _ H35x2 ⟨g35x2, rfl, st35x2, ge35x2, at35x2⟩
     have nx_H35x2 := st35x2.nx
     replace hle := hle.st st35x2 (fun k hk => ⟨by omega, trivial⟩)
     replace lst1 := lst1.st st35x2 (fun k hk ho => by simp only [out, and_true] at ho ⊢ <;> omega)
     replace at_L4 := st35x2.same _ _ ⟨by omega, trivial⟩ at_L4
     replace at34x2 := st35x2.same _ _ ⟨by omega, trivial⟩ at34x2
     have lt_at35x2 := GHeap.lt_of_get at35x2
     replace h := base_h.mono hle
     refine .m rfl rfl rfl (.assign rfl) ?_
     refine .nil ?_
     refine hK7 _ _ ?_
     refine .region ?_
     refine .m rfl rfl rfl (.move rfl) ?_
     refine .m rfl rfl rfl (.add rfl rfl rfl (by omega) (by omega)) ?_
     refine .m rfl rfl rfl (.assign rfl) ?_
     refine .nil ?_
     refine hKL1 ((k + 1, _, _, _, _)) _ _ ?_ ?_ ⟨rfl, rfl, rfl, rfl, trivial⟩
     ·
      refine ⟨lst1, by first | assumption | (rw [(cls_new h22).1]; assumption) | (rw [(cls_new h22).2]; assumption) | (rw [(cls_old h22).1]; assumption) | (rw [(cls_old h22).2]; assumption), by omega, by first | omega | (simp only [List.length_append, List.length_cons, List.length_nil] <;> omega) | (rw [(cls_new h22).1] <;> (first | omega | (simp only [List.length_append, List.length_cons, List.length_nil] <;> omega))) | (rw [(cls_new h22).2] <;> (first | omega | (simp only [List.length_append, List.length_cons, List.length_nil] <;> omega))) | (rw [(cls_old h22).1] <;> (first | omega | (simp only [List.length_append, List.length_cons, List.length_nil] <;> omega))) | (rw [(cls_old h22).2] <;> (first | omega | (simp only [List.length_append, List.length_cons, List.length_nil] <;> omega))), by first | assumption | (rw [(cls_new h22).1]; assumption) | (rw [(cls_new h22).2]; assumption) | (rw [(cls_old h22).1]; assumption) | (rw [(cls_old h22).2]; assumption), by omega, by first | omega | (simp only [List.length_append, List.length_cons, List.length_nil] <;> omega) | (rw [(cls_new h22).1] <;> (first | omega | (simp only [List.length_append, List.length_cons, List.length_nil] <;> omega))) | (rw [(cls_new h22).2] <;> (first | omega | (simp only [List.length_append, List.length_cons, List.length_nil] <;> omega))) | (rw [(cls_old h22).1] <;> (first | omega | (simp only [List.length_append, List.length_cons, List.length_nil] <;> omega))) | (rw [(cls_old h22).2] <;> (first | omega | (simp only [List.length_append, List.length_cons, List.length_nil] <;> omega))), by omega, ?_⟩
      omega
     ·
      (dsimp only; omega)
   ·
    try simp only [sps] at h12
    refine .exit ?_
    refine hK3 _ _ ?_
    refine .seq (fun K12 hK12 => ?_)
    refine .region ?_
    refine .m rfl rfl rfl (.move rfl) ?_
    refine .m rfl rfl rfl (.assign rfl) ?_
    refine .nil ?_
    refine hK12 _ _ ?_
    refine .ret ?_
    -- leaf e1
    refine hret _ _ ?_
    refine ⟨_, rfl, ?_⟩
    obtain rfl : k = xs.length := by omega
    exact ⟨hle, _, by rw [ln_L3], at_L3, by omega⟩
theorem l01ClassesN_c {a : Option Addr} {n : Nat} {xs : List Int} {H : GHeap} (hn : xs.length = n) (h : Ints H a xs := by assumption) (hl : n ≤ 1048576 := by omega) :
    GCalls Try.prog 110 [.slice a n n] H (NewInts 2 H (clsL (kerB xs) n)) := by
  subst hn
  exact l01Classes_c h hl
set_option maxHeartbeats 4000000 in
theorem l01Join_c {a : Option Addr} {n : Nat} {pss : List (List Int)} {r : Nat → Option Addr} {H : GHeap} (h : Intss H a pss r := by assumption) (hn : n ≤ 1048576 := by omega) (hl : pss.length ≤ 1048576 := by omega)
    (hp : ∀ i, i < pss.length → 2 ≤ (pss.getD i []).length ∧ 0 ≤ (pss.getD i []).getD 0 0 ∧ (pss.getD i []).getD 0 0 < n ∧ 0 ≤ (pss.getD i []).getD 1 0 ∧ (pss.getD i []).getD 1 0 < n) :
    GCalls Try.prog 67 [.int .i64 (n : Int), .slice a pss.length pss.length] H (NewInts 2 H (joinL n (pss.map fun p => (pA p, pB p)))) := by
  refine GCalls.body (N := 68) (rs := [.tmp 4]) Try.func67 rfl rfl rfl rfl (fun Qx hret hend => ?_)
  refine .forget (fr' := [(0, some _), (1, some _)]) ⟨rfl, rfl, trivial⟩ ?_
  have hle := GHeap.Le.refl H
  have base_h := h
  refine .seq (fun K1 hK1 => ?_)
  refine .region ?_
  refine .m rfl rfl rfl (.assign rfl) ?_
  refine .nil ?_
  refine hK1 _ _ ?_
  refine .seq (fun K2 hK2 => ?_)
  refine .region ?_
  refine .r rfl rfl rfl (.litR rfl sl_22_A ze_2_E rfl rfl (by omega) (by omega) rfl rfl) ?_
  rintro _ H11 ⟨g11, rfl, le11, ge11, at11⟩
  have nx_H11 := le11.1
  replace hle := hle.trans le11
  have lt_at11 := GHeap.lt_of_get at11
  replace h := base_h.mono hle
  replace at11 : GHeap.get H11 g11 = some (.row (ints []) 2 true) := at11
  refine .m rfl rfl rfl (.assign rfl) ?_
  refine .nil ?_
  refine hK2 _ _ ?_
  refine .seq (fun K3 hK3 => ?_)
  refine .seq (fun K4 hK4 => ?_)
  refine .region ?_
  refine .m rfl rfl rfl (.assign rfl) ?_
  refine .nil ?_
  refine hK4 _ _ ?_
  refine .block ?_
  refine .loopR (σ := Nat × Nat × Nat) [(0, some _), (1, some _)] (fun (k, gL5, nL5) => [(6, some (.int .i64 (k : Int))), (5, some (.slice (some ⟨gL5, 0, none⟩) nL5 nL5))]) (fun (k, gL5, nL5) H' => St [g11] H11 H' ∧ H'.get gL5 = some (.row (ints (numsL k)) 2 true) ∧ (gL5 = g11 ∨ H11.next ≤ gL5) ∧ nL5 = (numsL k).length ∧ k ≤ n) (fun (k, gL5, nL5) => n - k) ((0, _, _)) ⟨rfl, rfl, trivial⟩ ⟨rfl, rfl, trivial⟩ ?_ ?_
  ·
   refine ⟨.refl _ _, by first | assumption | exact at11 | simpa using at11, .inl rfl, by first | rfl | assumption | simp | omega, ?_⟩
   omega
  ·
   rintro ⟨k, gL5, nL5⟩ HL1 ⟨lst1, at_L5, pl_L5, ln_L5, hI⟩ KL1 hKL1
   refine .forget (fr' := [(6, some (.int .i64 (k : Int))), (5, some (.slice (some ⟨gL5, 0, none⟩) nL5 nL5)), (0, some _), (1, some _)]) ⟨rfl, rfl, rfl, rfl, trivial⟩ ?_
   have ge_L5 : H.next ≤ gL5 := by omega
   have nx_HL1 := lst1.nx
   replace hle := hle.st lst1 (fun k hk => ⟨by omega, trivial⟩)
   have lt_at_L5 := GHeap.lt_of_get at_L5
   replace h := base_h.mono hle
   have hl5 : (numsL k).length = k := length_numsL _
   refine .seq (fun K5 hK5 => ?_)
   refine .seq (fun K6 hK6 => ?_)
   refine .region ?_
   refine .m rfl rfl rfl (.move rfl) ?_
   refine .m rfl rfl rfl (.move rfl) ?_
   refine .m rfl rfl rfl (.cmp rfl rfl rfl) ?_
   refine .nil ?_
   refine hK6 _ _ ?_
   refine .cond rfl (fun h14 => ?_) (fun h14 => ?_)
   ·
    try simp only [sps] at h14
    refine .skip ?_
    refine hK5 _ _ ?_
    refine .seq (fun K7 hK7 => ?_)
    refine .block ?_
    refine .region ?_
    refine .m rfl rfl rfl (.move rfl) ?_
    refine .m rfl rfl rfl (.move rfl) ?_
    refine .r rfl rfl rfl (.litR rfl sl_22_A ze_2_E rfl rfl (by omega) (by omega) rfl rfl) ?_
    rintro _ H19 ⟨g19, rfl, le19, ge19, at19⟩
    have nx_H19 := le19.1
    replace hle := hle.trans le19
    replace lst1 := lst1.le le19
    replace at_L5 := le19.2 _ _ at_L5
    have lt_at19 := GHeap.lt_of_get at19
    replace h := base_h.mono hle
    refine .r rfl rfl rfl (.appendI rfl sl_22_A ze_2_E rfl by_2_E sl_22_A rfl rfl (by assumption) (by assumption) (by first | omega | (simp <;> omega)) (by omega) (by omega)) ?_
    rintro _ H20 ⟨g20, rfl, st20, ge20, at20⟩
    have nx_H20 := st20.nx
    replace hle := hle.st st20 (fun k hk => ⟨by omega, trivial⟩)
    replace lst1 := lst1.st st20 (fun k hk ho => by simp only [out, and_true] at ho ⊢ <;> omega)
    replace at19 := st20.same _ _ ⟨by omega, trivial⟩ at19
    have lt_at20 := GHeap.lt_of_get at20
    replace h := base_h.mono hle
    refine .m rfl rfl rfl (.assign rfl) ?_
    refine .nil ?_
    refine hK7 _ _ ?_
    refine .region ?_
    refine .m rfl rfl rfl (.move rfl) ?_
    refine .m rfl rfl rfl (.add rfl rfl rfl (by omega) (by omega)) ?_
    refine .m rfl rfl rfl (.assign rfl) ?_
    refine .nil ?_
    refine hKL1 ((k + 1, _, _)) _ _ ?_ ?_ ⟨rfl, rfl, rfl, rfl, trivial⟩
    ·
     refine ⟨lst1, by first | assumption | (rw [numsL_succ k]; assumption), by omega, by first | omega | (simp only [List.length_append, List.length_cons, List.length_nil] <;> omega) | (rw [numsL_succ k] <;> (first | omega | (simp only [List.length_append, List.length_cons, List.length_nil] <;> omega))), ?_⟩
     omega
    ·
     (dsimp only; omega)
   ·
    try simp only [sps] at h14
    refine .exit ?_
    refine hK3 _ _ ?_
    refine .seq (fun K8 hK8 => ?_)
    refine .seq (fun K9 hK9 => ?_)
    refine .region ?_
    refine .m rfl rfl rfl (.assign rfl) ?_
    refine .nil ?_
    refine hK9 _ _ ?_
    refine .block ?_
    obtain rfl : k = n := by omega
    rw [length_numsL] at ln_L5
    obtain rfl := ln_L5.symm
    refine .loopR (σ := Nat × List Int) [(1, some _), (5, some _)] (fun (j, lab) => [(7, some (.int .i64 (j : Int)))]) (fun (j, lab) H' => St [gL5] HL1 H' ∧ H'.get gL5 = some (.row (ints lab) 2 true) ∧ j ≤ pss.length ∧ lab.length = k ∧ Ker lab (joinK (pairL pss j)) k) (fun (j, lab) => pss.length - j) ((0, numsL k)) ⟨rfl, rfl, trivial⟩ ⟨rfl, trivial⟩ ?_ ?_
    ·
     refine ⟨.refl _ _, by first | assumption | exact at_L5 | simpa using at_L5, ?_⟩
     exact ⟨by omega, length_numsL _, by rw [pairL_zero]; exact Ker.start fun i hi => numsL_get (by omega)⟩
    ·
     rintro ⟨j, lab⟩ HL2 ⟨lst2, at_L5, hI⟩ KL2 hKL2
     refine .forget (fr' := [(7, some (.int .i64 (j : Int))), (1, some _), (5, some _)]) ⟨rfl, rfl, rfl, trivial⟩ ?_
     have nx_HL2 := lst2.nx
     replace hle := hle.st lst2 (fun k hk => ⟨by omega, trivial⟩)
     replace lst1 := lst1.st lst2 (fun k hk ho => by simp only [out, and_true] at ho ⊢ <;> omega)
     have lt_at_L5 := GHeap.lt_of_get at_L5
     replace h := base_h.mono hle
     obtain ⟨hj, hlab, hK⟩ := hI
     have i5 := Ints.of_get at_L5
     have i5s : SlA HL2 _ _ _ := i5
     rw [hlab] at i5s
     refine .seq (fun K10 hK10 => ?_)
     refine .seq (fun K11 hK11 => ?_)
     refine .region ?_
     refine .m rfl rfl rfl (.move rfl) ?_
     refine .m rfl rfl rfl (.move rfl) ?_
     refine .m rfl rfl rfl (.len sl_23_B rfl) ?_
     refine .m rfl rfl rfl (.cmp rfl rfl rfl) ?_
     refine .nil ?_
     refine hK11 _ _ ?_
     refine .cond rfl (fun h24 => ?_) (fun h24 => ?_)
     ·
      simp only [sps] at h24
      have q1 := hp j (by omega)
      have q2 := h.2 j (by omega)
      have q3 : pA (pss.getD j []) < k := by unfold pA; omega
      have q4 : pB (pss.getD j []) < k := by unfold pB; omega
      have q2 := h.2 j (by omega)
      refine .skip ?_
      refine hK10 _ _ ?_
      refine .seq (fun K12 hK12 => ?_)
      refine .block ?_
      refine .seq (fun K13 hK13 => ?_)
      refine .regionD mixed_orders_B (.q 0 (.q 1 (.q 2 (.q 3 (.q 4 (.q 5 (.q 6 (.q 7 (.q 8 (.q 9 (.q 10 (.q 11 (.q 12 (.q 13 (.q 14 (.q 15 (.q 16 (.q 17 (.q 18 (.q 19 (.done))))))))))))))))))))) (by kernel_rfl) ?_
      refine .m rfl rfl rfl rfl (.refl _) (.move rfl) ?_
      refine .m rfl rfl rfl rfl (.refl _) (.move rfl) ?_
      refine .m rfl rfl rfl rfl (.refl _) (.move rfl) ?_
      refine .m rfl rfl rfl rfl (.refl _) (.idxN sl_23_B (Intss.sl (by assumption)) rfl rfl (by omega)) ?_
      refine .m rfl rfl rfl rfl (.refl _) (.loadR on_22_B (by assumption) rfl (by omega)) ?_
      refine .m rfl rfl rfl rfl (.refl _) (.idxN (j := 0) sl_22_A (by assumption) rfl rfl (by omega)) ?_
      refine .m rfl rfl rfl rfl (.refl _) (.loadI on_2_A (by assumption) rfl (by omega)) ?_
      refine .m rfl rfl rfl rfl (.refl _) (.idx1 sl_22_A (by first | assumption | exact SlA.of_row at_L5 (by first | rfl | (simp; done) | (simp <;> omega))) rfl rfl (by omega) (by omega)) ?_
      refine .m rfl rfl rfl rfl (.refl _) (.loadI on_2_A (by first | assumption | exact Ints.of_get at_L5) rfl (by omega)) ?_
      refine .m rfl rfl rfl rfl (.refl _) (.move rfl) ?_
      refine .m rfl rfl rfl rfl (.refl _) (.move rfl) ?_
      refine .m rfl rfl rfl rfl (.refl _) (.move rfl) ?_
      refine .m rfl rfl rfl rfl (.refl _) (.idxN sl_23_B (Intss.sl (by assumption)) rfl rfl (by omega)) ?_
      refine .m rfl rfl rfl rfl (.refl _) (.loadR on_22_B (by assumption) rfl (by omega)) ?_
      refine .m rfl rfl rfl rfl (.refl _) (.idxN (j := 1) sl_22_A (by assumption) rfl rfl (by omega)) ?_
      refine .m rfl rfl rfl rfl (.refl _) (.loadI on_2_A (by assumption) rfl (by omega)) ?_
      refine .m rfl rfl rfl rfl (.refl _) (.idx1 sl_22_A (by first | assumption | exact SlA.of_row at_L5 (by first | rfl | (simp; done) | (simp <;> omega))) rfl rfl (by omega) (by omega)) ?_
      refine .m rfl rfl rfl rfl (.refl _) (.loadI on_2_A (by first | assumption | exact Ints.of_get at_L5) rfl (by omega)) ?_
      refine .m rfl rfl rfl rfl (.refl _) (.assign rfl) ?_
      refine .m rfl rfl rfl rfl (.refl _) (.assign rfl) ?_
      refine .done ?_
      refine hK13 _ _ ?_
      refine .seq (fun K14 hK14 => ?_)
      refine .region ?_
      refine .m rfl rfl rfl (.assign rfl) ?_
      refine .nil ?_
      refine hK14 _ _ ?_
      refine .block ?_
      refine .loopR (σ := Nat) [(1, some _), (5, some _), (7, some _), (8, some _), (9, some _)] (fun e => [(10, some (.int .i64 (e : Int)))]) (fun e H' => St [gL5] HL2 H' ∧ H'.get gL5 = some (.row (ints (relab lab (lab.getD (pA (pss.getD j [])) 0) (lab.getD (pB (pss.getD j [])) 0) e)) 2 true) ∧ e ≤ lab.length) (fun e => lab.length - e) (0) ⟨rfl, rfl, rfl, rfl, rfl, trivial⟩ ⟨rfl, trivial⟩ ?_ ?_
      ·
       refine ⟨.refl _ _, by rw [relab_zero]; assumption, ?_⟩
       omega
      ·
       rintro e HL3 ⟨lst3, at_L5, hI⟩ KL3 hKL3
       refine .forget (fr' := [(10, some (.int .i64 (e : Int))), (1, some _), (5, some _), (7, some _), (8, some _), (9, some _)]) ⟨rfl, rfl, rfl, rfl, rfl, rfl, trivial⟩ ?_
       have nx_HL3 := lst3.nx
       replace hle := hle.st lst3 (fun k hk => ⟨by omega, trivial⟩)
       replace lst1 := lst1.st lst3 (fun k hk ho => by simp only [out, and_true] at ho ⊢ <;> omega)
       replace lst2 := lst2.st lst3 (fun k hk ho => by simp only [out, and_true] at ho ⊢ <;> omega)
       have lt_at_L5 := GHeap.lt_of_get at_L5
       replace h := base_h.mono hle
       clear q2
       have q2 := h.2 j (by omega)
       have i5 := Ints.of_get at_L5
       have hlr := length_relab lab (lab.getD (pA (pss.getD j [])) 0) (lab.getD (pB (pss.getD j [])) 0) e
       have i5s : SlA HL3 _ _ _ := i5
       rw [hlr, hlab] at i5s
       refine .seq (fun K15 hK15 => ?_)
       refine .seq (fun K16 hK16 => ?_)
       refine .region ?_
       refine .m rfl rfl rfl (.move rfl) ?_
       refine .m rfl rfl rfl (.move rfl) ?_
       refine .m rfl rfl rfl (.len sl_22_A rfl) ?_
       refine .m rfl rfl rfl (.cmp rfl rfl rfl) ?_
       refine .m rfl rfl rfl (.move rfl) ?_
       refine .split (fun h49 => ?_) (fun h49 => ?_)
       ·
        try simp only [sps] at h49
        refine .mg rfl rfl rfl rfl rfl (.move rfl) ?_
        refine .mg rfl rfl rfl rfl rfl (.move rfl) ?_
        refine .mg rfl rfl rfl rfl rfl (.cmp rfl rfl rfl) ?_
        refine .m rfl rfl rfl (.pickT rfl rfl) ?_
        refine .nil ?_
        refine hK16 _ _ ?_
        refine .cond rfl (fun h53 => ?_) (fun h53 => ?_)
        ·
         try simp only [sps] at h53
         refine .skip ?_
         refine hK15 _ _ ?_
         refine .seq (fun K17 hK17 => ?_)
         refine .block ?_
         refine .seq (fun K18 hK18 => ?_)
         refine .region ?_
         refine .m rfl rfl rfl (.move rfl) ?_
         refine .m rfl rfl rfl (.move rfl) ?_
         refine .m rfl rfl rfl (.idxN sl_22_A (by first | assumption | exact SlA.of_row at_L5 (by first | rfl | (simp; done) | (simp <;> omega))) rfl rfl (by omega)) ?_
         refine .m rfl rfl rfl (.loadI on_2_A (by first | assumption | exact Ints.of_get at_L5) rfl (by omega)) ?_
         refine .m rfl rfl rfl (.move rfl) ?_
         refine .m rfl rfl rfl (.cmp rfl rfl rfl) ?_
         refine .nil ?_
         refine hK18 _ _ ?_
         refine .cond rfl (fun h61 => ?_) (fun h61 => ?_)
         ·
          simp only [sps] at h61
          rw [relab_getD (by omega), if_neg (by omega)] at h61
          refine .region ?_
          refine .m rfl rfl rfl (.move rfl) ?_
          refine .m rfl rfl rfl (.move rfl) ?_
          refine .m rfl rfl rfl (.move rfl) ?_
          refine .m rfl rfl rfl (.idxN sl_22_A (by first | assumption | exact SlA.of_row at_L5 (by first | rfl | (simp; done) | (simp <;> omega))) rfl rfl (by omega)) ?_
          refine .r0 rfl rfl (.storeI rfl sz_2_E rfl rfl (by assumption) (by first | omega | (simp <;> omega))) ?_
          rintro _ H14004 ⟨rfl, st14004, at14004⟩
          have nx_H14004 := st14004.nx
          replace hle := hle.st st14004 (fun k hk => ⟨by omega, trivial⟩)
          replace lst1 := lst1.st st14004 (fun k hk ho => by simp only [out, and_true] at ho ⊢ <;> omega)
          replace lst2 := lst2.st st14004 (fun k hk ho => by simp only [out, and_true] at ho ⊢ <;> omega)
          replace lst3 := lst3.st st14004 (fun k hk ho => by simp only [out, and_true] at ho ⊢ <;> omega)
          have lt_at14004 := GHeap.lt_of_get at14004
          replace h := base_h.mono hle
          clear q2
          have q2 := h.2 j (by omega)
          refine .nil ?_
          refine hK17 _ _ ?_
          refine .region ?_
          refine .m rfl rfl rfl (.move rfl) ?_
          refine .m rfl rfl rfl (.add rfl rfl rfl (by omega) (by omega)) ?_
          refine .m rfl rfl rfl (.assign rfl) ?_
          refine .nil ?_
          refine hKL3 (e + 1) _ _ ?_ ?_ ⟨rfl, rfl, rfl, rfl, rfl, rfl, trivial⟩
          ·
           refine ⟨lst3, by first | (rw [relab_T (b := lab.getD (pB (pss.getD j [])) 0) (by omega) h61]; have e9 := at14004; rw [Nat.zero_add] at e9; exact e9) | (rw [relab_F (b := lab.getD (pB (pss.getD j [])) 0) (by omega) h61]; assumption), ?_⟩
           omega
          ·
           omega
         ·
          simp only [sps] at h61
          rw [relab_getD (by omega), if_neg (by omega)] at h61
          refine .skip ?_
          refine hK17 _ _ ?_
          refine .region ?_
          refine .m rfl rfl rfl (.move rfl) ?_
          refine .m rfl rfl rfl (.add rfl rfl rfl (by omega) (by omega)) ?_
          refine .m rfl rfl rfl (.assign rfl) ?_
          refine .nil ?_
          refine hKL3 (e + 1) _ _ ?_ ?_ ⟨rfl, rfl, rfl, rfl, rfl, rfl, trivial⟩
          ·
           refine ⟨lst3, by first | (rw [relab_T (b := lab.getD (pB (pss.getD j [])) 0) (by omega) h61]; have e9 := at14004; rw [Nat.zero_add] at e9; exact e9) | (rw [relab_F (b := lab.getD (pB (pss.getD j [])) 0) (by omega) h61]; assumption), ?_⟩
           omega
          ·
           omega
        ·
         simp only [sps] at h53
         refine .exit ?_
         refine hK12 _ _ ?_
         refine .region ?_
         refine .m rfl rfl rfl (.move rfl) ?_
         refine .m rfl rfl rfl (.add rfl rfl rfl (by omega) (by omega)) ?_
         refine .m rfl rfl rfl (.assign rfl) ?_
         refine .nil ?_
         refine hKL2 ((j + 1, relab lab (lab.getD (pA (pss.getD j [])) 0) (lab.getD (pB (pss.getD j [])) 0) e)) _ _ ?_ ?_ ⟨rfl, rfl, rfl, trivial⟩
         ·
          refine ⟨lst2, by assumption, ?_⟩
          exact ⟨by omega, by rw [length_relab]; omega, by rw [pairL_succ (by omega), joinK_snoc]; exact hK.relab hlab (by omega) (by omega) (by first | exact .inl (by omega) | exact .inr h53)⟩
         ·
          (dsimp only; omega)
       ·
        simp only [sps] at h49
        refine .sg rfl rfl rfl rfl rfl ?_
        refine .sg rfl rfl rfl rfl rfl ?_
        refine .sg rfl rfl rfl rfl rfl ?_
        refine .m rfl rfl rfl (.pickF rfl rfl) ?_
        refine .nil ?_
        refine hK16 _ _ ?_
        refine .condF rfl ?_
        refine .exit ?_
        refine hK12 _ _ ?_
        refine .region ?_
        refine .m rfl rfl rfl (.move rfl) ?_
        refine .m rfl rfl rfl (.add rfl rfl rfl (by omega) (by omega)) ?_
        refine .m rfl rfl rfl (.assign rfl) ?_
        refine .nil ?_
        refine hKL2 ((j + 1, relab lab (lab.getD (pA (pss.getD j [])) 0) (lab.getD (pB (pss.getD j [])) 0) e)) _ _ ?_ ?_ ⟨rfl, rfl, rfl, trivial⟩
        ·
         refine ⟨lst2, by assumption, ?_⟩
         exact ⟨by omega, by rw [length_relab]; omega, by rw [pairL_succ (by omega), joinK_snoc]; exact hK.relab hlab (by omega) (by omega) (by first | exact .inl (by omega) | exact .inr h53)⟩
        ·
         (dsimp only; omega)
     ·
      try simp only [sps] at h24
      refine .exit ?_
      refine hK8 _ _ ?_
      refine .seq (fun K19 hK19 => ?_)
      refine .region ?_
      obtain rfl : j = pss.length := by omega
      refine .m rfl rfl rfl (.move rfl) ?_
      refine .call rfl rfl rfl rfl @Try.call110 rfl (l01ClassesN_c hlab) ?_
      rintro _ H67 ⟨le67, g67, rfl, at67, ge67⟩
      have nx_H67 := le67.1
      replace hle := hle.trans le67
      replace lst1 := lst1.le le67
      replace at_L5 := le67.2 _ _ at_L5
      have lt_at67 := GHeap.lt_of_get at67
      replace h := base_h.mono hle
      have i67 := Ints.of_get at67
      refine .m rfl rfl rfl (.assign rfl) ?_
      refine .nil ?_
      refine hK19 _ _ ?_
      refine .ret ?_
      -- leaf e1
      refine hret _ _ ?_
      refine ⟨_, rfl, ?_⟩
      rw [pairL_all] at hK
      have e1 := hK.cls
      exact ⟨hle, g67, by rw [length_joinL, length_clsL], by unfold joinL; rw [← e1]; exact at67, by omega⟩
theorem l01JoinN_c {a : Option Addr} {n' : Int} {n L : Nat} {pss : List (List Int)} {r : Nat → Option Addr} {H : GHeap} (hn' : n' = (n : Int)) (hL : pss.length = L) (h : Intss H a pss r) (hn : n ≤ 1048576) (hl : L ≤ 1048576)
    (hp : ∀ i, i < pss.length → 2 ≤ (pss.getD i []).length ∧ 0 ≤ (pss.getD i []).getD 0 0 ∧ (pss.getD i []).getD 0 0 < n ∧ 0 ≤ (pss.getD i []).getD 1 0 ∧ (pss.getD i []).getD 1 0 < n) :
    GCalls Try.prog 67 [.int .i64 n', .slice a L L] H (NewInts 2 H (joinL n (pss.map fun p => (pA p, pB p)))) := by
  subst hn' hL
  exact l01Join_c h hn hl hp
theorem l01JoinM_c {a : Option Addr} {n' : Int} {n L : Nat} {pss : List (List Int)} {r : Nat → Option Addr} {cs : List Int} {H : GHeap} (hcs : joinL n (pss.map fun p => (pA p, pB p)) = cs) (hn' : n' = (n : Int)) (hL : pss.length = L) (h : Intss H a pss r) (hn : n ≤ 1048576) (hl : L ≤ 1048576)
    (hp : ∀ i, i < pss.length → 2 ≤ (pss.getD i []).length ∧ 0 ≤ (pss.getD i []).getD 0 0 ∧ (pss.getD i []).getD 0 0 < n ∧ 0 ≤ (pss.getD i []).getD 1 0 ∧ (pss.getD i []).getD 1 0 < n) :
    GCalls Try.prog 67 [.int .i64 n', .slice a L L] H (NewInts 2 H cs) := by
  subst hcs
  exact l01JoinN_c hn' hL h hn hl hp
end Go.Proofs.Ytfejmmaeigbfkaa
/- Lists that are written over: what marking leaves, and what it finds again. No condition. -/
namespace Go.GL

/-- A row may have turned only into another one of as many numbers, and only among the rows lo .. hi - 1. -/
structure StM (lo hi : Nat) (H H' : GHeap) : Prop where
  nx : H.next ≤ H'.next
  same : ∀ k o, ¬ (lo ≤ k ∧ k < hi) → H.get k = some o → H'.get k = some o
  ins : ∀ k o, H.get k = some o → ∃ o', H'.get k = some o' ∧ (o' = o ∨ ∃ xs ys e, o = .row (ints xs) e true ∧ o' = .row (ints ys) e true ∧ ys.length = xs.length)
theorem StM.refl (lo hi : Nat) (H : GHeap) : StM lo hi H H := ⟨Nat.le_refl _, fun _ _ _ h => h, fun _ o h => ⟨o, h, .inl rfl⟩⟩
theorem StM.of_le {lo hi : Nat} {H H' : GHeap} (h : H.Le H') : StM lo hi H H' := ⟨h.1, fun k o _ ho => h.2 k o ho, fun _ o ho => ⟨o, h.2 _ _ ho, .inl rfl⟩⟩
theorem ints_inj {xs ys : List Int} (h : ints xs = ints ys) : xs = ys := by
  unfold ints at h
  exact (List.map_inj_right (fun a b hab => by cases hab; rfl)).1 h
theorem StM.trans {lo hi : Nat} {A B C : GHeap} (h : StM lo hi A B) (k : StM lo hi B C) : StM lo hi A C where
  nx := Nat.le_trans h.nx k.nx
  same g o hg ho := k.same g o hg (h.same g o hg ho)
  ins g o ho := by
    obtain ⟨o1, h1, h2⟩ := h.ins g o ho
    obtain ⟨o2, k1, k2⟩ := k.ins g o1 h1
    refine ⟨o2, k1, ?_⟩
    rcases h2 with rfl | ⟨xs, ys, e, rfl, rfl, hl⟩
    · exact k2
    · rcases k2 with rfl | ⟨us, vs, e', h3, rfl, hl'⟩
      · exact .inr ⟨xs, ys, e, rfl, rfl, hl⟩
      · injection h3 with h3 h4 h5
        have := ints_inj h3
        subst this
        subst h4
        exact .inr ⟨xs, vs, _, rfl, rfl, by rw [hl', hl]⟩
theorem StM.le_left {lo hi : Nat} {A B C : GHeap} (h : A.Le B) (k : StM lo hi B C) (hA : A.next ≤ lo) : A.Le C :=
  ⟨Nat.le_trans h.1 k.nx, fun g o ho => k.same g o (by have := GHeap.lt_of_get ho; omega) (h.2 g o ho)⟩
theorem Keep.stM {b lo hi : Nat} {H0 H H' : GHeap} (k : Keep b H0 H) (h : StM lo hi H H') (hg : ∀ k, b ≤ k → k < H0.next → ¬ (lo ≤ k ∧ k < hi)) : Keep b H0 H' := fun g o hb h1 => h.same g o (hg g hb (GHeap.lt_of_get h1)) (k g o hb h1)

/-- A list that may be written over: its row lies among lo .. hi - 1. -/
def IntsW (lo hi : Nat) (H : GHeap) (a : Option Addr) (n : Nat) : Prop := n = 0 ∨ ∃ g e xs, a = some ⟨g, 0, none⟩ ∧ lo ≤ g ∧ g < hi ∧ H.get g = some (.row (ints xs) e true) ∧ xs.length = n
theorem IntsW.stm {lo hi : Nat} {H H' : GHeap} {a : Option Addr} {n : Nat} (h : IntsW lo hi H a n) (s : StM lo hi H H') : IntsW lo hi H' a n := by
  rcases h with h | ⟨g, e, xs, h1, h2, h3, h4, h5⟩
  · exact .inl h
  · obtain ⟨o', k1, k2⟩ := s.ins g _ h4
    rcases k2 with rfl | ⟨us, vs, e', h6, rfl, hl⟩
    · exact .inr ⟨g, e, xs, h1, h2, h3, k1, h5⟩
    · injection h6 with h6 h7 h8
      have := ints_inj h6
      subst this
      exact .inr ⟨g, e', vs, h1, h2, h3, k1, by rw [hl, h5]⟩
theorem IntsW.of_at {b : Nat} {H0 H : GHeap} {a : Option Addr} {xs : List Int} (h : IntsAt b H0 a xs) (k : Keep b H0 H) : IntsW b H0.next H a xs.length := by
  obtain ⟨g, e, h1, h2, h3⟩ := h
  exact .inr ⟨g, e, xs, h1, h2, GHeap.lt_of_get h3, k g _ h2 h3, rfl⟩
/-- A list's row, if it has one, is not below b. -/
def HdGe (b : Nat) (a : Option Addr) (n : Nat) : Prop := n = 0 ∨ ∃ g o, a = some ⟨g, o, none⟩ ∧ b ≤ g
theorem HdGe.le {b b' : Nat} {a : Option Addr} {n : Nat} (h : HdGe b a n) (hb : b' ≤ b) : HdGe b' a n := h.imp id fun ⟨g, o, h1, h2⟩ => ⟨g, o, h1, Nat.le_trans hb h2⟩
theorem SlA.keep {b b' : Nat} {H H' : GHeap} {a : Option Addr} {n : Nat} {f : Nat → Value} (h : SlA H a n f) (hd : HdGe b a n) (k : Keep b' H H') (hb : b' ≤ b) : SlA H' a n f := by
  rcases hd with h0 | ⟨g, o, rfl, hg⟩
  · exact .inl h0
  · rcases h with h0 | ⟨g', o', e, hc⟩
    · exact .inl h0
    · cases e
      refine .inr ⟨g, o, rfl, fun i hi => ?_⟩
      have h1 := hc i hi
      unfold GHeap.cell at h1 ⊢
      cases hx : H.get g with
      | none => rw [hx] at h1; cases h1
      | some x => rw [hx] at h1; rw [k g x (by omega) hx]; exact h1
def IntssW (lo hi : Nat) (H : GHeap) (a : Option Addr) (xss : List (List Int)) (r : Nat → Option Addr) : Prop :=
  SlA H a xss.length (fun i => .slice (r i) (xss.getD i []).length (xss.getD i []).length) ∧ (∀ i, i < xss.length → IntsW lo hi H (r i) (xss.getD i []).length) ∧ HdGe lo a xss.length
theorem SlA.stm {lo hi : Nat} {H H' : GHeap} {a : Option Addr} {n : Nat} {f : Nat → Value} (h : SlA H a n f) (s : StM lo hi H H') (hf : ∀ i m, f i ≠ .int .i64 m) : SlA H' a n f := by
  rcases h with h | ⟨g, o, e, h⟩
  · exact .inl h
  · refine .inr ⟨g, o, e, fun i hi => ?_⟩
    have hc := h i hi
    unfold GHeap.cell at hc ⊢
    split at hc
    · rename_i cs el own hg
      obtain ⟨o', k1, k2⟩ := s.ins g _ hg
      rw [k1]
      rcases k2 with rfl | ⟨us, vs, e', h6, rfl, hl⟩
      · exact hc
      · injection h6 with h6 h7 h8
        subst h6
        exfalso
        simp only [ints, List.getElem?_map, Option.map_eq_some_iff] at hc
        obtain ⟨m, _, hm⟩ := hc
        exact hf i m hm.symm
    · cases hc
theorem IntssW.stm {lo hi : Nat} {H H' : GHeap} {a : Option Addr} {xss : List (List Int)} {r : Nat → Option Addr} (h : IntssW lo hi H a xss r) (s : StM lo hi H H') : IntssW lo hi H' a xss r :=
  ⟨h.1.stm s fun i m e => (by cases e), fun i hi => (h.2.1 i hi).stm s, h.2.2⟩
theorem IntssW.of_at {b : Nat} {H0 H : GHeap} {a : Option Addr} {xss : List (List Int)} {r : Nat → Option Addr} (h : IntssAt b H0 a xss r) (k : Keep b H0 H) : IntssW b H0.next H a xss r :=
  ⟨(h.keep k (Nat.le_refl _)).intss.1, fun i hi => by obtain ⟨g, e, cs, _, _, _, _, _, h6⟩ := h; exact .of_at (h6 i hi) k, by obtain ⟨g, e, cs, h1, h2, _⟩ := h; exact .inr ⟨g, 0, h1, h2⟩⟩
def sumL : List (List Int) → Nat
  | [] => 0
  | xs :: r => xs.length + sumL r
theorem sumL_take_succ {xss : List (List Int)} {k : Nat} (h : k < xss.length) : sumL (xss.take (k + 1)) = sumL (xss.take k) + (xss.getD k []).length := by
  induction xss generalizing k with
  | nil => simp at h
  | cons x r ih =>
    cases k with
    | zero => simp [sumL]
    | succ k =>
      have := ih (k := k) (by simpa using h)
      simp only [List.take_succ_cons, sumL, List.getD_cons_succ]
      omega
theorem sumL_le {m : Nat} : ∀ {xss : List (List Int)}, (∀ i, (xss.getD i []).length ≤ m) → sumL xss ≤ xss.length * m
  | [], _ => by simp [sumL]
  | x :: r, h => by
    have h0 := h 0
    have := sumL_le (xss := r) fun i => by simpa using h (i + 1)
    simp only [sumL, List.length_cons, Nat.add_mul]
    simp at h0
    omega
theorem sumL_take_le {xss : List (List Int)} {k : Nat} : sumL (xss.take k) ≤ sumL xss := by
  induction xss generalizing k with
  | nil => simp
  | cons x r ih =>
    cases k with
    | zero => simp [sumL]
    | succ k => simp only [List.take_succ_cons, sumL]; have := ih (k := k); omega
def Cat.total (c : Cat) : Nat := c.src.length + (c.tgt.length + (c.idn.length + sumL c.comp))
def CatW (lo hi : Nat) (H : GHeap) (c : Cat) (p : CatP) : Prop := IntsW lo hi H p.a1 c.src.length ∧ IntsW lo hi H p.a2 c.tgt.length ∧ IntsW lo hi H p.a3 c.idn.length ∧ IntssW lo hi H p.a4 c.comp p.r
theorem CatW.stm {lo hi : Nat} {H H' : GHeap} {c : Cat} {p : CatP} (h : CatW lo hi H c p) (s : StM lo hi H H') : CatW lo hi H' c p := ⟨h.1.stm s, h.2.1.stm s, h.2.2.1.stm s, h.2.2.2.stm s⟩
theorem CatW.of_at {b : Nat} {H0 H : GHeap} {c : Cat} {p : CatP} (h : CatAt b H0 c p) (k : Keep b H0 H) : CatW b H0.next H c p := ⟨.of_at h.1 k, .of_at h.2.1 k, .of_at h.2.2.1 k, .of_at h.2.2.2 k⟩
def Fun.total (f : Fun) : Nat := f.s.total + (f.t.total + (f.ob.length + f.ar.length))
def FunW (lo hi : Nat) (H : GHeap) (f : Fun) (p : FunP) : Prop := CatW lo hi H f.s p.s ∧ CatW lo hi H f.t p.t ∧ IntsW lo hi H p.b1 f.ob.length ∧ IntsW lo hi H p.b2 f.ar.length
theorem FunW.stm {lo hi : Nat} {H H' : GHeap} {c : Fun} {p : FunP} (h : FunW lo hi H c p) (s : StM lo hi H H') : FunW lo hi H' c p := ⟨h.1.stm s, h.2.1.stm s, h.2.2.1.stm s, h.2.2.2.stm s⟩
theorem FunW.of_at {b : Nat} {H0 H : GHeap} {c : Fun} {p : FunP} (h : FunAt b H0 c p) (k : Keep b H0 H) : FunW b H0.next H c p := ⟨.of_at h.1 k, .of_at h.2.1 k, .of_at h.2.2.1 k, .of_at h.2.2.2 k⟩
def Con.total (c : Con) : Nat := c.lg.length
def ConW (lo hi : Nat) (H : GHeap) (c : Con) (p : ConP) : Prop := IntsW lo hi H p.a1 c.lg.length
theorem ConW.stm {lo hi : Nat} {H H' : GHeap} {c : Con} {p : ConP} (h : ConW lo hi H c p) (s : StM lo hi H H') : ConW lo hi H' c p := IntsW.stm h s
theorem ConW.of_at {b : Nat} {H0 H : GHeap} {c : Con} {p : ConP} (h : ConAt b H0 c p) (k : Keep b H0 H) : ConW b H0.next H c p := IntsW.of_at h k

/-! ### Results: their own rows, no two alike. -/
def seqL (k : Int) (n : Nat) : List Int := (List.range n).map fun (i : Nat) => k + (i : Int)
@[simp] theorem length_seqL (k : Int) (n : Nat) : (seqL k n).length = n := by simp [seqL]
theorem seqL_get {k : Int} {n i : Nat} (h : i < n) : (seqL k n).getD i 0 = k + i := by simp [seqL, List.getD_eq_getElem?_getD, h]
/-- A leaf: where a list of n numbers lies, and its length. -/
abbrev Leaf := Option Addr × Nat
def lvBlk : Leaf → List Nat
  | (some a, _ + 1) => [a.block]
  | _ => []
def lvBlks (ls : List Leaf) : List Nat := ls.flatMap lvBlk
def lvSum : List Leaf → Nat
  | [] => 0
  | l :: r => l.2 + lvSum r
/-- All leaves are live, from row b on. -/
def Live1 (b : Nat) (H : GHeap) (l : Leaf) : Prop := l.2 = 0 ∨ ∃ g e xs, l.1 = some ⟨g, 0, none⟩ ∧ b ≤ g ∧ H.get g = some (.row (ints xs) e true) ∧ xs.length = l.2
def Lives (b : Nat) (H : GHeap) (ls : List Leaf) : Prop := ∀ l ∈ ls, Live1 b H l
/-- The leaves hold k, k + 1, .. in order. -/
def Held (b : Nat) (H : GHeap) : List Leaf → Int → Prop
  | [], _ => True
  | l :: r, k => (l.2 = 0 ∨ ∃ g e, l.1 = some ⟨g, 0, none⟩ ∧ b ≤ g ∧ H.get g = some (.row (ints (seqL k l.2)) e true)) ∧ Held b H r (k + l.2)
theorem Held.keep0 {b : Nat} {H H' : GHeap} : ∀ {ls : List Leaf} {k : Int}, Held b H ls k → Keep b H H' → Held b H' ls k
  | [], _, _, _ => trivial
  | _ :: _, _, h, hk => ⟨h.1.imp id fun ⟨g, e, h1, h2, h3⟩ => ⟨g, e, h1, h2, hk g _ h2 h3⟩, Held.keep0 h.2 hk⟩
theorem Held.append {b : Nat} {H : GHeap} : ∀ {ls ms : List Leaf} {k : Int}, Held b H ls k → Held b H ms (k + lvSum ls) → Held b H (ls ++ ms) k
  | [], _, _, _, h => by simpa [lvSum] using h
  | l :: r, ms, k, h, h' => ⟨h.1, Held.append h.2 (by rw [show k + (l.2 : Int) + (lvSum r : Int) = k + (lvSum (l :: r) : Int) by simp [lvSum]; omega]; exact h')⟩
/-- Only rows of bs have turned. -/
structure StB (bs : List Nat) (H H' : GHeap) : Prop where
  nx : H.next ≤ H'.next
  same : ∀ k o, ¬ k ∈ bs → H.get k = some o → H'.get k = some o
theorem StB.refl (bs : List Nat) (H : GHeap) : StB bs H H := ⟨Nat.le_refl _, fun _ _ _ h => h⟩
theorem StB.trans {bs cs : List Nat} {A B C : GHeap} (h : StB bs A B) (k : StB cs B C) : StB (bs ++ cs) A C :=
  ⟨Nat.le_trans h.nx k.nx, fun g o hg ho => k.same g o (fun hc => hg (List.mem_append_right _ hc)) (h.same g o (fun hc => hg (List.mem_append_left _ hc)) ho)⟩
theorem Live1.blk {b : Nat} {H : GHeap} {l : Leaf} (h : Live1 b H l) {g : Nat} {e : TypeId} {xs : List Int} (h1 : l.1 = some ⟨g, 0, none⟩) (hn : l.2 ≠ 0) : g ∈ lvBlk l := by
  obtain ⟨a, n⟩ := l
  simp only at h1 hn
  subst h1
  cases n with
  | zero => exact absurd rfl hn
  | succ n => simp [lvBlk]
theorem Lives.stB {b : Nat} {H H' : GHeap} {ls : List Leaf} {bs : List Nat} (h : Lives b H ls) (s : StB bs H H') (hd : ∀ g ∈ lvBlks ls, ¬ g ∈ bs) : Lives b H' ls := fun l hl => by
  by_cases hn : l.2 = 0
  · exact .inl hn
  · rcases h l hl with h0 | ⟨g, e, xs, h1, h2, h3, h4⟩
    · exact .inl h0
    · exact .inr ⟨g, e, xs, h1, h2, s.same g _ (hd g (List.mem_flatMap.2 ⟨l, hl, (h l hl).blk (e := e) (xs := xs) h1 hn⟩)) h3, h4⟩
theorem Live1.keep {b : Nat} {H H' : GHeap} {l : Leaf} (h : Live1 b H l) (k : Keep b H H') : Live1 b H' l := h.imp id fun ⟨g, e, xs, h1, h2, h3, h4⟩ => ⟨g, e, xs, h1, h2, k g _ h2 h3, h4⟩
theorem Lives.keep {b : Nat} {H H' : GHeap} {ls : List Leaf} (h : Lives b H ls) (k : Keep b H H') : Lives b H' ls := fun l hl => (h l hl).keep k
theorem Held.stB {b : Nat} {H H' : GHeap} {bs : List Nat} (s : StB bs H H') : ∀ {ls : List Leaf} {k : Int}, Held b H ls k → (∀ g ∈ lvBlks ls, ¬ g ∈ bs) → Held b H' ls k
  | [], _, _, _ => trivial
  | l :: r, k, h, hd => by
    refine ⟨?_, Held.stB s h.2 fun g hg => hd g (by simp only [lvBlks, List.flatMap_cons, List.mem_append]; exact .inr hg)⟩
    by_cases hn : l.2 = 0
    · exact .inl hn
    · rcases h.1 with h0 | ⟨g, e, h1, h2, h3⟩
      · exact .inl h0
      · have hl : Live1 b H l := .inr ⟨g, e, _, h1, h2, h3, by simp⟩
        exact .inr ⟨g, e, h1, h2, s.same g _ (hd g (by simp only [lvBlks, List.flatMap_cons, List.mem_append]; exact .inl (hl.blk (e := e) (xs := seqL k l.2) h1 hn))) h3⟩
theorem Lives.app {b : Nat} {H : GHeap} {ls ms : List Leaf} (h : Lives b H ls) (h' : Lives b H ms) : Lives b H (ls ++ ms) := fun l hl => (List.mem_append.1 hl).elim (h l) (h' l)
theorem lvBlks_append (ls ms : List Leaf) : lvBlks (ls ++ ms) = lvBlks ls ++ lvBlks ms := by simp [lvBlks]
theorem lvSum_append : ∀ (ls ms : List Leaf), lvSum (ls ++ ms) = lvSum ls + lvSum ms
  | [], ms => by simp [lvSum]
  | l :: r, ms => by simp only [List.cons_append, lvSum, lvSum_append r ms]; omega

/-- A result's list: none, or a row of its own. -/
def IntsR (b : Nat) (H : GHeap) (a : Option Addr) (xs : List Int) : Prop := (xs = [] ∧ a = none) ∨ IntsAt b H a xs
theorem IntsR.keep {b b' : Nat} {H H' : GHeap} {a : Option Addr} {xs : List Int} (h : IntsR b H a xs) (k : Keep b' H H') (hb : b' ≤ b) : IntsR b' H' a xs := h.imp id fun h => h.keep k hb
theorem IntsR.ints {b : Nat} {H : GHeap} {a : Option Addr} {xs : List Int} (h : IntsR b H a xs) : Ints H a xs := by
  rcases h with ⟨rfl, _⟩ | h
  · exact .inl rfl
  · exact h.ints
theorem IntsR.live {b : Nat} {H : GHeap} {a : Option Addr} {xs : List Int} (h : IntsR b H a xs) : Live1 b H (a, xs.length) := by
  rcases h with ⟨rfl, _⟩ | ⟨g, e, h1, h2, h3⟩
  · exact .inl rfl
  · exact .inr ⟨g, e, xs, h1, h2, h3, rfl⟩
def Con.leaves (c : Con) (p : ConP) : List Leaf := [(p.a1, c.lg.length)]
def ConR (b : Nat) (H : GHeap) (c : Con) (p : ConP) : Prop := IntsR b H p.a1 c.lg
theorem ConR.keep {b b' : Nat} {H H' : GHeap} {c : Con} {p : ConP} (h : ConR b H c p) (k : Keep b' H H') (hb : b' ≤ b) : ConR b' H' c p := IntsR.keep h k hb
theorem ConR.inn {b : Nat} {H : GHeap} {c : Con} {p : ConP} (h : ConR b H c p) : c.In H p := IntsR.ints h
theorem ConR.lives {b : Nat} {H : GHeap} {c : Con} {p : ConP} (h : ConR b H c p) : Lives b H (c.leaves p) := fun l hl => by
  simp only [Con.leaves, List.mem_singleton] at hl
  subst hl
  exact h.live
theorem Con.nodup (c : Con) (p : ConP) : (lvBlks (c.leaves p)).Nodup := by
  simp only [Con.leaves, lvBlks, List.flatMap_cons, List.flatMap_nil, List.append_nil]
  unfold lvBlk
  split <;> simp
theorem Held.keep {b b' : Nat} {H H' : GHeap} {ls : List Leaf} {k : Int} (h : Held b H ls k) (hk : Keep b' H H') (hb : b' ≤ b) : Held b H' ls k := h.keep0 fun g o hg ho => hk g o (by omega) ho
theorem Held.app {b : Nat} {H : GHeap} : ∀ {ls ms : List Leaf} {k : Int}, Held b H (ls ++ ms) k → Held b H ls k ∧ Held b H ms (k + lvSum ls)
  | [], ms, k, h => ⟨trivial, by simpa [lvSum] using h⟩
  | l :: r, ms, k, h => by
    obtain ⟨h1, h2⟩ := Held.app (ls := r) h.2
    exact ⟨⟨h.1, h1⟩, by rw [show k + (lvSum (l :: r) : Int) = k + (l.2 : Int) + (lvSum r : Int) by simp [lvSum]; omega]; exact h2⟩
theorem Held.ints {b : Nat} {H : GHeap} {a : Option Addr} {n : Nat} {k : Int} (h : Held b H [(a, n)] k) : Ints H a (seqL k n) := by
  rcases h.1 with h0 | ⟨g, e, h1, h2, h3⟩
  · simp only at h0; subst h0; exact .inl (by simp)
  · simp only at h1 h3; subst h1; exact Ints.of_get h3

/-- What marking leaves. -/
structure Marked (lo hi : Nat) (H H' : GHeap) (ls : List Leaf) (k : Int) : Prop where
  stm : StM lo hi H H'
  stb : StB (lvBlks ls) H H'
  held : (lvBlks ls).Nodup → Held lo H' ls k
theorem Marked.nil (lo hi : Nat) (H : GHeap) (k : Int) : Marked lo hi H H [] k := ⟨.refl _ _ _, .refl _ _, fun _ => trivial⟩
theorem Marked.app {lo hi : Nat} {A B C : GHeap} {ls ms : List Leaf} {k : Int} (h : Marked lo hi A B ls k) (h' : Marked lo hi B C ms (k + lvSum ls)) : Marked lo hi A C (ls ++ ms) k where
  stm := h.stm.trans h'.stm
  stb := by rw [lvBlks_append]; exact h.stb.trans h'.stb
  held := fun nd => by
    rw [lvBlks_append, List.nodup_append] at nd
    exact ((h.held nd.1).stB h'.stb fun g hg hg' => nd.2.2 g hg g hg' rfl).append (h'.held nd.2.1)
theorem Marked.le_left {lo hi : Nat} {A B C : GHeap} {ls : List Leaf} {k : Int} (h : A.Le B) (m : Marked lo hi B C ls k) : Marked lo hi A C ls k :=
  ⟨⟨Nat.le_trans h.1 m.stm.nx, fun g o hg ho => m.stm.same g o hg (h.2 g o ho), fun g o ho => m.stm.ins g o (h.2 g o ho)⟩, ⟨Nat.le_trans h.1 m.stb.nx, fun g o hg ho => m.stb.same g o hg (h.2 g o ho)⟩, m.held⟩
theorem Marked.one {lo hi g : Nat} {H H' : GHeap} {e : TypeId} {xs : List Int} {k : Int} (hlo : lo ≤ g) (hhi : g < hi) (h0 : H.get g = some (.row (ints xs) e true)) (s : St [g] H H') (h1 : H'.get g = some (.row (ints (seqL k xs.length)) e true)) (hn : xs.length ≠ 0) :
    Marked lo hi H H' [(some ⟨g, 0, none⟩, xs.length)] k where
  stm := ⟨s.nx, fun i o hi ho => s.same i o ⟨by omega, trivial⟩ ho, fun i o ho => by
    by_cases hi : i = g
    · subst hi
      rw [h0] at ho; cases ho
      exact ⟨_, h1, .inr ⟨xs, seqL k xs.length, e, rfl, rfl, by simp⟩⟩
    · exact ⟨o, s.same i o ⟨hi, trivial⟩ ho, .inl rfl⟩⟩
  stb := ⟨s.nx, fun i o hi ho => s.same i o ⟨fun e' => hi (by
    subst e'
    cases hx : xs.length with
    | zero => exact absurd hx hn
    | succ m => simp [lvBlks, lvBlk]), trivial⟩ ho⟩
  held := fun _ => ⟨.inr ⟨g, e, rfl, hlo, h1⟩, trivial⟩
def rowsL (r : Nat → Option Addr) (xss : List (List Int)) (n : Nat) : List Leaf := (List.range n).map fun i => (r i, (xss.getD i []).length)
theorem rowsL_succ (r : Nat → Option Addr) (xss : List (List Int)) (n : Nat) : rowsL r xss (n + 1) = rowsL r xss n ++ [(r n, (xss.getD n []).length)] := by simp [rowsL, List.range_succ]
theorem lvSum_rowsL (r : Nat → Option Addr) (xss : List (List Int)) : ∀ n, n ≤ xss.length → lvSum (rowsL r xss n) = sumL (xss.take n)
  | 0, _ => by simp [rowsL, lvSum, sumL]
  | n + 1, h => by rw [rowsL_succ, lvSum_append, lvSum_rowsL r xss n (by omega), sumL_take_succ (by omega)]; simp [lvSum]
def Cat.leaves (c : Cat) (p : CatP) : List Leaf := [(p.a1, c.src.length)] ++ ([(p.a2, c.tgt.length)] ++ ([(p.a3, c.idn.length)] ++ rowsL p.r c.comp c.comp.length))
theorem Cat.lvSum_leaves (c : Cat) (p : CatP) : lvSum (c.leaves p) = c.total := by
  simp only [Cat.leaves, lvSum_append, lvSum, lvSum_rowsL p.r c.comp _ (Nat.le_refl _), List.take_length, Cat.total, Nat.add_zero]
def Fun.leaves (f : Fun) (p : FunP) : List Leaf := f.s.leaves p.s ++ (f.t.leaves p.t ++ ([(p.b1, f.ob.length)] ++ [(p.b2, f.ar.length)]))
theorem Fun.lvSum_leaves (c : Fun) (p : FunP) : lvSum (c.leaves p) = c.total := by
  simp only [Fun.leaves, lvSum_append, lvSum, Cat.lvSum_leaves, Fun.total, Nat.add_zero]
theorem Con.lvSum_leaves (c : Con) (p : ConP) : lvSum (c.leaves p) = c.total := by simp [Con.leaves, lvSum, Con.total]
theorem Cat.total_le {c : Cat} (h : c.Small) : c.total ≤ 3 * 1048576 + 1048576 * 1048576 := by
  obtain ⟨h1, h2, h3, h4, h5, _⟩ := h
  have := sumL_le (m := 1048576) h5
  have h6 : c.comp.length * 1048576 ≤ 1048576 * 1048576 := Nat.mul_le_mul_right _ h4
  unfold Cat.total
  omega
theorem Marked.app' {lo hi : Nat} {A B C : GHeap} {ls ms : List Leaf} {k k' : Int} (h : Marked lo hi A B ls k) (h' : Marked lo hi B C ms k') (e : k' = k + lvSum ls) : Marked lo hi A C (ls ++ ms) k := by subst e; exact h.app h'
theorem IntsW.of_r {b : Nat} {H0 H : GHeap} {a : Option Addr} {xs : List Int} (h : IntsR b H0 a xs) (k : Keep b H0 H) : IntsW b H0.next H a xs.length := by
  rcases h with ⟨rfl, _⟩ | h
  · exact .inl rfl
  · exact .of_at h k
theorem ConW.of_r {b : Nat} {H0 H : GHeap} {c : Con} {p : ConP} (h : ConR b H0 c p) (k : Keep b H0 H) : ConW b H0.next H c p := IntsW.of_r h k
theorem IntsW.keep {lo lo' hi : Nat} {H H' : GHeap} {a : Option Addr} {n : Nat} (h : IntsW lo hi H a n) (k : Keep lo' H H') (hb : lo' ≤ lo) : IntsW lo hi H' a n := h.imp id fun ⟨g, e, xs, h1, h2, h3, h4, h5⟩ => ⟨g, e, xs, h1, h2, h3, k g _ (by omega) h4, h5⟩
theorem IntssW.keep {lo lo' hi : Nat} {H H' : GHeap} {a : Option Addr} {xss : List (List Int)} {r : Nat → Option Addr} (h : IntssW lo hi H a xss r) (k : Keep lo' H H') (hb : lo' ≤ lo) : IntssW lo hi H' a xss r := ⟨h.1.keep h.2.2 k hb, fun i hi => (h.2.1 i hi).keep k hb, h.2.2⟩
theorem CatW.keep {lo lo' hi : Nat} {H H' : GHeap} {c : Cat} {p : CatP} (h : CatW lo hi H c p) (k : Keep lo' H H') (hb : lo' ≤ lo) : CatW lo hi H' c p := ⟨h.1.keep k hb, h.2.1.keep k hb, h.2.2.1.keep k hb, h.2.2.2.keep k hb⟩
theorem FunW.keep {lo lo' hi : Nat} {H H' : GHeap} {c : Fun} {p : FunP} (h : FunW lo hi H c p) (k : Keep lo' H H') (hb : lo' ≤ lo) : FunW lo hi H' c p := ⟨h.1.keep k hb, h.2.1.keep k hb, h.2.2.1.keep k hb, h.2.2.2.keep k hb⟩
theorem ConW.keep {lo lo' hi : Nat} {H H' : GHeap} {c : Con} {p : ConP} (h : ConW lo hi H c p) (k : Keep lo' H H') (hb : lo' ≤ lo) : ConW lo hi H' c p := IntsW.keep h k hb
theorem Cat.Small.tot {c : Cat} (h : c.Small) : c.total ≤ 3 * 1048576 + 1048576 * 1048576 := Cat.total_le h
theorem Fun.Small.tot {c : Fun} (h : c.Small) : c.total ≤ 8 * 1048576 + 2 * 1048576 * 1048576 := by
  obtain ⟨h1, h2, h3, h4⟩ := h
  have := h1.tot
  have := h2.tot
  unfold Fun.total
  omega
theorem Con.Small.tot {c : Con} (h : c.Small) : c.total ≤ 1048576 := by
  obtain ⟨_, h2⟩ := h
  unfold Con.total
  omega
end Go.GL
/- Parts of set functors. No condition. -/
namespace Go.GL

def Rising (xs : List Int) : Prop := ∀ i, 1 ≤ i → i < xs.length → xs.getD (i - 1) 0 < xs.getD i 0
/-- The lists are a part of a set functor. -/
structure SFun.Part (f : SFun) (me : List (List Int)) : Prop where
  pl : me.length = f.sz.length
  rs : ∀ x, x < me.length → Rising (me.getD x []) ∧ allIn (me.getD x []) (f.sz.getD x 0) = true
  cl : ∀ a, a < f.ac.length → ∀ i, i < (me.getD (f.sh.src.getD a 0).toNat []).length → (me.getD (f.sh.tgt.getD a 0).toNat []).contains ((f.ac.getD a []).getD ((me.getD (f.sh.src.getD a 0).toNat []).getD i 0).toNat 0) = true
def BelowL (p q : List (List Int)) : Prop := ∀ x, x < p.length → ∀ i, i < (p.getD x []).length → (q.getD x []).contains ((p.getD x []).getD i 0) = true
end Go.GL
/- Marks on set functors, their maps and parts; lists of lists that are made row by row. No condition. -/
namespace Go.GL

def SFun.total (f : SFun) : Nat := f.sh.total + (f.sz.length + sumL f.ac)
def SFunW (lo hi : Nat) (H : GHeap) (f : SFun) (p : SFunP) : Prop := CatW lo hi H f.sh p.sh ∧ IntsW lo hi H p.a1 f.sz.length ∧ IntssW lo hi H p.a2 f.ac p.r2
theorem SFunW.stm {lo hi : Nat} {H H' : GHeap} {c : SFun} {p : SFunP} (h : SFunW lo hi H c p) (s : StM lo hi H H') : SFunW lo hi H' c p := ⟨h.1.stm s, h.2.1.stm s, h.2.2.stm s⟩
theorem SFunW.of_at {b : Nat} {H0 H : GHeap} {c : SFun} {p : SFunP} (h : SFunAt b H0 c p) (k : Keep b H0 H) : SFunW b H0.next H c p := ⟨.of_at h.1 k, .of_at h.2.1 k, .of_at h.2.2 k⟩
def SFun.leaves (f : SFun) (p : SFunP) : List Leaf := f.sh.leaves p.sh ++ ([(p.a1, f.sz.length)] ++ rowsL p.r2 f.ac f.ac.length)
theorem SFun.lvSum_leaves (c : SFun) (p : SFunP) : lvSum (c.leaves p) = c.total := by
  simp only [SFun.leaves, lvSum_append, lvSum, Cat.lvSum_leaves, lvSum_rowsL p.r2 c.ac _ (Nat.le_refl _), List.take_length, SFun.total, Nat.add_zero]
theorem sumL_tot {xss : List (List Int)} (h : xss.length ≤ 1048576) (h' : ∀ i, (xss.getD i []).length ≤ 1048576) : sumL xss ≤ 1048576 * 1048576 := by
  have := sumL_le (m := 1048576) h'
  have h6 : xss.length * 1048576 ≤ 1048576 * 1048576 := Nat.mul_le_mul_right _ h
  exact Nat.le_trans this h6
theorem SFun.Small.tot {c : SFun} (h : c.Small) : c.total ≤ 4 * 1048576 + 2 * 1048576 * 1048576 := by
  obtain ⟨h1, h2, h3, h4⟩ := h
  have := h1.tot
  have := sumL_tot h3 h4
  unfold SFun.total
  omega
def SMap.total (f : SMap) : Nat := f.s.total + (f.t.total + sumL f.pa)
def SMapW (lo hi : Nat) (H : GHeap) (f : SMap) (p : SMapP) : Prop := SFunW lo hi H f.s p.s ∧ SFunW lo hi H f.t p.t ∧ IntssW lo hi H p.a2 f.pa p.r2
theorem SMapW.stm {lo hi : Nat} {H H' : GHeap} {c : SMap} {p : SMapP} (h : SMapW lo hi H c p) (s : StM lo hi H H') : SMapW lo hi H' c p := ⟨h.1.stm s, h.2.1.stm s, h.2.2.stm s⟩
theorem SMapW.of_at {b : Nat} {H0 H : GHeap} {c : SMap} {p : SMapP} (h : SMapAt b H0 c p) (k : Keep b H0 H) : SMapW b H0.next H c p := ⟨.of_at h.1 k, .of_at h.2.1 k, .of_at h.2.2 k⟩
def SMap.leaves (f : SMap) (p : SMapP) : List Leaf := f.s.leaves p.s ++ (f.t.leaves p.t ++ rowsL p.r2 f.pa f.pa.length)
theorem SMap.lvSum_leaves (c : SMap) (p : SMapP) : lvSum (c.leaves p) = c.total := by
  simp only [SMap.leaves, lvSum_append, SFun.lvSum_leaves, lvSum_rowsL p.r2 c.pa _ (Nat.le_refl _), List.take_length, SMap.total]
theorem SMap.Small.tot {c : SMap} (h : c.Small) : c.total ≤ 8 * 1048576 + 5 * 1048576 * 1048576 := by
  obtain ⟨h1, h2, h3, h4⟩ := h
  have := h1.tot
  have := h2.tot
  have := sumL_tot h3 h4
  unfold SMap.total
  omega
def Prt.total (f : Prt) : Nat := sumL f.me
def PrtW (lo hi : Nat) (H : GHeap) (f : Prt) (p : PrtP) : Prop := IntssW lo hi H p.a0 f.me p.r0
theorem PrtW.stm {lo hi : Nat} {H H' : GHeap} {c : Prt} {p : PrtP} (h : PrtW lo hi H c p) (s : StM lo hi H H') : PrtW lo hi H' c p := IntssW.stm h s
theorem PrtW.keep {lo lo' hi : Nat} {H H' : GHeap} {c : Prt} {p : PrtP} (h : PrtW lo hi H c p) (k : Keep lo' H H') (hb : lo' ≤ lo) : PrtW lo hi H' c p := IntssW.keep h k hb
theorem SFunW.keep {lo lo' hi : Nat} {H H' : GHeap} {c : SFun} {p : SFunP} (h : SFunW lo hi H c p) (k : Keep lo' H H') (hb : lo' ≤ lo) : SFunW lo hi H' c p := ⟨h.1.keep k hb, h.2.1.keep k hb, h.2.2.keep k hb⟩
theorem SMapW.keep {lo lo' hi : Nat} {H H' : GHeap} {c : SMap} {p : SMapP} (h : SMapW lo hi H c p) (k : Keep lo' H H') (hb : lo' ≤ lo) : SMapW lo hi H' c p := ⟨h.1.keep k hb, h.2.1.keep k hb, h.2.2.keep k hb⟩
theorem PrtW.of_at {b : Nat} {H0 H : GHeap} {c : Prt} {p : PrtP} (h : PrtAt b H0 c p) (k : Keep b H0 H) : PrtW b H0.next H c p := IntssW.of_at h k
def Prt.leaves (f : Prt) (p : PrtP) : List Leaf := rowsL p.r0 f.me f.me.length
theorem Prt.lvSum_leaves (c : Prt) (p : PrtP) : lvSum (c.leaves p) = c.total := by
  simp only [Prt.leaves, lvSum_rowsL p.r0 c.me _ (Nat.le_refl _), List.take_length, Prt.total]
theorem Prt.Small.tot {c : Prt} (h : c.Small) : c.total ≤ 1048576 * 1048576 := sumL_tot h.1 h.2

/-! ### Lists of lists made row by row. -/
def NoTwo (xss : List (List Int)) (r : Nat → Option Addr) : Prop := (lvBlks (rowsL r xss xss.length)).Nodup
/-- A result's list of lists: none, or rows of its own, no two alike. -/
def IntssR (b : Nat) (H : GHeap) (a : Option Addr) (xss : List (List Int)) (r : Nat → Option Addr) : Prop := ((xss = [] ∧ a = none) ∨ IntssAt b H a xss r) ∧ NoTwo xss r
theorem IntssR.keep {b b' : Nat} {H H' : GHeap} {a : Option Addr} {xs : List (List Int)} {r : Nat → Option Addr} (h : IntssR b H a xs r) (k : Keep b' H H') (hb : b' ≤ b) : IntssR b' H' a xs r := ⟨h.1.imp id fun h => h.keep k hb, h.2⟩
theorem IntssR.intss {b : Nat} {H : GHeap} {a : Option Addr} {xs : List (List Int)} {r : Nat → Option Addr} (h : IntssR b H a xs r) : Intss H a xs r := by
  rcases h.1 with ⟨rfl, rfl⟩ | h
  · exact ⟨.inl rfl, fun i hi => by simp at hi⟩
  · exact h.intss
theorem IntssR.nil (b : Nat) (H : GHeap) (r : Nat → Option Addr) : IntssR b H none [] r := ⟨.inl ⟨rfl, rfl⟩, by simp [NoTwo, lvBlks, rowsL]⟩
def NewIntssR (H : GHeap) (xs : List (List Int)) (v : Value) (H' : GHeap) : Prop := H.Le H' ∧ ∃ a r, v = .slice a xs.length xs.length ∧ IntssR H.next H' a xs r
def PrtR (b : Nat) (H : GHeap) (c : Prt) (p : PrtP) : Prop := IntssR b H p.a0 c.me p.r0
theorem PrtR.keep {b b' : Nat} {H H' : GHeap} {c : Prt} {p : PrtP} (h : PrtR b H c p) (k : Keep b' H H') (hb : b' ≤ b) : PrtR b' H' c p := IntssR.keep h k hb
theorem PrtR.inn {b : Nat} {H : GHeap} {c : Prt} {p : PrtP} (h : PrtR b H c p) : c.In H p := IntssR.intss h
theorem PrtR.nodup {b : Nat} {H : GHeap} {c : Prt} {p : PrtP} (h : PrtR b H c p) : (lvBlks (c.leaves p)).Nodup := h.2
theorem IntssW.of_r {b : Nat} {H0 H : GHeap} {a : Option Addr} {xs : List (List Int)} {r : Nat → Option Addr} (h : IntssR b H0 a xs r) (k : Keep b H0 H) : IntssW b H0.next H a xs r := by
  rcases h.1 with ⟨rfl, rfl⟩ | h
  · exact ⟨.inl rfl, fun i hi => by simp at hi, .inl rfl⟩
  · exact .of_at h k
theorem PrtW.of_r {b : Nat} {H0 H : GHeap} {c : Prt} {p : PrtP} (h : PrtR b H0 c p) (k : Keep b H0 H) : PrtW b H0.next H c p := IntssW.of_r h k

def slsOf (r : Nat → Option Addr) (X : Nat → List Int) (k : Nat) : List Value := (List.range k).map fun i => .slice (r i) (X i).length (X i).length
@[simp] theorem length_slsOf (r : Nat → Option Addr) (X : Nat → List Int) (k : Nat) : (slsOf r X k).length = k := by simp [slsOf]
def upd (r : Nat → Option Addr) (k : Nat) (a : Option Addr) : Nat → Option Addr := fun i => if i = k then a else r i
theorem upd_eq (r : Nat → Option Addr) (k : Nat) (a : Option Addr) : upd r k a k = a := by simp [upd]
theorem upd_ne {r : Nat → Option Addr} {k i : Nat} {a : Option Addr} (h : i ≠ k) : upd r k a i = r i := by simp [upd, h]
theorem slsOf_succ {r : Nat → Option Addr} {X : Nat → List Int} {k : Nat} {a : Option Addr} : slsOf (upd r k a) X (k + 1) = slsOf r X k ++ [.slice a (X k).length (X k).length] := by
  unfold slsOf
  rw [List.range_succ, List.map_append]
  congr 1
  · refine List.map_congr_left fun i hi => ?_
    rw [upd_ne (by have := List.mem_range.1 hi; omega)]
  · simp [upd_eq]
structure OwnRows (b : Nat) (H : GHeap) (e : TypeId) (r : Nat → Option Addr) (X : Nat → List Int) (k : Nat) : Prop where
  row : ∀ i, i < k → ∃ g, r i = some ⟨g, 0, none⟩ ∧ b ≤ g ∧ H.get g = some (.row (ints (X i)) e true)
  inj : ∀ i j, i < k → j < k → r i = r j → i = j
theorem OwnRows.zero (b : Nat) (H : GHeap) (e : TypeId) (r : Nat → Option Addr) (X : Nat → List Int) : OwnRows b H e r X 0 := ⟨fun i hi => by omega, fun i j hi => by omega⟩
/-- Rows of numbers of type e live on. -/
def Lasts (e : TypeId) (H H' : GHeap) : Prop := ∀ x xs, H.get x = some (.row (ints xs) e true) → H'.get x = some (.row (ints xs) e true)
theorem St.lasts1 {g0 : Nat} {H H' : GHeap} {e e' : TypeId} {cs : List Value} (s : St [g0] H H') (h0 : H.get g0 = some (.row cs e' true)) (hne : (e != e') = true) : Lasts e H H' := fun x xs hx => by
  simp only [bne_iff_ne, ne_eq] at hne
  refine s.same x _ ⟨fun ex => ?_, trivial⟩ hx
  subst ex
  rw [h0] at hx
  cases hx
  exact hne rfl
theorem St.lasts2 {g0 g1 : Nat} {H H' : GHeap} {e e' e'' : TypeId} {cs ds : List Value} (s : St [g0, g1] H H') (h0 : H.get g0 = some (.row cs e' true)) (hne : (e != e') = true) (h1 : H.next ≤ g1 ∨ H.get g1 = some (.row ds e'' true)) (hne' : (e != e'') = true) : Lasts e H H' := fun x xs hx => by
  simp only [bne_iff_ne, ne_eq] at hne hne'
  refine s.same x _ ⟨fun ex => ?_, fun ex => ?_, trivial⟩ hx
  · subst ex
    rw [h0] at hx
    cases hx
    exact hne rfl
  · subst ex
    rcases h1 with h1 | h1
    · have := GHeap.lt_of_get hx
      omega
    · rw [h1] at hx
      cases hx
      exact hne' rfl
theorem OwnRows.keep {b k : Nat} {H H' : GHeap} {e : TypeId} {r : Nat → Option Addr} {X : Nat → List Int} (h : OwnRows b H e r X k) (s : Lasts e H H') : OwnRows b H' e r X k := ⟨fun i hi => by
  obtain ⟨x, h1, h2, h3⟩ := h.row i hi
  exact ⟨x, h1, h2, s x _ h3⟩, h.inj⟩
theorem OwnRows.succ' {b g k : Nat} {H H' : GHeap} {e : TypeId} {r : Nat → Option Addr} {X : Nat → List Int} (h : OwnRows b H e r X k) (s : Lasts e H H')
    (hg : H'.get g = some (.row (ints (X k)) e true)) (hn : H.next ≤ g) (hb : b ≤ g) : OwnRows b H' e (upd r k (some ⟨g, 0, none⟩)) X (k + 1) := by
  refine ⟨fun i hi => ?_, fun i j hi hj hij => ?_⟩
  · by_cases ek : i = k
    · subst ek; exact ⟨g, upd_eq _ _ _, hb, hg⟩
    · obtain ⟨x, h1, h2, h3⟩ := h.row i (by omega)
      exact ⟨x, by rw [upd_ne ek]; exact h1, h2, s x _ h3⟩
  · by_cases ei : i = k
    · by_cases ej : j = k
      · omega
      · subst ei
        rw [upd_eq, upd_ne ej] at hij
        obtain ⟨x, h1, _, h3⟩ := h.row j (by omega)
        rw [h1] at hij
        cases hij
        have := GHeap.lt_of_get h3
        omega
    · by_cases ej : j = k
      · subst ej
        rw [upd_eq, upd_ne ei] at hij
        obtain ⟨x, h1, _, h3⟩ := h.row i (by omega)
        rw [h1] at hij
        cases hij
        have := GHeap.lt_of_get h3
        omega
      · rw [upd_ne ei, upd_ne ej] at hij
        exact h.inj i j (by omega) (by omega) hij
theorem OwnRows.succ {b g g0 k : Nat} {H H' : GHeap} {e e' : TypeId} {r : Nat → Option Addr} {X : Nat → List Int} {cs : List Value} (h : OwnRows b H e r X k) (s : St [g0] H H') (h0 : H.get g0 = some (.row cs e' true)) (hne : (e != e') = true)
    (hg : H'.get g = some (.row (ints (X k)) e true)) (hn : H.next ≤ g) (hb : b ≤ g) : OwnRows b H' e (upd r k (some ⟨g, 0, none⟩)) X (k + 1) := h.succ' (s.lasts1 h0 hne) hg hn hb
theorem mem_lvBlk {g n x : Nat} (h : x ∈ lvBlk (some ⟨g, 0, none⟩, n)) : x = g := by
  cases n with
  | zero => simp [lvBlk] at h
  | succ n => simpa [lvBlk] using h
theorem lvBlks_rowsL {r : Nat → Option Addr} {xss : List (List Int)} (hr : ∀ i, i < xss.length → ∃ g, r i = some ⟨g, 0, none⟩) (hi : ∀ i j, i < xss.length → j < xss.length → r i = r j → i = j) : ∀ {n}, n ≤ xss.length →
    (lvBlks (rowsL r xss n)).Nodup ∧ ∀ g ∈ lvBlks (rowsL r xss n), ∃ i, i < n ∧ r i = some ⟨g, 0, none⟩
  | 0, _ => by simp [rowsL, lvBlks]
  | n + 1, hn => by
    obtain ⟨h1, h2⟩ := lvBlks_rowsL hr hi (n := n) (by omega)
    obtain ⟨g, hg⟩ := hr n (by omega)
    have h3 : ∀ x ∈ lvBlk (r n, (xss.getD n []).length), x = g := fun x hx => by rw [hg] at hx; exact mem_lvBlk hx
    have h4 : (lvBlk (r n, (xss.getD n []).length)).Nodup := by unfold lvBlk; split <;> simp
    have e1 : lvBlks (rowsL r xss (n + 1)) = lvBlks (rowsL r xss n) ++ lvBlk (r n, (xss.getD n []).length) := by rw [rowsL_succ, lvBlks_append]; simp [lvBlks]
    rw [e1]
    refine ⟨List.nodup_append.2 ⟨h1, h4, fun x hx y hy hxy => ?_⟩, fun x hx => ?_⟩
    · obtain ⟨i, i1, i2⟩ := h2 x hx
      have := h3 y hy
      subst hxy this
      have := hi i n (by omega) (by omega) (by rw [i2, hg])
      omega
    · rcases List.mem_append.1 hx with hx | hx
      · obtain ⟨i, i1, i2⟩ := h2 x hx
        exact ⟨i, by omega, i2⟩
      · exact ⟨n, by omega, by rw [h3 x hx]; exact hg⟩
def rowsOf (X : Nat → List Int) (n : Nat) : List (List Int) := (List.range n).map X
@[simp] theorem length_rowsOf (X : Nat → List Int) (n : Nat) : (rowsOf X n).length = n := by simp [rowsOf]
theorem rowsOf_get {X : Nat → List Int} {n i : Nat} (h : i < n) : (rowsOf X n).getD i [] = X i := by simp [rowsOf, List.getD_eq_getElem?_getD, h]
theorem OwnRows.done {b g n : Nat} {H : GHeap} {e e' : TypeId} {r : Nat → Option Addr} {X : Nat → List Int} (h : OwnRows b H e r X n) (hg : H.get g = some (.row (slsOf r X n) e' true)) (hb : b ≤ g) : IntssR b H (some ⟨g, 0, none⟩) (rowsOf X n) r := by
  refine ⟨.inr ⟨g, e', slsOf r X n, rfl, hb, hg, by simp, fun i hi => ?_, fun i hi => ?_⟩, ?_⟩
  · rw [length_rowsOf] at hi
    rw [rowsOf_get hi]
    simp [slsOf, hi]
  · rw [length_rowsOf] at hi
    rw [rowsOf_get hi]
    obtain ⟨x, h1, h2, h3⟩ := h.row i hi
    exact ⟨x, e, h1, h2, h3⟩
  · exact (lvBlks_rowsL (fun i hi => by rw [length_rowsOf] at hi; obtain ⟨x, h1, _⟩ := h.row i hi; exact ⟨x, h1⟩) (fun i j hi hj => by rw [length_rowsOf] at hi hj; exact h.inj i j hi hj) (Nat.le_refl _)).1

/-- A list that is nil as long as it is empty. -/
def NilOr (b : Nat) (H : GHeap) (a : Option Addr) (g : Nat) (cs : List Value) (e : TypeId) (k : Nat) : Prop := (a = none ∧ k = 0) ∨ (a = some ⟨g, 0, none⟩ ∧ 0 < k ∧ b ≤ g ∧ H.get g = some (.row cs e true))
theorem NilOr.st {b g g0 k : Nat} {H H' : GHeap} {a : Option Addr} {cs : List Value} {e : TypeId} (h : NilOr b H a g cs e k) (s : St [g0] H H') (hn : g0 < b) : NilOr b H' a g cs e k := h.imp id fun ⟨h1, h0, h2, h3⟩ => ⟨h1, h0, h2, s.same g _ ⟨by omega, trivial⟩ h3⟩
theorem Lasts.trans {e : TypeId} {A B C : GHeap} (h : Lasts e A B) (h' : Lasts e B C) : Lasts e A C := fun x xs hx => h' x xs (h x xs hx)
theorem St.lastsA {g : Nat} {H H' : GHeap} {e e' : TypeId} (s : St [g] H H') (h : H.next ≤ g ∨ ∃ cs, H.get g = some (.row cs e' true)) (hne : (e != e') = true) : Lasts e H H' := fun x xs hx => by
  simp only [bne_iff_ne, ne_eq] at hne
  refine s.same x _ ⟨fun ex => ?_, trivial⟩ hx
  subst ex
  rcases h with h | ⟨cs, h⟩
  · have := GHeap.lt_of_get hx
    omega
  · rw [h] at hx
    cases hx
    exact hne rfl
/-- Where an append writes: a block of its own, or none yet. -/
theorem NilOr.where_ {b g k n : Nat} {H0 H : GHeap} {a : Option Addr} {cs : List Value} {e : TypeId} (h : NilOr b H a g cs e k) (h0 : NilOr b H0 a g cs e k) (hn : H0.next ≤ n) (hb : b ≤ n) (hnn : n ≤ H.next) :
    ∃ gA, (k = 0 ∨ gA = g) ∧ (H.next ≤ gA ∨ ∃ cs, H.get gA = some (.row cs e true)) ∧ b ≤ gA ∧ (gA < n ∨ H.next ≤ gA) := by
  rcases h with ⟨_, hk⟩ | ⟨_, _, h1, h2⟩
  · exact ⟨H.next, .inl hk, .inl (Nat.le_refl _), by omega, .inr (Nat.le_refl _)⟩
  · rcases h0 with ⟨_, hk⟩ | ⟨_, _, _, k2⟩
    · omega
    · exact ⟨g, .inr rfl, .inr ⟨_, h2⟩, h1, .inl (by have := GHeap.lt_of_get k2; omega)⟩
theorem OwnRows.done' {b b' g n : Nat} {a : Option Addr} {H : GHeap} {e e' : TypeId} {r : Nat → Option Addr} {X : Nat → List Int} (h : OwnRows b H e r X n) (hA : NilOr b' H a g (slsOf r X n) e' n) (hb : b ≤ b') : IntssR b H a (rowsOf X n) r := by
  rcases hA with ⟨rfl, rfl⟩ | ⟨rfl, _, h1, h2⟩
  · exact .nil _ _ _
  · exact h.done h2 (by omega)
section
variable {P : Program} {o : Oper} {fr : Slots} {H : GHeap}
theorem CDo.appendVN {t tx e e' : TypeId} {s x : Operand} {a : Option Addr} {b g gB g1 n sz bytes : Nat} {z cs vs : List Value} (ho : o.op = .call { callee := .builtin .append, args := #[s, x], argTypes := #[t, tx] }) (ht : sliceT P t = some (e, sz)) (hz : zeroT P e = some (z, sz)) (hzn : z.length = sz)
    (hb : (P.info? e).map (·.bytes) = some bytes) (htx : sliceT P tx = some (e', sz)) (hsv : ev fr s = some (.slice a n n)) (hx : ev fr x = some (.slice (some ⟨g1, 0, none⟩) 1 1)) (hA : NilOr b H a gB cs e n) (hAg : n = 0 ∨ g = gB) (hg1 : H.get g1 = some (.row vs e' true)) (hend : n * sz = cs.length)
    (hs0 : 0 < sz) (hv : vs.length = sz) (hone : vs.all (·.oneCell') = true) (hN : n + 1 ≤ 16777216) (hB : (n + 1) * bytes ≤ 140737488355328) :
    CDo P o fr H (fun r H' => ∃ g', r = some (.slice (some ⟨g', 0, none⟩) (n + 1) (n + 1)) ∧ St [g] H H' ∧ H.next ≤ g' ∧ H'.get g' = some (.row (cs ++ vs) e true)) := by
  have hsrc : SrcG P fr H sz tx x 1 vs := .slice htx hx (by omega) (fun i v hv => by rw [GHeap.cell_of hg1, Nat.zero_add]; exact hv) (fun v hv => List.all_eq_true.1 hone v hv)
  rcases hA with ⟨rfl, rfl⟩ | ⟨rfl, h0, h1, h2⟩
  · obtain rfl : cs = [] := List.eq_nil_of_length_eq_zero (by omega)
    exact .appendNil ho ht hz hzn hb hsv hsrc (by omega) (by unfold maxLen; omega) (by omega) ⟨_, rfl, .push (.refl _ _), Nat.le_refl _, GHeap.get_push_new _ _⟩
  · obtain rfl : g = gB := by
      rcases hAg with h | h
      · omega
      · exact h
    exact .appendR (cs := cs) (news := vs) ho ht hz hzn hb hsv h2 (by omega) hsrc hN hB
end
/-- Row x of a part drawn back along a map: the elements whose images lie in it. -/
def SMap.backX (m : SMap) (me : List (List Int)) (x : Nat) : List Int := filtN (m.pa.getD x []).length fun e => (me.getD x []).contains ((m.pa.getD x []).getD e 0)
def SMap.backR (m : SMap) (me : List (List Int)) : List (List Int) := rowsOf (m.backX me) m.pa.length
noncomputable def SMap.back (m : SMap) (me : List (List Int)) : Prt := ⟨bif B (m.Is ∧ m.t.Part me) then m.backR me else []⟩
noncomputable def SMap.backC (m : SMap) (me : List (List Int)) : Int := bif B (m.Is ∧ m.t.Part me) then 0 else 1
theorem SMap.back_not {m : SMap} {me : List (List Int)} (h : ¬ (m.Is ∧ m.t.Part me)) : m.back me = ⟨[]⟩ ∧ m.backC me = 1 := by unfold SMap.back SMap.backC; rw [B_false h]; exact ⟨rfl, rfl⟩
theorem SMap.back_ok {m : SMap} {me : List (List Int)} (h : m.Is ∧ m.t.Part me) : m.back me = ⟨m.backR me⟩ ∧ m.backC me = 0 := by unfold SMap.back SMap.backC; rw [B_true h]; exact ⟨rfl, rfl⟩
/-- The part whose row x holds the elements that Y says. -/
def SFun.pick (f : SFun) (Y : Nat → Nat → Bool) : Prt := ⟨rowsOf (fun x => filtN (f.sz.getD x 0).toNat (Y x)) f.sz.length⟩
theorem rowsOf_congr {X Y : Nat → List Int} {n : Nat} (h : ∀ i, i < n → X i = Y i) : rowsOf X n = rowsOf Y n := List.map_congr_left fun i hi => h i (List.mem_range.1 hi)
theorem SMap.pick_eq {m : SMap} {me : List (List Int)} (h : m.Fits) : m.s.pick (fun x e => (me.getD x []).contains ((m.pa.getD x []).getD e 0)) = ⟨m.backR me⟩ := by
  unfold SFun.pick SMap.backR
  rw [← h.pl]
  refine congrArg Prt.mk (rowsOf_congr fun i hi => ?_)
  have := (h.pa i hi).1
  unfold SMap.backX
  rw [← this, Int.toNat_natCast]
theorem SMap.back_small {m : SMap} {me : List (List Int)} (hs : m.Small) : (m.back me).Small := by
  obtain ⟨_, _, h3, h4⟩ := hs
  by_cases h : m.Is ∧ m.t.Part me
  · rw [(SMap.back_ok h).1]
    refine ⟨by simp only [SMap.backR, length_rowsOf]; omega, fun i => ?_⟩
    by_cases hi : i < m.pa.length
    · simp only [SMap.backR]
      rw [rowsOf_get hi]
      exact Nat.le_trans (filtN_le _ _) (h4 i)
    · simp only [SMap.backR]
      rw [List.getD_eq_getElem?_getD, List.getElem?_eq_none (by rw [length_rowsOf]; omega)]
      simp
  · rw [(SMap.back_not h).1]
    exact ⟨by simp, fun i => by simp⟩
end Go.GL
/- Lists of lists that grow row by row; lists made in two nested loops. No condition. -/
namespace Go.GL
def slsL (r : Nat → Option Addr) (xss : List (List Int)) : List Value := slsOf r (fun i => xss.getD i []) xss.length
@[simp] theorem length_slsL (r : Nat → Option Addr) (xss : List (List Int)) : (slsL r xss).length = xss.length := by simp [slsL]
theorem slsOf_congr {r : Nat → Option Addr} {X Y : Nat → List Int} {k : Nat} (h : ∀ i, i < k → X i = Y i) : slsOf r X k = slsOf r Y k := List.map_congr_left fun i hi => by rw [h i (List.mem_range.1 hi)]
theorem getD_snoc {α : Type} {xs : List α} {x d : α} {i : Nat} : (xs ++ [x]).getD i d = if i < xs.length then xs.getD i d else if i = xs.length then x else d := by
  rw [List.getD_eq_getElem?_getD, List.getD_eq_getElem?_getD]
  by_cases h : i < xs.length
  · rw [if_pos h, List.getElem?_append_left h]
  · rw [if_neg h, List.getElem?_append_right (by omega)]
    by_cases e : i = xs.length
    · subst e; simp
    · rw [if_neg e, List.getElem?_eq_none (by simp; omega)]; rfl
theorem slsL_snoc {r : Nat → Option Addr} {xss : List (List Int)} {x : List Int} {a : Option Addr} : slsL (upd r xss.length a) (xss ++ [x]) = slsL r xss ++ [.slice a x.length x.length] := by
  unfold slsL
  rw [List.length_append, List.length_singleton]
  rw [slsOf_succ]
  congr 1
  · refine slsOf_congr fun i hi => ?_
    rw [getD_snoc, if_pos hi]
  · rw [getD_snoc, if_neg (by omega), if_pos rfl]
/-- Rows of their own, no two alike. -/
def OwnL (b : Nat) (H : GHeap) (e : TypeId) (r : Nat → Option Addr) (xss : List (List Int)) : Prop := OwnRows b H e r (fun i => xss.getD i []) xss.length
theorem OwnL.nil (b : Nat) (H : GHeap) (e : TypeId) (r : Nat → Option Addr) : OwnL b H e r [] := OwnRows.zero _ _ _ _ _
theorem OwnRows.congr {b : Nat} {H : GHeap} {e : TypeId} {r : Nat → Option Addr} {X Y : Nat → List Int} {k : Nat} (h : OwnRows b H e r X k) (hx : ∀ i, i < k → X i = Y i) : OwnRows b H e r Y k := ⟨fun i hi => by rw [← hx i hi]; exact h.row i hi, h.inj⟩
theorem OwnL.snoc {b g : Nat} {H H' : GHeap} {e : TypeId} {r : Nat → Option Addr} {xss : List (List Int)} {x : List Int} (h : OwnL b H e r xss) (s : Lasts e H H') (hg : H'.get g = some (.row (ints x) e true)) (hn : H.next ≤ g) (hb : b ≤ g) : OwnL b H' e (upd r xss.length (some ⟨g, 0, none⟩)) (xss ++ [x]) := by
  unfold OwnL at h ⊢
  rw [List.length_append, List.length_singleton]
  have h' : OwnRows b H e r (fun i => (xss ++ [x]).getD i []) xss.length := h.congr fun i hi => by rw [getD_snoc, if_pos hi]
  exact h'.succ' s (by rw [getD_snoc, if_neg (by omega), if_pos rfl]; exact hg) hn hb
theorem OwnL.keep {b : Nat} {H H' : GHeap} {e : TypeId} {r : Nat → Option Addr} {xss : List (List Int)} (h : OwnL b H e r xss) (s : Lasts e H H') : OwnL b H' e r xss := OwnRows.keep h s
theorem rowsOf_self (xss : List (List Int)) : rowsOf (fun i => xss.getD i []) xss.length = xss := by
  apply List.ext_getElem (by simp)
  intro i h1 h2
  simp only [rowsOf, List.getElem_map, List.getElem_range, List.getD_eq_getElem?_getD, List.getElem?_eq_getElem h2, Option.getD_some]
theorem OwnL.done {b g : Nat} {H : GHeap} {e e' : TypeId} {r : Nat → Option Addr} {xss : List (List Int)} (h : OwnL b H e r xss) (hg : H.get g = some (.row (slsL r xss) e' true)) (hb : b ≤ g) : IntssR b H (some ⟨g, 0, none⟩) xss r := by
  have := OwnRows.done (X := fun i => xss.getD i []) h hg hb
  rwa [rowsOf_self] at this
theorem OwnL.intss {b g : Nat} {H : GHeap} {e e' : TypeId} {r : Nat → Option Addr} {xss : List (List Int)} (h : OwnL b H e r xss) (hg : H.get g = some (.row (slsL r xss) e' true)) (hb : b ≤ g) : Intss H (some ⟨g, 0, none⟩) xss r := (h.done hg hb).intss
theorem IntsR.nodup {a : Option Addr} {n : Nat} : (lvBlks [(a, n)]).Nodup := by
  simp only [lvBlks, List.flatMap_cons, List.flatMap_nil, List.append_nil]
  unfold lvBlk
  split <;> simp
theorem IntsR.of_at {b : Nat} {H : GHeap} {g : Nat} {e : TypeId} {xs : List Int} (h : H.get g = some (.row (Go.GL.ints xs) e true)) (hb : b ≤ g) : IntsR b H (some ⟨g, 0, none⟩) xs := .inr ⟨g, e, rfl, hb, h⟩

/-- The rows of two nested loops, up to (k, t). -/
def nestL {α : Type} (pr : Nat → Nat → α) (sz : Nat → Nat) (k t : Nat) : List α := (List.range k).flatMap (fun a => (List.range (sz a)).map (pr a)) ++ (List.range t).map (pr k)
theorem nestL_zero {α : Type} (pr : Nat → Nat → α) (sz : Nat → Nat) : nestL pr sz 0 0 = [] := rfl
theorem nestL_snoc {α : Type} {pr : Nat → Nat → α} {sz : Nat → Nat} {k t : Nat} : nestL pr sz k (t + 1) = nestL pr sz k t ++ [pr k t] := by
  unfold nestL
  rw [List.range_succ, List.map_append, ← List.append_assoc]
  rfl
theorem nestL_next {α : Type} {pr : Nat → Nat → α} {sz : Nat → Nat} {k : Nat} : nestL pr sz (k + 1) 0 = nestL pr sz k (sz k) := by
  unfold nestL
  rw [List.range_succ, List.flatMap_append]
  simp
theorem nestL_mem {α : Type} {pr : Nat → Nat → α} {sz : Nat → Nat} {k : Nat} {x : α} (h : x ∈ nestL pr sz k 0) : ∃ a t, a < k ∧ t < sz a ∧ x = pr a t := by
  simp only [nestL, List.range_zero, List.map_nil, List.append_nil, List.mem_flatMap, List.mem_range, List.mem_map] at h
  obtain ⟨a, ha, t, ht, e⟩ := h
  exact ⟨a, t, ha, ht, e.symm⟩
theorem nestL_length {α : Type} {pr : Nat → Nat → α} {sz : Nat → Nat} {c : Nat} : ∀ {k}, (∀ a, a < k → sz a ≤ c) → (nestL pr sz k 0).length ≤ k * c
  | 0, _ => by simp [nestL]
  | k + 1, h => by
    have ih := nestL_length (pr := pr) (sz := sz) (c := c) (k := k) fun a ha => h a (by omega)
    have := h k (by omega)
    rw [nestL_next]
    simp only [nestL, List.length_append, List.length_map, List.length_range, List.range_zero, List.map_nil, List.append_nil] at ih ⊢
    rw [Nat.add_mul]
    omega
theorem nestL_le {α : Type} {pr : Nat → Nat → α} {sz : Nat → Nat} {c k t n : Nat} (h : ∀ a, a < n → sz a ≤ c) (hk : k < n) (ht : t ≤ sz k) : (nestL pr sz k t).length ≤ n * c := by
  have h1 := nestL_length (pr := pr) (sz := sz) (c := c) (k := k) fun a ha => h a (by omega)
  have h2 := h k hk
  have h3 : (k + 1) * c ≤ n * c := Nat.mul_le_mul_right _ hk
  rw [Nat.add_mul] at h3
  simp only [nestL, List.length_append, List.length_map, List.length_range, List.range_zero, List.map_nil, List.append_nil] at h1 ⊢
  omega
theorem nestL_map {α β : Type} (f : α → β) (pr : Nat → Nat → α) (sz : Nat → Nat) (k t : Nat) : (nestL pr sz k t).map f = nestL (fun a i => f (pr a i)) sz k t := by
  simp [nestL, List.map_flatMap, Function.comp_def]
/-- The rows of three nested loops, up to (k, t, u). -/
def nest3 {α : Type} (pr : Nat → Nat → Nat → α) (s1 : Nat → Nat) (s2 : Nat → Nat → Nat) (k t u : Nat) : List α := (List.range k).flatMap (fun a => nestL (pr a) (s2 a) (s1 a) 0) ++ nestL (pr k) (s2 k) t u
theorem nest3_zero {α : Type} (pr : Nat → Nat → Nat → α) (s1 : Nat → Nat) (s2 : Nat → Nat → Nat) : nest3 pr s1 s2 0 0 0 = [] := rfl
theorem nest3_snoc {α : Type} {pr : Nat → Nat → Nat → α} {s1 : Nat → Nat} {s2 : Nat → Nat → Nat} {k t u : Nat} : nest3 pr s1 s2 k t (u + 1) = nest3 pr s1 s2 k t u ++ [pr k t u] := by
  unfold nest3
  rw [nestL_snoc, List.append_assoc]
theorem nest3_next2 {α : Type} {pr : Nat → Nat → Nat → α} {s1 : Nat → Nat} {s2 : Nat → Nat → Nat} {k t : Nat} : nest3 pr s1 s2 k (t + 1) 0 = nest3 pr s1 s2 k t (s2 k t) := by
  unfold nest3
  rw [nestL_next]
theorem nest3_next1 {α : Type} {pr : Nat → Nat → Nat → α} {s1 : Nat → Nat} {s2 : Nat → Nat → Nat} {k : Nat} : nest3 pr s1 s2 (k + 1) 0 0 = nest3 pr s1 s2 k (s1 k) 0 := by
  unfold nest3
  rw [List.range_succ, List.flatMap_append]
  simp [nestL_zero]
theorem nest3_mem {α : Type} {pr : Nat → Nat → Nat → α} {s1 : Nat → Nat} {s2 : Nat → Nat → Nat} {k : Nat} {x : α} (h : x ∈ nest3 pr s1 s2 k 0 0) : ∃ a b t, a < k ∧ b < s1 a ∧ t < s2 a b ∧ x = pr a b t := by
  unfold nest3 at h
  rw [nestL_zero, List.append_nil, List.mem_flatMap] at h
  obtain ⟨a, ha, hx⟩ := h
  obtain ⟨b, t, hb, ht, e⟩ := nestL_mem hx
  exact ⟨a, b, t, List.mem_range.1 ha, hb, ht, e⟩
theorem flatMap_len {α : Type} {f : Nat → List α} {c : Nat} : ∀ {k}, (∀ a, a < k → (f a).length ≤ c) → ((List.range k).flatMap f).length ≤ k * c
  | 0, _ => by simp
  | k + 1, h => by
    have ih := flatMap_len (f := f) (c := c) (k := k) fun a ha => h a (by omega)
    have := h k (by omega)
    rw [List.range_succ, List.flatMap_append, List.length_append, Nat.add_mul]
    simp only [List.flatMap_cons, List.flatMap_nil, List.append_nil]
    omega
theorem nest3_le {α : Type} {pr : Nat → Nat → Nat → α} {s1 : Nat → Nat} {s2 : Nat → Nat → Nat} {c d k t u n : Nat} (h1 : ∀ a, a < n → s1 a ≤ d) (h2 : ∀ a, a < n → ∀ b, b < s1 a → s2 a b ≤ c) (hk : k < n) (ht : t < s1 k) (hu : u ≤ s2 k t) : (nest3 pr s1 s2 k t u).length ≤ n * (d * c) := by
  unfold nest3
  rw [List.length_append]
  have q1 := flatMap_len (f := fun a => nestL (pr a) (s2 a) (s1 a) 0) (c := d * c) (k := k) fun a ha => by
    have r1 := nestL_length (pr := pr a) (sz := s2 a) (c := c) (k := s1 a) fun b hb => h2 a (by omega) b hb
    exact Nat.le_trans r1 (Nat.mul_le_mul_right _ (h1 a (by omega)))
  have q2 := nestL_le (pr := pr k) (sz := s2 k) (c := c) (k := t) (t := u) (n := s1 k) (fun b hb => h2 k hk b hb) ht hu
  have q3 : s1 k * c ≤ d * c := Nat.mul_le_mul_right _ (h1 k hk)
  have q4 : (k + 1) * (d * c) ≤ n * (d * c) := Nat.mul_le_mul_right _ hk
  rw [Nat.add_mul] at q4
  omega
theorem nest3_all {α : Type} {pr : Nat → Nat → Nat → α} {s1 : Nat → Nat} {s2 : Nat → Nat → Nat} {c d n : Nat} (h1 : ∀ a, a < n → s1 a ≤ d) (h2 : ∀ a, a < n → ∀ b, b < s1 a → s2 a b ≤ c) : (nest3 pr s1 s2 n 0 0).length ≤ n * (d * c) := by
  unfold nest3
  rw [nestL_zero, List.append_nil]
  exact flatMap_len fun a ha => by
    have r1 := nestL_length (pr := pr a) (sz := s2 a) (c := c) (k := s1 a) fun b hb => h2 a ha b hb
    exact Nat.le_trans r1 (Nat.mul_le_mul_right _ (h1 a ha))
theorem getD_mem_list {α : Type} {xs : List α} {d : α} {i : Nat} (h : i < xs.length) : xs.getD i d ∈ xs := by
  rw [List.getD_eq_getElem?_getD, List.getElem?_eq_getElem h]
  exact List.getElem_mem h

/-! ### Categories as results. -/
def CatR (b : Nat) (H : GHeap) (c : Cat) (p : CatP) : Prop := (IntsR b H p.a1 c.src ∧ IntsR b H p.a2 c.tgt ∧ IntsR b H p.a3 c.idn ∧ IntssR b H p.a4 c.comp p.r) ∧ (lvBlks (c.leaves p)).Nodup
theorem CatR.keep {b b' : Nat} {H H' : GHeap} {c : Cat} {p : CatP} (h : CatR b H c p) (k : Keep b' H H') (hb : b' ≤ b) : CatR b' H' c p := ⟨⟨h.1.1.keep k hb, h.1.2.1.keep k hb, h.1.2.2.1.keep k hb, h.1.2.2.2.keep k hb⟩, h.2⟩
theorem CatR.inn {b : Nat} {H : GHeap} {c : Cat} {p : CatP} (h : CatR b H c p) : c.In H p := ⟨h.1.1.ints, h.1.2.1.ints, h.1.2.2.1.ints, h.1.2.2.2.intss⟩
theorem CatW.of_r {b : Nat} {H0 H : GHeap} {c : Cat} {p : CatP} (h : CatR b H0 c p) (k : Keep b H0 H) : CatW b H0.next H c p := ⟨.of_r h.1.1 k, .of_r h.1.2.1 k, .of_r h.1.2.2.1 k, .of_r h.1.2.2.2 k⟩
def Cat.zero : Cat := ⟨0, [], [], [], []⟩
def CatP.zero : CatP := ⟨none, none, none, none, fun _ => none⟩
theorem CatR.zero (b : Nat) (H : GHeap) : CatR b H .zero .zero := ⟨⟨.inl ⟨rfl, rfl⟩, .inl ⟨rfl, rfl⟩, .inl ⟨rfl, rfl⟩, .nil _ _ _⟩, by simp [Cat.leaves, Cat.zero, CatP.zero, lvBlks, lvBlk, rowsL]⟩
theorem mem_lvBlk1 {a : Option Addr} {n x : Nat} (h : x ∈ lvBlk (a, n)) : ∃ o s, a = some ⟨x, o, s⟩ := by
  unfold lvBlk at h
  split at h
  · rename_i a' m e
    cases e
    rw [List.mem_singleton] at h
    subst h
    exact ⟨_, _, rfl⟩
  · cases h
theorem lvBlk_nodup (l : Leaf) : (lvBlk l).Nodup := by unfold lvBlk; split <;> simp
/-- A category whose lists lie in rows of their own. -/
theorem CatR.mk {b : Nat} {H : GHeap} {c : Cat} {p : CatP} (h1 : IntsR b H p.a1 c.src) (h2 : IntsR b H p.a2 c.tgt) (h3 : IntsR b H p.a3 c.idn) (h4 : IntssR b H p.a4 c.comp p.r) {g1 g2 g3 : Nat} (k1 : p.a1 = none ∨ p.a1 = some ⟨g1, 0, none⟩) (k2 : p.a2 = none ∨ p.a2 = some ⟨g2, 0, none⟩) (k3 : p.a3 = none ∨ p.a3 = some ⟨g3, 0, none⟩)
    (n12 : g1 ≠ g2) (n13 : g1 ≠ g3) (n23 : g2 ≠ g3) (n4 : ∀ i, i < c.comp.length → p.r i ≠ some ⟨g1, 0, none⟩ ∧ p.r i ≠ some ⟨g2, 0, none⟩ ∧ p.r i ≠ some ⟨g3, 0, none⟩) : CatR b H c p := by
  have one : ∀ {a : Option Addr} {g n x : Nat}, (a = none ∨ a = some ⟨g, 0, none⟩) → x ∈ lvBlk (a, n) → x = g := by
    intro a g n x hk hx
    obtain ⟨o, s, e⟩ := mem_lvBlk1 hx
    rcases hk with h | h
    · rw [h] at e; cases e
    · rw [h] at e; cases e; rfl
  have rows : ∀ x ∈ lvBlks (rowsL p.r c.comp c.comp.length), x ≠ g1 ∧ x ≠ g2 ∧ x ≠ g3 := by
    intro x hx
    obtain ⟨l, hl, hxl⟩ := List.mem_flatMap.1 hx
    obtain ⟨i, hi, rfl⟩ := List.mem_map.1 hl
    have hi' := List.mem_range.1 hi
    have hlen : 0 < (c.comp.getD i []).length := by
      unfold lvBlk at hxl
      split at hxl
      · rename_i e; have := congrArg Prod.snd e; simp only at this; omega
      · cases hxl
    obtain ⟨o, s, e⟩ := mem_lvBlk1 hxl
    have hrow : ∃ g, p.r i = some ⟨g, 0, none⟩ := by
      rcases h4.1 with ⟨h, _⟩ | ⟨g, e', cs, _, _, _, _, _, h6⟩
      · rw [h] at hi'; simp at hi'
      · obtain ⟨g', _, hg', _⟩ := h6 i hi'
        exact ⟨g', hg'⟩
    obtain ⟨g, hg⟩ := hrow
    rw [hg] at e
    cases e
    obtain ⟨q1, q2, q3⟩ := n4 i hi'
    rw [hg] at q1 q2 q3
    exact ⟨fun h => q1 (by rw [h]), fun h => q2 (by rw [h]), fun h => q3 (by rw [h])⟩
  refine ⟨⟨h1, h2, h3, h4⟩, ?_⟩
  unfold Cat.leaves
  rw [lvBlks_append, lvBlks_append, lvBlks_append]
  have s1 : lvBlks [(p.a1, c.src.length)] = lvBlk (p.a1, c.src.length) := by simp [lvBlks]
  have s2 : lvBlks [(p.a2, c.tgt.length)] = lvBlk (p.a2, c.tgt.length) := by simp [lvBlks]
  have s3 : lvBlks [(p.a3, c.idn.length)] = lvBlk (p.a3, c.idn.length) := by simp [lvBlks]
  rw [s1, s2, s3]
  refine List.nodup_append.2 ⟨lvBlk_nodup _, List.nodup_append.2 ⟨lvBlk_nodup _, List.nodup_append.2 ⟨lvBlk_nodup _, h4.2, ?_⟩, ?_⟩, ?_⟩
  · intro x hx y hy hxy
    have e1 := one k3 hx
    have e2 := rows y hy
    omega
  · intro x hx y hy hxy
    have e1 := one k2 hx
    rcases List.mem_append.1 hy with hy | hy
    · have e2 := one k3 hy; omega
    · have e2 := rows y hy; omega
  · intro x hx y hy hxy
    have e1 := one k1 hx
    rcases List.mem_append.1 hy with hy | hy
    · have e2 := one k2 hy; omega
    · rcases List.mem_append.1 hy with hy | hy
      · have e2 := one k3 hy; omega
      · have e2 := rows y hy; omega
end Go.GL
/- Quotients of categories: what a congruence is, said in two ways. No condition. -/
namespace Go.GL
/-- The first with k's label. -/
abbrev rep (xs : List Int) (k : Nat) : Nat := least (kerB xs) k
theorem rep_lt {xs : List Int} {k n : Nat} (h : k < n) : rep xs k < n := Nat.lt_of_le_of_lt (least_le _ _) h
theorem rep_lab (xs : List Int) (k : Nat) : xs.getD (rep xs k) 0 = xs.getD k 0 := by
  have := (least_mate (kerB_eqv xs (k + 1)) (i := k) (by omega)).1
  unfold kerB at this
  exact eq_of_beq this
theorem rep_eq {xs : List Int} {a b : Nat} : rep xs a = rep xs b ↔ xs.getD a 0 = xs.getD b 0 := by
  have := least_congr_mate (kerB_eqv xs (a + b + 1)) (i := a) (j := b) (by omega) (by omega)
  rw [this]; simp [kerB]
theorem idxL_rep {xs : List Int} {k : Nat} (h : k < xs.length) : idxL xs (xs.getD k 0) = (rep xs k : Int) := by
  obtain ⟨_, h2⟩ := least_mate (kerB_eqv xs xs.length) h
  exact idxL_some (rep_lt h) (rep_lab xs k) fun j hj hx => by have := h2 j hj; unfold kerB at this; rw [hx, beq_self_eq_true] at this; cases this
theorem foldK_mono {a b : Nat} : ∀ {qs : List (Nat × Nat)} {K : Nat → Nat → Bool}, K a b = true → (qs.foldl (fun K p => stepK K p.1 p.2) K) a b = true
  | [], _, h => h
  | _ :: qs, _, h => foldK_mono (qs := qs) (by show stepK _ _ _ a b = true; unfold stepK; rw [h]; rfl)
theorem joinK_refl (ps : List (Nat × Nat)) (a : Nat) : joinK ps a a = true := foldK_mono (by simp)
theorem joinK_more {ps qs : List (Nat × Nat)} {a b : Nat} (h : joinK ps a b = true) : joinK (ps ++ qs) a b = true := by
  unfold joinK at h ⊢
  rw [List.foldl_append]
  exact foldK_mono h
theorem joinK_mem {ps : List (Nat × Nat)} {p : Nat × Nat} (h : p ∈ ps) : joinK ps p.1 p.2 = true := by
  obtain ⟨l, r, rfl⟩ := List.append_of_mem h
  rw [show l ++ p :: r = (l ++ [p]) ++ r by simp]
  refine joinK_more ?_
  rw [joinK_snoc]
  unfold stepK
  rw [joinK_refl, joinK_refl]
  simp
theorem foldK_sub {E : Nat → Nat → Bool} {n : Nat} (e : Eqv E n) : ∀ {qs : List (Nat × Nat)} {K : Nat → Nat → Bool}, (∀ a b, a < n → b < n → K a b = true → E a b = true) → (∀ p ∈ qs, p.1 < n ∧ p.2 < n ∧ E p.1 p.2 = true) →
    ∀ a b, a < n → b < n → (qs.foldl (fun K p => stepK K p.1 p.2) K) a b = true → E a b = true
  | [], _, hK, _ => hK
  | p :: qs, K, hK, h => foldK_sub e (qs := qs) (fun a b ha hb hs => by
      obtain ⟨h1, h2, h3⟩ := h p (by simp)
      unfold stepK at hs
      simp only [Bool.or_eq_true, Bool.and_eq_true] at hs
      rcases hs with (hs | ⟨k1, k2⟩) | ⟨k1, k2⟩
      · exact hK a b ha hb hs
      · exact e.tr a p.1 b ha h1 hb (hK _ _ ha h1 k1) (e.tr p.1 p.2 b h1 h2 hb h3 (hK _ _ h2 hb k2))
      · exact e.tr a p.2 b ha h2 hb (hK _ _ ha h2 k1) (e.tr p.2 p.1 b h2 h1 hb (e.sy _ _ h1 h2 h3) (hK _ _ h1 hb k2))) fun q hq => h q (by simp [hq])
theorem joinK_sub {E : Nat → Nat → Bool} {n : Nat} (e : Eqv E n) {ps : List (Nat × Nat)} (h : ∀ p ∈ ps, p.1 < n ∧ p.2 < n ∧ E p.1 p.2 = true) {a b : Nat} (ha : a < n) (hb : b < n) (hk : joinK ps a b = true) : E a b = true :=
  foldK_sub e (fun a b ha _ hs => by obtain rfl : a = b := by simpa using hs
                                     exact e.rf a ha) h a b ha hb hk
theorem foldK_root {n : Nat} : ∀ {qs : List (Nat × Nat)} {K : Nat → Nat → Bool} {j : List Int}, RootK j K n → (∀ p ∈ qs, p.1 < n ∧ p.2 < n) → ∃ j', RootK j' (qs.foldl (fun K p => stepK K p.1 p.2) K) n
  | [], _, j, hj, _ => ⟨j, hj⟩
  | p :: qs, _, _, hj, h => foldK_root (qs := qs) (hj.join (h p (by simp)).1 (h p (by simp)).2) fun q hq => h q (by simp [hq])
theorem joinK_eqv {n : Nat} {ps : List (Nat × Nat)} (h : ∀ p ∈ ps, p.1 < n ∧ p.2 < n) : Eqv (joinK ps) n := by
  obtain ⟨j, _, _, hk⟩ := foldK_root (qs := ps) (RootK.start (length_numsL n) fun i hi => numsL_get hi) h
  refine ⟨fun a _ => joinK_refl ps a, fun a b ha hb hab => ?_, fun a b c ha hb hc h1 h2 => ?_⟩
  · have h1 := (hk a b ha hb).trans hab
    have := (hk b a hb ha)
    refine this.symm.trans ?_
    simp only [beq_iff_eq] at h1 ⊢
    exact h1.symm
  · have k1 := (hk a b ha hb).trans h1
    have k2 := (hk b c hb hc).trans h2
    refine (hk a c ha hc).symm.trans ?_
    simp only [beq_iff_eq] at k1 k2 ⊢
    exact k1.trans k2
theorem clsL_inj {K : Nat → Nat → Bool} {n a b : Nat} (e : Eqv K n) (ha : a < n) (hb : b < n) : (clsL K n).getD a 0 = (clsL K n).getD b 0 ↔ K a b = true := by
  rw [clsL_get ha, clsL_get hb, ← least_congr_mate e ha hb]
  unfold clsAt
  have ia := least_idem e ha
  have ib := least_idem e hb
  constructor
  · intro h
    rcases Nat.lt_trichotomy (least K a) (least K b) with hh | hh | hh
    · have h5 := reps_mono (K := K) (a := least K a + 1) hh
      rw [reps_succ, if_pos ia] at h5
      omega
    · exact hh
    · have h5 := reps_mono (K := K) (a := least K b + 1) hh
      rw [reps_succ, if_pos ib] at h5
      omega
  · intro h; rw [h]
/-- Each number with the first one of its label. -/
def pairsL (xs : List Int) (m : Nat) : List (List Int) := (List.range m).map fun i => [(rep xs i : Int), (i : Int)]
@[simp] theorem length_pairsL (xs : List Int) (m : Nat) : (pairsL xs m).length = m := by simp [pairsL]
theorem pairsL_succ (xs : List Int) (m : Nat) : pairsL xs (m + 1) = pairsL xs m ++ [[(rep xs m : Int), (m : Int)]] := range_succ_map
theorem pairsL_get {xs : List Int} {m i : Nat} (h : i < m) : (pairsL xs m).getD i [] = [(rep xs i : Int), (i : Int)] := by simp [pairsL, List.getD_eq_getElem?_getD, h]
/-- Joined by more pairs than a partition's own, it is the same one as long as they lie within its classes. -/
theorem join_same {xs : List Int} {n : Nat} (hN : clsL (kerB xs) n = xs) {qs : List (Nat × Nat)} (hq : ∀ p ∈ qs, p.1 < n ∧ p.2 < n) :
    xs = joinL n (((List.range n).map fun i => (rep xs i, i)) ++ qs) ↔ ∀ p ∈ qs, xs.getD p.1 0 = xs.getD p.2 0 := by
  have hps : ∀ p ∈ (List.range n).map fun i => (rep xs i, i), p.1 < n ∧ p.2 < n ∧ kerB xs p.1 p.2 = true := fun p hp => by
    simp only [List.mem_map, List.mem_range] at hp
    obtain ⟨i, hi, rfl⟩ := hp
    exact ⟨rep_lt hi, hi, by simp only [kerB, beq_iff_eq]; exact rep_lab xs i⟩
  have hall : ∀ p ∈ ((List.range n).map fun i => (rep xs i, i)) ++ qs, p.1 < n ∧ p.2 < n := fun p hp => by
    rcases List.mem_append.1 hp with h | h
    · exact ⟨(hps p h).1, (hps p h).2.1⟩
    · exact hq p h
  have e := joinK_eqv hall
  constructor
  · intro h p hp
    have h1 := joinK_mem (List.mem_append.2 (.inr hp) : p ∈ ((List.range n).map fun i => (rep xs i, i)) ++ qs)
    have h2 := (clsL_inj e (hq p hp).1 (hq p hp).2).2 h1
    have h3 : joinL n (((List.range n).map fun i => (rep xs i, i)) ++ qs) = xs := h.symm
    unfold joinL at h3
    rw [h3] at h2
    exact h2
  · intro h
    unfold joinL
    conv => lhs; rw [← hN]
    refine clsL_congr fun a b ha hb => ?_
    rw [Bool.eq_iff_iff]
    constructor
    · intro hk
      have hr : rep xs a = rep xs b := rep_eq.2 (by simpa [kerB] using hk)
      have h1 := joinK_more (qs := qs) (joinK_mem (List.mem_map.2 ⟨a, List.mem_range.2 ha, rfl⟩ : (rep xs a, a) ∈ (List.range n).map fun i => (rep xs i, i)))
      have h2 := joinK_more (qs := qs) (joinK_mem (List.mem_map.2 ⟨b, List.mem_range.2 hb, rfl⟩ : (rep xs b, b) ∈ (List.range n).map fun i => (rep xs i, i)))
      simp only at h1 h2
      rw [← hr] at h2
      exact e.tr a (rep xs a) b ha (rep_lt ha) hb (e.sy _ _ (rep_lt ha) ha h1) h2
    · refine joinK_sub (kerB_eqv xs n) (fun p hp => ?_) ha hb
      rcases List.mem_append.1 hp with hh | hh
      · exact hps p hh
      · exact ⟨(hq p hh).1, (hq p hh).2, by simp only [kerB, beq_iff_eq]; exact h p hh⟩

/-- a; b. -/
abbrev Cat.tn (c : Cat) (a b : Nat) : Nat := ((c.comp.getD a []).getD b 0).toNat
theorem Cat.Shape.tn {c : Cat} (h : c.Shape) {a b : Nat} (ha : a < c.src.length) (hb : b < c.src.length) (e : c.tgt.getD a 0 = c.src.getD b 0) :
    c.tn a b < c.src.length ∧ c.src.getD (c.tn a b) 0 = c.src.getD a 0 ∧ c.tgt.getD (c.tn a b) 0 = c.tgt.getD b 0 ∧ (c.comp.getD a []).getD b 0 = (c.tn a b : Int) := by
  have h1 := (Cat.Cell.pos e).1 (h.cell a (by have := h.cl; omega) b hb)
  obtain ⟨h2, h3, h4, h5⟩ := h1
  exact ⟨by unfold Cat.tn; omega, h4, h5, by unfold Cat.tn; omega⟩
theorem Cat.Is.idl {c : Cat} (h : c.Is) {f : Nat} (hf : f < c.src.length) : c.tn (c.idn.getD (c.src.getD f 0).toNat 0).toNat f = f := by
  have := (h.2.ids f hf).1
  unfold Cat.th at this
  rw [Int.toNat_natCast] at this
  unfold Cat.tn
  omega
theorem Cat.Is.idr {c : Cat} (h : c.Is) {f : Nat} (hf : f < c.src.length) : c.tn f (c.idn.getD (c.tgt.getD f 0).toNat 0).toNat = f := by
  have := (h.2.ids f hf).2
  unfold Cat.th at this
  rw [Int.toNat_natCast] at this
  unfold Cat.tn
  omega
/-- Labels of one class lie side by side. -/
def Cat.ParOk (c : Cat) (xs : List Int) : Prop := ∀ k, k < c.src.length → c.src.getD (rep xs k) 0 = c.src.getD k 0 ∧ c.tgt.getD (rep xs k) 0 = c.tgt.getD k 0
/-- The class of a composite is told by the classes of its parts. -/
def Cat.CmpOk (c : Cat) (xs : List Int) : Prop := ∀ i, i < c.src.length → ∀ j, j < c.src.length → c.tgt.getD i 0 = c.src.getD j 0 → xs.getD (c.tn i j) 0 = xs.getD (c.tn (rep xs i) (rep xs j)) 0
/-- The same, said of what lies around one arrow. -/
def Cat.SprOk (c : Cat) (xs : List Int) : Prop := ∀ k, k < c.src.length → ∀ i, i < c.src.length → ∀ j, j < c.src.length → c.tgt.getD i 0 = c.src.getD (rep xs k) 0 → c.tgt.getD (rep xs k) 0 = c.src.getD j 0 →
  xs.getD (c.tn (c.tn i (rep xs k)) j) 0 = xs.getD (c.tn (c.tn i k) j) 0
theorem Cat.spr_cmp {c : Cat} {xs : List Int} (hI : c.Is) (hp : c.ParOk xs) : c.SprOk xs ↔ c.CmpOk xs := by
  have hS := hI.1
  constructor
  · intro h i hi j hj e
    have ri := rep_lt (xs := xs) hi
    have rj := rep_lt (xs := xs) hj
    obtain ⟨p1, p2⟩ := hp i hi
    obtain ⟨p3, p4⟩ := hp j hj
    have id1 := hS.idn_lt (x := c.src.getD i 0) (by have := hS.src i hi; omega) (by have := hS.src i hi; omega)
    have id2 := hS.ids (c.src.getD i 0).toNat (by have := hS.src i hi; have := hS.il; omega)
    have jd1 := hS.idn_lt (x := c.tgt.getD j 0) (by have := hS.tgt j (by have := hS.tl; omega); omega) (by have := hS.tgt j (by have := hS.tl; omega); omega)
    have jd2 := hS.ids (c.tgt.getD j 0).toNat (by have := hS.tgt j (by have := hS.tl; omega); have := hS.il; omega)
    have s0 := hS.src i hi
    have t0 := hS.tgt j (by have := hS.tl; omega)
    have h1 := h i hi (c.idn.getD (c.src.getD i 0).toNat 0).toNat (by omega) j hj (by rw [id2.2, p1]; omega) (by rw [p2]; exact e)
    have e1 := hI.idl ri
    rw [p1] at e1
    rw [e1, hI.idl hi] at h1
    have h2 := h j hj (rep xs i) ri (c.idn.getD (c.tgt.getD j 0).toNat 0).toNat (by omega) (by rw [p2, p3]; exact e) (by rw [p4, jd2.1]; omega)
    obtain ⟨a1, _, a3, _⟩ := hS.tn ri rj (by rw [p2, p3]; exact e)
    obtain ⟨b1, _, b3, _⟩ := hS.tn ri hj (by rw [p2]; exact e)
    have e2 := hI.idr a1
    rw [a3, p4] at e2
    have e3 := hI.idr b1
    rw [b3] at e3
    rw [e2, e3] at h2
    exact h1.symm.trans h2.symm
  · intro h k hk i hi j hj e1 e2
    have rk := rep_lt (xs := xs) hk
    obtain ⟨p1, p2⟩ := hp k hk
    have h1 := h i hi (rep xs k) rk e1
    have h2 := h i hi k hk (by rw [e1]; exact p1)
    rw [rep_eq.2 (rep_lab xs k)] at h1
    have h3 := h1.trans h2.symm
    obtain ⟨a1, _, a3, _⟩ := hS.tn hi rk e1
    obtain ⟨b1, _, b3, _⟩ := hS.tn hi hk (by rw [e1]; exact p1)
    have h4 := h _ a1 j hj (by rw [a3]; exact e2)
    have h5 := h _ b1 j hj (by rw [b3, ← p2]; exact e2)
    rw [rep_eq.2 h3] at h4
    exact h4.trans h5.symm
/-- A congruence. -/
structure Cat.Cong (c : Cat) (xs : List Int) : Prop where
  len : xs.length = c.src.length
  nor : clsL (kerB xs) xs.length = xs
  par : c.ParOk xs
  cmp : c.CmpOk xs

theorem OwnL.low {b b' : Nat} {H : GHeap} {e : TypeId} {r : Nat → Option Addr} {xss : List (List Int)} (h : OwnL b H e r xss) (hb : b' ≤ b) : OwnL b' H e r xss := ⟨fun i hi => by
  obtain ⟨g, h1, h2, h3⟩ := h.row i hi
  exact ⟨g, h1, by omega, h3⟩, h.inj⟩
theorem Intss.slN {H : GHeap} {a : Option Addr} {xss : List (List Int)} {r : Nat → Option Addr} {n : Nat} (h : Intss H a xss r) (hn : xss.length = n) : SlA H a n (fun i => .slice (r i) (xss.getD i []).length (xss.getD i []).length) := by subst hn; exact h.1
theorem take_snocQ {xss : List (List Int)} {i : Nat} (h : i < xss.length) : xss.take (i + 1) = xss.take i ++ [xss.getD i []] := by
  rw [List.take_add_one, List.getElem?_eq_getElem h, List.getD_eq_getElem?_getD, List.getElem?_eq_getElem h]; rfl
theorem pairsL_len (xs : List Int) (m i : Nat) : ((pairsL xs m).getD i []).length ≤ 1048576 := by
  by_cases h : i < m
  · rw [pairsL_get h]; simp
  · rw [List.getD_eq_getElem?_getD, List.getElem?_eq_none (by simp; omega)]; simp

/-! ### The list of all that must be joined. -/
def Cat.quOk (c : Cat) (xs : List Int) (t : Nat × Nat × Nat) : Bool := decide (c.tgt.getD t.2.1 0 = c.src.getD (rep xs t.1) 0) && decide (c.tgt.getD (rep xs t.1) 0 = c.src.getD t.2.2 0)
def Cat.quRow (c : Cat) (xs : List Int) (t : Nat × Nat × Nat) : List Int := [(c.tn (c.tn t.2.1 (rep xs t.1)) t.2.2 : Int), (c.tn (c.tn t.2.1 t.1) t.2.2 : Int)]
def quT (n k i j : Nat) : List (Nat × Nat × Nat) := nest3 (fun a b d => (a, b, d)) (fun _ => n) (fun _ _ => n) k i j
def Cat.quL (c : Cat) (xs : List Int) (k i j : Nat) : List (List Int) := pairsL xs c.src.length ++ ((quT c.src.length k i j).filter (c.quOk xs)).map (c.quRow xs)
theorem Cat.quL_zero (c : Cat) (xs : List Int) : c.quL xs 0 0 0 = pairsL xs c.src.length := by simp [Cat.quL, quT, nest3_zero]
@[simp] theorem Cat.quL_len0 (c : Cat) (xs : List Int) : (c.quL xs 0 0 0).length = c.src.length := by rw [Cat.quL_zero, length_pairsL]
theorem Cat.quL_T {c : Cat} {xs : List Int} {k i j : Nat} (h : c.quOk xs (k, i, j) = true) : c.quL xs k i (j + 1) = c.quL xs k i j ++ [c.quRow xs (k, i, j)] := by
  unfold Cat.quL quT
  rw [nest3_snoc, List.filter_append, List.map_append, ← List.append_assoc]
  congr 1
  simp [h]
/-- The same, with the numbers that the reference works out. -/
theorem Cat.quL_T' {c : Cat} {xs : List Int} {k i j : Nat} {f0 f1 : Int} (hS : c.Shape) (hp : c.ParOk xs) (hk : k < c.src.length) (hi : i < c.src.length) (hj : j < c.src.length) (h0 : f0 = (rep xs k : Int)) (h1 : f1 = (k : Int)) (e1 : c.tgt.getD i 0 = c.src.getD (rep xs k) 0) (e2 : c.tgt.getD (rep xs k) 0 = c.src.getD j 0) :
    c.quL xs k i (j + 1) = c.quL xs k i j ++ [[c.th (c.th i f0) j, c.th (c.th i f1) j]] ∧ (0 ≤ c.th i f0 ∧ c.th i f0 < c.src.length) ∧ (0 ≤ c.th i f1 ∧ c.th i f1 < c.src.length) := by
  subst h0 h1
  obtain ⟨p1, p2⟩ := hp k hk
  obtain ⟨a1, _, a3, a4⟩ := hS.tn hi (rep_lt hk) e1
  obtain ⟨b1, _, b3, b4⟩ := hS.tn hi hk (by rw [e1]; exact p1)
  have a5 := (hS.tn a1 hj (by rw [a3]; exact e2)).2.2.2
  have b5 := (hS.tn b1 hj (by rw [b3, ← p2]; exact e2)).2.2.2
  have u1 : c.th (i : Int) (rep xs k : Int) = (c.tn i (rep xs k) : Int) := by rw [Cat.th_nat]; exact a4
  have u2 : c.th (i : Int) (k : Int) = (c.tn i k : Int) := by rw [Cat.th_nat]; exact b4
  refine ⟨?_, by rw [u1]; omega, by rw [u2]; omega⟩
  rw [Cat.quL_T (by unfold Cat.quOk; simp only [e1, e2, decide_true, Bool.and_self]), u1, u2, Cat.th_nat, Cat.th_nat, a5, b5]
  rfl
theorem Cat.quL_F {c : Cat} {xs : List Int} {k i j : Nat} (h : c.quOk xs (k, i, j) = false) : c.quL xs k i (j + 1) = c.quL xs k i j := by
  unfold Cat.quL quT
  rw [nest3_snoc, List.filter_append, List.map_append]
  simp [h]
theorem Cat.quL_next2 {c : Cat} {xs : List Int} {k i : Nat} : c.quL xs k (i + 1) 0 = c.quL xs k i c.src.length := by unfold Cat.quL quT; rw [nest3_next2]
theorem Cat.quL_next1 {c : Cat} {xs : List Int} {k : Nat} : c.quL xs (k + 1) 0 0 = c.quL xs k c.src.length 0 := by unfold Cat.quL quT; rw [nest3_next1]
theorem Cat.quL_le {c : Cat} {xs : List Int} {k i j : Nat} (hn : c.src.length ≤ 40) (hk : k < c.src.length) (hi : i < c.src.length) (hj : j ≤ c.src.length) : (c.quL xs k i j).length ≤ 65536 := by
  have h1 := nest3_le (pr := fun a b d => ((a, b, d) : Nat × Nat × Nat)) (s1 := fun _ => c.src.length) (s2 := fun _ _ => c.src.length) (c := 40) (d := 40) (n := c.src.length) (fun _ _ => hn) (fun _ _ _ _ => hn) hk hi hj
  have h2 : c.src.length * (40 * 40) ≤ 40 * (40 * 40) := Nat.mul_le_mul_right _ hn
  have h3 := List.length_filter_le (c.quOk xs) (quT c.src.length k i j)
  unfold Cat.quL
  rw [List.length_append, List.length_map, length_pairsL]
  unfold quT at h3 ⊢
  omega
theorem Cat.quL_le1 {c : Cat} {xs : List Int} {k : Nat} (hn : c.src.length ≤ 40) (hk : k ≤ c.src.length) : (c.quL xs k 0 0).length ≤ 65536 := by
  by_cases h0 : c.src.length = 0
  · obtain rfl : k = 0 := by omega
    rw [Cat.quL_zero, length_pairsL]; omega
  · cases k with
    | zero => rw [Cat.quL_zero, length_pairsL]; omega
    | succ k =>
      obtain ⟨m, hm⟩ : ∃ m, c.src.length = m + 1 := ⟨c.src.length - 1, by omega⟩
      rw [Cat.quL_next1, hm, Cat.quL_next2]
      exact Cat.quL_le hn (by omega) (by omega) (by omega)
theorem mem_quT {n : Nat} {t : Nat × Nat × Nat} : t ∈ quT n n 0 0 ↔ t.1 < n ∧ t.2.1 < n ∧ t.2.2 < n := by
  unfold quT
  constructor
  · intro h
    obtain ⟨a, b, d, h1, h2, h3, rfl⟩ := nest3_mem h
    exact ⟨h1, h2, h3⟩
  · rintro ⟨h1, h2, h3⟩
    unfold nest3 nestL
    simp only [List.mem_append, List.mem_flatMap, List.mem_map, List.mem_range]
    exact .inl ⟨t.1, h1, .inl ⟨t.2.1, h2, t.2.2, h3, rfl⟩⟩
theorem Cat.quL_row {c : Cat} {xs : List Int} (hS : c.Shape) (hp : c.ParOk xs) {i : Nat} (hi : i < (c.quL xs c.src.length 0 0).length) :
    2 ≤ ((c.quL xs c.src.length 0 0).getD i []).length ∧ 0 ≤ ((c.quL xs c.src.length 0 0).getD i []).getD 0 0 ∧ ((c.quL xs c.src.length 0 0).getD i []).getD 0 0 < (c.src.length : Int) ∧ 0 ≤ ((c.quL xs c.src.length 0 0).getD i []).getD 1 0 ∧ ((c.quL xs c.src.length 0 0).getD i []).getD 1 0 < (c.src.length : Int) := by
  have hm := getD_mem_list (d := []) hi
  generalize (c.quL xs c.src.length 0 0).getD i [] = x at hm ⊢
  unfold Cat.quL pairsL at hm
  simp only [List.mem_append, List.mem_map, List.mem_range, List.mem_filter] at hm
  rcases hm with ⟨a, ha, rfl⟩ | ⟨t, ⟨ht, hok⟩, rfl⟩
  · have := rep_lt (xs := xs) ha
    refine ⟨Nat.le_refl _, ?_, ?_, ?_, ?_⟩ <;> simp only [List.getD_cons_zero, List.getD_cons_succ] <;> omega
  · obtain ⟨h3, h4, h5⟩ := mem_quT.1 ht
    unfold Cat.quOk at hok
    simp only [Bool.and_eq_true, decide_eq_true_eq] at hok
    obtain ⟨h6, h7⟩ := hok
    obtain ⟨p1, p2⟩ := hp t.1 h3
    obtain ⟨a1, _, a3, _⟩ := hS.tn h4 (rep_lt h3) h6
    obtain ⟨b1, _, b3, _⟩ := hS.tn h4 h3 (by rw [h6]; exact p1)
    have e1 := (hS.tn a1 h5 (by rw [a3]; exact h7)).1
    have e2 := (hS.tn b1 h5 (by rw [b3, ← p2]; exact h7)).1
    unfold Cat.quRow
    refine ⟨Nat.le_refl _, ?_, ?_, ?_, ?_⟩ <;> simp only [List.getD_cons_zero, List.getD_cons_succ] <;> omega
/-- What joining all of them says. -/
theorem Cat.qu_iff {c : Cat} {xs : List Int} (hI : c.Is) (hl : xs.length = c.src.length) (hN : clsL (kerB xs) xs.length = xs) (hp : c.ParOk xs) : xs = joinL c.src.length ((c.quL xs c.src.length 0 0).map fun p => (pA p, pB p)) ↔ c.CmpOk xs := by
  have hS := hI.1
  rw [← Cat.spr_cmp hI hp]
  have e1 : (c.quL xs c.src.length 0 0).map (fun p => (pA p, pB p)) = ((List.range c.src.length).map fun i => (rep xs i, i)) ++ ((quT c.src.length c.src.length 0 0).filter (c.quOk xs)).map fun t => (c.tn (c.tn t.2.1 (rep xs t.1)) t.2.2, c.tn (c.tn t.2.1 t.1) t.2.2) := by
    unfold Cat.quL pairsL
    rw [List.map_append, List.map_map, List.map_map]
    congr 1
  have hok : ∀ t ∈ (quT c.src.length c.src.length 0 0).filter (c.quOk xs), t.1 < c.src.length ∧ t.2.1 < c.src.length ∧ t.2.2 < c.src.length ∧ c.tgt.getD t.2.1 0 = c.src.getD (rep xs t.1) 0 ∧ c.tgt.getD (rep xs t.1) 0 = c.src.getD t.2.2 0 := fun t ht => by
    obtain ⟨h1, h2⟩ := List.mem_filter.1 ht
    obtain ⟨h3, h4, h5⟩ := mem_quT.1 h1
    unfold Cat.quOk at h2
    simp only [Bool.and_eq_true, decide_eq_true_eq] at h2
    exact ⟨h3, h4, h5, h2.1, h2.2⟩
  rw [e1, join_same (by rw [← hl]; exact hN)]
  · constructor
    · intro h k hk i hi j hj h1 h2
      exact h _ (List.mem_map.2 ⟨(k, i, j), List.mem_filter.2 ⟨mem_quT.2 ⟨hk, hi, hj⟩, by unfold Cat.quOk; simp only [h1, h2, decide_true, Bool.and_self]⟩, rfl⟩)
    · intro h p hp'
      obtain ⟨t, ht, rfl⟩ := List.mem_map.1 hp'
      obtain ⟨h3, h4, h5, h6, h7⟩ := hok t ht
      exact h _ h3 _ h4 _ h5 h6 h7
  · intro p hp'
    obtain ⟨t, ht, rfl⟩ := List.mem_map.1 hp'
    obtain ⟨h3, h4, h5, h6, h7⟩ := hok t ht
    obtain ⟨p1, p2⟩ := hp t.1 h3
    obtain ⟨a1, _, a3, _⟩ := hS.tn h4 (rep_lt h3) h6
    obtain ⟨b1, _, b3, _⟩ := hS.tn h4 h3 (by rw [h6]; exact p1)
    exact ⟨(hS.tn a1 h5 (by rw [a3]; exact h7)).1, (hS.tn b1 h5 (by rw [b3, ← p2]; exact h7)).1⟩
theorem Cat.cong_iff {c : Cat} {xs : List Int} (hI : c.Is) (hl : xs.length = c.src.length) (hN : xs = clsL (kerB xs) xs.length) (hp : c.ParOk xs) : c.Cong xs ↔ xs = joinL c.src.length ((c.quL xs c.src.length 0 0).map fun p => (pA p, pB p)) := by
  rw [Cat.qu_iff hI hl hN.symm hp]
  exact ⟨fun h => h.cmp, fun h => ⟨hl, hN.symm, hp, h⟩⟩

/-! ### The program's test. -/
/-- The first k labels are numbered in order. -/
def NorK (xs : List Int) (k : Nat) : Prop := ∀ i, i < k → xs.getD i 0 = clsAt (kerB xs) i
theorem NorK.zero (xs : List Int) : NorK xs 0 := fun i hi => by omega
theorem reps_lt_of {xs : List Int} {j k : Nat} (hj : least (kerB xs) j = j) (h : j < k) : reps (kerB xs) j < reps (kerB xs) k := by
  have h5 := reps_mono (K := kerB xs) (a := j + 1) h
  rw [reps_succ, if_pos hj] at h5
  omega
theorem NorK.old {xs : List Int} {k : Nat} (h : NorK xs k) (hl : least (kerB xs) k < k) : xs.getD k 0 = clsAt (kerB xs) k ∧ xs.getD k 0 < (reps (kerB xs) k : Int) := by
  have h1 := rep_lab xs k
  have h2 := h _ hl
  have hi := least_idem (kerB_eqv xs (k + 1)) (i := k) (by omega)
  have h3 := reps_lt_of (xs := xs) hi hl
  unfold clsAt at h2 ⊢
  rw [hi] at h2
  unfold rep at h1
  omega
theorem NorK.lo {xs : List Int} {k : Nat} (h : NorK xs k) (h0 : 0 ≤ xs.getD k 0) (h1 : xs.getD k 0 < (reps (kerB xs) k : Int)) : NorK xs (k + 1) ∧ reps (kerB xs) (k + 1) = reps (kerB xs) k := by
  obtain ⟨j, hj, hjj, hr, _⟩ := seenL_at (xs := xs) (i := k) (m := (xs.getD k 0).toNat) (by rw [length_seenL]; omega)
  have hx : xs.getD j 0 = xs.getD k 0 := by
    rw [h j hj]; unfold clsAt; rw [hjj]; omega
  have hlt : least (kerB xs) k < k := by
    have e : rep xs j = rep xs k := rep_eq.2 hx
    unfold rep at e
    omega
  refine ⟨fun i hi => ?_, by rw [reps_succ, if_neg (by omega)]; rfl⟩
  by_cases e : i < k
  · exact h i e
  · obtain rfl : i = k := by omega
    exact (h.old hlt).1
theorem NorK.hi {xs : List Int} {k : Nat} (h : NorK xs k) (h1 : xs.getD k 0 = (reps (kerB xs) k : Int)) : NorK xs (k + 1) ∧ reps (kerB xs) (k + 1) = reps (kerB xs) k + 1 := by
  have hk : least (kerB xs) k = k := by
    have := least_le (kerB xs) k
    refine Classical.byContradiction fun hne => ?_
    have := (h.old (by omega)).2
    omega
  refine ⟨fun i hi => ?_, by rw [reps_succ, if_pos hk]⟩
  by_cases e : i < k
  · exact h i e
  · obtain rfl : i = k := by omega
    unfold clsAt; rw [hk]; exact h1
theorem NorK.bd {xs : List Int} {k n : Nat} (h : NorK xs n) (hk : k < n) : 0 ≤ xs.getD k 0 ∧ xs.getD k 0 ≤ (reps (kerB xs) k : Int) := by
  have h1 := h k hk
  unfold clsAt at h1
  have := reps_mono (K := kerB xs) (least_le (kerB xs) k)
  omega
theorem NorK.iff {xs : List Int} : NorK xs xs.length ↔ clsL (kerB xs) xs.length = xs := by
  constructor
  · intro h
    exact eq_of_getD (by simp) fun i hi => by
      have hi' : i < xs.length := by simpa using hi
      rw [clsL_get hi']; exact (h i hi').symm
  · intro h i hi
    have := clsL_get (K := kerB xs) hi
    rw [h] at this
    exact this
/-- Each label with the first one that bears it. -/
def firE (xs : List Int) (k : Nat) : List (Int × Int) := ((List.range k).filter fun j => least (kerB xs) j == j).map fun j => (xs.getD j 0, (j : Int))
theorem firE_zero (xs : List Int) : firE xs 0 = [] := rfl
theorem firE_new {xs : List Int} {k : Nat} (h : least (kerB xs) k = k) : firE xs (k + 1) = firE xs k ++ [(xs.getD k 0, (k : Int))] := by
  unfold firE; rw [List.range_succ, List.filter_append, List.map_append]; simp [h]
theorem firE_old {xs : List Int} {k : Nat} (h : ¬ least (kerB xs) k = k) : firE xs (k + 1) = firE xs k := by
  unfold firE; rw [List.range_succ, List.filter_append, List.map_append]; simp [h]
theorem lookE_fir (xs : List Int) (i : Nat) : ∀ k, lookE (firE xs k) (xs.getD i 0) = if rep xs i < k then some (rep xs i : Int) else none
  | 0 => by rw [firE_zero, if_neg (by omega)]; rfl
  | k + 1 => by
    by_cases hk : least (kerB xs) k = k
    · rw [firE_new hk, lookE_snoc, lookE_fir xs i k]
      by_cases hx : xs.getD k 0 = xs.getD i 0
      · have e : rep xs k = rep xs i := rep_eq.2 hx
        have e2 : rep xs i = k := by rw [← e]; exact hk
        rw [if_pos hx, if_neg (by omega), if_pos (by omega), e2]; rfl
      · have hne : rep xs i ≠ k := fun e => hx (by have h1 := rep_lab xs i; rw [e] at h1; exact h1)
        rw [if_neg hx]
        by_cases hr : rep xs i < k
        · rw [if_pos hr, if_pos (by omega)]; rfl
        · rw [if_neg hr, if_neg (by omega)]; rfl
    · rw [firE_old hk, lookE_fir xs i k]
      have hne : rep xs i ≠ k := fun e => hk (by
        have h1 : rep xs (rep xs i) = rep xs i := rep_eq.2 (rep_lab xs i)
        rw [e] at h1; exact h1)
      by_cases hr : rep xs i < k
      · rw [if_pos hr, if_pos (by omega)]
      · rw [if_neg hr, if_neg (by omega)]
theorem lookE_firN {xs : List Int} {k : Nat} (h : lookE (firE xs k) (xs.getD k 0) = none) : least (kerB xs) k = k ∧ (lookE (firE xs k ++ [(xs.getD k 0, (k : Int))]) (xs.getD k 0)).getD 0 = (rep xs k : Int) := by
  rw [lookE_fir] at h
  have hle := least_le (kerB xs) k
  by_cases hr : rep xs k < k
  · rw [if_pos hr] at h; cases h
  · have hk : least (kerB xs) k = k := by unfold rep at hr; omega
    refine ⟨hk, ?_⟩
    rw [← firE_new hk, lookE_fir, if_pos (rep_lt (Nat.lt_succ_self k))]; rfl
theorem lookE_firS {xs : List Int} {k : Nat} {v : Int} (h : lookE (firE xs k) (xs.getD k 0) = some v) : ¬ least (kerB xs) k = k ∧ (lookE (firE xs k) (xs.getD k 0)).getD 0 = (rep xs k : Int) := by
  have h' := h
  rw [lookE_fir] at h'
  by_cases hr : rep xs k < k
  · exact ⟨by unfold rep at hr; omega, by rw [lookE_fir, if_pos hr]; rfl⟩
  · rw [if_neg hr] at h'; cases h'
theorem lookE_firA {xs : List Int} {i n : Nat} (h : i < n) : (lookE (firE xs n) (xs.getD i 0)).getD 0 = (rep xs i : Int) := by
  rw [lookE_fir, if_pos (rep_lt h)]; rfl
end Go.GL
/- Quotients of categories: the reference's test. No condition but those of each statement. -/
namespace Go.Proofs.Ytfejmmaeigbfkaa
open Go Go.GL Go.RowKit Go.Proofs
theorem isPartition_c {a : Option Addr} {xs : List Int} {H : GHeap} (h : Ints H a xs := by assumption) (hl : xs.length ≤ 256 := by omega) :
    GCalls Try.prog 80 [.slice a xs.length xs.length] H (Ret (.bool (decide (xs = clsL (kerB xs) xs.length))) H) := by
  refine GCalls.ret rfl ?_
  have hcl : (clsL (kerB xs) xs.length).length = xs.length := length_clsL _ _
  refine GCalls.body (N := 12) (rs := [.tmp 2]) Try.func80 rfl rfl rfl rfl (fun Qx hret hend => ?_)
  refine .forget (fr' := [(0, some _)]) ⟨rfl, trivial⟩ ?_
  have hle := GHeap.Le.refl H
  have base_h := h
  refine .seq (fun K1 hK1 => ?_)
  refine .region ?_
  refine .m rfl rfl rfl (.assign rfl) ?_
  refine .nil ?_
  refine hK1 _ _ ?_
  refine .seq (fun K2 hK2 => ?_)
  refine .region ?_
  refine .m rfl rfl rfl (.move rfl) ?_
  refine .m rfl rfl rfl (.len sl_22_A rfl) ?_
  refine .m rfl rfl rfl (.cmp rfl rfl rfl) ?_
  refine .m rfl rfl rfl (.move rfl) ?_
  refine .split (fun h6 => ?_) (fun h6 => ?_)
  ·
   try simp only [sps] at h6
   refine .mg rfl rfl rfl rfl rfl (.move rfl) ?_
   refine .mg rfl rfl rfl rfl rfl (.move rfl) ?_
   refine .callg rfl rfl rfl rfl rfl rfl @Try.call110 rfl (l01Classes_c) ?_
   rintro _ H9 ⟨le9, g9, rfl, at9, ge9⟩
   have nx_H9 := le9.1
   replace hle := hle.trans le9
   have lt_at9 := GHeap.lt_of_get at9
   replace h := base_h.mono hle
   have i9 := Ints.of_get at9
   refine .callQg rfl rfl rfl rfl rfl rfl @Try.call83 rfl (l01Same_c) ?_
   refine .m rfl rfl rfl (.pickT rfl rfl) ?_
   refine .m rfl rfl rfl (.assign rfl) ?_
   refine .nil ?_
   refine hK2 _ _ ?_
   refine .ret ?_
   -- leaf e1
   refine hret _ _ ?_
   refine ⟨_, rfl, ?_⟩
   exact ⟨rfl, hle⟩
  ·
   simp only [sps] at h6; omega
theorem l01Pairs_c {a : Option Addr} {xs : List Int} {H : GHeap} (h : Ints H a xs := by assumption) (hl : xs.length ≤ 1048576 := by omega) :
    GCalls Try.prog 81 [.slice a xs.length xs.length] H (NewIntssR H (pairsL xs xs.length)) := by
  refine GCalls.body (N := 24) (rs := [.tmp 2]) Try.func81 rfl rfl rfl rfl (fun Qx hret hend => ?_)
  refine .forget (fr' := [(0, some _)]) ⟨rfl, trivial⟩ ?_
  have hle := GHeap.Le.refl H
  have base_h := h
  refine .seq (fun K1 hK1 => ?_)
  refine .region ?_
  refine .m rfl rfl rfl (.assign rfl) ?_
  refine .nil ?_
  refine hK1 _ _ ?_
  refine .seq (fun K2 hK2 => ?_)
  refine .region ?_
  refine .r rfl rfl rfl (.litR rfl sl_23_B ze_22_E rfl rfl (by omega) (by omega) rfl rfl) ?_
  rintro _ H5 ⟨g5, rfl, le5, ge5, at5⟩
  have nx_H5 := le5.1
  replace hle := hle.trans le5
  have lt_at5 := GHeap.lt_of_get at5
  replace h := base_h.mono hle
  refine .m rfl rfl rfl (.assign rfl) ?_
  refine .nil ?_
  refine hK2 _ _ ?_
  refine .seq (fun K3 hK3 => ?_)
  refine .seq (fun K4 hK4 => ?_)
  refine .region ?_
  refine .m rfl rfl rfl (.assign rfl) ?_
  refine .nil ?_
  refine hK4 _ _ ?_
  refine .block ?_
  refine .loopR (σ := Nat × (Nat → Option Addr) × Nat × Nat) [(0, some _)] (fun (i, rr, gL3, nL3) => [(4, some (.int .i64 (i : Int))), (3, some (.slice (some ⟨gL3, 0, none⟩) nL3 nL3))]) (fun (i, rr, gL3, nL3) H' => St [g5] H5 H' ∧ H'.get gL3 = some (.row ((slsL rr (pairsL xs i))) 22 true) ∧ (gL3 = g5 ∨ H5.next ≤ gL3) ∧ nL3 = (slsL rr (pairsL xs i)).length ∧ i ≤ xs.length ∧ OwnL H.next H' 2 rr (pairsL xs i)) (fun (i, rr, gL3, nL3) => xs.length - i) ((0, fun _ => none, _, _)) ⟨rfl, trivial⟩ ⟨rfl, rfl, trivial⟩ ?_ ?_
  ·
   refine ⟨.refl _ _, by first | assumption | exact at5 | simpa using at5, .inl rfl, by first | rfl | assumption | simp | omega, ?_⟩
   exact ⟨by omega, .nil _ _ _ _⟩
  ·
   rintro ⟨i, rr, gL3, nL3⟩ HL1 ⟨lst1, at_L3, pl_L3, ln_L3, hI⟩ KL1 hKL1
   refine .forget (fr' := [(4, some (.int .i64 (i : Int))), (3, some (.slice (some ⟨gL3, 0, none⟩) nL3 nL3)), (0, some _)]) ⟨rfl, rfl, rfl, trivial⟩ ?_
   have ge_L3 : H.next ≤ gL3 := by omega
   have nx_HL1 := lst1.nx
   replace hle := hle.st lst1 (fun k hk => ⟨by omega, trivial⟩)
   have lt_at_L3 := GHeap.lt_of_get at_L3
   replace h := base_h.mono hle
   have rk := St.refl [gL3] HL1
   obtain ⟨hi, hR⟩ := hI
   have hat3 := at_L3
   have hfl : (slsL rr (pairsL xs i)).length = (pairsL xs i).length := length_slsL _ _
   have hpl := length_pairsL xs i
   refine .seq (fun K5 hK5 => ?_)
   refine .seq (fun K6 hK6 => ?_)
   refine .region ?_
   refine .m rfl rfl rfl (.move rfl) ?_
   refine .m rfl rfl rfl (.move rfl) ?_
   refine .m rfl rfl rfl (.len sl_22_A rfl) ?_
   refine .m rfl rfl rfl (.cmp rfl rfl rfl) ?_
   refine .nil ?_
   refine hK6 _ _ ?_
   refine .cond rfl (fun h9 => ?_) (fun h9 => ?_)
   ·
    simp only [sps] at h9
    refine .skip ?_
    refine hK5 _ _ ?_
    refine .seq (fun K7 hK7 => ?_)
    refine .block ?_
    refine .region ?_
    refine .m rfl rfl rfl (.move rfl) ?_
    refine .m rfl rfl rfl (.move rfl) ?_
    refine .m rfl rfl rfl (.move rfl) ?_
    refine .m rfl rfl rfl (.move rfl) ?_
    refine .m rfl rfl rfl (.idxN sl_22_A (by assumption) rfl rfl (by omega)) ?_
    refine .m rfl rfl rfl (.loadI on_2_A (by assumption) rfl (by omega)) ?_
    refine .callQ rfl rfl rfl rfl @Try.call85 rfl (l01Index_c) ?_
    refine .m rfl rfl rfl (.move rfl) ?_
    refine .r rfl rfl rfl (.litR rfl sl_22_A ze_2_E rfl rfl (by omega) (by omega) rfl rfl) ?_
    rintro _ H20 ⟨g20, rfl, le20, ge20, at20⟩
    have nx_H20 := le20.1
    replace hle := hle.trans le20
    replace lst1 := lst1.le le20
    replace rk := rk.le le20
    replace at_L3 := le20.2 _ _ at_L3
    have lt_at20 := GHeap.lt_of_get at20
    replace h := base_h.mono hle
    refine .r rfl rfl rfl (.litR rfl sl_23_B ze_22_E rfl rfl (by omega) (by omega) rfl rfl) ?_
    rintro _ H21 ⟨g21, rfl, le21, ge21, at21⟩
    have nx_H21 := le21.1
    replace hle := hle.trans le21
    replace lst1 := lst1.le le21
    replace rk := rk.le le21
    replace at_L3 := le21.2 _ _ at_L3
    replace at20 := le21.2 _ _ at20
    have lt_at21 := GHeap.lt_of_get at21
    replace h := base_h.mono hle
    refine .r rfl rfl rfl (.appendV rfl sl_23_B ze_22_E rfl by_22_E sl_23_B rfl rfl (by assumption) (by assumption) (by first | omega | (simp <;> omega)) rfl rfl (by omega) (by omega)) ?_
    rintro _ H22 ⟨g22, rfl, st22, ge22, at22⟩
    have nx_H22 := st22.nx
    replace hle := hle.st st22 (fun k hk => ⟨by omega, trivial⟩)
    replace lst1 := lst1.st st22 (fun k hk ho => by simp only [out, and_true] at ho ⊢ <;> omega)
    replace rk := rk.st st22 (fun k hk ho => by simp only [out, and_true] at ho ⊢ <;> omega)
    replace at20 := st22.same _ _ ⟨by omega, trivial⟩ at20
    replace at21 := st22.same _ _ ⟨by omega, trivial⟩ at21
    have lt_at22 := GHeap.lt_of_get at22
    replace h := base_h.mono hle
    refine .m rfl rfl rfl (.assign rfl) ?_
    refine .nil ?_
    refine hK7 _ _ ?_
    refine .region ?_
    refine .m rfl rfl rfl (.move rfl) ?_
    refine .m rfl rfl rfl (.add rfl rfl rfl (by omega) (by omega)) ?_
    refine .m rfl rfl rfl (.assign rfl) ?_
    refine .nil ?_
    refine hKL1 ((i + 1, upd rr (pairsL xs i).length (some ⟨g20, 0, none⟩), _, _)) _ _ ?_ ?_ ⟨rfl, rfl, rfl, trivial⟩
    ·
     refine ⟨lst1, by first | assumption | (rw [pairsL_succ, slsL_snoc]; assumption), by omega, by first | omega | (simp only [List.length_append, List.length_cons, List.length_nil] <;> omega) | (rw [pairsL_succ, slsL_snoc] <;> (first | omega | (simp only [List.length_append, List.length_cons, List.length_nil] <;> omega))), ?_⟩
     exact ⟨by omega, by rw [pairsL_succ]; exact hR.snoc (x := [(rep xs i : Int), (i : Int)]) (rk.lasts1 hat3 rfl) (by rw [idxL_rep (by omega)] at at20; exact at20) (by omega) (by omega)⟩
    ·
     (dsimp only; omega)
   ·
    try simp only [sps] at h9
    refine .exit ?_
    refine hK3 _ _ ?_
    refine .seq (fun K8 hK8 => ?_)
    refine .region ?_
    refine .m rfl rfl rfl (.move rfl) ?_
    refine .m rfl rfl rfl (.assign rfl) ?_
    refine .nil ?_
    refine hK8 _ _ ?_
    refine .ret ?_
    -- leaf e1
    refine hret _ _ ?_
    refine ⟨_, rfl, ?_⟩
    obtain rfl : i = xs.length := by omega
    exact ⟨hle, _, rr, by rw [ln_L3]; simp, hR.done at_L3 (by omega)⟩
theorem l01Own2_c {a : Option Addr} {pss : List (List Int)} {r : Nat → Option Addr} {H : GHeap} (h : Intss H a pss r := by assumption) (hl : pss.length ≤ 1048576 := by omega) (hl2 : ∀ i, (pss.getD i []).length ≤ 1048576) :
    GCalls Try.prog 120 [.slice a pss.length pss.length] H (fun v H' => H.Le H' ∧ ∃ g r, v = .slice (some ⟨g, 0, none⟩) pss.length pss.length ∧ H'.get g = some (.row (slsL r pss) 22 true) ∧ H.next ≤ g ∧ OwnL H.next H' 2 r pss) := by
  refine GCalls.body (N := 21) (rs := [.tmp 2]) Try.func120 rfl rfl rfl rfl (fun Qx hret hend => ?_)
  refine .forget (fr' := [(0, some _)]) ⟨rfl, trivial⟩ ?_
  have hle := GHeap.Le.refl H
  have base_h := h
  refine .seq (fun K1 hK1 => ?_)
  refine .region ?_
  refine .m rfl rfl rfl (.assign rfl) ?_
  refine .nil ?_
  refine hK1 _ _ ?_
  refine .seq (fun K2 hK2 => ?_)
  refine .region ?_
  refine .r rfl rfl rfl (.litR rfl sl_23_B ze_22_E rfl rfl (by omega) (by omega) rfl rfl) ?_
  rintro _ H5 ⟨g5, rfl, le5, ge5, at5⟩
  have nx_H5 := le5.1
  replace hle := hle.trans le5
  have lt_at5 := GHeap.lt_of_get at5
  replace h := base_h.mono hle
  refine .m rfl rfl rfl (.assign rfl) ?_
  refine .nil ?_
  refine hK2 _ _ ?_
  refine .seq (fun K3 hK3 => ?_)
  refine .seq (fun K4 hK4 => ?_)
  refine .region ?_
  refine .m rfl rfl rfl (.assign rfl) ?_
  refine .nil ?_
  refine hK4 _ _ ?_
  refine .block ?_
  refine .loopR (σ := Nat × (Nat → Option Addr) × Nat × Nat) [(0, some _)] (fun (i, rr, gL3, nL3) => [(4, some (.int .i64 (i : Int))), (3, some (.slice (some ⟨gL3, 0, none⟩) nL3 nL3))]) (fun (i, rr, gL3, nL3) H' => St [g5] H5 H' ∧ H'.get gL3 = some (.row ((slsL rr (pss.take i))) 22 true) ∧ (gL3 = g5 ∨ H5.next ≤ gL3) ∧ nL3 = (slsL rr (pss.take i)).length ∧ i ≤ pss.length ∧ OwnL H.next H' 2 rr (pss.take i)) (fun (i, rr, gL3, nL3) => pss.length - i) ((0, fun _ => none, _, _)) ⟨rfl, trivial⟩ ⟨rfl, rfl, trivial⟩ ?_ ?_
  ·
   refine ⟨.refl _ _, by first | assumption | exact at5 | simpa using at5, .inl rfl, by first | rfl | assumption | simp | omega, ?_⟩
   exact ⟨by omega, .nil _ _ _ _⟩
  ·
   rintro ⟨i, rr, gL3, nL3⟩ HL1 ⟨lst1, at_L3, pl_L3, ln_L3, hI⟩ KL1 hKL1
   refine .forget (fr' := [(4, some (.int .i64 (i : Int))), (3, some (.slice (some ⟨gL3, 0, none⟩) nL3 nL3)), (0, some _)]) ⟨rfl, rfl, rfl, trivial⟩ ?_
   have ge_L3 : H.next ≤ gL3 := by omega
   have nx_HL1 := lst1.nx
   replace hle := hle.st lst1 (fun k hk => ⟨by omega, trivial⟩)
   have lt_at_L3 := GHeap.lt_of_get at_L3
   replace h := base_h.mono hle
   have rk := St.refl [gL3] HL1
   obtain ⟨hi, hR⟩ := hI
   have hat3 := at_L3
   have htk : (pss.take i).length = i := by rw [List.length_take]; omega
   have hfl : (slsL rr (pss.take i)).length = (pss.take i).length := length_slsL _ _
   have hli := hl2 i
   refine .seq (fun K5 hK5 => ?_)
   refine .seq (fun K6 hK6 => ?_)
   refine .region ?_
   refine .m rfl rfl rfl (.move rfl) ?_
   refine .m rfl rfl rfl (.move rfl) ?_
   refine .m rfl rfl rfl (.len sl_23_B rfl) ?_
   refine .m rfl rfl rfl (.cmp rfl rfl rfl) ?_
   refine .nil ?_
   refine hK6 _ _ ?_
   refine .cond rfl (fun h9 => ?_) (fun h9 => ?_)
   ·
    simp only [sps] at h9
    have u1 := h.2 i (by omega)
    refine .skip ?_
    refine hK5 _ _ ?_
    refine .seq (fun K7 hK7 => ?_)
    refine .block ?_
    refine .region ?_
    refine .m rfl rfl rfl (.move rfl) ?_
    refine .m rfl rfl rfl (.move rfl) ?_
    refine .m rfl rfl rfl (.move rfl) ?_
    refine .m rfl rfl rfl (.idxN sl_23_B (Intss.sl (by assumption)) rfl rfl (by omega)) ?_
    refine .m rfl rfl rfl (.loadR on_22_B (by assumption) rfl (by omega)) ?_
    refine .call rfl rfl rfl rfl @Try.call132 rfl (l01Own_c) ?_
    rintro _ H17 ⟨le17, g17, rfl, at17, ge17⟩
    have nx_H17 := le17.1
    replace hle := hle.trans le17
    replace lst1 := lst1.le le17
    replace rk := rk.le le17
    replace at_L3 := le17.2 _ _ at_L3
    have lt_at17 := GHeap.lt_of_get at17
    replace h := base_h.mono hle
    clear u1
    have u1 := h.2 i (by omega)
    have i17 := Ints.of_get at17
    refine .r rfl rfl rfl (.litR rfl sl_23_B ze_22_E rfl rfl (by omega) (by omega) rfl rfl) ?_
    rintro _ H18 ⟨g18, rfl, le18, ge18, at18⟩
    have nx_H18 := le18.1
    replace hle := hle.trans le18
    replace lst1 := lst1.le le18
    replace rk := rk.le le18
    replace at_L3 := le18.2 _ _ at_L3
    replace at17 := le18.2 _ _ at17
    have lt_at18 := GHeap.lt_of_get at18
    replace h := base_h.mono hle
    clear u1
    have u1 := h.2 i (by omega)
    clear i17
    have i17 := Ints.of_get at17
    refine .r rfl rfl rfl (.appendV rfl sl_23_B ze_22_E rfl by_22_E sl_23_B rfl rfl (by assumption) (by assumption) (by first | omega | (simp <;> omega)) rfl rfl (by omega) (by omega)) ?_
    rintro _ H19 ⟨g19, rfl, st19, ge19, at19⟩
    have nx_H19 := st19.nx
    replace hle := hle.st st19 (fun k hk => ⟨by omega, trivial⟩)
    replace lst1 := lst1.st st19 (fun k hk ho => by simp only [out, and_true] at ho ⊢ <;> omega)
    replace rk := rk.st st19 (fun k hk ho => by simp only [out, and_true] at ho ⊢ <;> omega)
    replace at17 := st19.same _ _ ⟨by omega, trivial⟩ at17
    replace at18 := st19.same _ _ ⟨by omega, trivial⟩ at18
    have lt_at19 := GHeap.lt_of_get at19
    replace h := base_h.mono hle
    clear u1
    have u1 := h.2 i (by omega)
    clear i17
    have i17 := Ints.of_get at17
    refine .m rfl rfl rfl (.assign rfl) ?_
    refine .nil ?_
    refine hK7 _ _ ?_
    refine .region ?_
    refine .m rfl rfl rfl (.move rfl) ?_
    refine .m rfl rfl rfl (.add rfl rfl rfl (by omega) (by omega)) ?_
    refine .m rfl rfl rfl (.assign rfl) ?_
    refine .nil ?_
    refine hKL1 ((i + 1, upd rr (pss.take i).length (some ⟨g17, 0, none⟩), _, _)) _ _ ?_ ?_ ⟨rfl, rfl, rfl, trivial⟩
    ·
     refine ⟨lst1, by first | assumption | (rw [take_snocQ (by omega), slsL_snoc]; assumption), by omega, by first | omega | (simp only [List.length_append, List.length_cons, List.length_nil] <;> omega) | (rw [take_snocQ (by omega), slsL_snoc] <;> (first | omega | (simp only [List.length_append, List.length_cons, List.length_nil] <;> omega))), ?_⟩
     exact ⟨by omega, by rw [take_snocQ (by omega)]; exact hR.snoc (x := pss.getD i []) (rk.lasts1 hat3 rfl) (by assumption) (by omega) (by omega)⟩
    ·
     (dsimp only; omega)
   ·
    try simp only [sps] at h9
    refine .exit ?_
    refine hK3 _ _ ?_
    refine .seq (fun K8 hK8 => ?_)
    refine .region ?_
    refine .m rfl rfl rfl (.move rfl) ?_
    refine .m rfl rfl rfl (.assign rfl) ?_
    refine .nil ?_
    refine hK8 _ _ ?_
    refine .ret ?_
    -- leaf e1
    refine hret _ _ ?_
    refine ⟨_, rfl, ?_⟩
    obtain rfl : i = pss.length := by omega
    rw [List.take_length] at hR at_L3 ln_L3
    exact ⟨hle, _, rr, by rw [ln_L3, length_slsL], at_L3, by omega, hR⟩
theorem l01Own2N_c {a : Option Addr} {n : Nat} {pss : List (List Int)} {r : Nat → Option Addr} {H : GHeap} (hn : pss.length = n) (h : Intss H a pss r) (hl : n ≤ 1048576) (hl2 : ∀ i, (pss.getD i []).length ≤ 1048576) :
    GCalls Try.prog 120 [.slice a n n] H (fun v H' => H.Le H' ∧ ∃ g r, v = .slice (some ⟨g, 0, none⟩) n n ∧ H'.get g = some (.row (slsL r pss) 22 true) ∧ H.next ≤ g ∧ OwnL H.next H' 2 r pss) := by
  subst hn
  exact l01Own2_c h hl hl2
set_option maxHeartbeats 4000000 in
theorem l03Spread_c {c : Cat} {p : CatP} {xs : List Int} {a : Option Addr} {r : Nat → Option Addr} {n : Nat} {H : GHeap} (hin : c.In H p := by assumption) (hv : Intss H a (pairsL xs n) r := by assumption) (hS : c.Shape) (hn : n = c.src.length) (hp : c.ParOk xs) :
    GCalls Try.prog 84 [.agg (c.cells p).toArray, .slice a n n] H (NewInts 2 H (joinL c.src.length ((c.quL xs c.src.length 0 0).map fun p => (pA p, pB p)))) := by
  subst hn
  have b1 := hS.n40
  have b2 := hS.tl
  have b3 := length_pairsL xs c.src.length
  refine GCalls.body (N := 90) (rs := [.tmp 4]) Try.func84 rfl rfl rfl rfl (fun Qx hret hend => ?_)
  refine .forget (fr' := [(0, some _), (1, some _)]) ⟨rfl, rfl, trivial⟩ ?_
  have hle := GHeap.Le.refl H
  have base_hin := hin
  have base_hv := hv
  refine .seq (fun K1 hK1 => ?_)
  refine .region ?_
  refine .r rfl rfl rfl (.boxR rfl sz_27_D rfl) ?_
  rintro _ H2 ⟨g2, rfl, le2, ge2, at2⟩
  have nx_H2 := le2.1
  replace hle := hle.trans le2
  have lt_at2 := GHeap.lt_of_get at2
  replace hin := base_hin.mono hle
  replace hv := base_hv.mono hle
  have hb2 : Cat.At _ g2 0 c p := ⟨Mem.of_get at2, hin⟩
  obtain ⟨c02, c12, c22, c32, c42, i12, i22, i32, i42⟩ := hb2.get
  have hm2 : MemN _ _ _ _ _ := ⟨rfl, hb2.1⟩
  have hi2 := hb2.2
  refine .m rfl rfl rfl (.assign rfl) ?_
  refine .nil ?_
  refine hK1 _ _ ?_
  refine .seq (fun K2 hK2 => ?_)
  refine .region ?_
  refine .m rfl rfl rfl (.fieldAddr fo_27_1_B rfl) ?_
  refine .m rfl rfl rfl (.load on_22_B rfl (by first | assumption | exact Mem.of_get at2 1 _ rfl)) ?_
  refine .m rfl rfl rfl (.len sl_22_A rfl) ?_
  refine .m rfl rfl rfl (.assign rfl) ?_
  refine .nil ?_
  refine hK2 _ _ ?_
  refine .seq (fun K3 hK3 => ?_)
  refine .region ?_
  refine .m rfl rfl rfl (.move rfl) ?_
  refine .call rfl rfl rfl rfl @Try.call120 rfl (l01Own2N_c b3 hv (by omega) (pairsL_len xs _)) ?_
  rintro _ H16 ⟨le16, g16, r16, rfl, at16, ge16, hR16⟩
  have nx_H16 := le16.1
  replace hle := hle.trans le16
  replace at2 := le16.2 _ _ at2
  have lt_at16 := GHeap.lt_of_get at16
  replace hin := base_hin.mono hle
  replace hv := base_hv.mono hle
  clear hb2 c02 c12 c22 c32 c42 i12 i22 i32 i42 hm2 hi2
  have hb2 : Cat.At _ g2 0 c p := ⟨Mem.of_get at2, hin⟩
  obtain ⟨c02, c12, c22, c32, c42, i12, i22, i32, i42⟩ := hb2.get
  have hm2 : MemN _ _ _ _ _ := ⟨rfl, hb2.1⟩
  have hi2 := hb2.2
  refine .m rfl rfl rfl (.assign rfl) ?_
  refine .nil ?_
  refine hK3 _ _ ?_
  refine .seq (fun K4 hK4 => ?_)
  refine .seq (fun K5 hK5 => ?_)
  refine .region ?_
  refine .m rfl rfl rfl (.assign rfl) ?_
  refine .nil ?_
  refine hK5 _ _ ?_
  refine .block ?_
  refine .loopR (σ := Nat × (Nat → Option Addr) × Nat × Nat) [(1, some _), (2, some _), (5, some _)] (fun (k, rr, gL6, nL6) => [(7, some (.int .i64 (k : Int))), (6, some (.slice (some ⟨gL6, 0, none⟩) nL6 nL6))]) (fun (k, rr, gL6, nL6) H' => St [g16] H16 H' ∧ H'.get gL6 = some (.row ((slsL rr (c.quL xs k 0 0))) 22 true) ∧ (gL6 = g16 ∨ H16.next ≤ gL6) ∧ nL6 = (slsL rr (c.quL xs k 0 0)).length ∧ k ≤ c.src.length ∧ OwnL H.next H' 2 rr (c.quL xs k 0 0)) (fun (k, rr, gL6, nL6) => c.src.length - k) ((0, r16, _, _)) ⟨rfl, rfl, rfl, trivial⟩ ⟨rfl, rfl, trivial⟩ ?_ ?_
  ·
   refine ⟨.refl _ _, by rw [Cat.quL_zero]; assumption, .inl rfl, by first | rfl | assumption | simp | omega, ?_⟩
   exact ⟨by omega, by rw [Cat.quL_zero]; exact hR16.low (by omega)⟩
  ·
   rintro ⟨k, rr, gL6, nL6⟩ HL1 ⟨lst1, at_L6, pl_L6, ln_L6, hI⟩ KL1 hKL1
   refine .forget (fr' := [(7, some (.int .i64 (k : Int))), (6, some (.slice (some ⟨gL6, 0, none⟩) nL6 nL6)), (1, some _), (2, some _), (5, some _)]) ⟨rfl, rfl, rfl, rfl, rfl, trivial⟩ ?_
   have ge_L6 : H.next ≤ gL6 := by omega
   have nx_HL1 := lst1.nx
   replace hle := hle.st lst1 (fun k hk => ⟨by omega, trivial⟩)
   replace at2 := lst1.same _ _ ⟨by omega, trivial⟩ at2
   have lt_at_L6 := GHeap.lt_of_get at_L6
   replace hin := base_hin.mono hle
   replace hv := base_hv.mono hle
   clear hb2 c02 c12 c22 c32 c42 i12 i22 i32 i42 hm2 hi2
   have hb2 : Cat.At _ g2 0 c p := ⟨Mem.of_get at2, hin⟩
   obtain ⟨c02, c12, c22, c32, c42, i12, i22, i32, i42⟩ := hb2.get
   have hm2 : MemN _ _ _ _ _ := ⟨rfl, hb2.1⟩
   have hi2 := hb2.2
   obtain ⟨hk, hR⟩ := hI
   refine .seq (fun K6 hK6 => ?_)
   refine .seq (fun K7 hK7 => ?_)
   refine .region ?_
   refine .m rfl rfl rfl (.move rfl) ?_
   refine .m rfl rfl rfl (.move rfl) ?_
   refine .m rfl rfl rfl (.len sl_23_B rfl) ?_
   refine .m rfl rfl rfl (.cmp rfl rfl rfl) ?_
   refine .nil ?_
   refine hK7 _ _ ?_
   refine .cond rfl (fun h20 => ?_) (fun h20 => ?_)
   ·
    simp only [sps] at h20
    have rk1 := rep_lt (xs := xs) (k := k) (n := c.src.length) (by omega)
    have q0 := pairsL_get (xs := xs) (m := c.src.length) (i := k) (by omega)
    have q1 : ((pairsL xs c.src.length).getD k []).length = 2 := by rw [q0]; rfl
    have q2 : ((pairsL xs c.src.length).getD k []).getD 0 0 = (rep xs k : Int) := by rw [q0]; rfl
    have q3 : ((pairsL xs c.src.length).getD k []).getD 1 0 = (k : Int) := by rw [q0]; rfl
    have u1 := hv.2 k (by omega)
    have hvs := hv.slN b3
    refine .skip ?_
    refine hK6 _ _ ?_
    refine .seq (fun K8 hK8 => ?_)
    refine .block ?_
    refine .seq (fun K9 hK9 => ?_)
    refine .regionD mixed_orders_B (.q 0 (.q 1 (.q 2 (.q 3 (.q 4 (.q 5 (.q 6 (.q 7 (.q 8 (.q 9 (.q 10 (.q 11 (.q 12 (.q 13 (.done))))))))))))))) (by kernel_rfl) ?_
    refine .m rfl rfl rfl rfl (.refl _) (.move rfl) ?_
    refine .m rfl rfl rfl rfl (.refl _) (.move rfl) ?_
    refine .m rfl rfl rfl rfl (.refl _) (.idxN sl_23_B hvs rfl rfl (by omega)) ?_
    refine .m rfl rfl rfl rfl (.refl _) (.loadR on_22_B (by assumption) rfl (by omega)) ?_
    refine .m rfl rfl rfl rfl (.refl _) (.idxN (j := 0) sl_22_A (by assumption) rfl rfl (by omega)) ?_
    refine .m rfl rfl rfl rfl (.refl _) (.loadI on_2_A (by assumption) rfl (by omega)) ?_
    refine .m rfl rfl rfl rfl (.refl _) (.move rfl) ?_
    refine .m rfl rfl rfl rfl (.refl _) (.move rfl) ?_
    refine .m rfl rfl rfl rfl (.refl _) (.idxN sl_23_B hvs rfl rfl (by omega)) ?_
    refine .m rfl rfl rfl rfl (.refl _) (.loadR on_22_B (by assumption) rfl (by omega)) ?_
    refine .m rfl rfl rfl rfl (.refl _) (.idxN (j := 1) sl_22_A (by assumption) rfl rfl (by omega)) ?_
    refine .m rfl rfl rfl rfl (.refl _) (.loadI on_2_A (by assumption) rfl (by omega)) ?_
    refine .m rfl rfl rfl rfl (.refl _) (.assign rfl) ?_
    refine .m rfl rfl rfl rfl (.refl _) (.assign rfl) ?_
    refine .done ?_
    refine hK9 _ _ ?_
    refine .seq (fun K10 hK10 => ?_)
    refine .region ?_
    refine .m rfl rfl rfl (.assign rfl) ?_
    refine .nil ?_
    refine hK10 _ _ ?_
    refine .block ?_
    refine .loopR (σ := Nat × (Nat → Option Addr) × Nat × Nat) [(1, some _), (2, some _), (5, some _), (7, some _), (8, some _), (9, some _)] (fun (i, r2, gL6v2, nL6v2) => [(10, some (.int .i64 (i : Int))), (6, some (.slice (some ⟨gL6v2, 0, none⟩) nL6v2 nL6v2))]) (fun (i, r2, gL6v2, nL6v2) H' => St [gL6] HL1 H' ∧ H'.get gL6v2 = some (.row ((slsL r2 (c.quL xs k i 0))) 22 true) ∧ (gL6v2 = gL6 ∨ HL1.next ≤ gL6v2) ∧ nL6v2 = (slsL r2 (c.quL xs k i 0)).length ∧ i ≤ c.src.length ∧ OwnL H.next H' 2 r2 (c.quL xs k i 0)) (fun (i, r2, gL6v2, nL6v2) => c.src.length - i) ((0, rr, _, _)) ⟨rfl, rfl, rfl, rfl, rfl, rfl, trivial⟩ ⟨rfl, rfl, trivial⟩ ?_ ?_
    ·
     refine ⟨.refl _ _, by first | assumption | exact at_L6 | simpa using at_L6, .inl rfl, by first | rfl | assumption | simp | omega, ?_⟩
     exact ⟨by omega, hR⟩
    ·
     rintro ⟨i, r2, gL6v2, nL6v2⟩ HL2 ⟨lst2, at_L6v2, pl_L6v2, ln_L6v2, hI⟩ KL2 hKL2
     refine .forget (fr' := [(10, some (.int .i64 (i : Int))), (6, some (.slice (some ⟨gL6v2, 0, none⟩) nL6v2 nL6v2)), (1, some _), (2, some _), (5, some _), (7, some _), (8, some _), (9, some _)]) ⟨rfl, rfl, rfl, rfl, rfl, rfl, rfl, rfl, trivial⟩ ?_
     have ge_L6v2 : H.next ≤ gL6v2 := by omega
     have nx_HL2 := lst2.nx
     replace hle := hle.st lst2 (fun k hk => ⟨by omega, trivial⟩)
     replace lst1 := lst1.st lst2 (fun k hk ho => by simp only [out, and_true] at ho ⊢ <;> omega)
     replace at2 := lst2.same _ _ ⟨by omega, trivial⟩ at2
     have lt_at_L6v2 := GHeap.lt_of_get at_L6v2
     replace hin := base_hin.mono hle
     replace hv := base_hv.mono hle
     clear hb2 c02 c12 c22 c32 c42 i12 i22 i32 i42 hm2 hi2
     have hb2 : Cat.At _ g2 0 c p := ⟨Mem.of_get at2, hin⟩
     obtain ⟨c02, c12, c22, c32, c42, i12, i22, i32, i42⟩ := hb2.get
     have hm2 : MemN _ _ _ _ _ := ⟨rfl, hb2.1⟩
     have hi2 := hb2.2
     clear u1 hvs
     have u1 := hv.2 k (by omega)
     have hvs := hv.slN b3
     obtain ⟨hi, hR⟩ := hI
     refine .seq (fun K11 hK11 => ?_)
     refine .seq (fun K12 hK12 => ?_)
     refine .region ?_
     refine .m rfl rfl rfl (.move rfl) ?_
     refine .m rfl rfl rfl (.move rfl) ?_
     refine .m rfl rfl rfl (.cmp rfl rfl rfl) ?_
     refine .nil ?_
     refine hK12 _ _ ?_
     refine .cond rfl (fun h37 => ?_) (fun h37 => ?_)
     ·
      simp only [sps] at h37
      refine .skip ?_
      refine hK11 _ _ ?_
      refine .seq (fun K13 hK13 => ?_)
      refine .block ?_
      refine .seq (fun K14 hK14 => ?_)
      refine .region ?_
      refine .m rfl rfl rfl (.assign rfl) ?_
      refine .nil ?_
      refine hK14 _ _ ?_
      refine .block ?_
      refine .loopR (σ := Nat × (Nat → Option Addr) × Nat × Nat) [(1, some _), (2, some _), (5, some _), (7, some _), (8, some _), (9, some _), (10, some _)] (fun (j, r3, gL6v3, nL6v3) => [(11, some (.int .i64 (j : Int))), (6, some (.slice (some ⟨gL6v3, 0, none⟩) nL6v3 nL6v3))]) (fun (j, r3, gL6v3, nL6v3) H' => St [gL6v2] HL2 H' ∧ H'.get gL6v3 = some (.row ((slsL r3 (c.quL xs k i j))) 22 true) ∧ (gL6v3 = gL6v2 ∨ HL2.next ≤ gL6v3) ∧ nL6v3 = (slsL r3 (c.quL xs k i j)).length ∧ j ≤ c.src.length ∧ OwnL H.next H' 2 r3 (c.quL xs k i j)) (fun (j, r3, gL6v3, nL6v3) => c.src.length - j) ((0, r2, _, _)) ⟨rfl, rfl, rfl, rfl, rfl, rfl, rfl, trivial⟩ ⟨rfl, rfl, trivial⟩ ?_ ?_
      ·
       refine ⟨.refl _ _, by first | assumption | exact at_L6v2 | simpa using at_L6v2, .inl rfl, by first | rfl | assumption | simp | omega, ?_⟩
       exact ⟨by omega, hR⟩
      ·
       rintro ⟨j, r3, gL6v3, nL6v3⟩ HL3 ⟨lst3, at_L6v3, pl_L6v3, ln_L6v3, hI⟩ KL3 hKL3
       refine .forget (fr' := [(11, some (.int .i64 (j : Int))), (6, some (.slice (some ⟨gL6v3, 0, none⟩) nL6v3 nL6v3)), (1, some _), (2, some _), (5, some _), (7, some _), (8, some _), (9, some _), (10, some _)]) ⟨rfl, rfl, rfl, rfl, rfl, rfl, rfl, rfl, rfl, trivial⟩ ?_
       have ge_L6v3 : H.next ≤ gL6v3 := by omega
       have nx_HL3 := lst3.nx
       replace hle := hle.st lst3 (fun k hk => ⟨by omega, trivial⟩)
       replace lst1 := lst1.st lst3 (fun k hk ho => by simp only [out, and_true] at ho ⊢ <;> omega)
       replace lst2 := lst2.st lst3 (fun k hk ho => by simp only [out, and_true] at ho ⊢ <;> omega)
       replace at2 := lst3.same _ _ ⟨by omega, trivial⟩ at2
       have lt_at_L6v3 := GHeap.lt_of_get at_L6v3
       replace hin := base_hin.mono hle
       replace hv := base_hv.mono hle
       clear hb2 c02 c12 c22 c32 c42 i12 i22 i32 i42 hm2 hi2
       have hb2 : Cat.At _ g2 0 c p := ⟨Mem.of_get at2, hin⟩
       obtain ⟨c02, c12, c22, c32, c42, i12, i22, i32, i42⟩ := hb2.get
       have hm2 : MemN _ _ _ _ _ := ⟨rfl, hb2.1⟩
       have hi2 := hb2.2
       clear u1 hvs
       have u1 := hv.2 k (by omega)
       have hvs := hv.slN b3
       have rk := St.refl [gL6v3] HL3
       obtain ⟨hj, hR⟩ := hI
       have hat6 := at_L6v3
       have hln := Cat.quL_le (xs := xs) (k := k) (i := i) (j := j) b1 (by omega) (by omega) hj
       have hfl : (slsL r3 (c.quL xs k i j)).length = (c.quL xs k i j).length := length_slsL _ _
       refine .seq (fun K15 hK15 => ?_)
       refine .seq (fun K16 hK16 => ?_)
       refine .region ?_
       refine .m rfl rfl rfl (.move rfl) ?_
       refine .m rfl rfl rfl (.move rfl) ?_
       refine .m rfl rfl rfl (.cmp rfl rfl rfl) ?_
       refine .nil ?_
       refine hK16 _ _ ?_
       refine .cond rfl (fun h42 => ?_) (fun h42 => ?_)
       ·
        simp only [sps] at h42
        refine .skip ?_
        refine hK15 _ _ ?_
        refine .seq (fun K17 hK17 => ?_)
        refine .block ?_
        refine .seq (fun K18 hK18 => ?_)
        refine .regionD mixed_orders_B (.q 0 (.q 1 (.q 2 (.q 3 (.q 4 (.q 5 (.q 6 (.q 7 (.q 8 (.q 9 (.q 10 (.q 11 (.q 12 (.q 13 (.q 14 (.q 15 (.q 16 (.q 17 (.q 18 (.q 19 (.q 20 (.q 21 (.q 22 (.q 23 (.done))))))))))))))))))))))))) (by kernel_rfl) ?_
        refine .m rfl rfl rfl rfl (.refl _) (.fieldAddr fo_27_2_B rfl) ?_
        refine .m rfl rfl rfl rfl (.refl _) (.load on_22_B rfl (by first | assumption | exact Mem.of_get at2 2 _ rfl)) ?_
        refine .m rfl rfl rfl rfl (.refl _) (.move rfl) ?_
        refine .m rfl rfl rfl rfl (.refl _) (.idxN sl_22_A (by assumption) rfl rfl (by omega)) ?_
        refine .m rfl rfl rfl rfl (.refl _) (.loadI on_2_A (by assumption) rfl (by omega)) ?_
        refine .m rfl rfl rfl rfl (.refl _) (.fieldAddr fo_27_1_B rfl) ?_
        refine .m rfl rfl rfl rfl (.refl _) (.load on_22_B rfl (by first | assumption | exact Mem.of_get at2 1 _ rfl)) ?_
        refine .m rfl rfl rfl rfl (.refl _) (.move rfl) ?_
        refine .m rfl rfl rfl rfl (.refl _) (.idx1 sl_22_A (by assumption) rfl rfl (by omega) (by omega)) ?_
        refine .m rfl rfl rfl rfl (.refl _) (.loadI on_2_A (by assumption) rfl (by omega)) ?_
        refine .m rfl rfl rfl rfl (.refl _) (.cmp rfl rfl rfl) ?_
        refine .m rfl rfl rfl rfl (.refl _) (.move rfl) ?_
        refine .split (fun h56 => ?_) (fun h56 => ?_)
        ·
         simp only [sps] at h56
         rw [q2, Int.toNat_natCast] at h56
         refine .mg rfl rfl rfl rfl rfl rfl (.refl _) (.fieldAddr fo_27_2_B rfl) ?_
         refine .mg rfl rfl rfl rfl rfl rfl (.refl _) (.load on_22_B rfl (by first | assumption | exact Mem.of_get at2 2 _ rfl)) ?_
         refine .mg rfl rfl rfl rfl rfl rfl (.refl _) (.move rfl) ?_
         refine .mg rfl rfl rfl rfl rfl rfl (.refl _) (.idx1 sl_22_A (by assumption) rfl rfl (by omega) (by omega)) ?_
         refine .mg rfl rfl rfl rfl rfl rfl (.refl _) (.loadI on_2_A (by assumption) rfl (by omega)) ?_
         refine .mg rfl rfl rfl rfl rfl rfl (.refl _) (.fieldAddr fo_27_1_B rfl) ?_
         refine .mg rfl rfl rfl rfl rfl rfl (.refl _) (.load on_22_B rfl (by first | assumption | exact Mem.of_get at2 1 _ rfl)) ?_
         refine .mg rfl rfl rfl rfl rfl rfl (.refl _) (.move rfl) ?_
         refine .mg rfl rfl rfl rfl rfl rfl (.refl _) (.idxN sl_22_A (by assumption) rfl rfl (by omega)) ?_
         refine .mg rfl rfl rfl rfl rfl rfl (.refl _) (.loadI on_2_A (by assumption) rfl (by omega)) ?_
         refine .mg rfl rfl rfl rfl rfl rfl (.refl _) (.cmp rfl rfl rfl) ?_
         refine .m rfl rfl rfl rfl (.refl _) (.pickT rfl rfl) ?_
         refine .done ?_
         refine hK18 _ _ ?_
         refine .cond rfl (fun h68 => ?_) (fun h68 => ?_)
         ·
          simp only [sps] at h68
          rw [q2, Int.toNat_natCast] at h68
          obtain ⟨hsn, q5, q6⟩ := Cat.quL_T' hS hp (by omega) (by omega) (by omega) q2 q3 h56 h68
          refine .regionD mixed_orders_B (.q 0 (.q 1 (.q 2 (.q 3 (.q 4 (.q 6 (.q 8 (.q 9 (.q 10 (.q 11 (.q 13 (.c 5 1 (.c 7 1 (.c 12 1 (.c 14 1 (.c 15 1 (.c 16 1 (.c 17 0 (.c 18 0 (.done)))))))))))))))))))) (by kernel_rfl) ?_
          refine .m rfl rfl rfl rfl (.refl _) (.move rfl) ?_
          refine .m rfl rfl rfl rfl (.refl _) (.loadM ag_27_D rfl ⟨rfl, Mem.of_get at2⟩) ?_
          refine .m rfl rfl rfl rfl (.refl _) (.loadM ag_27_D rfl ⟨rfl, Mem.of_get at2⟩) ?_
          refine .m rfl rfl rfl rfl (.refl _) (.move rfl) ?_
          refine .m rfl rfl rfl rfl (.refl _) (.move rfl) ?_
          refine .m rfl rfl rfl rfl (.refl _) (.move rfl) ?_
          refine .m rfl rfl rfl rfl (.refl _) (.loadM ag_27_D rfl ⟨rfl, Mem.of_get at2⟩) ?_
          refine .m rfl rfl rfl rfl (.refl _) (.loadM ag_27_D rfl ⟨rfl, Mem.of_get at2⟩) ?_
          refine .m rfl rfl rfl rfl (.refl _) (.move rfl) ?_
          refine .m rfl rfl rfl rfl (.refl _) (.move rfl) ?_
          refine .m rfl rfl rfl rfl (.refl _) (.move rfl) ?_
          refine .callQ1 rfl rfl rfl rfl rfl @Try.call66 rfl (l02Then_c) (.refl _) ?_
          refine .callQ1 rfl rfl rfl rfl rfl @Try.call66 rfl (l02Then_c) (.refl _) ?_
          refine .callQ1 rfl rfl rfl rfl rfl @Try.call66 rfl (l02Then_c) (.refl _) ?_
          refine .callQ1 rfl rfl rfl rfl rfl @Try.call66 rfl (l02Then_c) (.refl _) ?_
          refine .c1 rfl rfl rfl rfl (.litR rfl sl_22_A ze_2_E rfl rfl (by omega) (by omega) rfl rfl) ?_
          rintro _ H84 ⟨g84, rfl, le84, ge84, at84⟩
          have hbl := le84
          refine ⟨hbl, ?_⟩
          have nx_H84 := le84.1
          replace hle := hle.trans le84
          replace lst1 := lst1.le le84
          replace lst2 := lst2.le le84
          replace lst3 := lst3.le le84
          replace rk := rk.le le84
          replace at2 := le84.2 _ _ at2
          replace at_L6v3 := le84.2 _ _ at_L6v3
          have lt_at84 := GHeap.lt_of_get at84
          replace hin := base_hin.mono hle
          replace hv := base_hv.mono hle
          clear hb2 c02 c12 c22 c32 c42 i12 i22 i32 i42 hm2 hi2
          have hb2 : Cat.At _ g2 0 c p := ⟨Mem.of_get at2, hin⟩
          obtain ⟨c02, c12, c22, c32, c42, i12, i22, i32, i42⟩ := hb2.get
          have hm2 : MemN _ _ _ _ _ := ⟨rfl, hb2.1⟩
          have hi2 := hb2.2
          clear u1 hvs
          have u1 := hv.2 k (by omega)
          have hvs := hv.slN b3
          refine .c1 rfl rfl rfl rfl (.litR rfl sl_23_B ze_22_E rfl rfl (by omega) (by omega) rfl rfl) ?_
          rintro _ H85 ⟨g85, rfl, le85, ge85, at85⟩
          replace hbl := hbl.trans le85
          refine ⟨hbl, ?_⟩
          have nx_H85 := le85.1
          replace hle := hle.trans le85
          replace lst1 := lst1.le le85
          replace lst2 := lst2.le le85
          replace lst3 := lst3.le le85
          replace rk := rk.le le85
          replace at2 := le85.2 _ _ at2
          replace at_L6v3 := le85.2 _ _ at_L6v3
          replace at84 := le85.2 _ _ at84
          have lt_at85 := GHeap.lt_of_get at85
          replace hin := base_hin.mono hle
          replace hv := base_hv.mono hle
          clear hb2 c02 c12 c22 c32 c42 i12 i22 i32 i42 hm2 hi2
          have hb2 : Cat.At _ g2 0 c p := ⟨Mem.of_get at2, hin⟩
          obtain ⟨c02, c12, c22, c32, c42, i12, i22, i32, i42⟩ := hb2.get
          have hm2 : MemN _ _ _ _ _ := ⟨rfl, hb2.1⟩
          have hi2 := hb2.2
          clear u1 hvs
          have u1 := hv.2 k (by omega)
          have hvs := hv.slN b3
          refine .c0 rfl rfl rfl rfl (.appendV rfl sl_23_B ze_22_E rfl by_22_E sl_23_B rfl rfl (by assumption) (by assumption) (by first | omega | (simp <;> omega)) rfl rfl (by omega) (by omega)) ?_
          rintro _ H86 ⟨g86, rfl, st86, ge86, at86⟩
          have nx_H86 := st86.nx
          replace hle := hle.st st86 (fun k hk => ⟨by omega, trivial⟩)
          replace lst1 := lst1.st st86 (fun k hk ho => by simp only [out, and_true] at ho ⊢ <;> omega)
          replace lst2 := lst2.st st86 (fun k hk ho => by simp only [out, and_true] at ho ⊢ <;> omega)
          replace lst3 := lst3.st st86 (fun k hk ho => by simp only [out, and_true] at ho ⊢ <;> omega)
          replace rk := rk.st st86 (fun k hk ho => by simp only [out, and_true] at ho ⊢ <;> omega)
          replace at2 := st86.same _ _ ⟨by omega, trivial⟩ at2
          replace at84 := st86.same _ _ ⟨by omega, trivial⟩ at84
          replace at85 := st86.same _ _ ⟨by omega, trivial⟩ at85
          have lt_at86 := GHeap.lt_of_get at86
          replace hin := base_hin.mono hle
          replace hv := base_hv.mono hle
          clear hb2 c02 c12 c22 c32 c42 i12 i22 i32 i42 hm2 hi2
          have hb2 : Cat.At _ g2 0 c p := ⟨Mem.of_get at2, hin⟩
          obtain ⟨c02, c12, c22, c32, c42, i12, i22, i32, i42⟩ := hb2.get
          have hm2 : MemN _ _ _ _ _ := ⟨rfl, hb2.1⟩
          have hi2 := hb2.2
          clear u1 hvs
          have u1 := hv.2 k (by omega)
          have hvs := hv.slN b3
          obtain ⟨rX, hrX⟩ : ∃ rX, rX = upd r3 (c.quL xs k i j).length (some ⟨g84, 0, none⟩) := ⟨_, rfl⟩
          refine .d0 rfl rfl rfl rfl (.quiet (.assign rfl) CIs.mk) ?_
          refine .done ?_
          refine hK17 _ _ ?_
          refine .region ?_
          refine .m rfl rfl rfl (.move rfl) ?_
          refine .m rfl rfl rfl (.add rfl rfl rfl (by omega) (by omega)) ?_
          refine .m rfl rfl rfl (.assign rfl) ?_
          refine .nil ?_
          refine hKL3 ((j + 1, rX, _, _)) _ _ ?_ ?_ ⟨rfl, rfl, rfl, rfl, rfl, rfl, rfl, rfl, rfl, trivial⟩
          ·
           refine ⟨lst3, by first | assumption | (rw [hsn, hrX, slsL_snoc]; assumption) | (rw [hsn, hrX]; assumption), by omega, by first | omega | (simp only [List.length_append, List.length_cons, List.length_nil] <;> omega) | (rw [hsn, hrX, slsL_snoc] <;> (first | omega | (simp only [List.length_append, List.length_cons, List.length_nil] <;> omega))) | (rw [hsn, hrX] <;> (first | omega | (simp only [List.length_append, List.length_cons, List.length_nil] <;> omega))), ?_⟩
           exact ⟨by omega, by first | (rw [hsn, hrX]; exact hR.snoc (x := [_, _]) (rk.lasts1 hat6 rfl) (by assumption) (by omega) (by omega)) | (rw [hsn, hrX]; exact hR)⟩
          ·
           (dsimp only; omega)
         ·
          simp only [sps] at h68
          rw [q2, Int.toNat_natCast] at h68
          have hsn := Cat.quL_F (c := c) (xs := xs) (k := k) (i := i) (j := j) (by unfold Cat.quOk; rw [decide_eq_false (p := c.tgt.getD (rep xs k) 0 = c.src.getD j 0) h68, Bool.and_false])
          obtain ⟨rX, hrX⟩ : ∃ rX, rX = r3 := ⟨_, rfl⟩
          refine .skip ?_
          refine hK17 _ _ ?_
          refine .region ?_
          refine .m rfl rfl rfl (.move rfl) ?_
          refine .m rfl rfl rfl (.add rfl rfl rfl (by omega) (by omega)) ?_
          refine .m rfl rfl rfl (.assign rfl) ?_
          refine .nil ?_
          refine hKL3 ((j + 1, rX, _, _)) _ _ ?_ ?_ ⟨rfl, rfl, rfl, rfl, rfl, rfl, rfl, rfl, rfl, trivial⟩
          ·
           refine ⟨lst3, by first | assumption | (rw [hsn, hrX, slsL_snoc]; assumption) | (rw [hsn, hrX]; assumption), by omega, by first | omega | (simp only [List.length_append, List.length_cons, List.length_nil] <;> omega) | (rw [hsn, hrX, slsL_snoc] <;> (first | omega | (simp only [List.length_append, List.length_cons, List.length_nil] <;> omega))) | (rw [hsn, hrX] <;> (first | omega | (simp only [List.length_append, List.length_cons, List.length_nil] <;> omega))), ?_⟩
           exact ⟨by omega, by first | (rw [hsn, hrX]; exact hR.snoc (x := [_, _]) (rk.lasts1 hat6 rfl) (by assumption) (by omega) (by omega)) | (rw [hsn, hrX]; exact hR)⟩
          ·
           (dsimp only; omega)
        ·
         simp only [sps] at h56
         rw [q2, Int.toNat_natCast] at h56
         have hsn := Cat.quL_F (c := c) (xs := xs) (k := k) (i := i) (j := j) (by unfold Cat.quOk; rw [decide_eq_false h56, Bool.false_and])
         obtain ⟨rX, hrX⟩ : ∃ rX, rX = r3 := ⟨_, rfl⟩
         refine .sg rfl rfl rfl rfl rfl rfl ?_
         refine .sg rfl rfl rfl rfl rfl rfl ?_
         refine .sg rfl rfl rfl rfl rfl rfl ?_
         refine .sg rfl rfl rfl rfl rfl rfl ?_
         refine .sg rfl rfl rfl rfl rfl rfl ?_
         refine .sg rfl rfl rfl rfl rfl rfl ?_
         refine .sg rfl rfl rfl rfl rfl rfl ?_
         refine .sg rfl rfl rfl rfl rfl rfl ?_
         refine .sg rfl rfl rfl rfl rfl rfl ?_
         refine .sg rfl rfl rfl rfl rfl rfl ?_
         refine .sg rfl rfl rfl rfl rfl rfl ?_
         refine .m rfl rfl rfl rfl (.refl _) (.pickF rfl rfl) ?_
         refine .done ?_
         refine hK18 _ _ ?_
         refine .condF rfl ?_
         refine .skip ?_
         refine hK17 _ _ ?_
         refine .region ?_
         refine .m rfl rfl rfl (.move rfl) ?_
         refine .m rfl rfl rfl (.add rfl rfl rfl (by omega) (by omega)) ?_
         refine .m rfl rfl rfl (.assign rfl) ?_
         refine .nil ?_
         refine hKL3 ((j + 1, rX, _, _)) _ _ ?_ ?_ ⟨rfl, rfl, rfl, rfl, rfl, rfl, rfl, rfl, rfl, trivial⟩
         ·
          refine ⟨lst3, by first | assumption | (rw [hsn, hrX, slsL_snoc]; assumption) | (rw [hsn, hrX]; assumption), by omega, by first | omega | (simp only [List.length_append, List.length_cons, List.length_nil] <;> omega) | (rw [hsn, hrX, slsL_snoc] <;> (first | omega | (simp only [List.length_append, List.length_cons, List.length_nil] <;> omega))) | (rw [hsn, hrX] <;> (first | omega | (simp only [List.length_append, List.length_cons, List.length_nil] <;> omega))), ?_⟩
          exact ⟨by omega, by first | (rw [hsn, hrX]; exact hR.snoc (x := [_, _]) (rk.lasts1 hat6 rfl) (by assumption) (by omega) (by omega)) | (rw [hsn, hrX]; exact hR)⟩
         ·
          (dsimp only; omega)
       ·
        try simp only [sps] at h42
        refine .exit ?_
        refine hK13 _ _ ?_
        refine .region ?_
        refine .m rfl rfl rfl (.move rfl) ?_
        refine .m rfl rfl rfl (.add rfl rfl rfl (by omega) (by omega)) ?_
        refine .m rfl rfl rfl (.assign rfl) ?_
        refine .nil ?_
        obtain rfl : j = c.src.length := by omega
        refine hKL2 ((i + 1, r3, _, _)) _ _ ?_ ?_ ⟨rfl, rfl, rfl, rfl, rfl, rfl, rfl, rfl, trivial⟩
        ·
         refine ⟨lst2, by first | assumption | (rw [Cat.quL_next2]; assumption), by omega, by first | omega | (simp only [List.length_append, List.length_cons, List.length_nil] <;> omega) | (rw [Cat.quL_next2] <;> (first | omega | (simp only [List.length_append, List.length_cons, List.length_nil] <;> omega))), ?_⟩
         exact ⟨by omega, by rw [Cat.quL_next2]; exact hR⟩
        ·
         (dsimp only; omega)
     ·
      try simp only [sps] at h37
      refine .exit ?_
      refine hK8 _ _ ?_
      refine .region ?_
      refine .m rfl rfl rfl (.move rfl) ?_
      refine .m rfl rfl rfl (.add rfl rfl rfl (by omega) (by omega)) ?_
      refine .m rfl rfl rfl (.assign rfl) ?_
      refine .nil ?_
      obtain rfl : i = c.src.length := by omega
      refine hKL1 ((k + 1, r2, _, _)) _ _ ?_ ?_ ⟨rfl, rfl, rfl, rfl, rfl, trivial⟩
      ·
       refine ⟨lst1, by first | assumption | (rw [Cat.quL_next1]; assumption), by omega, by first | omega | (simp only [List.length_append, List.length_cons, List.length_nil] <;> omega) | (rw [Cat.quL_next1] <;> (first | omega | (simp only [List.length_append, List.length_cons, List.length_nil] <;> omega))), ?_⟩
       exact ⟨by omega, by rw [Cat.quL_next1]; exact hR⟩
      ·
       (dsimp only; omega)
   ·
    try simp only [sps] at h20
    refine .exit ?_
    refine hK4 _ _ ?_
    refine .seq (fun K19 hK19 => ?_)
    refine .region ?_
    refine .m rfl rfl rfl (.move rfl) ?_
    refine .m rfl rfl rfl (.move rfl) ?_
    obtain rfl : k = c.src.length := by omega
    have hiss := hR.intss at_L6 ge_L6
    have hfl : (slsL rr (c.quL xs c.src.length 0 0)).length = (c.quL xs c.src.length 0 0).length := length_slsL _ _
    have hle1 := Cat.quL_le1 (xs := xs) b1 (k := c.src.length) (Nat.le_refl _)
    refine .call rfl rfl rfl rfl @Try.call67 rfl (l01JoinN_c (n := c.src.length) rfl (by omega) hiss (by omega) (by omega) (fun i hi => Cat.quL_row hS hp hi)) ?_
    rintro _ H89 ⟨le89, g89, rfl, at89, ge89⟩
    have nx_H89 := le89.1
    replace hle := hle.trans le89
    replace lst1 := lst1.le le89
    replace at2 := le89.2 _ _ at2
    replace at_L6 := le89.2 _ _ at_L6
    have lt_at89 := GHeap.lt_of_get at89
    replace hin := base_hin.mono hle
    replace hv := base_hv.mono hle
    clear hb2 c02 c12 c22 c32 c42 i12 i22 i32 i42 hm2 hi2
    have hb2 : Cat.At _ g2 0 c p := ⟨Mem.of_get at2, hin⟩
    obtain ⟨c02, c12, c22, c32, c42, i12, i22, i32, i42⟩ := hb2.get
    have hm2 : MemN _ _ _ _ _ := ⟨rfl, hb2.1⟩
    have hi2 := hb2.2
    have i89 := Ints.of_get at89
    refine .m rfl rfl rfl (.assign rfl) ?_
    refine .nil ?_
    refine hK19 _ _ ?_
    refine .ret ?_
    -- leaf e1
    refine hret _ _ ?_
    refine ⟨_, rfl, ?_⟩
    exact ⟨hle, g89, rfl, at89, by omega⟩
theorem l03Parallel2_c {c : Cat} {p : CatP} {f' k' : Int} {f k : Nat} {H : GHeap} (hf : f' = (f : Int)) (hk : k' = (k : Int)) (hin : c.In H p := by assumption) (hS : c.Shape := by assumption) (h1 : f < c.src.length := by omega) (h3 : k < c.src.length := by omega) :
    GCalls Try.prog 82 [.agg (c.cells p).toArray, .int .i64 f', .int .i64 k'] H (Ret (.bool (decide (c.src.getD f 0 = c.src.getD k 0 ∧ c.tgt.getD f 0 = c.tgt.getD k 0))) H) := by
  subst hf hk
  exact l03Parallel_c
set_option maxHeartbeats 4000000 in
theorem l03Congruence_c {c : Cat} {p : CatP} {a : Option Addr} {xs : List Int} {H : GHeap} (hin : c.In H p := by assumption) (h : Ints H a xs := by assumption) (hs : c.Small := by assumption) (hl : xs.length ≤ 1048576 := by omega) (hI : c.Is := by assumption) :
    GCalls Try.prog 42 [.agg (c.cells p).toArray, .slice a xs.length xs.length] H (Ret (.bool (B (c.Cong xs))) H) := by
  refine GCalls.ret rfl ?_
  have hKI := hI
  have hS := hI.1
  have b1 := hS.n40
  have hpl := length_pairsL xs xs.length
  have hjl : (joinL c.src.length ((c.quL xs c.src.length 0 0).map fun p => (pA p, pB p))).length = c.src.length := length_joinL _ _
  refine GCalls.body (N := 46) (rs := [.tmp 4]) Try.func42 rfl rfl rfl rfl (fun Qx hret hend => ?_)
  refine .forget (fr' := [(0, some _), (1, some _)]) ⟨rfl, rfl, trivial⟩ ?_
  have hle := GHeap.Le.refl H
  have base_hin := hin
  have base_h := h
  refine .seq (fun K1 hK1 => ?_)
  refine .region ?_
  refine .r rfl rfl rfl (.boxR rfl sz_27_D rfl) ?_
  rintro _ H2 ⟨g2, rfl, le2, ge2, at2⟩
  have nx_H2 := le2.1
  replace hle := hle.trans le2
  have lt_at2 := GHeap.lt_of_get at2
  replace hin := base_hin.mono hle
  replace h := base_h.mono hle
  have hb2 : Cat.At _ g2 0 c p := ⟨Mem.of_get at2, hin⟩
  obtain ⟨c02, c12, c22, c32, c42, i12, i22, i32, i42⟩ := hb2.get
  have hm2 : MemN _ _ _ _ _ := ⟨rfl, hb2.1⟩
  have hi2 := hb2.2
  refine .m rfl rfl rfl (.assign rfl) ?_
  refine .nil ?_
  refine hK1 _ _ ?_
  refine .seq (fun K2 hK2 => ?_)
  refine .seq (fun K3 hK3 => ?_)
  refine .region ?_
  refine .m rfl rfl rfl (.move rfl) ?_
  refine .m rfl rfl rfl (.len sl_22_A rfl) ?_
  refine .m rfl rfl rfl (.fieldAddr fo_27_1_B rfl) ?_
  refine .m rfl rfl rfl (.load on_22_B rfl (by first | assumption | exact Mem.of_get at2 1 _ rfl)) ?_
  refine .m rfl rfl rfl (.len sl_22_A rfl) ?_
  refine .m rfl rfl rfl (.cmp rfl rfl rfl) ?_
  refine .m rfl rfl rfl (.move rfl) ?_
  refine .split (fun h13 => ?_) (fun h13 => ?_)
  ·
   simp only [sps] at h13
   refine .sg rfl rfl rfl rfl rfl ?_
   refine .sg rfl rfl rfl rfl rfl ?_
   refine .sg rfl rfl rfl rfl rfl ?_
   refine .m rfl rfl rfl (.pickT rfl rfl) ?_
   refine .nil ?_
   refine hK3 _ _ ?_
   refine .condT rfl ?_
   refine .seq (fun K4 hK4 => ?_)
   refine .region ?_
   refine .m rfl rfl rfl (.assign rfl) ?_
   refine .nil ?_
   refine hK4 _ _ ?_
   refine .ret ?_
   -- leaf e1
   refine hret _ _ ?_
   refine ⟨_, rfl, ?_⟩
   first
   | exact ⟨congrArg _ (B_false fun hh => absurd hh.len (by omega)), hle⟩
   | exact ⟨congrArg _ (B_false fun hh => h17 hh.nor.symm), hle⟩
   | exact ⟨congrArg _ (B_false fun hh => h40 (hh.par i (by omega))), hle⟩
   | exact ⟨congrArg _ (by rw [Bool.eq_iff_iff, decide_eq_true_eq, B_iff]; exact (Cat.cong_iff hKI (by omega) h17 (fun k hk => ha k (by omega)))), hle⟩
  ·
   simp only [sps] at h13
   refine .mg rfl rfl rfl rfl rfl (.move rfl) ?_
   refine .callQg rfl rfl rfl rfl rfl rfl @Try.call80 rfl (isPartition_c) ?_
   refine .mg rfl rfl rfl rfl rfl (.not rfl) ?_
   refine .m rfl rfl rfl (.pickF rfl rfl) ?_
   refine .nil ?_
   refine hK3 _ _ ?_
   refine .cond rfl (fun h17 => ?_) (fun h17 => ?_)
   ·
    simp only [sps] at h17
    refine .seq (fun K5 hK5 => ?_)
    refine .region ?_
    refine .m rfl rfl rfl (.assign rfl) ?_
    refine .nil ?_
    refine hK5 _ _ ?_
    refine .ret ?_
    -- leaf e2
    refine hret _ _ ?_
    refine ⟨_, rfl, ?_⟩
    first
    | exact ⟨congrArg _ (B_false fun hh => absurd hh.len (by omega)), hle⟩
    | exact ⟨congrArg _ (B_false fun hh => h17 hh.nor.symm), hle⟩
    | exact ⟨congrArg _ (B_false fun hh => h40 (hh.par i (by omega))), hle⟩
    | exact ⟨congrArg _ (by rw [Bool.eq_iff_iff, decide_eq_true_eq, B_iff]; exact (Cat.cong_iff hKI (by omega) h17 (fun k hk => ha k (by omega)))), hle⟩
   ·
    simp only [sps] at h17
    refine .skip ?_
    refine hK2 _ _ ?_
    refine .seq (fun K6 hK6 => ?_)
    refine .region ?_
    refine .m rfl rfl rfl (.move rfl) ?_
    refine .call rfl rfl rfl rfl @Try.call81 rfl (l01Pairs_c) ?_
    rintro _ H19 ⟨le19, a19, r19, rfl, v19⟩
    have nx_H19 := le19.1
    replace hle := hle.trans le19
    replace at2 := le19.2 _ _ at2
    have bs_v19 := v19
    have lv_v19 : Keep H2.next H19 H19 := fun _ _ _ h => h
    replace hin := base_hin.mono hle
    replace h := base_h.mono hle
    clear hb2 c02 c12 c22 c32 c42 i12 i22 i32 i42 hm2 hi2
    have hb2 : Cat.At _ g2 0 c p := ⟨Mem.of_get at2, hin⟩
    obtain ⟨c02, c12, c22, c32, c42, i12, i22, i32, i42⟩ := hb2.get
    have hm2 : MemN _ _ _ _ _ := ⟨rfl, hb2.1⟩
    have hi2 := hb2.2
    have i19 := v19.intss
    refine .m rfl rfl rfl (.assign rfl) ?_
    refine .nil ?_
    refine hK6 _ _ ?_
    refine .seq (fun K7 hK7 => ?_)
    refine .seq (fun K8 hK8 => ?_)
    refine .region ?_
    refine .m rfl rfl rfl (.assign rfl) ?_
    refine .nil ?_
    refine hK8 _ _ ?_
    refine .block ?_
    refine .loopR (σ := Nat) [(1, some _), (2, some _), (5, some _)] (fun i => [(6, some (.int .i64 (i : Int)))]) (fun i H' => St [] H19 H' ∧ i ≤ xs.length ∧ ∀ j, j < i → c.src.getD (rep xs j) 0 = c.src.getD j 0 ∧ c.tgt.getD (rep xs j) 0 = c.tgt.getD j 0) (fun i => xs.length - i) (0) ⟨rfl, rfl, rfl, trivial⟩ ⟨rfl, trivial⟩ ?_ ?_
    ·
     refine ⟨.refl _ _, ?_⟩
     exact ⟨by omega, fun j hj => by omega⟩
    ·
     rintro i HL1 ⟨lst1, hI⟩ KL1 hKL1
     refine .forget (fr' := [(6, some (.int .i64 (i : Int))), (1, some _), (2, some _), (5, some _)]) ⟨rfl, rfl, rfl, rfl, trivial⟩ ?_
     have nx_HL1 := lst1.nx
     replace hle := hle.st lst1 (fun k hk => trivial)
     replace at2 := lst1.same _ _ trivial at2
     replace lv_v19 := Keep.st lv_v19 lst1 (fun k hb hk => trivial)
     replace v19 := bs_v19.keep lv_v19 (Nat.le_refl _)
     replace hin := base_hin.mono hle
     replace h := base_h.mono hle
     clear hb2 c02 c12 c22 c32 c42 i12 i22 i32 i42 hm2 hi2
     have hb2 : Cat.At _ g2 0 c p := ⟨Mem.of_get at2, hin⟩
     obtain ⟨c02, c12, c22, c32, c42, i12, i22, i32, i42⟩ := hb2.get
     have hm2 : MemN _ _ _ _ _ := ⟨rfl, hb2.1⟩
     have hi2 := hb2.2
     clear i19
     have i19 := v19.intss
     obtain ⟨hi, ha⟩ := hI
     refine .seq (fun K9 hK9 => ?_)
     refine .seq (fun K10 hK10 => ?_)
     refine .region ?_
     refine .m rfl rfl rfl (.move rfl) ?_
     refine .m rfl rfl rfl (.move rfl) ?_
     refine .m rfl rfl rfl (.len sl_23_B rfl) ?_
     refine .m rfl rfl rfl (.cmp rfl rfl rfl) ?_
     refine .nil ?_
     refine hK10 _ _ ?_
     refine .cond rfl (fun h23 => ?_) (fun h23 => ?_)
     ·
      simp only [sps] at h23
      have rk1 := rep_lt (xs := xs) (k := i) (n := c.src.length) (by omega)
      have q0 := pairsL_get (xs := xs) (m := xs.length) (i := i) (by omega)
      have q1 : ((pairsL xs xs.length).getD i []).length = 2 := by rw [q0]; rfl
      have q2 : ((pairsL xs xs.length).getD i []).getD 0 0 = (rep xs i : Int) := by rw [q0]; rfl
      have q3 : ((pairsL xs xs.length).getD i []).getD 1 0 = (i : Int) := by rw [q0]; rfl
      have u1 := i19.2 i (by omega)
      refine .skip ?_
      refine hK9 _ _ ?_
      refine .seq (fun K11 hK11 => ?_)
      refine .block ?_
      refine .seq (fun K12 hK12 => ?_)
      refine .regionD mixed_orders_B (.q 0 (.q 1 (.q 2 (.q 3 (.q 4 (.q 5 (.q 6 (.q 7 (.q 8 (.q 9 (.q 10 (.q 11 (.q 12 (.c 13 0 (.q 14 (.done)))))))))))))))) (by kernel_rfl) ?_
      refine .m rfl rfl rfl rfl (.refl _) (.loadM ag_27_D rfl ⟨rfl, Mem.of_get at2⟩) ?_
      refine .m rfl rfl rfl rfl (.refl _) (.move rfl) ?_
      refine .m rfl rfl rfl rfl (.refl _) (.move rfl) ?_
      refine .m rfl rfl rfl rfl (.refl _) (.idxN sl_23_B (Intss.sl (by assumption)) rfl rfl (by omega)) ?_
      refine .m rfl rfl rfl rfl (.refl _) (.loadR on_22_B (by assumption) rfl (by omega)) ?_
      refine .m rfl rfl rfl rfl (.refl _) (.idxN (j := 0) sl_22_A (by assumption) rfl rfl (by omega)) ?_
      refine .m rfl rfl rfl rfl (.refl _) (.loadI on_2_A (by assumption) rfl (by omega)) ?_
      refine .m rfl rfl rfl rfl (.refl _) (.move rfl) ?_
      refine .m rfl rfl rfl rfl (.refl _) (.move rfl) ?_
      refine .m rfl rfl rfl rfl (.refl _) (.idxN sl_23_B (Intss.sl (by assumption)) rfl rfl (by omega)) ?_
      refine .m rfl rfl rfl rfl (.refl _) (.loadR on_22_B (by assumption) rfl (by omega)) ?_
      refine .m rfl rfl rfl rfl (.refl _) (.idxN (j := 1) sl_22_A (by assumption) rfl rfl (by omega)) ?_
      refine .m rfl rfl rfl rfl (.refl _) (.loadI on_2_A (by assumption) rfl (by omega)) ?_
      refine .callQ0 rfl rfl rfl rfl rfl @Try.call82 rfl (l03Parallel2_c (f := rep xs i) (k := i) q2 q3) ?_
      refine .m rfl rfl rfl rfl (.refl _) (.not rfl) ?_
      refine .done ?_
      refine hK12 _ _ ?_
      refine .cond rfl (fun h40 => ?_) (fun h40 => ?_)
      ·
       simp only [sps] at h40
       refine .seq (fun K13 hK13 => ?_)
       refine .region ?_
       refine .m rfl rfl rfl (.assign rfl) ?_
       refine .nil ?_
       refine hK13 _ _ ?_
       refine .ret ?_
       -- leaf e3
       refine hret _ _ ?_
       refine ⟨_, rfl, ?_⟩
       first
       | exact ⟨congrArg _ (B_false fun hh => absurd hh.len (by omega)), hle⟩
       | exact ⟨congrArg _ (B_false fun hh => h17 hh.nor.symm), hle⟩
       | exact ⟨congrArg _ (B_false fun hh => h40 (hh.par i (by omega))), hle⟩
       | exact ⟨congrArg _ (by rw [Bool.eq_iff_iff, decide_eq_true_eq, B_iff]; exact (Cat.cong_iff hKI (by omega) h17 (fun k hk => ha k (by omega)))), hle⟩
      ·
       simp only [sps] at h40
       refine .skip ?_
       refine hK11 _ _ ?_
       refine .region ?_
       refine .m rfl rfl rfl (.move rfl) ?_
       refine .m rfl rfl rfl (.add rfl rfl rfl (by omega) (by omega)) ?_
       refine .m rfl rfl rfl (.assign rfl) ?_
       refine .nil ?_
       refine hKL1 (i + 1) _ _ ?_ ?_ ⟨rfl, rfl, rfl, rfl, trivial⟩
       ·
        refine ⟨lst1, ?_⟩
        refine ⟨by omega, fun j hj => ?_⟩
        by_cases e : j < i
        · exact ha j e
        · obtain rfl : j = i := by omega
          exact h40
       ·
        omega
     ·
      try simp only [sps] at h23
      refine .exit ?_
      refine hK7 _ _ ?_
      refine .seq (fun K14 hK14 => ?_)
      refine .region ?_
      refine .m rfl rfl rfl (.move rfl) ?_
      refine .m rfl rfl rfl (.loadM ag_27_D rfl ⟨rfl, Mem.of_get at2⟩) ?_
      refine .m rfl rfl rfl (.move rfl) ?_
      refine .call rfl rfl rfl rfl @Try.call84 rfl (l03Spread_c (n := (pairsL xs xs.length).length) (xs := xs) (hv := by rw [length_pairsL]; exact i19) (hS := hS) (hn := by omega) (hp := fun k hk => ha k (by omega))) ?_
      rintro _ H44 ⟨le44, g44, rfl, at44, ge44⟩
      have nx_H44 := le44.1
      replace hle := hle.trans le44
      replace lst1 := lst1.le le44
      replace at2 := le44.2 _ _ at2
      replace lv_v19 := Keep.le lv_v19 le44
      replace v19 := bs_v19.keep lv_v19 (Nat.le_refl _)
      have lt_at44 := GHeap.lt_of_get at44
      replace hin := base_hin.mono hle
      replace h := base_h.mono hle
      clear hb2 c02 c12 c22 c32 c42 i12 i22 i32 i42 hm2 hi2
      have hb2 : Cat.At _ g2 0 c p := ⟨Mem.of_get at2, hin⟩
      obtain ⟨c02, c12, c22, c32, c42, i12, i22, i32, i42⟩ := hb2.get
      have hm2 : MemN _ _ _ _ _ := ⟨rfl, hb2.1⟩
      have hi2 := hb2.2
      clear i19
      have i19 := v19.intss
      have i44 := Ints.of_get at44
      refine .callQ rfl rfl rfl rfl @Try.call83 rfl (l01Same_c) ?_
      refine .m rfl rfl rfl (.assign rfl) ?_
      refine .nil ?_
      refine hK14 _ _ ?_
      refine .ret ?_
      -- leaf e4
      refine hret _ _ ?_
      refine ⟨_, rfl, ?_⟩
      first
      | exact ⟨congrArg _ (B_false fun hh => absurd hh.len (by omega)), hle⟩
      | exact ⟨congrArg _ (B_false fun hh => h17 hh.nor.symm), hle⟩
      | exact ⟨congrArg _ (B_false fun hh => h40 (hh.par i (by omega))), hle⟩
      | exact ⟨congrArg _ (by rw [Bool.eq_iff_iff, decide_eq_true_eq, B_iff]; exact (Cat.cong_iff hKI (by omega) h17 (fun k hk => ha k (by omega)))), hle⟩
end Go.Proofs.Ytfejmmaeigbfkaa
/- Partitions: the program's joiner. No condition but those of each statement. -/
namespace Go.Proofs.Ytfejmmaeigbfkaa
open Go Go.GL Go.RowKit Go.Proofs
theorem sl_88_Pb : sliceT Try.prog 88 = some (2, 1) := by kernel_rfl
theorem classes_c {a : Option Addr} {xs : List Int} {H : GHeap} (h : Ints H a xs := by assumption) (hl : xs.length ≤ 1048576 := by omega) (hb : ∀ i, i < xs.length → -1 ≤ xs.getD i 0 ∧ xs.getD i 0 ≤ 1048576) :
    GCalls Try.prog 91 [.slice a xs.length xs.length] H (Ret (.int .i64 (topL xs)) H) := by
  refine GCalls.body (N := 18) (rs := [.tmp 2]) Try.func91 rfl rfl rfl rfl (fun Qx hret hend => ?_)
  refine .forget (fr' := [(0, some _)]) ⟨rfl, trivial⟩ ?_
  refine .seq (fun K1 hK1 => ?_)
  refine .region ?_
  refine .m rfl rfl rfl (.assign rfl) ?_
  refine .nil ?_
  refine hK1 _ _ ?_
  refine .seq (fun K2 hK2 => ?_)
  refine .region ?_
  refine .m rfl rfl rfl (.assign rfl) ?_
  refine .nil ?_
  refine hK2 _ _ ?_
  refine .seq (fun K3 hK3 => ?_)
  refine .seq (fun K4 hK4 => ?_)
  refine .region ?_
  refine .m rfl rfl rfl (.move rfl) ?_
  refine .m rfl rfl rfl (.len sl_88_Pb rfl) ?_
  refine .m rfl rfl rfl (.move rfl) ?_
  refine .nil ?_
  refine hK4 _ _ ?_
  refine .block ?_
  refine .loopR (σ := Nat × Int) [(6, some _), (7, some _)] (fun (k, t) => [(8, some (.int .i64 (k : Int))), (3, some (.int .i64 t))]) (fun (k, t) H' => H = H' ∧ k ≤ xs.length ∧ 0 ≤ t ∧ t = topN xs k) (fun (k, t) => xs.length - k) ((0, 0)) ⟨rfl, rfl, trivial⟩ ⟨rfl, rfl, trivial⟩ ?_ ?_
  ·
   refine ⟨rfl, ?_⟩
   exact ⟨by omega, by omega, by simp [topN, topL]⟩
  ·
   rintro ⟨k, t⟩ _ ⟨rfl, hI⟩ KL1 hKL1
   refine .forget (fr' := [(8, some (.int .i64 (k : Int))), (3, some (.int .i64 t)), (6, some _), (7, some _)]) ⟨rfl, rfl, rfl, rfl, trivial⟩ ?_
   obtain ⟨hk, ht, hT⟩ := hI
   refine .seq (fun K5 hK5 => ?_)
   refine .region ?_
   refine .m rfl rfl rfl (.cmp rfl rfl rfl) ?_
   refine .nil ?_
   refine hK5 _ _ ?_
   refine .seq (fun K6 hK6 => ?_)
   refine .cond rfl (fun h9 => ?_) (fun h9 => ?_)
   ·
    simp only [sps] at h9
    have q1 := hb k (by omega)
    refine .skip ?_
    refine hK6 _ _ ?_
    refine .seq (fun K7 hK7 => ?_)
    refine .block ?_
    refine .seq (fun K8 hK8 => ?_)
    refine .region ?_
    refine .m rfl rfl rfl (.idxN sl_88_Pb (by assumption) rfl rfl (by omega)) ?_
    refine .m rfl rfl rfl (.loadI on_2_A (by assumption) rfl (by omega)) ?_
    refine .m rfl rfl rfl (.assign rfl) ?_
    refine .nil ?_
    refine hK8 _ _ ?_
    refine .region ?_
    refine .m rfl rfl rfl (.move rfl) ?_
    refine .m rfl rfl rfl (.move rfl) ?_
    refine .m rfl rfl rfl (.add rfl rfl rfl (by omega) (by omega)) ?_
    refine .m rfl rfl rfl (.max2 rfl rfl) ?_
    refine .m rfl rfl rfl (.assign rfl) ?_
    refine .nil ?_
    refine hK7 _ _ ?_
    refine .region ?_
    refine .m rfl rfl rfl (.add rfl rfl rfl (by omega) (by omega)) ?_
    refine .m rfl rfl rfl (.move rfl) ?_
    refine .nil ?_
    refine hKL1 ((k + 1, max t (xs.getD k 0 + 1))) _ _ ?_ ?_ ⟨rfl, rfl, rfl, rfl, trivial⟩
    ·
     refine ⟨rfl, ?_⟩
     exact ⟨by omega, by omega, by rw [topN_succ (by omega), ← hT]⟩
    ·
     (dsimp only; omega)
   ·
    try simp only [sps] at h9
    refine .exit ?_
    refine hK3 _ _ ?_
    refine .seq (fun K9 hK9 => ?_)
    refine .region ?_
    refine .m rfl rfl rfl (.move rfl) ?_
    refine .m rfl rfl rfl (.assign rfl) ?_
    refine .nil ?_
    refine hK9 _ _ ?_
    refine .ret ?_
    -- leaf e1
    refine hret _ _ ?_
    refine ⟨_, rfl, ?_⟩
    obtain rfl : k = xs.length := by omega
    exact .of (by rw [hT]; unfold topN; rw [List.take_length])
end Go.Proofs.Ytfejmmaeigbfkaa
