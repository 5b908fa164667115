/- Partitions: classes numbered by their least elements, and the finest partition that joins pairs. No condition. -/
import Derived.Test.YtgnfekfdmgnhcaaZ7
namespace Go.GL
/-- The least mate of i. -/
def least (K : Nat → Nat → Bool) (i : Nat) : Nat := ((List.range i).find? fun j => K j i).getD i
/-- How many of the numbers below m are the least of their classes. -/
def reps (K : Nat → Nat → Bool) (m : Nat) : Nat := ((List.range m).filter fun j => least K j == j).length
def clsAt (K : Nat → Nat → Bool) (i : Nat) : Int := (reps K (least K i) : Int)
def clsL (K : Nat → Nat → Bool) (n : Nat) : List Int := (List.range n).map (clsAt K)
@[simp] theorem length_clsL (K : Nat → Nat → Bool) (n : Nat) : (clsL K n).length = n := by simp [clsL]
theorem clsL_get {K : Nat → Nat → Bool} {n i : Nat} (h : i < n) : (clsL K n).getD i 0 = clsAt K i := by simp [clsL, List.getD_eq_getElem?_getD, h]
theorem clsL_succ (K : Nat → Nat → Bool) (n : Nat) : clsL K (n + 1) = clsL K n ++ [clsAt K n] := by simp [clsL, List.range_succ]
/-- It is an equivalence below n. -/
structure Eqv (K : Nat → Nat → Bool) (n : Nat) : Prop where
  rf : ∀ a, a < n → K a a = true
  sy : ∀ a b, a < n → b < n → K a b = true → K b a = true
  tr : ∀ a b c, a < n → b < n → c < n → K a b = true → K b c = true → K a c = true
theorem find_range {p : Nat → Bool} {i : Nat} : (∃ j, (List.range i).find? p = some j ∧ j < i ∧ p j = true ∧ ∀ k, k < j → p k = false) ∨ ((List.range i).find? p = none ∧ ∀ k, k < i → p k = false) := by
  cases h : (List.range i).find? p with
  | none =>
    rw [List.find?_range_eq_none] at h
    exact .inr ⟨rfl, fun k hk => by simpa using h k hk⟩
  | some j =>
    rw [List.find?_range_eq_some] at h
    exact .inl ⟨j, rfl, List.mem_range.1 h.2.1, h.1, fun k hk => by simpa using h.2.2 k hk⟩
theorem least_le (K : Nat → Nat → Bool) (i : Nat) : least K i ≤ i := by
  unfold least
  rcases find_range (p := fun j => K j i) (i := i) with ⟨j, h, hl, _⟩ | ⟨h, _⟩
  · rw [h]; exact Nat.le_of_lt hl
  · rw [h]; exact Nat.le_refl _
theorem least_mate {K : Nat → Nat → Bool} {n i : Nat} (e : Eqv K n) (h : i < n) : K (least K i) i = true ∧ ∀ j, j < least K i → K j i = false := by
  unfold least
  rcases find_range (p := fun j => K j i) (i := i) with ⟨j, hj, hl, hp, hb⟩ | ⟨hj, hb⟩
  · rw [hj]; exact ⟨hp, hb⟩
  · rw [hj]; exact ⟨e.rf i h, hb⟩
theorem least_eq {K : Nat → Nat → Bool} {n i j : Nat} (e : Eqv K n) (hi : i < n) (hk : K j i = true) (hm : ∀ k, k < j → K k i = false) : least K i = j := by
  obtain ⟨h1, h2⟩ := least_mate e hi
  rcases Nat.lt_trichotomy (least K i) j with h | h | h
  · rw [hm _ h] at h1; cases h1
  · exact h
  · rw [h2 _ h] at hk; cases hk
theorem least_congr_mate {K : Nat → Nat → Bool} {n i j : Nat} (e : Eqv K n) (hi : i < n) (hj : j < n) : least K i = least K j ↔ K i j = true := by
  obtain ⟨h1, h2⟩ := least_mate e hi
  obtain ⟨k1, k2⟩ := least_mate e hj
  have li := least_le K i
  have lj := least_le K j
  constructor
  · intro h
    rw [← h] at k1
    exact e.tr i _ j hi (by omega) hj (e.sy _ _ (by omega) hi h1) k1
  · intro h
    refine least_eq e hi (e.tr _ j i (by omega) hj hi k1 (e.sy _ _ hi hj h)) fun k hk => ?_
    cases hh : K k i with
    | false => rfl
    | true => rw [← k2 k hk]; exact (e.tr k i j (by omega) hi hj hh h).symm
theorem least_idem {K : Nat → Nat → Bool} {n i : Nat} (e : Eqv K n) (hi : i < n) : least K (least K i) = least K i := by
  have := least_le K i
  exact (least_congr_mate e (by omega) hi).2 (least_mate e hi).1
theorem least_congr {K K' : Nat → Nat → Bool} {n i : Nat} (h : ∀ a b, a < n → b < n → K a b = K' a b) (hi : i < n) : least K i = least K' i := by
  unfold least
  have : ∀ l : List Nat, (∀ j ∈ l, j < n) → l.find? (fun j => K j i) = l.find? (fun j => K' j i) := by
    intro l
    induction l with
    | nil => intro _; rfl
    | cons a l ih =>
      intro hl
      simp only [List.find?_cons]
      rw [h a i (hl a (by simp)) hi, ih fun j hj => hl j (by simp [hj])]
  rw [this _ fun j hj => by have := List.mem_range.1 hj; omega]
theorem reps_congr {K K' : Nat → Nat → Bool} {n m : Nat} (h : ∀ a b, a < n → b < n → K a b = K' a b) (hm : m ≤ n) : reps K m = reps K' m := by
  unfold reps
  congr 1
  refine List.filter_congr fun j hj => ?_
  rw [least_congr h (by have := List.mem_range.1 hj; omega)]
theorem clsL_congr {K K' : Nat → Nat → Bool} {n : Nat} (h : ∀ a b, a < n → b < n → K a b = K' a b) : clsL K n = clsL K' n := by
  refine List.map_congr_left fun i hi => ?_
  have hi' := List.mem_range.1 hi
  unfold clsAt
  rw [least_congr h hi', reps_congr h (by have := least_le K' i; omega)]
theorem reps_succ (K : Nat → Nat → Bool) (m : Nat) : reps K (m + 1) = reps K m + (if least K m = m then 1 else 0) := by
  unfold reps
  rw [List.range_succ, List.filter_append, List.length_append]
  congr 1
  by_cases h : least K m = m <;> simp [h]
theorem reps_le (K : Nat → Nat → Bool) (m : Nat) : reps K m ≤ m := by
  unfold reps; exact Nat.le_trans (List.length_filter_le _ _) (by simp)
theorem reps_mono {K : Nat → Nat → Bool} {a b : Nat} (h : a ≤ b) : reps K a ≤ reps K b := by
  induction b with
  | zero => obtain rfl : a = 0 := by omega
            exact Nat.le_refl _
  | succ b ih =>
    by_cases e : a = b + 1
    · subst e; exact Nat.le_refl _
    · have := ih (by omega)
      rw [reps_succ]
      omega

/-- Two numbers have the same label. -/
def kerB (xs : List Int) (a b : Nat) : Bool := xs.getD a 0 == xs.getD b 0
theorem kerB_eqv (xs : List Int) (n : Nat) : Eqv (kerB xs) n := ⟨fun a _ => by simp [kerB], fun a b _ _ h => by simp only [kerB, beq_iff_eq] at h ⊢; exact h.symm, fun a b c _ _ _ h h' => by simp only [kerB, beq_iff_eq] at h h' ⊢; exact h.trans h'⟩
/-- The labels that have been seen below i, in order. -/
def seenL (xs : List Int) (i : Nat) : List Int := ((List.range i).filter fun j => least (kerB xs) j == j).map fun j => xs.getD j 0
@[simp] theorem length_seenL (xs : List Int) (i : Nat) : (seenL xs i).length = reps (kerB xs) i := by simp [seenL, reps]
theorem seenL_new {xs : List Int} {i : Nat} (h : least (kerB xs) i = i) : seenL xs (i + 1) = seenL xs i ++ [xs.getD i 0] := by simp [seenL, List.range_succ, List.filter_append, h]
theorem seenL_old {xs : List Int} {i : Nat} (h : least (kerB xs) i ≠ i) : seenL xs (i + 1) = seenL xs i := by simp [seenL, List.range_succ, List.filter_append, h]
theorem seenL_at {xs : List Int} {i m : Nat} (h : m < (seenL xs i).length) : ∃ j, j < i ∧ least (kerB xs) j = j ∧ reps (kerB xs) j = m ∧ (seenL xs i).getD m 0 = xs.getD j 0 := by
  induction i with
  | zero => simp [seenL] at h
  | succ i ih =>
    by_cases hi : least (kerB xs) i = i
    · rw [seenL_new hi] at h ⊢
      by_cases e : m < (seenL xs i).length
      · obtain ⟨j, h1, h2, h3, h4⟩ := ih e
        refine ⟨j, by omega, h2, h3, ?_⟩
        rw [List.getD_eq_getElem?_getD, List.getElem?_append_left e, ← List.getD_eq_getElem?_getD]
        exact h4
      · have hm : m = (seenL xs i).length := by simp at h; rw [length_seenL] at *; omega
        refine ⟨i, by omega, hi, by rw [hm, length_seenL], ?_⟩
        rw [hm, List.getD_eq_getElem?_getD, List.getElem?_append_right (Nat.le_refl _)]
        simp
    · rw [seenL_old hi] at h ⊢
      obtain ⟨j, h1, h2, h3, h4⟩ := ih h
      exact ⟨j, by omega, h2, h3, h4⟩
/-- What a search for the label among the seen ones finds. -/
theorem seen_find {xs : List Int} {i m : Nat} (h : m < (seenL xs i).length) : (seenL xs i).getD m 0 = xs.getD i 0 ↔ (least (kerB xs) i < i ∧ m = reps (kerB xs) (least (kerB xs) i)) := by
  have e := kerB_eqv xs (i + 1)
  obtain ⟨j, h1, h2, h3, h4⟩ := seenL_at h
  rw [h4]
  constructor
  · intro hx
    have hl : least (kerB xs) i = j := by
      have := (least_congr_mate (j := i) e (i := j) (by omega) (by omega)).2 (by simp only [kerB, beq_iff_eq]; exact hx)
      omega
    rw [hl]; exact ⟨h1, h3.symm⟩
  · rintro ⟨hl, hm⟩
    have hli := least_idem (K := kerB xs) (i := i) e (by omega)
    have hmate := (least_mate (i := i) e (by omega)).1
    simp only [kerB, beq_iff_eq] at hmate
    have : j = least (kerB xs) i := by
      rcases Nat.lt_trichotomy j (least (kerB xs) i) with hh | hh | hh
      · have h5 := reps_mono (K := kerB xs) (a := j + 1) hh
        rw [reps_succ, if_pos h2] at h5
        omega
      · exact hh
      · have h5 := reps_mono (K := kerB xs) (a := least (kerB xs) i + 1) hh
        rw [reps_succ, if_pos hli] at h5
        omega
    rw [this, hmate]
theorem seen_none {xs : List Int} {i : Nat} : (∀ m, m < (seenL xs i).length → (seenL xs i).getD m 0 ≠ xs.getD i 0) ↔ least (kerB xs) i = i := by
  constructor
  · intro h
    have hl := least_le (kerB xs) i
    refine Classical.byContradiction fun hne => ?_
    have hli := least_idem (K := kerB xs) (i := i) (kerB_eqv xs (i + 1)) (by omega)
    have hlt : reps (kerB xs) (least (kerB xs) i) < (seenL xs i).length := by
      rw [length_seenL]
      have h5 := reps_mono (K := kerB xs) (a := least (kerB xs) i + 1) (b := i) (by omega)
      rw [reps_succ, if_pos hli] at h5
      omega
    exact h _ hlt ((seen_find hlt).2 ⟨by omega, rfl⟩)
  · intro h m hm hx
    have := ((seen_find hm).1 hx).1
    omega

theorem numsL_succ (n : Nat) : numsL (n + 1) = numsL n ++ [(n : Int)] := by simp [numsL, List.range_succ]
/-- The first index of a number in a list, or -1. -/
def idxL (xs : List Int) (v : Int) : Int := match firstN xs.length fun i => xs.getD i 0 == v with | some i => (i : Int) | none => -1
theorem idxL_some {xs : List Int} {v : Int} {i : Nat} (hi : i < xs.length) (h : xs.getD i 0 = v) (hb : ∀ j, j < i → ¬ xs.getD j 0 = v) : idxL xs v = i := by
  unfold idxL; rw [firstN_some hi (by simpa using h) fun j hj => by simpa using hb j hj]
theorem idxL_none {xs : List Int} {v : Int} (h : ∀ j, j < xs.length → ¬ xs.getD j 0 = v) : idxL xs v = -1 := by
  unfold idxL; rw [firstN_none fun j hj => by simpa using h j hj]
theorem idxL_cases (xs : List Int) (v : Int) : (∃ i, i < xs.length ∧ xs.getD i 0 = v ∧ (∀ j, j < i → ¬ xs.getD j 0 = v) ∧ idxL xs v = i) ∨ ((∀ j, j < xs.length → ¬ xs.getD j 0 = v) ∧ idxL xs v = -1) := by
  rcases find_range (p := fun i => xs.getD i 0 == v) (i := xs.length) with ⟨j, _, hl, hp, hb⟩ | ⟨_, hb⟩
  · exact .inl ⟨j, hl, by simpa using hp, fun k hk => by simpa using hb k hk, idxL_some hl (by simpa using hp) fun k hk => by simpa using hb k hk⟩
  · exact .inr ⟨fun k hk => by simpa using hb k hk, idxL_none fun k hk => by simpa using hb k hk⟩
theorem idxL_lt (xs : List Int) (v : Int) : idxL xs v < xs.length ∧ -1 ≤ idxL xs v := by
  rcases idxL_cases xs v with ⟨i, h, _, _, e⟩ | ⟨_, e⟩ <;> omega
theorem cls_new {xs : List Int} {k : Nat} (h : idxL (seenL xs k) (xs.getD k 0) < 0) : clsL (kerB xs) (k + 1) = clsL (kerB xs) k ++ [((seenL xs k).length : Int)] ∧ seenL xs (k + 1) = seenL xs k ++ [xs.getD k 0] := by
  have hl : least (kerB xs) k = k := by
    rcases idxL_cases (seenL xs k) (xs.getD k 0) with ⟨i, _, _, _, e⟩ | ⟨hn, _⟩
    · omega
    · exact seen_none.1 fun m hm => hn m hm
  refine ⟨?_, seenL_new hl⟩
  rw [clsL_succ]
  unfold clsAt
  rw [hl, length_seenL]
theorem cls_old {xs : List Int} {k : Nat} (h : 0 ≤ idxL (seenL xs k) (xs.getD k 0)) : clsL (kerB xs) (k + 1) = clsL (kerB xs) k ++ [idxL (seenL xs k) (xs.getD k 0)] ∧ seenL xs (k + 1) = seenL xs k := by
  rcases idxL_cases (seenL xs k) (xs.getD k 0) with ⟨i, hi, hv, _, e⟩ | ⟨_, e⟩
  · obtain ⟨h1, h2⟩ := (seen_find hi).1 hv
    refine ⟨?_, seenL_old (by omega)⟩
    rw [clsL_succ, e, h2]
    rfl
  · omega
/-- The seen labels with their numbers. -/
def seenE (xs : List Int) (k : Nat) : List (Int × Int) := (List.range (seenL xs k).length).map fun i => ((seenL xs k).getD i 0, (i : Int))
@[simp] theorem length_seenE (xs : List Int) (k : Nat) : (seenE xs k).length = (seenL xs k).length := by simp [seenE]
theorem seenE_zero (xs : List Int) : seenE xs 0 = [] := by simp [seenE, seenL]
theorem seenE_new {xs : List Int} {k : Nat} (h : seenL xs (k + 1) = seenL xs k ++ [xs.getD k 0]) : seenE xs (k + 1) = seenE xs k ++ [(xs.getD k 0, ((seenE xs k).length : Int))] := by
  rw [length_seenE]
  unfold seenE
  rw [h, List.length_append, List.length_singleton, List.range_succ, List.map_append]
  congr 1
  · refine List.map_congr_left fun i hi => ?_
    have := List.mem_range.1 hi
    rw [List.getD_eq_getElem?_getD, List.getElem?_append_left this, ← List.getD_eq_getElem?_getD]
  · simp [List.getD_eq_getElem?_getD]
theorem seenE_old {xs : List Int} {k : Nat} (h : seenL xs (k + 1) = seenL xs k) : seenE xs (k + 1) = seenE xs k := by unfold seenE; rw [h]
theorem lookE_seen (xs : List Int) (k : Nat) (v : Int) : (idxL (seenL xs k) v < 0 ∧ lookE (seenE xs k) v = none) ∨ (0 ≤ idxL (seenL xs k) v ∧ lookE (seenE xs k) v = some (idxL (seenL xs k) v)) := by
  have hfind : ∀ p : Nat → Bool, ∀ n, ((List.range n).map fun i => ((seenL xs k).getD i 0, (i : Int))).find? (fun e => e.1 == v) = ((List.range n).find? fun i => (seenL xs k).getD i 0 == v).map fun i => ((seenL xs k).getD i 0, (i : Int)) := fun _ n => by
    rw [List.find?_map]; rfl
  unfold lookE seenE
  rw [hfind (fun _ => true)]
  unfold idxL firstN
  cases h : (List.range (seenL xs k).length).find? fun i => (seenL xs k).getD i 0 == v with
  | some i => exact .inr ⟨by simp, rfl⟩
  | none => exact .inl ⟨by simp, rfl⟩
theorem clsAt_new {xs : List Int} {k : Nat} (h : idxL (seenL xs k) (xs.getD k 0) < 0) : ((seenE xs k).length : Int) = clsAt (kerB xs) k := by
  have e := (cls_new h).1
  rw [clsL_succ] at e
  have := List.append_cancel_left e
  rw [length_seenE]
  exact (List.cons.inj this).1.symm
theorem clsAt_old {xs : List Int} {k : Nat} (h : 0 ≤ idxL (seenL xs k) (xs.getD k 0)) (h' : lookE (seenE xs k) (xs.getD k 0) = some (idxL (seenL xs k) (xs.getD k 0))) : (lookE (seenE xs k) (xs.getD k 0)).getD 0 = clsAt (kerB xs) k := by
  have e := (cls_old h).1
  rw [clsL_succ] at e
  have := List.append_cancel_left e
  rw [h']
  exact (List.cons.inj this).1.symm
/-- The first k of n numbers. -/
def part0 (n : Nat) (f : Nat → Int) (k : Nat) : List Int := (List.range n).map fun i => bif decide (i < k) then f i else 0
@[simp] theorem length_part0 (n : Nat) (f : Nat → Int) (k : Nat) : (part0 n f k).length = n := by simp [part0]
theorem part0_get {n : Nat} {f : Nat → Int} {k i : Nat} (h : i < n) : (part0 n f k).getD i 0 = bif decide (i < k) then f i else 0 := by simp [part0, List.getD_eq_getElem?_getD, h]
theorem part0_zero (n : Nat) (f : Nat → Int) : part0 n f 0 = List.replicate n 0 := by
  refine eq_of_getD (by simp) fun i hi => ?_
  simp only [List.length_replicate] at hi
  rw [part0_get hi, List.getD_eq_getElem?_getD, List.getElem?_replicate, if_pos hi]
  rfl
theorem part0_set {n : Nat} {f : Nat → Int} {k : Nat} {v : Int} (hk : k < n) (hv : v = f k) : part0 n f (k + 1) = (part0 n f k).set k v := by
  refine eq_of_getD (by simp) fun i hi => ?_
  simp only [List.length_set, length_part0] at hi
  rw [getD_set (by simpa using hk), part0_get hi, part0_get hi]
  by_cases e : i = k
  · subst e
    rw [if_pos rfl, hv]
    simp
  · rw [if_neg e]
    have : decide (i < k + 1) = decide (i < k) := by simp; omega
    rw [this]
theorem part0_all (n : Nat) (f : Nat → Int) : part0 n f n = (List.range n).map f := List.map_congr_left fun i hi => by
  have : decide (i < n) = true := by simpa using List.mem_range.1 hi
  rw [this]; rfl
/-! ### Joining. -/
abbrev pA (p : List Int) : Nat := (p.getD 0 0).toNat
abbrev pB (p : List Int) : Nat := (p.getD 1 0).toNat
def stepK (K : Nat → Nat → Bool) (p q : Nat) : Nat → Nat → Bool := fun a b => K a b || (K a p && K q b) || (K a q && K p b)
/-- Joined by the first m pairs. -/
def joinK (ps : List (Nat × Nat)) : Nat → Nat → Bool := ps.foldl (fun K p => stepK K p.1 p.2) (fun a b => a == b)
theorem joinK_nil : joinK [] = fun a b => a == b := rfl
theorem joinK_snoc (ps : List (Nat × Nat)) (p : Nat × Nat) : joinK (ps ++ [p]) = stepK (joinK ps) p.1 p.2 := by simp [joinK, List.foldl_append]
/-- Labels tell a relation. -/
def Ker (lab : List Int) (K : Nat → Nat → Bool) (n : Nat) : Prop := ∀ a b, a < n → b < n → kerB lab a b = K a b
theorem Ker.start {lab : List Int} {n : Nat} (h : ∀ i, i < n → lab.getD i 0 = (i : Int)) : Ker lab (joinK []) n := fun a b ha hb => by
  unfold kerB
  rw [h a ha, h b hb, joinK_nil, Bool.eq_iff_iff]
  simp only [beq_iff_eq]
  omega
theorem Ker.step {lab lab' : List Int} {K : Nat → Nat → Bool} {n p q : Nat} (h : Ker lab K n) (hp : p < n) (hq : q < n) (hs : ∀ i, i < n → lab'.getD i 0 = if lab.getD i 0 = lab.getD q 0 then lab.getD p 0 else lab.getD i 0) : Ker lab' (stepK K p q) n := fun a b ha hb => by
  unfold stepK
  rw [← h a b ha hb, ← h a p ha hp, ← h q b hq hb, ← h a q ha hq, ← h p b hp hb, Bool.eq_iff_iff]
  unfold kerB
  rw [hs a ha, hs b hb]
  simp only [beq_iff_eq, Bool.or_eq_true, Bool.and_eq_true]
  generalize lab.getD a 0 = x at *
  generalize lab.getD b 0 = y at *
  generalize lab.getD p 0 = u at *
  generalize lab.getD q 0 = v at *
  by_cases h1 : x = v
  · by_cases h2 : y = v
    · rw [if_pos h1, if_pos h2]; omega
    · rw [if_pos h1, if_neg h2]; omega
  · by_cases h2 : y = v
    · rw [if_neg h1, if_pos h2]; omega
    · rw [if_neg h1, if_neg h2]; omega
/-- The first k labels b are labels a. -/
def relab (xs : List Int) (a b : Int) (k : Nat) : List Int := (xs.take k).map (fun z => if z = b then a else z) ++ xs.drop k
@[simp] theorem length_relab (xs : List Int) (a b : Int) (k : Nat) : (relab xs a b k).length = xs.length := by simp [relab]; omega
theorem relab_zero (xs : List Int) (a b : Int) : relab xs a b 0 = xs := by simp [relab]
theorem relab_getD {xs : List Int} {a b : Int} {k i : Nat} (hi : i < xs.length) : (relab xs a b k).getD i 0 = if i < k then (if xs.getD i 0 = b then a else xs.getD i 0) else xs.getD i 0 := by
  unfold relab
  by_cases h : i < k
  · rw [if_pos h, List.getD_eq_getElem?_getD, List.getElem?_append_left (by simp; omega)]
    simp only [List.getElem?_map, List.getElem?_take, h, if_true, List.getD_eq_getElem?_getD]
    rw [List.getElem?_eq_getElem hi]
    simp
  · rw [if_neg h, List.getD_eq_getElem?_getD, List.getElem?_append_right (by simp; omega)]
    simp only [List.length_map, List.length_take, List.getElem?_drop, List.getD_eq_getElem?_getD]
    congr 2
    omega
theorem relab_T {xs : List Int} {a b : Int} {k : Nat} (hk : k < xs.length) (h : xs.getD k 0 = b) : relab xs a b (k + 1) = (relab xs a b k).set k a := by
  refine eq_of_getD (by simp) fun i hi => ?_
  simp only [List.length_set, length_relab] at hi
  rw [getD_set (by simpa using hk), relab_getD hi, relab_getD hi]
  by_cases e : i = k
  · subst e; rw [if_pos (by omega), if_pos h, if_pos rfl]
  · by_cases e2 : i < k
    · rw [if_pos (by omega), if_neg e, if_pos e2]
    · rw [if_neg (by omega), if_neg e, if_neg e2]
theorem relab_F {xs : List Int} {a b : Int} {k : Nat} (hk : k < xs.length) (h : ¬ xs.getD k 0 = b) : relab xs a b (k + 1) = relab xs a b k := by
  refine eq_of_getD (by simp) fun i hi => ?_
  simp only [length_relab] at hi
  rw [relab_getD hi, relab_getD hi]
  by_cases e : i = k
  · subst e; rw [if_pos (by omega), if_neg h, if_neg (by omega)]
  · by_cases e2 : i < k
    · rw [if_pos (by omega), if_pos e2]
    · rw [if_neg (by omega), if_neg e2]

def pairL (pss : List (List Int)) (k : Nat) : List (Nat × Nat) := (pss.take k).map fun p => (pA p, pB p)
theorem pairL_succ {pss : List (List Int)} {k : Nat} (h : k < pss.length) : pairL pss (k + 1) = pairL pss k ++ [(pA (pss.getD k []), pB (pss.getD k []))] := by
  have e1 : pss[k]? = some (pss.getD k []) := by rw [List.getD_eq_getElem?_getD (i := k), List.getElem?_eq_getElem h]; rfl
  unfold pairL
  rw [List.take_add_one, e1]; simp
theorem pairL_zero (pss : List (List Int)) : pairL pss 0 = [] := by simp [pairL]
theorem pairL_all (pss : List (List Int)) : pairL pss pss.length = pss.map fun p => (pA p, pB p) := by simp [pairL]
/-- What the inner loop of the joining leaves. -/
theorem Ker.relab {lab : List Int} {K : Nat → Nat → Bool} {n p q e : Nat} (h : Ker lab K n) (hl : lab.length = n) (hp : p < n) (hq : q < n) (he : e = n ∨ lab.getD p 0 = lab.getD q 0) : Ker (Go.GL.relab lab (lab.getD p 0) (lab.getD q 0) e) (stepK K p q) n := by
  refine h.step hp hq fun i hi => ?_
  rw [relab_getD (by omega)]
  rcases he with rfl | he
  · rw [if_pos hi]
  · by_cases hie : i < e
    · rw [if_pos hie]
    · rw [if_neg hie]
      by_cases hx : lab.getD i 0 = lab.getD q 0
      · rw [if_pos hx, he, hx]
      · rw [if_neg hx]

/-! ### Roots. -/
/-- Each element's parent is not above it. -/
structure Forest (j : List Int) : Prop where
  up : ∀ x, x < j.length → 0 ≤ j.getD x 0 ∧ j.getD x 0 ≤ (x : Int)
def rootF (j : List Int) : Nat → Nat → Nat
  | 0, x => x
  | f + 1, x => if (j.getD x 0).toNat < x then rootF j f (j.getD x 0).toNat else x
/-- The root of x. -/
def rootOf (j : List Int) (x : Nat) : Nat := rootF j (x + 1) x
theorem rootF_enough (j : List Int) : ∀ {f g x : Nat}, x < f → x < g → rootF j f x = rootF j g x
  | 0, _, _, h, _ => by omega
  | _, 0, _, _, h => by omega
  | f + 1, g + 1, x, hf, hg => by
    unfold rootF
    by_cases h : (j.getD x 0).toNat < x
    · rw [if_pos h, if_pos h]; exact rootF_enough j (by omega) (by omega)
    · rw [if_neg h, if_neg h]
theorem rootOf_step {j : List Int} {x : Nat} (h : (j.getD x 0).toNat < x) : rootOf j x = rootOf j (j.getD x 0).toNat := by
  unfold rootOf
  rw [show rootF j (x + 1) x = rootF j x (j.getD x 0).toNat by conv => lhs; unfold rootF; rw [if_pos h]]
  exact rootF_enough j h (by omega)
theorem rootOf_end {j : List Int} {x : Nat} (h : ¬ (j.getD x 0).toNat < x) : rootOf j x = x := by
  unfold rootOf rootF; rw [if_neg h]
theorem rootOf_le (j : List Int) (x : Nat) : rootOf j x ≤ x := by
  induction x using Nat.strongRecOn with
  | _ x ih =>
    by_cases h : (j.getD x 0).toNat < x
    · rw [rootOf_step h]; have := ih _ h; omega
    · rw [rootOf_end h]; exact Nat.le_refl _
theorem rootOf_root {j : List Int} (hF : Forest j) {x : Nat} (hx : x < j.length) : j.getD (rootOf j x) 0 = (rootOf j x : Int) := by
  induction x using Nat.strongRecOn with
  | _ x ih =>
    by_cases h : (j.getD x 0).toNat < x
    · rw [rootOf_step h]; exact ih _ h (by omega)
    · rw [rootOf_end h]; have := hF.up x hx; omega
theorem rootOf_fix {j : List Int} {x : Nat} (h : j.getD x 0 = (x : Int)) : rootOf j x = x := rootOf_end (by omega)
theorem rootOf_parent {j : List Int} (hF : Forest j) {x : Nat} (hx : x < j.length) : rootOf j (j.getD x 0).toNat = rootOf j x := by
  by_cases h : (j.getD x 0).toNat < x
  · exact (rootOf_step h).symm
  · have := hF.up x hx
    rw [show (j.getD x 0).toNat = x by omega]
/-- A parent that is a higher one of the same root: roots stay. -/
theorem rootOf_set {j : List Int} (hF : Forest j) {x y : Nat} (hx : x < j.length) (hy : y < x) (hr : rootOf j y = rootOf j x) : Forest (j.set x (y : Int)) ∧ ∀ z, z < j.length → rootOf (j.set x (y : Int)) z = rootOf j z := by
  have hF' : Forest (j.set x (y : Int)) := ⟨fun z hz => by
    rw [List.length_set] at hz
    rw [getD_set hx]
    by_cases e : z = x
    · subst e; simp; omega
    · rw [if_neg e]; exact hF.up z hz⟩
  refine ⟨hF', fun z => ?_⟩
  induction z using Nat.strongRecOn with
  | _ z ih =>
    intro hz
    have hg : (j.set x (y : Int)).getD z 0 = if z = x then (y : Int) else j.getD z 0 := getD_set hx
    by_cases e : z = x
    · subst e
      rw [if_pos rfl] at hg
      rw [rootOf_step (by rw [hg]; simpa using hy), hg, Int.toNat_natCast, ih y hy (by omega), hr]
    · rw [if_neg e] at hg
      by_cases h : (j.getD z 0).toNat < z
      · rw [rootOf_step (by rw [hg]; exact h), hg, ih _ h (by omega), rootOf_step h]
      · rw [rootOf_end (by rw [hg]; exact h), rootOf_end h]
/-- A root gets a parent. -/
theorem rootOf_join {j : List Int} (hF : Forest j) {x y : Nat} (hx : x < j.length) (hr : j.getD x 0 = (x : Int)) (hry : j.getD y 0 = (y : Int)) (hy : y ≤ x) : Forest (j.set x (y : Int)) ∧ ∀ z, z < j.length → rootOf (j.set x (y : Int)) z = if rootOf j z = x then y else rootOf j z := by
  have hF' : Forest (j.set x (y : Int)) := ⟨fun z hz => by
    rw [List.length_set] at hz
    rw [getD_set hx]
    by_cases e : z = x
    · subst e; simp; omega
    · rw [if_neg e]; exact hF.up z hz⟩
  refine ⟨hF', fun z => ?_⟩
  induction z using Nat.strongRecOn with
  | _ z ih =>
    intro hz
    have hg : (j.set x (y : Int)).getD z 0 = if z = x then (y : Int) else j.getD z 0 := getD_set hx
    by_cases e : z = x
    · subst e
      rw [if_pos rfl] at hg
      rw [rootOf_fix hr, if_pos rfl]
      by_cases e2 : y = z
      · subst e2; exact rootOf_fix (by rw [hg])
      · rw [rootOf_step (by rw [hg]; simp; omega), hg, Int.toNat_natCast, ih y (by omega) (by omega), rootOf_fix hry, if_neg e2]
    · rw [if_neg e] at hg
      by_cases h : (j.getD z 0).toNat < z
      · rw [rootOf_step (by rw [hg]; exact h), hg, ih _ h (by omega), rootOf_step h]
      · rw [rootOf_end (by rw [hg]; exact h), rootOf_end h, if_neg e]
/-- The roots of a forest tell a relation. -/
def RootK (j : List Int) (K : Nat → Nat → Bool) (n : Nat) : Prop := j.length = n ∧ Forest j ∧ ∀ a b, a < n → b < n → ((rootOf j a == rootOf j b) = K a b)
theorem RootK.start {j : List Int} {n : Nat} (hn : j.length = n) (h : ∀ i, i < n → j.getD i 0 = (i : Int)) : RootK j (joinK []) n := by
  refine ⟨hn, ⟨fun x hx => by rw [h x (by omega)]; omega⟩, fun a b ha hb => ?_⟩
  rw [rootOf_fix (h a ha), rootOf_fix (h b hb), joinK_nil]
theorem RootK.same {j j' : List Int} {K : Nat → Nat → Bool} {n : Nat} (h : RootK j K n) (hl : j'.length = j.length) (hF : Forest j') (hr : ∀ z, z < j.length → rootOf j' z = rootOf j z) : RootK j' K n :=
  ⟨by rw [hl]; exact h.1, hF, fun a b ha hb => by rw [hr a (by have := h.1; omega), hr b (by have := h.1; omega)]; exact h.2.2 a b ha hb⟩
theorem RootK.join {j : List Int} {K : Nat → Nat → Bool} {n p q : Nat} (h : RootK j K n) (hp : p < n) (hq : q < n) : RootK (j.set (max (rootOf j p) (rootOf j q)) ((min (rootOf j p) (rootOf j q) : Nat) : Int)) (stepK K p q) n := by
  obtain ⟨hl, hF, hk⟩ := h
  have lp := rootOf_le j p
  have lq := rootOf_le j q
  have rp := rootOf_root hF (x := p) (by omega)
  have rq := rootOf_root hF (x := q) (by omega)
  have hmx : j.getD (max (rootOf j p) (rootOf j q)) 0 = ((max (rootOf j p) (rootOf j q) : Nat) : Int) := by
    rcases Nat.le_total (rootOf j p) (rootOf j q) with h | h
    · rw [Nat.max_eq_right h]; exact rq
    · rw [Nat.max_eq_left h]; exact rp
  have hmn : j.getD (min (rootOf j p) (rootOf j q)) 0 = ((min (rootOf j p) (rootOf j q) : Nat) : Int) := by
    rcases Nat.le_total (rootOf j p) (rootOf j q) with h | h
    · rw [Nat.min_eq_left h]; exact rp
    · rw [Nat.min_eq_right h]; exact rq
  obtain ⟨k1, k2⟩ := rootOf_join hF (x := max (rootOf j p) (rootOf j q)) (y := min (rootOf j p) (rootOf j q)) (by omega) hmx hmn (by omega)
  refine ⟨by simpa using hl, k1, fun a b ha hb => ?_⟩
  rw [k2 a (by omega), k2 b (by omega)]
  unfold stepK
  rw [← hk a b ha hb, ← hk a p ha hp, ← hk q b hq hb, ← hk a q ha hq, ← hk p b hp hb, Bool.eq_iff_iff]
  simp only [beq_iff_eq, Bool.or_eq_true, Bool.and_eq_true]
  generalize rootOf j a = ra at *
  generalize rootOf j b = rb at *
  generalize rootOf j p = x at *
  generalize rootOf j q = y at *
  rcases Nat.le_total x y with h | h
  · rw [Nat.max_eq_right h, Nat.min_eq_left h]
    by_cases h1 : ra = y
    · by_cases h2 : rb = y
      · rw [if_pos h1, if_pos h2]; omega
      · rw [if_pos h1, if_neg h2]; omega
    · by_cases h2 : rb = y
      · rw [if_neg h1, if_pos h2]; omega
      · rw [if_neg h1, if_neg h2]; omega
  · rw [Nat.max_eq_left h, Nat.min_eq_right h]
    by_cases h1 : ra = x
    · by_cases h2 : rb = x
      · rw [if_pos h1, if_pos h2]; omega
      · rw [if_pos h1, if_neg h2]; omega
    · by_cases h2 : rb = x
      · rw [if_neg h1, if_pos h2]; omega
      · rw [if_neg h1, if_neg h2]; omega
/-- Labels that are roots. -/
theorem RootK.ker {j lab : List Int} {K : Nat → Nat → Bool} {n : Nat} (h : RootK j K n) (hl : ∀ i, i < n → lab.getD i 0 = (rootOf j i : Int)) : Ker lab K n := fun a b ha hb => by
  rw [← h.2.2 a b ha hb]
  unfold kerB
  rw [hl a ha, hl b hb, Bool.eq_iff_iff]
  simp only [beq_iff_eq]
  omega
theorem Ker.cls {lab : List Int} {K : Nat → Nat → Bool} {n : Nat} (h : Ker lab K n) : clsL (kerB lab) n = clsL K n := clsL_congr h
/-- The finest partition of n elements that joins pairs. -/
def joinL (n : Nat) (ps : List (Nat × Nat)) : List Int := clsL (joinK ps) n
@[simp] theorem length_joinL (n : Nat) (ps : List (Nat × Nat)) : (joinL n ps).length = n := by simp [joinL]
end Go.GL
/- Partitions: the reference's and the program's. No condition but those of each statement. -/
namespace Go.Proofs.Ytgnfekfdmgnhcaa
open Go Go.GL Go.RowKit Go.Proofs
theorem l01Index_c {a : Option Addr} {xs : List Int} {n : Int} {H : GHeap} (h : Ints H a xs := by assumption) (hl : xs.length ≤ 16777216 := by omega) :
    GCalls Try.prog 143 [.slice a xs.length xs.length, .int .i64 n] H (Ret (.int .i64 (idxL xs n)) H) := by
  refine GCalls.body (N := 19) (rs := [.tmp 4]) Try.func143 rfl rfl rfl rfl (fun Qx hret hend => ?_)
  refine .forget (fr' := [(0, some _), (1, some _)]) ⟨rfl, rfl, trivial⟩ ?_
  refine .seq (fun K1 hK1 => ?_)
  refine .region (.m rfl rfl rfl (.assign rfl) (.nil ?_))
  refine hK1 _ _ ?_
  refine .seq (fun K2 hK2 => ?_)
  refine .seq (fun K3 hK3 => ?_)
  refine .region (.m rfl rfl rfl (.assign rfl) (.nil ?_))
  refine hK3 _ _ ?_
  refine .block ?_
  refine .loopR (σ := Nat) [(0, some _), (1, some _)] (fun k => [(5, some (.int .i64 (k : Int)))]) (fun k H' => H = H' ∧ (k : Int) ≤ xs.length ∧ ∀ i, i < k → ¬ xs.getD i 0 = n) (fun k => (xs.length - k : Int).toNat) (0) ⟨rfl, rfl, trivial⟩ ⟨rfl, trivial⟩ ?_ ?_
  ·
   refine ⟨rfl, ?_⟩
   exact ⟨by omega, fun _ _ => by omega⟩
  rintro k _ ⟨rfl, hI⟩ KL1 hKL1
  refine .forget (fr' := [(5, some (.int .i64 (k : Int))), (0, some _), (1, some _)]) ⟨rfl, rfl, rfl, trivial⟩ ?_
  obtain ⟨hk1, ha1⟩ := hI
  refine .seq (fun K4 hK4 => ?_)
  refine .seq (fun K5 hK5 => ?_)
  refine .region (.m rfl rfl rfl (.move rfl) (.m rfl rfl rfl (.move rfl) (.m rfl rfl rfl (.len sl_22_A rfl) ?_)))
  refine .m rfl rfl rfl (.cmp rfl rfl rfl) (.nil ?_)
  refine hK5 _ _ ?_
  refine .cond rfl (fun h9 => ?_) (fun h9 => ?_)
  ·
   try simp only [sps] at h9
   refine .skip ?_
   refine hK4 _ _ ?_
   refine .seq (fun K6 hK6 => ?_)
   refine .block ?_
   refine .seq (fun K7 hK7 => ?_)
   refine .region (.m rfl rfl rfl (.move rfl) (.m rfl rfl rfl (.move rfl) ?_))
   refine .m rfl rfl rfl (.idxN sl_22_A (by assumption) rfl rfl (by omega)) ?_
   refine .m rfl rfl rfl (.loadI on_2_A (by assumption) rfl (by omega)) ?_
   refine .m rfl rfl rfl (.move rfl) (.m rfl rfl rfl (.cmp rfl rfl rfl) (.nil ?_))
   refine hK7 _ _ ?_
   refine .cond rfl (fun h17 => ?_) (fun h17 => ?_)
   ·
    try simp only [sps] at h17
    refine .seq (fun K8 hK8 => ?_)
    refine .region (.m rfl rfl rfl (.move rfl) (.m rfl rfl rfl (.assign rfl) (.nil ?_)))
    refine hK8 _ _ ?_
    refine .ret ?_
    refine hret _ _ ?_
    refine ⟨_, rfl, ?_⟩
    exact .of (congrArg _ (idxL_some (by omega) h17 ha1))
   try simp only [sps] at h17
   refine .skip ?_
   refine hK6 _ _ ?_
   refine .region (.m rfl rfl rfl (.move rfl) ?_)
   refine .m rfl rfl rfl (.add rfl rfl rfl (by omega) (by omega)) ?_
   refine .m rfl rfl rfl (.assign rfl) (.nil ?_)
   refine hKL1 (k + 1) _ _ ?_ ?_ ⟨rfl, rfl, rfl, trivial⟩
   ·
    refine ⟨rfl, ?_⟩
    refine ⟨by omega, fun i hx => ?_⟩
    by_cases hltq : i < k
    · exact ha1 i hltq
    · obtain rfl : i = k := by omega
      exact h17
   omega
  try simp only [sps] at h9
  refine .exit ?_
  refine hK2 _ _ ?_
  refine .seq (fun K9 hK9 => ?_)
  refine .region (.m rfl rfl rfl (.assign rfl) (.nil ?_))
  refine hK9 _ _ ?_
  refine .ret ?_
  refine hret _ _ ?_
  refine ⟨_, rfl, ?_⟩
  exact .of (congrArg _ (idxL_none fun j hj => ha1 j (by omega)))
theorem l01Classes_c {a : Option Addr} {xs : List Int} {H : GHeap} (h : Ints H a xs := by assumption) (hl : xs.length ≤ 1048576 := by omega) :
    GCalls Try.prog 132 [.slice a xs.length xs.length] H (NewInts 2 H (clsL (kerB xs) xs.length)) := by
  refine GCalls.body (N := 37) (rs := [.tmp 2]) Try.func132 rfl rfl rfl rfl (fun Qx hret hend => ?_)
  refine .forget (fr' := [(0, some _)]) ⟨rfl, trivial⟩ ?_
  have hle := GHeap.Le.refl H
  have base_h := h
  refine .seq (fun K1 hK1 => ?_)
  refine .region (.m rfl rfl rfl (.assign rfl) (.nil ?_))
  refine hK1 _ _ ?_
  refine .seq (fun K2 hK2 => ?_)
  refine .region ?_
  refine .r rfl rfl rfl (.litR rfl sl_22_A ze_2_E rfl rfl (by omega) (by omega) rfl rfl) ?_
  rintro _ H7 ⟨g7, rfl, le7, ge7, at7⟩
  have nx_H7 := le7.1
  replace hle := hle.trans le7
  have lt_at7 := GHeap.lt_of_get at7
  replace h := base_h.mono hle
  replace at7 : GHeap.get H7 g7 = some (.row (ints []) 2 true) := at7
  refine .r rfl rfl rfl (.litR rfl sl_22_A ze_2_E rfl rfl (by omega) (by omega) rfl rfl) ?_
  rintro _ H8 ⟨g8, rfl, le8, ge8, at8⟩
  have nx_H8 := le8.1
  replace hle := hle.trans le8
  replace at7 := le8.2 _ _ at7
  have lt_at8 := GHeap.lt_of_get at8
  replace h := base_h.mono hle
  replace at8 : GHeap.get H8 g8 = some (.row (ints []) 2 true) := at8
  refine .m rfl rfl rfl (.assign rfl) (.m rfl rfl rfl (.assign rfl) (.nil ?_))
  refine hK2 _ _ ?_
  refine .seq (fun K3 hK3 => ?_)
  refine .seq (fun K4 hK4 => ?_)
  refine .region (.m rfl rfl rfl (.assign rfl) (.nil ?_))
  refine hK4 _ _ ?_
  refine .block ?_
  refine .loopR (σ := Nat × Nat × Nat × Nat × Nat) [(0, some _)] (fun (k, gL3, nL3, gL4, nL4) => [(5, some (.int .i64 (k : Int))), (3, some (.slice (some ⟨gL3, 0, none⟩) nL3 nL3)), (4, some (.slice (some ⟨gL4, 0, none⟩) nL4 nL4))]) (fun (k, gL3, nL3, gL4, nL4) H' => St [g7, g8] H8 H' ∧ H'.get gL3 = some (.row (ints (clsL (kerB xs) k)) 2 true) ∧ (gL3 = g7 ∨ H8.next ≤ gL3) ∧ nL3 = (clsL (kerB xs) k).length ∧ H'.get gL4 = some (.row (ints (seenL xs k)) 2 true) ∧ (gL4 = g8 ∨ H8.next ≤ gL4) ∧ nL4 = (seenL xs k).length ∧ gL3 ≠ gL4 ∧ k ≤ xs.length) (fun (k, gL3, nL3, gL4, nL4) => xs.length - k) ((0, _, _, _, _)) ⟨rfl, trivial⟩ ⟨rfl, rfl, rfl, trivial⟩ ?_ ?_
  ·
   refine ⟨.refl _ _, by first | assumption | exact at7 | simpa using at7, .inl rfl, by first | rfl | assumption | simp | omega, by first | assumption | exact at8 | simpa using at8, .inl rfl, by first | rfl | assumption | simp | omega, by omega, ?_⟩
   omega
  rintro ⟨k, gL3, nL3, gL4, nL4⟩ HL1 ⟨lst1, at_L3, pl_L3, ln_L3, at_L4, pl_L4, ln_L4, ap1_0, hI⟩ KL1 hKL1
  refine .forget (fr' := [(5, some (.int .i64 (k : Int))), (3, some (.slice (some ⟨gL3, 0, none⟩) nL3 nL3)), (4, some (.slice (some ⟨gL4, 0, none⟩) nL4 nL4)), (0, some _)]) ⟨rfl, rfl, rfl, rfl, trivial⟩ ?_
  have ge_L3 : H.next ≤ gL3 := by omega
  have ge_L4 : H.next ≤ gL4 := by omega
  have nx_HL1 := lst1.nx
  replace hle := hle.st lst1 (fun k hk => ⟨by omega, by omega, trivial⟩)
  have lt_at_L3 := GHeap.lt_of_get at_L3
  have lt_at_L4 := GHeap.lt_of_get at_L4
  replace h := base_h.mono hle
  have i4 := Ints.of_get at_L4
  have hl3 : (clsL (kerB xs) k).length = k := length_clsL _ _
  have hl4 : (seenL xs k).length ≤ k := by rw [length_seenL]; exact reps_le _ _
  obtain rfl := ln_L4
  have hix := idxL_lt (seenL xs k) (xs.getD k 0)
  refine .seq (fun K5 hK5 => ?_)
  refine .seq (fun K6 hK6 => ?_)
  refine .region (.m rfl rfl rfl (.move rfl) (.m rfl rfl rfl (.move rfl) (.m rfl rfl rfl (.len sl_22_A rfl) ?_)))
  refine .m rfl rfl rfl (.cmp rfl rfl rfl) (.nil ?_)
  refine hK6 _ _ ?_
  refine .cond rfl (fun h12 => ?_) (fun h12 => ?_)
  ·
   try simp only [sps] at h12
   refine .skip ?_
   refine hK5 _ _ ?_
   refine .seq (fun K7 hK7 => ?_)
   refine .block ?_
   refine .seq (fun K8 hK8 => ?_)
   refine .region (.m rfl rfl rfl (.move rfl) (.m rfl rfl rfl (.move rfl) (.m rfl rfl rfl (.move rfl) ?_)))
   refine .m rfl rfl rfl (.idxN sl_22_A (by assumption) rfl rfl (by omega)) ?_
   refine .m rfl rfl rfl (.loadI on_2_A (by assumption) rfl (by omega)) ?_
   refine .callQ rfl rfl rfl rfl @Try.call143 rfl (l01Index_c) ?_
   refine .m rfl rfl rfl (.assign rfl) (.nil ?_)
   refine hK8 _ _ ?_
   refine .seq (fun K9 hK9 => ?_)
   refine .seq (fun K10 hK10 => ?_)
   refine .region (.m rfl rfl rfl (.move rfl) (.m rfl rfl rfl (.cmp rfl rfl rfl) (.nil ?_)))
   refine hK10 _ _ ?_
   refine .cond rfl (fun h22 => ?_) (fun h22 => ?_)
   ·
    try simp only [sps] at h22
    refine .seq (fun K11 hK11 => ?_)
    refine .region (.m rfl rfl rfl (.move rfl) (.m rfl rfl rfl (.len sl_22_A rfl) (.m rfl rfl rfl (.assign rfl) ?_)))
    refine .nil ?_
    refine hK11 _ _ ?_
    refine .region (.m rfl rfl rfl (.move rfl) (.m rfl rfl rfl (.move rfl) (.m rfl rfl rfl (.move rfl) ?_)))
    refine .m rfl rfl rfl (.idxN sl_22_A (by assumption) rfl rfl (by omega)) ?_
    refine .m rfl rfl rfl (.loadI on_2_A (by assumption) rfl (by omega)) ?_
    refine .r rfl rfl rfl (.litR rfl sl_22_A ze_2_E rfl rfl (by omega) (by omega) rfl rfl) ?_
    rintro _ H30 ⟨g30, rfl, le30, ge30, at30⟩
    have nx_H30 := le30.1
    replace hle := hle.trans le30
    replace lst1 := lst1.le le30
    replace at_L3 := le30.2 _ _ at_L3
    replace at_L4 := le30.2 _ _ at_L4
    have lt_at30 := GHeap.lt_of_get at30
    replace h := base_h.mono hle
    refine .r rfl rfl rfl (.appendI rfl sl_22_A ze_2_E rfl by_2_E sl_22_A rfl rfl (by assumption) (by assumption) (by first | omega | (simp <;> omega)) (by omega) (by omega)) ?_
    rintro _ H31 ⟨g31, rfl, st31, ge31, at31⟩
    have nx_H31 := st31.nx
    replace hle := hle.st st31 (fun k hk => ⟨by omega, trivial⟩)
    replace lst1 := lst1.st st31 (fun k hk ho => by simp only [out, and_true] at ho ⊢ <;> first | exact ho | exact ho.1 | exact ho.2 | exact ho.2.1 | exact ho.2.2 | exact ho.2.2.1 | exact ho.2.2.2 | omega)
    replace at_L3 := st31.same _ _ ⟨ap1_0, trivial⟩ at_L3
    have ne_g30_gL4 : g30 ≠ gL4 := by omega
    replace at30 := st31.same _ _ ⟨ne_g30_gL4, trivial⟩ at30
    have lt_at31 := GHeap.lt_of_get at31
    replace h := base_h.mono hle
    refine .m rfl rfl rfl (.assign rfl) (.nil ?_)
    refine hK9 _ _ ?_
    refine .region (.m rfl rfl rfl (.move rfl) (.m rfl rfl rfl (.move rfl) ?_))
    refine .r rfl rfl rfl (.litR rfl sl_22_A ze_2_E rfl rfl (by omega) (by omega) rfl rfl) ?_
    rintro _ H34 ⟨g34, rfl, le34, ge34, at34⟩
    have nx_H34 := le34.1
    replace hle := hle.trans le34
    replace lst1 := lst1.le le34
    replace at_L3 := le34.2 _ _ at_L3
    replace at30 := le34.2 _ _ at30
    replace at31 := le34.2 _ _ at31
    have lt_at34 := GHeap.lt_of_get at34
    replace h := base_h.mono hle
    refine .r rfl rfl rfl (.appendI rfl sl_22_A ze_2_E rfl by_2_E sl_22_A rfl rfl (by assumption) (by assumption) (by first | omega | (simp <;> omega)) (by omega) (by omega)) ?_
    rintro _ H35 ⟨g35, rfl, st35, ge35, at35⟩
    have nx_H35 := st35.nx
    replace hle := hle.st st35 (fun k hk => ⟨by omega, trivial⟩)
    replace lst1 := lst1.st st35 (fun k hk ho => by simp only [out, and_true] at ho ⊢ <;> first | exact ho | exact ho.1 | exact ho.2 | exact ho.2.1 | exact ho.2.2 | exact ho.2.2.1 | exact ho.2.2.2 | omega)
    have ne_g30_gL3 : g30 ≠ gL3 := by omega
    replace at30 := st35.same _ _ ⟨ne_g30_gL3, trivial⟩ at30
    have ne_g31_gL3 : g31 ≠ gL3 := by omega
    replace at31 := st35.same _ _ ⟨ne_g31_gL3, trivial⟩ at31
    have ne_g34_gL3 : g34 ≠ gL3 := by omega
    replace at34 := st35.same _ _ ⟨ne_g34_gL3, trivial⟩ at34
    have lt_at35 := GHeap.lt_of_get at35
    replace h := base_h.mono hle
    refine .m rfl rfl rfl (.assign rfl) (.nil ?_)
    refine hK7 _ _ ?_
    refine .region (.m rfl rfl rfl (.move rfl) ?_)
    refine .m rfl rfl rfl (.add rfl rfl rfl (by omega) (by omega)) ?_
    refine .m rfl rfl rfl (.assign rfl) (.nil ?_)
    refine hKL1 ((k + 1, _, _, _, _)) _ _ ?_ ?_ ⟨rfl, rfl, rfl, rfl, trivial⟩
    ·
     refine ⟨lst1, by first | assumption | (rw [(cls_new h22).1]; assumption) | (rw [(cls_new h22).2]; assumption) | (rw [(cls_old h22).1]; assumption) | (rw [(cls_old h22).2]; assumption), by omega, by first | omega | (simp only [List.length_append, List.length_cons, List.length_nil] <;> omega) | (rw [(cls_new h22).1] <;> (first | omega | (simp only [List.length_append, List.length_cons, List.length_nil] <;> omega))) | (rw [(cls_new h22).2] <;> (first | omega | (simp only [List.length_append, List.length_cons, List.length_nil] <;> omega))) | (rw [(cls_old h22).1] <;> (first | omega | (simp only [List.length_append, List.length_cons, List.length_nil] <;> omega))) | (rw [(cls_old h22).2] <;> (first | omega | (simp only [List.length_append, List.length_cons, List.length_nil] <;> omega))), by first | assumption | (rw [(cls_new h22).1]; assumption) | (rw [(cls_new h22).2]; assumption) | (rw [(cls_old h22).1]; assumption) | (rw [(cls_old h22).2]; assumption), by omega, by first | omega | (simp only [List.length_append, List.length_cons, List.length_nil] <;> omega) | (rw [(cls_new h22).1] <;> (first | omega | (simp only [List.length_append, List.length_cons, List.length_nil] <;> omega))) | (rw [(cls_new h22).2] <;> (first | omega | (simp only [List.length_append, List.length_cons, List.length_nil] <;> omega))) | (rw [(cls_old h22).1] <;> (first | omega | (simp only [List.length_append, List.length_cons, List.length_nil] <;> omega))) | (rw [(cls_old h22).2] <;> (first | omega | (simp only [List.length_append, List.length_cons, List.length_nil] <;> omega))), by omega, ?_⟩
     omega
    (dsimp only; omega)
   try simp only [sps] at h22
   refine .skip ?_
   refine hK9 _ _ ?_
   refine .region (.m rfl rfl rfl (.move rfl) (.m rfl rfl rfl (.move rfl) ?_))
   refine .r rfl rfl rfl (.litR rfl sl_22_A ze_2_E rfl rfl (by omega) (by omega) rfl rfl) ?_
   rintro _ H34x2 ⟨g34x2, rfl, le34x2, ge34x2, at34x2⟩
   have nx_H34x2 := le34x2.1
   replace hle := hle.trans le34x2
   replace lst1 := lst1.le le34x2
   replace at_L3 := le34x2.2 _ _ at_L3
   replace at_L4 := le34x2.2 _ _ at_L4
   have lt_at34x2 := GHeap.lt_of_get at34x2
   replace h := base_h.mono hle
   refine .r rfl rfl rfl (.appendI rfl sl_22_A ze_2_E rfl by_2_E sl_22_A rfl rfl (by assumption) (by assumption) (by first | omega | (simp <;> omega)) (by omega) (by omega)) ?_
   rintro _ H35x2 ⟨g35x2, rfl, st35x2, ge35x2, at35x2⟩
   have nx_H35x2 := st35x2.nx
   replace hle := hle.st st35x2 (fun k hk => ⟨by omega, trivial⟩)
   replace lst1 := lst1.st st35x2 (fun k hk ho => by simp only [out, and_true] at ho ⊢ <;> first | exact ho | exact ho.1 | exact ho.2 | exact ho.2.1 | exact ho.2.2 | exact ho.2.2.1 | exact ho.2.2.2 | omega)
   replace at_L4 := st35x2.same _ _ ⟨(Ne.symm ap1_0), trivial⟩ at_L4
   have ne_g34x2_gL3 : g34x2 ≠ gL3 := by omega
   replace at34x2 := st35x2.same _ _ ⟨ne_g34x2_gL3, trivial⟩ at34x2
   have lt_at35x2 := GHeap.lt_of_get at35x2
   replace h := base_h.mono hle
   refine .m rfl rfl rfl (.assign rfl) (.nil ?_)
   refine hK7 _ _ ?_
   refine .region (.m rfl rfl rfl (.move rfl) ?_)
   refine .m rfl rfl rfl (.add rfl rfl rfl (by omega) (by omega)) ?_
   refine .m rfl rfl rfl (.assign rfl) (.nil ?_)
   refine hKL1 ((k + 1, _, _, _, _)) _ _ ?_ ?_ ⟨rfl, rfl, rfl, rfl, trivial⟩
   ·
    refine ⟨lst1, by first | assumption | (rw [(cls_new h22).1]; assumption) | (rw [(cls_new h22).2]; assumption) | (rw [(cls_old h22).1]; assumption) | (rw [(cls_old h22).2]; assumption), by omega, by first | omega | (simp only [List.length_append, List.length_cons, List.length_nil] <;> omega) | (rw [(cls_new h22).1] <;> (first | omega | (simp only [List.length_append, List.length_cons, List.length_nil] <;> omega))) | (rw [(cls_new h22).2] <;> (first | omega | (simp only [List.length_append, List.length_cons, List.length_nil] <;> omega))) | (rw [(cls_old h22).1] <;> (first | omega | (simp only [List.length_append, List.length_cons, List.length_nil] <;> omega))) | (rw [(cls_old h22).2] <;> (first | omega | (simp only [List.length_append, List.length_cons, List.length_nil] <;> omega))), by first | assumption | (rw [(cls_new h22).1]; assumption) | (rw [(cls_new h22).2]; assumption) | (rw [(cls_old h22).1]; assumption) | (rw [(cls_old h22).2]; assumption), by omega, by first | omega | (simp only [List.length_append, List.length_cons, List.length_nil] <;> omega) | (rw [(cls_new h22).1] <;> (first | omega | (simp only [List.length_append, List.length_cons, List.length_nil] <;> omega))) | (rw [(cls_new h22).2] <;> (first | omega | (simp only [List.length_append, List.length_cons, List.length_nil] <;> omega))) | (rw [(cls_old h22).1] <;> (first | omega | (simp only [List.length_append, List.length_cons, List.length_nil] <;> omega))) | (rw [(cls_old h22).2] <;> (first | omega | (simp only [List.length_append, List.length_cons, List.length_nil] <;> omega))), by omega, ?_⟩
    omega
   (dsimp only; omega)
  try simp only [sps] at h12
  refine .exit ?_
  refine hK3 _ _ ?_
  refine .seq (fun K12 hK12 => ?_)
  refine .region (.m rfl rfl rfl (.move rfl) (.m rfl rfl rfl (.assign rfl) (.nil ?_)))
  refine hK12 _ _ ?_
  refine .ret ?_
  refine hret _ _ ?_
  refine ⟨_, rfl, ?_⟩
  obtain rfl : k = xs.length := by omega
  exact ⟨hle, _, by rw [ln_L3], at_L3, by omega⟩
theorem l01ClassesN_c {a : Option Addr} {n : Nat} {xs : List Int} {H : GHeap} (hn : xs.length = n) (h : Ints H a xs := by assumption) (hl : n ≤ 1048576 := by omega) :
    GCalls Try.prog 132 [.slice a n n] H (NewInts 2 H (clsL (kerB xs) n)) := by
  subst hn
  exact l01Classes_c h hl
set_option maxHeartbeats 4000000 in
theorem l01Join_c {a : Option Addr} {n : Nat} {pss : List (List Int)} {r : Nat → Option Addr} {H : GHeap} (h : Intss H a pss r := by assumption) (hn : n ≤ 1048576 := by omega) (hl : pss.length ≤ 1048576 := by omega)
    (hp : ∀ i, i < pss.length → 2 ≤ (pss.getD i []).length ∧ 0 ≤ (pss.getD i []).getD 0 0 ∧ (pss.getD i []).getD 0 0 < n ∧ 0 ≤ (pss.getD i []).getD 1 0 ∧ (pss.getD i []).getD 1 0 < n) :
    GCalls Try.prog 89 [.int .i64 (n : Int), .slice a pss.length pss.length] H (NewInts 2 H (joinL n (pss.map fun p => (pA p, pB p)))) := by
  refine GCalls.body (N := 68) (rs := [.tmp 4]) Try.func89 rfl rfl rfl rfl (fun Qx hret hend => ?_)
  refine .forget (fr' := [(0, some _), (1, some _)]) ⟨rfl, rfl, trivial⟩ ?_
  have hle := GHeap.Le.refl H
  have base_h := h
  refine .seq (fun K1 hK1 => ?_)
  refine .region (.m rfl rfl rfl (.assign rfl) (.nil ?_))
  refine hK1 _ _ ?_
  refine .seq (fun K2 hK2 => ?_)
  refine .region ?_
  refine .r rfl rfl rfl (.litR rfl sl_22_A ze_2_E rfl rfl (by omega) (by omega) rfl rfl) ?_
  rintro _ H11 ⟨g11, rfl, le11, ge11, at11⟩
  have nx_H11 := le11.1
  replace hle := hle.trans le11
  have lt_at11 := GHeap.lt_of_get at11
  replace h := base_h.mono hle
  replace at11 : GHeap.get H11 g11 = some (.row (ints []) 2 true) := at11
  refine .m rfl rfl rfl (.assign rfl) (.nil ?_)
  refine hK2 _ _ ?_
  refine .seq (fun K3 hK3 => ?_)
  refine .seq (fun K4 hK4 => ?_)
  refine .region (.m rfl rfl rfl (.assign rfl) (.nil ?_))
  refine hK4 _ _ ?_
  refine .block ?_
  refine .loopR (σ := Nat × Nat × Nat) [(0, some _), (1, some _)] (fun (k, gL5, nL5) => [(6, some (.int .i64 (k : Int))), (5, some (.slice (some ⟨gL5, 0, none⟩) nL5 nL5))]) (fun (k, gL5, nL5) H' => St [g11] H11 H' ∧ H'.get gL5 = some (.row (ints (numsL k)) 2 true) ∧ (gL5 = g11 ∨ H11.next ≤ gL5) ∧ nL5 = (numsL k).length ∧ k ≤ n) (fun (k, gL5, nL5) => n - k) ((0, _, _)) ⟨rfl, rfl, trivial⟩ ⟨rfl, rfl, trivial⟩ ?_ ?_
  ·
   refine ⟨.refl _ _, by first | assumption | exact at11 | simpa using at11, .inl rfl, by first | rfl | assumption | simp | omega, ?_⟩
   omega
  rintro ⟨k, gL5, nL5⟩ HL1 ⟨lst1, at_L5, pl_L5, ln_L5, hI⟩ KL1 hKL1
  refine .forget (fr' := [(6, some (.int .i64 (k : Int))), (5, some (.slice (some ⟨gL5, 0, none⟩) nL5 nL5)), (0, some _), (1, some _)]) ⟨rfl, rfl, rfl, rfl, trivial⟩ ?_
  have ge_L5 : H.next ≤ gL5 := by omega
  have nx_HL1 := lst1.nx
  replace hle := hle.st lst1 (fun k hk => ⟨by omega, trivial⟩)
  have lt_at_L5 := GHeap.lt_of_get at_L5
  replace h := base_h.mono hle
  have hl5 : (numsL k).length = k := length_numsL _
  refine .seq (fun K5 hK5 => ?_)
  refine .seq (fun K6 hK6 => ?_)
  refine .region (.m rfl rfl rfl (.move rfl) (.m rfl rfl rfl (.move rfl) (.m rfl rfl rfl (.cmp rfl rfl rfl) ?_)))
  refine .nil ?_
  refine hK6 _ _ ?_
  refine .cond rfl (fun h14 => ?_) (fun h14 => ?_)
  ·
   try simp only [sps] at h14
   refine .skip ?_
   refine hK5 _ _ ?_
   refine .seq (fun K7 hK7 => ?_)
   refine .block ?_
   refine .region (.m rfl rfl rfl (.move rfl) (.m rfl rfl rfl (.move rfl) ?_))
   refine .r rfl rfl rfl (.litR rfl sl_22_A ze_2_E rfl rfl (by omega) (by omega) rfl rfl) ?_
   rintro _ H19 ⟨g19, rfl, le19, ge19, at19⟩
   have nx_H19 := le19.1
   replace hle := hle.trans le19
   replace lst1 := lst1.le le19
   replace at_L5 := le19.2 _ _ at_L5
   have lt_at19 := GHeap.lt_of_get at19
   replace h := base_h.mono hle
   refine .r rfl rfl rfl (.appendI rfl sl_22_A ze_2_E rfl by_2_E sl_22_A rfl rfl (by assumption) (by assumption) (by first | omega | (simp <;> omega)) (by omega) (by omega)) ?_
   rintro _ H20 ⟨g20, rfl, st20, ge20, at20⟩
   have nx_H20 := st20.nx
   replace hle := hle.st st20 (fun k hk => ⟨by omega, trivial⟩)
   replace lst1 := lst1.st st20 (fun k hk ho => by simp only [out, and_true] at ho ⊢ <;> first | exact ho | exact ho.1 | exact ho.2 | exact ho.2.1 | exact ho.2.2 | exact ho.2.2.1 | exact ho.2.2.2 | omega)
   have ne_g19_gL5 : g19 ≠ gL5 := by omega
   replace at19 := st20.same _ _ ⟨ne_g19_gL5, trivial⟩ at19
   have lt_at20 := GHeap.lt_of_get at20
   replace h := base_h.mono hle
   refine .m rfl rfl rfl (.assign rfl) (.nil ?_)
   refine hK7 _ _ ?_
   refine .region (.m rfl rfl rfl (.move rfl) ?_)
   refine .m rfl rfl rfl (.add rfl rfl rfl (by omega) (by omega)) ?_
   refine .m rfl rfl rfl (.assign rfl) (.nil ?_)
   refine hKL1 ((k + 1, _, _)) _ _ ?_ ?_ ⟨rfl, rfl, rfl, rfl, trivial⟩
   ·
    refine ⟨lst1, by first | assumption | (rw [numsL_succ k]; assumption), by omega, by first | omega | (simp only [List.length_append, List.length_cons, List.length_nil] <;> omega) | (rw [numsL_succ k] <;> (first | omega | (simp only [List.length_append, List.length_cons, List.length_nil] <;> omega))), ?_⟩
    omega
   (dsimp only; omega)
  try simp only [sps] at h14
  refine .exit ?_
  refine hK3 _ _ ?_
  refine .seq (fun K8 hK8 => ?_)
  refine .seq (fun K9 hK9 => ?_)
  refine .region (.m rfl rfl rfl (.assign rfl) (.nil ?_))
  refine hK9 _ _ ?_
  refine .block ?_
  obtain rfl : k = n := by omega
  rw [length_numsL] at ln_L5
  obtain rfl := ln_L5.symm
  refine .loopR (σ := Nat × List Int) [(1, some _), (5, some _)] (fun (j, lab) => [(7, some (.int .i64 (j : Int)))]) (fun (j, lab) H' => St [gL5] HL1 H' ∧ H'.get gL5 = some (.row (ints lab) 2 true) ∧ j ≤ pss.length ∧ lab.length = k ∧ Ker lab (joinK (pairL pss j)) k) (fun (j, lab) => pss.length - j) ((0, numsL k)) ⟨rfl, rfl, trivial⟩ ⟨rfl, trivial⟩ ?_ ?_
  ·
   refine ⟨.refl _ _, by first | assumption | exact at_L5 | simpa using at_L5, ?_⟩
   exact ⟨by omega, length_numsL _, by rw [pairL_zero]; exact Ker.start fun i hi => numsL_get (by omega)⟩
  rintro ⟨j, lab⟩ HL2 ⟨lst2, at_L5, hI⟩ KL2 hKL2
  refine .forget (fr' := [(7, some (.int .i64 (j : Int))), (1, some _), (5, some _)]) ⟨rfl, rfl, rfl, trivial⟩ ?_
  have nx_HL2 := lst2.nx
  replace hle := hle.st lst2 (fun k hk => ⟨by omega, trivial⟩)
  replace lst1 := lst1.st lst2 (fun k hk ho => by simp only [out, and_true] at ho ⊢ <;> first | exact ho | exact ho.1 | exact ho.2 | exact ho.2.1 | exact ho.2.2 | exact ho.2.2.1 | exact ho.2.2.2 | omega)
  have lt_at_L5 := GHeap.lt_of_get at_L5
  replace h := base_h.mono hle
  obtain ⟨hj, hlab, hK⟩ := hI
  have i5 := Ints.of_get at_L5
  have i5s : SlA HL2 _ _ _ := i5
  rw [hlab] at i5s
  refine .seq (fun K10 hK10 => ?_)
  refine .seq (fun K11 hK11 => ?_)
  refine .region (.m rfl rfl rfl (.move rfl) (.m rfl rfl rfl (.move rfl) (.m rfl rfl rfl (.len sl_23_B rfl) ?_)))
  refine .m rfl rfl rfl (.cmp rfl rfl rfl) (.nil ?_)
  refine hK11 _ _ ?_
  refine .cond rfl (fun h24 => ?_) (fun h24 => ?_)
  ·
   simp only [sps] at h24
   have q1 := hp j (by omega)
   have q2 := h.2 j (by omega)
   have q3 : pA (pss.getD j []) < k := by unfold pA; omega
   have q4 : pB (pss.getD j []) < k := by unfold pB; omega
   have q2 := h.2 j (by omega)
   refine .skip ?_
   refine hK10 _ _ ?_
   refine .seq (fun K12 hK12 => ?_)
   refine .block ?_
   refine .seq (fun K13 hK13 => ?_)
   refine .regionD mixed_orders_B (.q 0 (.q 1 (.q 2 (.q 3 (.q 4 (.q 5 (.q 6 (.q 7 (.q 8 (.q 9 (.q 10 (.q 11 (.q 12 (.q 13 (.q 14 (.q 15 (.q 16 (.q 17 (.q 18 (.q 19 (.done))))))))))))))))))))) (by kernel_rfl) ?_
   refine .m rfl rfl rfl rfl (.refl _) (.move rfl) (.m rfl rfl rfl rfl (.refl _) (.move rfl) (.m rfl rfl rfl rfl (.refl _) (.move rfl) ?_))
   refine .m rfl rfl rfl rfl (.refl _) (.idxN sl_23_B (Intss.sl (by assumption)) rfl rfl (by omega)) ?_
   refine .m rfl rfl rfl rfl (.refl _) (.loadR on_22_B (by assumption) rfl (by omega)) ?_
   refine .m rfl rfl rfl rfl (.refl _) (.idxN (j := 0) sl_22_A (by assumption) rfl rfl (by omega)) ?_
   refine .m rfl rfl rfl rfl (.refl _) (.loadI on_2_A (by assumption) rfl (by omega)) ?_
   refine .m rfl rfl rfl rfl (.refl _) (.idx1 sl_22_A (by first | assumption | exact SlA.of_row at_L5 (by first | rfl | (simp; done) | (simp <;> omega))) rfl rfl (by omega) (by omega)) ?_
   refine .m rfl rfl rfl rfl (.refl _) (.loadI on_2_A (by first | assumption | exact Ints.of_get at_L5) rfl (by omega)) ?_
   refine .m rfl rfl rfl rfl (.refl _) (.move rfl) (.m rfl rfl rfl rfl (.refl _) (.move rfl) (.m rfl rfl rfl rfl (.refl _) (.move rfl) ?_))
   refine .m rfl rfl rfl rfl (.refl _) (.idxN sl_23_B (Intss.sl (by assumption)) rfl rfl (by omega)) ?_
   refine .m rfl rfl rfl rfl (.refl _) (.loadR on_22_B (by assumption) rfl (by omega)) ?_
   refine .m rfl rfl rfl rfl (.refl _) (.idxN (j := 1) sl_22_A (by assumption) rfl rfl (by omega)) ?_
   refine .m rfl rfl rfl rfl (.refl _) (.loadI on_2_A (by assumption) rfl (by omega)) ?_
   refine .m rfl rfl rfl rfl (.refl _) (.idx1 sl_22_A (by first | assumption | exact SlA.of_row at_L5 (by first | rfl | (simp; done) | (simp <;> omega))) rfl rfl (by omega) (by omega)) ?_
   refine .m rfl rfl rfl rfl (.refl _) (.loadI on_2_A (by first | assumption | exact Ints.of_get at_L5) rfl (by omega)) ?_
   refine .m rfl rfl rfl rfl (.refl _) (.assign rfl) (.m rfl rfl rfl rfl (.refl _) (.assign rfl) ?_)
   refine .done ?_
   refine hK13 _ _ ?_
   refine .seq (fun K14 hK14 => ?_)
   refine .region (.m rfl rfl rfl (.assign rfl) (.nil ?_))
   refine hK14 _ _ ?_
   refine .block ?_
   refine .loopR (σ := Nat) [(1, some _), (5, some _), (7, some _), (8, some _), (9, some _)] (fun e => [(10, some (.int .i64 (e : Int)))]) (fun e H' => St [gL5] HL2 H' ∧ H'.get gL5 = some (.row (ints (relab lab (lab.getD (pA (pss.getD j [])) 0) (lab.getD (pB (pss.getD j [])) 0) e)) 2 true) ∧ e ≤ lab.length) (fun e => lab.length - e) (0) ⟨rfl, rfl, rfl, rfl, rfl, trivial⟩ ⟨rfl, trivial⟩ ?_ ?_
   ·
    refine ⟨.refl _ _, by rw [relab_zero]; assumption, ?_⟩
    omega
   rintro e HL3 ⟨lst3, at_L5, hI⟩ KL3 hKL3
   refine .forget (fr' := [(10, some (.int .i64 (e : Int))), (1, some _), (5, some _), (7, some _), (8, some _), (9, some _)]) ⟨rfl, rfl, rfl, rfl, rfl, rfl, trivial⟩ ?_
   have nx_HL3 := lst3.nx
   replace hle := hle.st lst3 (fun k hk => ⟨by omega, trivial⟩)
   replace lst1 := lst1.st lst3 (fun k hk ho => by simp only [out, and_true] at ho ⊢ <;> first | exact ho | exact ho.1 | exact ho.2 | exact ho.2.1 | exact ho.2.2 | exact ho.2.2.1 | exact ho.2.2.2 | omega)
   replace lst2 := lst2.st lst3 (fun k hk ho => by simp only [out, and_true] at ho ⊢ <;> first | exact ho | exact ho.1 | exact ho.2 | exact ho.2.1 | exact ho.2.2 | exact ho.2.2.1 | exact ho.2.2.2 | omega)
   have lt_at_L5 := GHeap.lt_of_get at_L5
   replace h := base_h.mono hle
   clear q2
   have q2 := h.2 j (by omega)
   have i5 := Ints.of_get at_L5
   have hlr := length_relab lab (lab.getD (pA (pss.getD j [])) 0) (lab.getD (pB (pss.getD j [])) 0) e
   have i5s : SlA HL3 _ _ _ := i5
   rw [hlr, hlab] at i5s
   refine .seq (fun K15 hK15 => ?_)
   refine .seq (fun K16 hK16 => ?_)
   refine .region (.m rfl rfl rfl (.move rfl) (.m rfl rfl rfl (.move rfl) (.m rfl rfl rfl (.len sl_22_A rfl) ?_)))
   refine .m rfl rfl rfl (.cmp rfl rfl rfl) (.m rfl rfl rfl (.move rfl) ?_)
   refine .split (fun h49 => ?_) (fun h49 => ?_)
   ·
    try simp only [sps] at h49
    refine .mg rfl rfl rfl rfl rfl (.move rfl) (.mg rfl rfl rfl rfl rfl (.move rfl) (.mg rfl rfl rfl rfl rfl (.cmp rfl rfl rfl) (.m rfl rfl rfl (.pickT rfl rfl) ?_)))
    refine .nil ?_
    refine hK16 _ _ ?_
    refine .cond rfl (fun h53 => ?_) (fun h53 => ?_)
    ·
     try simp only [sps] at h53
     refine .skip ?_
     refine hK15 _ _ ?_
     refine .seq (fun K17 hK17 => ?_)
     refine .block ?_
     refine .seq (fun K18 hK18 => ?_)
     refine .region (.m rfl rfl rfl (.move rfl) (.m rfl rfl rfl (.move rfl) ?_))
     refine .m rfl rfl rfl (.idxN sl_22_A (by first | assumption | exact SlA.of_row at_L5 (by first | rfl | (simp; done) | (simp <;> omega))) rfl rfl (by omega)) ?_
     refine .m rfl rfl rfl (.loadI on_2_A (by first | assumption | exact Ints.of_get at_L5) rfl (by omega)) ?_
     refine .m rfl rfl rfl (.move rfl) (.m rfl rfl rfl (.cmp rfl rfl rfl) (.nil ?_))
     refine hK18 _ _ ?_
     refine .cond rfl (fun h61 => ?_) (fun h61 => ?_)
     ·
      simp only [sps] at h61
      rw [relab_getD (by omega), if_neg (by omega)] at h61
      refine .region (.m rfl rfl rfl (.move rfl) (.m rfl rfl rfl (.move rfl) (.m rfl rfl rfl (.move rfl) ?_)))
      refine .m rfl rfl rfl (.idxN sl_22_A (by first | assumption | exact SlA.of_row at_L5 (by first | rfl | (simp; done) | (simp <;> omega))) rfl rfl (by omega)) ?_
      refine .r0 rfl rfl (.storeI rfl sz_2_E rfl rfl (by assumption) (by first | omega | (simp <;> omega))) ?_
      rintro _ H14004 ⟨rfl, st14004, at14004⟩
      have nx_H14004 := st14004.nx
      replace hle := hle.st st14004 (fun k hk => ⟨by omega, trivial⟩)
      replace lst1 := lst1.st st14004 (fun k hk ho => by simp only [out, and_true] at ho ⊢ <;> first | exact ho | exact ho.1 | exact ho.2 | exact ho.2.1 | exact ho.2.2 | exact ho.2.2.1 | exact ho.2.2.2 | omega)
      replace lst2 := lst2.st st14004 (fun k hk ho => by simp only [out, and_true] at ho ⊢ <;> first | exact ho | exact ho.1 | exact ho.2 | exact ho.2.1 | exact ho.2.2 | exact ho.2.2.1 | exact ho.2.2.2 | omega)
      replace lst3 := lst3.st st14004 (fun k hk ho => by simp only [out, and_true] at ho ⊢ <;> first | exact ho | exact ho.1 | exact ho.2 | exact ho.2.1 | exact ho.2.2 | exact ho.2.2.1 | exact ho.2.2.2 | omega)
      have lt_at14004 := GHeap.lt_of_get at14004
      replace h := base_h.mono hle
      clear q2
      have q2 := h.2 j (by omega)
      refine .nil ?_
      refine hK17 _ _ ?_
      refine .region (.m rfl rfl rfl (.move rfl) ?_)
      refine .m rfl rfl rfl (.add rfl rfl rfl (by omega) (by omega)) ?_
      refine .m rfl rfl rfl (.assign rfl) (.nil ?_)
      refine hKL3 (e + 1) _ _ ?_ ?_ ⟨rfl, rfl, rfl, rfl, rfl, rfl, trivial⟩
      ·
       refine ⟨lst3, by first | (rw [relab_T (b := lab.getD (pB (pss.getD j [])) 0) (by omega) h61]; have e9 := at14004; rw [Nat.zero_add] at e9; exact e9) | (rw [relab_F (b := lab.getD (pB (pss.getD j [])) 0) (by omega) h61]; assumption), ?_⟩
       omega
      omega
     simp only [sps] at h61
     rw [relab_getD (by omega), if_neg (by omega)] at h61
     refine .skip ?_
     refine hK17 _ _ ?_
     refine .region (.m rfl rfl rfl (.move rfl) ?_)
     refine .m rfl rfl rfl (.add rfl rfl rfl (by omega) (by omega)) ?_
     refine .m rfl rfl rfl (.assign rfl) (.nil ?_)
     refine hKL3 (e + 1) _ _ ?_ ?_ ⟨rfl, rfl, rfl, rfl, rfl, rfl, trivial⟩
     ·
      refine ⟨lst3, by first | (rw [relab_T (b := lab.getD (pB (pss.getD j [])) 0) (by omega) h61]; have e9 := at14004; rw [Nat.zero_add] at e9; exact e9) | (rw [relab_F (b := lab.getD (pB (pss.getD j [])) 0) (by omega) h61]; assumption), ?_⟩
      omega
     omega
    simp only [sps] at h53
    refine .exit ?_
    refine hK12 _ _ ?_
    refine .region (.m rfl rfl rfl (.move rfl) ?_)
    refine .m rfl rfl rfl (.add rfl rfl rfl (by omega) (by omega)) ?_
    refine .m rfl rfl rfl (.assign rfl) (.nil ?_)
    refine hKL2 ((j + 1, relab lab (lab.getD (pA (pss.getD j [])) 0) (lab.getD (pB (pss.getD j [])) 0) e)) _ _ ?_ ?_ ⟨rfl, rfl, rfl, trivial⟩
    ·
     refine ⟨lst2, by assumption, ?_⟩
     exact ⟨by omega, by rw [length_relab]; omega, by rw [pairL_succ (by omega), joinK_snoc]; exact hK.relab hlab (by omega) (by omega) (by first | exact .inl (by omega) | exact .inr h53)⟩
    (dsimp only; omega)
   simp only [sps] at h49
   refine .sg rfl rfl rfl rfl rfl (.sg rfl rfl rfl rfl rfl (.sg rfl rfl rfl rfl rfl (.m rfl rfl rfl (.pickF rfl rfl) ?_)))
   refine .nil ?_
   refine hK16 _ _ ?_
   refine .condF rfl ?_
   refine .exit ?_
   refine hK12 _ _ ?_
   refine .region (.m rfl rfl rfl (.move rfl) ?_)
   refine .m rfl rfl rfl (.add rfl rfl rfl (by omega) (by omega)) ?_
   refine .m rfl rfl rfl (.assign rfl) (.nil ?_)
   refine hKL2 ((j + 1, relab lab (lab.getD (pA (pss.getD j [])) 0) (lab.getD (pB (pss.getD j [])) 0) e)) _ _ ?_ ?_ ⟨rfl, rfl, rfl, trivial⟩
   ·
    refine ⟨lst2, by assumption, ?_⟩
    exact ⟨by omega, by rw [length_relab]; omega, by rw [pairL_succ (by omega), joinK_snoc]; exact hK.relab hlab (by omega) (by omega) (by first | exact .inl (by omega) | exact .inr h53)⟩
   (dsimp only; omega)
  try simp only [sps] at h24
  refine .exit ?_
  refine hK8 _ _ ?_
  refine .seq (fun K19 hK19 => ?_)
  refine .region ?_
  obtain rfl : j = pss.length := by omega
  refine .m rfl rfl rfl (.move rfl) ?_
  refine .call rfl rfl rfl rfl @Try.call132 rfl (l01ClassesN_c hlab) ?_
  rintro _ H67 ⟨le67, g67, rfl, at67, ge67⟩
  have nx_H67 := le67.1
  replace hle := hle.trans le67
  replace lst1 := lst1.le le67
  replace at_L5 := le67.2 _ _ at_L5
  have lt_at67 := GHeap.lt_of_get at67
  replace h := base_h.mono hle
  have i67 := Ints.of_get at67
  refine .m rfl rfl rfl (.assign rfl) (.nil ?_)
  refine hK19 _ _ ?_
  refine .ret ?_
  refine hret _ _ ?_
  refine ⟨_, rfl, ?_⟩
  rw [pairL_all] at hK
  have e1 := hK.cls
  exact ⟨hle, g67, by rw [length_joinL, length_clsL], by unfold joinL; rw [← e1]; exact at67, by omega⟩
theorem l01JoinN_c {a : Option Addr} {n' : Int} {n L : Nat} {pss : List (List Int)} {r : Nat → Option Addr} {H : GHeap} (hn' : n' = (n : Int)) (hL : pss.length = L) (h : Intss H a pss r) (hn : n ≤ 1048576) (hl : L ≤ 1048576)
    (hp : ∀ i, i < pss.length → 2 ≤ (pss.getD i []).length ∧ 0 ≤ (pss.getD i []).getD 0 0 ∧ (pss.getD i []).getD 0 0 < n ∧ 0 ≤ (pss.getD i []).getD 1 0 ∧ (pss.getD i []).getD 1 0 < n) :
    GCalls Try.prog 89 [.int .i64 n', .slice a L L] H (NewInts 2 H (joinL n (pss.map fun p => (pA p, pB p)))) := by
  subst hn' hL
  exact l01Join_c h hn hl hp
theorem l01JoinM_c {a : Option Addr} {n' : Int} {n L : Nat} {pss : List (List Int)} {r : Nat → Option Addr} {cs : List Int} {H : GHeap} (hcs : joinL n (pss.map fun p => (pA p, pB p)) = cs) (hn' : n' = (n : Int)) (hL : pss.length = L) (h : Intss H a pss r) (hn : n ≤ 1048576) (hl : L ≤ 1048576)
    (hp : ∀ i, i < pss.length → 2 ≤ (pss.getD i []).length ∧ 0 ≤ (pss.getD i []).getD 0 0 ∧ (pss.getD i []).getD 0 0 < n ∧ 0 ≤ (pss.getD i []).getD 1 0 ∧ (pss.getD i []).getD 1 0 < n) :
    GCalls Try.prog 89 [.int .i64 n', .slice a L L] H (NewInts 2 H cs) := by
  subst hcs
  exact l01JoinN_c hn' hL h hn hl hp
end Go.Proofs.Ytgnfekfdmgnhcaa
/- Partitions: the program's joiner. No condition but those of each statement. -/
namespace Go.Proofs.Ytgnfekfdmgnhcaa
open Go Go.GL Go.RowKit Go.Proofs
theorem sl_128_Pb : sliceT Try.prog 128 = some (2, 1) := by kernel_rfl
theorem sl_106_Pb : sliceT Try.prog 106 = some (2, 1) := by kernel_rfl
theorem mp_183_Pb : mapIT Try.prog 183 = some 2 := by kernel_rfl
theorem zv_2_Pb : zvT Try.prog 2 = some (.int .i64 0) := by kernel_rfl
theorem joinerOf_c {n : Int} {H : GHeap} (h0 : 0 ≤ n := by omega) (hn : n ≤ 1048576 := by omega) : GCalls Try.prog 93 [.int .i64 n] H (NewInts 2 H (numsL n.toNat)) := by
  refine GCalls.body (N := 5) (rs := [.tmp 2]) Try.func93 rfl rfl rfl rfl (fun Qx hret hend => ?_)
  refine .forget (fr' := [(0, some _)]) ⟨rfl, trivial⟩ ?_
  have hle := GHeap.Le.refl H
  refine .seq (fun K1 hK1 => ?_)
  refine .region (.m rfl rfl rfl (.assign rfl) (.nil ?_))
  refine hK1 _ _ ?_
  refine .seq (fun K2 hK2 => ?_)
  refine .region (.m rfl rfl rfl (.move rfl) ?_)
  refine .call rfl rfl rfl rfl @Try.call136 rfl (numbers_c) ?_
  rintro _ H4 ⟨le4, g4, rfl, at4, ge4⟩
  have nx_H4 := le4.1
  replace hle := hle.trans le4
  have lt_at4 := GHeap.lt_of_get at4
  have i4 := Ints.of_get at4
  refine .m rfl rfl rfl (.assign rfl) (.nil ?_)
  refine hK2 _ _ ?_
  refine .ret ?_
  refine hret _ _ ?_
  refine ⟨_, rfl, ?_⟩
  exact ⟨hle, g4, rfl, at4, by omega⟩
theorem root_c {g N : Nat} {x : Int} {js : List Int} {H : GHeap} (hg : H.get g = some (.row (ints js) 2 true) := by assumption) (hF : Forest js := by assumption) (hN : js.length = N := by assumption) (hn : N ≤ 1048576 := by omega) (h0 : 0 ≤ x := by omega) (hx : x < N := by omega) :
    GCalls Try.prog 137 [.slice (some ⟨g, 0, none⟩) N N, .int .i64 x] H (fun v H' => v = .int .i64 (rootOf js x.toNat : Int) ∧ St [g] H H' ∧ ∃ js', H'.get g = some (.row (ints js') 2 true) ∧ js'.length = N ∧ Forest js' ∧ ∀ z, z < N → rootOf js' z = rootOf js z) := by
  refine GCalls.body (N := 26) (rs := [.tmp 4]) Try.func137 rfl rfl rfl rfl (fun Qx hret hend => ?_)
  refine .forget (fr' := [(0, some _), (1, some _)]) ⟨rfl, rfl, trivial⟩ ?_
  have lt_hg := GHeap.lt_of_get hg
  refine .seq (fun K1 hK1 => ?_)
  refine .region (.m rfl rfl rfl (.assign rfl) (.nil ?_))
  refine hK1 _ _ ?_
  refine .seq (fun K2 hK2 => ?_)
  refine .block ?_
  refine .loopR (σ := Int × List Int) [(0, some _)] (fun (y, ks) => [(1, some (.int .i64 y))]) (fun (y, ks) H' => St [g] H H' ∧ H'.get g = some (.row (ints ks) 2 true) ∧ 0 ≤ y ∧ y < N ∧ ks.length = N ∧ Forest ks ∧ (∀ z, z < N → rootOf ks z = rootOf js z) ∧ rootOf js y.toNat = rootOf js x.toNat) (fun (y, ks) => y.toNat) ((x, js)) ⟨rfl, trivial⟩ ⟨rfl, trivial⟩ ?_ ?_
  ·
   refine ⟨.refl _ _, by first | assumption | exact hg | simpa using hg, ?_⟩
   exact ⟨by omega, by omega, hN, hF, fun _ _ => rfl, rfl⟩
  rintro ⟨y, ks⟩ HL1 ⟨lst1, at_L0, hI⟩ KL1 hKL1
  refine .forget (fr' := [(1, some (.int .i64 y)), (0, some _)]) ⟨rfl, rfl, trivial⟩ ?_
  have nx_HL1 := lst1.nx
  have lt_at_L0 := GHeap.lt_of_get at_L0
  obtain ⟨hy0, hy, hkl, hkF, hkr, hyr⟩ := hI
  have i0 := Ints.of_get at_L0
  have i0s : SlA HL1 _ _ _ := i0
  rw [hkl] at i0s
  have u1 := hkF.up y.toNat (by omega)
  refine .seq (fun K3 hK3 => ?_)
  refine .seq (fun K4 hK4 => ?_)
  refine .region (.m rfl rfl rfl (.move rfl) (.m rfl rfl rfl (.move rfl) ?_))
  refine .m rfl rfl rfl (.idx1 sl_128_Pb (by first | assumption | exact SlA.of_row at_L0 (by first | rfl | (simp; done) | (simp <;> omega))) rfl rfl (by omega) (by omega)) ?_
  refine .m rfl rfl rfl (.loadI on_2_A (by first | assumption | exact Ints.of_get at_L0) rfl (by omega)) ?_
  refine .m rfl rfl rfl (.move rfl) (.m rfl rfl rfl (.cmp rfl rfl rfl) (.nil ?_))
  refine hK4 _ _ ?_
  refine .cond rfl (fun h10 => ?_) (fun h10 => ?_)
  ·
   simp only [sps] at h10
   have u2 := hkF.up (ks.getD y.toNat 0).toNat (by omega)
   refine .skip ?_
   refine hK3 _ _ ?_
   refine .block ?_
   refine .seq (fun K5 hK5 => ?_)
   refine .region (.m rfl rfl rfl (.move rfl) (.m rfl rfl rfl (.move rfl) (.m rfl rfl rfl (.move rfl) ?_)))
   refine .m rfl rfl rfl (.move rfl) (.m rfl rfl rfl (.move rfl) ?_)
   refine .m rfl rfl rfl (.idx1 sl_128_Pb (by first | assumption | exact SlA.of_row at_L0 (by first | rfl | (simp; done) | (simp <;> omega))) rfl rfl (by omega) (by omega)) ?_
   refine .m rfl rfl rfl (.loadI on_2_A (by first | assumption | exact Ints.of_get at_L0) rfl (by omega)) ?_
   refine .m rfl rfl rfl (.idx1 sl_128_Pb (by first | assumption | exact SlA.of_row at_L0 (by first | rfl | (simp; done) | (simp <;> omega))) rfl rfl (by omega) (by omega)) ?_
   refine .m rfl rfl rfl (.loadI on_2_A (by first | assumption | exact Ints.of_get at_L0) rfl (by omega)) ?_
   refine .m rfl rfl rfl (.idx1 sl_128_Pb (by first | assumption | exact SlA.of_row at_L0 (by first | rfl | (simp; done) | (simp <;> omega))) rfl rfl (by omega) (by omega)) ?_
   refine .r0 rfl rfl (.storeI rfl sz_2_E rfl rfl (by assumption) (by first | omega | (simp <;> omega))) ?_
   rintro _ H2010 ⟨rfl, st2010, at2010⟩
   have nx_H2010 := st2010.nx
   replace lst1 := lst1.st st2010 (fun k hk ho => by simp only [out, and_true] at ho ⊢ <;> first | exact ho | exact ho.1 | exact ho.2 | exact ho.2.1 | exact ho.2.2 | exact ho.2.2.1 | exact ho.2.2.2 | omega)
   have lt_at2010 := GHeap.lt_of_get at2010
   rw [Nat.zero_add] at at2010
   refine .nil ?_
   refine hK5 _ _ ?_
   refine .region ?_
   have i9 := Ints.of_get at2010
   have i9s : SlA H2010 _ _ _ := i9
   rw [List.length_set, hkl] at i9s
   have hls : (ks.set y.toNat (ks.getD (ks.getD y.toNat 0).toNat 0)).length = ks.length := List.length_set
   refine .m rfl rfl rfl (.move rfl) (.m rfl rfl rfl (.move rfl) ?_)
   refine .m rfl rfl rfl (.idx1 sl_128_Pb (by first | assumption | exact SlA.of_row at2010 (by first | rfl | (simp; done) | (simp <;> omega))) rfl rfl (by omega) (by omega)) ?_
   refine .m rfl rfl rfl (.loadI on_2_A (by first | assumption | exact Ints.of_get at2010) rfl (by omega)) ?_
   refine .m rfl rfl rfl (.assign rfl) (.nil ?_)
   refine hKL1 (((ks.set y.toNat (ks.getD (ks.getD y.toNat 0).toNat 0)).getD y.toNat 0, ks.set y.toNat (ks.getD (ks.getD y.toNat 0).toNat 0))) _ _ ?_ ?_ ⟨rfl, rfl, trivial⟩
   ·
    refine ⟨lst1, by assumption, ?_⟩
    obtain ⟨f1, f2⟩ := rootOf_set hkF (x := y.toNat) (y := (ks.getD (ks.getD y.toNat 0).toNat 0).toNat) (by omega) (by omega) (by rw [rootOf_parent hkF (by omega), rootOf_parent hkF (by omega)])
    rw [Int.toNat_of_nonneg u2.1] at f1 f2
    have hgy : (ks.set y.toNat (ks.getD (ks.getD y.toNat 0).toNat 0)).getD y.toNat 0 = ks.getD (ks.getD y.toNat 0).toNat 0 := by rw [getD_set (by omega), if_pos rfl]
    rw [hgy]
    refine ⟨by omega, by omega, by rw [List.length_set]; exact hkl, f1, fun z hz => by rw [f2 z (by omega)]; exact hkr z hz, ?_⟩
    rw [← hkr _ (by omega), rootOf_parent hkF (by omega), rootOf_parent hkF (by omega), hkr _ (by omega)]
    exact hyr
   have hgy : (ks.set y.toNat (ks.getD (ks.getD y.toNat 0).toNat 0)).getD y.toNat 0 = ks.getD (ks.getD y.toNat 0).toNat 0 := by rw [getD_set (by omega), if_pos rfl]
   dsimp only
   rw [hgy]
   omega
  simp only [sps] at h10
  refine .exit ?_
  refine hK2 _ _ ?_
  refine .seq (fun K6 hK6 => ?_)
  refine .region (.m rfl rfl rfl (.move rfl) (.m rfl rfl rfl (.assign rfl) (.nil ?_)))
  refine hK6 _ _ ?_
  refine .ret ?_
  refine hret _ _ ?_
  refine ⟨_, rfl, ?_⟩
  have e1 : rootOf ks y.toNat = y.toNat := rootOf_fix (by omega)
  refine ⟨?_, lst1, ks, at_L0, hkl, hkF, hkr⟩
  rw [← hyr, ← hkr _ (by omega), e1, Int.toNat_of_nonneg hy0]
theorem join_c {g N : Nat} {p q : Int} {js : List Int} {K : Nat → Nat → Bool} {H : GHeap} (hg : H.get g = some (.row (ints js) 2 true) := by assumption) (hK : RootK js K N := by assumption) (hn : N ≤ 1048576 := by omega) (h0 : 0 ≤ p := by omega) (hp : p < N := by omega) (h1 : 0 ≤ q := by omega) (hq : q < N := by omega) :
    GCalls Try.prog 95 [.slice (some ⟨g, 0, none⟩) N N, .int .i64 p, .int .i64 q] H (fun v H' => (∃ b, v = .bool b) ∧ St [g] H H' ∧ ∃ js', H'.get g = some (.row (ints js') 2 true) ∧ RootK js' (stepK K p.toNat q.toNat) N) := by
  have hN := hK.1
  have hF := hK.2.1
  refine GCalls.body (N := 26) (rs := [.tmp 6]) Try.func95 rfl rfl rfl rfl (fun Qx hret hend => ?_)
  refine .forget (fr' := [(0, some _), (1, some _), (2, some _)]) ⟨rfl, rfl, rfl, trivial⟩ ?_
  have lt_hg := GHeap.lt_of_get hg
  refine .seq (fun K1 hK1 => ?_)
  refine .region (.m rfl rfl rfl (.assign rfl) (.nil ?_))
  refine hK1 _ _ ?_
  refine .seq (fun K2 hK2 => ?_)
  refine .region (.m rfl rfl rfl (.move rfl) (.m rfl rfl rfl (.move rfl) ?_))
  refine .call rfl rfl rfl rfl @Try.call137 rfl (root_c) ?_
  rintro _ H11 ⟨rfl, st11, js11, at11, hl11, hf11, hr11⟩
  have nx_H11 := st11.nx
  have lt_at11 := GHeap.lt_of_get at11
  refine .m rfl rfl rfl (.move rfl) (.m rfl rfl rfl (.move rfl) ?_)
  refine .call rfl rfl rfl rfl @Try.call137 rfl (root_c) ?_
  rintro _ H14 ⟨rfl, st14, js14, at14, hl14, hf14, hr14⟩
  have nx_H14 := st14.nx
  have lt_at14 := GHeap.lt_of_get at14
  refine .m rfl rfl rfl (.assign rfl) (.m rfl rfl rfl (.assign rfl) (.nil ?_))
  refine hK2 _ _ ?_
  refine .seq (fun K3 hK3 => ?_)
  refine .region ?_
  have lp := rootOf_le js p.toNat
  have lq := rootOf_le js11 q.toNat
  have i9 := Ints.of_get at14
  have i9s : SlA H14 _ _ _ := i9
  rw [hl14] at i9s
  have e1 := hr11 q.toNat (by omega)
  have hK2 := (hK.same (by omega) hf11 (fun z hz => hr11 z (by omega))).same (by omega) hf14 (fun z hz => hr14 z (by omega))
  have hj := hK2.join (p := p.toNat) (q := q.toNat) (by omega) (by omega)
  have e2 : rootOf js14 p.toNat = rootOf js p.toNat := by rw [hr14 _ (by omega), hr11 _ (by omega)]
  have e3 : rootOf js14 q.toNat = rootOf js11 q.toNat := hr14 _ (by omega)
  have e4 : (max ((rootOf js p.toNat : Nat) : Int) ((rootOf js11 q.toNat : Nat) : Int)).toNat = max (rootOf js p.toNat) (rootOf js11 q.toNat) := by omega
  have e5 : min ((rootOf js p.toNat : Nat) : Int) ((rootOf js11 q.toNat : Nat) : Int) = ((min (rootOf js p.toNat) (rootOf js11 q.toNat) : Nat) : Int) := by omega
  refine .m rfl rfl rfl (.move rfl) (.m rfl rfl rfl (.move rfl) (.m rfl rfl rfl (.move rfl) (.m rfl rfl rfl (.max2 rfl rfl) ?_)))
  refine .m rfl rfl rfl (.move rfl) (.m rfl rfl rfl (.move rfl) (.m rfl rfl rfl (.min2 rfl rfl) ?_))
  refine .m rfl rfl rfl (.idx1 sl_128_Pb (by first | assumption | exact SlA.of_row at14 (by first | rfl | (simp; done) | (simp <;> omega))) rfl rfl (by omega) (by omega)) ?_
  refine .r0 rfl rfl (.storeI rfl sz_2_E rfl rfl (by assumption) (by first | omega | (simp <;> omega))) ?_
  rintro _ H2008 ⟨rfl, st2008, at2008⟩
  have nx_H2008 := st2008.nx
  have lt_at2008 := GHeap.lt_of_get at2008
  rw [Nat.zero_add] at at2008
  refine .nil ?_
  refine hK3 _ _ ?_
  refine .seq (fun K4 hK4 => ?_)
  refine .region (.m rfl rfl rfl (.move rfl) (.m rfl rfl rfl (.move rfl) (.m rfl rfl rfl (.cmp rfl rfl rfl) ?_)))
  refine .m rfl rfl rfl (.assign rfl) (.nil ?_)
  refine hK4 _ _ ?_
  refine .ret ?_
  refine hret _ _ ?_
  refine ⟨_, rfl, ?_⟩
  rw [e2, e3] at hj
  refine ⟨⟨_, rfl⟩, ?_, _, at2008, ?_⟩
  · exact (st11.st st14 (fun k _ h => h)).st st2008 (fun k _ h => h)
  · rw [e4, e5]; exact hj
theorem normal_c {a : Option Addr} {xs : List Int} {H : GHeap} (h : Ints H a xs := by assumption) (hl : xs.length ≤ 1048576 := by omega) :
    GCalls Try.prog 138 [.slice a xs.length xs.length] H (NewInts 2 H (clsL (kerB xs) xs.length)) := by
  refine GCalls.body (N := 39) (rs := [.tmp 2]) Try.func138 rfl rfl rfl rfl (fun Qx hret hend => ?_)
  refine .forget (fr' := [(0, some _)]) ⟨rfl, trivial⟩ ?_
  have hle := GHeap.Le.refl H
  have base_h := h
  refine .seq (fun K1 hK1 => ?_)
  refine .region (.m rfl rfl rfl (.assign rfl) (.nil ?_))
  refine hK1 _ _ ?_
  refine .seq (fun K2 hK2 => ?_)
  refine .region ?_
  refine .r rfl rfl rfl (.makeMapR rfl) ?_
  rintro _ H9 ⟨g9, rfl, le9, ge9, at9⟩
  have nx_H9 := le9.1
  replace hle := hle.trans le9
  have lt_at9 := GHeap.lt_of_get at9
  replace h := base_h.mono hle
  refine .m rfl rfl rfl (.assign rfl) (.nil ?_)
  refine hK2 _ _ ?_
  refine .seq (fun K3 hK3 => ?_)
  refine .region (.m rfl rfl rfl (.move rfl) (.m rfl rfl rfl (.len sl_22_A rfl) ?_))
  refine .r rfl rfl rfl (.makeIN rfl sl_106_Pb ze_2_E by_2_E rfl rfl (by omega) (by omega) (by omega)) ?_
  rintro _ H12 ⟨g12, rfl, le12, ge12, at12⟩
  have nx_H12 := le12.1
  replace hle := hle.trans le12
  replace at9 := le12.2 _ _ at9
  have lt_at12 := GHeap.lt_of_get at12
  replace h := base_h.mono hle
  refine .m rfl rfl rfl (.assign rfl) (.nil ?_)
  refine hK3 _ _ ?_
  refine .seq (fun K4 hK4 => ?_)
  refine .seq (fun K5 hK5 => ?_)
  refine .region (.m rfl rfl rfl (.move rfl) (.m rfl rfl rfl (.len sl_22_A rfl) (.m rfl rfl rfl (.move rfl) ?_)))
  refine .nil ?_
  refine hK5 _ _ ?_
  refine .block ?_
  have at9' : GHeap.get H12 g9 = some (.map (imap (seenE xs 0))) := by rw [seenE_zero]; exact at9
  refine .loopR (σ := Nat) [(3, some _), (4, some _), (13, some _), (14, some _)] (fun k => [(15, some (.int .i64 (k : Int)))]) (fun k H' => St [g9, g12] H12 H' ∧ H'.get g9 = some (.map (imap ((seenE xs k)))) ∧ H'.get g12 = some (.row (ints (part0 xs.length (clsAt (kerB xs)) k)) 2 true) ∧ k ≤ xs.length) (fun k => xs.length - k) (0) ⟨rfl, rfl, rfl, rfl, trivial⟩ ⟨rfl, trivial⟩ ?_ ?_
  ·
   refine ⟨.refl _ _, by first | assumption | (rw [part0_zero]; simpa using at12), by first | assumption | (rw [part0_zero]; simpa using at12), ?_⟩
   omega
  rintro k HL1 ⟨lst1, at_L3, at_L4, hI⟩ KL1 hKL1
  refine .forget (fr' := [(15, some (.int .i64 (k : Int))), (3, some _), (4, some _), (13, some _), (14, some _)]) ⟨rfl, rfl, rfl, rfl, rfl, trivial⟩ ?_
  have nx_HL1 := lst1.nx
  replace hle := hle.st lst1 (fun k hk => ⟨by omega, by omega, trivial⟩)
  have lt_at_L3 := GHeap.lt_of_get at_L3
  have lt_at_L4 := GHeap.lt_of_get at_L4
  replace h := base_h.mono hle
  have i4 := Ints.of_get at_L4
  have i4s : SlA HL1 _ _ _ := i4
  rw [length_part0] at i4s
  have hl4 : (part0 xs.length (clsAt (kerB xs)) k).length = xs.length := length_part0 _ _ _
  refine .seq (fun K6 hK6 => ?_)
  refine .region (.m rfl rfl rfl (.cmp rfl rfl rfl) (.nil ?_))
  refine hK6 _ _ ?_
  refine .seq (fun K7 hK7 => ?_)
  refine .cond rfl (fun h16 => ?_) (fun h16 => ?_)
  ·
   try simp only [sps] at h16
   refine .skip ?_
   refine hK7 _ _ ?_
   refine .seq (fun K8 hK8 => ?_)
   refine .block ?_
   refine .seq (fun K9 hK9 => ?_)
   refine .region (.m rfl rfl rfl (.move rfl) ?_)
   refine .m rfl rfl rfl (.idxN sl_22_A (by assumption) rfl rfl (by omega)) ?_
   refine .m rfl rfl rfl (.loadI on_2_A (by assumption) rfl (by omega)) ?_
   refine .m rfl rfl rfl (.assign rfl) (.m rfl rfl rfl (.assign rfl) (.nil ?_))
   refine hK9 _ _ ?_
   refine .seq (fun K10 hK10 => ?_)
   refine .region (.m rfl rfl rfl (.move rfl) (.m rfl rfl rfl (.move rfl) ?_))
   refine .d rfl rfl rfl (.lookupR rfl mp_183_Pb zv_2_Pb rfl rfl (by assumption) CIs.mk) ?_
   refine .m rfl rfl rfl (.move rfl) (.m rfl rfl rfl (.extract rfl rfl) (.m rfl rfl rfl (.extract rfl rfl) (.m rfl rfl rfl (.assign rfl) ?_)))
   refine .m rfl rfl rfl (.assign rfl) (.nil ?_)
   refine hK10 _ _ ?_
   refine .seq (fun K11 hK11 => ?_)
   refine .seq (fun K12 hK12 => ?_)
   refine .region (.m rfl rfl rfl (.move rfl) (.m rfl rfl rfl (.not rfl) (.nil ?_)))
   refine hK12 _ _ ?_
   refine .cond rfl (fun h27 => ?_) (fun h27 => ?_)
   ·
    simp only [sps] at h27
    obtain ⟨q1, q2⟩ : idxL (seenL xs k) (xs.getD k 0) < 0 ∧ lookE (seenE xs k) (xs.getD k 0) = none := by
      rcases lookE_seen xs k (xs.getD k 0) with h | h
      · exact h
      · rw [h.2] at h27; cases h27
    refine .seq (fun K13 hK13 => ?_)
    refine .region (.m rfl rfl rfl (.move rfl) ?_)
    refine .d rfl rfl rfl (.lenMap rfl mp_183_Pb rfl (by assumption) CIs.mk) ?_
    refine .m rfl rfl rfl (.assign rfl) (.nil ?_)
    refine hK13 _ _ ?_
    refine .region (.m rfl rfl rfl (.move rfl) (.m rfl rfl rfl (.move rfl) (.m rfl rfl rfl (.move rfl) ?_)))
    refine .r0 rfl rfl (.mapPutR rfl mp_183_Pb rfl rfl rfl (by assumption) (by assumption)) ?_
    rintro _ H9003 ⟨rfl, st9003, at9003⟩
    have nx_H9003 := st9003.nx
    replace hle := hle.st st9003 (fun k hk => ⟨by omega, trivial⟩)
    replace lst1 := lst1.st st9003 (fun k hk ho => by simp only [out, and_true] at ho ⊢ <;> first | exact ho | exact ho.1 | exact ho.2 | exact ho.2.1 | exact ho.2.2 | exact ho.2.2.1 | exact ho.2.2.2 | omega)
    have ne_g12_g9 : g12 ≠ g9 := by omega
    replace at_L4 := st9003.same _ _ ⟨ne_g12_g9, trivial⟩ at_L4
    have lt_at9003 := GHeap.lt_of_get at9003
    replace h := base_h.mono hle
    refine .nil ?_
    refine hK11 _ _ ?_
    refine .region ?_
    have i4 := Ints.of_get at_L4
    have i4s : SlA _ _ _ _ := i4
    rw [length_part0] at i4s
    refine .m rfl rfl rfl (.move rfl) (.m rfl rfl rfl (.move rfl) (.m rfl rfl rfl (.move rfl) ?_))
    refine .m rfl rfl rfl (.idxN sl_106_Pb (by first | assumption | exact SlA.of_row at_L4 (by first | rfl | (simp; done) | (simp <;> omega))) rfl rfl (by omega)) ?_
    refine .r0 rfl rfl (.storeI rfl sz_2_E rfl rfl (by assumption) (by first | omega | (simp <;> omega))) ?_
    rintro _ H10004 ⟨rfl, st10004, at10004⟩
    have nx_H10004 := st10004.nx
    replace hle := hle.st st10004 (fun k hk => ⟨by omega, trivial⟩)
    replace lst1 := lst1.st st10004 (fun k hk ho => by simp only [out, and_true] at ho ⊢ <;> first | exact ho | exact ho.1 | exact ho.2 | exact ho.2.1 | exact ho.2.2 | exact ho.2.2.1 | exact ho.2.2.2 | omega)
    replace at9003 := st10004.same _ _ ⟨(Ne.symm ne_g12_g9), trivial⟩ at9003
    have lt_at10004 := GHeap.lt_of_get at10004
    replace h := base_h.mono hle
    rw [Nat.zero_add] at at10004
    refine .nil ?_
    refine hK8 _ _ ?_
    refine .region ?_
    refine .m rfl rfl rfl (.add rfl rfl rfl (by omega) (by omega)) ?_
    refine .m rfl rfl rfl (.move rfl) (.nil ?_)
    refine hKL1 (k + 1) _ _ ?_ ?_ ⟨rfl, rfl, rfl, rfl, rfl, trivial⟩
    ·
     refine ⟨lst1, by first | assumption | (rw [seenE_new (cls_new q1).2]; assumption) | (rw [seenE_old (cls_old q1).2]; assumption) | (rw [part0_set (by omega) (clsAt_new q1)]; assumption) | (rw [part0_set (by omega) (clsAt_old q1 q2)]; assumption), by first | assumption | (rw [seenE_new (cls_new q1).2]; assumption) | (rw [seenE_old (cls_old q1).2]; assumption) | (rw [part0_set (by omega) (clsAt_new q1)]; assumption) | (rw [part0_set (by omega) (clsAt_old q1 q2)]; assumption), ?_⟩
     omega
    omega
   simp only [sps] at h27
   obtain ⟨q1, q2⟩ : 0 ≤ idxL (seenL xs k) (xs.getD k 0) ∧ lookE (seenE xs k) (xs.getD k 0) = some (idxL (seenL xs k) (xs.getD k 0)) := by
     rcases lookE_seen xs k (xs.getD k 0) with h | h
     · rw [h.2] at h27; cases h27
     · exact h
   refine .skip ?_
   refine hK11 _ _ ?_
   refine .region ?_
   have i4 := Ints.of_get at_L4
   have i4s : SlA _ _ _ _ := i4
   rw [length_part0] at i4s
   refine .m rfl rfl rfl (.move rfl) (.m rfl rfl rfl (.move rfl) (.m rfl rfl rfl (.move rfl) ?_))
   refine .m rfl rfl rfl (.idxN sl_106_Pb (by first | assumption | exact SlA.of_row at_L4 (by first | rfl | (simp; done) | (simp <;> omega))) rfl rfl (by omega)) ?_
   refine .r0 rfl rfl (.storeI rfl sz_2_E rfl rfl (by assumption) (by first | omega | (simp <;> omega))) ?_
   rintro _ H10004x2 ⟨rfl, st10004x2, at10004x2⟩
   have nx_H10004x2 := st10004x2.nx
   replace hle := hle.st st10004x2 (fun k hk => ⟨by omega, trivial⟩)
   replace lst1 := lst1.st st10004x2 (fun k hk ho => by simp only [out, and_true] at ho ⊢ <;> first | exact ho | exact ho.1 | exact ho.2 | exact ho.2.1 | exact ho.2.2 | exact ho.2.2.1 | exact ho.2.2.2 | omega)
   have ne_g9_g12 : g9 ≠ g12 := by omega
   replace at_L3 := st10004x2.same _ _ ⟨ne_g9_g12, trivial⟩ at_L3
   have lt_at10004x2 := GHeap.lt_of_get at10004x2
   replace h := base_h.mono hle
   rw [Nat.zero_add] at at10004x2
   refine .nil ?_
   refine hK8 _ _ ?_
   refine .region ?_
   refine .m rfl rfl rfl (.add rfl rfl rfl (by omega) (by omega)) ?_
   refine .m rfl rfl rfl (.move rfl) (.nil ?_)
   refine hKL1 (k + 1) _ _ ?_ ?_ ⟨rfl, rfl, rfl, rfl, rfl, trivial⟩
   ·
    refine ⟨lst1, by first | assumption | (rw [seenE_new (cls_new q1).2]; assumption) | (rw [seenE_old (cls_old q1).2]; assumption) | (rw [part0_set (by omega) (clsAt_new q1)]; assumption) | (rw [part0_set (by omega) (clsAt_old q1 q2)]; assumption), by first | assumption | (rw [seenE_new (cls_new q1).2]; assumption) | (rw [seenE_old (cls_old q1).2]; assumption) | (rw [part0_set (by omega) (clsAt_new q1)]; assumption) | (rw [part0_set (by omega) (clsAt_old q1 q2)]; assumption), ?_⟩
    omega
   omega
  try simp only [sps] at h16
  refine .exit ?_
  refine hK4 _ _ ?_
  refine .seq (fun K14 hK14 => ?_)
  refine .region (.m rfl rfl rfl (.move rfl) (.m rfl rfl rfl (.assign rfl) (.nil ?_)))
  refine hK14 _ _ ?_
  refine .ret ?_
  refine hret _ _ ?_
  refine ⟨_, rfl, ?_⟩
  obtain rfl : k = xs.length := by omega
  exact ⟨hle, _, by rw [length_clsL], by unfold clsL; rw [← part0_all]; exact at_L4, by omega⟩
theorem normalN_c {a : Option Addr} {n : Nat} {xs : List Int} {H : GHeap} (hn : xs.length = n) (h : Ints H a xs := by assumption) (hl : n ≤ 1048576 := by omega) :
    GCalls Try.prog 138 [.slice a n n] H (NewInts 2 H (clsL (kerB xs) n)) := by
  subst hn
  exact normal_c h hl
theorem partition_c {g N : Nat} {js : List Int} {K : Nat → Nat → Bool} {H : GHeap} (hg : H.get g = some (.row (ints js) 2 true) := by assumption) (hK : RootK js K N := by assumption) (hn : N ≤ 1048576 := by omega) :
    GCalls Try.prog 97 [.slice (some ⟨g, 0, none⟩) N N] H (fun v H' => ∃ g', v = .slice (some ⟨g', 0, none⟩) N N ∧ St [g] H H' ∧ H.next ≤ g' ∧ H'.get g' = some (.row (ints (clsL K N)) 2 true)) := by
  have hgl := GHeap.lt_of_get hg
  refine GCalls.body (N := 22) (rs := [.tmp 2]) Try.func97 rfl rfl rfl rfl (fun Qx hret hend => ?_)
  refine .forget (fr' := [(0, some _)]) ⟨rfl, trivial⟩ ?_
  have lt_hg := GHeap.lt_of_get hg
  refine .seq (fun K1 hK1 => ?_)
  refine .region (.m rfl rfl rfl (.assign rfl) (.nil ?_))
  refine hK1 _ _ ?_
  refine .seq (fun K2 hK2 => ?_)
  refine .region (.m rfl rfl rfl (.move rfl) (.m rfl rfl rfl (.len sl_128_Pb rfl) ?_))
  refine .r rfl rfl rfl (.makeIN rfl sl_22_A ze_2_E by_2_E rfl rfl (by omega) (by omega) (by omega)) ?_
  rintro _ H7 ⟨g7, rfl, le7, ge7, at7⟩
  have nx_H7 := le7.1
  replace hg := le7.2 _ _ hg
  have lt_at7 := GHeap.lt_of_get at7
  refine .m rfl rfl rfl (.assign rfl) (.nil ?_)
  refine hK2 _ _ ?_
  refine .seq (fun K3 hK3 => ?_)
  refine .seq (fun K4 hK4 => ?_)
  refine .region (.m rfl rfl rfl (.move rfl) (.m rfl rfl rfl (.len sl_128_Pb rfl) (.m rfl rfl rfl (.move rfl) ?_)))
  refine .nil ?_
  refine hK4 _ _ ?_
  refine .block ?_
  refine .loopR (σ := Nat × List Int) [(0, some _), (3, some _), (9, some _)] (fun (k, ks) => [(10, some (.int .i64 (k : Int)))]) (fun (k, ks) H' => St [g, g7] H7 H' ∧ H'.get g = some (.row (ints ks) 2 true) ∧ H'.get g7 = some (.row (ints (part0 N (fun i => (rootOf js i : Int)) k)) 2 true) ∧ k ≤ N ∧ ks.length = N ∧ Forest ks ∧ ∀ z, z < N → rootOf ks z = rootOf js z) (fun (k, ks) => N - k) ((0, js)) ⟨rfl, rfl, rfl, trivial⟩ ⟨rfl, trivial⟩ ?_ ?_
  ·
   refine ⟨.refl _ _, by first | assumption | (rw [part0_zero]; simpa using at7), by first | assumption | (rw [part0_zero]; simpa using at7), ?_⟩
   exact ⟨by omega, hK.1, hK.2.1, fun _ _ => rfl⟩
  rintro ⟨k, ks⟩ HL1 ⟨lst1, at_L0, at_L3, hI⟩ KL1 hKL1
  refine .forget (fr' := [(10, some (.int .i64 (k : Int))), (0, some _), (3, some _), (9, some _)]) ⟨rfl, rfl, rfl, rfl, trivial⟩ ?_
  have nx_HL1 := lst1.nx
  have lt_at_L0 := GHeap.lt_of_get at_L0
  have lt_at_L3 := GHeap.lt_of_get at_L3
  obtain ⟨hk, hkl, hkF, hkr⟩ := hI
  have hl3 : (part0 N (fun i => (rootOf js i : Int)) k).length = N := length_part0 _ _ _
  refine .seq (fun K5 hK5 => ?_)
  refine .region (.m rfl rfl rfl (.cmp rfl rfl rfl) (.nil ?_))
  refine hK5 _ _ ?_
  refine .seq (fun K6 hK6 => ?_)
  refine .cond rfl (fun h11 => ?_) (fun h11 => ?_)
  ·
   try simp only [sps] at h11
   refine .skip ?_
   refine hK6 _ _ ?_
   refine .seq (fun K7 hK7 => ?_)
   refine .block ?_
   refine .seq (fun K8 hK8 => ?_)
   refine .region (.m rfl rfl rfl (.move rfl) (.m rfl rfl rfl (.assign rfl) (.nil ?_)))
   refine hK8 _ _ ?_
   refine .region (.m rfl rfl rfl (.move rfl) (.m rfl rfl rfl (.move rfl) (.m rfl rfl rfl (.move rfl) ?_)))
   refine .m rfl rfl rfl (.move rfl) ?_
   refine .call rfl rfl rfl rfl @Try.call137 rfl (root_c (x := (k : Int))) ?_
   rintro _ H17 ⟨rfl, st17, js17, at17, hl17, hf17, hr17⟩
   have nx_H17 := st17.nx
   replace lst1 := lst1.st st17 (fun k hk ho => by simp only [out, and_true] at ho ⊢ <;> first | exact ho | exact ho.1 | exact ho.2 | exact ho.2.1 | exact ho.2.2 | exact ho.2.2.1 | exact ho.2.2.2 | omega)
   have ne_g7_g : g7 ≠ g := by omega
   replace at_L3 := st17.same _ _ ⟨ne_g7_g, trivial⟩ at_L3
   have lt_at17 := GHeap.lt_of_get at17
   have i3s : SlA _ _ _ _ := Ints.of_get at_L3
   rw [length_part0] at i3s
   refine .m rfl rfl rfl (.idxN sl_22_A (by first | assumption | exact SlA.of_row at_L3 (by first | rfl | (simp; done) | (simp <;> omega))) rfl rfl (by omega)) ?_
   refine .r0 rfl rfl (.storeI rfl sz_2_E rfl rfl (by assumption) (by first | omega | (simp <;> omega))) ?_
   rintro _ H5006 ⟨rfl, st5006, at5006⟩
   have nx_H5006 := st5006.nx
   replace lst1 := lst1.st st5006 (fun k hk ho => by simp only [out, and_true] at ho ⊢ <;> first | exact ho | exact ho.1 | exact ho.2 | exact ho.2.1 | exact ho.2.2 | exact ho.2.2.1 | exact ho.2.2.2 | omega)
   replace at17 := st5006.same _ _ ⟨(Ne.symm ne_g7_g), trivial⟩ at17
   have lt_at5006 := GHeap.lt_of_get at5006
   rw [Nat.zero_add] at at5006
   refine .nil ?_
   refine hK7 _ _ ?_
   refine .region ?_
   refine .m rfl rfl rfl (.add rfl rfl rfl (by omega) (by omega)) ?_
   refine .m rfl rfl rfl (.move rfl) (.nil ?_)
   refine hKL1 ((k + 1, js17)) _ _ ?_ ?_ ⟨rfl, rfl, rfl, rfl, trivial⟩
   ·
    refine ⟨lst1, by first | assumption | (rw [part0_set (v := ((rootOf ks (k : Int).toNat : Nat) : Int)) (by omega) (by rw [Int.toNat_natCast, hkr _ (by omega)])]; assumption), by first | assumption | (rw [part0_set (v := ((rootOf ks (k : Int).toNat : Nat) : Int)) (by omega) (by rw [Int.toNat_natCast, hkr _ (by omega)])]; assumption), ?_⟩
    exact ⟨by omega, hl17, hf17, fun z hz => by rw [hr17 z hz]; exact hkr z hz⟩
   (dsimp only; omega)
  try simp only [sps] at h11
  refine .exit ?_
  refine hK3 _ _ ?_
  refine .seq (fun K9 hK9 => ?_)
  refine .region ?_
  obtain rfl : k = N := by omega
  have hker := hK.ker (lab := part0 k (fun i => (rootOf js i : Int)) k) fun i hi => by rw [part0_all, List.getD_eq_getElem?_getD]; simp [hi]
  refine .m rfl rfl rfl (.move rfl) ?_
  refine .call rfl rfl rfl rfl @Try.call138 rfl (normalN_c (length_part0 _ _ _) (Ints.of_get at_L3)) ?_
  rintro _ H21 ⟨le21, g21, rfl, at21, ge21⟩
  have nx_H21 := le21.1
  replace lst1 := lst1.le le21
  replace at_L0 := le21.2 _ _ at_L0
  replace at_L3 := le21.2 _ _ at_L3
  have lt_at21 := GHeap.lt_of_get at21
  have i21 := Ints.of_get at21
  refine .m rfl rfl rfl (.assign rfl) (.nil ?_)
  refine hK9 _ _ ?_
  refine .ret ?_
  refine hret _ _ ?_
  refine ⟨_, rfl, ?_⟩
  refine ⟨g21, by rw [length_clsL], ?_, by omega, ?_⟩
  · exact ((St.of_le le7).st lst1 (fun k hk (ho : out [g] k) => ⟨ho.1, by omega, trivial⟩))
  · rw [← hker.cls]; exact at21
end Go.Proofs.Ytgnfekfdmgnhcaa
/- Lists that are written over: what marking leaves, and what it finds again. No condition. -/
namespace Go.GL

/-- A row may have turned only into another one of as many numbers, and only among the rows lo .. hi - 1. -/
structure StM (lo hi : Nat) (H H' : GHeap) : Prop where
  nx : H.next ≤ H'.next
  same : ∀ k o, ¬ (lo ≤ k ∧ k < hi) → H.get k = some o → H'.get k = some o
  ins : ∀ k o, H.get k = some o → ∃ o', H'.get k = some o' ∧ (o' = o ∨ ∃ xs ys e, o = .row (ints xs) e true ∧ o' = .row (ints ys) e true ∧ ys.length = xs.length)
theorem StM.refl (lo hi : Nat) (H : GHeap) : StM lo hi H H := ⟨Nat.le_refl _, fun _ _ _ h => h, fun _ o h => ⟨o, h, .inl rfl⟩⟩
theorem StM.of_le {lo hi : Nat} {H H' : GHeap} (h : H.Le H') : StM lo hi H H' := ⟨h.1, fun k o _ ho => h.2 k o ho, fun _ o ho => ⟨o, h.2 _ _ ho, .inl rfl⟩⟩
theorem ints_inj {xs ys : List Int} (h : ints xs = ints ys) : xs = ys := by
  unfold ints at h
  exact (List.map_inj_right (fun a b hab => by cases hab; rfl)).1 h
theorem StM.trans {lo hi : Nat} {A B C : GHeap} (h : StM lo hi A B) (k : StM lo hi B C) : StM lo hi A C where
  nx := Nat.le_trans h.nx k.nx
  same g o hg ho := k.same g o hg (h.same g o hg ho)
  ins g o ho := by
    obtain ⟨o1, h1, h2⟩ := h.ins g o ho
    obtain ⟨o2, k1, k2⟩ := k.ins g o1 h1
    refine ⟨o2, k1, ?_⟩
    rcases h2 with rfl | ⟨xs, ys, e, rfl, rfl, hl⟩
    · exact k2
    · rcases k2 with rfl | ⟨us, vs, e', h3, rfl, hl'⟩
      · exact .inr ⟨xs, ys, e, rfl, rfl, hl⟩
      · injection h3 with h3 h4 h5
        have := ints_inj h3
        subst this
        subst h4
        exact .inr ⟨xs, vs, _, rfl, rfl, by rw [hl', hl]⟩
theorem StM.le_left {lo hi : Nat} {A B C : GHeap} (h : A.Le B) (k : StM lo hi B C) (hA : A.next ≤ lo) : A.Le C :=
  ⟨Nat.le_trans h.1 k.nx, fun g o ho => k.same g o (by have := GHeap.lt_of_get ho; omega) (h.2 g o ho)⟩
theorem Keep.stM {b lo hi : Nat} {H0 H H' : GHeap} (k : Keep b H0 H) (h : StM lo hi H H') (hg : ∀ k, b ≤ k → k < H0.next → ¬ (lo ≤ k ∧ k < hi)) : Keep b H0 H' := fun g o hb h1 => h.same g o (hg g hb (GHeap.lt_of_get h1)) (k g o hb h1)

/-- A list that may be written over: its row lies among lo .. hi - 1. -/
def IntsW (lo hi : Nat) (H : GHeap) (a : Option Addr) (n : Nat) : Prop := n = 0 ∨ ∃ g e xs, a = some ⟨g, 0, none⟩ ∧ lo ≤ g ∧ g < hi ∧ H.get g = some (.row (ints xs) e true) ∧ xs.length = n
theorem IntsW.stm {lo hi : Nat} {H H' : GHeap} {a : Option Addr} {n : Nat} (h : IntsW lo hi H a n) (s : StM lo hi H H') : IntsW lo hi H' a n := by
  rcases h with h | ⟨g, e, xs, h1, h2, h3, h4, h5⟩
  · exact .inl h
  · obtain ⟨o', k1, k2⟩ := s.ins g _ h4
    rcases k2 with rfl | ⟨us, vs, e', h6, rfl, hl⟩
    · exact .inr ⟨g, e, xs, h1, h2, h3, k1, h5⟩
    · injection h6 with h6 h7 h8
      have := ints_inj h6
      subst this
      exact .inr ⟨g, e', vs, h1, h2, h3, k1, by rw [hl, h5]⟩
theorem IntsW.of_at {b : Nat} {H0 H : GHeap} {a : Option Addr} {xs : List Int} (h : IntsAt b H0 a xs) (k : Keep b H0 H) : IntsW b H0.next H a xs.length := by
  obtain ⟨g, e, h1, h2, h3⟩ := h
  exact .inr ⟨g, e, xs, h1, h2, GHeap.lt_of_get h3, k g _ h2 h3, rfl⟩
/-- A list's row, if it has one, is not below b. -/
def HdGe (b : Nat) (a : Option Addr) (n : Nat) : Prop := n = 0 ∨ ∃ g o, a = some ⟨g, o, none⟩ ∧ b ≤ g
theorem HdGe.le {b b' : Nat} {a : Option Addr} {n : Nat} (h : HdGe b a n) (hb : b' ≤ b) : HdGe b' a n := h.imp id fun ⟨g, o, h1, h2⟩ => ⟨g, o, h1, Nat.le_trans hb h2⟩
theorem SlA.keep {b b' : Nat} {H H' : GHeap} {a : Option Addr} {n : Nat} {f : Nat → Value} (h : SlA H a n f) (hd : HdGe b a n) (k : Keep b' H H') (hb : b' ≤ b) : SlA H' a n f := by
  rcases hd with h0 | ⟨g, o, rfl, hg⟩
  · exact .inl h0
  · rcases h with h0 | ⟨g', o', e, hc⟩
    · exact .inl h0
    · cases e
      refine .inr ⟨g, o, rfl, fun i hi => ?_⟩
      have h1 := hc i hi
      unfold GHeap.cell at h1 ⊢
      cases hx : H.get g with
      | none => rw [hx] at h1; cases h1
      | some x => rw [hx] at h1; rw [k g x (by omega) hx]; exact h1
def IntssW (lo hi : Nat) (H : GHeap) (a : Option Addr) (xss : List (List Int)) (r : Nat → Option Addr) : Prop :=
  SlA H a xss.length (fun i => .slice (r i) (xss.getD i []).length (xss.getD i []).length) ∧ (∀ i, i < xss.length → IntsW lo hi H (r i) (xss.getD i []).length) ∧ HdGe lo a xss.length
theorem SlA.stm {lo hi : Nat} {H H' : GHeap} {a : Option Addr} {n : Nat} {f : Nat → Value} (h : SlA H a n f) (s : StM lo hi H H') (hf : ∀ i m, f i ≠ .int .i64 m) : SlA H' a n f := by
  rcases h with h | ⟨g, o, e, h⟩
  · exact .inl h
  · refine .inr ⟨g, o, e, fun i hi => ?_⟩
    have hc := h i hi
    unfold GHeap.cell at hc ⊢
    split at hc
    · rename_i cs el own hg
      obtain ⟨o', k1, k2⟩ := s.ins g _ hg
      rw [k1]
      rcases k2 with rfl | ⟨us, vs, e', h6, rfl, hl⟩
      · exact hc
      · injection h6 with h6 h7 h8
        subst h6
        exfalso
        simp only [ints, List.getElem?_map, Option.map_eq_some_iff] at hc
        obtain ⟨m, _, hm⟩ := hc
        exact hf i m hm.symm
    · cases hc
theorem IntssW.stm {lo hi : Nat} {H H' : GHeap} {a : Option Addr} {xss : List (List Int)} {r : Nat → Option Addr} (h : IntssW lo hi H a xss r) (s : StM lo hi H H') : IntssW lo hi H' a xss r :=
  ⟨h.1.stm s fun i m e => (by cases e), fun i hi => (h.2.1 i hi).stm s, h.2.2⟩
theorem IntssW.of_at {b : Nat} {H0 H : GHeap} {a : Option Addr} {xss : List (List Int)} {r : Nat → Option Addr} (h : IntssAt b H0 a xss r) (k : Keep b H0 H) : IntssW b H0.next H a xss r :=
  ⟨(h.keep k (Nat.le_refl _)).intss.1, fun i hi => by obtain ⟨g, e, cs, _, _, _, _, _, h6⟩ := h; exact .of_at (h6 i hi) k, by obtain ⟨g, e, cs, h1, h2, _⟩ := h; exact .inr ⟨g, 0, h1, h2⟩⟩
def sumL : List (List Int) → Nat
  | [] => 0
  | xs :: r => xs.length + sumL r
theorem sumL_take_succ {xss : List (List Int)} {k : Nat} (h : k < xss.length) : sumL (xss.take (k + 1)) = sumL (xss.take k) + (xss.getD k []).length := by
  induction xss generalizing k with
  | nil => simp at h
  | cons x r ih =>
    cases k with
    | zero => simp [sumL]
    | succ k =>
      have := ih (k := k) (by simpa using h)
      simp only [List.take_succ_cons, sumL, List.getD_cons_succ]
      omega
theorem sumL_le {m : Nat} : ∀ {xss : List (List Int)}, (∀ i, (xss.getD i []).length ≤ m) → sumL xss ≤ xss.length * m
  | [], _ => by simp [sumL]
  | x :: r, h => by
    have h0 := h 0
    have := sumL_le (xss := r) fun i => by simpa using h (i + 1)
    simp only [sumL, List.length_cons, Nat.add_mul]
    simp at h0
    omega
theorem sumL_take_le {xss : List (List Int)} {k : Nat} : sumL (xss.take k) ≤ sumL xss := by
  induction xss generalizing k with
  | nil => simp
  | cons x r ih =>
    cases k with
    | zero => simp [sumL]
    | succ k => simp only [List.take_succ_cons, sumL]; have := ih (k := k); omega
def Cat.total (c : Cat) : Nat := c.src.length + (c.tgt.length + (c.idn.length + sumL c.comp))
def CatW (lo hi : Nat) (H : GHeap) (c : Cat) (p : CatP) : Prop := IntsW lo hi H p.a1 c.src.length ∧ IntsW lo hi H p.a2 c.tgt.length ∧ IntsW lo hi H p.a3 c.idn.length ∧ IntssW lo hi H p.a4 c.comp p.r
theorem CatW.stm {lo hi : Nat} {H H' : GHeap} {c : Cat} {p : CatP} (h : CatW lo hi H c p) (s : StM lo hi H H') : CatW lo hi H' c p := ⟨h.1.stm s, h.2.1.stm s, h.2.2.1.stm s, h.2.2.2.stm s⟩
theorem CatW.of_at {b : Nat} {H0 H : GHeap} {c : Cat} {p : CatP} (h : CatAt b H0 c p) (k : Keep b H0 H) : CatW b H0.next H c p := ⟨.of_at h.1 k, .of_at h.2.1 k, .of_at h.2.2.1 k, .of_at h.2.2.2 k⟩
def Fun.total (f : Fun) : Nat := f.s.total + (f.t.total + (f.ob.length + f.ar.length))
def FunW (lo hi : Nat) (H : GHeap) (f : Fun) (p : FunP) : Prop := CatW lo hi H f.s p.s ∧ CatW lo hi H f.t p.t ∧ IntsW lo hi H p.b1 f.ob.length ∧ IntsW lo hi H p.b2 f.ar.length
theorem FunW.stm {lo hi : Nat} {H H' : GHeap} {c : Fun} {p : FunP} (h : FunW lo hi H c p) (s : StM lo hi H H') : FunW lo hi H' c p := ⟨h.1.stm s, h.2.1.stm s, h.2.2.1.stm s, h.2.2.2.stm s⟩
theorem FunW.of_at {b : Nat} {H0 H : GHeap} {c : Fun} {p : FunP} (h : FunAt b H0 c p) (k : Keep b H0 H) : FunW b H0.next H c p := ⟨.of_at h.1 k, .of_at h.2.1 k, .of_at h.2.2.1 k, .of_at h.2.2.2 k⟩
def Con.total (c : Con) : Nat := c.lg.length
def ConW (lo hi : Nat) (H : GHeap) (c : Con) (p : ConP) : Prop := IntsW lo hi H p.a1 c.lg.length
theorem ConW.stm {lo hi : Nat} {H H' : GHeap} {c : Con} {p : ConP} (h : ConW lo hi H c p) (s : StM lo hi H H') : ConW lo hi H' c p := IntsW.stm h s
theorem ConW.of_at {b : Nat} {H0 H : GHeap} {c : Con} {p : ConP} (h : ConAt b H0 c p) (k : Keep b H0 H) : ConW b H0.next H c p := IntsW.of_at h k

/-! ### Results: their own rows, no two alike. -/
def seqL (k : Int) (n : Nat) : List Int := (List.range n).map fun (i : Nat) => k + (i : Int)
@[simp] theorem length_seqL (k : Int) (n : Nat) : (seqL k n).length = n := by simp [seqL]
theorem seqL_get {k : Int} {n i : Nat} (h : i < n) : (seqL k n).getD i 0 = k + i := by simp [seqL, List.getD_eq_getElem?_getD, h]
/-- A leaf: where a list of n numbers lies, and its length. -/
abbrev Leaf := Option Addr × Nat
def lvBlk : Leaf → List Nat
  | (some a, _ + 1) => [a.block]
  | _ => []
def lvBlks (ls : List Leaf) : List Nat := ls.flatMap lvBlk
def lvSum : List Leaf → Nat
  | [] => 0
  | l :: r => l.2 + lvSum r
/-- All leaves are live, from row b on. -/
def Live1 (b : Nat) (H : GHeap) (l : Leaf) : Prop := l.2 = 0 ∨ ∃ g e xs, l.1 = some ⟨g, 0, none⟩ ∧ b ≤ g ∧ H.get g = some (.row (ints xs) e true) ∧ xs.length = l.2
def Lives (b : Nat) (H : GHeap) (ls : List Leaf) : Prop := ∀ l ∈ ls, Live1 b H l
/-- The leaves hold k, k + 1, .. in order. -/
def Held (b : Nat) (H : GHeap) : List Leaf → Int → Prop
  | [], _ => True
  | l :: r, k => (l.2 = 0 ∨ ∃ g e, l.1 = some ⟨g, 0, none⟩ ∧ b ≤ g ∧ H.get g = some (.row (ints (seqL k l.2)) e true)) ∧ Held b H r (k + l.2)
theorem Held.keep0 {b : Nat} {H H' : GHeap} : ∀ {ls : List Leaf} {k : Int}, Held b H ls k → Keep b H H' → Held b H' ls k
  | [], _, _, _ => trivial
  | _ :: _, _, h, hk => ⟨h.1.imp id fun ⟨g, e, h1, h2, h3⟩ => ⟨g, e, h1, h2, hk g _ h2 h3⟩, Held.keep0 h.2 hk⟩
theorem Held.append {b : Nat} {H : GHeap} : ∀ {ls ms : List Leaf} {k : Int}, Held b H ls k → Held b H ms (k + lvSum ls) → Held b H (ls ++ ms) k
  | [], _, _, _, h => by simpa [lvSum] using h
  | l :: r, ms, k, h, h' => ⟨h.1, Held.append h.2 (by rw [show k + (l.2 : Int) + (lvSum r : Int) = k + (lvSum (l :: r) : Int) by simp [lvSum]; omega]; exact h')⟩
/-- Only rows of bs have turned. -/
structure StB (bs : List Nat) (H H' : GHeap) : Prop where
  nx : H.next ≤ H'.next
  same : ∀ k o, ¬ k ∈ bs → H.get k = some o → H'.get k = some o
theorem StB.refl (bs : List Nat) (H : GHeap) : StB bs H H := ⟨Nat.le_refl _, fun _ _ _ h => h⟩
theorem StB.trans {bs cs : List Nat} {A B C : GHeap} (h : StB bs A B) (k : StB cs B C) : StB (bs ++ cs) A C :=
  ⟨Nat.le_trans h.nx k.nx, fun g o hg ho => k.same g o (fun hc => hg (List.mem_append_right _ hc)) (h.same g o (fun hc => hg (List.mem_append_left _ hc)) ho)⟩
theorem Live1.blk {b : Nat} {H : GHeap} {l : Leaf} (h : Live1 b H l) {g : Nat} {e : TypeId} {xs : List Int} (h1 : l.1 = some ⟨g, 0, none⟩) (hn : l.2 ≠ 0) : g ∈ lvBlk l := by
  obtain ⟨a, n⟩ := l
  simp only at h1 hn
  subst h1
  cases n with
  | zero => exact absurd rfl hn
  | succ n => simp [lvBlk]
theorem Lives.stB {b : Nat} {H H' : GHeap} {ls : List Leaf} {bs : List Nat} (h : Lives b H ls) (s : StB bs H H') (hd : ∀ g ∈ lvBlks ls, ¬ g ∈ bs) : Lives b H' ls := fun l hl => by
  by_cases hn : l.2 = 0
  · exact .inl hn
  · rcases h l hl with h0 | ⟨g, e, xs, h1, h2, h3, h4⟩
    · exact .inl h0
    · exact .inr ⟨g, e, xs, h1, h2, s.same g _ (hd g (List.mem_flatMap.2 ⟨l, hl, (h l hl).blk (e := e) (xs := xs) h1 hn⟩)) h3, h4⟩
theorem Live1.keep {b : Nat} {H H' : GHeap} {l : Leaf} (h : Live1 b H l) (k : Keep b H H') : Live1 b H' l := h.imp id fun ⟨g, e, xs, h1, h2, h3, h4⟩ => ⟨g, e, xs, h1, h2, k g _ h2 h3, h4⟩
theorem Lives.keep {b : Nat} {H H' : GHeap} {ls : List Leaf} (h : Lives b H ls) (k : Keep b H H') : Lives b H' ls := fun l hl => (h l hl).keep k
theorem Held.stB {b : Nat} {H H' : GHeap} {bs : List Nat} (s : StB bs H H') : ∀ {ls : List Leaf} {k : Int}, Held b H ls k → (∀ g ∈ lvBlks ls, ¬ g ∈ bs) → Held b H' ls k
  | [], _, _, _ => trivial
  | l :: r, k, h, hd => by
    refine ⟨?_, Held.stB s h.2 fun g hg => hd g (by simp only [lvBlks, List.flatMap_cons, List.mem_append]; exact .inr hg)⟩
    by_cases hn : l.2 = 0
    · exact .inl hn
    · rcases h.1 with h0 | ⟨g, e, h1, h2, h3⟩
      · exact .inl h0
      · have hl : Live1 b H l := .inr ⟨g, e, _, h1, h2, h3, by simp⟩
        exact .inr ⟨g, e, h1, h2, s.same g _ (hd g (by simp only [lvBlks, List.flatMap_cons, List.mem_append]; exact .inl (hl.blk (e := e) (xs := seqL k l.2) h1 hn))) h3⟩
theorem Lives.app {b : Nat} {H : GHeap} {ls ms : List Leaf} (h : Lives b H ls) (h' : Lives b H ms) : Lives b H (ls ++ ms) := fun l hl => (List.mem_append.1 hl).elim (h l) (h' l)
theorem lvBlks_append (ls ms : List Leaf) : lvBlks (ls ++ ms) = lvBlks ls ++ lvBlks ms := by simp [lvBlks]
theorem lvSum_append : ∀ (ls ms : List Leaf), lvSum (ls ++ ms) = lvSum ls + lvSum ms
  | [], ms => by simp [lvSum]
  | l :: r, ms => by simp only [List.cons_append, lvSum, lvSum_append r ms]; omega

/-- A result's list: none, or a row of its own. -/
def IntsR (b : Nat) (H : GHeap) (a : Option Addr) (xs : List Int) : Prop := (xs = [] ∧ a = none) ∨ IntsAt b H a xs
theorem IntsR.keep {b b' : Nat} {H H' : GHeap} {a : Option Addr} {xs : List Int} (h : IntsR b H a xs) (k : Keep b' H H') (hb : b' ≤ b) : IntsR b' H' a xs := h.imp id fun h => h.keep k hb
theorem IntsR.ints {b : Nat} {H : GHeap} {a : Option Addr} {xs : List Int} (h : IntsR b H a xs) : Ints H a xs := by
  rcases h with ⟨rfl, _⟩ | h
  · exact .inl rfl
  · exact h.ints
theorem IntsR.live {b : Nat} {H : GHeap} {a : Option Addr} {xs : List Int} (h : IntsR b H a xs) : Live1 b H (a, xs.length) := by
  rcases h with ⟨rfl, _⟩ | ⟨g, e, h1, h2, h3⟩
  · exact .inl rfl
  · exact .inr ⟨g, e, xs, h1, h2, h3, rfl⟩
def Con.leaves (c : Con) (p : ConP) : List Leaf := [(p.a1, c.lg.length)]
def ConR (b : Nat) (H : GHeap) (c : Con) (p : ConP) : Prop := IntsR b H p.a1 c.lg
theorem ConR.keep {b b' : Nat} {H H' : GHeap} {c : Con} {p : ConP} (h : ConR b H c p) (k : Keep b' H H') (hb : b' ≤ b) : ConR b' H' c p := IntsR.keep h k hb
theorem ConR.inn {b : Nat} {H : GHeap} {c : Con} {p : ConP} (h : ConR b H c p) : c.In H p := IntsR.ints h
theorem Con.nodup (c : Con) (p : ConP) : (lvBlks (c.leaves p)).Nodup := by
  simp only [Con.leaves, lvBlks, List.flatMap_cons, List.flatMap_nil, List.append_nil]
  unfold lvBlk
  split <;> simp
theorem Held.keep {b b' : Nat} {H H' : GHeap} {ls : List Leaf} {k : Int} (h : Held b H ls k) (hk : Keep b' H H') (hb : b' ≤ b) : Held b H' ls k := h.keep0 fun g o hg ho => hk g o (by omega) ho
theorem Held.app {b : Nat} {H : GHeap} : ∀ {ls ms : List Leaf} {k : Int}, Held b H (ls ++ ms) k → Held b H ls k ∧ Held b H ms (k + lvSum ls)
  | [], ms, k, h => ⟨trivial, by simpa [lvSum] using h⟩
  | l :: r, ms, k, h => by
    obtain ⟨h1, h2⟩ := Held.app (ls := r) h.2
    exact ⟨⟨h.1, h1⟩, by rw [show k + (lvSum (l :: r) : Int) = k + (l.2 : Int) + (lvSum r : Int) by simp [lvSum]; omega]; exact h2⟩
theorem Held.ints {b : Nat} {H : GHeap} {a : Option Addr} {n : Nat} {k : Int} (h : Held b H [(a, n)] k) : Ints H a (seqL k n) := by
  rcases h.1 with h0 | ⟨g, e, h1, h2, h3⟩
  · simp only at h0; subst h0; exact .inl (by simp)
  · simp only at h1 h3; subst h1; exact Ints.of_get h3

/-- What marking leaves. -/
structure Marked (lo hi : Nat) (H H' : GHeap) (ls : List Leaf) (k : Int) : Prop where
  stm : StM lo hi H H'
  stb : StB (lvBlks ls) H H'
  held : (lvBlks ls).Nodup → Held lo H' ls k
theorem Marked.nil (lo hi : Nat) (H : GHeap) (k : Int) : Marked lo hi H H [] k := ⟨.refl _ _ _, .refl _ _, fun _ => trivial⟩
theorem Marked.app {lo hi : Nat} {A B C : GHeap} {ls ms : List Leaf} {k : Int} (h : Marked lo hi A B ls k) (h' : Marked lo hi B C ms (k + lvSum ls)) : Marked lo hi A C (ls ++ ms) k where
  stm := h.stm.trans h'.stm
  stb := by rw [lvBlks_append]; exact h.stb.trans h'.stb
  held := fun nd => by
    rw [lvBlks_append, List.nodup_append] at nd
    exact ((h.held nd.1).stB h'.stb fun g hg hg' => nd.2.2 g hg g hg' rfl).append (h'.held nd.2.1)
theorem Marked.le_left {lo hi : Nat} {A B C : GHeap} {ls : List Leaf} {k : Int} (h : A.Le B) (m : Marked lo hi B C ls k) : Marked lo hi A C ls k :=
  ⟨⟨Nat.le_trans h.1 m.stm.nx, fun g o hg ho => m.stm.same g o hg (h.2 g o ho), fun g o ho => m.stm.ins g o (h.2 g o ho)⟩, ⟨Nat.le_trans h.1 m.stb.nx, fun g o hg ho => m.stb.same g o hg (h.2 g o ho)⟩, m.held⟩
theorem Marked.one {lo hi g : Nat} {H H' : GHeap} {e : TypeId} {xs : List Int} {k : Int} (hlo : lo ≤ g) (hhi : g < hi) (h0 : H.get g = some (.row (ints xs) e true)) (s : St [g] H H') (h1 : H'.get g = some (.row (ints (seqL k xs.length)) e true)) (hn : xs.length ≠ 0) :
    Marked lo hi H H' [(some ⟨g, 0, none⟩, xs.length)] k where
  stm := ⟨s.nx, fun i o hi ho => s.same i o ⟨by omega, trivial⟩ ho, fun i o ho => by
    by_cases hi : i = g
    · subst hi
      rw [h0] at ho; cases ho
      exact ⟨_, h1, .inr ⟨xs, seqL k xs.length, e, rfl, rfl, by simp⟩⟩
    · exact ⟨o, s.same i o ⟨hi, trivial⟩ ho, .inl rfl⟩⟩
  stb := ⟨s.nx, fun i o hi ho => s.same i o ⟨fun e' => hi (by
    subst e'
    cases hx : xs.length with
    | zero => exact absurd hx hn
    | succ m => simp [lvBlks, lvBlk]), trivial⟩ ho⟩
  held := fun _ => ⟨.inr ⟨g, e, rfl, hlo, h1⟩, trivial⟩
def rowsL (r : Nat → Option Addr) (xss : List (List Int)) (n : Nat) : List Leaf := (List.range n).map fun i => (r i, (xss.getD i []).length)
theorem rowsL_succ (r : Nat → Option Addr) (xss : List (List Int)) (n : Nat) : rowsL r xss (n + 1) = rowsL r xss n ++ [(r n, (xss.getD n []).length)] := by simp [rowsL, List.range_succ]
theorem lvSum_rowsL (r : Nat → Option Addr) (xss : List (List Int)) : ∀ n, n ≤ xss.length → lvSum (rowsL r xss n) = sumL (xss.take n)
  | 0, _ => by simp [rowsL, lvSum, sumL]
  | n + 1, h => by rw [rowsL_succ, lvSum_append, lvSum_rowsL r xss n (by omega), sumL_take_succ (by omega)]; simp [lvSum]
def Cat.leaves (c : Cat) (p : CatP) : List Leaf := [(p.a1, c.src.length)] ++ ([(p.a2, c.tgt.length)] ++ ([(p.a3, c.idn.length)] ++ rowsL p.r c.comp c.comp.length))
def Fun.leaves (f : Fun) (p : FunP) : List Leaf := f.s.leaves p.s ++ (f.t.leaves p.t ++ ([(p.b1, f.ob.length)] ++ [(p.b2, f.ar.length)]))
theorem Cat.total_le {c : Cat} (h : c.Small) : c.total ≤ 3 * 1048576 + 1048576 * 1048576 := by
  obtain ⟨h1, h2, h3, h4, h5, _⟩ := h
  have := sumL_le (m := 1048576) h5
  have h6 : c.comp.length * 1048576 ≤ 1048576 * 1048576 := Nat.mul_le_mul_right _ h4
  unfold Cat.total
  omega
theorem Marked.app' {lo hi : Nat} {A B C : GHeap} {ls ms : List Leaf} {k k' : Int} (h : Marked lo hi A B ls k) (h' : Marked lo hi B C ms k') (e : k' = k + lvSum ls) : Marked lo hi A C (ls ++ ms) k := by subst e; exact h.app h'
theorem IntsW.of_r {b : Nat} {H0 H : GHeap} {a : Option Addr} {xs : List Int} (h : IntsR b H0 a xs) (k : Keep b H0 H) : IntsW b H0.next H a xs.length := by
  rcases h with ⟨rfl, _⟩ | h
  · exact .inl rfl
  · exact .of_at h k
theorem ConW.of_r {b : Nat} {H0 H : GHeap} {c : Con} {p : ConP} (h : ConR b H0 c p) (k : Keep b H0 H) : ConW b H0.next H c p := IntsW.of_r h k
theorem IntsW.keep {lo lo' hi : Nat} {H H' : GHeap} {a : Option Addr} {n : Nat} (h : IntsW lo hi H a n) (k : Keep lo' H H') (hb : lo' ≤ lo) : IntsW lo hi H' a n := h.imp id fun ⟨g, e, xs, h1, h2, h3, h4, h5⟩ => ⟨g, e, xs, h1, h2, h3, k g _ (by omega) h4, h5⟩
theorem IntssW.keep {lo lo' hi : Nat} {H H' : GHeap} {a : Option Addr} {xss : List (List Int)} {r : Nat → Option Addr} (h : IntssW lo hi H a xss r) (k : Keep lo' H H') (hb : lo' ≤ lo) : IntssW lo hi H' a xss r := ⟨h.1.keep h.2.2 k hb, fun i hi => (h.2.1 i hi).keep k hb, h.2.2⟩
theorem CatW.keep {lo lo' hi : Nat} {H H' : GHeap} {c : Cat} {p : CatP} (h : CatW lo hi H c p) (k : Keep lo' H H') (hb : lo' ≤ lo) : CatW lo hi H' c p := ⟨h.1.keep k hb, h.2.1.keep k hb, h.2.2.1.keep k hb, h.2.2.2.keep k hb⟩
theorem FunW.keep {lo lo' hi : Nat} {H H' : GHeap} {c : Fun} {p : FunP} (h : FunW lo hi H c p) (k : Keep lo' H H') (hb : lo' ≤ lo) : FunW lo hi H' c p := ⟨h.1.keep k hb, h.2.1.keep k hb, h.2.2.1.keep k hb, h.2.2.2.keep k hb⟩
theorem ConW.keep {lo lo' hi : Nat} {H H' : GHeap} {c : Con} {p : ConP} (h : ConW lo hi H c p) (k : Keep lo' H H') (hb : lo' ≤ lo) : ConW lo hi H' c p := IntsW.keep h k hb
theorem Cat.Small.tot {c : Cat} (h : c.Small) : c.total ≤ 3 * 1048576 + 1048576 * 1048576 := Cat.total_le h
theorem Fun.Small.tot {c : Fun} (h : c.Small) : c.total ≤ 8 * 1048576 + 2 * 1048576 * 1048576 := by
  obtain ⟨h1, h2, h3, h4⟩ := h
  have := h1.tot
  have := h2.tot
  unfold Fun.total
  omega
theorem Con.Small.tot {c : Con} (h : c.Small) : c.total ≤ 1048576 := by
  obtain ⟨_, h2⟩ := h
  unfold Con.total
  omega
end Go.GL
/- Parts of set functors. No condition. -/
namespace Go.GL

def Rising (xs : List Int) : Prop := ∀ i, 1 ≤ i → i < xs.length → xs.getD (i - 1) 0 < xs.getD i 0
/-- The lists are a part of a set functor. -/
structure SFun.Part (f : SFun) (me : List (List Int)) : Prop where
  pl : me.length = f.sz.length
  rs : ∀ x, x < me.length → Rising (me.getD x []) ∧ allIn (me.getD x []) (f.sz.getD x 0) = true
  cl : ∀ a, a < f.ac.length → ∀ i, i < (me.getD (f.sh.src.getD a 0).toNat []).length → (me.getD (f.sh.tgt.getD a 0).toNat []).contains ((f.ac.getD a []).getD ((me.getD (f.sh.src.getD a 0).toNat []).getD i 0).toNat 0) = true
end Go.GL
/- Marks on set functors, their maps and parts; lists of lists that are made row by row. No condition. -/
namespace Go.GL

def SFun.total (f : SFun) : Nat := f.sh.total + (f.sz.length + sumL f.ac)
def SFunW (lo hi : Nat) (H : GHeap) (f : SFun) (p : SFunP) : Prop := CatW lo hi H f.sh p.sh ∧ IntsW lo hi H p.a1 f.sz.length ∧ IntssW lo hi H p.a2 f.ac p.r2
theorem SFunW.stm {lo hi : Nat} {H H' : GHeap} {c : SFun} {p : SFunP} (h : SFunW lo hi H c p) (s : StM lo hi H H') : SFunW lo hi H' c p := ⟨h.1.stm s, h.2.1.stm s, h.2.2.stm s⟩
theorem SFunW.of_at {b : Nat} {H0 H : GHeap} {c : SFun} {p : SFunP} (h : SFunAt b H0 c p) (k : Keep b H0 H) : SFunW b H0.next H c p := ⟨.of_at h.1 k, .of_at h.2.1 k, .of_at h.2.2 k⟩
def SFun.leaves (f : SFun) (p : SFunP) : List Leaf := f.sh.leaves p.sh ++ ([(p.a1, f.sz.length)] ++ rowsL p.r2 f.ac f.ac.length)
theorem sumL_tot {xss : List (List Int)} (h : xss.length ≤ 1048576) (h' : ∀ i, (xss.getD i []).length ≤ 1048576) : sumL xss ≤ 1048576 * 1048576 := by
  have := sumL_le (m := 1048576) h'
  have h6 : xss.length * 1048576 ≤ 1048576 * 1048576 := Nat.mul_le_mul_right _ h
  exact Nat.le_trans this h6
theorem SFun.Small.tot {c : SFun} (h : c.Small) : c.total ≤ 4 * 1048576 + 2 * 1048576 * 1048576 := by
  obtain ⟨h1, h2, h3, h4⟩ := h
  have := h1.tot
  have := sumL_tot h3 h4
  unfold SFun.total
  omega
def SMap.total (f : SMap) : Nat := f.s.total + (f.t.total + sumL f.pa)
def SMapW (lo hi : Nat) (H : GHeap) (f : SMap) (p : SMapP) : Prop := SFunW lo hi H f.s p.s ∧ SFunW lo hi H f.t p.t ∧ IntssW lo hi H p.a2 f.pa p.r2
theorem SMapW.stm {lo hi : Nat} {H H' : GHeap} {c : SMap} {p : SMapP} (h : SMapW lo hi H c p) (s : StM lo hi H H') : SMapW lo hi H' c p := ⟨h.1.stm s, h.2.1.stm s, h.2.2.stm s⟩
theorem SMapW.of_at {b : Nat} {H0 H : GHeap} {c : SMap} {p : SMapP} (h : SMapAt b H0 c p) (k : Keep b H0 H) : SMapW b H0.next H c p := ⟨.of_at h.1 k, .of_at h.2.1 k, .of_at h.2.2 k⟩
def SMap.leaves (f : SMap) (p : SMapP) : List Leaf := f.s.leaves p.s ++ (f.t.leaves p.t ++ rowsL p.r2 f.pa f.pa.length)
theorem SMap.Small.tot {c : SMap} (h : c.Small) : c.total ≤ 8 * 1048576 + 5 * 1048576 * 1048576 := by
  obtain ⟨h1, h2, h3, h4⟩ := h
  have := h1.tot
  have := h2.tot
  have := sumL_tot h3 h4
  unfold SMap.total
  omega
def Prt.total (f : Prt) : Nat := sumL f.me
def PrtW (lo hi : Nat) (H : GHeap) (f : Prt) (p : PrtP) : Prop := IntssW lo hi H p.a0 f.me p.r0
theorem PrtW.stm {lo hi : Nat} {H H' : GHeap} {c : Prt} {p : PrtP} (h : PrtW lo hi H c p) (s : StM lo hi H H') : PrtW lo hi H' c p := IntssW.stm h s
theorem PrtW.keep {lo lo' hi : Nat} {H H' : GHeap} {c : Prt} {p : PrtP} (h : PrtW lo hi H c p) (k : Keep lo' H H') (hb : lo' ≤ lo) : PrtW lo hi H' c p := IntssW.keep h k hb
theorem SFunW.keep {lo lo' hi : Nat} {H H' : GHeap} {c : SFun} {p : SFunP} (h : SFunW lo hi H c p) (k : Keep lo' H H') (hb : lo' ≤ lo) : SFunW lo hi H' c p := ⟨h.1.keep k hb, h.2.1.keep k hb, h.2.2.keep k hb⟩
theorem SMapW.keep {lo lo' hi : Nat} {H H' : GHeap} {c : SMap} {p : SMapP} (h : SMapW lo hi H c p) (k : Keep lo' H H') (hb : lo' ≤ lo) : SMapW lo hi H' c p := ⟨h.1.keep k hb, h.2.1.keep k hb, h.2.2.keep k hb⟩
theorem PrtW.of_at {b : Nat} {H0 H : GHeap} {c : Prt} {p : PrtP} (h : PrtAt b H0 c p) (k : Keep b H0 H) : PrtW b H0.next H c p := IntssW.of_at h k
def Prt.leaves (f : Prt) (p : PrtP) : List Leaf := rowsL p.r0 f.me f.me.length
theorem Prt.Small.tot {c : Prt} (h : c.Small) : c.total ≤ 1048576 * 1048576 := sumL_tot h.1 h.2

/-! ### Lists of lists made row by row. -/
def NoTwo (xss : List (List Int)) (r : Nat → Option Addr) : Prop := (lvBlks (rowsL r xss xss.length)).Nodup
/-- A result's list of lists: none, or rows of its own, no two alike. -/
def IntssR (b : Nat) (H : GHeap) (a : Option Addr) (xss : List (List Int)) (r : Nat → Option Addr) : Prop := ((xss = [] ∧ a = none) ∨ IntssAt b H a xss r) ∧ NoTwo xss r
theorem IntssR.keep {b b' : Nat} {H H' : GHeap} {a : Option Addr} {xs : List (List Int)} {r : Nat → Option Addr} (h : IntssR b H a xs r) (k : Keep b' H H') (hb : b' ≤ b) : IntssR b' H' a xs r := ⟨h.1.imp id fun h => h.keep k hb, h.2⟩
theorem IntssR.intss {b : Nat} {H : GHeap} {a : Option Addr} {xs : List (List Int)} {r : Nat → Option Addr} (h : IntssR b H a xs r) : Intss H a xs r := by
  rcases h.1 with ⟨rfl, rfl⟩ | h
  · exact ⟨.inl rfl, fun i hi => by simp at hi⟩
  · exact h.intss
theorem IntssR.nil (b : Nat) (H : GHeap) (r : Nat → Option Addr) : IntssR b H none [] r := ⟨.inl ⟨rfl, rfl⟩, by simp [NoTwo, lvBlks, rowsL]⟩
def PrtR (b : Nat) (H : GHeap) (c : Prt) (p : PrtP) : Prop := IntssR b H p.a0 c.me p.r0
theorem PrtR.keep {b b' : Nat} {H H' : GHeap} {c : Prt} {p : PrtP} (h : PrtR b H c p) (k : Keep b' H H') (hb : b' ≤ b) : PrtR b' H' c p := IntssR.keep h k hb
theorem PrtR.inn {b : Nat} {H : GHeap} {c : Prt} {p : PrtP} (h : PrtR b H c p) : c.In H p := IntssR.intss h
theorem PrtR.nodup {b : Nat} {H : GHeap} {c : Prt} {p : PrtP} (h : PrtR b H c p) : (lvBlks (c.leaves p)).Nodup := h.2
theorem IntssW.of_r {b : Nat} {H0 H : GHeap} {a : Option Addr} {xs : List (List Int)} {r : Nat → Option Addr} (h : IntssR b H0 a xs r) (k : Keep b H0 H) : IntssW b H0.next H a xs r := by
  rcases h.1 with ⟨rfl, rfl⟩ | h
  · exact ⟨.inl rfl, fun i hi => by simp at hi, .inl rfl⟩
  · exact .of_at h k
theorem PrtW.of_r {b : Nat} {H0 H : GHeap} {c : Prt} {p : PrtP} (h : PrtR b H0 c p) (k : Keep b H0 H) : PrtW b H0.next H c p := IntssW.of_r h k

def slsOf (r : Nat → Option Addr) (X : Nat → List Int) (k : Nat) : List Value := (List.range k).map fun i => .slice (r i) (X i).length (X i).length
@[simp] theorem length_slsOf (r : Nat → Option Addr) (X : Nat → List Int) (k : Nat) : (slsOf r X k).length = k := by simp [slsOf]
def upd (r : Nat → Option Addr) (k : Nat) (a : Option Addr) : Nat → Option Addr := fun i => if i = k then a else r i
theorem upd_eq (r : Nat → Option Addr) (k : Nat) (a : Option Addr) : upd r k a k = a := by simp [upd]
theorem upd_ne {r : Nat → Option Addr} {k i : Nat} {a : Option Addr} (h : i ≠ k) : upd r k a i = r i := by simp [upd, h]
theorem slsOf_succ {r : Nat → Option Addr} {X : Nat → List Int} {k : Nat} {a : Option Addr} : slsOf (upd r k a) X (k + 1) = slsOf r X k ++ [.slice a (X k).length (X k).length] := by
  unfold slsOf
  rw [List.range_succ, List.map_append]
  congr 1
  · refine List.map_congr_left fun i hi => ?_
    rw [upd_ne (by have := List.mem_range.1 hi; omega)]
  · simp [upd_eq]
structure OwnRows (b : Nat) (H : GHeap) (e : TypeId) (r : Nat → Option Addr) (X : Nat → List Int) (k : Nat) : Prop where
  row : ∀ i, i < k → ∃ g, r i = some ⟨g, 0, none⟩ ∧ b ≤ g ∧ H.get g = some (.row (ints (X i)) e true)
  inj : ∀ i j, i < k → j < k → r i = r j → i = j
theorem OwnRows.zero (b : Nat) (H : GHeap) (e : TypeId) (r : Nat → Option Addr) (X : Nat → List Int) : OwnRows b H e r X 0 := ⟨fun i hi => by omega, fun i j hi => by omega⟩
/-- Rows of numbers of type e live on. -/
def Lasts (e : TypeId) (H H' : GHeap) : Prop := ∀ x xs, H.get x = some (.row (ints xs) e true) → H'.get x = some (.row (ints xs) e true)
theorem St.lasts1 {g0 : Nat} {H H' : GHeap} {e e' : TypeId} {cs : List Value} (s : St [g0] H H') (h0 : H.get g0 = some (.row cs e' true)) (hne : (e != e') = true) : Lasts e H H' := fun x xs hx => by
  simp only [bne_iff_ne, ne_eq] at hne
  refine s.same x _ ⟨fun ex => ?_, trivial⟩ hx
  subst ex
  rw [h0] at hx
  cases hx
  exact hne rfl
theorem OwnRows.keep {b k : Nat} {H H' : GHeap} {e : TypeId} {r : Nat → Option Addr} {X : Nat → List Int} (h : OwnRows b H e r X k) (s : Lasts e H H') : OwnRows b H' e r X k := ⟨fun i hi => by
  obtain ⟨x, h1, h2, h3⟩ := h.row i hi
  exact ⟨x, h1, h2, s x _ h3⟩, h.inj⟩
theorem OwnRows.succ' {b g k : Nat} {H H' : GHeap} {e : TypeId} {r : Nat → Option Addr} {X : Nat → List Int} (h : OwnRows b H e r X k) (s : Lasts e H H')
    (hg : H'.get g = some (.row (ints (X k)) e true)) (hn : H.next ≤ g) (hb : b ≤ g) : OwnRows b H' e (upd r k (some ⟨g, 0, none⟩)) X (k + 1) := by
  refine ⟨fun i hi => ?_, fun i j hi hj hij => ?_⟩
  · by_cases ek : i = k
    · subst ek; exact ⟨g, upd_eq _ _ _, hb, hg⟩
    · obtain ⟨x, h1, h2, h3⟩ := h.row i (by omega)
      exact ⟨x, by rw [upd_ne ek]; exact h1, h2, s x _ h3⟩
  · by_cases ei : i = k
    · by_cases ej : j = k
      · omega
      · subst ei
        rw [upd_eq, upd_ne ej] at hij
        obtain ⟨x, h1, _, h3⟩ := h.row j (by omega)
        rw [h1] at hij
        cases hij
        have := GHeap.lt_of_get h3
        omega
    · by_cases ej : j = k
      · subst ej
        rw [upd_eq, upd_ne ei] at hij
        obtain ⟨x, h1, _, h3⟩ := h.row i (by omega)
        rw [h1] at hij
        cases hij
        have := GHeap.lt_of_get h3
        omega
      · rw [upd_ne ei, upd_ne ej] at hij
        exact h.inj i j (by omega) (by omega) hij
theorem OwnRows.succ {b g g0 k : Nat} {H H' : GHeap} {e e' : TypeId} {r : Nat → Option Addr} {X : Nat → List Int} {cs : List Value} (h : OwnRows b H e r X k) (s : St [g0] H H') (h0 : H.get g0 = some (.row cs e' true)) (hne : (e != e') = true)
    (hg : H'.get g = some (.row (ints (X k)) e true)) (hn : H.next ≤ g) (hb : b ≤ g) : OwnRows b H' e (upd r k (some ⟨g, 0, none⟩)) X (k + 1) := h.succ' (s.lasts1 h0 hne) hg hn hb
theorem mem_lvBlk {g n x : Nat} (h : x ∈ lvBlk (some ⟨g, 0, none⟩, n)) : x = g := by
  cases n with
  | zero => simp [lvBlk] at h
  | succ n => simpa [lvBlk] using h
theorem lvBlks_rowsL {r : Nat → Option Addr} {xss : List (List Int)} (hr : ∀ i, i < xss.length → ∃ g, r i = some ⟨g, 0, none⟩) (hi : ∀ i j, i < xss.length → j < xss.length → r i = r j → i = j) : ∀ {n}, n ≤ xss.length →
    (lvBlks (rowsL r xss n)).Nodup ∧ ∀ g ∈ lvBlks (rowsL r xss n), ∃ i, i < n ∧ r i = some ⟨g, 0, none⟩
  | 0, _ => by simp [rowsL, lvBlks]
  | n + 1, hn => by
    obtain ⟨h1, h2⟩ := lvBlks_rowsL hr hi (n := n) (by omega)
    obtain ⟨g, hg⟩ := hr n (by omega)
    have h3 : ∀ x ∈ lvBlk (r n, (xss.getD n []).length), x = g := fun x hx => by rw [hg] at hx; exact mem_lvBlk hx
    have h4 : (lvBlk (r n, (xss.getD n []).length)).Nodup := by unfold lvBlk; split <;> simp
    have e1 : lvBlks (rowsL r xss (n + 1)) = lvBlks (rowsL r xss n) ++ lvBlk (r n, (xss.getD n []).length) := by rw [rowsL_succ, lvBlks_append]; simp [lvBlks]
    rw [e1]
    refine ⟨List.nodup_append.2 ⟨h1, h4, fun x hx y hy hxy => ?_⟩, fun x hx => ?_⟩
    · obtain ⟨i, i1, i2⟩ := h2 x hx
      have := h3 y hy
      subst hxy this
      have := hi i n (by omega) (by omega) (by rw [i2, hg])
      omega
    · rcases List.mem_append.1 hx with hx | hx
      · obtain ⟨i, i1, i2⟩ := h2 x hx
        exact ⟨i, by omega, i2⟩
      · exact ⟨n, by omega, by rw [h3 x hx]; exact hg⟩
def rowsOf (X : Nat → List Int) (n : Nat) : List (List Int) := (List.range n).map X
@[simp] theorem length_rowsOf (X : Nat → List Int) (n : Nat) : (rowsOf X n).length = n := by simp [rowsOf]
theorem rowsOf_get {X : Nat → List Int} {n i : Nat} (h : i < n) : (rowsOf X n).getD i [] = X i := by simp [rowsOf, List.getD_eq_getElem?_getD, h]
theorem OwnRows.done {b g n : Nat} {H : GHeap} {e e' : TypeId} {r : Nat → Option Addr} {X : Nat → List Int} (h : OwnRows b H e r X n) (hg : H.get g = some (.row (slsOf r X n) e' true)) (hb : b ≤ g) : IntssR b H (some ⟨g, 0, none⟩) (rowsOf X n) r := by
  refine ⟨.inr ⟨g, e', slsOf r X n, rfl, hb, hg, by simp, fun i hi => ?_, fun i hi => ?_⟩, ?_⟩
  · rw [length_rowsOf] at hi
    rw [rowsOf_get hi]
    simp [slsOf, hi]
  · rw [length_rowsOf] at hi
    rw [rowsOf_get hi]
    obtain ⟨x, h1, h2, h3⟩ := h.row i hi
    exact ⟨x, e, h1, h2, h3⟩
  · exact (lvBlks_rowsL (fun i hi => by rw [length_rowsOf] at hi; obtain ⟨x, h1, _⟩ := h.row i hi; exact ⟨x, h1⟩) (fun i j hi hj => by rw [length_rowsOf] at hi hj; exact h.inj i j hi hj) (Nat.le_refl _)).1

/-- A list that is nil as long as it is empty. -/
def NilOr (b : Nat) (H : GHeap) (a : Option Addr) (g : Nat) (cs : List Value) (e : TypeId) (k : Nat) : Prop := (a = none ∧ k = 0) ∨ (a = some ⟨g, 0, none⟩ ∧ 0 < k ∧ b ≤ g ∧ H.get g = some (.row cs e true))
theorem NilOr.st {b g g0 k : Nat} {H H' : GHeap} {a : Option Addr} {cs : List Value} {e : TypeId} (h : NilOr b H a g cs e k) (s : St [g0] H H') (hn : g0 < b) : NilOr b H' a g cs e k := h.imp id fun ⟨h1, h0, h2, h3⟩ => ⟨h1, h0, h2, s.same g _ ⟨by omega, trivial⟩ h3⟩
theorem Lasts.trans {e : TypeId} {A B C : GHeap} (h : Lasts e A B) (h' : Lasts e B C) : Lasts e A C := fun x xs hx => h' x xs (h x xs hx)
section
variable {P : Program} {o : Oper} {fr : Slots} {H : GHeap}
end
/-- Row x of a part drawn back along a map: the elements whose images lie in it. -/
def SMap.backX (m : SMap) (me : List (List Int)) (x : Nat) : List Int := filtN (m.pa.getD x []).length fun e => (me.getD x []).contains ((m.pa.getD x []).getD e 0)
def SMap.backR (m : SMap) (me : List (List Int)) : List (List Int) := rowsOf (m.backX me) m.pa.length
noncomputable def SMap.back (m : SMap) (me : List (List Int)) : Prt := ⟨bif B (m.Is ∧ m.t.Part me) then m.backR me else []⟩
/-- The part whose row x holds the elements that Y says. -/
def SFun.pick (f : SFun) (Y : Nat → Nat → Bool) : Prt := ⟨rowsOf (fun x => filtN (f.sz.getD x 0).toNat (Y x)) f.sz.length⟩
end Go.GL
/- Lists of lists that grow row by row; lists made in two nested loops. No condition. -/
namespace Go.GL
def slsL (r : Nat → Option Addr) (xss : List (List Int)) : List Value := slsOf r (fun i => xss.getD i []) xss.length
@[simp] theorem length_slsL (r : Nat → Option Addr) (xss : List (List Int)) : (slsL r xss).length = xss.length := by simp [slsL]
theorem slsOf_congr {r : Nat → Option Addr} {X Y : Nat → List Int} {k : Nat} (h : ∀ i, i < k → X i = Y i) : slsOf r X k = slsOf r Y k := List.map_congr_left fun i hi => by rw [h i (List.mem_range.1 hi)]
theorem getD_snoc {α : Type} {xs : List α} {x d : α} {i : Nat} : (xs ++ [x]).getD i d = if i < xs.length then xs.getD i d else if i = xs.length then x else d := by
  rw [List.getD_eq_getElem?_getD, List.getD_eq_getElem?_getD]
  by_cases h : i < xs.length
  · rw [if_pos h, List.getElem?_append_left h]
  · rw [if_neg h, List.getElem?_append_right (by omega)]
    by_cases e : i = xs.length
    · subst e; simp
    · rw [if_neg e, List.getElem?_eq_none (by simp; omega)]; rfl
theorem slsL_snoc {r : Nat → Option Addr} {xss : List (List Int)} {x : List Int} {a : Option Addr} : slsL (upd r xss.length a) (xss ++ [x]) = slsL r xss ++ [.slice a x.length x.length] := by
  unfold slsL
  rw [List.length_append, List.length_singleton]
  rw [slsOf_succ]
  congr 1
  · refine slsOf_congr fun i hi => ?_
    rw [getD_snoc, if_pos hi]
  · rw [getD_snoc, if_neg (by omega), if_pos rfl]
/-- Rows of their own, no two alike. -/
def OwnL (b : Nat) (H : GHeap) (e : TypeId) (r : Nat → Option Addr) (xss : List (List Int)) : Prop := OwnRows b H e r (fun i => xss.getD i []) xss.length
theorem OwnL.nil (b : Nat) (H : GHeap) (e : TypeId) (r : Nat → Option Addr) : OwnL b H e r [] := OwnRows.zero _ _ _ _ _
theorem OwnRows.congr {b : Nat} {H : GHeap} {e : TypeId} {r : Nat → Option Addr} {X Y : Nat → List Int} {k : Nat} (h : OwnRows b H e r X k) (hx : ∀ i, i < k → X i = Y i) : OwnRows b H e r Y k := ⟨fun i hi => by rw [← hx i hi]; exact h.row i hi, h.inj⟩
theorem OwnL.snoc {b g : Nat} {H H' : GHeap} {e : TypeId} {r : Nat → Option Addr} {xss : List (List Int)} {x : List Int} (h : OwnL b H e r xss) (s : Lasts e H H') (hg : H'.get g = some (.row (ints x) e true)) (hn : H.next ≤ g) (hb : b ≤ g) : OwnL b H' e (upd r xss.length (some ⟨g, 0, none⟩)) (xss ++ [x]) := by
  unfold OwnL at h ⊢
  rw [List.length_append, List.length_singleton]
  have h' : OwnRows b H e r (fun i => (xss ++ [x]).getD i []) xss.length := h.congr fun i hi => by rw [getD_snoc, if_pos hi]
  exact h'.succ' s (by rw [getD_snoc, if_neg (by omega), if_pos rfl]; exact hg) hn hb
theorem OwnL.keep {b : Nat} {H H' : GHeap} {e : TypeId} {r : Nat → Option Addr} {xss : List (List Int)} (h : OwnL b H e r xss) (s : Lasts e H H') : OwnL b H' e r xss := OwnRows.keep h s
theorem rowsOf_self (xss : List (List Int)) : rowsOf (fun i => xss.getD i []) xss.length = xss := by
  apply List.ext_getElem (by simp)
  intro i h1 h2
  simp only [rowsOf, List.getElem_map, List.getElem_range, List.getD_eq_getElem?_getD, List.getElem?_eq_getElem h2, Option.getD_some]
theorem OwnL.done {b g : Nat} {H : GHeap} {e e' : TypeId} {r : Nat → Option Addr} {xss : List (List Int)} (h : OwnL b H e r xss) (hg : H.get g = some (.row (slsL r xss) e' true)) (hb : b ≤ g) : IntssR b H (some ⟨g, 0, none⟩) xss r := by
  have := OwnRows.done (X := fun i => xss.getD i []) h hg hb
  rwa [rowsOf_self] at this
theorem OwnL.intss {b g : Nat} {H : GHeap} {e e' : TypeId} {r : Nat → Option Addr} {xss : List (List Int)} (h : OwnL b H e r xss) (hg : H.get g = some (.row (slsL r xss) e' true)) (hb : b ≤ g) : Intss H (some ⟨g, 0, none⟩) xss r := (h.done hg hb).intss
theorem IntsR.nodup {a : Option Addr} {n : Nat} : (lvBlks [(a, n)]).Nodup := by
  simp only [lvBlks, List.flatMap_cons, List.flatMap_nil, List.append_nil]
  unfold lvBlk
  split <;> simp
theorem IntsR.of_at {b : Nat} {H : GHeap} {g : Nat} {e : TypeId} {xs : List Int} (h : H.get g = some (.row (Go.GL.ints xs) e true)) (hb : b ≤ g) : IntsR b H (some ⟨g, 0, none⟩) xs := .inr ⟨g, e, rfl, hb, h⟩

/-- The rows of two nested loops, up to (k, t). -/
def nestL {α : Type} (pr : Nat → Nat → α) (sz : Nat → Nat) (k t : Nat) : List α := (List.range k).flatMap (fun a => (List.range (sz a)).map (pr a)) ++ (List.range t).map (pr k)
/-- The rows of three nested loops, up to (k, t, u). -/
def nest3 {α : Type} (pr : Nat → Nat → Nat → α) (s1 : Nat → Nat) (s2 : Nat → Nat → Nat) (k t u : Nat) : List α := (List.range k).flatMap (fun a => nestL (pr a) (s2 a) (s1 a) 0) ++ nestL (pr k) (s2 k) t u
theorem nest3_zero {α : Type} (pr : Nat → Nat → Nat → α) (s1 : Nat → Nat) (s2 : Nat → Nat → Nat) : nest3 pr s1 s2 0 0 0 = [] := rfl
theorem getD_mem_list {α : Type} {xs : List α} {d : α} {i : Nat} (h : i < xs.length) : xs.getD i d ∈ xs := by
  rw [List.getD_eq_getElem?_getD, List.getElem?_eq_getElem h]
  exact List.getElem_mem h

/-! ### Categories as results. -/
def CatR (b : Nat) (H : GHeap) (c : Cat) (p : CatP) : Prop := (IntsR b H p.a1 c.src ∧ IntsR b H p.a2 c.tgt ∧ IntsR b H p.a3 c.idn ∧ IntssR b H p.a4 c.comp p.r) ∧ (lvBlks (c.leaves p)).Nodup
theorem CatR.keep {b b' : Nat} {H H' : GHeap} {c : Cat} {p : CatP} (h : CatR b H c p) (k : Keep b' H H') (hb : b' ≤ b) : CatR b' H' c p := ⟨⟨h.1.1.keep k hb, h.1.2.1.keep k hb, h.1.2.2.1.keep k hb, h.1.2.2.2.keep k hb⟩, h.2⟩
theorem CatR.inn {b : Nat} {H : GHeap} {c : Cat} {p : CatP} (h : CatR b H c p) : c.In H p := ⟨h.1.1.ints, h.1.2.1.ints, h.1.2.2.1.ints, h.1.2.2.2.intss⟩
theorem CatW.of_r {b : Nat} {H0 H : GHeap} {c : Cat} {p : CatP} (h : CatR b H0 c p) (k : Keep b H0 H) : CatW b H0.next H c p := ⟨.of_r h.1.1 k, .of_r h.1.2.1 k, .of_r h.1.2.2.1 k, .of_r h.1.2.2.2 k⟩
def Cat.zero : Cat := ⟨0, [], [], [], []⟩
def CatP.zero : CatP := ⟨none, none, none, none, fun _ => none⟩
theorem CatR.zero (b : Nat) (H : GHeap) : CatR b H .zero .zero := ⟨⟨.inl ⟨rfl, rfl⟩, .inl ⟨rfl, rfl⟩, .inl ⟨rfl, rfl⟩, .nil _ _ _⟩, by simp [Cat.leaves, Cat.zero, CatP.zero, lvBlks, lvBlk, rowsL]⟩
theorem mem_lvBlk1 {a : Option Addr} {n x : Nat} (h : x ∈ lvBlk (a, n)) : ∃ o s, a = some ⟨x, o, s⟩ := by
  unfold lvBlk at h
  split at h
  · rename_i a' m e
    cases e
    rw [List.mem_singleton] at h
    subst h
    exact ⟨_, _, rfl⟩
  · cases h
theorem lvBlk_nodup (l : Leaf) : (lvBlk l).Nodup := by unfold lvBlk; split <;> simp
/-- A category whose lists lie in rows of their own. -/
theorem CatR.mk {b : Nat} {H : GHeap} {c : Cat} {p : CatP} (h1 : IntsR b H p.a1 c.src) (h2 : IntsR b H p.a2 c.tgt) (h3 : IntsR b H p.a3 c.idn) (h4 : IntssR b H p.a4 c.comp p.r) {g1 g2 g3 : Nat} (k1 : p.a1 = none ∨ p.a1 = some ⟨g1, 0, none⟩) (k2 : p.a2 = none ∨ p.a2 = some ⟨g2, 0, none⟩) (k3 : p.a3 = none ∨ p.a3 = some ⟨g3, 0, none⟩)
    (n12 : g1 ≠ g2) (n13 : g1 ≠ g3) (n23 : g2 ≠ g3) (n4 : ∀ i, i < c.comp.length → p.r i ≠ some ⟨g1, 0, none⟩ ∧ p.r i ≠ some ⟨g2, 0, none⟩ ∧ p.r i ≠ some ⟨g3, 0, none⟩) : CatR b H c p := by
  have one : ∀ {a : Option Addr} {g n x : Nat}, (a = none ∨ a = some ⟨g, 0, none⟩) → x ∈ lvBlk (a, n) → x = g := by
    intro a g n x hk hx
    obtain ⟨o, s, e⟩ := mem_lvBlk1 hx
    rcases hk with h | h
    · rw [h] at e; cases e
    · rw [h] at e; cases e; rfl
  have rows : ∀ x ∈ lvBlks (rowsL p.r c.comp c.comp.length), x ≠ g1 ∧ x ≠ g2 ∧ x ≠ g3 := by
    intro x hx
    obtain ⟨l, hl, hxl⟩ := List.mem_flatMap.1 hx
    obtain ⟨i, hi, rfl⟩ := List.mem_map.1 hl
    have hi' := List.mem_range.1 hi
    have hlen : 0 < (c.comp.getD i []).length := by
      unfold lvBlk at hxl
      split at hxl
      · rename_i e; have := congrArg Prod.snd e; simp only at this; omega
      · cases hxl
    obtain ⟨o, s, e⟩ := mem_lvBlk1 hxl
    have hrow : ∃ g, p.r i = some ⟨g, 0, none⟩ := by
      rcases h4.1 with ⟨h, _⟩ | ⟨g, e', cs, _, _, _, _, _, h6⟩
      · rw [h] at hi'; simp at hi'
      · obtain ⟨g', _, hg', _⟩ := h6 i hi'
        exact ⟨g', hg'⟩
    obtain ⟨g, hg⟩ := hrow
    rw [hg] at e
    cases e
    obtain ⟨q1, q2, q3⟩ := n4 i hi'
    rw [hg] at q1 q2 q3
    exact ⟨fun h => q1 (by rw [h]), fun h => q2 (by rw [h]), fun h => q3 (by rw [h])⟩
  refine ⟨⟨h1, h2, h3, h4⟩, ?_⟩
  unfold Cat.leaves
  rw [lvBlks_append, lvBlks_append, lvBlks_append]
  have s1 : lvBlks [(p.a1, c.src.length)] = lvBlk (p.a1, c.src.length) := by simp [lvBlks]
  have s2 : lvBlks [(p.a2, c.tgt.length)] = lvBlk (p.a2, c.tgt.length) := by simp [lvBlks]
  have s3 : lvBlks [(p.a3, c.idn.length)] = lvBlk (p.a3, c.idn.length) := by simp [lvBlks]
  rw [s1, s2, s3]
  refine List.nodup_append.2 ⟨lvBlk_nodup _, List.nodup_append.2 ⟨lvBlk_nodup _, List.nodup_append.2 ⟨lvBlk_nodup _, h4.2, ?_⟩, ?_⟩, ?_⟩
  · intro x hx y hy hxy
    have e1 := one k3 hx
    have e2 := rows y hy
    omega
  · intro x hx y hy hxy
    have e1 := one k2 hx
    rcases List.mem_append.1 hy with hy | hy
    · have e2 := one k3 hy; omega
    · have e2 := rows y hy; omega
  · intro x hx y hy hxy
    have e1 := one k1 hx
    rcases List.mem_append.1 hy with hy | hy
    · have e2 := one k2 hy; omega
    · rcases List.mem_append.1 hy with hy | hy
      · have e2 := one k3 hy; omega
      · have e2 := rows y hy; omega
end Go.GL
/- Quotients of categories: what a congruence is, said in two ways. No condition. -/
namespace Go.GL
/-- The first with k's label. -/
abbrev rep (xs : List Int) (k : Nat) : Nat := least (kerB xs) k
theorem rep_lt {xs : List Int} {k n : Nat} (h : k < n) : rep xs k < n := Nat.lt_of_le_of_lt (least_le _ _) h
theorem rep_lab (xs : List Int) (k : Nat) : xs.getD (rep xs k) 0 = xs.getD k 0 := by
  have := (least_mate (kerB_eqv xs (k + 1)) (i := k) (by omega)).1
  unfold kerB at this
  exact eq_of_beq this
theorem rep_eq {xs : List Int} {a b : Nat} : rep xs a = rep xs b ↔ xs.getD a 0 = xs.getD b 0 := by
  have := least_congr_mate (kerB_eqv xs (a + b + 1)) (i := a) (j := b) (by omega) (by omega)
  rw [this]; simp [kerB]
theorem idxL_rep {xs : List Int} {k : Nat} (h : k < xs.length) : idxL xs (xs.getD k 0) = (rep xs k : Int) := by
  obtain ⟨_, h2⟩ := least_mate (kerB_eqv xs xs.length) h
  exact idxL_some (rep_lt h) (rep_lab xs k) fun j hj hx => by have := h2 j hj; unfold kerB at this; rw [hx, beq_self_eq_true] at this; cases this
theorem foldK_mono {a b : Nat} : ∀ {qs : List (Nat × Nat)} {K : Nat → Nat → Bool}, K a b = true → (qs.foldl (fun K p => stepK K p.1 p.2) K) a b = true
  | [], _, h => h
  | _ :: qs, _, h => foldK_mono (qs := qs) (by show stepK _ _ _ a b = true; unfold stepK; rw [h]; rfl)
theorem joinK_refl (ps : List (Nat × Nat)) (a : Nat) : joinK ps a a = true := foldK_mono (by simp)
theorem joinK_more {ps qs : List (Nat × Nat)} {a b : Nat} (h : joinK ps a b = true) : joinK (ps ++ qs) a b = true := by
  unfold joinK at h ⊢
  rw [List.foldl_append]
  exact foldK_mono h
theorem joinK_mem {ps : List (Nat × Nat)} {p : Nat × Nat} (h : p ∈ ps) : joinK ps p.1 p.2 = true := by
  obtain ⟨l, r, rfl⟩ := List.append_of_mem h
  rw [show l ++ p :: r = (l ++ [p]) ++ r by simp]
  refine joinK_more ?_
  rw [joinK_snoc]
  unfold stepK
  rw [joinK_refl, joinK_refl]
  simp
theorem foldK_sub {E : Nat → Nat → Bool} {n : Nat} (e : Eqv E n) : ∀ {qs : List (Nat × Nat)} {K : Nat → Nat → Bool}, (∀ a b, a < n → b < n → K a b = true → E a b = true) → (∀ p ∈ qs, p.1 < n ∧ p.2 < n ∧ E p.1 p.2 = true) →
    ∀ a b, a < n → b < n → (qs.foldl (fun K p => stepK K p.1 p.2) K) a b = true → E a b = true
  | [], _, hK, _ => hK
  | p :: qs, K, hK, h => foldK_sub e (qs := qs) (fun a b ha hb hs => by
      obtain ⟨h1, h2, h3⟩ := h p (by simp)
      unfold stepK at hs
      simp only [Bool.or_eq_true, Bool.and_eq_true] at hs
      rcases hs with (hs | ⟨k1, k2⟩) | ⟨k1, k2⟩
      · exact hK a b ha hb hs
      · exact e.tr a p.1 b ha h1 hb (hK _ _ ha h1 k1) (e.tr p.1 p.2 b h1 h2 hb h3 (hK _ _ h2 hb k2))
      · exact e.tr a p.2 b ha h2 hb (hK _ _ ha h2 k1) (e.tr p.2 p.1 b h2 h1 hb (e.sy _ _ h1 h2 h3) (hK _ _ h1 hb k2))) fun q hq => h q (by simp [hq])
theorem joinK_sub {E : Nat → Nat → Bool} {n : Nat} (e : Eqv E n) {ps : List (Nat × Nat)} (h : ∀ p ∈ ps, p.1 < n ∧ p.2 < n ∧ E p.1 p.2 = true) {a b : Nat} (ha : a < n) (hb : b < n) (hk : joinK ps a b = true) : E a b = true :=
  foldK_sub e (fun a b ha _ hs => by obtain rfl : a = b := by simpa using hs
                                     exact e.rf a ha) h a b ha hb hk
theorem foldK_root {n : Nat} : ∀ {qs : List (Nat × Nat)} {K : Nat → Nat → Bool} {j : List Int}, RootK j K n → (∀ p ∈ qs, p.1 < n ∧ p.2 < n) → ∃ j', RootK j' (qs.foldl (fun K p => stepK K p.1 p.2) K) n
  | [], _, j, hj, _ => ⟨j, hj⟩
  | p :: qs, _, _, hj, h => foldK_root (qs := qs) (hj.join (h p (by simp)).1 (h p (by simp)).2) fun q hq => h q (by simp [hq])
theorem joinK_eqv {n : Nat} {ps : List (Nat × Nat)} (h : ∀ p ∈ ps, p.1 < n ∧ p.2 < n) : Eqv (joinK ps) n := by
  obtain ⟨j, _, _, hk⟩ := foldK_root (qs := ps) (RootK.start (length_numsL n) fun i hi => numsL_get hi) h
  refine ⟨fun a _ => joinK_refl ps a, fun a b ha hb hab => ?_, fun a b c ha hb hc h1 h2 => ?_⟩
  · have h1 := (hk a b ha hb).trans hab
    have := (hk b a hb ha)
    refine this.symm.trans ?_
    simp only [beq_iff_eq] at h1 ⊢
    exact h1.symm
  · have k1 := (hk a b ha hb).trans h1
    have k2 := (hk b c hb hc).trans h2
    refine (hk a c ha hc).symm.trans ?_
    simp only [beq_iff_eq] at k1 k2 ⊢
    exact k1.trans k2
/-- Each number with the first one of its label. -/
def pairsL (xs : List Int) (m : Nat) : List (List Int) := (List.range m).map fun i => [(rep xs i : Int), (i : Int)]
@[simp] theorem length_pairsL (xs : List Int) (m : Nat) : (pairsL xs m).length = m := by simp [pairsL]
/-- a; b. -/
abbrev Cat.tn (c : Cat) (a b : Nat) : Nat := ((c.comp.getD a []).getD b 0).toNat
theorem Cat.Shape.tn {c : Cat} (h : c.Shape) {a b : Nat} (ha : a < c.src.length) (hb : b < c.src.length) (e : c.tgt.getD a 0 = c.src.getD b 0) :
    c.tn a b < c.src.length ∧ c.src.getD (c.tn a b) 0 = c.src.getD a 0 ∧ c.tgt.getD (c.tn a b) 0 = c.tgt.getD b 0 ∧ (c.comp.getD a []).getD b 0 = (c.tn a b : Int) := by
  have h1 := (Cat.Cell.pos e).1 (h.cell a (by have := h.cl; omega) b hb)
  obtain ⟨h2, h3, h4, h5⟩ := h1
  exact ⟨by unfold Cat.tn; omega, h4, h5, by unfold Cat.tn; omega⟩
/-- Labels of one class lie side by side. -/
def Cat.ParOk (c : Cat) (xs : List Int) : Prop := ∀ k, k < c.src.length → c.src.getD (rep xs k) 0 = c.src.getD k 0 ∧ c.tgt.getD (rep xs k) 0 = c.tgt.getD k 0
/-- The class of a composite is told by the classes of its parts. -/
def Cat.CmpOk (c : Cat) (xs : List Int) : Prop := ∀ i, i < c.src.length → ∀ j, j < c.src.length → c.tgt.getD i 0 = c.src.getD j 0 → xs.getD (c.tn i j) 0 = xs.getD (c.tn (rep xs i) (rep xs j)) 0
/-- A congruence. -/
structure Cat.Cong (c : Cat) (xs : List Int) : Prop where
  len : xs.length = c.src.length
  nor : clsL (kerB xs) xs.length = xs
  par : c.ParOk xs
  cmp : c.CmpOk xs

/-! ### The list of all that must be joined. -/
def Cat.quOk (c : Cat) (xs : List Int) (t : Nat × Nat × Nat) : Bool := decide (c.tgt.getD t.2.1 0 = c.src.getD (rep xs t.1) 0) && decide (c.tgt.getD (rep xs t.1) 0 = c.src.getD t.2.2 0)
def Cat.quRow (c : Cat) (xs : List Int) (t : Nat × Nat × Nat) : List Int := [(c.tn (c.tn t.2.1 (rep xs t.1)) t.2.2 : Int), (c.tn (c.tn t.2.1 t.1) t.2.2 : Int)]
def quT (n k i j : Nat) : List (Nat × Nat × Nat) := nest3 (fun a b d => (a, b, d)) (fun _ => n) (fun _ _ => n) k i j
def Cat.quL (c : Cat) (xs : List Int) (k i j : Nat) : List (List Int) := pairsL xs c.src.length ++ ((quT c.src.length k i j).filter (c.quOk xs)).map (c.quRow xs)
theorem Cat.quL_zero (c : Cat) (xs : List Int) : c.quL xs 0 0 0 = pairsL xs c.src.length := by simp [Cat.quL, quT, nest3_zero]
@[simp] theorem Cat.quL_len0 (c : Cat) (xs : List Int) : (c.quL xs 0 0 0).length = c.src.length := by rw [Cat.quL_zero, length_pairsL]
/-! ### The program's test. -/
/-- The first k labels are numbered in order. -/
def NorK (xs : List Int) (k : Nat) : Prop := ∀ i, i < k → xs.getD i 0 = clsAt (kerB xs) i
theorem NorK.zero (xs : List Int) : NorK xs 0 := fun i hi => by omega
theorem reps_lt_of {xs : List Int} {j k : Nat} (hj : least (kerB xs) j = j) (h : j < k) : reps (kerB xs) j < reps (kerB xs) k := by
  have h5 := reps_mono (K := kerB xs) (a := j + 1) h
  rw [reps_succ, if_pos hj] at h5
  omega
theorem NorK.old {xs : List Int} {k : Nat} (h : NorK xs k) (hl : least (kerB xs) k < k) : xs.getD k 0 = clsAt (kerB xs) k ∧ xs.getD k 0 < (reps (kerB xs) k : Int) := by
  have h1 := rep_lab xs k
  have h2 := h _ hl
  have hi := least_idem (kerB_eqv xs (k + 1)) (i := k) (by omega)
  have h3 := reps_lt_of (xs := xs) hi hl
  unfold clsAt at h2 ⊢
  rw [hi] at h2
  unfold rep at h1
  omega
theorem NorK.lo {xs : List Int} {k : Nat} (h : NorK xs k) (h0 : 0 ≤ xs.getD k 0) (h1 : xs.getD k 0 < (reps (kerB xs) k : Int)) : NorK xs (k + 1) ∧ reps (kerB xs) (k + 1) = reps (kerB xs) k := by
  obtain ⟨j, hj, hjj, hr, _⟩ := seenL_at (xs := xs) (i := k) (m := (xs.getD k 0).toNat) (by rw [length_seenL]; omega)
  have hx : xs.getD j 0 = xs.getD k 0 := by
    rw [h j hj]; unfold clsAt; rw [hjj]; omega
  have hlt : least (kerB xs) k < k := by
    have e : rep xs j = rep xs k := rep_eq.2 hx
    unfold rep at e
    omega
  refine ⟨fun i hi => ?_, by rw [reps_succ, if_neg (by omega)]; rfl⟩
  by_cases e : i < k
  · exact h i e
  · obtain rfl : i = k := by omega
    exact (h.old hlt).1
theorem NorK.hi {xs : List Int} {k : Nat} (h : NorK xs k) (h1 : xs.getD k 0 = (reps (kerB xs) k : Int)) : NorK xs (k + 1) ∧ reps (kerB xs) (k + 1) = reps (kerB xs) k + 1 := by
  have hk : least (kerB xs) k = k := by
    have := least_le (kerB xs) k
    refine Classical.byContradiction fun hne => ?_
    have := (h.old (by omega)).2
    omega
  refine ⟨fun i hi => ?_, by rw [reps_succ, if_pos hk]⟩
  by_cases e : i < k
  · exact h i e
  · obtain rfl : i = k := by omega
    unfold clsAt; rw [hk]; exact h1
end Go.GL
/- Quotients of categories: the quotient itself. No condition. -/
namespace Go.GL
/-- The first arrows of the classes among the first n. -/
def repL (xs : List Int) (n : Nat) : List Nat := (List.range n).filter fun i => rep xs i == i
/-- The quotient. -/
def Cat.quoX (c : Cat) (xs : List Int) (i j : Nat) : Int := if 0 ≤ (c.comp.getD i []).getD j 0 then xs.getD ((c.comp.getD i []).getD j 0).toNat 0 else (c.comp.getD i []).getD j 0
def Cat.quo (c : Cat) (xs : List Int) : Cat where
  obj := c.obj
  src := (repL xs xs.length).map fun i => c.src.getD i 0
  tgt := (repL xs xs.length).map fun i => c.tgt.getD i 0
  idn := c.idn.map fun a => xs.getD a.toNat 0
  comp := (repL xs xs.length).map fun i => (repL xs xs.length).map fun j => c.quoX xs i j

/-! ### Arrays that are filled from behind: the first one of each label stays. -/
def fromL (xs : List Int) (n e : Nat) (v : Int) : Option Nat := (List.range n).find? fun i => decide (e ≤ i) && xs.getD i 0 == v
def backL (xs : List Int) (f : Nat → Int) (m n e : Nat) : List Int := (List.range m).map fun (v : Nat) => match fromL xs n e v with | some i => f i | none => 0
@[simp] theorem length_backL (xs : List Int) (f : Nat → Int) (m n e : Nat) : (backL xs f m n e).length = m := by simp [backL]
end Go.GL
/- Rows of their own beside other blocks; tables that are filled row by row. No condition. -/
namespace Go.GL
/-- None of the first n rows lies in one of these blocks. -/
def Off (r : Nat → Option Addr) (n : Nat) (gs : List Nat) : Prop := ∀ i, i < n → ∀ g, r i = some ⟨g, 0, none⟩ → out gs g
theorem Off.nil (r : Nat → Option Addr) (n : Nat) : Off r n [] := fun _ _ _ _ => trivial
theorem Off.cons {r : Nat → Option Addr} {n g : Nat} {gs : List Nat} (h : ∀ i, i < n → r i ≠ some ⟨g, 0, none⟩) (h' : Off r n gs) : Off r n (g :: gs) := fun i hi k hk => ⟨fun e => h i hi (by rw [hk, e]), h' i hi k hk⟩
theorem Off.head {r : Nat → Option Addr} {n g : Nat} {gs : List Nat} (h : Off r n (g :: gs)) : ∀ i, i < n → r i ≠ some ⟨g, 0, none⟩ := fun i hi e => (h i hi g e).1 rfl
theorem Off.zero (r : Nat → Option Addr) (gs : List Nat) : Off r 0 gs := fun _ hi => by omega
theorem OwnRows.st {b k : Nat} {bs : List Nat} {H H' : GHeap} {e : TypeId} {r : Nat → Option Addr} {X : Nat → List Int} (h : OwnRows b H e r X k) (s : St bs H H') (ho : Off r k bs) : OwnRows b H' e r X k := ⟨fun i hi => by
  obtain ⟨x, h1, h2, h3⟩ := h.row i hi
  exact ⟨x, h1, h2, s.same x _ (ho i hi x h1) h3⟩, h.inj⟩
theorem OwnL.st {b : Nat} {bs : List Nat} {H H' : GHeap} {e : TypeId} {r : Nat → Option Addr} {xss : List (List Int)} (h : OwnL b H e r xss) (s : St bs H H') (ho : Off r xss.length bs) : OwnL b H' e r xss := OwnRows.st h s ho
theorem OwnL.ne {b g : Nat} {H : GHeap} {e : TypeId} {r : Nat → Option Addr} {xss : List (List Int)} (h : OwnL b H e r xss) (hg : H.next ≤ g) : ∀ i, i < xss.length → r i ≠ some ⟨g, 0, none⟩ := fun i hi e => by
  obtain ⟨x, h1, _, h3⟩ := h.row i hi
  rw [h1] at e
  cases e
  have := GHeap.lt_of_get h3
  omega
/-- A block of another kind. -/
theorem OwnL.neT {b g : Nat} {H : GHeap} {e e' : TypeId} {cs : List Value} {r : Nat → Option Addr} {xss : List (List Int)} (h : OwnL b H e r xss) (hg : H.get g = some (.row cs e' true)) (hne : (e != e') = true) : ∀ i, i < xss.length → r i ≠ some ⟨g, 0, none⟩ := fun i hi ei => by
  obtain ⟨x, h1, _, h3⟩ := h.row i hi
  rw [h1] at ei
  cases ei
  rw [hg] at h3
  cases h3
  simp at hne
theorem ne_snoc {g k : Nat} {r : Nat → Option Addr} {xss : List (List Int)} {x : List Int} (h : ∀ i, i < xss.length → r i ≠ some ⟨g, 0, none⟩) (hk : k ≠ g) : ∀ i, i < (xss ++ [x]).length → upd r xss.length (some ⟨k, 0, none⟩) i ≠ some ⟨g, 0, none⟩ := fun i hi => by
  rw [List.length_append, List.length_singleton] at hi
  by_cases e : i = xss.length
  · subst e
    rw [upd_eq]
    intro e
    cases e
    exact hk rfl
  · rw [upd_ne e]
    exact h i (by omega)
/-- One row more, in a block that none of the rows lies in. -/
theorem OwnL.snoc2 {b g : Nat} {H : GHeap} {e : TypeId} {r : Nat → Option Addr} {xss : List (List Int)} {x : List Int} (h : OwnL b H e r xss) (hg : H.get g = some (.row (ints x) e true)) (hne : ∀ i, i < xss.length → r i ≠ some ⟨g, 0, none⟩) (hb : b ≤ g) :
    OwnL b H e (upd r xss.length (some ⟨g, 0, none⟩)) (xss ++ [x]) := by
  have key : ∀ i, i < xss.length + 1 → (i = xss.length ∧ upd r xss.length (some ⟨g, 0, none⟩) i = some ⟨g, 0, none⟩ ∧ (xss ++ [x]).getD i [] = x) ∨ (i < xss.length ∧ upd r xss.length (some ⟨g, 0, none⟩) i = r i ∧ (xss ++ [x]).getD i [] = xss.getD i []) := by
    intro i hi
    by_cases e : i = xss.length
    · subst e
      exact .inl ⟨rfl, upd_eq _ _ _, by rw [getD_snoc, if_neg (by omega), if_pos rfl]⟩
    · exact .inr ⟨by omega, upd_ne e, by rw [getD_snoc, if_pos (by omega)]⟩
  unfold OwnL
  rw [List.length_append, List.length_singleton]
  refine ⟨fun i hi => ?_, fun i j hi hj hij => ?_⟩
  · rcases key i hi with ⟨_, h2, h3⟩ | ⟨h1, h2, h3⟩
    · exact ⟨g, h2, hb, by rw [h3]; exact hg⟩
    · obtain ⟨y, y1, y2, y3⟩ := h.row i h1
      exact ⟨y, by rw [h2]; exact y1, y2, by rw [h3]; exact y3⟩
  · rcases key i hi with ⟨h1, h2, _⟩ | ⟨h1, h2, _⟩
    · rcases key j hj with ⟨k1, k2, _⟩ | ⟨k1, k2, _⟩
      · omega
      · rw [h2, k2] at hij
        exact absurd hij.symm (hne j k1)
    · rcases key j hj with ⟨k1, k2, _⟩ | ⟨k1, k2, _⟩
      · rw [h2, k2] at hij
        exact absurd hij (hne i h1)
      · rw [h2, k2] at hij
        exact h.inj i j h1 k1 hij
theorem take_map_snoc {α β : Type} {f : α → β} {l : List α} {i : Nat} {d : α} (h : i < l.length) : (l.take (i + 1)).map f = (l.take i).map f ++ [f (l.getD i d)] := by
  rw [List.take_add_one, List.getElem?_eq_getElem h, List.map_append, List.getD_eq_getElem?_getD, List.getElem?_eq_getElem h]; rfl

/-! ### Tables -/
/-- The first k of n lists are there. -/
def fillS (r : Nat → Option Addr) (n k : Nat) : List Value := (List.range n).map fun i => if i < k then .slice (r i) n n else .slice none 0 0
@[simp] theorem length_fillS (r : Nat → Option Addr) (n k : Nat) : (fillS r n k).length = n := by simp [fillS]
/-- A list filled from the front. -/
def fillI (c : Nat → Int) (n k : Nat) : List Int := (List.range n).map fun i => if i < k then c i else 0
@[simp] theorem length_fillI (c : Nat → Int) (n k : Nat) : (fillI c n k).length = n := by simp [fillI]
/-- A table of composites: -1 where the ends do not meet. -/
def tabC (src tgt : List Int) (X : Nat → Nat → Int) (i j : Nat) : Int := if tgt.getD i 0 = src.getD j 0 then X i j else -1
def tabR (src tgt : List Int) (X : Nat → Nat → Int) (n i : Nat) : List Int := (List.range n).map (tabC src tgt X i)
@[simp] theorem length_tabR (src tgt : List Int) (X : Nat → Nat → Int) (n i : Nat) : (tabR src tgt X n i).length = n := by simp [tabR]
end Go.GL
/- Quotients of categories: the first arrows as numbers, and the result. No condition. -/
namespace Go.GL
def repI (xs : List Int) (n : Nat) : List Int := (repL xs n).map fun (i : Nat) => (i : Int)
@[simp] theorem length_repI (xs : List Int) (n : Nat) : (repI xs n).length = (repL xs n).length := by simp [repI]
theorem NorK.lt {xs : List Int} {n k : Nat} (h : NorK xs n) (hk : k < n) : xs.getD k 0 < (reps (kerB xs) n : Int) := by
  rw [h k hk]
  unfold clsAt
  have := reps_lt_of (least_idem (kerB_eqv xs n) hk) (Nat.lt_of_le_of_lt (least_le (kerB xs) k) hk)
  omega
def NewCatR (H : GHeap) (c : Cat) (v : Value) (H' : GHeap) : Prop := H.Le H' ∧ ∃ p, v = .agg (c.cells p).toArray ∧ CatR H.next H' c p
end Go.GL
/- Rows of truth values, made and written in place; parts that connectives make. No condition. -/
namespace Go.GL
def tabB (n : Nat) (p : Nat → Bool) : List Bool := (List.range n).map p
@[simp] theorem length_tabB (n : Nat) (p : Nat → Bool) : (tabB n p).length = n := by simp [tabB]
theorem tabB_get {n i : Nat} {p : Nat → Bool} (h : i < n) : (tabB n p).getD i false = p i := by simp [tabB, List.getD_eq_getElem?_getD, h]
theorem tabB_congr {n : Nat} {p q : Nat → Bool} (h : ∀ i, i < n → p i = q i) : tabB n p = tabB n q := List.map_congr_left fun i hi => h i (List.mem_range.1 hi)
theorem tabB_set (n : Nat) (p : Nat → Bool) (i : Nat) (v : Bool) : (tabB n p).set i v = tabB n (fun j => bif j == i then v else p j) := by
  apply List.ext_getElem (by simp)
  intro j h1 h2
  simp only [length_tabB] at h2
  rw [List.getElem_set]
  simp only [tabB, List.getElem_map, List.getElem_range]
  by_cases e : i = j
  · subst e; simp
  · rw [if_neg e]
    have : (j == i) = false := by simp; omega
    rw [this]; rfl
theorem tabB_false (n : Nat) : List.replicate n false = tabB n (fun _ => false) := by
  apply List.ext_getElem (by simp)
  intro j h1 h2
  simp [tabB]
/-- The first e numbers of a list, as marks. -/
def markP (xs : List Int) (e : Nat) : Nat → Bool := fun d => (xs.take e).contains (d : Int)
theorem markP_zero (xs : List Int) : markP xs 0 = fun _ => false := by funext d; simp [markP]
theorem markP_all (xs : List Int) : markP xs xs.length = fun d : Nat => xs.contains (d : Int) := by funext d; simp [markP]
theorem markP_succ {n e : Nat} {xs : List Int} (h : e < xs.length) (h0 : 0 ≤ xs.getD e 0) : tabB n (markP xs (e + 1)) = (tabB n (markP xs e)).set (xs.getD e 0).toNat true := by
  rw [tabB_set]
  refine tabB_congr fun d _ => ?_
  have e1 : xs[e]? = some (xs.getD e 0) := by simp [List.getD_eq_getElem?_getD, h]
  simp only [markP, List.take_add_one, e1, Option.toList_some, List.contains_append]
  have e2 : ([xs.getD e 0].contains (d : Int)) = (d == (xs.getD e 0).toNat) := by
    rw [Bool.eq_iff_iff]
    simp only [List.contains_cons, List.contains_nil, Bool.or_false, beq_iff_eq]
    omega
  rw [e2]
  cases (d == (xs.getD e 0).toNat) <;> simp

/-- Slices of whole rows. -/
def slsN (r : Nat → Nat) (L : Nat → Nat) (k : Nat) : List Value := (List.range k).map fun i => .slice (some ⟨r i, 0, none⟩) (L i) (L i)
@[simp] theorem length_slsN (r : Nat → Nat) (L : Nat → Nat) (k : Nat) : (slsN r L k).length = k := by simp [slsN]
def updN (r : Nat → Nat) (k g : Nat) : Nat → Nat := fun i => if i = k then g else r i
theorem updN_eq (r : Nat → Nat) (k g : Nat) : updN r k g k = g := by simp [updN]
theorem updN_ne {r : Nat → Nat} {k i g : Nat} (h : i ≠ k) : updN r k g i = r i := by simp [updN, h]
/-- Rows of elements of type e live on. -/
def LastsV (e : TypeId) (H H' : GHeap) : Prop := ∀ x cs, H.get x = some (.row cs e true) → H'.get x = some (.row cs e true)
theorem LastsV.trans {e : TypeId} {A B C : GHeap} (h : LastsV e A B) (h' : LastsV e B C) : LastsV e A C := fun x xs hx => h' x xs (h x xs hx)
theorem LastsV.of_le {e : TypeId} {H H' : GHeap} (h : H.Le H') : LastsV e H H' := fun x cs hx => h.2 x _ hx
/-- Rows of truth values, no two alike; L: their lengths, M: what they hold. -/
structure OwnB (b : Nat) (H : GHeap) (e : TypeId) (r : Nat → Nat) (L : Nat → Nat) (M : Nat → Nat → Bool) (k : Nat) : Prop where
  row : ∀ i, i < k → b ≤ r i ∧ H.get (r i) = some (.row (bools (tabB (L i) (M i))) e true)
  inj : ∀ i j, i < k → j < k → r i = r j → i = j
theorem OwnB.zero (b : Nat) (H : GHeap) (e : TypeId) (r : Nat → Nat) (L : Nat → Nat) (M : Nat → Nat → Bool) : OwnB b H e r L M 0 := ⟨fun i hi => by omega, fun i j hi => by omega⟩
theorem OwnB.keep {b k : Nat} {H H' : GHeap} {e : TypeId} {r : Nat → Nat} {L : Nat → Nat} {M : Nat → Nat → Bool} (h : OwnB b H e r L M k) (s : LastsV e H H') : OwnB b H' e r L M k := ⟨fun i hi => ⟨(h.row i hi).1, s _ _ (h.row i hi).2⟩, h.inj⟩
theorem OwnB.succ {b g k : Nat} {H H' : GHeap} {e : TypeId} {r : Nat → Nat} {L : Nat → Nat} {M : Nat → Nat → Bool} (h : OwnB b H e r L M k) (s : LastsV e H H')
    (hg : H'.get g = some (.row (bools (tabB (L k) (M k))) e true)) (hn : H.next ≤ g) (hb : b ≤ g) : OwnB b H' e (updN r k g) L M (k + 1) := by
  have lt : ∀ i, i < k → r i < g := fun i hi => Nat.lt_of_lt_of_le (GHeap.lt_of_get (h.row i hi).2) hn
  refine ⟨fun i hi => ?_, fun i j hi hj hij => ?_⟩
  · by_cases ek : i = k
    · subst ek; rw [updN_eq]; exact ⟨hb, hg⟩
    · rw [updN_ne ek]; exact ⟨(h.row i (by omega)).1, s _ _ (h.row i (by omega)).2⟩
  · by_cases ei : i = k
    · by_cases ej : j = k
      · omega
      · subst ei
        rw [updN_eq, updN_ne ej] at hij
        have := lt j (by omega)
        omega
    · by_cases ej : j = k
      · subst ej
        rw [updN_eq, updN_ne ei] at hij
        have := lt i (by omega)
        omega
      · rw [updN_ne ei, updN_ne ej] at hij
        exact h.inj i j (by omega) (by omega) hij
/-- A row is written to. -/
theorem OwnB.put {b k i : Nat} {H H' : GHeap} {e : TypeId} {r : Nat → Nat} {L : Nat → Nat} {M M' : Nat → Nat → Bool} (h : OwnB b H e r L M k) (hi : i < k) (s : St [r i] H H') (hg : H'.get (r i) = some (.row (bools (tabB (L i) (M' i))) e true))
    (hM : ∀ j, j < k → j ≠ i → ∀ d, d < L j → M' j d = M j d) : OwnB b H' e r L M' k := ⟨fun j hj => by
  by_cases ej : j = i
  · subst ej; exact ⟨(h.row j hj).1, hg⟩
  · refine ⟨(h.row j hj).1, ?_⟩
    rw [tabB_congr (hM j hj ej)]
    exact s.same _ _ ⟨fun er => ej (h.inj j i hj hi er), trivial⟩ (h.row j hj).2, h.inj⟩
theorem OwnB.congr {b k : Nat} {H : GHeap} {e : TypeId} {r : Nat → Nat} {L : Nat → Nat} {M M' : Nat → Nat → Bool} (h : OwnB b H e r L M k) (hM : ∀ j, j < k → ∀ d, d < L j → M' j d = M j d) : OwnB b H e r L M' k :=
  ⟨fun j hj => ⟨(h.row j hj).1, by rw [tabB_congr (hM j hj)]; exact (h.row j hj).2⟩, h.inj⟩
/-- A list of lists of truth values. -/
structure BMat (b : Nat) (H : GHeap) (g : Nat) (e1 e2 : TypeId) (r : Nat → Nat) (L : Nat → Nat) (M : Nat → Nat → Bool) (n : Nat) : Prop where
  hd : H.get g = some (.row (slsN r L n) e1 true)
  gb : b ≤ g
  own : OwnB b H e2 r L M n
theorem BMat.keep {b b' n g : Nat} {H H' : GHeap} {e1 e2 : TypeId} {r : Nat → Nat} {L : Nat → Nat} {M : Nat → Nat → Bool} (h : BMat b H g e1 e2 r L M n) (k : Keep b' H H') (hb : b' ≤ b) : BMat b' H' g e1 e2 r L M n :=
  ⟨k _ _ (by have := h.gb; omega) h.hd, by have := h.gb; omega, fun i hi => ⟨by have := (h.own.row i hi).1; omega, k _ _ (by have := (h.own.row i hi).1; omega) (h.own.row i hi).2⟩, h.own.inj⟩
theorem BMat.mono {b n g : Nat} {H H' : GHeap} {e1 e2 : TypeId} {r : Nat → Nat} {L : Nat → Nat} {M : Nat → Nat → Bool} (h : BMat b H g e1 e2 r L M n) (hle : H.Le H') : BMat b H' g e1 e2 r L M n :=
  ⟨hle.2 _ _ h.hd, h.gb, fun i hi => ⟨(h.own.row i hi).1, hle.2 _ _ (h.own.row i hi).2⟩, h.own.inj⟩
theorem BMat.congr {b n g : Nat} {H : GHeap} {e1 e2 : TypeId} {r : Nat → Nat} {L : Nat → Nat} {M M' : Nat → Nat → Bool} (h : BMat b H g e1 e2 r L M n) (hM : ∀ j, j < n → ∀ d, d < L j → M' j d = M j d) : BMat b H g e1 e2 r L M' n := ⟨h.hd, h.gb, h.own.congr hM⟩
theorem BMat.row {b n g i : Nat} {H : GHeap} {e1 e2 : TypeId} {r : Nat → Nat} {L : Nat → Nat} {M : Nat → Nat → Bool} (h : BMat b H g e1 e2 r L M n) (hi : i < n) : Bools H (some ⟨r i, 0, none⟩) (tabB (L i) (M i)) := Bools.of_get (h.own.row i hi).2
/-- Two matrices, the second made behind the first: no row of the one is one of the other. -/
theorem BMat.lt {b n g i : Nat} {H : GHeap} {e1 e2 : TypeId} {r : Nat → Nat} {L : Nat → Nat} {M : Nat → Nat → Bool} (h : BMat b H g e1 e2 r L M n) : g < H.next ∧ (i < n → r i < H.next) := ⟨GHeap.lt_of_get h.hd, fun hi => GHeap.lt_of_get (h.own.row i hi).2⟩
theorem BMat.sl {b n g : Nat} {H : GHeap} {e1 e2 : TypeId} {r : Nat → Nat} {L : Nat → Nat} {M : Nat → Nat → Bool} (h : BMat b H g e1 e2 r L M n) : SlA H (some ⟨g, 0, none⟩) n (fun i => .slice (some ⟨r i, 0, none⟩) (L i) (L i)) :=
  .inr ⟨g, 0, rfl, fun i hi => by rw [GHeap.cell_of h.hd, Nat.zero_add]; simp [slsN, hi]⟩
theorem BMat.put {b n g i : Nat} {H H' : GHeap} {e1 e2 : TypeId} {r : Nat → Nat} {L : Nat → Nat} {M M' : Nat → Nat → Bool} (h : BMat b H g e1 e2 r L M n) (hi : i < n) (s : St [r i] H H') (hg : H'.get (r i) = some (.row (bools (tabB (L i) (M' i))) e2 true))
    (hM : ∀ j, j < n → j ≠ i → ∀ d, d < L j → M' j d = M j d) (hne : (e1 != e2) = true) : BMat b H' g e1 e2 r L M' n := ⟨by
    simp only [bne_iff_ne, ne_eq] at hne
    refine s.same _ _ ⟨fun ex => ?_, trivial⟩ h.hd
    have h1 := h.hd
    rw [ex, (h.own.row i hi).2] at h1
    injection h1 with h1
    injection h1 with _ h1 _
    exact hne h1.symm, h.gb, h.own.put hi s hg hM⟩
/-- Another matrix of rows of its own stays when a row of this one is written to. -/
theorem BMat.st {b n g k : Nat} {H H' : GHeap} {e1 e2 : TypeId} {r : Nat → Nat} {L : Nat → Nat} {M : Nat → Nat → Bool} (h : BMat b H g e1 e2 r L M n) (s : St [k] H H') (hlt : k < b) : BMat b H' g e1 e2 r L M n :=
  ⟨s.same _ _ ⟨by have := h.gb; omega, trivial⟩ h.hd, h.gb, fun i hi => ⟨(h.own.row i hi).1, s.same _ _ ⟨by have := (h.own.row i hi).1; omega, trivial⟩ (h.own.row i hi).2⟩, h.own.inj⟩
end Go.GL
/- Isomorphism classes of objects, skeletons, parts of categories: plain laws. No condition. -/
namespace Go.GL
theorem Cat.inv_mate {c : Cat} {f : Nat} (hS : c.Shape) (hf : f < c.src.length) (h : 0 ≤ c.inv f) : c.Alike (c.tgt.getD f 0) (c.src.getD f 0) := by
  unfold Cat.inv at h
  rw [Int.toNat_natCast] at h
  obtain ⟨g, hg, hb⟩ := (firstIn_ge (fun g hg => by obtain ⟨f, _, _, _, rfl⟩ := Cat.mem_hom.1 hg; omega)).1 h
  refine ⟨g, hg, ?_⟩
  obtain ⟨k, k1, k2, k3, rfl⟩ := Cat.mem_hom.1 hg
  unfold Cat.inv
  rw [Int.toNat_natCast, k2, k3]
  refine (firstIn_ge (fun g hg => by obtain ⟨f, _, _, _, rfl⟩ := Cat.mem_hom.1 hg; omega)).2 ⟨f, Cat.mem_hom.2 ⟨f, hf, rfl, rfl, rfl⟩, ?_⟩
  simp only [Cat.invB, sps, Int.toNat_natCast] at hb ⊢
  rw [k2, k3]
  exact ⟨hb.2, hb.1⟩
theorem Cat.Alike.symm {c : Cat} {x y : Int} (hS : c.Shape) (h : c.Alike x y) : c.Alike y x := by
  obtain ⟨g, hg, hi⟩ := h
  obtain ⟨k, k1, k2, k3, rfl⟩ := Cat.mem_hom.1 hg
  have := Cat.inv_mate hS k1 hi
  rwa [k2, k3] at this
noncomputable def Cat.skRow (c : Cat) (x t : Nat) : List (List Int) := ((List.range t).filter fun (y : Nat) => B (c.Alike (x : Int) (y : Int))).map fun (y : Nat) => [(y : Int), (x : Int)]
noncomputable def Cat.skS (c : Cat) (k t : Nat) : List (List Int) := ((List.range k).flatMap fun x => c.skRow x x) ++ c.skRow k t
theorem Cat.skS_T {c : Cat} {k t : Nat} (h : c.Alike (k : Int) (t : Int)) : c.skS k (t + 1) = c.skS k t ++ [[(t : Int), (k : Int)]] := by
  unfold Cat.skS
  rw [List.append_assoc]
  congr 1
  unfold Cat.skRow
  simp [List.range_succ, List.filter_append, B_true h]
theorem Cat.skS_F {c : Cat} {k t : Nat} (h : ¬ c.Alike (k : Int) (t : Int)) : c.skS k (t + 1) = c.skS k t := by
  unfold Cat.skS
  congr 1
  unfold Cat.skRow
  rw [List.range_succ, List.filter_append, List.filter_cons_of_neg (by rw [B_false h]; simp), List.filter_nil, List.append_nil]
theorem Cat.skS_next {c : Cat} {k : Nat} : c.skS (k + 1) 0 = c.skS k k := by
  unfold Cat.skS
  rw [List.range_succ, List.flatMap_append]
  simp [Cat.skRow]
theorem Cat.skS_zero (c : Cat) : c.skS 0 0 = [] := by simp [Cat.skS, Cat.skRow]
theorem Cat.skRow_len (c : Cat) (x t : Nat) : (c.skRow x t).length ≤ t := by
  unfold Cat.skRow
  rw [List.length_map]
  refine Nat.le_trans (List.length_filter_le _ _) (by rw [List.length_range]; exact Nat.le_refl _)
theorem Cat.skS_len (c : Cat) {N : Nat} : ∀ {k t : Nat}, k ≤ N → t ≤ N → (c.skS k t).length ≤ k * N + t
  | 0, t, _, ht => by have := c.skRow_len 0 t; simp [Cat.skS]; omega
  | k + 1, t, hk, ht => by
    have h1 := c.skS_len (N := N) (k := k) (t := k) (by omega) (by omega)
    have h2 := c.skRow_len (k + 1) t
    rw [← Cat.skS_next] at h1
    have h3 : (c.skS (k + 1) t).length = (c.skS (k + 1) 0).length + (c.skRow (k + 1) t).length := by simp [Cat.skS, Cat.skRow]
    rw [h3, Nat.succ_mul]; omega
theorem Cat.mem_skS {c : Cat} {k : Nat} {p : List Int} : p ∈ c.skS k 0 ↔ ∃ x y : Nat, x < k ∧ y < x ∧ c.Alike (x : Int) (y : Int) ∧ p = [(y : Int), (x : Int)] := by
  unfold Cat.skS Cat.skRow
  simp only [List.range_zero, List.filter_nil, List.map_nil, List.append_nil, List.mem_flatMap, List.mem_map, List.mem_filter, List.mem_range, B_iff]
  constructor
  · rintro ⟨x, hx, y, ⟨hy, ha⟩, rfl⟩
    exact ⟨x, y, hx, hy, ha, rfl⟩
  · rintro ⟨x, y, hx, hy, ha, rfl⟩
    exact ⟨x, hx, y, ⟨hy, ha⟩, rfl⟩
def Cat.skI (c : Cat) (m : Nat) : List (Nat × Nat) := ((List.range m).filter fun (f : Nat) => decide (0 ≤ c.inv (f : Int))).map fun (f : Nat) => ((c.src.getD f 0).toNat, (c.tgt.getD f 0).toNat)
theorem Cat.skI_T {c : Cat} {m : Nat} (h : 0 ≤ c.inv (m : Int)) : c.skI (m + 1) = c.skI m ++ [((c.src.getD m 0).toNat, (c.tgt.getD m 0).toNat)] := by
  unfold Cat.skI
  simp [List.range_succ, List.filter_append, h]
theorem Cat.skI_F {c : Cat} {m : Nat} (h : ¬ 0 ≤ c.inv (m : Int)) : c.skI (m + 1) = c.skI m := by
  unfold Cat.skI
  rw [List.range_succ, List.filter_append, List.filter_cons_of_neg (by rw [decide_eq_false h]; simp), List.filter_nil, List.append_nil]
/-- Which objects are isomorphic. -/
def Cat.skK (c : Cat) : Nat → Nat → Bool := joinK (c.skI c.src.length)
def Cat.skP (c : Cat) : List Int := joinL c.obj.toNat (c.skI c.src.length)
theorem Cat.skI_mem {c : Cat} {p : Nat × Nat} : p ∈ c.skI c.src.length ↔ ∃ f : Nat, f < c.src.length ∧ 0 ≤ c.inv (f : Int) ∧ p = ((c.src.getD f 0).toNat, (c.tgt.getD f 0).toNat) := by
  unfold Cat.skI
  simp only [List.mem_map, List.mem_filter, List.mem_range, decide_eq_true_eq]
  constructor
  · rintro ⟨f, ⟨h1, h2⟩, rfl⟩; exact ⟨f, h1, h2, rfl⟩
  · rintro ⟨f, h1, h2, rfl⟩; exact ⟨f, ⟨h1, h2⟩, rfl⟩
theorem Cat.skI_lt {c : Cat} (hS : c.Shape) : ∀ p ∈ c.skI c.src.length, p.1 < c.obj.toNat ∧ p.2 < c.obj.toNat := fun p hp => by
  obtain ⟨f, h1, _, rfl⟩ := Cat.skI_mem.1 hp
  have := hS.src f h1
  have := hS.tgt f (by have := hS.tl; omega)
  constructor
  · show (c.src.getD f 0).toNat < _; omega
  · show (c.tgt.getD f 0).toNat < _; omega
theorem Cat.skK_eqv {c : Cat} (hS : c.Shape) : Eqv c.skK c.obj.toNat := joinK_eqv (Cat.skI_lt hS)
/-- The reference's pairs make the same classes. -/
theorem Cat.sk_same {c : Cat} (hS : c.Shape) : joinL c.obj.toNat ((c.skS c.obj.toNat 0).map fun p => (pA p, pB p)) = c.skP := by
  have hl : ∀ p ∈ (c.skS c.obj.toNat 0).map (fun p => (pA p, pB p)), ∃ x y : Nat, x < c.obj.toNat ∧ y < x ∧ c.Alike (x : Int) (y : Int) ∧ p = (y, x) := fun p hp => by
    obtain ⟨q, hq, rfl⟩ := List.mem_map.1 hp
    obtain ⟨x, y, h1, h2, h3, rfl⟩ := Cat.mem_skS.1 hq
    exact ⟨x, y, h1, h2, h3, by simp [pA, pB]⟩
  have hl' : ∀ x y : Nat, x < c.obj.toNat → y < x → c.Alike (x : Int) (y : Int) → (y, x) ∈ (c.skS c.obj.toNat 0).map (fun p => (pA p, pB p)) := fun x y h1 h2 h3 => List.mem_map.2 ⟨[(y : Int), (x : Int)], Cat.mem_skS.2 ⟨x, y, h1, h2, h3, rfl⟩, by simp [pA, pB]⟩
  have e1 : Eqv (joinK ((c.skS c.obj.toNat 0).map fun p => (pA p, pB p))) c.obj.toNat := joinK_eqv fun p hp => by
    obtain ⟨x, y, h1, h2, _, rfl⟩ := hl p hp
    exact ⟨by show y < _; omega, h1⟩
  have e2 := Cat.skK_eqv hS
  unfold Cat.skP joinL
  refine clsL_congr fun a b ha hb => ?_
  rw [Bool.eq_iff_iff]
  refine ⟨joinK_sub e2 (fun p hp => ?_) ha hb, joinK_sub e1 (fun p hp => ?_) ha hb⟩
  · obtain ⟨x, y, h1, h2, h3, rfl⟩ := hl p hp
    refine ⟨by show y < _; omega, h1, ?_⟩
    obtain ⟨g, hg, hi⟩ := h3
    obtain ⟨k, k1, k2, k3, rfl⟩ := Cat.mem_hom.1 hg
    have := joinK_mem (Cat.skI_mem.2 ⟨k, k1, hi, rfl⟩)
    rw [k2, k3] at this
    have t2 : c.skK x y = true := by simpa [Cat.skK] using this
    exact e2.sy _ _ h1 (by omega) t2
  · obtain ⟨f, f1, f2, rfl⟩ := Cat.skI_mem.1 hp
    have s1 := hS.src f f1
    have s2 := hS.tgt f (by have := hS.tl; omega)
    refine ⟨by show (c.src.getD f 0).toNat < _; omega, by show (c.tgt.getD f 0).toNat < _; omega, ?_⟩
    have a1 : c.Alike (c.src.getD f 0) (c.tgt.getD f 0) := ⟨f, Cat.mem_hom.2 ⟨f, f1, rfl, rfl, rfl⟩, f2⟩
    have a2 := a1.symm hS
    have n1 : ((c.src.getD f 0).toNat : Int) = c.src.getD f 0 := by omega
    have n2 : ((c.tgt.getD f 0).toNat : Int) = c.tgt.getD f 0 := by omega
    show joinK _ (c.src.getD f 0).toNat (c.tgt.getD f 0).toNat = true
    rcases Nat.lt_trichotomy (c.src.getD f 0).toNat (c.tgt.getD f 0).toNat with h | h | h
    · exact joinK_mem (hl' _ _ (by omega) h (by rw [n1, n2]; exact a2))
    · rw [h]; exact joinK_refl _ _
    · exact e1.sy _ _ (by omega) (by omega) (joinK_mem (hl' _ _ (by omega) h (by rw [n1, n2]; exact a1)))
/-! ### The first of each class. -/
theorem reps_strict {K : Nat → Nat → Bool} {l m : Nat} (hl : least K l = l) (h : l < m) : reps K l < reps K m := by
  have h1 := reps_succ K l
  rw [if_pos hl] at h1
  have := reps_mono (K := K) (show l + 1 ≤ m from h)
  omega
theorem clsAt_lead {K : Nat → Nat → Bool} {n i : Nat} (e : Eqv K n) (hi : i < n) : clsAt K i = (reps K i : Int) ↔ least K i = i := by
  unfold clsAt
  refine ⟨fun h => ?_, fun h => by rw [h]⟩
  have h1 := least_le K i
  by_cases hlt : least K i < i
  · have := reps_strict (least_idem e hi) hlt
    omega
  · omega
theorem kerB_cls {K : Nat → Nat → Bool} {n a b : Nat} (e : Eqv K n) (ha : a < n) (hb : b < n) : kerB (clsL K n) a b = K a b := by
  unfold kerB
  rw [clsL_get ha, clsL_get hb, Bool.eq_iff_iff, beq_iff_eq, ← least_congr_mate e ha hb]
  unfold clsAt
  refine ⟨fun h => ?_, fun h => by rw [h]⟩
  have h' : reps K (least K a) = reps K (least K b) := by omega
  rcases Nat.lt_trichotomy (least K a) (least K b) with h1 | h1 | h1
  · have := reps_strict (least_idem e ha) h1; omega
  · exact h1
  · have := reps_strict (least_idem e hb) h1; omega
theorem rep_cls {K : Nat → Nat → Bool} {n i : Nat} (e : Eqv K n) (hi : i < n) : rep (clsL K n) i = least K i := least_congr (fun _ _ ha hb => kerB_cls e ha hb) hi
def Cat.skB (c : Cat) (x : Nat) : Bool := least c.skK x == x
theorem Cat.skP_len (c : Cat) : c.skP.length = c.obj.toNat := length_joinL _ _
theorem Cat.skP_index {c : Cat} (hS : c.Shape) {x : Nat} (hx : x < c.obj.toNat) : (idxL c.skP (c.skP.getD x 0) = (x : Int)) ↔ c.skB x = true := by
  rw [idxL_rep (by rw [Cat.skP_len]; exact hx)]
  show ((rep (clsL c.skK c.obj.toNat) x : Nat) : Int) = x ↔ _
  rw [rep_cls (Cat.skK_eqv hS) hx]
  unfold Cat.skB
  rw [beq_iff_eq]
  omega
theorem Cat.skP_lead {c : Cat} (hS : c.Shape) {x : Nat} (hx : x < c.obj.toNat) : (c.skP.getD x 0 = ((filtN x c.skB).length : Int)) ↔ c.skB x = true := by
  have e1 : c.skP.getD x 0 = clsAt c.skK x := clsL_get hx
  have e2 : (filtN x c.skB).length = reps c.skK x := by unfold filtN reps; rw [List.length_map]; rfl
  rw [e1, e2, clsAt_lead (Cat.skK_eqv hS) hx]
  unfold Cat.skB
  rw [beq_iff_eq]
def Cat.skO (c : Cat) : List Int := filtN c.obj.toNat c.skB
/-- The arrows between objects. -/
def Cat.among (c : Cat) (os : List Int) : List Int := filtN c.src.length fun f => os.contains (c.src.getD f 0) && os.contains (c.tgt.getD f 0)
/-! ### Parts. -/
def Cat.partO (c : Cat) (xs : List Int) : List Int := filtN c.obj.toNat fun x => xs.contains (c.idn.getD x 0)
def Cat.partR (c : Cat) (xs : List Int) (f : Int) : List Int := xs.map fun g => idxL xs (c.th f g)
def Cat.part (c : Cat) (xs : List Int) : Cat where
  obj := ((c.partO xs).length : Int)
  src := xs.map fun f => idxL (c.partO xs) (c.src.getD f.toNat 0)
  tgt := xs.map fun f => idxL (c.partO xs) (c.tgt.getD f.toNat 0)
  idn := (c.partO xs).map fun x => idxL xs (c.idn.getD x.toNat 0)
  comp := xs.map fun f => c.partR xs f
structure Cat.Closed (c : Cat) (xs : List Int) : Prop where
  filt : ∃ P, xs = filtN c.src.length P
  id : ∀ f ∈ xs, c.idn.getD (c.src.getD f.toNat 0).toNat 0 ∈ xs ∧ c.idn.getD (c.tgt.getD f.toNat 0).toNat 0 ∈ xs
  th : ∀ f ∈ xs, ∀ g ∈ xs, 0 ≤ c.th f g → c.th f g ∈ xs
theorem Cat.Closed.lt {c : Cat} {xs : List Int} (h : c.Closed xs) : ∀ f ∈ xs, 0 ≤ f ∧ f < c.src.length := fun f hf => by
  obtain ⟨P, rfl⟩ := h.filt
  obtain ⟨i, h1, _, rfl⟩ := mem_filtN.1 hf
  omega
theorem Cat.Closed.len {c : Cat} {xs : List Int} (h : c.Closed xs) : xs.length ≤ c.src.length := by
  obtain ⟨P, rfl⟩ := h.filt
  exact filtN_le _ _
theorem Cat.among_closed {c : Cat} {os : List Int} (hS : c.Shape) : c.Closed (c.among os) := by
  have hm : ∀ g : Int, g ∈ c.among os ↔ ∃ f : Nat, f < c.src.length ∧ c.src.getD f 0 ∈ os ∧ c.tgt.getD f 0 ∈ os ∧ g = f := fun g => by
    unfold Cat.among
    rw [mem_filtN]
    simp only [sps, List.contains_iff_mem]
    exact ⟨fun ⟨f, h1, h2, h3⟩ => ⟨f, h1, h2.1, h2.2, h3⟩, fun ⟨f, h1, h2, h3, h4⟩ => ⟨f, h1, ⟨h2, h3⟩, h4⟩⟩
  have hid : ∀ x : Int, 0 ≤ x → x < c.obj → x ∈ os → c.idn.getD x.toNat 0 ∈ c.among os := fun x h0 h1 hx => by
    have b1 := hS.idn_lt h0 h1
    have b2 := hS.ids x.toNat (by have := hS.il; omega)
    have e : ((x.toNat : Nat) : Int) = x := by omega
    rw [e] at b2
    exact (hm _).2 ⟨(c.idn.getD x.toNat 0).toNat, by omega, by rw [b2.1]; exact hx, by rw [b2.2]; exact hx, by omega⟩
  refine ⟨⟨_, rfl⟩, fun f hf => ?_, fun f hf g hg h0 => ?_⟩
  · obtain ⟨k, k1, k2, k3, rfl⟩ := (hm _).1 hf
    have s1 := hS.src k k1
    have s2 := hS.tgt k (by have := hS.tl; omega)
    rw [Int.toNat_natCast]
    exact ⟨hid _ s1.1 s1.2 k2, hid _ s2.1 s2.2 k3⟩
  · obtain ⟨k, k1, k2, k3, rfl⟩ := (hm _).1 hf
    obtain ⟨l, l1, l2, l3, rfl⟩ := (hm _).1 hg
    have hc := (Cat.Cell.pos ((hS.th_ge k1 l1).1 h0)).1 (hS.cell k (by have := hS.cl; omega) l l1)
    rw [← Cat.th_nat] at hc
    exact (hm _).2 ⟨(c.th k l).toNat, by omega, by rw [hc.2.2.1]; exact k2, by rw [hc.2.2.2]; exact l3, by omega⟩
end Go.GL
/- Lists that are nil as long as they are empty: a number is kept for the block that they will lie in. No condition. -/
namespace Go.GL
open Go.RowKit
/-- A list's block: where it lay, or behind n. -/
structure PL (g g0 n : Nat) : Prop where
  or : g = g0 ∨ n ≤ g
theorem PL.ne {g g0 n x : Nat} (h : PL g g0 n) (h0 : x ≠ g0) (hx : x < n) : x ≠ g := by
  rcases h.or with rfl | h
  · exact h0
  · omega
theorem PL.ne' {g g0 n x : Nat} (h : PL g g0 n) (h0 : x ≠ g0) (hx : x < n) : g ≠ x := (h.ne h0 hx).symm
theorem PL.ge {g g0 n b : Nat} (h : PL g g0 n) (h0 : b ≤ g0) (hn : b ≤ n) : b ≤ g := by
  rcases h.or with rfl | h
  · exact h0
  · omega
def nz : Nat → Nat → Option Addr
  | 0, _ => none
  | _ + 1, g => some ⟨g, 0, none⟩
theorem nz_pos {k g : Nat} (h : 0 < k) : nz k g = some ⟨g, 0, none⟩ := by
  cases k with
  | zero => omega
  | succ k => rfl
structure NO (H : GHeap) (g : Nat) (cs : List Value) (e : TypeId) (k : Nat) : Prop where
  lt : g < H.next
  or : (k = 0 ∧ cs = []) ∨ (0 < k ∧ H.get g = some (.row cs e true))
theorem NO.le {H H' : GHeap} {g k : Nat} {cs : List Value} {e : TypeId} (h : NO H g cs e k) (s : H.Le H') : NO H' g cs e k := ⟨by have := h.lt; have := s.1; omega, h.or.imp id fun h => ⟨h.1, s.2 _ _ h.2⟩⟩
theorem NO.st {H H' : GHeap} {g k : Nat} {bs : List Nat} {cs : List Value} {e : TypeId} (h : NO H g cs e k) (s : St bs H H') (ho : out bs g) : NO H' g cs e k := ⟨by have := h.lt; have := s.nx; omega, h.or.imp id fun h => ⟨h.1, s.same _ _ ho h.2⟩⟩
theorem NO.start {H : GHeap} {g k : Nat} {cs : List Value} {e : TypeId} (h : g < H.next) (hk : k = 0) (hc : cs = []) : NO H g cs e k := ⟨h, .inl ⟨hk, hc⟩⟩
theorem NO.of {H : GHeap} {g k : Nat} {cs : List Value} {e : TypeId} (h : H.get g = some (.row cs e true)) (hk : 0 < k) : NO H g cs e k := ⟨GHeap.lt_of_get h, .inr ⟨hk, h⟩⟩
theorem NO.get {H : GHeap} {g k : Nat} {cs : List Value} {e : TypeId} (h : NO H g cs e k) (hk : 0 < k) : H.get g = some (.row cs e true) := by
  rcases h.or with ⟨h, _⟩ | ⟨_, h⟩
  · omega
  · exact h
theorem NO.nil {H : GHeap} {g k : Nat} {cs : List Value} {e : TypeId} (h : NO H g cs e k) (hk : k = 0) : cs = [] := by
  rcases h.or with ⟨_, h⟩ | ⟨h, _⟩
  · exact h
  · omega
theorem NO.isR {b : Nat} {H : GHeap} {g k : Nat} {xs : List Int} {e : TypeId} (h : NO H g (ints xs) e k) (hk : k = xs.length) (hb : b ≤ g) : IntsR b H (nz k g) xs := by
  subst hk
  by_cases h0 : xs.length = 0
  · obtain rfl := List.eq_nil_of_length_eq_zero h0
    exact .inl ⟨rfl, rfl⟩
  · rw [nz_pos (by omega)]
    exact .inr ⟨g, e, rfl, hb, h.get (by omega)⟩
theorem NO.sl {H : GHeap} {g k n : Nat} {cs : List Value} {e : TypeId} (h : NO H g cs e k) (hn : cs.length = n) : SlA H (nz k g) n (fun i => cs.getD i (.bool false)) := by
  rcases h.or with ⟨rfl, rfl⟩ | ⟨h1, h2⟩
  · exact .inl hn.symm
  · rw [nz_pos h1]; exact SlA.of_row h2 hn
theorem nz_or (k g : Nat) : nz k g = none ∨ nz k g = some ⟨g, 0, none⟩ := by
  cases k with
  | zero => exact .inl rfl
  | succ k => exact .inr rfl
theorem Sim.hold {P : Program} {B : Nat} {w0 : World} {ρ : Place} {H : GHeap} {w : World} (hs : Sim P B w0 ρ H w) : Sim P B w0 ρ ⟨H.objs ++ [none]⟩ w := by
  have hg : ∀ {g : Nat} {o : GObj}, GHeap.get ⟨H.objs ++ [none]⟩ g = some o → H.get g = some o := fun {g o} h => by
    unfold GHeap.get at h ⊢
    rcases Nat.lt_trichotomy g H.objs.length with hl | hl | hl
    · rwa [List.getElem?_append_left hl] at h
    · subst hl; simp at h
    · rw [List.getElem?_eq_none (by simp; omega)] at h; cases h
  exact ⟨fun g h => hs.dom g (by have : (GHeap.mk (H.objs ++ [none])).next = H.next + 1 := by simp [GHeap.next]
                                 omega), fun g o h => hs.live g o (hg h), fun g g' o o' s s' h1 h2 => hs.apart g g' o o' s s' (hg h1) (hg h2), hs.base, hs.below⟩
/-- A number is kept. -/
theorem GT.hold {P : Program} {N : Nat} {c : Code} {Q : Exit → Slots → GHeap → Prop} {fr : Slots} {H : GHeap} (h : ∀ H', H.Le H' → H'.next = H.next + 1 → GT P N c Q fr H') : GT P N c Q fr H := fun B w0 ρ a w hs hf =>
  h ⟨H.objs ++ [none]⟩ ⟨by simp [GHeap.next], fun g o hg => by
    have hl : g < H.objs.length := GHeap.lt_of_get hg
    unfold GHeap.get at hg ⊢
    rwa [List.getElem?_append_left hl]⟩ (by simp [GHeap.next]) B w0 ρ a w hs.hold hf
section
variable {P : Program} {o : Oper} {fr : Slots} {H : GHeap}
theorem CDo.appendNO {t tx e e' : TypeId} {s x : Operand} {g g1 n sz bytes : Nat} {z cs vs : List Value} (ho : o.op = .call { callee := .builtin .append, args := #[s, x], argTypes := #[t, tx] }) (ht : sliceT P t = some (e, sz)) (hz : zeroT P e = some (z, sz)) (hzn : z.length = sz)
    (hb : (P.info? e).map (·.bytes) = some bytes) (htx : sliceT P tx = some (e', sz)) (hsv : ev fr s = some (.slice (nz n g) n n)) (hx : ev fr x = some (.slice (some ⟨g1, 0, none⟩) 1 1)) (hno : NO H g cs e n) (hg1 : H.get g1 = some (.row vs e' true)) (hend : n * sz = cs.length)
    (hv : vs.length = sz) (hone : vs.all (·.oneCell') = true) (hN : n + 1 ≤ 16777216) (hB : (n + 1) * bytes ≤ 140737488355328) :
    CDo P o fr H (fun r H' => ∃ g', r = some (.slice (some ⟨g', 0, none⟩) (n + 1) (n + 1)) ∧ St [g] H H' ∧ H.next ≤ g' ∧ H'.get g' = some (.row (cs ++ vs) e true)) := by
  rcases hno.or with ⟨rfl, rfl⟩ | ⟨h1, h2⟩
  · have hsrc : SrcG P fr H sz tx x 1 vs := .slice htx hx (by omega) (fun i v hv => by rw [GHeap.cell_of hg1, Nat.zero_add]; exact hv) (fun v hv => List.all_eq_true.1 hone v hv)
    exact .appendNil ho ht hz hzn hb hsv hsrc (by omega) (by unfold maxLen; omega) (by omega) ⟨_, rfl, .push (.refl _ _), Nat.le_refl _, GHeap.get_push_new _ _⟩
  · rw [nz_pos h1] at hsv
    exact .appendV ho ht hz hzn hb htx hsv hx h2 hg1 hend hv hone hN hB
theorem CDo.appendNOI {t tx e e' : TypeId} {s x : Operand} {g g1 n bytes : Nat} {z : List Value} {ys : List Int} {m : Int} (ho : o.op = .call { callee := .builtin .append, args := #[s, x], argTypes := #[t, tx] }) (ht : sliceT P t = some (e, 1)) (hz : zeroT P e = some (z, 1)) (hzn : z.length = 1)
    (hb : (P.info? e).map (·.bytes) = some bytes) (htx : sliceT P tx = some (e', 1)) (hsv : ev fr s = some (.slice (nz n g) n n)) (hx : ev fr x = some (.slice (some ⟨g1, 0, none⟩) 1 1)) (hno : NO H g (ints ys) e n) (hg1 : H.get g1 = some (.row [.int .i64 m] e' true)) (hend : n = ys.length)
    (hN : n + 1 ≤ 16777216) (hB : (n + 1) * bytes ≤ 140737488355328) :
    CDo P o fr H (fun r H' => ∃ g', r = some (.slice (some ⟨g', 0, none⟩) (n + 1) (n + 1)) ∧ St [g] H H' ∧ H.next ≤ g' ∧ H'.get g' = some (.row (ints (ys ++ [m])) e true)) := by
  have e1 : ints (ys ++ [m]) = ints ys ++ [.int .i64 m] := by simp [ints]
  rw [e1]
  exact .appendNO ho ht hz hzn hb htx hsv hx hno hg1 (by simp; omega) rfl rfl hN hB
end
end Go.GL
/- Parts of categories: the arrays that are filled on the way, and the skeleton as a result. No condition. -/
namespace Go.GL
theorem repl_getD0 {n i : Nat} {v : Int} (h : i < n) : (List.replicate n v).getD i 0 = v := by
  rw [List.getD_eq_getElem?_getD, List.getElem?_replicate, if_pos h]; rfl
theorem take_snoc {xs : List Int} {i : Nat} (h : i < xs.length) : xs.take (i + 1) = xs.take i ++ [xs.getD i 0] := by
  rw [List.take_add_one, List.getElem?_eq_getElem h, List.getD_eq_getElem?_getD, List.getElem?_eq_getElem h]; rfl
theorem filtN_split {P : Nat → Bool} {x : Nat} (hp : P x = true) : ∀ {n : Nat}, x < n → ∃ r, filtN n P = filtN x P ++ (x : Int) :: r
  | 0, h => by omega
  | n + 1, h => by
    by_cases e : x = n
    · subst e; exact ⟨[], filtN_T hp⟩
    · obtain ⟨r, hr⟩ := filtN_split hp (n := n) (by omega)
      by_cases hn : P n = true
      · exact ⟨r ++ [(n : Int)], by rw [filtN_T hn, hr]; simp⟩
      · exact ⟨r, by rw [filtN_F (by simpa using hn), hr]⟩
theorem filtN_lt {P : Nat → Bool} {n i : Nat} (h : i < (filtN n P).length) : 0 ≤ (filtN n P).getD i 0 ∧ (filtN n P).getD i 0 < n := by
  obtain ⟨j, h1, _, h3⟩ := filtN_get h
  omega
theorem idxL_filtN {P : Nat → Bool} {x n : Nat} (hp : P x = true) (h : x < n) : idxL (filtN n P) (x : Int) = ((filtN x P).length : Int) := by
  obtain ⟨r, hr⟩ := filtN_split hp h
  refine idxL_some (by rw [hr]; simp) (by rw [hr, List.getD_eq_getElem?_getD, List.getElem?_append_right (Nat.le_refl _)]; simp) fun j hj e => ?_
  rw [hr, List.getD_eq_getElem?_getD, List.getElem?_append_left hj, ← List.getD_eq_getElem?_getD] at e
  have := filtN_lt hj
  omega
theorem filtN_nodup (n : Nat) (P : Nat → Bool) : (filtN n P).Nodup := by
  unfold filtN
  exact List.pairwise_map.2 ((List.nodup_range.sublist List.filter_sublist).imp fun h e => h (by omega))
theorem nodup_getD {xs : List Int} (hn : xs.Nodup) {i j : Nat} (hi : i < xs.length) (hj : j < xs.length) (h : xs.getD i 0 = xs.getD j 0) : i = j := by
  rw [List.getD_eq_getElem?_getD, List.getD_eq_getElem?_getD, List.getElem?_eq_getElem hi, List.getElem?_eq_getElem hj] at h
  exact (List.getElem_inj hn).1 (by simpa using h)
theorem idxL_nodup {xs : List Int} (hn : xs.Nodup) {i : Nat} (hi : i < xs.length) : idxL xs (xs.getD i 0) = (i : Int) := idxL_some hi rfl fun j hj e => by
  have := nodup_getD hn (by omega) hi e
  omega
theorem Cat.Closed.nodup {c : Cat} {xs : List Int} (h : c.Closed xs) : xs.Nodup := by
  obtain ⟨P, rfl⟩ := h.filt
  exact filtN_nodup _ _
/-! ### The numbers of arrows. -/
def numF (xs : List Int) (m i : Nat) : List Int := (List.range m).map fun (v : Nat) => if (v : Int) ∈ xs.take i then idxL xs v else 0
@[simp] theorem length_numF (xs : List Int) (m i : Nat) : (numF xs m i).length = m := by simp [numF]
theorem numF_get {xs : List Int} {m i v : Nat} (h : v < m) : (numF xs m i).getD v 0 = if (v : Int) ∈ xs.take i then idxL xs v else 0 := by simp [numF, List.getD_eq_getElem?_getD, h]
theorem numF_zero (xs : List Int) (m : Nat) : numF xs m 0 = List.replicate m 0 := by
  refine eq_of_getD (by simp) fun v hv => ?_
  rw [List.length_replicate] at hv
  rw [numF_get hv, repl_getD0 hv]
  simp
theorem numF_succ {xs : List Int} {m i : Nat} (hn : xs.Nodup) (hi : i < xs.length) (h0 : 0 ≤ xs.getD i 0) (hm : xs.getD i 0 < (m : Int)) : numF xs m (i + 1) = (numF xs m i).set (xs.getD i 0).toNat (i : Int) := by
  refine eq_of_getD (by simp) fun v hv => ?_
  rw [List.length_set, length_numF] at hv
  rw [numF_get hv, getD_set (by rw [length_numF]; omega), numF_get hv]
  have e1 : xs.take (i + 1) = xs.take i ++ [xs.getD i 0] := take_snoc hi
  rw [e1]
  by_cases hx : v = (xs.getD i 0).toNat
  · rw [if_pos hx, if_pos (List.mem_append.2 (.inr (List.mem_singleton.2 (by omega)))), show (v : Int) = xs.getD i 0 by omega]
    exact idxL_nodup hn hi
  · rw [if_neg hx]
    have : (v : Int) ∈ xs.take i ++ [xs.getD i 0] ↔ (v : Int) ∈ xs.take i := by
      rw [List.mem_append, List.mem_singleton]
      exact ⟨fun h => h.elim id fun h => absurd h (by omega), .inl⟩
    simp only [this]
theorem numF_all {xs : List Int} {m : Nat} {v : Int} (h0 : 0 ≤ v) (hm : v < (m : Int)) (h : v ∈ xs) : (numF xs m xs.length).getD v.toNat 0 = idxL xs v := by
  have e : ((v.toNat : Nat) : Int) = v := by omega
  rw [numF_get (by omega), List.take_length, e, if_pos h]
/-! ### The places of objects. -/
abbrev Cat.hasId (c : Cat) (xs : List Int) (x : Nat) : Bool := xs.contains (c.idn.getD x 0)
def Cat.plF (c : Cat) (xs : List Int) (n k : Nat) : List Int := (List.range n).map fun (x : Nat) => if x < k ∧ c.hasId xs x = true then ((filtN x (c.hasId xs)).length : Int) else 0
@[simp] theorem Cat.length_plF (c : Cat) (xs : List Int) (n k : Nat) : (c.plF xs n k).length = n := by simp [Cat.plF]
theorem Cat.plF_get {c : Cat} {xs : List Int} {n k x : Nat} (h : x < n) : (c.plF xs n k).getD x 0 = if x < k ∧ c.hasId xs x = true then ((filtN x (c.hasId xs)).length : Int) else 0 := by simp [Cat.plF, List.getD_eq_getElem?_getD, h]
theorem Cat.plF_zero (c : Cat) (xs : List Int) (n : Nat) : c.plF xs n 0 = List.replicate n 0 := by
  refine eq_of_getD (by simp) fun v hv => ?_
  rw [List.length_replicate] at hv
  rw [Cat.plF_get hv, repl_getD0 hv, if_neg (by omega)]
theorem Cat.plF_T {c : Cat} {xs : List Int} {n k : Nat} (hk : k < n) (h : c.hasId xs k = true) : c.plF xs n (k + 1) = (c.plF xs n k).set k ((filtN k (c.hasId xs)).length : Int) := by
  refine eq_of_getD (by simp) fun v hv => ?_
  rw [List.length_set, Cat.length_plF] at hv
  rw [Cat.plF_get hv, getD_set (by rw [Cat.length_plF]; omega), Cat.plF_get hv]
  by_cases e : v = k
  · subst e; rw [if_pos rfl, if_pos ⟨by omega, h⟩]
  · rw [if_neg e]
    by_cases h2 : c.hasId xs v = true
    · by_cases h3 : v < k
      · rw [if_pos ⟨by omega, h2⟩, if_pos ⟨h3, h2⟩]
      · rw [if_neg (by omega), if_neg (by omega)]
    · rw [if_neg fun hh => h2 hh.2, if_neg fun hh => h2 hh.2]
theorem Cat.plF_F {c : Cat} {xs : List Int} {n k : Nat} (h : c.hasId xs k = false) : c.plF xs n (k + 1) = c.plF xs n k := by
  unfold Cat.plF
  refine List.map_congr_left fun v _ => ?_
  by_cases e : v = k
  · subst e
    rw [if_neg (by rw [h]; simp), if_neg (by omega)]
  · by_cases h3 : v < k
    · simp only [h3, show v < k + 1 by omega]
    · simp only [h3, show ¬ v < k + 1 by omega]
theorem Cat.plF_all {c : Cat} {xs : List Int} {x : Int} (h0 : 0 ≤ x) (hx : x < c.obj) (h : c.idn.getD x.toNat 0 ∈ xs) : (c.plF xs c.obj.toNat c.obj.toNat).getD x.toNat 0 = idxL (c.partO xs) x := by
  have hh : c.hasId xs x.toNat = true := by unfold Cat.hasId; rw [List.contains_iff_mem]; exact h
  have e : ((x.toNat : Nat) : Int) = x := by omega
  rw [Cat.plF_get (by omega), if_pos ⟨by omega, hh⟩]
  have := idxL_filtN (P := c.hasId xs) (x := x.toNat) (n := c.obj.toNat) hh (by omega)
  rw [e] at this
  exact this.symm
/-! ### Rows and lists that grow. -/
theorem OwnL.neNO {b g k : Nat} {H : GHeap} {e e' : TypeId} {cs : List Value} {r : Nat → Option Addr} {xss : List (List Int)} (h : OwnL b H e r xss) (hg : NO H g cs e' k) (hk : k = xss.length) (hne : (e != e') = true) : ∀ i, i < xss.length → r i ≠ some ⟨g, 0, none⟩ := fun i hi => h.neT (hg.get (by omega)) hne i hi
theorem OwnL.doneNO {b g k : Nat} {H : GHeap} {e e' : TypeId} {r : Nat → Option Addr} {xss : List (List Int)} (h : OwnL b H e r xss) (hg : NO H g (slsL r xss) e' k) (hk : k = xss.length) (hb : b ≤ g) : IntssR b H (nz k g) xss r := by
  subst hk
  by_cases h0 : xss.length = 0
  · obtain rfl := List.eq_nil_of_length_eq_zero h0
    exact .nil _ _ _
  · rw [nz_pos (by omega)]
    exact h.done (hg.get (by omega)) hb
def Cat.partI (c : Cat) (xs : List Int) (k : Nat) : List Int := (filtN k (c.hasId xs)).map fun x => idxL xs (c.idn.getD x.toNat 0)
theorem Cat.partI_len (c : Cat) (xs : List Int) (k : Nat) : (c.partI xs k).length = (filtN k (c.hasId xs)).length := by unfold Cat.partI; rw [List.length_map]
theorem Cat.partI_T {c : Cat} {xs : List Int} {k : Nat} (h : c.hasId xs k = true) : c.partI xs (k + 1) = c.partI xs k ++ [idxL xs (c.idn.getD k 0)] := by unfold Cat.partI; rw [filtN_T h, List.map_append]; rfl
theorem Cat.partI_F {c : Cat} {xs : List Int} {k : Nat} (h : c.hasId xs k = false) : c.partI xs (k + 1) = c.partI xs k := by unfold Cat.partI; rw [filtN_F h]
theorem Cat.Closed.has {c : Cat} {xs : List Int} (h : c.Closed xs) {f : Int} (hf : f ∈ xs) (hS : c.Shape) : (0 ≤ c.src.getD f.toNat 0 ∧ c.src.getD f.toNat 0 < c.obj ∧ c.idn.getD (c.src.getD f.toNat 0).toNat 0 ∈ xs) ∧ 0 ≤ c.tgt.getD f.toNat 0 ∧ c.tgt.getD f.toNat 0 < c.obj ∧ c.idn.getD (c.tgt.getD f.toNat 0).toNat 0 ∈ xs := by
  have b := h.lt f hf
  have s1 := hS.src f.toNat (by omega)
  have s2 := hS.tgt f.toNat (by have := hS.tl; omega)
  have hi := h.id f hf
  exact ⟨⟨s1.1, s1.2, hi.1⟩, s2.1, s2.2, hi.2⟩
/-- What the number of a composite is. -/
theorem Cat.Closed.num {c : Cat} {xs : List Int} (h : c.Closed xs) {f g : Int} (hf : f ∈ xs) (hg : g ∈ xs) (hS : c.Shape) : (0 ≤ c.th f g → (numF xs c.src.length xs.length).getD (c.th f g).toNat 0 = idxL xs (c.th f g)) ∧ (¬ 0 ≤ c.th f g → c.th f g = idxL xs (c.th f g)) ∧ c.th f g < c.src.length := by
  have bf := h.lt f hf
  have bg := h.lt g hg
  have e1 : ((f.toNat : Nat) : Int) = f := by omega
  have e2 : ((g.toNat : Nat) : Int) = g := by omega
  have hl := hS.th_lt (f := f.toNat) (g := g.toNat) (by omega) (by omega)
  rw [e1, e2] at hl
  refine ⟨fun h0 => numF_all h0 hl.1 (h.th f hf g hg h0), fun h0 => ?_, hl.1⟩
  have e3 : c.th f g = -1 := by omega
  rw [e3]
  refine (idxL_none fun j hj e => ?_).symm
  have := h.lt _ (getD_mem hj)
  omega
def Cat.partL (c : Cat) (xs : List Int) (i : Nat) : List (List Int) := (xs.take i).map (c.partR xs)
theorem Cat.partL_zero (c : Cat) (xs : List Int) : c.partL xs 0 = [] := by simp [Cat.partL]
theorem Cat.partL_len {c : Cat} {xs : List Int} {i : Nat} (h : i ≤ xs.length) : (c.partL xs i).length = i := by simp [Cat.partL]; omega
theorem Cat.partL_succ {c : Cat} {xs : List Int} {i : Nat} (h : i < xs.length) : c.partL xs (i + 1) = c.partL xs i ++ [c.partR xs (xs.getD i 0)] := by
  unfold Cat.partL
  rw [take_snoc h, List.map_append]; rfl
theorem Cat.partL_all (c : Cat) (xs : List Int) : c.partL xs xs.length = (c.part xs).comp := by unfold Cat.partL; rw [List.take_length]; rfl
theorem Cat.partO_len (c : Cat) (xs : List Int) : (c.partO xs).length ≤ c.obj.toNat := filtN_le _ _
theorem Cat.part_small {c : Cat} {xs : List Int} (hS : c.Shape) (hl : xs.length ≤ 40) : (c.part xs).Small := by
  have b2 := hS.obj
  have b3 := c.partO_len xs
  refine ⟨by simp [Cat.part]; omega, by simp [Cat.part]; omega, by simp [Cat.part]; omega, by simp [Cat.part]; omega, fun i => ?_, ?_⟩
  · by_cases hi : i < xs.length
    · simp [Cat.part, Cat.partR, List.getD_eq_getElem?_getD, List.getElem?_eq_getElem hi]; omega
    · simp [Cat.part, List.getD_eq_getElem?_getD, List.getElem?_eq_none (Nat.le_of_not_lt hi)]
  · show -9223372036854775808 ≤ ((c.partO xs).length : Int) ∧ ((c.partO xs).length : Int) ≤ 9223372036854775807
    omega
noncomputable def Cat.skR (c : Cat) : Cat := bif B c.Is then c.part (c.among c.skO) else .zero
noncomputable def Cat.skC (c : Cat) : Int := bif B c.Is then 0 else 1
theorem Cat.sk_ok {c : Cat} (h : c.Is) : c.skR = c.part (c.among c.skO) ∧ c.skC = 0 := by unfold Cat.skR Cat.skC; rw [B_true h]; exact ⟨rfl, rfl⟩
theorem Cat.sk_not {c : Cat} (h : ¬ c.Is) : c.skR = .zero ∧ c.skC = 1 := by unfold Cat.skR Cat.skC; rw [B_false h]; exact ⟨rfl, rfl⟩
theorem Cat.sk_small (c : Cat) : c.skR.Small := by
  by_cases h : c.Is
  · rw [(Cat.sk_ok h).1]
    exact Cat.part_small h.1 (Nat.le_trans (Cat.among_closed h.1).len h.1.n40)
  · rw [(Cat.sk_not h).1]
    refine ⟨by simp [Cat.zero], by simp [Cat.zero], by simp [Cat.zero], by simp [Cat.zero], fun i => by simp [Cat.zero], by simp [Cat.zero]⟩
end Go.GL
