/- Partitions: classes numbered by their least elements, and the finest partition that joins pairs. No condition. -/
import Derived.Test.YtgnfekfdmgnhcaaZ8
namespace Go.GL
/-- The least mate of i. -/
def least (K : Nat → Nat → Bool) (i : Nat) : Nat := ((List.range i).find? fun j => K j i).getD i
/-- How many of the numbers below m are the least of their classes. -/
def reps (K : Nat → Nat → Bool) (m : Nat) : Nat := ((List.range m).filter fun j => least K j == j).length
def clsAt (K : Nat → Nat → Bool) (i : Nat) : Int := (reps K (least K i) : Int)
def clsL (K : Nat → Nat → Bool) (n : Nat) : List Int := (List.range n).map (clsAt K)
@[simp] theorem length_clsL (K : Nat → Nat → Bool) (n : Nat) : (clsL K n).length = n := by simp [clsL]
theorem clsL_succ (K : Nat → Nat → Bool) (n : Nat) : clsL K (n + 1) = clsL K n ++ [clsAt K n] := by simp [clsL, List.range_succ]
/-- It is an equivalence below n. -/
structure Eqv (K : Nat → Nat → Bool) (n : Nat) : Prop where
  rf : ∀ a, a < n → K a a = true
  sy : ∀ a b, a < n → b < n → K a b = true → K b a = true
  tr : ∀ a b c, a < n → b < n → c < n → K a b = true → K b c = true → K a c = true
theorem find_range {p : Nat → Bool} {i : Nat} : (∃ j, (List.range i).find? p = some j ∧ j < i ∧ p j = true ∧ ∀ k, k < j → p k = false) ∨ ((List.range i).find? p = none ∧ ∀ k, k < i → p k = false) := by
  cases h : (List.range i).find? p with
  | none =>
    rw [List.find?_range_eq_none] at h
    exact .inr ⟨rfl, fun k hk => by simpa using h k hk⟩
  | some j =>
    rw [List.find?_range_eq_some] at h
    exact .inl ⟨j, rfl, List.mem_range.1 h.2.1, h.1, fun k hk => by simpa using h.2.2 k hk⟩
theorem least_le (K : Nat → Nat → Bool) (i : Nat) : least K i ≤ i := by
  unfold least
  rcases find_range (p := fun j => K j i) (i := i) with ⟨j, h, hl, _⟩ | ⟨h, _⟩
  · rw [h]; exact Nat.le_of_lt hl
  · rw [h]; exact Nat.le_refl _
theorem least_mate {K : Nat → Nat → Bool} {n i : Nat} (e : Eqv K n) (h : i < n) : K (least K i) i = true ∧ ∀ j, j < least K i → K j i = false := by
  unfold least
  rcases find_range (p := fun j => K j i) (i := i) with ⟨j, hj, hl, hp, hb⟩ | ⟨hj, hb⟩
  · rw [hj]; exact ⟨hp, hb⟩
  · rw [hj]; exact ⟨e.rf i h, hb⟩
theorem least_eq {K : Nat → Nat → Bool} {n i j : Nat} (e : Eqv K n) (hi : i < n) (hk : K j i = true) (hm : ∀ k, k < j → K k i = false) : least K i = j := by
  obtain ⟨h1, h2⟩ := least_mate e hi
  rcases Nat.lt_trichotomy (least K i) j with h | h | h
  · rw [hm _ h] at h1; cases h1
  · exact h
  · rw [h2 _ h] at hk; cases hk
theorem least_congr_mate {K : Nat → Nat → Bool} {n i j : Nat} (e : Eqv K n) (hi : i < n) (hj : j < n) : least K i = least K j ↔ K i j = true := by
  obtain ⟨h1, h2⟩ := least_mate e hi
  obtain ⟨k1, k2⟩ := least_mate e hj
  have li := least_le K i
  have lj := least_le K j
  constructor
  · intro h
    rw [← h] at k1
    exact e.tr i _ j hi (by omega) hj (e.sy _ _ (by omega) hi h1) k1
  · intro h
    refine least_eq e hi (e.tr _ j i (by omega) hj hi k1 (e.sy _ _ hi hj h)) fun k hk => ?_
    cases hh : K k i with
    | false => rfl
    | true => rw [← k2 k hk]; exact (e.tr k i j (by omega) hi hj hh h).symm
theorem least_idem {K : Nat → Nat → Bool} {n i : Nat} (e : Eqv K n) (hi : i < n) : least K (least K i) = least K i := by
  have := least_le K i
  exact (least_congr_mate e (by omega) hi).2 (least_mate e hi).1
theorem least_congr {K K' : Nat → Nat → Bool} {n i : Nat} (h : ∀ a b, a < n → b < n → K a b = K' a b) (hi : i < n) : least K i = least K' i := by
  unfold least
  have : ∀ l : List Nat, (∀ j ∈ l, j < n) → l.find? (fun j => K j i) = l.find? (fun j => K' j i) := by
    intro l
    induction l with
    | nil => intro _; rfl
    | cons a l ih =>
      intro hl
      simp only [List.find?_cons]
      rw [h a i (hl a (by simp)) hi, ih fun j hj => hl j (by simp [hj])]
  rw [this _ fun j hj => by have := List.mem_range.1 hj; omega]
theorem reps_congr {K K' : Nat → Nat → Bool} {n m : Nat} (h : ∀ a b, a < n → b < n → K a b = K' a b) (hm : m ≤ n) : reps K m = reps K' m := by
  unfold reps
  congr 1
  refine List.filter_congr fun j hj => ?_
  rw [least_congr h (by have := List.mem_range.1 hj; omega)]
theorem clsL_congr {K K' : Nat → Nat → Bool} {n : Nat} (h : ∀ a b, a < n → b < n → K a b = K' a b) : clsL K n = clsL K' n := by
  refine List.map_congr_left fun i hi => ?_
  have hi' := List.mem_range.1 hi
  unfold clsAt
  rw [least_congr h hi', reps_congr h (by have := least_le K' i; omega)]
theorem reps_succ (K : Nat → Nat → Bool) (m : Nat) : reps K (m + 1) = reps K m + (if least K m = m then 1 else 0) := by
  unfold reps
  rw [List.range_succ, List.filter_append, List.length_append]
  congr 1
  by_cases h : least K m = m <;> simp [h]
theorem reps_le (K : Nat → Nat → Bool) (m : Nat) : reps K m ≤ m := by
  unfold reps; exact Nat.le_trans (List.length_filter_le _ _) (by simp)
theorem reps_mono {K : Nat → Nat → Bool} {a b : Nat} (h : a ≤ b) : reps K a ≤ reps K b := by
  induction b with
  | zero => obtain rfl : a = 0 := by omega
            exact Nat.le_refl _
  | succ b ih =>
    by_cases e : a = b + 1
    · subst e; exact Nat.le_refl _
    · have := ih (by omega)
      rw [reps_succ]
      omega

/-- Two numbers have the same label. -/
def kerB (xs : List Int) (a b : Nat) : Bool := xs.getD a 0 == xs.getD b 0
theorem kerB_eqv (xs : List Int) (n : Nat) : Eqv (kerB xs) n := ⟨fun a _ => by simp [kerB], fun a b _ _ h => by simp only [kerB, beq_iff_eq] at h ⊢; exact h.symm, fun a b c _ _ _ h h' => by simp only [kerB, beq_iff_eq] at h h' ⊢; exact h.trans h'⟩
/-- The labels that have been seen below i, in order. -/
def seenL (xs : List Int) (i : Nat) : List Int := ((List.range i).filter fun j => least (kerB xs) j == j).map fun j => xs.getD j 0
@[simp] theorem length_seenL (xs : List Int) (i : Nat) : (seenL xs i).length = reps (kerB xs) i := by simp [seenL, reps]
theorem seenL_new {xs : List Int} {i : Nat} (h : least (kerB xs) i = i) : seenL xs (i + 1) = seenL xs i ++ [xs.getD i 0] := by simp [seenL, List.range_succ, List.filter_append, h]
theorem seenL_old {xs : List Int} {i : Nat} (h : least (kerB xs) i ≠ i) : seenL xs (i + 1) = seenL xs i := by simp [seenL, List.range_succ, List.filter_append, h]
theorem seenL_at {xs : List Int} {i m : Nat} (h : m < (seenL xs i).length) : ∃ j, j < i ∧ least (kerB xs) j = j ∧ reps (kerB xs) j = m ∧ (seenL xs i).getD m 0 = xs.getD j 0 := by
  induction i with
  | zero => simp [seenL] at h
  | succ i ih =>
    by_cases hi : least (kerB xs) i = i
    · rw [seenL_new hi] at h ⊢
      by_cases e : m < (seenL xs i).length
      · obtain ⟨j, h1, h2, h3, h4⟩ := ih e
        refine ⟨j, by omega, h2, h3, ?_⟩
        rw [List.getD_eq_getElem?_getD, List.getElem?_append_left e, ← List.getD_eq_getElem?_getD]
        exact h4
      · have hm : m = (seenL xs i).length := by simp at h; rw [length_seenL] at *; omega
        refine ⟨i, by omega, hi, by rw [hm, length_seenL], ?_⟩
        rw [hm, List.getD_eq_getElem?_getD, List.getElem?_append_right (Nat.le_refl _)]
        simp
    · rw [seenL_old hi] at h ⊢
      obtain ⟨j, h1, h2, h3, h4⟩ := ih h
      exact ⟨j, by omega, h2, h3, h4⟩
/-- What a search for the label among the seen ones finds. -/
theorem seen_find {xs : List Int} {i m : Nat} (h : m < (seenL xs i).length) : (seenL xs i).getD m 0 = xs.getD i 0 ↔ (least (kerB xs) i < i ∧ m = reps (kerB xs) (least (kerB xs) i)) := by
  have e := kerB_eqv xs (i + 1)
  obtain ⟨j, h1, h2, h3, h4⟩ := seenL_at h
  rw [h4]
  constructor
  · intro hx
    have hl : least (kerB xs) i = j := by
      have := (least_congr_mate (j := i) e (i := j) (by omega) (by omega)).2 (by simp only [kerB, beq_iff_eq]; exact hx)
      omega
    rw [hl]; exact ⟨h1, h3.symm⟩
  · rintro ⟨hl, hm⟩
    have hli := least_idem (K := kerB xs) (i := i) e (by omega)
    have hmate := (least_mate (i := i) e (by omega)).1
    simp only [kerB, beq_iff_eq] at hmate
    have : j = least (kerB xs) i := by
      rcases Nat.lt_trichotomy j (least (kerB xs) i) with hh | hh | hh
      · have h5 := reps_mono (K := kerB xs) (a := j + 1) hh
        rw [reps_succ, if_pos h2] at h5
        omega
      · exact hh
      · have h5 := reps_mono (K := kerB xs) (a := least (kerB xs) i + 1) hh
        rw [reps_succ, if_pos hli] at h5
        omega
    rw [this, hmate]
theorem seen_none {xs : List Int} {i : Nat} : (∀ m, m < (seenL xs i).length → (seenL xs i).getD m 0 ≠ xs.getD i 0) ↔ least (kerB xs) i = i := by
  constructor
  · intro h
    have hl := least_le (kerB xs) i
    refine Classical.byContradiction fun hne => ?_
    have hli := least_idem (K := kerB xs) (i := i) (kerB_eqv xs (i + 1)) (by omega)
    have hlt : reps (kerB xs) (least (kerB xs) i) < (seenL xs i).length := by
      rw [length_seenL]
      have h5 := reps_mono (K := kerB xs) (a := least (kerB xs) i + 1) (b := i) (by omega)
      rw [reps_succ, if_pos hli] at h5
      omega
    exact h _ hlt ((seen_find hlt).2 ⟨by omega, rfl⟩)
  · intro h m hm hx
    have := ((seen_find hm).1 hx).1
    omega

theorem numsL_succ (n : Nat) : numsL (n + 1) = numsL n ++ [(n : Int)] := by simp [numsL, List.range_succ]
/-- The first index of a number in a list, or -1. -/
def idxL (xs : List Int) (v : Int) : Int := match firstN xs.length fun i => xs.getD i 0 == v with | some i => (i : Int) | none => -1
theorem idxL_some {xs : List Int} {v : Int} {i : Nat} (hi : i < xs.length) (h : xs.getD i 0 = v) (hb : ∀ j, j < i → ¬ xs.getD j 0 = v) : idxL xs v = i := by
  unfold idxL; rw [firstN_some hi (by simpa using h) fun j hj => by simpa using hb j hj]
theorem idxL_none {xs : List Int} {v : Int} (h : ∀ j, j < xs.length → ¬ xs.getD j 0 = v) : idxL xs v = -1 := by
  unfold idxL; rw [firstN_none fun j hj => by simpa using h j hj]
theorem idxL_cases (xs : List Int) (v : Int) : (∃ i, i < xs.length ∧ xs.getD i 0 = v ∧ (∀ j, j < i → ¬ xs.getD j 0 = v) ∧ idxL xs v = i) ∨ ((∀ j, j < xs.length → ¬ xs.getD j 0 = v) ∧ idxL xs v = -1) := by
  rcases find_range (p := fun i => xs.getD i 0 == v) (i := xs.length) with ⟨j, _, hl, hp, hb⟩ | ⟨_, hb⟩
  · exact .inl ⟨j, hl, by simpa using hp, fun k hk => by simpa using hb k hk, idxL_some hl (by simpa using hp) fun k hk => by simpa using hb k hk⟩
  · exact .inr ⟨fun k hk => by simpa using hb k hk, idxL_none fun k hk => by simpa using hb k hk⟩
theorem idxL_lt (xs : List Int) (v : Int) : idxL xs v < xs.length ∧ -1 ≤ idxL xs v := by
  rcases idxL_cases xs v with ⟨i, h, _, _, e⟩ | ⟨_, e⟩ <;> omega
theorem cls_new {xs : List Int} {k : Nat} (h : idxL (seenL xs k) (xs.getD k 0) < 0) : clsL (kerB xs) (k + 1) = clsL (kerB xs) k ++ [((seenL xs k).length : Int)] ∧ seenL xs (k + 1) = seenL xs k ++ [xs.getD k 0] := by
  have hl : least (kerB xs) k = k := by
    rcases idxL_cases (seenL xs k) (xs.getD k 0) with ⟨i, _, _, _, e⟩ | ⟨hn, _⟩
    · omega
    · exact seen_none.1 fun m hm => hn m hm
  refine ⟨?_, seenL_new hl⟩
  rw [clsL_succ]
  unfold clsAt
  rw [hl, length_seenL]
theorem cls_old {xs : List Int} {k : Nat} (h : 0 ≤ idxL (seenL xs k) (xs.getD k 0)) : clsL (kerB xs) (k + 1) = clsL (kerB xs) k ++ [idxL (seenL xs k) (xs.getD k 0)] ∧ seenL xs (k + 1) = seenL xs k := by
  rcases idxL_cases (seenL xs k) (xs.getD k 0) with ⟨i, hi, hv, _, e⟩ | ⟨_, e⟩
  · obtain ⟨h1, h2⟩ := (seen_find hi).1 hv
    refine ⟨?_, seenL_old (by omega)⟩
    rw [clsL_succ, e, h2]
    rfl
  · omega
/-- The seen labels with their numbers. -/
def seenE (xs : List Int) (k : Nat) : List (Int × Int) := (List.range (seenL xs k).length).map fun i => ((seenL xs k).getD i 0, (i : Int))
@[simp] theorem length_seenE (xs : List Int) (k : Nat) : (seenE xs k).length = (seenL xs k).length := by simp [seenE]
theorem seenE_zero (xs : List Int) : seenE xs 0 = [] := by simp [seenE, seenL]
theorem seenE_new {xs : List Int} {k : Nat} (h : seenL xs (k + 1) = seenL xs k ++ [xs.getD k 0]) : seenE xs (k + 1) = seenE xs k ++ [(xs.getD k 0, ((seenE xs k).length : Int))] := by
  rw [length_seenE]
  unfold seenE
  rw [h, List.length_append, List.length_singleton, List.range_succ, List.map_append]
  congr 1
  · refine List.map_congr_left fun i hi => ?_
    have := List.mem_range.1 hi
    rw [List.getD_eq_getElem?_getD, List.getElem?_append_left this, ← List.getD_eq_getElem?_getD]
  · simp [List.getD_eq_getElem?_getD]
theorem seenE_old {xs : List Int} {k : Nat} (h : seenL xs (k + 1) = seenL xs k) : seenE xs (k + 1) = seenE xs k := by unfold seenE; rw [h]
theorem lookE_seen (xs : List Int) (k : Nat) (v : Int) : (idxL (seenL xs k) v < 0 ∧ lookE (seenE xs k) v = none) ∨ (0 ≤ idxL (seenL xs k) v ∧ lookE (seenE xs k) v = some (idxL (seenL xs k) v)) := by
  have hfind : ∀ p : Nat → Bool, ∀ n, ((List.range n).map fun i => ((seenL xs k).getD i 0, (i : Int))).find? (fun e => e.1 == v) = ((List.range n).find? fun i => (seenL xs k).getD i 0 == v).map fun i => ((seenL xs k).getD i 0, (i : Int)) := fun _ n => by
    rw [List.find?_map]; rfl
  unfold lookE seenE
  rw [hfind (fun _ => true)]
  unfold idxL firstN
  cases h : (List.range (seenL xs k).length).find? fun i => (seenL xs k).getD i 0 == v with
  | some i => exact .inr ⟨by simp, rfl⟩
  | none => exact .inl ⟨by simp, rfl⟩
theorem clsAt_new {xs : List Int} {k : Nat} (h : idxL (seenL xs k) (xs.getD k 0) < 0) : ((seenE xs k).length : Int) = clsAt (kerB xs) k := by
  have e := (cls_new h).1
  rw [clsL_succ] at e
  have := List.append_cancel_left e
  rw [length_seenE]
  exact (List.cons.inj this).1.symm
theorem clsAt_old {xs : List Int} {k : Nat} (h : 0 ≤ idxL (seenL xs k) (xs.getD k 0)) (h' : lookE (seenE xs k) (xs.getD k 0) = some (idxL (seenL xs k) (xs.getD k 0))) : (lookE (seenE xs k) (xs.getD k 0)).getD 0 = clsAt (kerB xs) k := by
  have e := (cls_old h).1
  rw [clsL_succ] at e
  have := List.append_cancel_left e
  rw [h']
  exact (List.cons.inj this).1.symm
/-- The first k of n numbers. -/
def part0 (n : Nat) (f : Nat → Int) (k : Nat) : List Int := (List.range n).map fun i => bif decide (i < k) then f i else 0
@[simp] theorem length_part0 (n : Nat) (f : Nat → Int) (k : Nat) : (part0 n f k).length = n := by simp [part0]
theorem part0_get {n : Nat} {f : Nat → Int} {k i : Nat} (h : i < n) : (part0 n f k).getD i 0 = bif decide (i < k) then f i else 0 := by simp [part0, List.getD_eq_getElem?_getD, h]
theorem part0_zero (n : Nat) (f : Nat → Int) : part0 n f 0 = List.replicate n 0 := by
  refine eq_of_getD (by simp) fun i hi => ?_
  simp only [List.length_replicate] at hi
  rw [part0_get hi, List.getD_eq_getElem?_getD, List.getElem?_replicate, if_pos hi]
  rfl
theorem part0_set {n : Nat} {f : Nat → Int} {k : Nat} {v : Int} (hk : k < n) (hv : v = f k) : part0 n f (k + 1) = (part0 n f k).set k v := by
  refine eq_of_getD (by simp) fun i hi => ?_
  simp only [List.length_set, length_part0] at hi
  rw [getD_set (by simpa using hk), part0_get hi, part0_get hi]
  by_cases e : i = k
  · subst e
    rw [if_pos rfl, hv]
    simp
  · rw [if_neg e]
    have : decide (i < k + 1) = decide (i < k) := by simp; omega
    rw [this]
theorem part0_all (n : Nat) (f : Nat → Int) : part0 n f n = (List.range n).map f := List.map_congr_left fun i hi => by
  have : decide (i < n) = true := by simpa using List.mem_range.1 hi
  rw [this]; rfl
/-! ### Joining. -/
abbrev pA (p : List Int) : Nat := (p.getD 0 0).toNat
abbrev pB (p : List Int) : Nat := (p.getD 1 0).toNat
def stepK (K : Nat → Nat → Bool) (p q : Nat) : Nat → Nat → Bool := fun a b => K a b || (K a p && K q b) || (K a q && K p b)
/-- Joined by the first m pairs. -/
def joinK (ps : List (Nat × Nat)) : Nat → Nat → Bool := ps.foldl (fun K p => stepK K p.1 p.2) (fun a b => a == b)
theorem joinK_nil : joinK [] = fun a b => a == b := rfl
theorem joinK_snoc (ps : List (Nat × Nat)) (p : Nat × Nat) : joinK (ps ++ [p]) = stepK (joinK ps) p.1 p.2 := by simp [joinK, List.foldl_append]
/-- Labels tell a relation. -/
def Ker (lab : List Int) (K : Nat → Nat → Bool) (n : Nat) : Prop := ∀ a b, a < n → b < n → kerB lab a b = K a b
theorem Ker.start {lab : List Int} {n : Nat} (h : ∀ i, i < n → lab.getD i 0 = (i : Int)) : Ker lab (joinK []) n := fun a b ha hb => by
  unfold kerB
  rw [h a ha, h b hb, joinK_nil, Bool.eq_iff_iff]
  simp only [beq_iff_eq]
  omega
theorem Ker.step {lab lab' : List Int} {K : Nat → Nat → Bool} {n p q : Nat} (h : Ker lab K n) (hp : p < n) (hq : q < n) (hs : ∀ i, i < n → lab'.getD i 0 = if lab.getD i 0 = lab.getD q 0 then lab.getD p 0 else lab.getD i 0) : Ker lab' (stepK K p q) n := fun a b ha hb => by
  unfold stepK
  rw [← h a b ha hb, ← h a p ha hp, ← h q b hq hb, ← h a q ha hq, ← h p b hp hb, Bool.eq_iff_iff]
  unfold kerB
  rw [hs a ha, hs b hb]
  simp only [beq_iff_eq, Bool.or_eq_true, Bool.and_eq_true]
  generalize lab.getD a 0 = x at *
  generalize lab.getD b 0 = y at *
  generalize lab.getD p 0 = u at *
  generalize lab.getD q 0 = v at *
  by_cases h1 : x = v
  · by_cases h2 : y = v
    · rw [if_pos h1, if_pos h2]; omega
    · rw [if_pos h1, if_neg h2]; omega
  · by_cases h2 : y = v
    · rw [if_neg h1, if_pos h2]; omega
    · rw [if_neg h1, if_neg h2]; omega
/-- The first k labels b are labels a. -/
def relab (xs : List Int) (a b : Int) (k : Nat) : List Int := (xs.take k).map (fun z => if z = b then a else z) ++ xs.drop k
@[simp] theorem length_relab (xs : List Int) (a b : Int) (k : Nat) : (relab xs a b k).length = xs.length := by simp [relab]; omega
theorem relab_zero (xs : List Int) (a b : Int) : relab xs a b 0 = xs := by simp [relab]
theorem relab_getD {xs : List Int} {a b : Int} {k i : Nat} (hi : i < xs.length) : (relab xs a b k).getD i 0 = if i < k then (if xs.getD i 0 = b then a else xs.getD i 0) else xs.getD i 0 := by
  unfold relab
  by_cases h : i < k
  · rw [if_pos h, List.getD_eq_getElem?_getD, List.getElem?_append_left (by simp; omega)]
    simp only [List.getElem?_map, List.getElem?_take, h, if_true, List.getD_eq_getElem?_getD]
    rw [List.getElem?_eq_getElem hi]
    simp
  · rw [if_neg h, List.getD_eq_getElem?_getD, List.getElem?_append_right (by simp; omega)]
    simp only [List.length_map, List.length_take, List.getElem?_drop, List.getD_eq_getElem?_getD]
    congr 2
    omega
theorem relab_T {xs : List Int} {a b : Int} {k : Nat} (hk : k < xs.length) (h : xs.getD k 0 = b) : relab xs a b (k + 1) = (relab xs a b k).set k a := by
  refine eq_of_getD (by simp) fun i hi => ?_
  simp only [List.length_set, length_relab] at hi
  rw [getD_set (by simpa using hk), relab_getD hi, relab_getD hi]
  by_cases e : i = k
  · subst e; rw [if_pos (by omega), if_pos h, if_pos rfl]
  · by_cases e2 : i < k
    · rw [if_pos (by omega), if_neg e, if_pos e2]
    · rw [if_neg (by omega), if_neg e, if_neg e2]
theorem relab_F {xs : List Int} {a b : Int} {k : Nat} (hk : k < xs.length) (h : ¬ xs.getD k 0 = b) : relab xs a b (k + 1) = relab xs a b k := by
  refine eq_of_getD (by simp) fun i hi => ?_
  simp only [length_relab] at hi
  rw [relab_getD hi, relab_getD hi]
  by_cases e : i = k
  · subst e; rw [if_pos (by omega), if_neg h, if_neg (by omega)]
  · by_cases e2 : i < k
    · rw [if_pos (by omega), if_pos e2]
    · rw [if_neg (by omega), if_neg e2]

def pairL (pss : List (List Int)) (k : Nat) : List (Nat × Nat) := (pss.take k).map fun p => (pA p, pB p)
theorem pairL_succ {pss : List (List Int)} {k : Nat} (h : k < pss.length) : pairL pss (k + 1) = pairL pss k ++ [(pA (pss.getD k []), pB (pss.getD k []))] := by
  have e1 : pss[k]? = some (pss.getD k []) := by rw [List.getD_eq_getElem?_getD (i := k), List.getElem?_eq_getElem h]; rfl
  unfold pairL
  rw [List.take_add_one, e1]; simp
theorem pairL_zero (pss : List (List Int)) : pairL pss 0 = [] := by simp [pairL]
theorem pairL_all (pss : List (List Int)) : pairL pss pss.length = pss.map fun p => (pA p, pB p) := by simp [pairL]
/-- What the inner loop of the joining leaves. -/
theorem Ker.relab {lab : List Int} {K : Nat → Nat → Bool} {n p q e : Nat} (h : Ker lab K n) (hl : lab.length = n) (hp : p < n) (hq : q < n) (he : e = n ∨ lab.getD p 0 = lab.getD q 0) : Ker (Go.GL.relab lab (lab.getD p 0) (lab.getD q 0) e) (stepK K p q) n := by
  refine h.step hp hq fun i hi => ?_
  rw [relab_getD (by omega)]
  rcases he with rfl | he
  · rw [if_pos hi]
  · by_cases hie : i < e
    · rw [if_pos hie]
    · rw [if_neg hie]
      by_cases hx : lab.getD i 0 = lab.getD q 0
      · rw [if_pos hx, he, hx]
      · rw [if_neg hx]

/-! ### Roots. -/
/-- Each element's parent is not above it. -/
structure Forest (j : List Int) : Prop where
  up : ∀ x, x < j.length → 0 ≤ j.getD x 0 ∧ j.getD x 0 ≤ (x : Int)
def rootF (j : List Int) : Nat → Nat → Nat
  | 0, x => x
  | f + 1, x => if (j.getD x 0).toNat < x then rootF j f (j.getD x 0).toNat else x
/-- The root of x. -/
def rootOf (j : List Int) (x : Nat) : Nat := rootF j (x + 1) x
theorem rootF_enough (j : List Int) : ∀ {f g x : Nat}, x < f → x < g → rootF j f x = rootF j g x
  | 0, _, _, h, _ => by omega
  | _, 0, _, _, h => by omega
  | f + 1, g + 1, x, hf, hg => by
    unfold rootF
    by_cases h : (j.getD x 0).toNat < x
    · rw [if_pos h, if_pos h]; exact rootF_enough j (by omega) (by omega)
    · rw [if_neg h, if_neg h]
theorem rootOf_step {j : List Int} {x : Nat} (h : (j.getD x 0).toNat < x) : rootOf j x = rootOf j (j.getD x 0).toNat := by
  unfold rootOf
  rw [show rootF j (x + 1) x = rootF j x (j.getD x 0).toNat by conv => lhs; unfold rootF; rw [if_pos h]]
  exact rootF_enough j h (by omega)
theorem rootOf_end {j : List Int} {x : Nat} (h : ¬ (j.getD x 0).toNat < x) : rootOf j x = x := by
  unfold rootOf rootF; rw [if_neg h]
theorem rootOf_le (j : List Int) (x : Nat) : rootOf j x ≤ x := by
  induction x using Nat.strongRecOn with
  | _ x ih =>
    by_cases h : (j.getD x 0).toNat < x
    · rw [rootOf_step h]; have := ih _ h; omega
    · rw [rootOf_end h]; exact Nat.le_refl _
theorem rootOf_root {j : List Int} (hF : Forest j) {x : Nat} (hx : x < j.length) : j.getD (rootOf j x) 0 = (rootOf j x : Int) := by
  induction x using Nat.strongRecOn with
  | _ x ih =>
    by_cases h : (j.getD x 0).toNat < x
    · rw [rootOf_step h]; exact ih _ h (by omega)
    · rw [rootOf_end h]; have := hF.up x hx; omega
theorem rootOf_fix {j : List Int} {x : Nat} (h : j.getD x 0 = (x : Int)) : rootOf j x = x := rootOf_end (by omega)
theorem rootOf_parent {j : List Int} (hF : Forest j) {x : Nat} (hx : x < j.length) : rootOf j (j.getD x 0).toNat = rootOf j x := by
  by_cases h : (j.getD x 0).toNat < x
  · exact (rootOf_step h).symm
  · have := hF.up x hx
    rw [show (j.getD x 0).toNat = x by omega]
/-- A parent that is a higher one of the same root: roots stay. -/
theorem rootOf_set {j : List Int} (hF : Forest j) {x y : Nat} (hx : x < j.length) (hy : y < x) (hr : rootOf j y = rootOf j x) : Forest (j.set x (y : Int)) ∧ ∀ z, z < j.length → rootOf (j.set x (y : Int)) z = rootOf j z := by
  have hF' : Forest (j.set x (y : Int)) := ⟨fun z hz => by
    rw [List.length_set] at hz
    rw [getD_set hx]
    by_cases e : z = x
    · subst e; simp; omega
    · rw [if_neg e]; exact hF.up z hz⟩
  refine ⟨hF', fun z => ?_⟩
  induction z using Nat.strongRecOn with
  | _ z ih =>
    intro hz
    have hg : (j.set x (y : Int)).getD z 0 = if z = x then (y : Int) else j.getD z 0 := getD_set hx
    by_cases e : z = x
    · subst e
      rw [if_pos rfl] at hg
      rw [rootOf_step (by rw [hg]; simpa using hy), hg, Int.toNat_natCast, ih y hy (by omega), hr]
    · rw [if_neg e] at hg
      by_cases h : (j.getD z 0).toNat < z
      · rw [rootOf_step (by rw [hg]; exact h), hg, ih _ h (by omega), rootOf_step h]
      · rw [rootOf_end (by rw [hg]; exact h), rootOf_end h]
/-- A root gets a parent. -/
theorem rootOf_join {j : List Int} (hF : Forest j) {x y : Nat} (hx : x < j.length) (hr : j.getD x 0 = (x : Int)) (hry : j.getD y 0 = (y : Int)) (hy : y ≤ x) : Forest (j.set x (y : Int)) ∧ ∀ z, z < j.length → rootOf (j.set x (y : Int)) z = if rootOf j z = x then y else rootOf j z := by
  have hF' : Forest (j.set x (y : Int)) := ⟨fun z hz => by
    rw [List.length_set] at hz
    rw [getD_set hx]
    by_cases e : z = x
    · subst e; simp; omega
    · rw [if_neg e]; exact hF.up z hz⟩
  refine ⟨hF', fun z => ?_⟩
  induction z using Nat.strongRecOn with
  | _ z ih =>
    intro hz
    have hg : (j.set x (y : Int)).getD z 0 = if z = x then (y : Int) else j.getD z 0 := getD_set hx
    by_cases e : z = x
    · subst e
      rw [if_pos rfl] at hg
      rw [rootOf_fix hr, if_pos rfl]
      by_cases e2 : y = z
      · subst e2; exact rootOf_fix (by rw [hg])
      · rw [rootOf_step (by rw [hg]; simp; omega), hg, Int.toNat_natCast, ih y (by omega) (by omega), rootOf_fix hry, if_neg e2]
    · rw [if_neg e] at hg
      by_cases h : (j.getD z 0).toNat < z
      · rw [rootOf_step (by rw [hg]; exact h), hg, ih _ h (by omega), rootOf_step h]
      · rw [rootOf_end (by rw [hg]; exact h), rootOf_end h, if_neg e]
/-- The roots of a forest tell a relation. -/
def RootK (j : List Int) (K : Nat → Nat → Bool) (n : Nat) : Prop := j.length = n ∧ Forest j ∧ ∀ a b, a < n → b < n → ((rootOf j a == rootOf j b) = K a b)
theorem RootK.start {j : List Int} {n : Nat} (hn : j.length = n) (h : ∀ i, i < n → j.getD i 0 = (i : Int)) : RootK j (joinK []) n := by
  refine ⟨hn, ⟨fun x hx => by rw [h x (by omega)]; omega⟩, fun a b ha hb => ?_⟩
  rw [rootOf_fix (h a ha), rootOf_fix (h b hb), joinK_nil]
theorem RootK.same {j j' : List Int} {K : Nat → Nat → Bool} {n : Nat} (h : RootK j K n) (hl : j'.length = j.length) (hF : Forest j') (hr : ∀ z, z < j.length → rootOf j' z = rootOf j z) : RootK j' K n :=
  ⟨by rw [hl]; exact h.1, hF, fun a b ha hb => by rw [hr a (by have := h.1; omega), hr b (by have := h.1; omega)]; exact h.2.2 a b ha hb⟩
theorem RootK.join {j : List Int} {K : Nat → Nat → Bool} {n p q : Nat} (h : RootK j K n) (hp : p < n) (hq : q < n) : RootK (j.set (max (rootOf j p) (rootOf j q)) ((min (rootOf j p) (rootOf j q) : Nat) : Int)) (stepK K p q) n := by
  obtain ⟨hl, hF, hk⟩ := h
  have lp := rootOf_le j p
  have lq := rootOf_le j q
  have rp := rootOf_root hF (x := p) (by omega)
  have rq := rootOf_root hF (x := q) (by omega)
  have hmx : j.getD (max (rootOf j p) (rootOf j q)) 0 = ((max (rootOf j p) (rootOf j q) : Nat) : Int) := by
    rcases Nat.le_total (rootOf j p) (rootOf j q) with h | h
    · rw [Nat.max_eq_right h]; exact rq
    · rw [Nat.max_eq_left h]; exact rp
  have hmn : j.getD (min (rootOf j p) (rootOf j q)) 0 = ((min (rootOf j p) (rootOf j q) : Nat) : Int) := by
    rcases Nat.le_total (rootOf j p) (rootOf j q) with h | h
    · rw [Nat.min_eq_left h]; exact rp
    · rw [Nat.min_eq_right h]; exact rq
  obtain ⟨k1, k2⟩ := rootOf_join hF (x := max (rootOf j p) (rootOf j q)) (y := min (rootOf j p) (rootOf j q)) (by omega) hmx hmn (by omega)
  refine ⟨by simpa using hl, k1, fun a b ha hb => ?_⟩
  rw [k2 a (by omega), k2 b (by omega)]
  unfold stepK
  rw [← hk a b ha hb, ← hk a p ha hp, ← hk q b hq hb, ← hk a q ha hq, ← hk p b hp hb, Bool.eq_iff_iff]
  simp only [beq_iff_eq, Bool.or_eq_true, Bool.and_eq_true]
  generalize rootOf j a = ra at *
  generalize rootOf j b = rb at *
  generalize rootOf j p = x at *
  generalize rootOf j q = y at *
  rcases Nat.le_total x y with h | h
  · rw [Nat.max_eq_right h, Nat.min_eq_left h]
    by_cases h1 : ra = y
    · by_cases h2 : rb = y
      · rw [if_pos h1, if_pos h2]; omega
      · rw [if_pos h1, if_neg h2]; omega
    · by_cases h2 : rb = y
      · rw [if_neg h1, if_pos h2]; omega
      · rw [if_neg h1, if_neg h2]; omega
  · rw [Nat.max_eq_left h, Nat.min_eq_right h]
    by_cases h1 : ra = x
    · by_cases h2 : rb = x
      · rw [if_pos h1, if_pos h2]; omega
      · rw [if_pos h1, if_neg h2]; omega
    · by_cases h2 : rb = x
      · rw [if_neg h1, if_pos h2]; omega
      · rw [if_neg h1, if_neg h2]; omega
/-- Labels that are roots. -/
theorem RootK.ker {j lab : List Int} {K : Nat → Nat → Bool} {n : Nat} (h : RootK j K n) (hl : ∀ i, i < n → lab.getD i 0 = (rootOf j i : Int)) : Ker lab K n := fun a b ha hb => by
  rw [← h.2.2 a b ha hb]
  unfold kerB
  rw [hl a ha, hl b hb, Bool.eq_iff_iff]
  simp only [beq_iff_eq]
  omega
theorem Ker.cls {lab : List Int} {K : Nat → Nat → Bool} {n : Nat} (h : Ker lab K n) : clsL (kerB lab) n = clsL K n := clsL_congr h
/-- The finest partition of n elements that joins pairs. -/
def joinL (n : Nat) (ps : List (Nat × Nat)) : List Int := clsL (joinK ps) n
@[simp] theorem length_joinL (n : Nat) (ps : List (Nat × Nat)) : (joinL n ps).length = n := by simp [joinL]
end Go.GL
/- Partitions: the reference's and the program's. No condition but those of each statement. -/
namespace Go.Proofs.Ytgnfekfdmgnhcaa
open Go Go.GL Go.RowKit Go.Proofs
theorem l01Index_c {a : Option Addr} {xs : List Int} {n : Int} {H : GHeap} (h : Ints H a xs := by assumption) (hl : xs.length ≤ 16777216 := by omega) :
    GCalls Try.prog 143 [.slice a xs.length xs.length, .int .i64 n] H (Ret (.int .i64 (idxL xs n)) H) := by
  refine GCalls.body (N := 19) (rs := [.tmp 4]) Try.func143 rfl rfl rfl rfl (fun Qx hret hend => ?_)
  refine .forget (fr' := [(0, some _), (1, some _)]) ⟨rfl, rfl, trivial⟩ ?_
  refine .seq (fun K1 hK1 => ?_)
  refine .region (.m rfl rfl rfl (.assign rfl) (.nil ?_))
  refine hK1 _ _ ?_
  refine .seq (fun K2 hK2 => ?_)
  refine .seq (fun K3 hK3 => ?_)
  refine .region (.m rfl rfl rfl (.assign rfl) (.nil ?_))
  refine hK3 _ _ ?_
  refine .block ?_
  refine .loopR (σ := Nat) [(0, some _), (1, some _)] (fun k => [(5, some (.int .i64 (k : Int)))]) (fun k H' => H = H' ∧ (k : Int) ≤ xs.length ∧ ∀ i, i < k → ¬ xs.getD i 0 = n) (fun k => (xs.length - k : Int).toNat) (0) ⟨rfl, rfl, trivial⟩ ⟨rfl, trivial⟩ ?_ ?_
  ·
   refine ⟨rfl, ?_⟩
   exact ⟨by omega, fun _ _ => by omega⟩
  rintro k _ ⟨rfl, hI⟩ KL1 hKL1
  refine .forget (fr' := [(5, some (.int .i64 (k : Int))), (0, some _), (1, some _)]) ⟨rfl, rfl, rfl, trivial⟩ ?_
  obtain ⟨hk1, ha1⟩ := hI
  refine .seq (fun K4 hK4 => ?_)
  refine .seq (fun K5 hK5 => ?_)
  refine .region (.m rfl rfl rfl (.move rfl) (.m rfl rfl rfl (.move rfl) (.m rfl rfl rfl (.len sl_22_A rfl) ?_)))
  refine .m rfl rfl rfl (.cmp rfl rfl rfl) (.nil ?_)
  refine hK5 _ _ ?_
  refine .cond rfl (fun h9 => ?_) (fun h9 => ?_)
  ·
   try simp only [sps] at h9
   refine .skip ?_
   refine hK4 _ _ ?_
   refine .seq (fun K6 hK6 => ?_)
   refine .block ?_
   refine .seq (fun K7 hK7 => ?_)
   refine .region (.m rfl rfl rfl (.move rfl) (.m rfl rfl rfl (.move rfl) ?_))
   refine .m rfl rfl rfl (.idxN sl_22_A (by assumption) rfl rfl (by omega)) ?_
   refine .m rfl rfl rfl (.loadI on_2_A (by assumption) rfl (by omega)) ?_
   refine .m rfl rfl rfl (.move rfl) (.m rfl rfl rfl (.cmp rfl rfl rfl) (.nil ?_))
   refine hK7 _ _ ?_
   refine .cond rfl (fun h17 => ?_) (fun h17 => ?_)
   ·
    try simp only [sps] at h17
    refine .seq (fun K8 hK8 => ?_)
    refine .region (.m rfl rfl rfl (.move rfl) (.m rfl rfl rfl (.assign rfl) (.nil ?_)))
    refine hK8 _ _ ?_
    refine .ret ?_
    refine hret _ _ ?_
    refine ⟨_, rfl, ?_⟩
    exact .of (congrArg _ (idxL_some (by omega) h17 ha1))
   try simp only [sps] at h17
   refine .skip ?_
   refine hK6 _ _ ?_
   refine .region (.m rfl rfl rfl (.move rfl) ?_)
   refine .m rfl rfl rfl (.add rfl rfl rfl (by omega) (by omega)) ?_
   refine .m rfl rfl rfl (.assign rfl) (.nil ?_)
   refine hKL1 (k + 1) _ _ ?_ ?_ ⟨rfl, rfl, rfl, trivial⟩
   ·
    refine ⟨rfl, ?_⟩
    refine ⟨by omega, fun i hx => ?_⟩
    by_cases hltq : i < k
    · exact ha1 i hltq
    · obtain rfl : i = k := by omega
      exact h17
   omega
  try simp only [sps] at h9
  refine .exit ?_
  refine hK2 _ _ ?_
  refine .seq (fun K9 hK9 => ?_)
  refine .region (.m rfl rfl rfl (.assign rfl) (.nil ?_))
  refine hK9 _ _ ?_
  refine .ret ?_
  refine hret _ _ ?_
  refine ⟨_, rfl, ?_⟩
  exact .of (congrArg _ (idxL_none fun j hj => ha1 j (by omega)))
theorem l01Classes_c {a : Option Addr} {xs : List Int} {H : GHeap} (h : Ints H a xs := by assumption) (hl : xs.length ≤ 1048576 := by omega) :
    GCalls Try.prog 132 [.slice a xs.length xs.length] H (NewInts 2 H (clsL (kerB xs) xs.length)) := by
  refine GCalls.body (N := 37) (rs := [.tmp 2]) Try.func132 rfl rfl rfl rfl (fun Qx hret hend => ?_)
  refine .forget (fr' := [(0, some _)]) ⟨rfl, trivial⟩ ?_
  have hle := GHeap.Le.refl H
  have base_h := h
  refine .seq (fun K1 hK1 => ?_)
  refine .region (.m rfl rfl rfl (.assign rfl) (.nil ?_))
  refine hK1 _ _ ?_
  refine .seq (fun K2 hK2 => ?_)
  refine .region ?_
  refine .r rfl rfl rfl (.litR rfl sl_22_A ze_2_E rfl rfl (by omega) (by omega) rfl rfl) ?_
  rintro _ H7 ⟨g7, rfl, le7, ge7, at7⟩
  have nx_H7 := le7.1
  replace hle := hle.trans le7
  have lt_at7 := GHeap.lt_of_get at7
  replace h := base_h.mono hle
  replace at7 : GHeap.get H7 g7 = some (.row (ints []) 2 true) := at7
  refine .r rfl rfl rfl (.litR rfl sl_22_A ze_2_E rfl rfl (by omega) (by omega) rfl rfl) ?_
  rintro _ H8 ⟨g8, rfl, le8, ge8, at8⟩
  have nx_H8 := le8.1
  replace hle := hle.trans le8
  replace at7 := le8.2 _ _ at7
  have lt_at8 := GHeap.lt_of_get at8
  replace h := base_h.mono hle
  replace at8 : GHeap.get H8 g8 = some (.row (ints []) 2 true) := at8
  refine .m rfl rfl rfl (.assign rfl) (.m rfl rfl rfl (.assign rfl) (.nil ?_))
  refine hK2 _ _ ?_
  refine .seq (fun K3 hK3 => ?_)
  refine .seq (fun K4 hK4 => ?_)
  refine .region (.m rfl rfl rfl (.assign rfl) (.nil ?_))
  refine hK4 _ _ ?_
  refine .block ?_
  refine .loopR (σ := Nat × Nat × Nat × Nat × Nat) [(0, some _)] (fun (k, gL3, nL3, gL4, nL4) => [(5, some (.int .i64 (k : Int))), (3, some (.slice (some ⟨gL3, 0, none⟩) nL3 nL3)), (4, some (.slice (some ⟨gL4, 0, none⟩) nL4 nL4))]) (fun (k, gL3, nL3, gL4, nL4) H' => St [g7, g8] H8 H' ∧ H'.get gL3 = some (.row (ints (clsL (kerB xs) k)) 2 true) ∧ (gL3 = g7 ∨ H8.next ≤ gL3) ∧ nL3 = (clsL (kerB xs) k).length ∧ H'.get gL4 = some (.row (ints (seenL xs k)) 2 true) ∧ (gL4 = g8 ∨ H8.next ≤ gL4) ∧ nL4 = (seenL xs k).length ∧ gL3 ≠ gL4 ∧ k ≤ xs.length) (fun (k, gL3, nL3, gL4, nL4) => xs.length - k) ((0, _, _, _, _)) ⟨rfl, trivial⟩ ⟨rfl, rfl, rfl, trivial⟩ ?_ ?_
  ·
   refine ⟨.refl _ _, by first | assumption | exact at7 | simpa using at7, .inl rfl, by first | rfl | assumption | simp | omega, by first | assumption | exact at8 | simpa using at8, .inl rfl, by first | rfl | assumption | simp | omega, by omega, ?_⟩
   omega
  rintro ⟨k, gL3, nL3, gL4, nL4⟩ HL1 ⟨lst1, at_L3, pl_L3, ln_L3, at_L4, pl_L4, ln_L4, ap1_0, hI⟩ KL1 hKL1
  refine .forget (fr' := [(5, some (.int .i64 (k : Int))), (3, some (.slice (some ⟨gL3, 0, none⟩) nL3 nL3)), (4, some (.slice (some ⟨gL4, 0, none⟩) nL4 nL4)), (0, some _)]) ⟨rfl, rfl, rfl, rfl, trivial⟩ ?_
  have ge_L3 : H.next ≤ gL3 := by omega
  have ge_L4 : H.next ≤ gL4 := by omega
  have nx_HL1 := lst1.nx
  replace hle := hle.st lst1 (fun k hk => ⟨by omega, by omega, trivial⟩)
  have lt_at_L3 := GHeap.lt_of_get at_L3
  have lt_at_L4 := GHeap.lt_of_get at_L4
  replace h := base_h.mono hle
  have i4 := Ints.of_get at_L4
  have hl3 : (clsL (kerB xs) k).length = k := length_clsL _ _
  have hl4 : (seenL xs k).length ≤ k := by rw [length_seenL]; exact reps_le _ _
  obtain rfl := ln_L4
  have hix := idxL_lt (seenL xs k) (xs.getD k 0)
  refine .seq (fun K5 hK5 => ?_)
  refine .seq (fun K6 hK6 => ?_)
  refine .region (.m rfl rfl rfl (.move rfl) (.m rfl rfl rfl (.move rfl) (.m rfl rfl rfl (.len sl_22_A rfl) ?_)))
  refine .m rfl rfl rfl (.cmp rfl rfl rfl) (.nil ?_)
  refine hK6 _ _ ?_
  refine .cond rfl (fun h12 => ?_) (fun h12 => ?_)
  ·
   try simp only [sps] at h12
   refine .skip ?_
   refine hK5 _ _ ?_
   refine .seq (fun K7 hK7 => ?_)
   refine .block ?_
   refine .seq (fun K8 hK8 => ?_)
   refine .region (.m rfl rfl rfl (.move rfl) (.m rfl rfl rfl (.move rfl) (.m rfl rfl rfl (.move rfl) ?_)))
   refine .m rfl rfl rfl (.idxN sl_22_A (by assumption) rfl rfl (by omega)) ?_
   refine .m rfl rfl rfl (.loadI on_2_A (by assumption) rfl (by omega)) ?_
   refine .callQ rfl rfl rfl rfl @Try.call143 rfl (l01Index_c) ?_
   refine .m rfl rfl rfl (.assign rfl) (.nil ?_)
   refine hK8 _ _ ?_
   refine .seq (fun K9 hK9 => ?_)
   refine .seq (fun K10 hK10 => ?_)
   refine .region (.m rfl rfl rfl (.move rfl) (.m rfl rfl rfl (.cmp rfl rfl rfl) (.nil ?_)))
   refine hK10 _ _ ?_
   refine .cond rfl (fun h22 => ?_) (fun h22 => ?_)
   ·
    try simp only [sps] at h22
    refine .seq (fun K11 hK11 => ?_)
    refine .region (.m rfl rfl rfl (.move rfl) (.m rfl rfl rfl (.len sl_22_A rfl) (.m rfl rfl rfl (.assign rfl) ?_)))
    refine .nil ?_
    refine hK11 _ _ ?_
    refine .region (.m rfl rfl rfl (.move rfl) (.m rfl rfl rfl (.move rfl) (.m rfl rfl rfl (.move rfl) ?_)))
    refine .m rfl rfl rfl (.idxN sl_22_A (by assumption) rfl rfl (by omega)) ?_
    refine .m rfl rfl rfl (.loadI on_2_A (by assumption) rfl (by omega)) ?_
    refine .r rfl rfl rfl (.litR rfl sl_22_A ze_2_E rfl rfl (by omega) (by omega) rfl rfl) ?_
    rintro _ H30 ⟨g30, rfl, le30, ge30, at30⟩
    have nx_H30 := le30.1
    replace hle := hle.trans le30
    replace lst1 := lst1.le le30
    replace at_L3 := le30.2 _ _ at_L3
    replace at_L4 := le30.2 _ _ at_L4
    have lt_at30 := GHeap.lt_of_get at30
    replace h := base_h.mono hle
    refine .r rfl rfl rfl (.appendI rfl sl_22_A ze_2_E rfl by_2_E sl_22_A rfl rfl (by assumption) (by assumption) (by first | omega | (simp <;> omega)) (by omega) (by omega)) ?_
    rintro _ H31 ⟨g31, rfl, st31, ge31, at31⟩
    have nx_H31 := st31.nx
    replace hle := hle.st st31 (fun k hk => ⟨by omega, trivial⟩)
    replace lst1 := lst1.st st31 (fun k hk ho => by simp only [out, and_true] at ho ⊢ <;> first | exact ho | exact ho.1 | exact ho.2 | exact ho.2.1 | exact ho.2.2 | exact ho.2.2.1 | exact ho.2.2.2 | omega)
    replace at_L3 := st31.same _ _ ⟨ap1_0, trivial⟩ at_L3
    have ne_g30_gL4 : g30 ≠ gL4 := by omega
    replace at30 := st31.same _ _ ⟨ne_g30_gL4, trivial⟩ at30
    have lt_at31 := GHeap.lt_of_get at31
    replace h := base_h.mono hle
    refine .m rfl rfl rfl (.assign rfl) (.nil ?_)
    refine hK9 _ _ ?_
    refine .region (.m rfl rfl rfl (.move rfl) (.m rfl rfl rfl (.move rfl) ?_))
    refine .r rfl rfl rfl (.litR rfl sl_22_A ze_2_E rfl rfl (by omega) (by omega) rfl rfl) ?_
    rintro _ H34 ⟨g34, rfl, le34, ge34, at34⟩
    have nx_H34 := le34.1
    replace hle := hle.trans le34
    replace lst1 := lst1.le le34
    replace at_L3 := le34.2 _ _ at_L3
    replace at30 := le34.2 _ _ at30
    replace at31 := le34.2 _ _ at31
    have lt_at34 := GHeap.lt_of_get at34
    replace h := base_h.mono hle
    refine .r rfl rfl rfl (.appendI rfl sl_22_A ze_2_E rfl by_2_E sl_22_A rfl rfl (by assumption) (by assumption) (by first | omega | (simp <;> omega)) (by omega) (by omega)) ?_
    rintro _ H35 ⟨g35, rfl, st35, ge35, at35⟩
    have nx_H35 := st35.nx
    replace hle := hle.st st35 (fun k hk => ⟨by omega, trivial⟩)
    replace lst1 := lst1.st st35 (fun k hk ho => by simp only [out, and_true] at ho ⊢ <;> first | exact ho | exact ho.1 | exact ho.2 | exact ho.2.1 | exact ho.2.2 | exact ho.2.2.1 | exact ho.2.2.2 | omega)
    have ne_g30_gL3 : g30 ≠ gL3 := by omega
    replace at30 := st35.same _ _ ⟨ne_g30_gL3, trivial⟩ at30
    have ne_g31_gL3 : g31 ≠ gL3 := by omega
    replace at31 := st35.same _ _ ⟨ne_g31_gL3, trivial⟩ at31
    have ne_g34_gL3 : g34 ≠ gL3 := by omega
    replace at34 := st35.same _ _ ⟨ne_g34_gL3, trivial⟩ at34
    have lt_at35 := GHeap.lt_of_get at35
    replace h := base_h.mono hle
    refine .m rfl rfl rfl (.assign rfl) (.nil ?_)
    refine hK7 _ _ ?_
    refine .region (.m rfl rfl rfl (.move rfl) ?_)
    refine .m rfl rfl rfl (.add rfl rfl rfl (by omega) (by omega)) ?_
    refine .m rfl rfl rfl (.assign rfl) (.nil ?_)
    refine hKL1 ((k + 1, _, _, _, _)) _ _ ?_ ?_ ⟨rfl, rfl, rfl, rfl, trivial⟩
    ·
     refine ⟨lst1, by first | assumption | (rw [(cls_new h22).1]; assumption) | (rw [(cls_new h22).2]; assumption) | (rw [(cls_old h22).1]; assumption) | (rw [(cls_old h22).2]; assumption), by omega, by first | omega | (simp only [List.length_append, List.length_cons, List.length_nil] <;> omega) | (rw [(cls_new h22).1] <;> (first | omega | (simp only [List.length_append, List.length_cons, List.length_nil] <;> omega))) | (rw [(cls_new h22).2] <;> (first | omega | (simp only [List.length_append, List.length_cons, List.length_nil] <;> omega))) | (rw [(cls_old h22).1] <;> (first | omega | (simp only [List.length_append, List.length_cons, List.length_nil] <;> omega))) | (rw [(cls_old h22).2] <;> (first | omega | (simp only [List.length_append, List.length_cons, List.length_nil] <;> omega))), by first | assumption | (rw [(cls_new h22).1]; assumption) | (rw [(cls_new h22).2]; assumption) | (rw [(cls_old h22).1]; assumption) | (rw [(cls_old h22).2]; assumption), by omega, by first | omega | (simp only [List.length_append, List.length_cons, List.length_nil] <;> omega) | (rw [(cls_new h22).1] <;> (first | omega | (simp only [List.length_append, List.length_cons, List.length_nil] <;> omega))) | (rw [(cls_new h22).2] <;> (first | omega | (simp only [List.length_append, List.length_cons, List.length_nil] <;> omega))) | (rw [(cls_old h22).1] <;> (first | omega | (simp only [List.length_append, List.length_cons, List.length_nil] <;> omega))) | (rw [(cls_old h22).2] <;> (first | omega | (simp only [List.length_append, List.length_cons, List.length_nil] <;> omega))), by omega, ?_⟩
     omega
    (dsimp only; omega)
   try simp only [sps] at h22
   refine .skip ?_
   refine hK9 _ _ ?_
   refine .region (.m rfl rfl rfl (.move rfl) (.m rfl rfl rfl (.move rfl) ?_))
   refine .r rfl rfl rfl (.litR rfl sl_22_A ze_2_E rfl rfl (by omega) (by omega) rfl rfl) ?_
   rintro _ H34x2 ⟨g34x2, rfl, le34x2, ge34x2, at34x2⟩
   have nx_H34x2 := le34x2.1
   replace hle := hle.trans le34x2
   replace lst1 := lst1.le le34x2
   replace at_L3 := le34x2.2 _ _ at_L3
   replace at_L4 := le34x2.2 _ _ at_L4
   have lt_at34x2 := GHeap.lt_of_get at34x2
   replace h := base_h.mono hle
   refine .r rfl rfl rfl (.appendI rfl sl_22_A ze_2_E rfl by_2_E sl_22_A rfl rfl (by assumption) (by assumption) (by first | omega | (simp <;> omega)) (by omega) (by omega)) ?_
   rintro _ H35x2 ⟨g35x2, rfl, st35x2, ge35x2, at35x2⟩
   have nx_H35x2 := st35x2.nx
   replace hle := hle.st st35x2 (fun k hk => ⟨by omega, trivial⟩)
   replace lst1 := lst1.st st35x2 (fun k hk ho => by simp only [out, and_true] at ho ⊢ <;> first | exact ho | exact ho.1 | exact ho.2 | exact ho.2.1 | exact ho.2.2 | exact ho.2.2.1 | exact ho.2.2.2 | omega)
   replace at_L4 := st35x2.same _ _ ⟨(Ne.symm ap1_0), trivial⟩ at_L4
   have ne_g34x2_gL3 : g34x2 ≠ gL3 := by omega
   replace at34x2 := st35x2.same _ _ ⟨ne_g34x2_gL3, trivial⟩ at34x2
   have lt_at35x2 := GHeap.lt_of_get at35x2
   replace h := base_h.mono hle
   refine .m rfl rfl rfl (.assign rfl) (.nil ?_)
   refine hK7 _ _ ?_
   refine .region (.m rfl rfl rfl (.move rfl) ?_)
   refine .m rfl rfl rfl (.add rfl rfl rfl (by omega) (by omega)) ?_
   refine .m rfl rfl rfl (.assign rfl) (.nil ?_)
   refine hKL1 ((k + 1, _, _, _, _)) _ _ ?_ ?_ ⟨rfl, rfl, rfl, rfl, trivial⟩
   ·
    refine ⟨lst1, by first | assumption | (rw [(cls_new h22).1]; assumption) | (rw [(cls_new h22).2]; assumption) | (rw [(cls_old h22).1]; assumption) | (rw [(cls_old h22).2]; assumption), by omega, by first | omega | (simp only [List.length_append, List.length_cons, List.length_nil] <;> omega) | (rw [(cls_new h22).1] <;> (first | omega | (simp only [List.length_append, List.length_cons, List.length_nil] <;> omega))) | (rw [(cls_new h22).2] <;> (first | omega | (simp only [List.length_append, List.length_cons, List.length_nil] <;> omega))) | (rw [(cls_old h22).1] <;> (first | omega | (simp only [List.length_append, List.length_cons, List.length_nil] <;> omega))) | (rw [(cls_old h22).2] <;> (first | omega | (simp only [List.length_append, List.length_cons, List.length_nil] <;> omega))), by first | assumption | (rw [(cls_new h22).1]; assumption) | (rw [(cls_new h22).2]; assumption) | (rw [(cls_old h22).1]; assumption) | (rw [(cls_old h22).2]; assumption), by omega, by first | omega | (simp only [List.length_append, List.length_cons, List.length_nil] <;> omega) | (rw [(cls_new h22).1] <;> (first | omega | (simp only [List.length_append, List.length_cons, List.length_nil] <;> omega))) | (rw [(cls_new h22).2] <;> (first | omega | (simp only [List.length_append, List.length_cons, List.length_nil] <;> omega))) | (rw [(cls_old h22).1] <;> (first | omega | (simp only [List.length_append, List.length_cons, List.length_nil] <;> omega))) | (rw [(cls_old h22).2] <;> (first | omega | (simp only [List.length_append, List.length_cons, List.length_nil] <;> omega))), by omega, ?_⟩
    omega
   (dsimp only; omega)
  try simp only [sps] at h12
  refine .exit ?_
  refine hK3 _ _ ?_
  refine .seq (fun K12 hK12 => ?_)
  refine .region (.m rfl rfl rfl (.move rfl) (.m rfl rfl rfl (.assign rfl) (.nil ?_)))
  refine hK12 _ _ ?_
  refine .ret ?_
  refine hret _ _ ?_
  refine ⟨_, rfl, ?_⟩
  obtain rfl : k = xs.length := by omega
  exact ⟨hle, _, by rw [ln_L3], at_L3, by omega⟩
theorem l01ClassesN_c {a : Option Addr} {n : Nat} {xs : List Int} {H : GHeap} (hn : xs.length = n) (h : Ints H a xs := by assumption) (hl : n ≤ 1048576 := by omega) :
    GCalls Try.prog 132 [.slice a n n] H (NewInts 2 H (clsL (kerB xs) n)) := by
  subst hn
  exact l01Classes_c h hl
set_option maxHeartbeats 4000000 in
theorem l01Join_c {a : Option Addr} {n : Nat} {pss : List (List Int)} {r : Nat → Option Addr} {H : GHeap} (h : Intss H a pss r := by assumption) (hn : n ≤ 1048576 := by omega) (hl : pss.length ≤ 1048576 := by omega)
    (hp : ∀ i, i < pss.length → 2 ≤ (pss.getD i []).length ∧ 0 ≤ (pss.getD i []).getD 0 0 ∧ (pss.getD i []).getD 0 0 < n ∧ 0 ≤ (pss.getD i []).getD 1 0 ∧ (pss.getD i []).getD 1 0 < n) :
    GCalls Try.prog 89 [.int .i64 (n : Int), .slice a pss.length pss.length] H (NewInts 2 H (joinL n (pss.map fun p => (pA p, pB p)))) := by
  refine GCalls.body (N := 68) (rs := [.tmp 4]) Try.func89 rfl rfl rfl rfl (fun Qx hret hend => ?_)
  refine .forget (fr' := [(0, some _), (1, some _)]) ⟨rfl, rfl, trivial⟩ ?_
  have hle := GHeap.Le.refl H
  have base_h := h
  refine .seq (fun K1 hK1 => ?_)
  refine .region (.m rfl rfl rfl (.assign rfl) (.nil ?_))
  refine hK1 _ _ ?_
  refine .seq (fun K2 hK2 => ?_)
  refine .region ?_
  refine .r rfl rfl rfl (.litR rfl sl_22_A ze_2_E rfl rfl (by omega) (by omega) rfl rfl) ?_
  rintro _ H11 ⟨g11, rfl, le11, ge11, at11⟩
  have nx_H11 := le11.1
  replace hle := hle.trans le11
  have lt_at11 := GHeap.lt_of_get at11
  replace h := base_h.mono hle
  replace at11 : GHeap.get H11 g11 = some (.row (ints []) 2 true) := at11
  refine .m rfl rfl rfl (.assign rfl) (.nil ?_)
  refine hK2 _ _ ?_
  refine .seq (fun K3 hK3 => ?_)
  refine .seq (fun K4 hK4 => ?_)
  refine .region (.m rfl rfl rfl (.assign rfl) (.nil ?_))
  refine hK4 _ _ ?_
  refine .block ?_
  refine .loopR (σ := Nat × Nat × Nat) [(0, some _), (1, some _)] (fun (k, gL5, nL5) => [(6, some (.int .i64 (k : Int))), (5, some (.slice (some ⟨gL5, 0, none⟩) nL5 nL5))]) (fun (k, gL5, nL5) H' => St [g11] H11 H' ∧ H'.get gL5 = some (.row (ints (numsL k)) 2 true) ∧ (gL5 = g11 ∨ H11.next ≤ gL5) ∧ nL5 = (numsL k).length ∧ k ≤ n) (fun (k, gL5, nL5) => n - k) ((0, _, _)) ⟨rfl, rfl, trivial⟩ ⟨rfl, rfl, trivial⟩ ?_ ?_
  ·
   refine ⟨.refl _ _, by first | assumption | exact at11 | simpa using at11, .inl rfl, by first | rfl | assumption | simp | omega, ?_⟩
   omega
  rintro ⟨k, gL5, nL5⟩ HL1 ⟨lst1, at_L5, pl_L5, ln_L5, hI⟩ KL1 hKL1
  refine .forget (fr' := [(6, some (.int .i64 (k : Int))), (5, some (.slice (some ⟨gL5, 0, none⟩) nL5 nL5)), (0, some _), (1, some _)]) ⟨rfl, rfl, rfl, rfl, trivial⟩ ?_
  have ge_L5 : H.next ≤ gL5 := by omega
  have nx_HL1 := lst1.nx
  replace hle := hle.st lst1 (fun k hk => ⟨by omega, trivial⟩)
  have lt_at_L5 := GHeap.lt_of_get at_L5
  replace h := base_h.mono hle
  have hl5 : (numsL k).length = k := length_numsL _
  refine .seq (fun K5 hK5 => ?_)
  refine .seq (fun K6 hK6 => ?_)
  refine .region (.m rfl rfl rfl (.move rfl) (.m rfl rfl rfl (.move rfl) (.m rfl rfl rfl (.cmp rfl rfl rfl) ?_)))
  refine .nil ?_
  refine hK6 _ _ ?_
  refine .cond rfl (fun h14 => ?_) (fun h14 => ?_)
  ·
   try simp only [sps] at h14
   refine .skip ?_
   refine hK5 _ _ ?_
   refine .seq (fun K7 hK7 => ?_)
   refine .block ?_
   refine .region (.m rfl rfl rfl (.move rfl) (.m rfl rfl rfl (.move rfl) ?_))
   refine .r rfl rfl rfl (.litR rfl sl_22_A ze_2_E rfl rfl (by omega) (by omega) rfl rfl) ?_
   rintro _ H19 ⟨g19, rfl, le19, ge19, at19⟩
   have nx_H19 := le19.1
   replace hle := hle.trans le19
   replace lst1 := lst1.le le19
   replace at_L5 := le19.2 _ _ at_L5
   have lt_at19 := GHeap.lt_of_get at19
   replace h := base_h.mono hle
   refine .r rfl rfl rfl (.appendI rfl sl_22_A ze_2_E rfl by_2_E sl_22_A rfl rfl (by assumption) (by assumption) (by first | omega | (simp <;> omega)) (by omega) (by omega)) ?_
   rintro _ H20 ⟨g20, rfl, st20, ge20, at20⟩
   have nx_H20 := st20.nx
   replace hle := hle.st st20 (fun k hk => ⟨by omega, trivial⟩)
   replace lst1 := lst1.st st20 (fun k hk ho => by simp only [out, and_true] at ho ⊢ <;> first | exact ho | exact ho.1 | exact ho.2 | exact ho.2.1 | exact ho.2.2 | exact ho.2.2.1 | exact ho.2.2.2 | omega)
   have ne_g19_gL5 : g19 ≠ gL5 := by omega
   replace at19 := st20.same _ _ ⟨ne_g19_gL5, trivial⟩ at19
   have lt_at20 := GHeap.lt_of_get at20
   replace h := base_h.mono hle
   refine .m rfl rfl rfl (.assign rfl) (.nil ?_)
   refine hK7 _ _ ?_
   refine .region (.m rfl rfl rfl (.move rfl) ?_)
   refine .m rfl rfl rfl (.add rfl rfl rfl (by omega) (by omega)) ?_
   refine .m rfl rfl rfl (.assign rfl) (.nil ?_)
   refine hKL1 ((k + 1, _, _)) _ _ ?_ ?_ ⟨rfl, rfl, rfl, rfl, trivial⟩
   ·
    refine ⟨lst1, by first | assumption | (rw [numsL_succ k]; assumption), by omega, by first | omega | (simp only [List.length_append, List.length_cons, List.length_nil] <;> omega) | (rw [numsL_succ k] <;> (first | omega | (simp only [List.length_append, List.length_cons, List.length_nil] <;> omega))), ?_⟩
    omega
   (dsimp only; omega)
  try simp only [sps] at h14
  refine .exit ?_
  refine hK3 _ _ ?_
  refine .seq (fun K8 hK8 => ?_)
  refine .seq (fun K9 hK9 => ?_)
  refine .region (.m rfl rfl rfl (.assign rfl) (.nil ?_))
  refine hK9 _ _ ?_
  refine .block ?_
  obtain rfl : k = n := by omega
  rw [length_numsL] at ln_L5
  obtain rfl := ln_L5.symm
  refine .loopR (σ := Nat × List Int) [(1, some _), (5, some _)] (fun (j, lab) => [(7, some (.int .i64 (j : Int)))]) (fun (j, lab) H' => St [gL5] HL1 H' ∧ H'.get gL5 = some (.row (ints lab) 2 true) ∧ j ≤ pss.length ∧ lab.length = k ∧ Ker lab (joinK (pairL pss j)) k) (fun (j, lab) => pss.length - j) ((0, numsL k)) ⟨rfl, rfl, trivial⟩ ⟨rfl, trivial⟩ ?_ ?_
  ·
   refine ⟨.refl _ _, by first | assumption | exact at_L5 | simpa using at_L5, ?_⟩
   exact ⟨by omega, length_numsL _, by rw [pairL_zero]; exact Ker.start fun i hi => numsL_get (by omega)⟩
  rintro ⟨j, lab⟩ HL2 ⟨lst2, at_L5, hI⟩ KL2 hKL2
  refine .forget (fr' := [(7, some (.int .i64 (j : Int))), (1, some _), (5, some _)]) ⟨rfl, rfl, rfl, trivial⟩ ?_
  have nx_HL2 := lst2.nx
  replace hle := hle.st lst2 (fun k hk => ⟨by omega, trivial⟩)
  replace lst1 := lst1.st lst2 (fun k hk ho => by simp only [out, and_true] at ho ⊢ <;> first | exact ho | exact ho.1 | exact ho.2 | exact ho.2.1 | exact ho.2.2 | exact ho.2.2.1 | exact ho.2.2.2 | omega)
  have lt_at_L5 := GHeap.lt_of_get at_L5
  replace h := base_h.mono hle
  obtain ⟨hj, hlab, hK⟩ := hI
  have i5 := Ints.of_get at_L5
  have i5s : SlA HL2 _ _ _ := i5
  rw [hlab] at i5s
  refine .seq (fun K10 hK10 => ?_)
  refine .seq (fun K11 hK11 => ?_)
  refine .region (.m rfl rfl rfl (.move rfl) (.m rfl rfl rfl (.move rfl) (.m rfl rfl rfl (.len sl_23_B rfl) ?_)))
  refine .m rfl rfl rfl (.cmp rfl rfl rfl) (.nil ?_)
  refine hK11 _ _ ?_
  refine .cond rfl (fun h24 => ?_) (fun h24 => ?_)
  ·
   simp only [sps] at h24
   have q1 := hp j (by omega)
   have q2 := h.2 j (by omega)
   have q3 : pA (pss.getD j []) < k := by unfold pA; omega
   have q4 : pB (pss.getD j []) < k := by unfold pB; omega
   have q2 := h.2 j (by omega)
   refine .skip ?_
   refine hK10 _ _ ?_
   refine .seq (fun K12 hK12 => ?_)
   refine .block ?_
   refine .seq (fun K13 hK13 => ?_)
   refine .regionD mixed_orders_B (.q 0 (.q 1 (.q 2 (.q 3 (.q 4 (.q 5 (.q 6 (.q 7 (.q 8 (.q 9 (.q 10 (.q 11 (.q 12 (.q 13 (.q 14 (.q 15 (.q 16 (.q 17 (.q 18 (.q 19 (.done))))))))))))))))))))) (by kernel_rfl) ?_
   refine .m rfl rfl rfl rfl (.refl _) (.move rfl) (.m rfl rfl rfl rfl (.refl _) (.move rfl) (.m rfl rfl rfl rfl (.refl _) (.move rfl) ?_))
   refine .m rfl rfl rfl rfl (.refl _) (.idxN sl_23_B (Intss.sl (by assumption)) rfl rfl (by omega)) ?_
   refine .m rfl rfl rfl rfl (.refl _) (.loadR on_22_B (by assumption) rfl (by omega)) ?_
   refine .m rfl rfl rfl rfl (.refl _) (.idxN (j := 0) sl_22_A (by assumption) rfl rfl (by omega)) ?_
   refine .m rfl rfl rfl rfl (.refl _) (.loadI on_2_A (by assumption) rfl (by omega)) ?_
   refine .m rfl rfl rfl rfl (.refl _) (.idx1 sl_22_A (by first | assumption | exact SlA.of_row at_L5 (by first | rfl | (simp; done) | (simp <;> omega))) rfl rfl (by omega) (by omega)) ?_
   refine .m rfl rfl rfl rfl (.refl _) (.loadI on_2_A (by first | assumption | exact Ints.of_get at_L5) rfl (by omega)) ?_
   refine .m rfl rfl rfl rfl (.refl _) (.move rfl) (.m rfl rfl rfl rfl (.refl _) (.move rfl) (.m rfl rfl rfl rfl (.refl _) (.move rfl) ?_))
   refine .m rfl rfl rfl rfl (.refl _) (.idxN sl_23_B (Intss.sl (by assumption)) rfl rfl (by omega)) ?_
   refine .m rfl rfl rfl rfl (.refl _) (.loadR on_22_B (by assumption) rfl (by omega)) ?_
   refine .m rfl rfl rfl rfl (.refl _) (.idxN (j := 1) sl_22_A (by assumption) rfl rfl (by omega)) ?_
   refine .m rfl rfl rfl rfl (.refl _) (.loadI on_2_A (by assumption) rfl (by omega)) ?_
   refine .m rfl rfl rfl rfl (.refl _) (.idx1 sl_22_A (by first | assumption | exact SlA.of_row at_L5 (by first | rfl | (simp; done) | (simp <;> omega))) rfl rfl (by omega) (by omega)) ?_
   refine .m rfl rfl rfl rfl (.refl _) (.loadI on_2_A (by first | assumption | exact Ints.of_get at_L5) rfl (by omega)) ?_
   refine .m rfl rfl rfl rfl (.refl _) (.assign rfl) (.m rfl rfl rfl rfl (.refl _) (.assign rfl) ?_)
   refine .done ?_
   refine hK13 _ _ ?_
   refine .seq (fun K14 hK14 => ?_)
   refine .region (.m rfl rfl rfl (.assign rfl) (.nil ?_))
   refine hK14 _ _ ?_
   refine .block ?_
   refine .loopR (σ := Nat) [(1, some _), (5, some _), (7, some _), (8, some _), (9, some _)] (fun e => [(10, some (.int .i64 (e : Int)))]) (fun e H' => St [gL5] HL2 H' ∧ H'.get gL5 = some (.row (ints (relab lab (lab.getD (pA (pss.getD j [])) 0) (lab.getD (pB (pss.getD j [])) 0) e)) 2 true) ∧ e ≤ lab.length) (fun e => lab.length - e) (0) ⟨rfl, rfl, rfl, rfl, rfl, trivial⟩ ⟨rfl, trivial⟩ ?_ ?_
   ·
    refine ⟨.refl _ _, by rw [relab_zero]; assumption, ?_⟩
    omega
   rintro e HL3 ⟨lst3, at_L5, hI⟩ KL3 hKL3
   refine .forget (fr' := [(10, some (.int .i64 (e : Int))), (1, some _), (5, some _), (7, some _), (8, some _), (9, some _)]) ⟨rfl, rfl, rfl, rfl, rfl, rfl, trivial⟩ ?_
   have nx_HL3 := lst3.nx
   replace hle := hle.st lst3 (fun k hk => ⟨by omega, trivial⟩)
   replace lst1 := lst1.st lst3 (fun k hk ho => by simp only [out, and_true] at ho ⊢ <;> first | exact ho | exact ho.1 | exact ho.2 | exact ho.2.1 | exact ho.2.2 | exact ho.2.2.1 | exact ho.2.2.2 | omega)
   replace lst2 := lst2.st lst3 (fun k hk ho => by simp only [out, and_true] at ho ⊢ <;> first | exact ho | exact ho.1 | exact ho.2 | exact ho.2.1 | exact ho.2.2 | exact ho.2.2.1 | exact ho.2.2.2 | omega)
   have lt_at_L5 := GHeap.lt_of_get at_L5
   replace h := base_h.mono hle
   clear q2
   have q2 := h.2 j (by omega)
   have i5 := Ints.of_get at_L5
   have hlr := length_relab lab (lab.getD (pA (pss.getD j [])) 0) (lab.getD (pB (pss.getD j [])) 0) e
   have i5s : SlA HL3 _ _ _ := i5
   rw [hlr, hlab] at i5s
   refine .seq (fun K15 hK15 => ?_)
   refine .seq (fun K16 hK16 => ?_)
   refine .region (.m rfl rfl rfl (.move rfl) (.m rfl rfl rfl (.move rfl) (.m rfl rfl rfl (.len sl_22_A rfl) ?_)))
   refine .m rfl rfl rfl (.cmp rfl rfl rfl) (.m rfl rfl rfl (.move rfl) ?_)
   refine .split (fun h49 => ?_) (fun h49 => ?_)
   ·
    try simp only [sps] at h49
    refine .mg rfl rfl rfl rfl rfl (.move rfl) (.mg rfl rfl rfl rfl rfl (.move rfl) (.mg rfl rfl rfl rfl rfl (.cmp rfl rfl rfl) (.m rfl rfl rfl (.pickT rfl rfl) ?_)))
    refine .nil ?_
    refine hK16 _ _ ?_
    refine .cond rfl (fun h53 => ?_) (fun h53 => ?_)
    ·
     try simp only [sps] at h53
     refine .skip ?_
     refine hK15 _ _ ?_
     refine .seq (fun K17 hK17 => ?_)
     refine .block ?_
     refine .seq (fun K18 hK18 => ?_)
     refine .region (.m rfl rfl rfl (.move rfl) (.m rfl rfl rfl (.move rfl) ?_))
     refine .m rfl rfl rfl (.idxN sl_22_A (by first | assumption | exact SlA.of_row at_L5 (by first | rfl | (simp; done) | (simp <;> omega))) rfl rfl (by omega)) ?_
     refine .m rfl rfl rfl (.loadI on_2_A (by first | assumption | exact Ints.of_get at_L5) rfl (by omega)) ?_
     refine .m rfl rfl rfl (.move rfl) (.m rfl rfl rfl (.cmp rfl rfl rfl) (.nil ?_))
     refine hK18 _ _ ?_
     refine .cond rfl (fun h61 => ?_) (fun h61 => ?_)
     ·
      simp only [sps] at h61
      rw [relab_getD (by omega), if_neg (by omega)] at h61
      refine .region (.m rfl rfl rfl (.move rfl) (.m rfl rfl rfl (.move rfl) (.m rfl rfl rfl (.move rfl) ?_)))
      refine .m rfl rfl rfl (.idxN sl_22_A (by first | assumption | exact SlA.of_row at_L5 (by first | rfl | (simp; done) | (simp <;> omega))) rfl rfl (by omega)) ?_
      refine .r0 rfl rfl (.storeI rfl sz_2_E rfl rfl (by assumption) (by first | omega | (simp <;> omega))) ?_
      rintro _ H14004 ⟨rfl, st14004, at14004⟩
      have nx_H14004 := st14004.nx
      replace hle := hle.st st14004 (fun k hk => ⟨by omega, trivial⟩)
      replace lst1 := lst1.st st14004 (fun k hk ho => by simp only [out, and_true] at ho ⊢ <;> first | exact ho | exact ho.1 | exact ho.2 | exact ho.2.1 | exact ho.2.2 | exact ho.2.2.1 | exact ho.2.2.2 | omega)
      replace lst2 := lst2.st st14004 (fun k hk ho => by simp only [out, and_true] at ho ⊢ <;> first | exact ho | exact ho.1 | exact ho.2 | exact ho.2.1 | exact ho.2.2 | exact ho.2.2.1 | exact ho.2.2.2 | omega)
      replace lst3 := lst3.st st14004 (fun k hk ho => by simp only [out, and_true] at ho ⊢ <;> first | exact ho | exact ho.1 | exact ho.2 | exact ho.2.1 | exact ho.2.2 | exact ho.2.2.1 | exact ho.2.2.2 | omega)
      have lt_at14004 := GHeap.lt_of_get at14004
      replace h := base_h.mono hle
      clear q2
      have q2 := h.2 j (by omega)
      refine .nil ?_
      refine hK17 _ _ ?_
      refine .region (.m rfl rfl rfl (.move rfl) ?_)
      refine .m rfl rfl rfl (.add rfl rfl rfl (by omega) (by omega)) ?_
      refine .m rfl rfl rfl (.assign rfl) (.nil ?_)
      refine hKL3 (e + 1) _ _ ?_ ?_ ⟨rfl, rfl, rfl, rfl, rfl, rfl, trivial⟩
      ·
       refine ⟨lst3, by first | (rw [relab_T (b := lab.getD (pB (pss.getD j [])) 0) (by omega) h61]; have e9 := at14004; rw [Nat.zero_add] at e9; exact e9) | (rw [relab_F (b := lab.getD (pB (pss.getD j [])) 0) (by omega) h61]; assumption), ?_⟩
       omega
      omega
     simp only [sps] at h61
     rw [relab_getD (by omega), if_neg (by omega)] at h61
     refine .skip ?_
     refine hK17 _ _ ?_
     refine .region (.m rfl rfl rfl (.move rfl) ?_)
     refine .m rfl rfl rfl (.add rfl rfl rfl (by omega) (by omega)) ?_
     refine .m rfl rfl rfl (.assign rfl) (.nil ?_)
     refine hKL3 (e + 1) _ _ ?_ ?_ ⟨rfl, rfl, rfl, rfl, rfl, rfl, trivial⟩
     ·
      refine ⟨lst3, by first | (rw [relab_T (b := lab.getD (pB (pss.getD j [])) 0) (by omega) h61]; have e9 := at14004; rw [Nat.zero_add] at e9; exact e9) | (rw [relab_F (b := lab.getD (pB (pss.getD j [])) 0) (by omega) h61]; assumption), ?_⟩
      omega
     omega
    simp only [sps] at h53
    refine .exit ?_
    refine hK12 _ _ ?_
    refine .region (.m rfl rfl rfl (.move rfl) ?_)
    refine .m rfl rfl rfl (.add rfl rfl rfl (by omega) (by omega)) ?_
    refine .m rfl rfl rfl (.assign rfl) (.nil ?_)
    refine hKL2 ((j + 1, relab lab (lab.getD (pA (pss.getD j [])) 0) (lab.getD (pB (pss.getD j [])) 0) e)) _ _ ?_ ?_ ⟨rfl, rfl, rfl, trivial⟩
    ·
     refine ⟨lst2, by assumption, ?_⟩
     exact ⟨by omega, by rw [length_relab]; omega, by rw [pairL_succ (by omega), joinK_snoc]; exact hK.relab hlab (by omega) (by omega) (by first | exact .inl (by omega) | exact .inr h53)⟩
    (dsimp only; omega)
   simp only [sps] at h49
   refine .sg rfl rfl rfl rfl rfl (.sg rfl rfl rfl rfl rfl (.sg rfl rfl rfl rfl rfl (.m rfl rfl rfl (.pickF rfl rfl) ?_)))
   refine .nil ?_
   refine hK16 _ _ ?_
   refine .condF rfl ?_
   refine .exit ?_
   refine hK12 _ _ ?_
   refine .region (.m rfl rfl rfl (.move rfl) ?_)
   refine .m rfl rfl rfl (.add rfl rfl rfl (by omega) (by omega)) ?_
   refine .m rfl rfl rfl (.assign rfl) (.nil ?_)
   refine hKL2 ((j + 1, relab lab (lab.getD (pA (pss.getD j [])) 0) (lab.getD (pB (pss.getD j [])) 0) e)) _ _ ?_ ?_ ⟨rfl, rfl, rfl, trivial⟩
   ·
    refine ⟨lst2, by assumption, ?_⟩
    exact ⟨by omega, by rw [length_relab]; omega, by rw [pairL_succ (by omega), joinK_snoc]; exact hK.relab hlab (by omega) (by omega) (by first | exact .inl (by omega) | exact .inr h53)⟩
   (dsimp only; omega)
  try simp only [sps] at h24
  refine .exit ?_
  refine hK8 _ _ ?_
  refine .seq (fun K19 hK19 => ?_)
  refine .region ?_
  obtain rfl : j = pss.length := by omega
  refine .m rfl rfl rfl (.move rfl) ?_
  refine .call rfl rfl rfl rfl @Try.call132 rfl (l01ClassesN_c hlab) ?_
  rintro _ H67 ⟨le67, g67, rfl, at67, ge67⟩
  have nx_H67 := le67.1
  replace hle := hle.trans le67
  replace lst1 := lst1.le le67
  replace at_L5 := le67.2 _ _ at_L5
  have lt_at67 := GHeap.lt_of_get at67
  replace h := base_h.mono hle
  have i67 := Ints.of_get at67
  refine .m rfl rfl rfl (.assign rfl) (.nil ?_)
  refine hK19 _ _ ?_
  refine .ret ?_
  refine hret _ _ ?_
  refine ⟨_, rfl, ?_⟩
  rw [pairL_all] at hK
  have e1 := hK.cls
  exact ⟨hle, g67, by rw [length_joinL, length_clsL], by unfold joinL; rw [← e1]; exact at67, by omega⟩
theorem l01JoinN_c {a : Option Addr} {n' : Int} {n L : Nat} {pss : List (List Int)} {r : Nat → Option Addr} {H : GHeap} (hn' : n' = (n : Int)) (hL : pss.length = L) (h : Intss H a pss r) (hn : n ≤ 1048576) (hl : L ≤ 1048576)
    (hp : ∀ i, i < pss.length → 2 ≤ (pss.getD i []).length ∧ 0 ≤ (pss.getD i []).getD 0 0 ∧ (pss.getD i []).getD 0 0 < n ∧ 0 ≤ (pss.getD i []).getD 1 0 ∧ (pss.getD i []).getD 1 0 < n) :
    GCalls Try.prog 89 [.int .i64 n', .slice a L L] H (NewInts 2 H (joinL n (pss.map fun p => (pA p, pB p)))) := by
  subst hn' hL
  exact l01Join_c h hn hl hp
theorem l01JoinM_c {a : Option Addr} {n' : Int} {n L : Nat} {pss : List (List Int)} {r : Nat → Option Addr} {cs : List Int} {H : GHeap} (hcs : joinL n (pss.map fun p => (pA p, pB p)) = cs) (hn' : n' = (n : Int)) (hL : pss.length = L) (h : Intss H a pss r) (hn : n ≤ 1048576) (hl : L ≤ 1048576)
    (hp : ∀ i, i < pss.length → 2 ≤ (pss.getD i []).length ∧ 0 ≤ (pss.getD i []).getD 0 0 ∧ (pss.getD i []).getD 0 0 < n ∧ 0 ≤ (pss.getD i []).getD 1 0 ∧ (pss.getD i []).getD 1 0 < n) :
    GCalls Try.prog 89 [.int .i64 n', .slice a L L] H (NewInts 2 H cs) := by
  subst hcs
  exact l01JoinN_c hn' hL h hn hl hp
end Go.Proofs.Ytgnfekfdmgnhcaa
/- Partitions: the program's joiner. No condition but those of each statement. -/
namespace Go.Proofs.Ytgnfekfdmgnhcaa
open Go Go.GL Go.RowKit Go.Proofs
theorem sl_128_Pb : sliceT Try.prog 128 = some (2, 1) := by kernel_rfl
theorem sl_106_Pb : sliceT Try.prog 106 = some (2, 1) := by kernel_rfl
theorem mp_183_Pb : mapIT Try.prog 183 = some 2 := by kernel_rfl
theorem zv_2_Pb : zvT Try.prog 2 = some (.int .i64 0) := by kernel_rfl
theorem joinerOf_c {n : Int} {H : GHeap} (h0 : 0 ≤ n := by omega) (hn : n ≤ 1048576 := by omega) : GCalls Try.prog 93 [.int .i64 n] H (NewInts 2 H (numsL n.toNat)) := by
  refine GCalls.body (N := 5) (rs := [.tmp 2]) Try.func93 rfl rfl rfl rfl (fun Qx hret hend => ?_)
  refine .forget (fr' := [(0, some _)]) ⟨rfl, trivial⟩ ?_
  have hle := GHeap.Le.refl H
  refine .seq (fun K1 hK1 => ?_)
  refine .region (.m rfl rfl rfl (.assign rfl) (.nil ?_))
  refine hK1 _ _ ?_
  refine .seq (fun K2 hK2 => ?_)
  refine .region (.m rfl rfl rfl (.move rfl) ?_)
  refine .call rfl rfl rfl rfl @Try.call136 rfl (numbers_c) ?_
  rintro _ H4 ⟨le4, g4, rfl, at4, ge4⟩
  have nx_H4 := le4.1
  replace hle := hle.trans le4
  have lt_at4 := GHeap.lt_of_get at4
  have i4 := Ints.of_get at4
  refine .m rfl rfl rfl (.assign rfl) (.nil ?_)
  refine hK2 _ _ ?_
  refine .ret ?_
  refine hret _ _ ?_
  refine ⟨_, rfl, ?_⟩
  exact ⟨hle, g4, rfl, at4, by omega⟩
theorem root_c {g N : Nat} {x : Int} {js : List Int} {H : GHeap} (hg : H.get g = some (.row (ints js) 2 true) := by assumption) (hF : Forest js := by assumption) (hN : js.length = N := by assumption) (hn : N ≤ 1048576 := by omega) (h0 : 0 ≤ x := by omega) (hx : x < N := by omega) :
    GCalls Try.prog 137 [.slice (some ⟨g, 0, none⟩) N N, .int .i64 x] H (fun v H' => v = .int .i64 (rootOf js x.toNat : Int) ∧ St [g] H H' ∧ ∃ js', H'.get g = some (.row (ints js') 2 true) ∧ js'.length = N ∧ Forest js' ∧ ∀ z, z < N → rootOf js' z = rootOf js z) := by
  refine GCalls.body (N := 26) (rs := [.tmp 4]) Try.func137 rfl rfl rfl rfl (fun Qx hret hend => ?_)
  refine .forget (fr' := [(0, some _), (1, some _)]) ⟨rfl, rfl, trivial⟩ ?_
  have lt_hg := GHeap.lt_of_get hg
  refine .seq (fun K1 hK1 => ?_)
  refine .region (.m rfl rfl rfl (.assign rfl) (.nil ?_))
  refine hK1 _ _ ?_
  refine .seq (fun K2 hK2 => ?_)
  refine .block ?_
  refine .loopR (σ := Int × List Int) [(0, some _)] (fun (y, ks) => [(1, some (.int .i64 y))]) (fun (y, ks) H' => St [g] H H' ∧ H'.get g = some (.row (ints ks) 2 true) ∧ 0 ≤ y ∧ y < N ∧ ks.length = N ∧ Forest ks ∧ (∀ z, z < N → rootOf ks z = rootOf js z) ∧ rootOf js y.toNat = rootOf js x.toNat) (fun (y, ks) => y.toNat) ((x, js)) ⟨rfl, trivial⟩ ⟨rfl, trivial⟩ ?_ ?_
  ·
   refine ⟨.refl _ _, by first | assumption | exact hg | simpa using hg, ?_⟩
   exact ⟨by omega, by omega, hN, hF, fun _ _ => rfl, rfl⟩
  rintro ⟨y, ks⟩ HL1 ⟨lst1, at_L0, hI⟩ KL1 hKL1
  refine .forget (fr' := [(1, some (.int .i64 y)), (0, some _)]) ⟨rfl, rfl, trivial⟩ ?_
  have nx_HL1 := lst1.nx
  have lt_at_L0 := GHeap.lt_of_get at_L0
  obtain ⟨hy0, hy, hkl, hkF, hkr, hyr⟩ := hI
  have i0 := Ints.of_get at_L0
  have i0s : SlA HL1 _ _ _ := i0
  rw [hkl] at i0s
  have u1 := hkF.up y.toNat (by omega)
  refine .seq (fun K3 hK3 => ?_)
  refine .seq (fun K4 hK4 => ?_)
  refine .region (.m rfl rfl rfl (.move rfl) (.m rfl rfl rfl (.move rfl) ?_))
  refine .m rfl rfl rfl (.idx1 sl_128_Pb (by first | assumption | exact SlA.of_row at_L0 (by first | rfl | (simp; done) | (simp <;> omega))) rfl rfl (by omega) (by omega)) ?_
  refine .m rfl rfl rfl (.loadI on_2_A (by first | assumption | exact Ints.of_get at_L0) rfl (by omega)) ?_
  refine .m rfl rfl rfl (.move rfl) (.m rfl rfl rfl (.cmp rfl rfl rfl) (.nil ?_))
  refine hK4 _ _ ?_
  refine .cond rfl (fun h10 => ?_) (fun h10 => ?_)
  ·
   simp only [sps] at h10
   have u2 := hkF.up (ks.getD y.toNat 0).toNat (by omega)
   refine .skip ?_
   refine hK3 _ _ ?_
   refine .block ?_
   refine .seq (fun K5 hK5 => ?_)
   refine .region (.m rfl rfl rfl (.move rfl) (.m rfl rfl rfl (.move rfl) (.m rfl rfl rfl (.move rfl) ?_)))
   refine .m rfl rfl rfl (.move rfl) (.m rfl rfl rfl (.move rfl) ?_)
   refine .m rfl rfl rfl (.idx1 sl_128_Pb (by first | assumption | exact SlA.of_row at_L0 (by first | rfl | (simp; done) | (simp <;> omega))) rfl rfl (by omega) (by omega)) ?_
   refine .m rfl rfl rfl (.loadI on_2_A (by first | assumption | exact Ints.of_get at_L0) rfl (by omega)) ?_
   refine .m rfl rfl rfl (.idx1 sl_128_Pb (by first | assumption | exact SlA.of_row at_L0 (by first | rfl | (simp; done) | (simp <;> omega))) rfl rfl (by omega) (by omega)) ?_
   refine .m rfl rfl rfl (.loadI on_2_A (by first | assumption | exact Ints.of_get at_L0) rfl (by omega)) ?_
   refine .m rfl rfl rfl (.idx1 sl_128_Pb (by first | assumption | exact SlA.of_row at_L0 (by first | rfl | (simp; done) | (simp <;> omega))) rfl rfl (by omega) (by omega)) ?_
   refine .r0 rfl rfl (.storeI rfl sz_2_E rfl rfl (by assumption) (by first | omega | (simp <;> omega))) ?_
   rintro _ H2010 ⟨rfl, st2010, at2010⟩
   have nx_H2010 := st2010.nx
   replace lst1 := lst1.st st2010 (fun k hk ho => by simp only [out, and_true] at ho ⊢ <;> first | exact ho | exact ho.1 | exact ho.2 | exact ho.2.1 | exact ho.2.2 | exact ho.2.2.1 | exact ho.2.2.2 | omega)
   have lt_at2010 := GHeap.lt_of_get at2010
   rw [Nat.zero_add] at at2010
   refine .nil ?_
   refine hK5 _ _ ?_
   refine .region ?_
   have i9 := Ints.of_get at2010
   have i9s : SlA H2010 _ _ _ := i9
   rw [List.length_set, hkl] at i9s
   have hls : (ks.set y.toNat (ks.getD (ks.getD y.toNat 0).toNat 0)).length = ks.length := List.length_set
   refine .m rfl rfl rfl (.move rfl) (.m rfl rfl rfl (.move rfl) ?_)
   refine .m rfl rfl rfl (.idx1 sl_128_Pb (by first | assumption | exact SlA.of_row at2010 (by first | rfl | (simp; done) | (simp <;> omega))) rfl rfl (by omega) (by omega)) ?_
   refine .m rfl rfl rfl (.loadI on_2_A (by first | assumption | exact Ints.of_get at2010) rfl (by omega)) ?_
   refine .m rfl rfl rfl (.assign rfl) (.nil ?_)
   refine hKL1 (((ks.set y.toNat (ks.getD (ks.getD y.toNat 0).toNat 0)).getD y.toNat 0, ks.set y.toNat (ks.getD (ks.getD y.toNat 0).toNat 0))) _ _ ?_ ?_ ⟨rfl, rfl, trivial⟩
   ·
    refine ⟨lst1, by assumption, ?_⟩
    obtain ⟨f1, f2⟩ := rootOf_set hkF (x := y.toNat) (y := (ks.getD (ks.getD y.toNat 0).toNat 0).toNat) (by omega) (by omega) (by rw [rootOf_parent hkF (by omega), rootOf_parent hkF (by omega)])
    rw [Int.toNat_of_nonneg u2.1] at f1 f2
    have hgy : (ks.set y.toNat (ks.getD (ks.getD y.toNat 0).toNat 0)).getD y.toNat 0 = ks.getD (ks.getD y.toNat 0).toNat 0 := by rw [getD_set (by omega), if_pos rfl]
    rw [hgy]
    refine ⟨by omega, by omega, by rw [List.length_set]; exact hkl, f1, fun z hz => by rw [f2 z (by omega)]; exact hkr z hz, ?_⟩
    rw [← hkr _ (by omega), rootOf_parent hkF (by omega), rootOf_parent hkF (by omega), hkr _ (by omega)]
    exact hyr
   have hgy : (ks.set y.toNat (ks.getD (ks.getD y.toNat 0).toNat 0)).getD y.toNat 0 = ks.getD (ks.getD y.toNat 0).toNat 0 := by rw [getD_set (by omega), if_pos rfl]
   dsimp only
   rw [hgy]
   omega
  simp only [sps] at h10
  refine .exit ?_
  refine hK2 _ _ ?_
  refine .seq (fun K6 hK6 => ?_)
  refine .region (.m rfl rfl rfl (.move rfl) (.m rfl rfl rfl (.assign rfl) (.nil ?_)))
  refine hK6 _ _ ?_
  refine .ret ?_
  refine hret _ _ ?_
  refine ⟨_, rfl, ?_⟩
  have e1 : rootOf ks y.toNat = y.toNat := rootOf_fix (by omega)
  refine ⟨?_, lst1, ks, at_L0, hkl, hkF, hkr⟩
  rw [← hyr, ← hkr _ (by omega), e1, Int.toNat_of_nonneg hy0]
theorem join_c {g N : Nat} {p q : Int} {js : List Int} {K : Nat → Nat → Bool} {H : GHeap} (hg : H.get g = some (.row (ints js) 2 true) := by assumption) (hK : RootK js K N := by assumption) (hn : N ≤ 1048576 := by omega) (h0 : 0 ≤ p := by omega) (hp : p < N := by omega) (h1 : 0 ≤ q := by omega) (hq : q < N := by omega) :
    GCalls Try.prog 95 [.slice (some ⟨g, 0, none⟩) N N, .int .i64 p, .int .i64 q] H (fun v H' => (∃ b, v = .bool b) ∧ St [g] H H' ∧ ∃ js', H'.get g = some (.row (ints js') 2 true) ∧ RootK js' (stepK K p.toNat q.toNat) N) := by
  have hN := hK.1
  have hF := hK.2.1
  refine GCalls.body (N := 26) (rs := [.tmp 6]) Try.func95 rfl rfl rfl rfl (fun Qx hret hend => ?_)
  refine .forget (fr' := [(0, some _), (1, some _), (2, some _)]) ⟨rfl, rfl, rfl, trivial⟩ ?_
  have lt_hg := GHeap.lt_of_get hg
  refine .seq (fun K1 hK1 => ?_)
  refine .region (.m rfl rfl rfl (.assign rfl) (.nil ?_))
  refine hK1 _ _ ?_
  refine .seq (fun K2 hK2 => ?_)
  refine .region (.m rfl rfl rfl (.move rfl) (.m rfl rfl rfl (.move rfl) ?_))
  refine .call rfl rfl rfl rfl @Try.call137 rfl (root_c) ?_
  rintro _ H11 ⟨rfl, st11, js11, at11, hl11, hf11, hr11⟩
  have nx_H11 := st11.nx
  have lt_at11 := GHeap.lt_of_get at11
  refine .m rfl rfl rfl (.move rfl) (.m rfl rfl rfl (.move rfl) ?_)
  refine .call rfl rfl rfl rfl @Try.call137 rfl (root_c) ?_
  rintro _ H14 ⟨rfl, st14, js14, at14, hl14, hf14, hr14⟩
  have nx_H14 := st14.nx
  have lt_at14 := GHeap.lt_of_get at14
  refine .m rfl rfl rfl (.assign rfl) (.m rfl rfl rfl (.assign rfl) (.nil ?_))
  refine hK2 _ _ ?_
  refine .seq (fun K3 hK3 => ?_)
  refine .region ?_
  have lp := rootOf_le js p.toNat
  have lq := rootOf_le js11 q.toNat
  have i9 := Ints.of_get at14
  have i9s : SlA H14 _ _ _ := i9
  rw [hl14] at i9s
  have e1 := hr11 q.toNat (by omega)
  have hK2 := (hK.same (by omega) hf11 (fun z hz => hr11 z (by omega))).same (by omega) hf14 (fun z hz => hr14 z (by omega))
  have hj := hK2.join (p := p.toNat) (q := q.toNat) (by omega) (by omega)
  have e2 : rootOf js14 p.toNat = rootOf js p.toNat := by rw [hr14 _ (by omega), hr11 _ (by omega)]
  have e3 : rootOf js14 q.toNat = rootOf js11 q.toNat := hr14 _ (by omega)
  have e4 : (max ((rootOf js p.toNat : Nat) : Int) ((rootOf js11 q.toNat : Nat) : Int)).toNat = max (rootOf js p.toNat) (rootOf js11 q.toNat) := by omega
  have e5 : min ((rootOf js p.toNat : Nat) : Int) ((rootOf js11 q.toNat : Nat) : Int) = ((min (rootOf js p.toNat) (rootOf js11 q.toNat) : Nat) : Int) := by omega
  refine .m rfl rfl rfl (.move rfl) (.m rfl rfl rfl (.move rfl) (.m rfl rfl rfl (.move rfl) (.m rfl rfl rfl (.max2 rfl rfl) ?_)))
  refine .m rfl rfl rfl (.move rfl) (.m rfl rfl rfl (.move rfl) (.m rfl rfl rfl (.min2 rfl rfl) ?_))
  refine .m rfl rfl rfl (.idx1 sl_128_Pb (by first | assumption | exact SlA.of_row at14 (by first | rfl | (simp; done) | (simp <;> omega))) rfl rfl (by omega) (by omega)) ?_
  refine .r0 rfl rfl (.storeI rfl sz_2_E rfl rfl (by assumption) (by first | omega | (simp <;> omega))) ?_
  rintro _ H2008 ⟨rfl, st2008, at2008⟩
  have nx_H2008 := st2008.nx
  have lt_at2008 := GHeap.lt_of_get at2008
  rw [Nat.zero_add] at at2008
  refine .nil ?_
  refine hK3 _ _ ?_
  refine .seq (fun K4 hK4 => ?_)
  refine .region (.m rfl rfl rfl (.move rfl) (.m rfl rfl rfl (.move rfl) (.m rfl rfl rfl (.cmp rfl rfl rfl) ?_)))
  refine .m rfl rfl rfl (.assign rfl) (.nil ?_)
  refine hK4 _ _ ?_
  refine .ret ?_
  refine hret _ _ ?_
  refine ⟨_, rfl, ?_⟩
  rw [e2, e3] at hj
  refine ⟨⟨_, rfl⟩, ?_, _, at2008, ?_⟩
  · exact (st11.st st14 (fun k _ h => h)).st st2008 (fun k _ h => h)
  · rw [e4, e5]; exact hj
theorem normal_c {a : Option Addr} {xs : List Int} {H : GHeap} (h : Ints H a xs := by assumption) (hl : xs.length ≤ 1048576 := by omega) :
    GCalls Try.prog 138 [.slice a xs.length xs.length] H (NewInts 2 H (clsL (kerB xs) xs.length)) := by
  refine GCalls.body (N := 39) (rs := [.tmp 2]) Try.func138 rfl rfl rfl rfl (fun Qx hret hend => ?_)
  refine .forget (fr' := [(0, some _)]) ⟨rfl, trivial⟩ ?_
  have hle := GHeap.Le.refl H
  have base_h := h
  refine .seq (fun K1 hK1 => ?_)
  refine .region (.m rfl rfl rfl (.assign rfl) (.nil ?_))
  refine hK1 _ _ ?_
  refine .seq (fun K2 hK2 => ?_)
  refine .region ?_
  refine .r rfl rfl rfl (.makeMapR rfl) ?_
  rintro _ H9 ⟨g9, rfl, le9, ge9, at9⟩
  have nx_H9 := le9.1
  replace hle := hle.trans le9
  have lt_at9 := GHeap.lt_of_get at9
  replace h := base_h.mono hle
  refine .m rfl rfl rfl (.assign rfl) (.nil ?_)
  refine hK2 _ _ ?_
  refine .seq (fun K3 hK3 => ?_)
  refine .region (.m rfl rfl rfl (.move rfl) (.m rfl rfl rfl (.len sl_22_A rfl) ?_))
  refine .r rfl rfl rfl (.makeIN rfl sl_106_Pb ze_2_E by_2_E rfl rfl (by omega) (by omega) (by omega)) ?_
  rintro _ H12 ⟨g12, rfl, le12, ge12, at12⟩
  have nx_H12 := le12.1
  replace hle := hle.trans le12
  replace at9 := le12.2 _ _ at9
  have lt_at12 := GHeap.lt_of_get at12
  replace h := base_h.mono hle
  refine .m rfl rfl rfl (.assign rfl) (.nil ?_)
  refine hK3 _ _ ?_
  refine .seq (fun K4 hK4 => ?_)
  refine .seq (fun K5 hK5 => ?_)
  refine .region (.m rfl rfl rfl (.move rfl) (.m rfl rfl rfl (.len sl_22_A rfl) (.m rfl rfl rfl (.move rfl) ?_)))
  refine .nil ?_
  refine hK5 _ _ ?_
  refine .block ?_
  have at9' : GHeap.get H12 g9 = some (.map (imap (seenE xs 0))) := by rw [seenE_zero]; exact at9
  refine .loopR (σ := Nat) [(3, some _), (4, some _), (13, some _), (14, some _)] (fun k => [(15, some (.int .i64 (k : Int)))]) (fun k H' => St [g9, g12] H12 H' ∧ H'.get g9 = some (.map (imap ((seenE xs k)))) ∧ H'.get g12 = some (.row (ints (part0 xs.length (clsAt (kerB xs)) k)) 2 true) ∧ k ≤ xs.length) (fun k => xs.length - k) (0) ⟨rfl, rfl, rfl, rfl, trivial⟩ ⟨rfl, trivial⟩ ?_ ?_
  ·
   refine ⟨.refl _ _, by first | assumption | (rw [part0_zero]; simpa using at12), by first | assumption | (rw [part0_zero]; simpa using at12), ?_⟩
   omega
  rintro k HL1 ⟨lst1, at_L3, at_L4, hI⟩ KL1 hKL1
  refine .forget (fr' := [(15, some (.int .i64 (k : Int))), (3, some _), (4, some _), (13, some _), (14, some _)]) ⟨rfl, rfl, rfl, rfl, rfl, trivial⟩ ?_
  have nx_HL1 := lst1.nx
  replace hle := hle.st lst1 (fun k hk => ⟨by omega, by omega, trivial⟩)
  have lt_at_L3 := GHeap.lt_of_get at_L3
  have lt_at_L4 := GHeap.lt_of_get at_L4
  replace h := base_h.mono hle
  have i4 := Ints.of_get at_L4
  have i4s : SlA HL1 _ _ _ := i4
  rw [length_part0] at i4s
  have hl4 : (part0 xs.length (clsAt (kerB xs)) k).length = xs.length := length_part0 _ _ _
  refine .seq (fun K6 hK6 => ?_)
  refine .region (.m rfl rfl rfl (.cmp rfl rfl rfl) (.nil ?_))
  refine hK6 _ _ ?_
  refine .seq (fun K7 hK7 => ?_)
  refine .cond rfl (fun h16 => ?_) (fun h16 => ?_)
  ·
   try simp only [sps] at h16
   refine .skip ?_
   refine hK7 _ _ ?_
   refine .seq (fun K8 hK8 => ?_)
   refine .block ?_
   refine .seq (fun K9 hK9 => ?_)
   refine .region (.m rfl rfl rfl (.move rfl) ?_)
   refine .m rfl rfl rfl (.idxN sl_22_A (by assumption) rfl rfl (by omega)) ?_
   refine .m rfl rfl rfl (.loadI on_2_A (by assumption) rfl (by omega)) ?_
   refine .m rfl rfl rfl (.assign rfl) (.m rfl rfl rfl (.assign rfl) (.nil ?_))
   refine hK9 _ _ ?_
   refine .seq (fun K10 hK10 => ?_)
   refine .region (.m rfl rfl rfl (.move rfl) (.m rfl rfl rfl (.move rfl) ?_))
   refine .d rfl rfl rfl (.lookupR rfl mp_183_Pb zv_2_Pb rfl rfl (by assumption) CIs.mk) ?_
   refine .m rfl rfl rfl (.move rfl) (.m rfl rfl rfl (.extract rfl rfl) (.m rfl rfl rfl (.extract rfl rfl) (.m rfl rfl rfl (.assign rfl) ?_)))
   refine .m rfl rfl rfl (.assign rfl) (.nil ?_)
   refine hK10 _ _ ?_
   refine .seq (fun K11 hK11 => ?_)
   refine .seq (fun K12 hK12 => ?_)
   refine .region (.m rfl rfl rfl (.move rfl) (.m rfl rfl rfl (.not rfl) (.nil ?_)))
   refine hK12 _ _ ?_
   refine .cond rfl (fun h27 => ?_) (fun h27 => ?_)
   ·
    simp only [sps] at h27
    obtain ⟨q1, q2⟩ : idxL (seenL xs k) (xs.getD k 0) < 0 ∧ lookE (seenE xs k) (xs.getD k 0) = none := by
      rcases lookE_seen xs k (xs.getD k 0) with h | h
      · exact h
      · rw [h.2] at h27; cases h27
    refine .seq (fun K13 hK13 => ?_)
    refine .region (.m rfl rfl rfl (.move rfl) ?_)
    refine .d rfl rfl rfl (.lenMap rfl mp_183_Pb rfl (by assumption) CIs.mk) ?_
    refine .m rfl rfl rfl (.assign rfl) (.nil ?_)
    refine hK13 _ _ ?_
    refine .region (.m rfl rfl rfl (.move rfl) (.m rfl rfl rfl (.move rfl) (.m rfl rfl rfl (.move rfl) ?_)))
    refine .r0 rfl rfl (.mapPutR rfl mp_183_Pb rfl rfl rfl (by assumption) (by assumption)) ?_
    rintro _ H9003 ⟨rfl, st9003, at9003⟩
    have nx_H9003 := st9003.nx
    replace hle := hle.st st9003 (fun k hk => ⟨by omega, trivial⟩)
    replace lst1 := lst1.st st9003 (fun k hk ho => by simp only [out, and_true] at ho ⊢ <;> first | exact ho | exact ho.1 | exact ho.2 | exact ho.2.1 | exact ho.2.2 | exact ho.2.2.1 | exact ho.2.2.2 | omega)
    have ne_g12_g9 : g12 ≠ g9 := by omega
    replace at_L4 := st9003.same _ _ ⟨ne_g12_g9, trivial⟩ at_L4
    have lt_at9003 := GHeap.lt_of_get at9003
    replace h := base_h.mono hle
    refine .nil ?_
    refine hK11 _ _ ?_
    refine .region ?_
    have i4 := Ints.of_get at_L4
    have i4s : SlA _ _ _ _ := i4
    rw [length_part0] at i4s
    refine .m rfl rfl rfl (.move rfl) (.m rfl rfl rfl (.move rfl) (.m rfl rfl rfl (.move rfl) ?_))
    refine .m rfl rfl rfl (.idxN sl_106_Pb (by first | assumption | exact SlA.of_row at_L4 (by first | rfl | (simp; done) | (simp <;> omega))) rfl rfl (by omega)) ?_
    refine .r0 rfl rfl (.storeI rfl sz_2_E rfl rfl (by assumption) (by first | omega | (simp <;> omega))) ?_
    rintro _ H10004 ⟨rfl, st10004, at10004⟩
    have nx_H10004 := st10004.nx
    replace hle := hle.st st10004 (fun k hk => ⟨by omega, trivial⟩)
    replace lst1 := lst1.st st10004 (fun k hk ho => by simp only [out, and_true] at ho ⊢ <;> first | exact ho | exact ho.1 | exact ho.2 | exact ho.2.1 | exact ho.2.2 | exact ho.2.2.1 | exact ho.2.2.2 | omega)
    replace at9003 := st10004.same _ _ ⟨(Ne.symm ne_g12_g9), trivial⟩ at9003
    have lt_at10004 := GHeap.lt_of_get at10004
    replace h := base_h.mono hle
    rw [Nat.zero_add] at at10004
    refine .nil ?_
    refine hK8 _ _ ?_
    refine .region ?_
    refine .m rfl rfl rfl (.add rfl rfl rfl (by omega) (by omega)) ?_
    refine .m rfl rfl rfl (.move rfl) (.nil ?_)
    refine hKL1 (k + 1) _ _ ?_ ?_ ⟨rfl, rfl, rfl, rfl, rfl, trivial⟩
    ·
     refine ⟨lst1, by first | assumption | (rw [seenE_new (cls_new q1).2]; assumption) | (rw [seenE_old (cls_old q1).2]; assumption) | (rw [part0_set (by omega) (clsAt_new q1)]; assumption) | (rw [part0_set (by omega) (clsAt_old q1 q2)]; assumption), by first | assumption | (rw [seenE_new (cls_new q1).2]; assumption) | (rw [seenE_old (cls_old q1).2]; assumption) | (rw [part0_set (by omega) (clsAt_new q1)]; assumption) | (rw [part0_set (by omega) (clsAt_old q1 q2)]; assumption), ?_⟩
     omega
    omega
   simp only [sps] at h27
   obtain ⟨q1, q2⟩ : 0 ≤ idxL (seenL xs k) (xs.getD k 0) ∧ lookE (seenE xs k) (xs.getD k 0) = some (idxL (seenL xs k) (xs.getD k 0)) := by
     rcases lookE_seen xs k (xs.getD k 0) with h | h
     · rw [h.2] at h27; cases h27
     · exact h
   refine .skip ?_
   refine hK11 _ _ ?_
   refine .region ?_
   have i4 := Ints.of_get at_L4
   have i4s : SlA _ _ _ _ := i4
   rw [length_part0] at i4s
   refine .m rfl rfl rfl (.move rfl) (.m rfl rfl rfl (.move rfl) (.m rfl rfl rfl (.move rfl) ?_))
   refine .m rfl rfl rfl (.idxN sl_106_Pb (by first | assumption | exact SlA.of_row at_L4 (by first | rfl | (simp; done) | (simp <;> omega))) rfl rfl (by omega)) ?_
   refine .r0 rfl rfl (.storeI rfl sz_2_E rfl rfl (by assumption) (by first | omega | (simp <;> omega))) ?_
   rintro _ H10004x2 ⟨rfl, st10004x2, at10004x2⟩
   have nx_H10004x2 := st10004x2.nx
   replace hle := hle.st st10004x2 (fun k hk => ⟨by omega, trivial⟩)
   replace lst1 := lst1.st st10004x2 (fun k hk ho => by simp only [out, and_true] at ho ⊢ <;> first | exact ho | exact ho.1 | exact ho.2 | exact ho.2.1 | exact ho.2.2 | exact ho.2.2.1 | exact ho.2.2.2 | omega)
   have ne_g9_g12 : g9 ≠ g12 := by omega
   replace at_L3 := st10004x2.same _ _ ⟨ne_g9_g12, trivial⟩ at_L3
   have lt_at10004x2 := GHeap.lt_of_get at10004x2
   replace h := base_h.mono hle
   rw [Nat.zero_add] at at10004x2
   refine .nil ?_
   refine hK8 _ _ ?_
   refine .region ?_
   refine .m rfl rfl rfl (.add rfl rfl rfl (by omega) (by omega)) ?_
   refine .m rfl rfl rfl (.move rfl) (.nil ?_)
   refine hKL1 (k + 1) _ _ ?_ ?_ ⟨rfl, rfl, rfl, rfl, rfl, trivial⟩
   ·
    refine ⟨lst1, by first | assumption | (rw [seenE_new (cls_new q1).2]; assumption) | (rw [seenE_old (cls_old q1).2]; assumption) | (rw [part0_set (by omega) (clsAt_new q1)]; assumption) | (rw [part0_set (by omega) (clsAt_old q1 q2)]; assumption), by first | assumption | (rw [seenE_new (cls_new q1).2]; assumption) | (rw [seenE_old (cls_old q1).2]; assumption) | (rw [part0_set (by omega) (clsAt_new q1)]; assumption) | (rw [part0_set (by omega) (clsAt_old q1 q2)]; assumption), ?_⟩
    omega
   omega
  try simp only [sps] at h16
  refine .exit ?_
  refine hK4 _ _ ?_
  refine .seq (fun K14 hK14 => ?_)
  refine .region (.m rfl rfl rfl (.move rfl) (.m rfl rfl rfl (.assign rfl) (.nil ?_)))
  refine hK14 _ _ ?_
  refine .ret ?_
  refine hret _ _ ?_
  refine ⟨_, rfl, ?_⟩
  obtain rfl : k = xs.length := by omega
  exact ⟨hle, _, by rw [length_clsL], by unfold clsL; rw [← part0_all]; exact at_L4, by omega⟩
theorem normalN_c {a : Option Addr} {n : Nat} {xs : List Int} {H : GHeap} (hn : xs.length = n) (h : Ints H a xs := by assumption) (hl : n ≤ 1048576 := by omega) :
    GCalls Try.prog 138 [.slice a n n] H (NewInts 2 H (clsL (kerB xs) n)) := by
  subst hn
  exact normal_c h hl
theorem partition_c {g N : Nat} {js : List Int} {K : Nat → Nat → Bool} {H : GHeap} (hg : H.get g = some (.row (ints js) 2 true) := by assumption) (hK : RootK js K N := by assumption) (hn : N ≤ 1048576 := by omega) :
    GCalls Try.prog 97 [.slice (some ⟨g, 0, none⟩) N N] H (fun v H' => ∃ g', v = .slice (some ⟨g', 0, none⟩) N N ∧ St [g] H H' ∧ H.next ≤ g' ∧ H'.get g' = some (.row (ints (clsL K N)) 2 true)) := by
  have hgl := GHeap.lt_of_get hg
  refine GCalls.body (N := 22) (rs := [.tmp 2]) Try.func97 rfl rfl rfl rfl (fun Qx hret hend => ?_)
  refine .forget (fr' := [(0, some _)]) ⟨rfl, trivial⟩ ?_
  have lt_hg := GHeap.lt_of_get hg
  refine .seq (fun K1 hK1 => ?_)
  refine .region (.m rfl rfl rfl (.assign rfl) (.nil ?_))
  refine hK1 _ _ ?_
  refine .seq (fun K2 hK2 => ?_)
  refine .region (.m rfl rfl rfl (.move rfl) (.m rfl rfl rfl (.len sl_128_Pb rfl) ?_))
  refine .r rfl rfl rfl (.makeIN rfl sl_22_A ze_2_E by_2_E rfl rfl (by omega) (by omega) (by omega)) ?_
  rintro _ H7 ⟨g7, rfl, le7, ge7, at7⟩
  have nx_H7 := le7.1
  replace hg := le7.2 _ _ hg
  have lt_at7 := GHeap.lt_of_get at7
  refine .m rfl rfl rfl (.assign rfl) (.nil ?_)
  refine hK2 _ _ ?_
  refine .seq (fun K3 hK3 => ?_)
  refine .seq (fun K4 hK4 => ?_)
  refine .region (.m rfl rfl rfl (.move rfl) (.m rfl rfl rfl (.len sl_128_Pb rfl) (.m rfl rfl rfl (.move rfl) ?_)))
  refine .nil ?_
  refine hK4 _ _ ?_
  refine .block ?_
  refine .loopR (σ := Nat × List Int) [(0, some _), (3, some _), (9, some _)] (fun (k, ks) => [(10, some (.int .i64 (k : Int)))]) (fun (k, ks) H' => St [g, g7] H7 H' ∧ H'.get g = some (.row (ints ks) 2 true) ∧ H'.get g7 = some (.row (ints (part0 N (fun i => (rootOf js i : Int)) k)) 2 true) ∧ k ≤ N ∧ ks.length = N ∧ Forest ks ∧ ∀ z, z < N → rootOf ks z = rootOf js z) (fun (k, ks) => N - k) ((0, js)) ⟨rfl, rfl, rfl, trivial⟩ ⟨rfl, trivial⟩ ?_ ?_
  ·
   refine ⟨.refl _ _, by first | assumption | (rw [part0_zero]; simpa using at7), by first | assumption | (rw [part0_zero]; simpa using at7), ?_⟩
   exact ⟨by omega, hK.1, hK.2.1, fun _ _ => rfl⟩
  rintro ⟨k, ks⟩ HL1 ⟨lst1, at_L0, at_L3, hI⟩ KL1 hKL1
  refine .forget (fr' := [(10, some (.int .i64 (k : Int))), (0, some _), (3, some _), (9, some _)]) ⟨rfl, rfl, rfl, rfl, trivial⟩ ?_
  have nx_HL1 := lst1.nx
  have lt_at_L0 := GHeap.lt_of_get at_L0
  have lt_at_L3 := GHeap.lt_of_get at_L3
  obtain ⟨hk, hkl, hkF, hkr⟩ := hI
  have hl3 : (part0 N (fun i => (rootOf js i : Int)) k).length = N := length_part0 _ _ _
  refine .seq (fun K5 hK5 => ?_)
  refine .region (.m rfl rfl rfl (.cmp rfl rfl rfl) (.nil ?_))
  refine hK5 _ _ ?_
  refine .seq (fun K6 hK6 => ?_)
  refine .cond rfl (fun h11 => ?_) (fun h11 => ?_)
  ·
   try simp only [sps] at h11
   refine .skip ?_
   refine hK6 _ _ ?_
   refine .seq (fun K7 hK7 => ?_)
   refine .block ?_
   refine .seq (fun K8 hK8 => ?_)
   refine .region (.m rfl rfl rfl (.move rfl) (.m rfl rfl rfl (.assign rfl) (.nil ?_)))
   refine hK8 _ _ ?_
   refine .region (.m rfl rfl rfl (.move rfl) (.m rfl rfl rfl (.move rfl) (.m rfl rfl rfl (.move rfl) ?_)))
   refine .m rfl rfl rfl (.move rfl) ?_
   refine .call rfl rfl rfl rfl @Try.call137 rfl (root_c (x := (k : Int))) ?_
   rintro _ H17 ⟨rfl, st17, js17, at17, hl17, hf17, hr17⟩
   have nx_H17 := st17.nx
   replace lst1 := lst1.st st17 (fun k hk ho => by simp only [out, and_true] at ho ⊢ <;> first | exact ho | exact ho.1 | exact ho.2 | exact ho.2.1 | exact ho.2.2 | exact ho.2.2.1 | exact ho.2.2.2 | omega)
   have ne_g7_g : g7 ≠ g := by omega
   replace at_L3 := st17.same _ _ ⟨ne_g7_g, trivial⟩ at_L3
   have lt_at17 := GHeap.lt_of_get at17
   have i3s : SlA _ _ _ _ := Ints.of_get at_L3
   rw [length_part0] at i3s
   refine .m rfl rfl rfl (.idxN sl_22_A (by first | assumption | exact SlA.of_row at_L3 (by first | rfl | (simp; done) | (simp <;> omega))) rfl rfl (by omega)) ?_
   refine .r0 rfl rfl (.storeI rfl sz_2_E rfl rfl (by assumption) (by first | omega | (simp <;> omega))) ?_
   rintro _ H5006 ⟨rfl, st5006, at5006⟩
   have nx_H5006 := st5006.nx
   replace lst1 := lst1.st st5006 (fun k hk ho => by simp only [out, and_true] at ho ⊢ <;> first | exact ho | exact ho.1 | exact ho.2 | exact ho.2.1 | exact ho.2.2 | exact ho.2.2.1 | exact ho.2.2.2 | omega)
   replace at17 := st5006.same _ _ ⟨(Ne.symm ne_g7_g), trivial⟩ at17
   have lt_at5006 := GHeap.lt_of_get at5006
   rw [Nat.zero_add] at at5006
   refine .nil ?_
   refine hK7 _ _ ?_
   refine .region ?_
   refine .m rfl rfl rfl (.add rfl rfl rfl (by omega) (by omega)) ?_
   refine .m rfl rfl rfl (.move rfl) (.nil ?_)
   refine hKL1 ((k + 1, js17)) _ _ ?_ ?_ ⟨rfl, rfl, rfl, rfl, trivial⟩
   ·
    refine ⟨lst1, by first | assumption | (rw [part0_set (v := ((rootOf ks (k : Int).toNat : Nat) : Int)) (by omega) (by rw [Int.toNat_natCast, hkr _ (by omega)])]; assumption), by first | assumption | (rw [part0_set (v := ((rootOf ks (k : Int).toNat : Nat) : Int)) (by omega) (by rw [Int.toNat_natCast, hkr _ (by omega)])]; assumption), ?_⟩
    exact ⟨by omega, hl17, hf17, fun z hz => by rw [hr17 z hz]; exact hkr z hz⟩
   (dsimp only; omega)
  try simp only [sps] at h11
  refine .exit ?_
  refine hK3 _ _ ?_
  refine .seq (fun K9 hK9 => ?_)
  refine .region ?_
  obtain rfl : k = N := by omega
  have hker := hK.ker (lab := part0 k (fun i => (rootOf js i : Int)) k) fun i hi => by rw [part0_all, List.getD_eq_getElem?_getD]; simp [hi]
  refine .m rfl rfl rfl (.move rfl) ?_
  refine .call rfl rfl rfl rfl @Try.call138 rfl (normalN_c (length_part0 _ _ _) (Ints.of_get at_L3)) ?_
  rintro _ H21 ⟨le21, g21, rfl, at21, ge21⟩
  have nx_H21 := le21.1
  replace lst1 := lst1.le le21
  replace at_L0 := le21.2 _ _ at_L0
  replace at_L3 := le21.2 _ _ at_L3
  have lt_at21 := GHeap.lt_of_get at21
  have i21 := Ints.of_get at21
  refine .m rfl rfl rfl (.assign rfl) (.nil ?_)
  refine hK9 _ _ ?_
  refine .ret ?_
  refine hret _ _ ?_
  refine ⟨_, rfl, ?_⟩
  refine ⟨g21, by rw [length_clsL], ?_, by omega, ?_⟩
  · exact ((St.of_le le7).st lst1 (fun k hk (ho : out [g] k) => ⟨ho.1, by omega, trivial⟩))
  · rw [← hker.cls]; exact at21
end Go.Proofs.Ytgnfekfdmgnhcaa
