/- Partitions: classes numbered by their least elements, and the finest partition that joins pairs. No condition. -/
import Derived.Test.YtagkeabmdodfiaaZ8
namespace Go.GL
def least (K : Nat → Nat → Bool) (i : Nat) : Nat := ((List.range i).find? fun j => K j i).getD i
def reps (K : Nat → Nat → Bool) (m : Nat) : Nat := ((List.range m).filter fun j => least K j == j).length
def clsAt (K : Nat → Nat → Bool) (i : Nat) : Int := (reps K (least K i) : Int)
def clsL (K : Nat → Nat → Bool) (n : Nat) : List Int := (List.range n).map (clsAt K)
@[simp] theorem length_clsL (K : Nat → Nat → Bool) (n : Nat) : (clsL K n).length = n := by simp [clsL]
theorem clsL_succ (K : Nat → Nat → Bool) (n : Nat) : clsL K (n + 1) = clsL K n ++ [clsAt K n] := by simp [clsL, List.range_succ]
structure Eqv (K : Nat → Nat → Bool) (n : Nat) : Prop where
  rf : ∀ a, a < n → K a a = true
  sy : ∀ a b, a < n → b < n → K a b = true → K b a = true
  tr : ∀ a b c, a < n → b < n → c < n → K a b = true → K b c = true → K a c = true
theorem find_range {p : Nat → Bool} {i : Nat} : (∃ j, (List.range i).find? p = some j ∧ j < i ∧ p j = true ∧ ∀ k, k < j → p k = false) ∨ ((List.range i).find? p = none ∧ ∀ k, k < i → p k = false) := by
  cases h : (List.range i).find? p with
  | none =>
    rw [List.find?_range_eq_none] at h
    exact .inr ⟨rfl, fun k hk => by simpa using h k hk⟩
  | some j =>
    rw [List.find?_range_eq_some] at h
    exact .inl ⟨j, rfl, List.mem_range.1 h.2.1, h.1, fun k hk => by simpa using h.2.2 k hk⟩
theorem least_le (K : Nat → Nat → Bool) (i : Nat) : least K i ≤ i := by
  unfold least
  rcases find_range (p := fun j => K j i) (i := i) with ⟨j, h, hl, _⟩ | ⟨h, _⟩
  · rw [h]; exact Nat.le_of_lt hl
  · rw [h]; exact Nat.le_refl _
theorem least_mate {K : Nat → Nat → Bool} {n i : Nat} (e : Eqv K n) (h : i < n) : K (least K i) i = true ∧ ∀ j, j < least K i → K j i = false := by
  unfold least
  rcases find_range (p := fun j => K j i) (i := i) with ⟨j, hj, hl, hp, hb⟩ | ⟨hj, hb⟩
  · rw [hj]; exact ⟨hp, hb⟩
  · rw [hj]; exact ⟨e.rf i h, hb⟩
theorem least_eq {K : Nat → Nat → Bool} {n i j : Nat} (e : Eqv K n) (hi : i < n) (hk : K j i = true) (hm : ∀ k, k < j → K k i = false) : least K i = j := by
  obtain ⟨h1, h2⟩ := least_mate e hi
  rcases Nat.lt_trichotomy (least K i) j with h | h | h
  · rw [hm _ h] at h1; cases h1
  · exact h
  · rw [h2 _ h] at hk; cases hk
theorem least_congr_mate {K : Nat → Nat → Bool} {n i j : Nat} (e : Eqv K n) (hi : i < n) (hj : j < n) : least K i = least K j ↔ K i j = true := by
  obtain ⟨h1, h2⟩ := least_mate e hi
  obtain ⟨k1, k2⟩ := least_mate e hj
  have li := least_le K i
  have lj := least_le K j
  constructor
  · intro h
    rw [← h] at k1
    exact e.tr i _ j hi (by omega) hj (e.sy _ _ (by omega) hi h1) k1
  · intro h
    refine least_eq e hi (e.tr _ j i (by omega) hj hi k1 (e.sy _ _ hi hj h)) fun k hk => ?_
    cases hh : K k i with
    | false => rfl
    | true => rw [← k2 k hk]; exact (e.tr k i j (by omega) hi hj hh h).symm
theorem least_idem {K : Nat → Nat → Bool} {n i : Nat} (e : Eqv K n) (hi : i < n) : least K (least K i) = least K i := by
  have := least_le K i
  exact (least_congr_mate e (by omega) hi).2 (least_mate e hi).1
theorem least_congr {K K' : Nat → Nat → Bool} {n i : Nat} (h : ∀ a b, a < n → b < n → K a b = K' a b) (hi : i < n) : least K i = least K' i := by
  unfold least
  have : ∀ l : List Nat, (∀ j ∈ l, j < n) → l.find? (fun j => K j i) = l.find? (fun j => K' j i) := by
    intro l
    induction l with
    | nil => intro _; rfl
    | cons a l ih =>
      intro hl
      simp only [List.find?_cons]
      rw [h a i (hl a (by simp)) hi, ih fun j hj => hl j (by simp [hj])]
  rw [this _ fun j hj => by have := List.mem_range.1 hj; omega]
theorem reps_congr {K K' : Nat → Nat → Bool} {n m : Nat} (h : ∀ a b, a < n → b < n → K a b = K' a b) (hm : m ≤ n) : reps K m = reps K' m := by
  unfold reps
  congr 1
  refine List.filter_congr fun j hj => ?_
  rw [least_congr h (by have := List.mem_range.1 hj; omega)]
theorem clsL_congr {K K' : Nat → Nat → Bool} {n : Nat} (h : ∀ a b, a < n → b < n → K a b = K' a b) : clsL K n = clsL K' n := by
  refine List.map_congr_left fun i hi => ?_
  have hi' := List.mem_range.1 hi
  unfold clsAt
  rw [least_congr h hi', reps_congr h (by have := least_le K' i; omega)]
theorem reps_succ (K : Nat → Nat → Bool) (m : Nat) : reps K (m + 1) = reps K m + (if least K m = m then 1 else 0) := by
  unfold reps
  rw [List.range_succ, List.filter_append, List.length_append]
  congr 1
  by_cases h : least K m = m <;> simp [h]
theorem reps_le (K : Nat → Nat → Bool) (m : Nat) : reps K m ≤ m := by
  unfold reps; exact Nat.le_trans (List.length_filter_le _ _) (by simp)
theorem reps_mono {K : Nat → Nat → Bool} {a b : Nat} (h : a ≤ b) : reps K a ≤ reps K b := by
  induction b with
  | zero => obtain rfl : a = 0 := by omega
            exact Nat.le_refl _
  | succ b ih =>
    by_cases e : a = b + 1
    · subst e; exact Nat.le_refl _
    · have := ih (by omega)
      rw [reps_succ]
      omega

def kerB (xs : List Int) (a b : Nat) : Bool := xs.getD a 0 == xs.getD b 0
theorem kerB_eqv (xs : List Int) (n : Nat) : Eqv (kerB xs) n := ⟨fun a _ => by simp [kerB], fun a b _ _ h => by simp only [kerB, beq_iff_eq] at h ⊢; exact h.symm, fun a b c _ _ _ h h' => by simp only [kerB, beq_iff_eq] at h h' ⊢; exact h.trans h'⟩
def seenL (xs : List Int) (i : Nat) : List Int := ((List.range i).filter fun j => least (kerB xs) j == j).map fun j => xs.getD j 0
@[simp] theorem length_seenL (xs : List Int) (i : Nat) : (seenL xs i).length = reps (kerB xs) i := by simp [seenL, reps]
theorem seenL_new {xs : List Int} {i : Nat} (h : least (kerB xs) i = i) : seenL xs (i + 1) = seenL xs i ++ [xs.getD i 0] := by simp [seenL, List.range_succ, List.filter_append, h]
theorem seenL_old {xs : List Int} {i : Nat} (h : least (kerB xs) i ≠ i) : seenL xs (i + 1) = seenL xs i := by simp [seenL, List.range_succ, List.filter_append, h]
theorem seenL_at {xs : List Int} {i m : Nat} (h : m < (seenL xs i).length) : ∃ j, j < i ∧ least (kerB xs) j = j ∧ reps (kerB xs) j = m ∧ (seenL xs i).getD m 0 = xs.getD j 0 := by
  induction i with
  | zero => simp [seenL] at h
  | succ i ih =>
    by_cases hi : least (kerB xs) i = i
    · rw [seenL_new hi] at h ⊢
      by_cases e : m < (seenL xs i).length
      · obtain ⟨j, h1, h2, h3, h4⟩ := ih e
        refine ⟨j, by omega, h2, h3, ?_⟩
        rw [List.getD_eq_getElem?_getD, List.getElem?_append_left e, ← List.getD_eq_getElem?_getD]
        exact h4
      · have hm : m = (seenL xs i).length := by simp at h; rw [length_seenL] at *; omega
        refine ⟨i, by omega, hi, by rw [hm, length_seenL], ?_⟩
        rw [hm, List.getD_eq_getElem?_getD, List.getElem?_append_right (Nat.le_refl _)]
        simp
    · rw [seenL_old hi] at h ⊢
      obtain ⟨j, h1, h2, h3, h4⟩ := ih h
      exact ⟨j, by omega, h2, h3, h4⟩
theorem seen_find {xs : List Int} {i m : Nat} (h : m < (seenL xs i).length) : (seenL xs i).getD m 0 = xs.getD i 0 ↔ (least (kerB xs) i < i ∧ m = reps (kerB xs) (least (kerB xs) i)) := by
  have e := kerB_eqv xs (i + 1)
  obtain ⟨j, h1, h2, h3, h4⟩ := seenL_at h
  rw [h4]
  constructor
  · intro hx
    have hl : least (kerB xs) i = j := by
      have := (least_congr_mate (j := i) e (i := j) (by omega) (by omega)).2 (by simp only [kerB, beq_iff_eq]; exact hx)
      omega
    rw [hl]; exact ⟨h1, h3.symm⟩
  · rintro ⟨hl, hm⟩
    have hli := least_idem (K := kerB xs) (i := i) e (by omega)
    have hmate := (least_mate (i := i) e (by omega)).1
    simp only [kerB, beq_iff_eq] at hmate
    have : j = least (kerB xs) i := by
      rcases Nat.lt_trichotomy j (least (kerB xs) i) with hh | hh | hh
      · have h5 := reps_mono (K := kerB xs) (a := j + 1) hh
        rw [reps_succ, if_pos h2] at h5
        omega
      · exact hh
      · have h5 := reps_mono (K := kerB xs) (a := least (kerB xs) i + 1) hh
        rw [reps_succ, if_pos hli] at h5
        omega
    rw [this, hmate]
theorem seen_none {xs : List Int} {i : Nat} : (∀ m, m < (seenL xs i).length → (seenL xs i).getD m 0 ≠ xs.getD i 0) ↔ least (kerB xs) i = i := by
  constructor
  · intro h
    have hl := least_le (kerB xs) i
    refine Classical.byContradiction fun hne => ?_
    have hli := least_idem (K := kerB xs) (i := i) (kerB_eqv xs (i + 1)) (by omega)
    have hlt : reps (kerB xs) (least (kerB xs) i) < (seenL xs i).length := by
      rw [length_seenL]
      have h5 := reps_mono (K := kerB xs) (a := least (kerB xs) i + 1) (b := i) (by omega)
      rw [reps_succ, if_pos hli] at h5
      omega
    exact h _ hlt ((seen_find hlt).2 ⟨by omega, rfl⟩)
  · intro h m hm hx
    have := ((seen_find hm).1 hx).1
    omega

theorem numsL_succ (n : Nat) : numsL (n + 1) = numsL n ++ [(n : Int)] := by simp [numsL, List.range_succ]
def idxL (xs : List Int) (v : Int) : Int := match firstN xs.length fun i => xs.getD i 0 == v with | some i => (i : Int) | none => -1
theorem idxL_some {xs : List Int} {v : Int} {i : Nat} (hi : i < xs.length) (h : xs.getD i 0 = v) (hb : ∀ j, j < i → ¬ xs.getD j 0 = v) : idxL xs v = i := by
  unfold idxL; rw [firstN_some hi (by simpa using h) fun j hj => by simpa using hb j hj]
theorem idxL_none {xs : List Int} {v : Int} (h : ∀ j, j < xs.length → ¬ xs.getD j 0 = v) : idxL xs v = -1 := by
  unfold idxL; rw [firstN_none fun j hj => by simpa using h j hj]
theorem idxL_cases (xs : List Int) (v : Int) : (∃ i, i < xs.length ∧ xs.getD i 0 = v ∧ (∀ j, j < i → ¬ xs.getD j 0 = v) ∧ idxL xs v = i) ∨ ((∀ j, j < xs.length → ¬ xs.getD j 0 = v) ∧ idxL xs v = -1) := by
  rcases find_range (p := fun i => xs.getD i 0 == v) (i := xs.length) with ⟨j, _, hl, hp, hb⟩ | ⟨_, hb⟩
  · exact .inl ⟨j, hl, by simpa using hp, fun k hk => by simpa using hb k hk, idxL_some hl (by simpa using hp) fun k hk => by simpa using hb k hk⟩
  · exact .inr ⟨fun k hk => by simpa using hb k hk, idxL_none fun k hk => by simpa using hb k hk⟩
theorem idxL_lt (xs : List Int) (v : Int) : idxL xs v < xs.length ∧ -1 ≤ idxL xs v := by
  rcases idxL_cases xs v with ⟨i, h, _, _, e⟩ | ⟨_, e⟩ <;> omega
theorem cls_new {xs : List Int} {k : Nat} (h : idxL (seenL xs k) (xs.getD k 0) < 0) : clsL (kerB xs) (k + 1) = clsL (kerB xs) k ++ [((seenL xs k).length : Int)] ∧ seenL xs (k + 1) = seenL xs k ++ [xs.getD k 0] := by
  have hl : least (kerB xs) k = k := by
    rcases idxL_cases (seenL xs k) (xs.getD k 0) with ⟨i, _, _, _, e⟩ | ⟨hn, _⟩
    · omega
    · exact seen_none.1 fun m hm => hn m hm
  refine ⟨?_, seenL_new hl⟩
  rw [clsL_succ]
  unfold clsAt
  rw [hl, length_seenL]
theorem cls_old {xs : List Int} {k : Nat} (h : 0 ≤ idxL (seenL xs k) (xs.getD k 0)) : clsL (kerB xs) (k + 1) = clsL (kerB xs) k ++ [idxL (seenL xs k) (xs.getD k 0)] ∧ seenL xs (k + 1) = seenL xs k := by
  rcases idxL_cases (seenL xs k) (xs.getD k 0) with ⟨i, hi, hv, _, e⟩ | ⟨_, e⟩
  · obtain ⟨h1, h2⟩ := (seen_find hi).1 hv
    refine ⟨?_, seenL_old (by omega)⟩
    rw [clsL_succ, e, h2]
    rfl
  · omega
def seenE (xs : List Int) (k : Nat) : List (Int × Int) := (List.range (seenL xs k).length).map fun i => ((seenL xs k).getD i 0, (i : Int))
@[simp] theorem length_seenE (xs : List Int) (k : Nat) : (seenE xs k).length = (seenL xs k).length := by simp [seenE]
def part0 (n : Nat) (f : Nat → Int) (k : Nat) : List Int := (List.range n).map fun i => bif decide (i < k) then f i else 0
@[simp] theorem length_part0 (n : Nat) (f : Nat → Int) (k : Nat) : (part0 n f k).length = n := by simp [part0]
abbrev pA (p : List Int) : Nat := (p.getD 0 0).toNat
abbrev pB (p : List Int) : Nat := (p.getD 1 0).toNat
def stepK (K : Nat → Nat → Bool) (p q : Nat) : Nat → Nat → Bool := fun a b => K a b || (K a p && K q b) || (K a q && K p b)
def joinK (ps : List (Nat × Nat)) : Nat → Nat → Bool := ps.foldl (fun K p => stepK K p.1 p.2) (fun a b => a == b)
theorem joinK_nil : joinK [] = fun a b => a == b := rfl
theorem joinK_snoc (ps : List (Nat × Nat)) (p : Nat × Nat) : joinK (ps ++ [p]) = stepK (joinK ps) p.1 p.2 := by simp [joinK, List.foldl_append]
def Ker (lab : List Int) (K : Nat → Nat → Bool) (n : Nat) : Prop := ∀ a b, a < n → b < n → kerB lab a b = K a b
theorem Ker.start {lab : List Int} {n : Nat} (h : ∀ i, i < n → lab.getD i 0 = (i : Int)) : Ker lab (joinK []) n := fun a b ha hb => by
  unfold kerB
  rw [h a ha, h b hb, joinK_nil, Bool.eq_iff_iff]
  simp only [beq_iff_eq]
  omega
theorem Ker.step {lab lab' : List Int} {K : Nat → Nat → Bool} {n p q : Nat} (h : Ker lab K n) (hp : p < n) (hq : q < n) (hs : ∀ i, i < n → lab'.getD i 0 = if lab.getD i 0 = lab.getD q 0 then lab.getD p 0 else lab.getD i 0) : Ker lab' (stepK K p q) n := fun a b ha hb => by
  unfold stepK
  rw [← h a b ha hb, ← h a p ha hp, ← h q b hq hb, ← h a q ha hq, ← h p b hp hb, Bool.eq_iff_iff]
  unfold kerB
  rw [hs a ha, hs b hb]
  simp only [beq_iff_eq, Bool.or_eq_true, Bool.and_eq_true]
  generalize lab.getD a 0 = x at *
  generalize lab.getD b 0 = y at *
  generalize lab.getD p 0 = u at *
  generalize lab.getD q 0 = v at *
  by_cases h1 : x = v
  · by_cases h2 : y = v
    · rw [if_pos h1, if_pos h2]; omega
    · rw [if_pos h1, if_neg h2]; omega
  · by_cases h2 : y = v
    · rw [if_neg h1, if_pos h2]; omega
    · rw [if_neg h1, if_neg h2]; omega
def relab (xs : List Int) (a b : Int) (k : Nat) : List Int := (xs.take k).map (fun z => if z = b then a else z) ++ xs.drop k
@[simp] theorem length_relab (xs : List Int) (a b : Int) (k : Nat) : (relab xs a b k).length = xs.length := by simp [relab]; omega
theorem relab_zero (xs : List Int) (a b : Int) : relab xs a b 0 = xs := by simp [relab]
theorem relab_getD {xs : List Int} {a b : Int} {k i : Nat} (hi : i < xs.length) : (relab xs a b k).getD i 0 = if i < k then (if xs.getD i 0 = b then a else xs.getD i 0) else xs.getD i 0 := by
  unfold relab
  by_cases h : i < k
  · rw [if_pos h, List.getD_eq_getElem?_getD, List.getElem?_append_left (by simp; omega)]
    simp only [List.getElem?_map, List.getElem?_take, h, if_true, List.getD_eq_getElem?_getD]
    rw [List.getElem?_eq_getElem hi]
    simp
  · rw [if_neg h, List.getD_eq_getElem?_getD, List.getElem?_append_right (by simp; omega)]
    simp only [List.length_map, List.length_take, List.getElem?_drop, List.getD_eq_getElem?_getD]
    congr 2
    omega
theorem relab_T {xs : List Int} {a b : Int} {k : Nat} (hk : k < xs.length) (h : xs.getD k 0 = b) : relab xs a b (k + 1) = (relab xs a b k).set k a := by
  refine eq_of_getD (by simp) fun i hi => ?_
  simp only [List.length_set, length_relab] at hi
  rw [getD_set (by simpa using hk), relab_getD hi, relab_getD hi]
  by_cases e : i = k
  · subst e; rw [if_pos (by omega), if_pos h, if_pos rfl]
  · by_cases e2 : i < k
    · rw [if_pos (by omega), if_neg e, if_pos e2]
    · rw [if_neg (by omega), if_neg e, if_neg e2]
theorem relab_F {xs : List Int} {a b : Int} {k : Nat} (hk : k < xs.length) (h : ¬ xs.getD k 0 = b) : relab xs a b (k + 1) = relab xs a b k := by
  refine eq_of_getD (by simp) fun i hi => ?_
  simp only [length_relab] at hi
  rw [relab_getD hi, relab_getD hi]
  by_cases e : i = k
  · subst e; rw [if_pos (by omega), if_neg h, if_neg (by omega)]
  · by_cases e2 : i < k
    · rw [if_pos (by omega), if_pos e2]
    · rw [if_neg (by omega), if_neg e2]

def pairL (pss : List (List Int)) (k : Nat) : List (Nat × Nat) := (pss.take k).map fun p => (pA p, pB p)
theorem pairL_succ {pss : List (List Int)} {k : Nat} (h : k < pss.length) : pairL pss (k + 1) = pairL pss k ++ [(pA (pss.getD k []), pB (pss.getD k []))] := by
  have e1 : pss[k]? = some (pss.getD k []) := by rw [List.getD_eq_getElem?_getD (i := k), List.getElem?_eq_getElem h]; rfl
  unfold pairL
  rw [List.take_add_one, e1]; simp
theorem pairL_zero (pss : List (List Int)) : pairL pss 0 = [] := by simp [pairL]
theorem pairL_all (pss : List (List Int)) : pairL pss pss.length = pss.map fun p => (pA p, pB p) := by simp [pairL]
theorem Ker.relab {lab : List Int} {K : Nat → Nat → Bool} {n p q e : Nat} (h : Ker lab K n) (hl : lab.length = n) (hp : p < n) (hq : q < n) (he : e = n ∨ lab.getD p 0 = lab.getD q 0) : Ker (Go.GL.relab lab (lab.getD p 0) (lab.getD q 0) e) (stepK K p q) n := by
  refine h.step hp hq fun i hi => ?_
  rw [relab_getD (by omega)]
  rcases he with rfl | he
  · rw [if_pos hi]
  · by_cases hie : i < e
    · rw [if_pos hie]
    · rw [if_neg hie]
      by_cases hx : lab.getD i 0 = lab.getD q 0
      · rw [if_pos hx, he, hx]
      · rw [if_neg hx]

structure Forest (j : List Int) : Prop where
  up : ∀ x, x < j.length → 0 ≤ j.getD x 0 ∧ j.getD x 0 ≤ (x : Int)
def rootF (j : List Int) : Nat → Nat → Nat
  | 0, x => x
  | f + 1, x => if (j.getD x 0).toNat < x then rootF j f (j.getD x 0).toNat else x
def rootOf (j : List Int) (x : Nat) : Nat := rootF j (x + 1) x
theorem rootF_enough (j : List Int) : ∀ {f g x : Nat}, x < f → x < g → rootF j f x = rootF j g x
  | 0, _, _, h, _ => by omega
  | _, 0, _, _, h => by omega
  | f + 1, g + 1, x, hf, hg => by
    unfold rootF
    by_cases h : (j.getD x 0).toNat < x
    · rw [if_pos h, if_pos h]; exact rootF_enough j (by omega) (by omega)
    · rw [if_neg h, if_neg h]
theorem rootOf_step {j : List Int} {x : Nat} (h : (j.getD x 0).toNat < x) : rootOf j x = rootOf j (j.getD x 0).toNat := by
  unfold rootOf
  rw [show rootF j (x + 1) x = rootF j x (j.getD x 0).toNat by conv => lhs; unfold rootF; rw [if_pos h]]
  exact rootF_enough j h (by omega)
theorem rootOf_end {j : List Int} {x : Nat} (h : ¬ (j.getD x 0).toNat < x) : rootOf j x = x := by
  unfold rootOf rootF; rw [if_neg h]
theorem rootOf_le (j : List Int) (x : Nat) : rootOf j x ≤ x := by
  induction x using Nat.strongRecOn with
  | _ x ih =>
    by_cases h : (j.getD x 0).toNat < x
    · rw [rootOf_step h]; have := ih _ h; omega
    · rw [rootOf_end h]; exact Nat.le_refl _
theorem rootOf_root {j : List Int} (hF : Forest j) {x : Nat} (hx : x < j.length) : j.getD (rootOf j x) 0 = (rootOf j x : Int) := by
  induction x using Nat.strongRecOn with
  | _ x ih =>
    by_cases h : (j.getD x 0).toNat < x
    · rw [rootOf_step h]; exact ih _ h (by omega)
    · rw [rootOf_end h]; have := hF.up x hx; omega
theorem rootOf_fix {j : List Int} {x : Nat} (h : j.getD x 0 = (x : Int)) : rootOf j x = x := rootOf_end (by omega)
theorem rootOf_join {j : List Int} (hF : Forest j) {x y : Nat} (hx : x < j.length) (hr : j.getD x 0 = (x : Int)) (hry : j.getD y 0 = (y : Int)) (hy : y ≤ x) : Forest (j.set x (y : Int)) ∧ ∀ z, z < j.length → rootOf (j.set x (y : Int)) z = if rootOf j z = x then y else rootOf j z := by
  have hF' : Forest (j.set x (y : Int)) := ⟨fun z hz => by
    rw [List.length_set] at hz
    rw [getD_set hx]
    by_cases e : z = x
    · subst e; simp; omega
    · rw [if_neg e]; exact hF.up z hz⟩
  refine ⟨hF', fun z => ?_⟩
  induction z using Nat.strongRecOn with
  | _ z ih =>
    intro hz
    have hg : (j.set x (y : Int)).getD z 0 = if z = x then (y : Int) else j.getD z 0 := getD_set hx
    by_cases e : z = x
    · subst e
      rw [if_pos rfl] at hg
      rw [rootOf_fix hr, if_pos rfl]
      by_cases e2 : y = z
      · subst e2; exact rootOf_fix (by rw [hg])
      · rw [rootOf_step (by rw [hg]; simp; omega), hg, Int.toNat_natCast, ih y (by omega) (by omega), rootOf_fix hry, if_neg e2]
    · rw [if_neg e] at hg
      by_cases h : (j.getD z 0).toNat < z
      · rw [rootOf_step (by rw [hg]; exact h), hg, ih _ h (by omega), rootOf_step h]
      · rw [rootOf_end (by rw [hg]; exact h), rootOf_end h, if_neg e]
def RootK (j : List Int) (K : Nat → Nat → Bool) (n : Nat) : Prop := j.length = n ∧ Forest j ∧ ∀ a b, a < n → b < n → ((rootOf j a == rootOf j b) = K a b)
theorem RootK.start {j : List Int} {n : Nat} (hn : j.length = n) (h : ∀ i, i < n → j.getD i 0 = (i : Int)) : RootK j (joinK []) n := by
  refine ⟨hn, ⟨fun x hx => by rw [h x (by omega)]; omega⟩, fun a b ha hb => ?_⟩
  rw [rootOf_fix (h a ha), rootOf_fix (h b hb), joinK_nil]
theorem RootK.same {j j' : List Int} {K : Nat → Nat → Bool} {n : Nat} (h : RootK j K n) (hl : j'.length = j.length) (hF : Forest j') (hr : ∀ z, z < j.length → rootOf j' z = rootOf j z) : RootK j' K n :=
  ⟨by rw [hl]; exact h.1, hF, fun a b ha hb => by rw [hr a (by have := h.1; omega), hr b (by have := h.1; omega)]; exact h.2.2 a b ha hb⟩
theorem RootK.join {j : List Int} {K : Nat → Nat → Bool} {n p q : Nat} (h : RootK j K n) (hp : p < n) (hq : q < n) : RootK (j.set (max (rootOf j p) (rootOf j q)) ((min (rootOf j p) (rootOf j q) : Nat) : Int)) (stepK K p q) n := by
  obtain ⟨hl, hF, hk⟩ := h
  have lp := rootOf_le j p
  have lq := rootOf_le j q
  have rp := rootOf_root hF (x := p) (by omega)
  have rq := rootOf_root hF (x := q) (by omega)
  have hmx : j.getD (max (rootOf j p) (rootOf j q)) 0 = ((max (rootOf j p) (rootOf j q) : Nat) : Int) := by
    rcases Nat.le_total (rootOf j p) (rootOf j q) with h | h
    · rw [Nat.max_eq_right h]; exact rq
    · rw [Nat.max_eq_left h]; exact rp
  have hmn : j.getD (min (rootOf j p) (rootOf j q)) 0 = ((min (rootOf j p) (rootOf j q) : Nat) : Int) := by
    rcases Nat.le_total (rootOf j p) (rootOf j q) with h | h
    · rw [Nat.min_eq_left h]; exact rp
    · rw [Nat.min_eq_right h]; exact rq
  obtain ⟨k1, k2⟩ := rootOf_join hF (x := max (rootOf j p) (rootOf j q)) (y := min (rootOf j p) (rootOf j q)) (by omega) hmx hmn (by omega)
  refine ⟨by simpa using hl, k1, fun a b ha hb => ?_⟩
  rw [k2 a (by omega), k2 b (by omega)]
  unfold stepK
  rw [← hk a b ha hb, ← hk a p ha hp, ← hk q b hq hb, ← hk a q ha hq, ← hk p b hp hb, Bool.eq_iff_iff]
  simp only [beq_iff_eq, Bool.or_eq_true, Bool.and_eq_true]
  generalize rootOf j a = ra at *
  generalize rootOf j b = rb at *
  generalize rootOf j p = x at *
  generalize rootOf j q = y at *
  rcases Nat.le_total x y with h | h
  · rw [Nat.max_eq_right h, Nat.min_eq_left h]
    by_cases h1 : ra = y
    · by_cases h2 : rb = y
      · rw [if_pos h1, if_pos h2]; omega
      · rw [if_pos h1, if_neg h2]; omega
    · by_cases h2 : rb = y
      · rw [if_neg h1, if_pos h2]; omega
      · rw [if_neg h1, if_neg h2]; omega
  · rw [Nat.max_eq_left h, Nat.min_eq_right h]
    by_cases h1 : ra = x
    · by_cases h2 : rb = x
      · rw [if_pos h1, if_pos h2]; omega
      · rw [if_pos h1, if_neg h2]; omega
    · by_cases h2 : rb = x
      · rw [if_neg h1, if_pos h2]; omega
      · rw [if_neg h1, if_neg h2]; omega
theorem Ker.cls {lab : List Int} {K : Nat → Nat → Bool} {n : Nat} (h : Ker lab K n) : clsL (kerB lab) n = clsL K n := clsL_congr h
def joinL (n : Nat) (ps : List (Nat × Nat)) : List Int := clsL (joinK ps) n
@[simp] theorem length_joinL (n : Nat) (ps : List (Nat × Nat)) : (joinL n ps).length = n := by simp [joinL]
end Go.GL
namespace Go.Proofs.Ytagkeabmdodfiaa
open Go Go.GL Go.RowKit Go.Proofs
theorem l01Own_c {a : Option Addr} {xs : List Int} {H : GHeap} (h : Ints H a xs := by assumption) (hl : xs.length ≤ 1048576 := by omega) :
    GCalls Try.prog 147 [.slice a xs.length xs.length] H (NewInts 2 H xs) := by
  refine GCalls.body (N := 6) (rs := [.tmp 2]) Try.func147 rfl rfl rfl rfl (fun Qx hret hend => ?_)
  refine .forget (fr' := [(0, some _)]) ⟨rfl, trivial⟩ ?_
  have hle := GHeap.Le.refl H
  have base_h := h
  refine .seq (fun K1 hK1 => .region (.mv rfl (.nil (hK1 _ _ (.seq (fun K2 hK2 => .region ?_))))))
  refine .r rfl rfl rfl (.litR rfl sl_22_A ze_2_E rfl rfl (by omega) (by omega) rfl rfl) ?_
  rintro _ H3 ⟨g3, rfl, le3, ge3, at3⟩
  replace hle := hle.trans le3
  have lt_at3 := GHeap.ltg at3
  replace h := base_h.mono hle
  replace at3 : GHeap.get H3 g3 = some (.row (ints []) 2 true) := at3
  refine .mv rfl ?_
  refine .r rfl rfl rfl (.appendL rfl sl_22_A ze_2_E rfl by_2_E sl_22_A rfl rfl (by assumption) (by first | assumption | exact Ints.of_get (by assumption)) (by first | omega | (simp <;> omega)) (by omega) (by omega)) ?_
  rintro _ H5 ⟨g5, rfl, st5, ge5, at5⟩
  replace hle := hle.st st5 (fun k hk => ⟨by omega, trivial⟩)
  refine .mv rfl (.nil (hK2 _ _ ?_))
  refine .ret ?_
  refine hret _ _ ?_
  refine ⟨_, rfl, ?_⟩
  exact ⟨hle, _, by rw [Nat.zero_add], by simpa using at5, by omega⟩
theorem clone_c {a : Option Addr} {xs : List Int} {H : GHeap} (h : Ints H a xs := by assumption) (hl : xs.length ≤ 1048576 := by omega) :
    GCalls Try.prog 73 [.slice a xs.length xs.length] H (NewInts 2 H xs) := by
  refine GCalls.body (N := 6) (rs := [.tmp 2]) Try.func73 rfl rfl rfl rfl (fun Qx hret hend => ?_)
  refine .forget (fr' := [(0, some _)]) ⟨rfl, trivial⟩ ?_
  have hle := GHeap.Le.refl H
  have base_h := h
  refine .seq (fun K1 hK1 => .region (.mv rfl (.nil (hK1 _ _ (.seq (fun K2 hK2 => .region ?_))))))
  refine .r rfl rfl rfl (.litR rfl sl_22_A ze_2_E rfl rfl (by omega) (by omega) rfl rfl) ?_
  rintro _ H3 ⟨g3, rfl, le3, ge3, at3⟩
  replace hle := hle.trans le3
  have lt_at3 := GHeap.ltg at3
  replace h := base_h.mono hle
  replace at3 : GHeap.get H3 g3 = some (.row (ints []) 2 true) := at3
  refine .mv rfl ?_
  refine .r rfl rfl rfl (.appendL rfl sl_22_A ze_2_E rfl by_2_E sl_22_A rfl rfl (by assumption) (by first | assumption | exact Ints.of_get (by assumption)) (by first | omega | (simp <;> omega)) (by omega) (by omega)) ?_
  rintro _ H5 ⟨g5, rfl, st5, ge5, at5⟩
  replace hle := hle.st st5 (fun k hk => ⟨by omega, trivial⟩)
  refine .mv rfl (.nil (hK2 _ _ ?_))
  refine .ret ?_
  refine hret _ _ ?_
  refine ⟨_, rfl, ?_⟩
  exact ⟨hle, _, by rw [Nat.zero_add], by simpa using at5, by omega⟩
theorem l01Index_c {a : Option Addr} {xs : List Int} {n : Int} {H : GHeap} (h : Ints H a xs := by assumption) (hl : xs.length ≤ 16777216 := by omega) :
    GCalls Try.prog 152 [.slice a xs.length xs.length, .int .i64 n] H (Ret (.int .i64 (idxL xs n)) H) := by
  refine GCalls.body (N := 19) (rs := [.tmp 4]) Try.func152 rfl rfl rfl rfl (fun Qx hret hend => ?_)
  refine .forget (fr' := [(0, some _), (1, some _)]) ⟨rfl, rfl, trivial⟩ ?_
  refine .seq (fun K1 hK1 => .region (.mv rfl (.nil (hK1 _ _ (.seq (fun K2 hK2 => .seq (fun K3 hK3 => .region (.mv rfl (.nil (hK3 _ _ ?_))))))))))
  refine .block ?_
  refine .loopR (σ := Nat) [(0, some _), (1, some _)] (fun k => [(5, some (.int .i64 (k : Int)))]) (fun k H' => H = H' ∧ (k : Int) ≤ xs.length ∧ ∀ i, i < k → ¬ xs.getD i 0 = n) (fun k => (xs.length - k : Int).toNat) (0) ⟨rfl, rfl, trivial⟩ ⟨rfl, trivial⟩ ?_ ?_
  ·
   refine ⟨rfl, ?_⟩
   exact ⟨by omega, fun _ _ => by omega⟩
  rintro k _ ⟨rfl, hI⟩ KL1 hKL1
  refine .forget (fr' := [(5, some (.int .i64 (k : Int))), (0, some _), (1, some _)]) ⟨rfl, rfl, rfl, trivial⟩ ?_
  obtain ⟨hk1, ha1⟩ := hI
  refine .seq (fun K4 hK4 => .seq (fun K5 hK5 => .region (.mv rfl (.mv rfl (.m rfl rfl rfl (.len sl_22_A rfl) (.m rfl rfl rfl (.cmp rfl rfl rfl) (.nil (hK5 _ _ ?_))))))))
  refine .cond rfl (fun h9 => ?_) (fun h9 => ?_)
  ·
   try simp only [sps] at h9
   refine .skip ?_
   refine hK4 _ _ (.seq (fun K6 hK6 => ?_))
   refine .block ?_
   refine .seq (fun K7 hK7 => .region (.mv rfl (.mv rfl ?_)))
   refine .m rfl rfl rfl (.idxN sl_22_A (by assumption) rfl rfl (by omega)) ?_
   refine .m rfl rfl rfl (.loadI on_2_A (by assumption) rfl (by omega)) ?_
   refine .mv rfl (.m rfl rfl rfl (.cmp rfl rfl rfl) (.nil (hK7 _ _ ?_)))
   refine .cond rfl (fun h17 => ?_) (fun h17 => ?_)
   ·
    try simp only [sps] at h17
    refine .seq (fun K8 hK8 => .region (.mv rfl (.mv rfl (.nil (hK8 _ _ ?_)))))
    refine .ret ?_
    refine hret _ _ ?_
    refine ⟨_, rfl, ?_⟩
    exact .of (congrArg _ (idxL_some (by omega) h17 ha1))
   try simp only [sps] at h17
   refine .skip ?_
   refine hK6 _ _ (.region (.mv rfl ?_))
   refine .m rfl rfl rfl (.add rfl rfl rfl (by omega) (by omega)) ?_
   refine .mv rfl (.nil ?_)
   refine hKL1 (k + 1) _ _ ?_ ?_ ⟨rfl, rfl, rfl, trivial⟩
   ·
    refine ⟨rfl, ?_⟩
    refine ⟨by omega, fun i hx => ?_⟩
    by_cases hltq : i < k
    · exact ha1 i hltq
    · obtain rfl : i = k := by omega
      exact h17
   omega
  try simp only [sps] at h9
  refine .exit ?_
  refine hK2 _ _ (.seq (fun K9 hK9 => .region (.mv rfl (.nil (hK9 _ _ ?_)))))
  refine .ret ?_
  refine hret _ _ ?_
  refine ⟨_, rfl, ?_⟩
  exact .of (congrArg _ (idxL_none fun j hj => ha1 j (by omega)))
theorem l01Classes_c {a : Option Addr} {xs : List Int} {H : GHeap} (h : Ints H a xs := by assumption) (hl : xs.length ≤ 1048576 := by omega) :
    GCalls Try.prog 145 [.slice a xs.length xs.length] H (NewInts 2 H (clsL (kerB xs) xs.length)) := by
  refine GCalls.body (N := 37) (rs := [.tmp 2]) Try.func145 rfl rfl rfl rfl (fun Qx hret hend => ?_)
  refine .forget (fr' := [(0, some _)]) ⟨rfl, trivial⟩ ?_
  have hle := GHeap.Le.refl H
  have base_h := h
  refine .seq (fun K1 hK1 => .region (.mv rfl (.nil (hK1 _ _ (.seq (fun K2 hK2 => .region ?_))))))
  refine .r rfl rfl rfl (.litR rfl sl_22_A ze_2_E rfl rfl (by omega) (by omega) rfl rfl) ?_
  rintro _ H7 ⟨g7, rfl, le7, ge7, at7⟩
  have nx_H7 := le7.1
  replace hle := hle.trans le7
  have lt_at7 := GHeap.ltg at7
  replace h := base_h.mono hle
  replace at7 : GHeap.get H7 g7 = some (.row (ints []) 2 true) := at7
  refine .r rfl rfl rfl (.litR rfl sl_22_A ze_2_E rfl rfl (by omega) (by omega) rfl rfl) ?_
  rintro _ H8 ⟨g8, rfl, le8, ge8, at8⟩
  have nx_H8 := le8.1
  replace hle := hle.trans le8
  replace at7 := le8.2 _ _ at7
  have lt_at8 := GHeap.ltg at8
  replace h := base_h.mono hle
  replace at8 : GHeap.get H8 g8 = some (.row (ints []) 2 true) := at8
  refine .mv rfl (.mv rfl (.nil (hK2 _ _ (.seq (fun K3 hK3 => .seq (fun K4 hK4 => .region (.mv rfl (.nil (hK4 _ _ ?_)))))))))
  refine .block ?_
  refine .loopR (σ := Nat × Nat × Nat × Nat × Nat) [(0, some _)] (fun (k, gL3, nL3, gL4, nL4) => [(5, some (.int .i64 (k : Int))), (3, some (.slice (some ⟨gL3, 0, none⟩) nL3 nL3)), (4, some (.slice (some ⟨gL4, 0, none⟩) nL4 nL4))]) (fun (k, gL3, nL3, gL4, nL4) H' => St [g7, g8] H8 H' ∧ H'.get gL3 = some (.row (ints (clsL (kerB xs) k)) 2 true) ∧ (gL3 = g7 ∨ H8.next ≤ gL3) ∧ nL3 = (clsL (kerB xs) k).length ∧ H'.get gL4 = some (.row (ints (seenL xs k)) 2 true) ∧ (gL4 = g8 ∨ H8.next ≤ gL4) ∧ nL4 = (seenL xs k).length ∧ gL3 ≠ gL4 ∧ k ≤ xs.length) (fun (k, gL3, nL3, gL4, nL4) => xs.length - k) ((0, _, _, _, _)) ⟨rfl, trivial⟩ ⟨rfl, rfl, rfl, trivial⟩ ?_ ?_
  ·
   refine ⟨.refl _ _, by first | assumption | exact at7 | simpa using at7, .inl rfl, by first | rfl | assumption | simp | omega, by first | assumption | exact at8 | simpa using at8, .inl rfl, by first | rfl | assumption | simp | omega, by omega, ?_⟩
   omega
  rintro ⟨k, gL3, nL3, gL4, nL4⟩ HL1 ⟨lst1, at_L3, pl_L3, ln_L3, at_L4, pl_L4, ln_L4, ap1_0, hI⟩ KL1 hKL1
  refine .forget (fr' := [(5, some (.int .i64 (k : Int))), (3, some (.slice (some ⟨gL3, 0, none⟩) nL3 nL3)), (4, some (.slice (some ⟨gL4, 0, none⟩) nL4 nL4)), (0, some _)]) ⟨rfl, rfl, rfl, rfl, trivial⟩ ?_
  have ge_L3 : H.next ≤ gL3 := by omega
  have ge_L4 : H.next ≤ gL4 := by omega
  have nx_HL1 := lst1.nx
  replace hle := hle.st lst1 (fun k hk => ⟨by omega, by omega, trivial⟩)
  have lt_at_L3 := GHeap.ltg at_L3
  have lt_at_L4 := GHeap.ltg at_L4
  replace h := base_h.mono hle
  have i4 := Ints.of_get at_L4
  have hl3 : (clsL (kerB xs) k).length = k := length_clsL _ _
  have hl4 : (seenL xs k).length ≤ k := by rw [length_seenL]; exact reps_le _ _
  obtain rfl := ln_L4
  have hix := idxL_lt (seenL xs k) (xs.getD k 0)
  refine .seq (fun K5 hK5 => .seq (fun K6 hK6 => .region (.mv rfl (.mv rfl (.m rfl rfl rfl (.len sl_22_A rfl) (.m rfl rfl rfl (.cmp rfl rfl rfl) (.nil (hK6 _ _ ?_))))))))
  refine .cond rfl (fun h12 => ?_) (fun h12 => ?_)
  ·
   try simp only [sps] at h12
   refine .skip ?_
   refine hK5 _ _ (.seq (fun K7 hK7 => ?_))
   refine .block ?_
   refine .seq (fun K8 hK8 => .region (.mv rfl (.mv rfl (.mv rfl ?_))))
   refine .m rfl rfl rfl (.idxN sl_22_A (by assumption) rfl rfl (by omega)) ?_
   refine .m rfl rfl rfl (.loadI on_2_A (by assumption) rfl (by omega)) ?_
   refine .callQ rfl rfl rfl rfl @Try.call152 rfl (l01Index_c) ?_
   refine .mv rfl (.nil (hK8 _ _ (.seq (fun K9 hK9 => .seq (fun K10 hK10 => .region (.mv rfl (.m rfl rfl rfl (.cmp rfl rfl rfl) (.nil (hK10 _ _ ?_)))))))))
   refine .cond rfl (fun h22 => ?_) (fun h22 => ?_)
   ·
    try simp only [sps] at h22
    refine .seq (fun K11 hK11 => .region (.mv rfl (.m rfl rfl rfl (.len sl_22_A rfl) (.mv rfl (.nil (hK11 _ _ (.region (.mv rfl (.mv rfl (.mv rfl ?_))))))))))
    refine .m rfl rfl rfl (.idxN sl_22_A (by assumption) rfl rfl (by omega)) ?_
    refine .m rfl rfl rfl (.loadI on_2_A (by assumption) rfl (by omega)) ?_
    refine .r rfl rfl rfl (.litR rfl sl_22_A ze_2_E rfl rfl (by omega) (by omega) rfl rfl) ?_
    rintro _ H30 ⟨g30, rfl, le30, ge30, at30⟩
    have nx_H30 := le30.1
    replace hle := hle.trans le30
    replace lst1 := lst1.le le30
    replace at_L3 := le30.2 _ _ at_L3
    replace at_L4 := le30.2 _ _ at_L4
    have lt_at30 := GHeap.ltg at30
    replace h := base_h.mono hle
    refine .r rfl rfl rfl (.appendI rfl sl_22_A ze_2_E rfl by_2_E sl_22_A rfl rfl (by assumption) (by assumption) (by first | omega | (simp <;> omega)) (by omega) (by omega)) ?_
    rintro _ H31 ⟨g31, rfl, st31, ge31, at31⟩
    have nx_H31 := st31.nx
    replace hle := hle.st st31 (fun k hk => ⟨by omega, trivial⟩)
    replace lst1 := lst1.st st31 (fun k hk ho => by simp only [out, and_true] at ho ⊢ <;> first | exact ho | exact ho.1 | exact ho.2 | exact ho.2.1 | exact ho.2.2 | exact ho.2.2.1 | exact ho.2.2.2 | omega)
    replace at_L3 := st31.same _ _ ⟨ap1_0, trivial⟩ at_L3
    replace at30 := st31.same _ _ ⟨(by first | assumption | omega), trivial⟩ at30
    have lt_at31 := GHeap.ltg at31
    replace h := base_h.mono hle
    refine .mv rfl (.nil (hK9 _ _ (.region (.mv rfl (.mv rfl ?_)))))
    refine .r rfl rfl rfl (.litR rfl sl_22_A ze_2_E rfl rfl (by omega) (by omega) rfl rfl) ?_
    rintro _ H34 ⟨g34, rfl, le34, ge34, at34⟩
    have nx_H34 := le34.1
    replace hle := hle.trans le34
    replace lst1 := lst1.le le34
    replace at_L3 := le34.2 _ _ at_L3
    replace at30 := le34.2 _ _ at30
    replace at31 := le34.2 _ _ at31
    have lt_at34 := GHeap.ltg at34
    replace h := base_h.mono hle
    refine .r rfl rfl rfl (.appendI rfl sl_22_A ze_2_E rfl by_2_E sl_22_A rfl rfl (by assumption) (by assumption) (by first | omega | (simp <;> omega)) (by omega) (by omega)) ?_
    rintro _ H35 ⟨g35, rfl, st35, ge35, at35⟩
    have nx_H35 := st35.nx
    replace hle := hle.st st35 (fun k hk => ⟨by omega, trivial⟩)
    replace lst1 := lst1.st st35 (fun k hk ho => by simp only [out, and_true] at ho ⊢ <;> first | exact ho | exact ho.1 | exact ho.2 | exact ho.2.1 | exact ho.2.2 | exact ho.2.2.1 | exact ho.2.2.2 | omega)
    replace at30 := st35.same _ _ ⟨(by first | assumption | omega), trivial⟩ at30
    replace at31 := st35.same _ _ ⟨(by first | assumption | omega), trivial⟩ at31
    replace at34 := st35.same _ _ ⟨(by first | assumption | omega), trivial⟩ at34
    have lt_at35 := GHeap.ltg at35
    replace h := base_h.mono hle
    refine .mv rfl (.nil (hK7 _ _ (.region (.mv rfl ?_))))
    refine .m rfl rfl rfl (.add rfl rfl rfl (by omega) (by omega)) ?_
    refine .mv rfl (.nil ?_)
    refine hKL1 ((k + 1, _, _, _, _)) _ _ ?_ ?_ ⟨rfl, rfl, rfl, rfl, trivial⟩
    ·
     refine ⟨lst1, by first | assumption | (rw [(cls_new h22).1]; assumption) | (rw [(cls_new h22).2]; assumption) | (rw [(cls_old h22).1]; assumption) | (rw [(cls_old h22).2]; assumption), by omega, by first | omega | (simp only [List.length_append, List.length_cons, List.length_nil] <;> omega) | (rw [(cls_new h22).1] <;> (first | omega | (simp only [List.length_append, List.length_cons, List.length_nil] <;> omega))) | (rw [(cls_new h22).2] <;> (first | omega | (simp only [List.length_append, List.length_cons, List.length_nil] <;> omega))) | (rw [(cls_old h22).1] <;> (first | omega | (simp only [List.length_append, List.length_cons, List.length_nil] <;> omega))) | (rw [(cls_old h22).2] <;> (first | omega | (simp only [List.length_append, List.length_cons, List.length_nil] <;> omega))), by first | assumption | (rw [(cls_new h22).1]; assumption) | (rw [(cls_new h22).2]; assumption) | (rw [(cls_old h22).1]; assumption) | (rw [(cls_old h22).2]; assumption), by omega, by first | omega | (simp only [List.length_append, List.length_cons, List.length_nil] <;> omega) | (rw [(cls_new h22).1] <;> (first | omega | (simp only [List.length_append, List.length_cons, List.length_nil] <;> omega))) | (rw [(cls_new h22).2] <;> (first | omega | (simp only [List.length_append, List.length_cons, List.length_nil] <;> omega))) | (rw [(cls_old h22).1] <;> (first | omega | (simp only [List.length_append, List.length_cons, List.length_nil] <;> omega))) | (rw [(cls_old h22).2] <;> (first | omega | (simp only [List.length_append, List.length_cons, List.length_nil] <;> omega))), by omega, ?_⟩
     omega
    (dsimp only; omega)
   try simp only [sps] at h22
   refine .skip ?_
   refine hK9 _ _ (.region (.mv rfl (.mv rfl ?_)))
   refine .r rfl rfl rfl (.litR rfl sl_22_A ze_2_E rfl rfl (by omega) (by omega) rfl rfl) ?_
   rintro _ H34x2 ⟨g34x2, rfl, le34x2, ge34x2, at34x2⟩
   have nx_H34x2 := le34x2.1
   replace hle := hle.trans le34x2
   replace lst1 := lst1.le le34x2
   replace at_L3 := le34x2.2 _ _ at_L3
   replace at_L4 := le34x2.2 _ _ at_L4
   have lt_at34x2 := GHeap.ltg at34x2
   replace h := base_h.mono hle
   refine .r rfl rfl rfl (.appendI rfl sl_22_A ze_2_E rfl by_2_E sl_22_A rfl rfl (by assumption) (by assumption) (by first | omega | (simp <;> omega)) (by omega) (by omega)) ?_
   rintro _ H35x2 ⟨g35x2, rfl, st35x2, ge35x2, at35x2⟩
   have nx_H35x2 := st35x2.nx
   replace hle := hle.st st35x2 (fun k hk => ⟨by omega, trivial⟩)
   replace lst1 := lst1.st st35x2 (fun k hk ho => by simp only [out, and_true] at ho ⊢ <;> first | exact ho | exact ho.1 | exact ho.2 | exact ho.2.1 | exact ho.2.2 | exact ho.2.2.1 | exact ho.2.2.2 | omega)
   replace at_L4 := st35x2.same _ _ ⟨(Ne.symm ap1_0), trivial⟩ at_L4
   replace at34x2 := st35x2.same _ _ ⟨(by first | assumption | omega), trivial⟩ at34x2
   have lt_at35x2 := GHeap.ltg at35x2
   replace h := base_h.mono hle
   refine .mv rfl (.nil (hK7 _ _ (.region (.mv rfl ?_))))
   refine .m rfl rfl rfl (.add rfl rfl rfl (by omega) (by omega)) ?_
   refine .mv rfl (.nil ?_)
   refine hKL1 ((k + 1, _, _, _, _)) _ _ ?_ ?_ ⟨rfl, rfl, rfl, rfl, trivial⟩
   ·
    refine ⟨lst1, by first | assumption | (rw [(cls_new h22).1]; assumption) | (rw [(cls_new h22).2]; assumption) | (rw [(cls_old h22).1]; assumption) | (rw [(cls_old h22).2]; assumption), by omega, by first | omega | (simp only [List.length_append, List.length_cons, List.length_nil] <;> omega) | (rw [(cls_new h22).1] <;> (first | omega | (simp only [List.length_append, List.length_cons, List.length_nil] <;> omega))) | (rw [(cls_new h22).2] <;> (first | omega | (simp only [List.length_append, List.length_cons, List.length_nil] <;> omega))) | (rw [(cls_old h22).1] <;> (first | omega | (simp only [List.length_append, List.length_cons, List.length_nil] <;> omega))) | (rw [(cls_old h22).2] <;> (first | omega | (simp only [List.length_append, List.length_cons, List.length_nil] <;> omega))), by first | assumption | (rw [(cls_new h22).1]; assumption) | (rw [(cls_new h22).2]; assumption) | (rw [(cls_old h22).1]; assumption) | (rw [(cls_old h22).2]; assumption), by omega, by first | omega | (simp only [List.length_append, List.length_cons, List.length_nil] <;> omega) | (rw [(cls_new h22).1] <;> (first | omega | (simp only [List.length_append, List.length_cons, List.length_nil] <;> omega))) | (rw [(cls_new h22).2] <;> (first | omega | (simp only [List.length_append, List.length_cons, List.length_nil] <;> omega))) | (rw [(cls_old h22).1] <;> (first | omega | (simp only [List.length_append, List.length_cons, List.length_nil] <;> omega))) | (rw [(cls_old h22).2] <;> (first | omega | (simp only [List.length_append, List.length_cons, List.length_nil] <;> omega))), by omega, ?_⟩
    omega
   (dsimp only; omega)
  try simp only [sps] at h12
  refine .exit ?_
  refine hK3 _ _ (.seq (fun K12 hK12 => .region (.mv rfl (.mv rfl (.nil (hK12 _ _ ?_))))))
  refine .ret ?_
  refine hret _ _ ?_
  refine ⟨_, rfl, ?_⟩
  obtain rfl : k = xs.length := by omega
  exact ⟨hle, _, by rw [ln_L3], at_L3, by omega⟩
theorem l01ClassesN_c {a : Option Addr} {n : Nat} {xs : List Int} {H : GHeap} (hn : xs.length = n) (h : Ints H a xs := by assumption) (hl : n ≤ 1048576 := by omega) :
    GCalls Try.prog 145 [.slice a n n] H (NewInts 2 H (clsL (kerB xs) n)) := by
  subst hn
  exact l01Classes_c h hl
set_option maxHeartbeats 4000000 in
theorem l01Join_c {a : Option Addr} {n : Nat} {pss : List (List Int)} {r : Nat → Option Addr} {H : GHeap} (h : Intss H a pss r := by assumption) (hn : n ≤ 1048576 := by omega) (hl : pss.length ≤ 1048576 := by omega)
    (hp : ∀ i, i < pss.length → 2 ≤ (pss.getD i []).length ∧ 0 ≤ (pss.getD i []).getD 0 0 ∧ (pss.getD i []).getD 0 0 < n ∧ 0 ≤ (pss.getD i []).getD 1 0 ∧ (pss.getD i []).getD 1 0 < n) :
    GCalls Try.prog 128 [.int .i64 (n : Int), .slice a pss.length pss.length] H (NewInts 2 H (joinL n (pss.map fun p => (pA p, pB p)))) := by
  refine GCalls.body (N := 68) (rs := [.tmp 4]) Try.func128 rfl rfl rfl rfl (fun Qx hret hend => ?_)
  refine .forget (fr' := [(0, some _), (1, some _)]) ⟨rfl, rfl, trivial⟩ ?_
  have hle := GHeap.Le.refl H
  have base_h := h
  refine .seq (fun K1 hK1 => .region (.mv rfl (.nil (hK1 _ _ (.seq (fun K2 hK2 => .region ?_))))))
  refine .r rfl rfl rfl (.litR rfl sl_22_A ze_2_E rfl rfl (by omega) (by omega) rfl rfl) ?_
  rintro _ H11 ⟨g11, rfl, le11, ge11, at11⟩
  replace hle := hle.trans le11
  have lt_at11 := GHeap.ltg at11
  replace at11 : GHeap.get H11 g11 = some (.row (ints []) 2 true) := at11
  refine .mv rfl (.nil (hK2 _ _ (.seq (fun K3 hK3 => .seq (fun K4 hK4 => .region (.mv rfl (.nil (hK4 _ _ ?_))))))))
  refine .block ?_
  refine .loopR (σ := Nat × Nat × Nat) [(0, some _), (1, some _)] (fun (k, gL5, nL5) => [(6, some (.int .i64 (k : Int))), (5, some (.slice (some ⟨gL5, 0, none⟩) nL5 nL5))]) (fun (k, gL5, nL5) H' => St [g11] H11 H' ∧ H'.get gL5 = some (.row (ints (numsL k)) 2 true) ∧ (gL5 = g11 ∨ H11.next ≤ gL5) ∧ nL5 = (numsL k).length ∧ k ≤ n) (fun (k, gL5, nL5) => n - k) ((0, _, _)) ⟨rfl, rfl, trivial⟩ ⟨rfl, rfl, trivial⟩ ?_ ?_
  ·
   refine ⟨.refl _ _, by first | assumption | exact at11 | simpa using at11, .inl rfl, by first | rfl | assumption | simp | omega, ?_⟩
   omega
  rintro ⟨k, gL5, nL5⟩ HL1 ⟨lst1, at_L5, pl_L5, ln_L5, hI⟩ KL1 hKL1
  refine .forget (fr' := [(6, some (.int .i64 (k : Int))), (5, some (.slice (some ⟨gL5, 0, none⟩) nL5 nL5)), (0, some _), (1, some _)]) ⟨rfl, rfl, rfl, rfl, trivial⟩ ?_
  have ge_L5 : H.next ≤ gL5 := by omega
  have nx_HL1 := lst1.nx
  replace hle := hle.st lst1 (fun k hk => ⟨by omega, trivial⟩)
  have hl5 : (numsL k).length = k := length_numsL _
  refine .seq (fun K5 hK5 => .seq (fun K6 hK6 => .region (.mv rfl (.mv rfl (.m rfl rfl rfl (.cmp rfl rfl rfl) (.nil (hK6 _ _ ?_)))))))
  refine .cond rfl (fun h14 => ?_) (fun h14 => ?_)
  ·
   try simp only [sps] at h14
   refine .skip ?_
   refine hK5 _ _ (.seq (fun K7 hK7 => ?_))
   refine .block ?_
   refine .region (.mv rfl (.mv rfl ?_))
   refine .r rfl rfl rfl (.litR rfl sl_22_A ze_2_E rfl rfl (by omega) (by omega) rfl rfl) ?_
   rintro _ H19 ⟨g19, rfl, le19, ge19, at19⟩
   replace lst1 := lst1.le le19
   replace at_L5 := le19.2 _ _ at_L5
   have lt_at19 := GHeap.ltg at19
   refine .r rfl rfl rfl (.appendI rfl sl_22_A ze_2_E rfl by_2_E sl_22_A rfl rfl (by assumption) (by assumption) (by first | omega | (simp <;> omega)) (by omega) (by omega)) ?_
   rintro _ H20 ⟨g20, rfl, st20, ge20, at20⟩
   replace lst1 := lst1.st st20 (fun k hk ho => by simp only [out, and_true] at ho ⊢ <;> first | exact ho | exact ho.1 | exact ho.2 | exact ho.2.1 | exact ho.2.2 | exact ho.2.2.1 | exact ho.2.2.2 | omega)
   refine .mv rfl (.nil (hK7 _ _ (.region (.mv rfl ?_))))
   refine .m rfl rfl rfl (.add rfl rfl rfl (by omega) (by omega)) ?_
   refine .mv rfl (.nil ?_)
   refine hKL1 ((k + 1, _, _)) _ _ ?_ ?_ ⟨rfl, rfl, rfl, rfl, trivial⟩
   ·
    refine ⟨lst1, by first | assumption | (rw [numsL_succ k]; assumption), by omega, by first | omega | (simp only [List.length_append, List.length_cons, List.length_nil] <;> omega) | (rw [numsL_succ k] <;> (first | omega | (simp only [List.length_append, List.length_cons, List.length_nil] <;> omega))), ?_⟩
    omega
   (dsimp only; omega)
  try simp only [sps] at h14
  refine .exit ?_
  refine hK3 _ _ (.seq (fun K8 hK8 => .seq (fun K9 hK9 => .region (.mv rfl (.nil (hK9 _ _ ?_))))))
  refine .block ?_
  obtain rfl : k = n := by omega
  rw [length_numsL] at ln_L5
  obtain rfl := ln_L5.symm
  refine .loopR (σ := Nat × List Int) [(1, some _), (5, some _)] (fun (j, lab) => [(7, some (.int .i64 (j : Int)))]) (fun (j, lab) H' => St [gL5] HL1 H' ∧ H'.get gL5 = some (.row (ints lab) 2 true) ∧ j ≤ pss.length ∧ lab.length = k ∧ Ker lab (joinK (pairL pss j)) k) (fun (j, lab) => pss.length - j) ((0, numsL k)) ⟨rfl, rfl, trivial⟩ ⟨rfl, trivial⟩ ?_ ?_
  ·
   refine ⟨.refl _ _, by first | assumption | exact at_L5 | simpa using at_L5, ?_⟩
   exact ⟨by omega, length_numsL _, by rw [pairL_zero]; exact Ker.start fun i hi => numsL_get (by omega)⟩
  rintro ⟨j, lab⟩ HL2 ⟨lst2, at_L5, hI⟩ KL2 hKL2
  refine .forget (fr' := [(7, some (.int .i64 (j : Int))), (1, some _), (5, some _)]) ⟨rfl, rfl, rfl, trivial⟩ ?_
  have nx_HL2 := lst2.nx
  replace hle := hle.st lst2 (fun k hk => ⟨by omega, trivial⟩)
  replace h := base_h.mono hle
  obtain ⟨hj, hlab, hK⟩ := hI
  have i5 := Ints.of_get at_L5
  have i5s : SlA HL2 _ _ _ := i5
  rw [hlab] at i5s
  refine .seq (fun K10 hK10 => .seq (fun K11 hK11 => .region (.mv rfl (.mv rfl (.m rfl rfl rfl (.len sl_23_B rfl) (.m rfl rfl rfl (.cmp rfl rfl rfl) (.nil (hK11 _ _ ?_))))))))
  refine .cond rfl (fun h24 => ?_) (fun h24 => ?_)
  ·
   simp only [sps] at h24
   have q1 := hp j (by omega)
   have q3 : pA (pss.getD j []) < k := by unfold pA; omega
   have q4 : pB (pss.getD j []) < k := by unfold pB; omega
   have q2 := h.2 j (by omega)
   refine .skip ?_
   refine hK10 _ _ (.seq (fun K12 hK12 => ?_))
   refine .block ?_
   refine .seq (fun K13 hK13 => ?_)
   refine .regionD mo_B (.q 0 (.q 1 (.q 2 (.q 3 (.q 4 (.q 5 (.q 6 (.q 7 (.q 8 (.q 9 (.q 10 (.q 11 (.q 12 (.q 13 (.q 14 (.q 15 (.q 16 (.q 17 (.q 18 (.q 19 (.done))))))))))))))))))))) (by kernel_rfl) ?_
   refine .mv rfl rfl (.mv rfl rfl (.mv rfl rfl ?_))
   refine .m rfl rfl rfl rfl (.refl _) (.idxN sl_23_B (Intss.sl (by assumption)) rfl rfl (by omega)) ?_
   refine .m rfl rfl rfl rfl (.refl _) (.loadR on_22_B (by assumption) rfl (by omega)) ?_
   refine .m rfl rfl rfl rfl (.refl _) (.idxN (j := 0) sl_22_A (by assumption) rfl rfl (by omega)) ?_
   refine .m rfl rfl rfl rfl (.refl _) (.loadI on_2_A (by assumption) rfl (by omega)) ?_
   refine .m rfl rfl rfl rfl (.refl _) (.idx1 sl_22_A (by first | assumption | exact SlA.of_row at_L5 (by first | rfl | (simp; done) | (simp <;> omega))) rfl rfl (by omega) (by omega)) ?_
   refine .m rfl rfl rfl rfl (.refl _) (.loadI on_2_A (by first | assumption | exact Ints.of_get at_L5) rfl (by omega)) ?_
   refine .mv rfl rfl (.mv rfl rfl (.mv rfl rfl ?_))
   refine .m rfl rfl rfl rfl (.refl _) (.idxN sl_23_B (Intss.sl (by assumption)) rfl rfl (by omega)) ?_
   refine .m rfl rfl rfl rfl (.refl _) (.loadR on_22_B (by assumption) rfl (by omega)) ?_
   refine .m rfl rfl rfl rfl (.refl _) (.idxN (j := 1) sl_22_A (by assumption) rfl rfl (by omega)) ?_
   refine .m rfl rfl rfl rfl (.refl _) (.loadI on_2_A (by assumption) rfl (by omega)) ?_
   refine .m rfl rfl rfl rfl (.refl _) (.idx1 sl_22_A (by first | assumption | exact SlA.of_row at_L5 (by first | rfl | (simp; done) | (simp <;> omega))) rfl rfl (by omega) (by omega)) ?_
   refine .m rfl rfl rfl rfl (.refl _) (.loadI on_2_A (by first | assumption | exact Ints.of_get at_L5) rfl (by omega)) ?_
   refine .mv rfl rfl (.mv rfl rfl ?_)
   refine .done ?_
   refine hK13 _ _ (.seq (fun K14 hK14 => .region (.mv rfl (.nil (hK14 _ _ ?_)))))
   refine .block ?_
   refine .loopR (σ := Nat) [(1, some _), (5, some _), (7, some _), (8, some _), (9, some _)] (fun e => [(10, some (.int .i64 (e : Int)))]) (fun e H' => St [gL5] HL2 H' ∧ H'.get gL5 = some (.row (ints (relab lab (lab.getD (pA (pss.getD j [])) 0) (lab.getD (pB (pss.getD j [])) 0) e)) 2 true) ∧ e ≤ lab.length) (fun e => lab.length - e) (0) ⟨rfl, rfl, rfl, rfl, rfl, trivial⟩ ⟨rfl, trivial⟩ ?_ ?_
   ·
    refine ⟨.refl _ _, by rw [relab_zero]; assumption, ?_⟩
    omega
   rintro e HL3 ⟨lst3, at_L5, hI⟩ KL3 hKL3
   refine .forget (fr' := [(10, some (.int .i64 (e : Int))), (1, some _), (5, some _), (7, some _), (8, some _), (9, some _)]) ⟨rfl, rfl, rfl, rfl, rfl, rfl, trivial⟩ ?_
   replace lst2 := lst2.st lst3 (fun k hk ho => by simp only [out, and_true] at ho ⊢ <;> first | exact ho | exact ho.1 | exact ho.2 | exact ho.2.1 | exact ho.2.2 | exact ho.2.2.1 | exact ho.2.2.2 | omega)
   clear q2
   have i5 := Ints.of_get at_L5
   have hlr := length_relab lab (lab.getD (pA (pss.getD j [])) 0) (lab.getD (pB (pss.getD j [])) 0) e
   have i5s : SlA HL3 _ _ _ := i5
   rw [hlr, hlab] at i5s
   refine .seq (fun K15 hK15 => .seq (fun K16 hK16 => .region (.mv rfl (.mv rfl (.m rfl rfl rfl (.len sl_22_A rfl) (.m rfl rfl rfl (.cmp rfl rfl rfl) (.mv rfl ?_)))))))
   refine .split (fun h49 => ?_) (fun h49 => ?_)
   ·
    try simp only [sps] at h49
    refine .mg rfl rfl rfl rfl rfl (.move rfl) (.mg rfl rfl rfl rfl rfl (.move rfl) (.mg rfl rfl rfl rfl rfl (.cmp rfl rfl rfl) (.m rfl rfl rfl (.pickT rfl rfl) (.nil (hK16 _ _ ?_)))))
    refine .cond rfl (fun h53 => ?_) (fun h53 => ?_)
    ·
     try simp only [sps] at h53
     refine .skip ?_
     refine hK15 _ _ (.seq (fun K17 hK17 => ?_))
     refine .block ?_
     refine .seq (fun K18 hK18 => .region (.mv rfl (.mv rfl ?_)))
     refine .m rfl rfl rfl (.idxN sl_22_A (by first | assumption | exact SlA.of_row at_L5 (by first | rfl | (simp; done) | (simp <;> omega))) rfl rfl (by omega)) ?_
     refine .m rfl rfl rfl (.loadI on_2_A (by first | assumption | exact Ints.of_get at_L5) rfl (by omega)) ?_
     refine .mv rfl (.m rfl rfl rfl (.cmp rfl rfl rfl) (.nil (hK18 _ _ ?_)))
     refine .cond rfl (fun h61 => ?_) (fun h61 => ?_)
     ·
      simp only [sps] at h61
      rw [relab_getD (by omega), if_neg (by omega)] at h61
      refine .region (.mv rfl (.mv rfl (.mv rfl ?_)))
      refine .m rfl rfl rfl (.idxN sl_22_A (by first | assumption | exact SlA.of_row at_L5 (by first | rfl | (simp; done) | (simp <;> omega))) rfl rfl (by omega)) ?_
      refine .r0 rfl rfl (.storeI rfl sz_2_E rfl rfl (by assumption) (by first | omega | (simp <;> omega))) ?_
      rintro _ H14004 ⟨rfl, st14004, at14004⟩
      replace lst3 := lst3.st st14004 (fun k hk ho => by simp only [out, and_true] at ho ⊢ <;> first | exact ho | exact ho.1 | exact ho.2 | exact ho.2.1 | exact ho.2.2 | exact ho.2.2.1 | exact ho.2.2.2 | omega)
      refine .nil (hK17 _ _ (.region (.mv rfl ?_)))
      refine .m rfl rfl rfl (.add rfl rfl rfl (by omega) (by omega)) ?_
      refine .mv rfl (.nil ?_)
      refine hKL3 (e + 1) _ _ ?_ ?_ ⟨rfl, rfl, rfl, rfl, rfl, rfl, trivial⟩
      ·
       refine ⟨lst3, by first | (rw [relab_T (b := lab.getD (pB (pss.getD j [])) 0) (by omega) h61]; have e9 := at14004; rw [Nat.zero_add] at e9; exact e9) | (rw [relab_F (b := lab.getD (pB (pss.getD j [])) 0) (by omega) h61]; assumption), ?_⟩
       omega
      omega
     simp only [sps] at h61
     rw [relab_getD (by omega), if_neg (by omega)] at h61
     refine .skip ?_
     refine hK17 _ _ (.region (.mv rfl ?_))
     refine .m rfl rfl rfl (.add rfl rfl rfl (by omega) (by omega)) ?_
     refine .mv rfl (.nil ?_)
     refine hKL3 (e + 1) _ _ ?_ ?_ ⟨rfl, rfl, rfl, rfl, rfl, rfl, trivial⟩
     ·
      refine ⟨lst3, by first | (rw [relab_T (b := lab.getD (pB (pss.getD j [])) 0) (by omega) h61]; have e9 := at14004; rw [Nat.zero_add] at e9; exact e9) | (rw [relab_F (b := lab.getD (pB (pss.getD j [])) 0) (by omega) h61]; assumption), ?_⟩
      omega
     omega
    simp only [sps] at h53
    refine .exit ?_
    refine hK12 _ _ (.region (.mv rfl ?_))
    refine .m rfl rfl rfl (.add rfl rfl rfl (by omega) (by omega)) ?_
    refine .mv rfl (.nil ?_)
    refine hKL2 ((j + 1, relab lab (lab.getD (pA (pss.getD j [])) 0) (lab.getD (pB (pss.getD j [])) 0) e)) _ _ ?_ ?_ ⟨rfl, rfl, rfl, trivial⟩
    ·
     refine ⟨lst2, by assumption, ?_⟩
     exact ⟨by omega, by rw [length_relab]; omega, by rw [pairL_succ (by omega), joinK_snoc]; exact hK.relab hlab (by omega) (by omega) (by first | exact .inl (by omega) | exact .inr h53)⟩
    (dsimp only; omega)
   simp only [sps] at h49
   refine .sg rfl rfl rfl rfl rfl (.sg rfl rfl rfl rfl rfl (.sg rfl rfl rfl rfl rfl (.m rfl rfl rfl (.pickF rfl rfl) (.nil (hK16 _ _ ?_)))))
   refine .condF rfl ?_
   refine .exit ?_
   refine hK12 _ _ (.region (.mv rfl ?_))
   refine .m rfl rfl rfl (.add rfl rfl rfl (by omega) (by omega)) ?_
   refine .mv rfl (.nil ?_)
   refine hKL2 ((j + 1, relab lab (lab.getD (pA (pss.getD j [])) 0) (lab.getD (pB (pss.getD j [])) 0) e)) _ _ ?_ ?_ ⟨rfl, rfl, rfl, trivial⟩
   ·
    refine ⟨lst2, by assumption, ?_⟩
    exact ⟨by omega, by rw [length_relab]; omega, by rw [pairL_succ (by omega), joinK_snoc]; exact hK.relab hlab (by omega) (by omega) (by first | exact .inl (by omega) | exact .inr h53)⟩
   (dsimp only; omega)
  try simp only [sps] at h24
  refine .exit ?_
  refine hK8 _ _ (.seq (fun K19 hK19 => .region ?_))
  obtain rfl : j = pss.length := by omega
  refine .mv rfl ?_
  refine .call rfl rfl rfl rfl @Try.call145 rfl (l01ClassesN_c hlab) ?_
  rintro _ H67 ⟨le67, g67, rfl, at67, ge67⟩
  replace hle := hle.trans le67
  refine .mv rfl (.nil (hK19 _ _ ?_))
  refine .ret ?_
  refine hret _ _ ?_
  refine ⟨_, rfl, ?_⟩
  rw [pairL_all] at hK
  have e1 := hK.cls
  exact ⟨hle, g67, by rw [length_joinL, length_clsL], by unfold joinL; rw [← e1]; exact at67, by omega⟩
theorem l01JoinN_c {a : Option Addr} {n' : Int} {n L : Nat} {pss : List (List Int)} {r : Nat → Option Addr} {H : GHeap} (hn' : n' = (n : Int)) (hL : pss.length = L) (h : Intss H a pss r) (hn : n ≤ 1048576) (hl : L ≤ 1048576)
    (hp : ∀ i, i < pss.length → 2 ≤ (pss.getD i []).length ∧ 0 ≤ (pss.getD i []).getD 0 0 ∧ (pss.getD i []).getD 0 0 < n ∧ 0 ≤ (pss.getD i []).getD 1 0 ∧ (pss.getD i []).getD 1 0 < n) :
    GCalls Try.prog 128 [.int .i64 n', .slice a L L] H (NewInts 2 H (joinL n (pss.map fun p => (pA p, pB p)))) := by
  subst hn' hL
  exact l01Join_c h hn hl hp
end Go.Proofs.Ytagkeabmdodfiaa
namespace Go.GL
def searchL (cand : Nat → List Int) (ok : Nat → List Int → Bool) : Nat → List Int → List (List Int)
  | 0, p => [p]
  | r + 1, p => (cand p.length).flatMap fun h => bif ok p.length (p ++ [h]) then searchL cand ok r (p ++ [h]) else []
theorem take_snoc_getD {q : List Int} {j : Nat} (h : j < q.length) : q.take (j + 1) = q.take j ++ [q.getD j 0] := by
  rw [List.take_add_one, List.getElem?_eq_getElem h, List.getD_eq_getElem?_getD, List.getElem?_eq_getElem h]; rfl
theorem mem_searchL {cand : Nat → List Int} {ok : Nat → List Int → Bool} {q : List Int} : ∀ {r : Nat} {p : List Int}, q ∈ searchL cand ok r p ↔ (q.length = p.length + r ∧ q.take p.length = p ∧ ∀ j, p.length ≤ j → j < p.length + r → q.getD j 0 ∈ cand j ∧ ok j (q.take (j + 1)) = true)
  | 0, p => by
    unfold searchL
    rw [List.mem_singleton]
    constructor
    · rintro rfl; exact ⟨rfl, List.take_length, fun j h1 h2 => by omega⟩
    · rintro ⟨h1, h2, _⟩; rw [← h2]; exact (List.take_of_length_le (by omega)).symm
  | r + 1, p => by
    unfold searchL
    rw [List.mem_flatMap]
    constructor
    · rintro ⟨h, hc, hm⟩
      cases ho : ok p.length (p ++ [h]) with
      | false => rw [ho] at hm; cases hm
      | true =>
        rw [ho] at hm
        obtain ⟨h1, h2, h3⟩ := mem_searchL.1 hm
        simp only [List.length_append, List.length_singleton] at h1 h2 h3
        have hlt : p.length < q.length := by omega
        have e1 : q.take (p.length + 1) = q.take p.length ++ [q.getD p.length 0] := take_snoc_getD hlt
        rw [e1] at h2
        have e2 := List.append_inj h2 (by simp; omega)
        have e3 : q.getD p.length 0 = h := (List.cons.inj e2.2).1
        refine ⟨by omega, e2.1, fun j hj1 hj2 => ?_⟩
        by_cases e : j = p.length
        · subst e
          rw [e3, e1, e2.1, e3]
          exact ⟨hc, ho⟩
        · exact h3 j (by omega) (by omega)
    · rintro ⟨h1, h2, h3⟩
      have hlt : p.length < q.length := by omega
      have e1 : q.take (p.length + 1) = p ++ [q.getD p.length 0] := by rw [take_snoc_getD hlt, h2]
      obtain ⟨c1, c2⟩ := h3 p.length (Nat.le_refl _) (by omega)
      rw [e1] at c2
      refine ⟨q.getD p.length 0, c1, ?_⟩
      rw [c2]
      refine mem_searchL.2 ⟨by simp; omega, by rw [List.length_append, List.length_singleton]; exact e1, fun j hj1 hj2 => ?_⟩
      simp only [List.length_append, List.length_singleton] at hj1 hj2
      exact h3 j (by omega) (by omega)
structure Net where
  cand : Nat → List Int
  A : Nat
  sr : Nat → Nat
  tg : Nat → Nat
  sq : Nat → Int → Int → Bool
namespace Net
def ok (n : Net) (j : Nat) (q : List Int) : Bool := allN n.A fun a => !(max (n.sr a) (n.tg a) == j) || n.sq a (q.getD (n.sr a) 0) (q.getD (n.tg a) 0)
def fits (n : Net) (q : List Int) (x : Nat) : Bool := allN n.A fun a => (n.sr a != x && n.tg a != x) || decide (q.getD (n.sr a) 0 < 0) || decide (q.getD (n.tg a) 0 < 0) || n.sq a (q.getD (n.sr a) 0) (q.getD (n.tg a) 0)
def choices (n : Net) (c : List Int) (x : Nat) : List Int := (n.cand x).filter fun h => n.fits (c.set x h) x
def sols (n : Net) (N : Nat) : List (List Int) := searchL n.cand n.ok N []
end Net
def firstU (c : List Int) : Option Nat := firstN c.length fun i => c.getD i 0 == -1
def cntU (c : List Int) : Nat := ((List.range c.length).filter fun i => c.getD i 0 == -1).length
def Net.stuck (n : Net) (c : List Int) : Bool := (List.range c.length).any fun y => c.getD y 0 == -1 && (n.choices c y).isEmpty
def Net.goF (n : Net) : Nat → List Int → List (List Int)
  | 0, c => [c]
  | f + 1, c => match firstU c with
    | none => [c]
    | some x => bif n.stuck c then [] else (n.choices c x).flatMap fun h => n.goF f (c.set x h)
def Net.go (n : Net) (c : List Int) : List (List Int) := n.goF (cntU c) c
theorem firstU_some {c : List Int} {x : Nat} (h : firstU c = some x) : x < c.length ∧ c.getD x 0 = -1 ∧ ∀ j, j < x → ¬ c.getD j 0 = -1 := by
  unfold firstU firstN at h
  rw [List.find?_range_eq_some] at h
  exact ⟨List.mem_range.1 h.2.1, by simpa using h.1, fun j hj => by simpa using h.2.2 j hj⟩
theorem firstU_none {c : List Int} (h : firstU c = none) : ∀ j, j < c.length → ¬ c.getD j 0 = -1 := by
  unfold firstU firstN at h
  rw [List.find?_range_eq_none] at h
  intro j hj; simpa using h j hj
theorem firstU_of {c : List Int} {x : Nat} (hx : x < c.length) (h : c.getD x 0 = -1) (hb : ∀ j, j < x → ¬ c.getD j 0 = -1) : firstU c = some x := firstN_some hx (by simpa using h) fun j hj => by simpa using hb j hj
theorem firstU_no {c : List Int} (h : ∀ j, j < c.length → ¬ c.getD j 0 = -1) : firstU c = none := firstN_none fun j hj => by simpa using h j hj
theorem filter_length_lt {p q : Nat → Bool} {n x : Nat} (hx : x < n) (hp : p x = false) (hq : q x = true) (h : ∀ i, i < n → i ≠ x → p i = q i) : ((List.range n).filter p).length + 1 = ((List.range n).filter q).length := by
  induction n with
  | zero => omega
  | succ n ih =>
    rw [List.range_succ, List.filter_append, List.filter_append, List.length_append, List.length_append]
    by_cases e : x = n
    · subst e
      have : (List.range x).filter p = (List.range x).filter q := List.filter_congr fun i hi => by have := List.mem_range.1 hi; exact h i (by omega) (by omega)
      rw [this]
      simp [hp, hq]
    · have ih' := ih (by omega) fun i hi hne => h i (by omega) hne
      have e2 : p n = q n := h n (by omega) (Ne.symm e)
      have e3 : (List.filter p [n]).length = (List.filter q [n]).length := by simp [List.filter_cons, e2]
      omega
theorem cntU_set {c : List Int} {x : Nat} {h : Int} (hx : x < c.length) (hc : c.getD x 0 = -1) (hh : h ≠ -1) : cntU (c.set x h) + 1 = cntU c := by
  unfold cntU
  rw [List.length_set]
  refine filter_length_lt hx ?_ (by simpa using hc) fun i hi hne => ?_
  · rw [getD_set hx, if_pos rfl]; simpa using hh
  · rw [getD_set hx, if_neg hne]
theorem cntU_pos {c : List Int} {x : Nat} (hx : x < c.length) (hc : c.getD x 0 = -1) : 0 < cntU c := by
  have : x ∈ (List.range c.length).filter fun i => c.getD i 0 == -1 := List.mem_filter.2 ⟨List.mem_range.2 hx, by simpa using hc⟩
  exact List.length_pos_of_mem this
theorem flatMap_congr' {α β : Type} {l : List α} {f g : α → List β} (h : ∀ x ∈ l, f x = g x) : l.flatMap f = l.flatMap g := by
  induction l with
  | nil => rfl
  | cons a l ih => rw [List.flatMap_cons, List.flatMap_cons, h a (by simp), ih fun x hx => h x (by simp [hx])]
theorem Net.goF_eq {n : Net} (hc : ∀ x, ∀ h ∈ n.cand x, 0 ≤ h) : ∀ {f : Nat} {c : List Int}, cntU c ≤ f → n.goF f c = n.goF (cntU c) c
  | 0, c, h => by rw [Nat.le_zero.1 h]
  | f + 1, c, h => by
    cases hu : firstU c with
    | none =>
      have : cntU c = 0 := by
        unfold cntU
        rw [List.length_eq_zero_iff, List.filter_eq_nil_iff]
        intro i hi
        simpa using firstU_none hu i (List.mem_range.1 hi)
      rw [this]
      unfold goF
      rw [hu]
    | some x =>
      obtain ⟨h1, h2, h3⟩ := firstU_some hu
      have hp := cntU_pos h1 h2
      obtain ⟨m, hm⟩ : ∃ m, cntU c = m + 1 := ⟨cntU c - 1, by omega⟩
      rw [hm]
      unfold goF
      rw [hu]
      simp only
      congr 1
      refine flatMap_congr' fun y hy => ?_
      have hy0 : 0 ≤ y := hc x y (List.mem_filter.1 hy).1
      have hs := cntU_set h1 h2 (h := y) (by omega)
      rw [goF_eq hc (f := f) (by omega), goF_eq hc (f := m) (by omega)]
theorem Net.go_eq {n : Net} (hc : ∀ x, ∀ h ∈ n.cand x, 0 ≤ h) {c : List Int} : n.go c = match firstU c with
    | none => [c]
    | some x => bif n.stuck c then [] else (n.choices c x).flatMap fun h => n.go (c.set x h) := by
  have h0 : n.go c = n.goF (cntU c + 1) c := (Net.goF_eq hc (Nat.le_succ _)).symm
  rw [h0]
  unfold goF
  cases hu : firstU c with
  | none => rfl
  | some x =>
    obtain ⟨h1, h2, h3⟩ := firstU_some hu
    simp only
    congr 1
    refine flatMap_congr' fun y hy => ?_
    have hy0 : 0 ≤ y := hc x y (List.mem_filter.1 hy).1
    have hs := cntU_set h1 h2 (h := y) (by omega)
    rw [Net.goF_eq hc (f := cntU c) (by omega)]
    rfl
theorem Net.stuck_iff {n : Net} {c : List Int} : n.stuck c = true ↔ ∃ y, y < c.length ∧ c.getD y 0 = -1 ∧ n.choices c y = [] := by
  unfold stuck
  rw [List.any_eq_true]
  simp only [List.mem_range, Bool.and_eq_true, beq_iff_eq, List.isEmpty_iff]
theorem Net.fits_iff {n : Net} {q : List Int} {x : Nat} : n.fits q x = true ↔ ∀ a, a < n.A → (n.sr a ≠ x ∧ n.tg a ≠ x) ∨ q.getD (n.sr a) 0 < 0 ∨ q.getD (n.tg a) 0 < 0 ∨ n.sq a (q.getD (n.sr a) 0) (q.getD (n.tg a) 0) = true := by
  unfold fits
  rw [allN_iff]
  refine forall_congr' fun a => forall_congr' fun _ => ?_
  simp only [Bool.or_eq_true, Bool.and_eq_true, bne_iff_ne, ne_eq, decide_eq_true_eq, or_assoc]
theorem Net.ok_iff {n : Net} {q : List Int} {j : Nat} : n.ok j q = true ↔ ∀ a, a < n.A → max (n.sr a) (n.tg a) = j → n.sq a (q.getD (n.sr a) 0) (q.getD (n.tg a) 0) = true := by
  unfold ok
  rw [allN_iff]
  refine forall_congr' fun a => forall_congr' fun _ => ?_
  simp only [Bool.or_eq_true, Bool.not_eq_true', beq_eq_false_iff_ne, ne_eq]
  exact ⟨fun h e => h.resolve_left (fun hn => hn e), fun h => by by_cases e : max (n.sr a) (n.tg a) = j; exact .inr (h e); exact .inl e⟩
theorem getD_take {q : List Int} {i j : Nat} (h : i < j) : (q.take j).getD i 0 = q.getD i 0 := by
  simp [List.getD_eq_getElem?_getD, List.getElem?_take, h]
theorem getD_app_left {p s : List Int} {i : Nat} (h : i < p.length) : (p ++ s).getD i 0 = p.getD i 0 := by
  rw [List.getD_eq_getElem?_getD, List.getElem?_append_left h, ← List.getD_eq_getElem?_getD]
theorem getD_app_rep {p : List Int} {r i : Nat} (h : p.length ≤ i) (h' : i < p.length + r) : (p ++ List.replicate r (-1)).getD i 0 = -1 := by
  rw [List.getD_eq_getElem?_getD, List.getElem?_append_right h, List.getElem?_replicate, if_pos (by omega)]; rfl
theorem set_app_rep {p : List Int} {r : Nat} {h : Int} : (p ++ List.replicate (r + 1) (-1)).set p.length h = (p ++ [h]) ++ List.replicate r (-1) := by
  rw [List.set_append_right _ _ (Nat.le_refl _), Nat.sub_self, List.replicate_succ, List.set_cons_zero, List.append_assoc]; rfl
structure Net.Good (n : Net) (N : Nat) : Prop where
  pos : ∀ x, ∀ h ∈ n.cand x, 0 ≤ h
  sr : ∀ a, a < n.A → n.sr a < N
  tg : ∀ a, a < n.A → n.tg a < N
theorem Net.go_search {n : Net} {N : Nat} (g : n.Good N) : ∀ {r : Nat} {p : List Int}, p.length + r = N → (∀ i, i < p.length → 0 ≤ p.getD i 0) → n.go (p ++ List.replicate r (-1)) = searchL n.cand n.ok r p
  | 0, p, hN, hp => by
    rw [Net.go_eq g.pos, firstU_no fun j hj => by
      simp only [List.replicate_zero, List.append_nil] at hj ⊢
      have := hp j hj
      omega]
    simp [searchL]
  | r + 1, p, hN, hp => by
    have hlen : (p ++ List.replicate (r + 1) (-1)).length = N := by simp; omega
    have hfirst : firstU (p ++ List.replicate (r + 1) (-1)) = some p.length := firstU_of (by omega) (getD_app_rep (Nat.le_refl _) (by omega)) fun j hj => by
      rw [getD_app_left hj]
      have := hp j hj
      omega
    rw [Net.go_eq g.pos, hfirst]
    simp only
    cases hs : n.stuck (p ++ List.replicate (r + 1) (-1)) with
    | true =>
      obtain ⟨y, hy1, hy2, hy3⟩ := Net.stuck_iff.1 hs
      rw [hlen] at hy1
      have hyp : p.length ≤ y := by
        rcases Nat.lt_or_ge y p.length with h | h
        · rw [getD_app_left h] at hy2
          have := hp y h
          omega
        · exact h
      simp only [cond_true]
      symm
      rw [List.eq_nil_iff_forall_not_mem]
      intro q hq
      obtain ⟨q1, q2, q3⟩ := mem_searchL.1 hq
      obtain ⟨c1, c2⟩ := q3 y hyp (by omega)
      have hmem : q.getD y 0 ∈ n.choices (p ++ List.replicate (r + 1) (-1)) y := by
        refine List.mem_filter.2 ⟨c1, Net.fits_iff.2 fun a ha => ?_⟩
        by_cases hya : n.sr a ≠ y ∧ n.tg a ≠ y
        · exact .inl hya
        · have hval : ∀ i, i < N → ((p ++ List.replicate (r + 1) (-1)).set y (q.getD y 0)).getD i 0 < 0 ∨ ((i < p.length ∨ i = y) ∧ ((p ++ List.replicate (r + 1) (-1)).set y (q.getD y 0)).getD i 0 = q.getD i 0) := by
            intro i hi
            rw [getD_set (by omega)]
            by_cases e : i = y
            · subst e; rw [if_pos rfl]; exact .inr ⟨.inr rfl, rfl⟩
            · rw [if_neg e]
              rcases Nat.lt_or_ge i p.length with h | h
              · have e3 : p.getD i 0 = q.getD i 0 := by
                  have e4 : (q.take p.length).getD i 0 = q.getD i 0 := getD_take h
                  rwa [q2] at e4
                rw [getD_app_left h, e3]
                exact .inr ⟨.inl h, rfl⟩
              · rw [getD_app_rep h (by omega)]; exact .inl (by omega)
          rcases hval _ (g.sr a ha) with h1 | ⟨h1, h2⟩
          · exact .inr (.inl h1)
          · rcases hval _ (g.tg a ha) with k1 | ⟨k1, k2⟩
            · exact .inr (.inr (.inl k1))
            · refine .inr (.inr (.inr ?_))
              rw [h2, k2]
              have := Net.ok_iff.1 c2 a ha (by omega)
              rwa [getD_take (by omega), getD_take (by omega)] at this
      rw [hy3] at hmem
      cases hmem
    | false =>
      simp only [cond_false]
      unfold searchL choices
      have hf : ∀ l : List Int, (∀ h ∈ l, 0 ≤ h) → ((l.filter fun h => n.fits ((p ++ List.replicate (r + 1) (-1)).set p.length h) p.length).flatMap fun h => n.go ((p ++ List.replicate (r + 1) (-1)).set p.length h)) = l.flatMap fun h => bif n.ok p.length (p ++ [h]) then searchL n.cand n.ok r (p ++ [h]) else [] := by
        intro l
        induction l with
        | nil => intro _; rfl
        | cons h l ih =>
          intro hl
          have h0 : 0 ≤ h := hl h (by simp)
          have ih' := ih fun k hk => hl k (by simp [hk])
          have hgo : n.go ((p ++ List.replicate (r + 1) (-1)).set p.length h) = searchL n.cand n.ok r (p ++ [h]) := by
            rw [set_app_rep]
            refine Net.go_search g (by simp; omega) fun i hi => ?_
            simp only [List.length_append, List.length_singleton] at hi
            by_cases e : i < p.length
            · rw [getD_app_left e]; exact hp i e
            · obtain rfl : i = p.length := by omega
              rw [List.getD_eq_getElem?_getD, List.getElem?_append_right (Nat.le_refl _), Nat.sub_self]
              exact h0
          have hfit : n.fits ((p ++ List.replicate (r + 1) (-1)).set p.length h) p.length = n.ok p.length (p ++ [h]) := by
            rw [Bool.eq_iff_iff, Net.fits_iff, Net.ok_iff, set_app_rep]
            have hlow : ∀ i, i ≤ p.length → ((p ++ [h]) ++ List.replicate r (-1)).getD i 0 = (p ++ [h]).getD i 0 ∧ 0 ≤ (p ++ [h]).getD i 0 := by
              intro i hi
              refine ⟨getD_app_left (by simp; omega), ?_⟩
              by_cases e : i < p.length
              · rw [getD_app_left e]; exact hp i e
              · obtain rfl : i = p.length := by omega
                rw [List.getD_eq_getElem?_getD, List.getElem?_append_right (Nat.le_refl _), Nat.sub_self]
                exact h0
            have hhigh : ∀ i, p.length < i → i < N → ((p ++ [h]) ++ List.replicate r (-1)).getD i 0 < 0 := by
              intro i hi hi'
              rw [getD_app_rep (by simp; omega) (by simp; omega)]; omega
            constructor
            · intro hf a ha hm
              have l1 := hlow (n.sr a) (by omega)
              have l2 := hlow (n.tg a) (by omega)
              rcases hf a ha with k | k | k | k
              · omega
              · omega
              · omega
              · rw [l1.1, l2.1] at k; exact k
            · intro hk a ha
              have s1 := g.sr a ha
              have s2 := g.tg a ha
              by_cases e1 : n.sr a ≠ p.length ∧ n.tg a ≠ p.length
              · exact .inl e1
              · rcases Nat.lt_or_ge p.length (n.sr a) with e2 | e2
                · exact .inr (.inl (hhigh _ e2 s1))
                · rcases Nat.lt_or_ge p.length (n.tg a) with e3 | e3
                  · exact .inr (.inr (.inl (hhigh _ e3 s2)))
                  · refine .inr (.inr (.inr ?_))
                    rw [(hlow _ e2).1, (hlow _ e3).1]
                    exact hk a ha (by omega)
          rw [List.filter_cons, hfit]
          cases ho : n.ok p.length (p ++ [h]) with
          | true => simp only [if_true, List.flatMap_cons, hgo, ih', ho, cond_true]
          | false => simp only [Bool.false_eq_true, if_false, List.flatMap_cons, ih', ho, cond_false, List.nil_append]
      exact hf _ (g.pos _)
theorem Net.go_all {n : Net} {N : Nat} (g : n.Good N) : n.go (List.replicate N (-1)) = n.sols N := by
  have := Net.go_search g (r := N) (p := []) (by simp) (fun i hi => by simp at hi)
  rwa [List.nil_append] at this
theorem Net.go_some {n : Net} {N : Nat} (g : n.Good N) {q : List Int} (hq : ∀ y, y < N → q.getD y 0 ∈ n.cand y) (hs : ∀ a, a < n.A → n.sq a (q.getD (n.sr a) 0) (q.getD (n.tg a) 0) = true) :
    ∀ {k : Nat} {c : List Int}, cntU c = k → c.length = N → (∀ y, y < N → c.getD y 0 = -1 ∨ c.getD y 0 < 0 ∨ c.getD y 0 = q.getD y 0) → n.go c ≠ []
  | k, c, hk, hl, hc => by
    rw [Net.go_eq g.pos]
    have hch : ∀ y, y < N → c.getD y 0 = -1 → q.getD y 0 ∈ n.choices c y := by
      intro y hy hcy
      refine List.mem_filter.2 ⟨hq y hy, Net.fits_iff.2 fun a ha => .inr ?_⟩
      have hv : ∀ i, i < N → (c.set y (q.getD y 0)).getD i 0 < 0 ∨ (c.set y (q.getD y 0)).getD i 0 = q.getD i 0 := by
        intro i hi
        rw [getD_set (by omega)]
        by_cases e : i = y
        · subst e; rw [if_pos rfl]; exact .inr rfl
        · rw [if_neg e]
          rcases hc i hi with h | h | h
          · exact .inl (by omega)
          · exact .inl h
          · exact .inr h
      rcases hv _ (g.sr a ha) with h1 | h1
      · exact .inl h1
      · rcases hv _ (g.tg a ha) with h2 | h2
        · exact .inr (.inl h2)
        · exact .inr (.inr (by rw [h1, h2]; exact hs a ha))
    cases hu : firstU c with
    | none => simp
    | some x =>
      obtain ⟨h1, h2, h3⟩ := firstU_some hu
      simp only
      cases hst : n.stuck c with
      | true =>
        obtain ⟨y, y1, y2, y3⟩ := Net.stuck_iff.1 hst
        have := hch y (by omega) y2
        rw [y3] at this
        cases this
      | false =>
        simp only [cond_false]
        have hm := hch x (by omega) h2
        have h0 : 0 ≤ q.getD x 0 := g.pos x _ (hq x (by omega))
        have hcn := cntU_set h1 h2 (h := q.getD x 0) (by omega)
        have ih := Net.go_some g hq hs (k := cntU (c.set x (q.getD x 0))) (c := c.set x (q.getD x 0)) rfl (by simpa using hl) fun y hy => by
          rw [getD_set h1]
          by_cases e : y = x
          · subst e; rw [if_pos rfl]; exact .inr (.inr rfl)
          · rw [if_neg e]; exact hc y hy
        intro hnil
        rw [List.flatMap_eq_nil_iff] at hnil
        exact ih (hnil _ hm)
termination_by k => k
decreasing_by omega
theorem Net.mem_sols {n : Net} {N : Nat} (g : n.Good N) {q : List Int} : q ∈ n.sols N ↔ q.length = N ∧ (∀ y, y < N → q.getD y 0 ∈ n.cand y) ∧ ∀ a, a < n.A → n.sq a (q.getD (n.sr a) 0) (q.getD (n.tg a) 0) = true := by
  unfold sols
  rw [mem_searchL]
  simp only [List.length_nil, Nat.zero_add, List.take_zero, true_and]
  refine and_congr_right fun hl => ?_
  constructor
  · intro h
    refine ⟨fun y hy => (h y (Nat.zero_le _) hy).1, fun a ha => ?_⟩
    have h1 := g.sr a ha
    have h2 := g.tg a ha
    have := Net.ok_iff.1 (h (max (n.sr a) (n.tg a)) (Nat.zero_le _) (by omega)).2 a ha rfl
    rwa [getD_take (by omega), getD_take (by omega)] at this
  · rintro ⟨h1, h2⟩ j _ hj
    exact ⟨h1 j hj, Net.ok_iff.2 fun a ha hm => by rw [getD_take (by omega), getD_take (by omega)]; exact h2 a ha⟩
end Go.GL
namespace Go.GL
def Off (r : Nat → Option Addr) (n : Nat) (gs : List Nat) : Prop := ∀ i, i < n → ∀ g, r i = some ⟨g, 0, none⟩ → out gs g
theorem Off.nil (r : Nat → Option Addr) (n : Nat) : Off r n [] := fun _ _ _ _ => trivial
theorem Off.cons {r : Nat → Option Addr} {n g : Nat} {gs : List Nat} (h : ∀ i, i < n → r i ≠ some ⟨g, 0, none⟩) (h' : Off r n gs) : Off r n (g :: gs) := fun i hi k hk => ⟨fun e => h i hi (by rw [hk, e]), h' i hi k hk⟩
theorem Off.zero (r : Nat → Option Addr) (gs : List Nat) : Off r 0 gs := fun _ hi => by omega
theorem OwnRows.st {b k : Nat} {bs : List Nat} {H H' : GHeap} {e : TypeId} {r : Nat → Option Addr} {X : Nat → List Int} (h : OwnRows b H e r X k) (s : St bs H H') (ho : Off r k bs) : OwnRows b H' e r X k := ⟨fun i hi => by
  obtain ⟨x, h1, h2, h3⟩ := h.row i hi
  exact ⟨x, h1, h2, s.same x _ (ho i hi x h1) h3⟩, h.inj⟩
theorem OwnL.st {b : Nat} {bs : List Nat} {H H' : GHeap} {e : TypeId} {r : Nat → Option Addr} {xss : List (List Int)} (h : OwnL b H e r xss) (s : St bs H H') (ho : Off r xss.length bs) : OwnL b H' e r xss := OwnRows.st h s ho
theorem OwnL.ne {b g : Nat} {H : GHeap} {e : TypeId} {r : Nat → Option Addr} {xss : List (List Int)} (h : OwnL b H e r xss) (hg : H.next ≤ g) : ∀ i, i < xss.length → r i ≠ some ⟨g, 0, none⟩ := fun i hi e => by
  obtain ⟨x, h1, _, h3⟩ := h.row i hi
  rw [h1] at e
  cases e
  have := GHeap.ltg h3
  omega
theorem OwnL.neT {b g : Nat} {H : GHeap} {e e' : TypeId} {cs : List Value} {r : Nat → Option Addr} {xss : List (List Int)} (h : OwnL b H e r xss) (hg : H.get g = some (.row cs e' true)) (hne : (e != e') = true) : ∀ i, i < xss.length → r i ≠ some ⟨g, 0, none⟩ := fun i hi ei => by
  obtain ⟨x, h1, _, h3⟩ := h.row i hi
  rw [h1] at ei
  cases ei
  rw [hg] at h3
  cases h3
  simp at hne
theorem OwnL.lowNe {b g : Nat} {H : GHeap} {e : TypeId} {r : Nat → Option Addr} {xss : List (List Int)} (h : OwnL b H e r xss) (hg : g < b) : ∀ i, i < xss.length → r i ≠ some ⟨g, 0, none⟩ := fun i hi ei => by
  obtain ⟨x, h1, h2, _⟩ := h.row i hi
  rw [h1] at ei
  cases ei
  omega
theorem ne_snoc {g k : Nat} {r : Nat → Option Addr} {xss : List (List Int)} {x : List Int} (h : ∀ i, i < xss.length → r i ≠ some ⟨g, 0, none⟩) (hk : k ≠ g) : ∀ i, i < (xss ++ [x]).length → upd r xss.length (some ⟨k, 0, none⟩) i ≠ some ⟨g, 0, none⟩ := fun i hi => by
  rw [List.length_append, List.length_singleton] at hi
  by_cases e : i = xss.length
  · subst e
    rw [upd_eq]
    intro e
    cases e
    exact hk rfl
  · rw [upd_ne e]
    exact h i (by omega)
theorem OwnL.snoc2 {b g : Nat} {H : GHeap} {e : TypeId} {r : Nat → Option Addr} {xss : List (List Int)} {x : List Int} (h : OwnL b H e r xss) (hg : H.get g = some (.row (ints x) e true)) (hne : ∀ i, i < xss.length → r i ≠ some ⟨g, 0, none⟩) (hb : b ≤ g) :
    OwnL b H e (upd r xss.length (some ⟨g, 0, none⟩)) (xss ++ [x]) := by
  have key : ∀ i, i < xss.length + 1 → (i = xss.length ∧ upd r xss.length (some ⟨g, 0, none⟩) i = some ⟨g, 0, none⟩ ∧ (xss ++ [x]).getD i [] = x) ∨ (i < xss.length ∧ upd r xss.length (some ⟨g, 0, none⟩) i = r i ∧ (xss ++ [x]).getD i [] = xss.getD i []) := by
    intro i hi
    by_cases e : i = xss.length
    · subst e
      exact .inl ⟨rfl, upd_eq _ _ _, by rw [getD_snoc, if_neg (by omega), if_pos rfl]⟩
    · exact .inr ⟨by omega, upd_ne e, by rw [getD_snoc, if_pos (by omega)]⟩
  unfold OwnL
  rw [List.length_append, List.length_singleton]
  refine ⟨fun i hi => ?_, fun i j hi hj hij => ?_⟩
  · rcases key i hi with ⟨_, h2, h3⟩ | ⟨h1, h2, h3⟩
    · exact ⟨g, h2, hb, by rw [h3]; exact hg⟩
    · obtain ⟨y, y1, y2, y3⟩ := h.row i h1
      exact ⟨y, by rw [h2]; exact y1, y2, by rw [h3]; exact y3⟩
  · rcases key i hi with ⟨h1, h2, _⟩ | ⟨h1, h2, _⟩
    · rcases key j hj with ⟨k1, k2, _⟩ | ⟨k1, k2, _⟩
      · omega
      · rw [h2, k2] at hij
        exact absurd hij.symm (hne j k1)
    · rcases key j hj with ⟨k1, k2, _⟩ | ⟨k1, k2, _⟩
      · rw [h2, k2] at hij
        exact absurd hij (hne i h1)
      · rw [h2, k2] at hij
        exact h.inj i j h1 k1 hij
theorem take_map_snoc {α β : Type} {f : α → β} {l : List α} {i : Nat} {d : α} (h : i < l.length) : (l.take (i + 1)).map f = (l.take i).map f ++ [f (l.getD i d)] := by
  rw [List.take_add_one, List.getElem?_eq_getElem h, List.map_append, List.getD_eq_getElem?_getD, List.getElem?_eq_getElem h]; rfl

theorem Ints.slN {H : GHeap} {a : Option Addr} {xs : List Int} {n : Nat} (h : Ints H a xs) (hn : xs.length = n) : SlA H a n (fun i => .int .i64 (xs.getD i 0)) := by subst hn; exact h
def fillS (r : Nat → Option Addr) (n k : Nat) : List Value := (List.range n).map fun i => if i < k then .slice (r i) n n else .slice none 0 0
@[simp] theorem length_fillS (r : Nat → Option Addr) (n k : Nat) : (fillS r n k).length = n := by simp [fillS]
theorem fillS_zero (r : Nat → Option Addr) (n : Nat) : fillS r n 0 = List.replicate n (.slice none 0 0) := by
  apply List.ext_getElem (by simp)
  intro i h1 h2
  simp [fillS]
theorem fillS_set {r : Nat → Option Addr} {n k : Nat} {a : Option Addr} (h : k < n) : (fillS r n k).set k (.slice a n n) = fillS (upd r k a) n (k + 1) := by
  apply List.ext_getElem (by simp)
  intro i h1 h2
  simp only [length_fillS, List.length_set] at h1
  simp only [fillS, List.getElem_set, List.getElem_map, List.getElem_range]
  by_cases e : i = k
  · subst e
    rw [if_pos rfl, if_pos (by omega), upd_eq]
  · rw [if_neg (Ne.symm e), upd_ne e]
    by_cases e2 : i < k
    · rw [if_pos e2, if_pos (by omega)]
    · rw [if_neg e2, if_neg (by omega)]
theorem fillS_cell {r : Nat → Option Addr} {H : GHeap} {g n k i : Nat} {e : TypeId} {own : Bool} (h : H.get g = some (.row (fillS r n k) e own)) (hi : i < k) (hn : i < n) : H.cell g (0 + i) = some (.slice (r i) n n) := by
  rw [GHeap.cell_of h, Nat.zero_add]
  simp [fillS, hi, hn]
theorem fillS_all {r : Nat → Option Addr} {X : Nat → List Int} {n : Nat} (h : ∀ i, i < n → (X i).length = n) : fillS r n n = slsOf r X n := by
  unfold fillS slsOf
  refine List.map_congr_left fun i hi => ?_
  have := List.mem_range.1 hi
  rw [if_pos this, h i this]
def fillI (c : Nat → Int) (n k : Nat) : List Int := (List.range n).map fun i => if i < k then c i else 0
@[simp] theorem length_fillI (c : Nat → Int) (n k : Nat) : (fillI c n k).length = n := by simp [fillI]
theorem fillI_zero (c : Nat → Int) (n : Nat) : fillI c n 0 = List.replicate n 0 := by
  apply List.ext_getElem (by simp)
  intro i h1 h2
  simp [fillI]
theorem fillI_set {c : Nat → Int} {n k : Nat} {v : Int} (h : k < n) (hv : v = c k) : (fillI c n k).set k v = fillI c n (k + 1) := by
  apply List.ext_getElem (by simp)
  intro i h1 h2
  simp only [length_fillI, List.length_set] at h1
  simp only [fillI, List.getElem_set, List.getElem_map, List.getElem_range]
  by_cases e : i = k
  · subst e
    rw [if_pos rfl, if_pos (by omega), hv]
  · rw [if_neg (Ne.symm e)]
    by_cases e2 : i < k
    · rw [if_pos e2, if_pos (by omega)]
    · rw [if_neg e2, if_neg (by omega)]
theorem fillI_all {c : Nat → Int} {n : Nat} : fillI c n n = (List.range n).map c := List.map_congr_left fun i hi => by rw [if_pos (List.mem_range.1 hi)]
def tabC (src tgt : List Int) (X : Nat → Nat → Int) (i j : Nat) : Int := if tgt.getD i 0 = src.getD j 0 then X i j else -1
def tabR (src tgt : List Int) (X : Nat → Nat → Int) (n i : Nat) : List Int := (List.range n).map (tabC src tgt X i)
@[simp] theorem length_tabR (src tgt : List Int) (X : Nat → Nat → Int) (n i : Nat) : (tabR src tgt X n i).length = n := by simp [tabR]
theorem tabC_T {src tgt : List Int} {X : Nat → Nat → Int} {i j : Nat} (h : tgt.getD i 0 = src.getD j 0) : tabC src tgt X i j = X i j := if_pos h
theorem tabC_F {src tgt : List Int} {X : Nat → Nat → Int} {i j : Nat} (h : ¬ tgt.getD i 0 = src.getD j 0) : tabC src tgt X i j = -1 := if_neg h
def tabL (src tgt : List Int) (X : Nat → Nat → Int) (n : Nat) : List (List Int) := rowsOf (tabR src tgt X n) n
theorem eq_of_getD2 {xss yss : List (List Int)} (hl : xss.length = yss.length) (h : ∀ i, i < xss.length → xss.getD i [] = yss.getD i []) : xss = yss := by
  apply List.ext_getElem hl
  intro i h1 h2
  have := h i h1
  simpa [List.getD_eq_getElem?_getD, List.getElem?_eq_getElem h1, List.getElem?_eq_getElem h2] using this
end Go.GL
namespace Go.GL
structure Fun.Par (f g : Fun) : Prop where
  fi : f.Is
  gi : g.Is
  ps : f.s = g.s
  pt : f.t = g.t
def Fun.net (f g : Fun) (iso : Bool) : Net where
  cand x := (f.t.hom (f.ob.getD x 0) (g.ob.getD x 0)).filter fun h => !iso || decide (0 ≤ f.t.inv h)
  A := f.ar.length
  sr a := (f.s.src.getD a 0).toNat
  tg a := (f.s.tgt.getD a 0).toNat
  sq a u v := decide (f.t.th (f.ar.getD a 0) v = f.t.th u (g.ar.getD a 0))
def Net.fitAt (n : Net) (q : List Int) (x a : Nat) : Bool := (n.sr a != x && n.tg a != x) || decide (q.getD (n.sr a) 0 < 0) || decide (q.getD (n.tg a) 0 < 0) || n.sq a (q.getD (n.sr a) 0) (q.getD (n.tg a) 0)
theorem Net.fits_eq (n : Net) (q : List Int) (x : Nat) : n.fits q x = allN n.A (n.fitAt q x) := rfl
theorem Net.fit_1 {n : Net} {q : List Int} {x a : Nat} (h : n.sr a ≠ x) (h' : n.tg a ≠ x) : n.fitAt q x a = true := by simp [fitAt, h, h']
theorem Net.fit_2 {n : Net} {q : List Int} {x a : Nat} (h : q.getD (n.sr a) 0 < 0) : n.fitAt q x a = true := by unfold fitAt; rw [decide_eq_true h]; simp
theorem Net.fit_3 {n : Net} {q : List Int} {x a : Nat} (h : q.getD (n.tg a) 0 < 0) : n.fitAt q x a = true := by unfold fitAt; rw [decide_eq_true h]; simp
theorem Net.fit_4 {n : Net} {q : List Int} {x a : Nat} (h : n.sr a = x ∨ n.tg a = x) (h1 : ¬ q.getD (n.sr a) 0 < 0) (h2 : ¬ q.getD (n.tg a) 0 < 0) : n.fitAt q x a = n.sq a (q.getD (n.sr a) 0) (q.getD (n.tg a) 0) := by
  unfold fitAt
  rw [decide_eq_false h1, decide_eq_false h2]
  rcases h with h | h <;> simp [h]
def Fun.chB (f g : Fun) (iso : Bool) (c : List Int) (x : Nat) (h : Int) : Bool := (!iso || decide (0 ≤ f.t.inv h)) && (f.net g iso).fits (c.set x h) x
theorem Fun.choices_eq (f g : Fun) (iso : Bool) (c : List Int) (x : Nat) : (f.net g iso).choices c x = (f.t.hom (f.ob.getD x 0) (g.ob.getD x 0)).filter (f.chB g iso c x) := by
  unfold Net.choices
  show List.filter _ (List.filter _ _) = _
  rw [List.filter_filter]
  refine List.filter_congr fun h _ => ?_
  unfold Fun.chB
  rw [Bool.and_comm]
theorem Fun.ch_no {f g : Fun} {iso : Bool} {c : List Int} {x : Nat} {h : Int} (hi : iso = true) (hv : f.t.inv h < 0) : f.chB g iso c x h = false := by
  unfold Fun.chB
  rw [decide_eq_false (by omega), hi]; rfl
theorem Fun.ch_go {f g : Fun} {iso : Bool} {c : List Int} {x : Nat} {h : Int} (hi : iso = false ∨ 0 ≤ f.t.inv h) : f.chB g iso c x h = (f.net g iso).fits (c.set x h) x := by
  unfold Fun.chB
  rcases hi with hi | hi
  · rw [hi]; rfl
  · rw [decide_eq_true hi]; simp
theorem Fun.choices_le (f g : Fun) (iso : Bool) (c : List Int) (x : Nat) : ((f.net g iso).choices c x).length ≤ f.t.src.length := by
  rw [Fun.choices_eq]
  exact Nat.le_trans (List.length_filter_le _ _) (Cat.hom_le _ _ _)
theorem Fun.cand_hom {f g : Fun} {iso : Bool} {x : Nat} {h : Int} (hm : h ∈ (f.net g iso).cand x) : ∃ a : Nat, a < f.t.src.length ∧ f.t.src.getD a 0 = f.ob.getD x 0 ∧ f.t.tgt.getD a 0 = g.ob.getD x 0 ∧ h = a := Cat.mem_hom.1 (List.mem_filter.1 hm).1
theorem Fun.choices_hom {f g : Fun} {iso : Bool} {c : List Int} {x : Nat} {h : Int} (hm : h ∈ (f.net g iso).choices c x) : ∃ a : Nat, a < f.t.src.length ∧ f.t.src.getD a 0 = f.ob.getD x 0 ∧ f.t.tgt.getD a 0 = g.ob.getD x 0 ∧ h = a := Fun.cand_hom (List.mem_filter.1 hm).1
theorem Fun.Is.good {f : Fun} (h : f.Is) (g : Fun) (iso : Bool) : (f.net g iso).Good f.ob.length := by
  refine ⟨fun x h hm => ?_, fun a ha => ?_, fun a ha => ?_⟩
  · obtain ⟨_, _, _, _, rfl⟩ := Fun.cand_hom hm; omega
  · have := h.1.1.src a (by have := h.2.2.al; exact this ▸ ha)
    have := h.2.2.ol
    show (f.s.src.getD a 0).toNat < _
    omega
  · have := h.1.1.tgt a (by have := h.2.2.al; have := h.1.1.tl; have : a < f.ar.length := ha; omega)
    have := h.2.2.ol
    show (f.s.tgt.getD a 0).toNat < _
    omega
theorem toNat_ne {v : Int} {x : Nat} (h0 : 0 ≤ v) (h : ¬ v = (x : Int)) : v.toNat ≠ x := by omega
def stCells (f : Fun) (p : FunP) (g : Fun) (q : FunP) (iso : Bool) (most : Int) (a : Option Addr) (n : Nat) : List Value := f.cells p ++ (g.cells q ++ [.bool iso, .int .i64 most, .slice a n n])
end Go.GL
namespace Go.Proofs.Ytagkeabmdodfiaa
open Go Go.GL Go.RowKit Go.Proofs
theorem fo_177_0_Ha : fieldOff Try.prog 177 0 = some 0 := by kernel_rfl
theorem fo_177_1_Ha : fieldOff Try.prog 177 1 = some 12 := by kernel_rfl
theorem fo_177_2_Ha : fieldOff Try.prog 177 2 = some 24 := by kernel_rfl
theorem on_4_Ha : oneT Try.prog 4 = true := by kernel_rfl
theorem l07SquareP_c {f k : Fun} {p q : FunP} {iso : Bool} {d : Option Addr} {co : List Int} {n a : Nat} {H : GHeap} (hin : f.In H p := by assumption) (hin' : k.In H q := by assumption) (hd : SlA H d n (fun i => .int .i64 (co.getD i 0))) (hP : f.Par k) (hn : n = f.ob.length) (ha : a < f.ar.length := by omega)
    (h1 : 0 ≤ co.getD (f.s.src.getD a 0).toNat 0 ∧ co.getD (f.s.src.getD a 0).toNat 0 < f.t.src.length) (h2 : 0 ≤ co.getD (f.s.tgt.getD a 0).toNat 0 ∧ co.getD (f.s.tgt.getD a 0).toNat 0 < f.t.src.length) :
    GCalls Try.prog 154 [.agg (f.cells p).toArray, .agg (k.cells q).toArray, .slice d n n, .int .i64 (a : Int)] H (Ret (.bool ((f.net k iso).sq a (co.getD (f.s.src.getD a 0).toNat 0) (co.getD (f.s.tgt.getD a 0).toNat 0))) H) := by
  refine GCalls.ret rfl ?_
  have hs := hP.fi.1.1
  have ht := hP.fi.2.1.1
  have hf := hP.fi.2.2
  have hf' := hP.gi.2.2
  have e1 := hf.al
  have e2 := hf'.al
  have e3 := hP.ps
  have e4 := hP.pt
  have e5 := hf.ol
  rw [← e3] at e2
  have q1 := hs.src a (by omega)
  have q2 := hs.tgt a (by have := hs.tl; omega)
  have q3 := hf.ar a (by omega)
  have q4 := hf'.ar a (by omega)
  rw [← e4] at q4
  have q7 := hs.tl
  have q8 := ht.cl
  have q9 := ht.row (f.ar.getD a 0).toNat (by omega)
  have q10 := ht.row (co.getD (f.s.src.getD a 0).toNat 0).toNat (by omega)
  refine GCalls.body (N := 54) (rs := [.tmp 8]) Try.func154 rfl rfl rfl rfl (fun Qx hret hend => ?_)
  refine .forget (fr' := [(0, some _), (1, some _), (2, some _), (3, some _)]) ⟨rfl, rfl, rfl, rfl, trivial⟩ ?_
  have hle := GHeap.Le.refl H
  have base_hin := hin
  have base_hin' := hin'
  have base_hd := hd
  refine .seq (fun K1 hK1 => .region ?_)
  refine .r rfl rfl rfl (.boxR rfl sz_33_E rfl) ?_
  rintro _ H4 ⟨g4, rfl, le4, ge4, at4⟩
  replace hle := hle.trans le4
  replace hin := base_hin.mono hle
  have hb4 : Fun.At _ g4 0 f p := ⟨Mem.of_get at4, hin⟩
  refine .r rfl rfl rfl (.boxR rfl sz_33_E rfl) ?_
  rintro _ H5 ⟨g5, rfl, le5, ge5, at5⟩
  replace hle := hle.trans le5
  replace at4 := le5.2 _ _ at4
  replace hin := base_hin.mono hle
  replace hin' := base_hin'.mono hle
  clear hb4
  have hb4 : Fun.At _ g4 0 f p := ⟨Mem.of_get at4, hin⟩
  obtain ⟨fs4, ft4, -, -, -, -⟩ := hb4.get
  have hms4 : MemN _ _ _ _ _ := ⟨rfl, fs4.1⟩
  have hmt4 : MemN _ _ _ _ _ := ⟨rfl, ft4.1⟩
  have hb5 : Fun.At _ g5 0 k q := ⟨Mem.of_get at5, hin'⟩
  refine .mv rfl (.nil (hK1 _ _ (.seq (fun K2 hK2 => ?_))))
  refine .regionD mo_B (.q 0 (.q 1 (.q 2 (.q 3 (.or (.c 4 1 (.c 5 1 (.c 6 1 (.c 7 0 .done)))) (.c 5 1 (.c 4 1 (.c 6 1 (.c 7 0 .done))))))))) (by kernel_rfl) ?_
  refine .m rfl rfl rfl rfl (.refl _) (.fieldAddr fo_33_0_E rfl) ?_
  refine .m rfl rfl rfl rfl (.refl _) (.loadM ag_31_D rfl (by assumption)) ?_
  refine .m rfl rfl rfl rfl (.refl _) (.fieldAddr fo_33_1_E rfl) ?_
  refine .m rfl rfl rfl rfl (.refl _) (.loadM ag_31_D rfl (by assumption)) ?_
  refine .two [(2, some _), (3, some _), (4, some _), (5, some _)] rfl rfl rfl rfl rfl rfl rfl rfl rfl rfl rfl rfl rfl rfl rfl rfl rfl rfl ze_31_E rfl sz_31_D rfl rfl rfl rfl rfl (by rfl) (by rfl) rfl rfl rfl rfl rfl ⟨rfl, rfl, rfl, rfl, trivial⟩ rfl rfl (.refl _) ?_
  intro g9 g10 H10 fr10 le10 ge9 ge10 at9 at10 hsub10
  replace hle := hle.trans le10
  replace at4 := le10.2 _ _ at4
  replace at5 := le10.2 _ _ at5
  replace hin := base_hin.mono hle
  replace hin' := base_hin'.mono hle
  replace hd := base_hd.mono hle
  clear hb4 fs4 ft4 hms4 hmt4
  have hb4 : Fun.At _ g4 0 f p := ⟨Mem.of_get at4, hin⟩
  obtain ⟨-, -, -, c114, -, j24⟩ := hb4.get
  clear hb5
  have hb5 : Fun.At _ g5 0 k q := ⟨Mem.of_get at5, hin'⟩
  obtain ⟨-, -, -, c115, -, j25⟩ := hb5.get
  have hb9 : Cat.At _ g9 0 f.s p.s := ⟨Mem.of_get at9, hin.1⟩
  obtain ⟨-, c19, c29, -, -, i19, i29, -, -⟩ := hb9.get
  have hb10 : Cat.At _ g10 0 f.t p.t := ⟨Mem.of_get at10, hin.2.1⟩
  obtain ⟨-, -, -, -, c410, -, -, -, i410⟩ := hb10.get
  refine hK2 _ _ ?_
  refine .forget hsub10 ?_
  refine .seq (fun K3 hK3 => ?_)
  refine .regionD mo_B (.q 0 (.q 1 (.q 2 (.q 3 (.q 4 (.q 5 (.q 6 (.q 7 (.q 8 (.q 9 (.q 10 (.q 11 (.q 12 (.q 13 (.q 14 (.q 15 (.q 16 (.q 17 (.q 18 (.q 19 (.q 20 (.q 21 (.q 22 (.q 23 (.q 24 (.q 25 (.q 26 (.q 27 (.q 28 (.q 29 (.q 30 (.q 31 (.q 32 (.q 33 (.q 34 (.q 35 (.q 36 (.q 37 (.q 38 (.q 39 (.done))))))))))))))))))))))))))))))))))))))))) (by kernel_rfl) ?_
  have r1 := i410.2 (f.ar.getD a 0).toNat (by omega)
  have r2 := i410.2 (co.getD (f.s.src.getD a 0).toNat 0).toNat (by omega)
  refine .m rfl rfl rfl rfl (.refl _) (.fieldAddr fo_31_4_B rfl) ?_
  refine .m rfl rfl rfl rfl (.refl _) (.load on_23_B rfl (by first | assumption | exact Mem.of_get at10 4 _ rfl)) ?_
  refine .m rfl rfl rfl rfl (.refl _) (.fieldAddr fo_33_3_E rfl) ?_
  refine .m rfl rfl rfl rfl (.refl _) (.load on_22_B rfl (by first | assumption | exact Mem.of_get at4 11 _ rfl)) ?_
  refine .mv rfl rfl ?_
  refine .m rfl rfl rfl rfl (.refl _) (.idxN sl_22_A (by assumption) rfl rfl (by omega)) ?_
  refine .m rfl rfl rfl rfl (.refl _) (.loadI on_2_A (by assumption) rfl (by omega)) ?_
  refine .m rfl rfl rfl rfl (.refl _) (.idx1 sl_23_B (Intss.sl (by assumption)) rfl rfl (by omega) (by omega)) ?_
  refine .m rfl rfl rfl rfl (.refl _) (.loadR on_22_B (by assumption) rfl (by omega)) ?_
  refine .mv rfl rfl (.m rfl rfl rfl rfl (.refl _) (.fieldAddr fo_31_2_B rfl) ?_)
  refine .m rfl rfl rfl rfl (.refl _) (.load on_22_B rfl (by first | assumption | exact Mem.of_get at9 2 _ rfl)) ?_
  refine .mv rfl rfl ?_
  refine .m rfl rfl rfl rfl (.refl _) (.idxN sl_22_A (by assumption) rfl rfl (by omega)) ?_
  refine .m rfl rfl rfl rfl (.refl _) (.loadI on_2_A (by assumption) rfl (by omega)) ?_
  refine .m rfl rfl rfl rfl (.refl _) (.idx1 sl_22_A (by assumption) rfl rfl (by omega) (by omega)) ?_
  refine .m rfl rfl rfl rfl (.refl _) (.loadE on_2_A hd rfl (by omega)) ?_
  refine .m rfl rfl rfl rfl (.refl _) (.idx1 sl_22_A (by assumption) rfl rfl (by omega) (by omega)) ?_
  refine .m rfl rfl rfl rfl (.refl _) (.loadI on_2_A (by assumption) rfl (by omega)) ?_
  refine .m rfl rfl rfl rfl (.refl _) (.fieldAddr fo_31_4_B rfl) ?_
  refine .m rfl rfl rfl rfl (.refl _) (.load on_23_B rfl (by first | assumption | exact Mem.of_get at10 4 _ rfl)) ?_
  refine .mv rfl rfl (.m rfl rfl rfl rfl (.refl _) (.fieldAddr fo_31_1_B rfl) ?_)
  refine .m rfl rfl rfl rfl (.refl _) (.load on_22_B rfl (by first | assumption | exact Mem.of_get at9 1 _ rfl)) ?_
  refine .mv rfl rfl ?_
  refine .m rfl rfl rfl rfl (.refl _) (.idxN sl_22_A (by assumption) rfl rfl (by omega)) ?_
  refine .m rfl rfl rfl rfl (.refl _) (.loadI on_2_A (by assumption) rfl (by omega)) ?_
  refine .m rfl rfl rfl rfl (.refl _) (.idx1 sl_22_A (by assumption) rfl rfl (by omega) (by omega)) ?_
  refine .m rfl rfl rfl rfl (.refl _) (.loadE on_2_A hd rfl (by omega)) ?_
  refine .m rfl rfl rfl rfl (.refl _) (.idx1 sl_23_B (Intss.sl (by assumption)) rfl rfl (by omega) (by omega)) ?_
  refine .m rfl rfl rfl rfl (.refl _) (.loadR on_22_B (by assumption) rfl (by omega)) ?_
  refine .m rfl rfl rfl rfl (.refl _) (.fieldAddr fo_33_3_E rfl) ?_
  refine .m rfl rfl rfl rfl (.refl _) (.load on_22_B rfl (by first | assumption | exact Mem.of_get at5 11 _ rfl)) ?_
  refine .mv rfl rfl ?_
  refine .m rfl rfl rfl rfl (.refl _) (.idxN sl_22_A (by assumption) rfl rfl (by omega)) ?_
  refine .m rfl rfl rfl rfl (.refl _) (.loadI on_2_A (by assumption) rfl (by omega)) ?_
  refine .m rfl rfl rfl rfl (.refl _) (.idx1 sl_22_A (by assumption) rfl rfl (by omega) (by omega)) ?_
  refine .m rfl rfl rfl rfl (.refl _) (.loadI on_2_A (by assumption) rfl (by omega)) ?_
  refine .m rfl rfl rfl rfl (.refl _) (.cmp rfl rfl rfl) (.mv rfl rfl ?_)
  refine .done ?_
  refine hK3 _ _ ?_
  refine .ret ?_
  refine hret _ _ ?_
  refine ⟨_, rfl, ?_⟩
  exact ⟨rfl, hle⟩
set_option maxHeartbeats 4000000 in
theorem l07Choices_c {gs : Nat} {f k : Fun} {p q : FunP} {iso : Bool} {most : Int} {af d : Option Addr} {nf x : Nat} {co : List Int} {H : GHeap} (hS : Mem H gs 0 (stCells f p k q iso most af nf)) (hin : f.In H p) (hin1 : k.In H q) (hd : Ints H d co) (hP : f.Par k) (hn : co.length = f.ob.length) (hx : x < f.ob.length)
    (hc : ∀ i, i < co.length → co.getD i 0 < f.t.src.length) :
    GCalls Try.prog 150 [.pointer (some ⟨gs, 0, none⟩), .slice d co.length co.length, .int .i64 (x : Int)] H (NewInts 2 H ((f.net k iso).choices co x)) := by
  have hs := hP.fi.1.1
  have ht := hP.fi.2.1.1
  have hf := hP.fi.2.2
  have hf' := hP.gi.2.2
  have e1 := hf.al
  have e2 := hf'.al
  have e3 := hP.ps
  have e5 := hf.ol
  have e6 := hf'.ol
  have hTS := hP.fi.2.1.1
  rw [← e3] at e2 e6
  have q7 := hs.tl
  have q8 := ht.n40
  have q9 := hs.obj
  have q11 := hs.n40
  have hl := Cat.hom_le f.t (f.ob.getD x 0) (k.ob.getD x 0)
  refine GCalls.body (N := 141) (rs := [.tmp 6]) Try.func150 rfl rfl rfl rfl (fun Qx hret hend => ?_)
  refine .forget (fr' := [(0, some _), (1, some _), (2, some _)]) ⟨rfl, rfl, rfl, trivial⟩ ?_
  have hle := GHeap.Le.refl H
  have base_hS := hS
  have base_hin := hin
  have base_hin1 := hin1
  have base_hd := hd
  have hF : Fun.At _ gs (0 + 0) f p := ⟨hS.left, hin⟩
  have hG : Fun.At _ gs (0 + 12) k q := ⟨(hS.right (n := 12) rfl).left, hin1⟩
  obtain ⟨fsf, ftf, -, -, -, -⟩ := hF.get
  have hmsf : MemN _ _ _ _ _ := ⟨rfl, fsf.1⟩
  have hmtf : MemN _ _ _ _ _ := ⟨rfl, ftf.1⟩
  refine .seq (fun K1 hK1 => .region (.mv rfl (.nil (hK1 _ _ (.seq (fun K2 hK2 => ?_))))))
  refine .regionD mo_B (.q 0 (.q 1 (.q 2 (.q 3 (.q 4 (.q 5 (.q 6 (.q 7 (.q 8 (.q 9 (.or (.c 10 1 (.c 11 1 (.c 12 1 (.c 13 0 .done)))) (.c 11 1 (.c 10 1 (.c 12 1 (.c 13 0 .done))))))))))))))) (by kernel_rfl) ?_
  refine .mv rfl rfl (.m rfl rfl rfl rfl (.refl _) (.nilCheck rfl) (.m rfl rfl rfl rfl (.refl _) (.fieldAddr fo_177_0_Ha rfl) (.m rfl rfl rfl rfl (.refl _) (.fieldAddr fo_33_0_E rfl) ?_)))
  refine .m rfl rfl rfl rfl (.refl _) (.loadM ag_31_D rfl (by assumption)) ?_
  refine .mv rfl rfl (.m rfl rfl rfl rfl (.refl _) (.nilCheck rfl) (.m rfl rfl rfl rfl (.refl _) (.fieldAddr fo_177_0_Ha rfl) (.m rfl rfl rfl rfl (.refl _) (.fieldAddr fo_33_1_E rfl) ?_)))
  refine .m rfl rfl rfl rfl (.refl _) (.loadM ag_31_D rfl (by assumption)) ?_
  refine .two [(0, some _), (1, some _), (2, some _), (6, some _)] rfl rfl rfl rfl rfl rfl rfl rfl rfl rfl rfl rfl rfl rfl rfl rfl rfl rfl ze_31_E rfl sz_31_D rfl rfl rfl rfl rfl (by rfl) (by rfl) rfl rfl rfl rfl rfl ⟨rfl, rfl, rfl, rfl, trivial⟩ rfl rfl (.refl _) ?_
  intro g7 g8 H8 fr8 le8 ge7 ge8 at7 at8 hsub8
  replace hle := hle.trans le8
  have lt_at7 := GHeap.ltg at7
  have lt_at8 := GHeap.ltg at8
  replace hS := base_hS.mono hle
  replace hin := base_hin.mono hle
  replace hin1 := base_hin1.mono hle
  clear hF hG fsf ftf hmsf hmtf
  have hF : Fun.At _ gs (0 + 0) f p := ⟨hS.left, hin⟩
  have hG : Fun.At _ gs (0 + 12) k q := ⟨(hS.right (n := 12) rfl).left, hin1⟩
  obtain ⟨-, -, c10f, -, j1f, -⟩ := hF.get
  obtain ⟨-, -, c10g, -, j1g, -⟩ := hG.get
  have hb7 : Cat.At _ g7 0 f.s p.s := ⟨Mem.of_get at7, hin.1⟩
  have hb8 : Cat.At _ g8 0 f.t p.t := ⟨Mem.of_get at8, hin.2.1⟩
  have hi8 := hb8.2
  refine hK2 _ _ ?_
  refine .forget hsub8 ?_
  refine .seq (fun K3 hK3 => ?_)
  refine .regionD mo_B (.q 0 (.q 1 (.q 2 (.q 3 (.q 4 (.q 5 (.q 6 (.q 7 (.q 8 (.q 9 (.q 10 (.q 11 (.q 12 (.q 13 (.q 14 (.q 15 (.q 16 (.c 17 0 (.q 18 (.done)))))))))))))))))))) (by kernel_rfl) ?_
  refine .m rfl rfl rfl rfl (.refl _) (.loadM ag_31_D rfl ⟨rfl, Mem.of_get at8⟩) ?_
  refine .mv rfl rfl (.m rfl rfl rfl rfl (.refl _) (.nilCheck rfl) (.m rfl rfl rfl rfl (.refl _) (.fieldAddr fo_177_0_Ha rfl) (.m rfl rfl rfl rfl (.refl _) (.fieldAddr fo_33_2_E rfl) ?_)))
  refine .m rfl rfl rfl rfl (.refl _) (.load on_22_B rfl (by assumption)) ?_
  refine .mv rfl rfl ?_
  refine .m rfl rfl rfl rfl (.refl _) (.idxN sl_22_A (by assumption) rfl rfl (by omega)) ?_
  refine .m rfl rfl rfl rfl (.refl _) (.loadI on_2_A (by assumption) rfl (by omega)) ?_
  refine .mv rfl rfl (.m rfl rfl rfl rfl (.refl _) (.nilCheck rfl) (.m rfl rfl rfl rfl (.refl _) (.fieldAddr fo_177_1_Ha rfl) (.m rfl rfl rfl rfl (.refl _) (.fieldAddr fo_33_2_E rfl) ?_)))
  refine .m rfl rfl rfl rfl (.refl _) (.load on_22_B rfl (by assumption)) ?_
  refine .mv rfl rfl ?_
  refine .m rfl rfl rfl rfl (.refl _) (.idxN sl_22_A (by assumption) rfl rfl (by omega)) ?_
  refine .m rfl rfl rfl rfl (.refl _) (.loadI on_2_A (by assumption) rfl (by omega)) ?_
  refine .call0 rfl rfl rfl rfl rfl @Try.call85 rfl (l02Hom_c) ?_
  rintro _ H44 ⟨le44, g44, rfl, at44, ge44⟩
  replace hle := hle.trans le44
  replace at7 := le44.2 _ _ at7
  replace at8 := le44.2 _ _ at8
  have lt_at44 := GHeap.ltg at44
  replace hS := base_hS.mono hle
  replace hin := base_hin.mono hle
  replace hin1 := base_hin1.mono hle
  clear hF hG c10f j1f c10g j1g
  have hF : Fun.At _ gs (0 + 0) f p := ⟨hS.left, hin⟩
  have hG : Fun.At _ gs (0 + 12) k q := ⟨(hS.right (n := 12) rfl).left, hin1⟩
  clear hb7
  have hb7 : Cat.At _ g7 0 f.s p.s := ⟨Mem.of_get at7, hin.1⟩
  clear hb8 hi8
  have hb8 : Cat.At _ g8 0 f.t p.t := ⟨Mem.of_get at8, hin.2.1⟩
  refine .mv rfl rfl ?_
  refine .done ?_
  refine hK3 _ _ (.seq (fun K4 hK4 => .region ?_))
  refine .r rfl rfl rfl (.litR rfl sl_22_A ze_2_E rfl rfl (by omega) (by omega) rfl rfl) ?_
  rintro _ H45 ⟨g45, rfl, le45, ge45, at45⟩
  replace hle := hle.trans le45
  replace at7 := le45.2 _ _ at7
  replace at8 := le45.2 _ _ at8
  replace at44 := le45.2 _ _ at44
  have lt_at45 := GHeap.ltg at45
  replace hS := base_hS.mono hle
  replace hin := base_hin.mono hle
  replace hin1 := base_hin1.mono hle
  clear hF hG
  have hF : Fun.At _ gs (0 + 0) f p := ⟨hS.left, hin⟩
  have hG : Fun.At _ gs (0 + 12) k q := ⟨(hS.right (n := 12) rfl).left, hin1⟩
  clear hb7
  have hb7 : Cat.At _ g7 0 f.s p.s := ⟨Mem.of_get at7, hin.1⟩
  clear hb8
  have hb8 : Cat.At _ g8 0 f.t p.t := ⟨Mem.of_get at8, hin.2.1⟩
  replace at45 : GHeap.get H45 g45 = some (.row (ints []) 2 true) := at45
  refine .mv rfl (.nil (hK4 _ _ (.seq (fun K5 hK5 => .seq (fun K6 hK6 => .region (.mv rfl (.nil (hK6 _ _ ?_))))))))
  refine .block ?_
  refine .loopR (σ := Nat × Nat × Nat) [(0, some _), (1, some _), (2, some _), (7, some _), (8, some _), (9, some _)] (fun (j, gL10, nL10) => [(11, some (.int .i64 (j : Int))), (10, some (.slice (some ⟨gL10, 0, none⟩) nL10 nL10))]) (fun (j, gL10, nL10) H' => St [g45] H45 H' ∧ H'.get gL10 = some (.row (ints (((f.t.hom (f.ob.getD x 0) (k.ob.getD x 0)).take j).filter (f.chB k iso co x))) 2 true) ∧ (gL10 = g45 ∨ H45.next ≤ gL10) ∧ nL10 = (((f.t.hom (f.ob.getD x 0) (k.ob.getD x 0)).take j).filter (f.chB k iso co x)).length ∧ j ≤ (f.t.hom (f.ob.getD x 0) (k.ob.getD x 0)).length) (fun (j, gL10, nL10) => (f.t.hom (f.ob.getD x 0) (k.ob.getD x 0)).length - j) ((0, _, _)) ⟨rfl, rfl, rfl, rfl, rfl, rfl, trivial⟩ ⟨rfl, rfl, trivial⟩ ?_ ?_
  ·
   refine ⟨.refl _ _, by assumption, .inl rfl, by rfl, ?_⟩
   omega
  rintro ⟨j, gL10, nL10⟩ HL1 ⟨lst1, at_L10, pl_L10, ln_L10, hI⟩ KL1 hKL1
  refine .forget (fr' := [(11, some (.int .i64 (j : Int))), (10, some (.slice (some ⟨gL10, 0, none⟩) nL10 nL10)), (0, some _), (1, some _), (2, some _), (7, some _), (8, some _), (9, some _)]) ⟨rfl, rfl, rfl, rfl, rfl, rfl, rfl, rfl, trivial⟩ ?_
  have ge_L10 : H.next ≤ gL10 := by omega
  have nx_HL1 := lst1.nx
  replace hle := hle.st lst1 (fun k hk => ⟨by omega, trivial⟩)
  replace at7 := lst1.same _ _ ⟨(by first | assumption | omega), trivial⟩ at7
  replace at8 := lst1.same _ _ ⟨(by first | assumption | omega), trivial⟩ at8
  replace at44 := lst1.same _ _ ⟨(by first | assumption | omega), trivial⟩ at44
  have lt_at_L10 := GHeap.ltg at_L10
  replace hS := base_hS.mono hle
  replace hin := base_hin.mono hle
  replace hin1 := base_hin1.mono hle
  replace hd := base_hd.mono hle
  clear hF hG
  have hF : Fun.At _ gs (0 + 0) f p := ⟨hS.left, hin⟩
  have hG : Fun.At _ gs (0 + 12) k q := ⟨(hS.right (n := 12) rfl).left, hin1⟩
  have kiso : GHeap.cell _ gs (0 + 24) = some (.bool iso) := ((hS.right (n := 12) rfl).right (n := 12) rfl) 0 _ rfl
  clear hb7
  have hb7 : Cat.At _ g7 0 f.s p.s := ⟨Mem.of_get at7, hin.1⟩
  clear hb8
  have hb8 : Cat.At _ g8 0 f.t p.t := ⟨Mem.of_get at8, hin.2.1⟩
  have hi8 := hb8.2
  have i44 := Ints.of_get at44
  have hfl := filtTake_le (xs := f.t.hom (f.ob.getD x 0) (k.ob.getD x 0)) (P := f.chB k iso co x) (i := j)
  refine .seq (fun K7 hK7 => .seq (fun K8 hK8 => .region (.mv rfl (.mv rfl (.m rfl rfl rfl (.len sl_22_A rfl) (.m rfl rfl rfl (.cmp rfl rfl rfl) (.nil (hK8 _ _ ?_))))))))
  refine .cond rfl (fun h49 => ?_) (fun h49 => ?_)
  ·
   simp only [sps] at h49
   obtain ⟨b, b1, -, -, b4⟩ := Cat.hom_get (c := f.t) (x := f.ob.getD x 0) (y := k.ob.getD x 0) (i := j) (by omega)
   refine .skip ?_
   refine hK7 _ _ (.seq (fun K9 hK9 => ?_))
   refine .block ?_
   refine .seq (fun K10 hK10 => .seq (fun K11 hK11 => ?_))
   refine .regionD mo_B (.q 0 (.q 1 (.q 2 (.q 3 (.q 4 (.q 5 (.q 6 (.q 7 (.q 8 (.q 9 (.c 10 0 (.q 11 (.q 12 (.done)))))))))))))) (by kernel_rfl) ?_
   refine .cut [(0, some _), (1, some _), (2, some _), (7, some _), (8, some _), (9, some _), (10, some _), (11, some _), (46, some _), (47, some _), (48, some _), (49, some _)] ⟨rfl, rfl, rfl, rfl, rfl, rfl, rfl, rfl, rfl, rfl, rfl, rfl, trivial⟩ (fun rest fr' H' => ∃ b : Bool, Sub ((64, some (.bool b)) :: rest) fr' ∧ HL1 = H' ∧ (b = true → f.chB k iso co x ((f.t.hom (f.ob.getD x 0) (k.ob.getD x 0)).getD j 0) = false) ∧ (b = false → f.chB k iso co x ((f.t.hom (f.ob.getD x 0) (k.ob.getD x 0)).getD j 0) = (f.net k iso).fits (co.set x ((f.t.hom (f.ob.getD x 0) (k.ob.getD x 0)).getD j 0)) x)) ?_ ?_
   ·
    refine .mv rfl rfl (.m rfl rfl rfl rfl (.refl _) (.nilCheck rfl) (.m rfl rfl rfl rfl (.refl _) (.fieldAddr fo_177_2_Ha rfl) ?_))
    refine .m rfl rfl rfl rfl (.refl _) (.load on_4_Ha rfl (by assumption)) ?_
    refine .mv rfl rfl ?_
    refine .split (fun h56 => ?_) (fun h56 => ?_)
    ·
     refine .mg rfl rfl rfl rfl rfl rfl (.refl _) (.loadM ag_31_D rfl ⟨rfl, Mem.of_get at8⟩) ?_
     refine .mg rfl rfl rfl rfl rfl rfl (.refl _) (.move rfl) (.mg rfl rfl rfl rfl rfl rfl (.refl _) (.move rfl) ?_)
     refine .mg rfl rfl rfl rfl rfl rfl (.refl _) (.idxN sl_22_A (by first | assumption | exact SlA.of_row at44 (by first | rfl | (simp; done) | (simp <;> omega))) rfl rfl (by omega)) ?_
     refine .mg rfl rfl rfl rfl rfl rfl (.refl _) (.loadI on_2_A (by first | assumption | exact Ints.of_get at44) rfl (by omega)) ?_
     refine .callQ0g rfl rfl rfl rfl rfl rfl rfl @Try.call153 rfl (l05Inverse_c) ?_
     refine .mg rfl rfl rfl rfl rfl rfl (.refl _) (.cmp rfl rfl rfl) (.m rfl rfl rfl rfl (.refl _) (.pickT rfl rfl) ?_)
     refine .done ?_
     refine ⟨_, ⟨rfl, rfl, rfl, rfl, rfl, rfl, rfl, rfl, rfl, rfl, rfl, rfl, rfl, trivial⟩, rfl, ?_⟩
     first
     | exact ⟨fun hb => Fun.ch_no h56 (by simpa using hb), fun hb => Fun.ch_go (.inr (by simpa using hb))⟩
     | exact ⟨fun hb => (by cases hb), fun _ => Fun.ch_go (.inl (by simpa using h56))⟩
    refine .sg rfl rfl rfl rfl rfl rfl (.sg rfl rfl rfl rfl rfl rfl (.sg rfl rfl rfl rfl rfl rfl (.sg rfl rfl rfl rfl rfl rfl (.sg rfl rfl rfl rfl rfl rfl (.sgc rfl rfl rfl rfl rfl rfl (.sg rfl rfl rfl rfl rfl rfl (.m rfl rfl rfl rfl (.refl _) (.pickF rfl rfl) ?_)))))))
    refine .done ?_
    refine ⟨_, ⟨rfl, rfl, rfl, rfl, rfl, rfl, rfl, rfl, rfl, rfl, rfl, rfl, rfl, trivial⟩, rfl, ?_⟩
    first
    | exact ⟨fun hb => Fun.ch_no h56 (by simpa using hb), fun hb => Fun.ch_go (.inr (by simpa using hb))⟩
    | exact ⟨fun hb => (by cases hb), fun _ => Fun.ch_go (.inl (by simpa using h56))⟩
   rintro frJ7 _ ⟨b, hsubJ7, rfl, hJ7⟩
   refine hK11 _ _ ?_
   refine .forget hsubJ7 ?_
   refine .cond rfl (fun h64 => ?_) (fun h64 => ?_)
   ·
    have hP1 := hJ7.1 h64
    refine .exit ?_
    refine hK9 _ _ (.region (.mv rfl ?_))
    refine .m rfl rfl rfl (.add rfl rfl rfl (by omega) (by omega)) ?_
    refine .mv rfl (.nil ?_)
    refine hKL1 ((j + 1, _, _)) _ _ ?_ ?_ ⟨rfl, rfl, rfl, rfl, rfl, rfl, rfl, rfl, trivial⟩
    ·
     refine ⟨lst1, by (rw [filtTake_F (by omega) hP1]; assumption), by omega, by (rw [filtTake_F (by omega) hP1] <;> (first | omega | (simp only [List.length_append, List.length_cons, List.length_nil] <;> omega))), ?_⟩
     omega
    (dsimp only; omega)
   have hgo := hJ7.2 h64
   refine .skip ?_
   refine hK10 _ _ (.seq (fun K12 hK12 => .region ?_))
   have hls : (co.set x ((f.t.hom (f.ob.getD x 0) (k.ob.getD x 0)).getD j 0)).length = co.length := List.length_set
   have hcs : ∀ i, i < co.length → (co.set x ((f.t.hom (f.ob.getD x 0) (k.ob.getD x 0)).getD j 0)).getD i 0 < f.t.src.length := fun i hi => by
     rw [getD_set (by omega)]
     split
     · omega
     · exact hc i hi
   refine .mv rfl ?_
   refine .call rfl rfl rfl rfl @Try.call147 rfl (l01Own_c) ?_
   rintro _ H66 ⟨le66, g66, rfl, at66, ge66⟩
   replace hle := hle.trans le66
   replace lst1 := lst1.le le66
   replace at7 := le66.2 _ _ at7
   replace at8 := le66.2 _ _ at8
   replace at44 := le66.2 _ _ at44
   replace at_L10 := le66.2 _ _ at_L10
   replace hS := base_hS.mono hle
   replace hin := base_hin.mono hle
   replace hin1 := base_hin1.mono hle
   clear hF hG kiso
   have hF : Fun.At _ gs (0 + 0) f p := ⟨hS.left, hin⟩
   have hG : Fun.At _ gs (0 + 12) k q := ⟨(hS.right (n := 12) rfl).left, hin1⟩
   clear hb7
   have hb7 : Cat.At _ g7 0 f.s p.s := ⟨Mem.of_get at7, hin.1⟩
   clear hb8 hi8
   have hb8 : Cat.At _ g8 0 f.t p.t := ⟨Mem.of_get at8, hin.2.1⟩
   clear i44
   have i44 := Ints.of_get at44
   have i66 := Ints.of_get at66
   refine .mv rfl (.nil (hK12 _ _ (.seq (fun K13 hK13 => .region (.mv rfl (.mv rfl (.mv rfl (.mv rfl ?_))))))))
   refine .m rfl rfl rfl (.idxN sl_22_A (by first | assumption | exact SlA.of_row at44 (by first | rfl | (simp; done) | (simp <;> omega))) rfl rfl (by omega)) ?_
   refine .m rfl rfl rfl (.loadI on_2_A (by first | assumption | exact Ints.of_get at44) rfl (by omega)) ?_
   refine .m rfl rfl rfl (.idxN sl_22_A (by first | assumption | exact SlA.of_row at66 (by first | rfl | (simp; done) | (simp <;> omega))) rfl rfl (by omega)) ?_
   refine .r0 rfl rfl (.storeI rfl sz_2_E rfl rfl (by assumption) (by first | omega | (simp <;> omega))) ?_
   rintro _ H9007 ⟨rfl, st9007, at9007⟩
   replace hle := hle.st st9007 (fun k hk => ⟨by omega, trivial⟩)
   replace lst1 := lst1.st st9007 (fun k hk ho => by simp only [out, and_true] at ho ⊢ <;> first | exact ho | exact ho.1 | exact ho.2 | exact ho.2.1 | exact ho.2.2 | exact ho.2.2.1 | exact ho.2.2.2 | omega)
   replace at7 := st9007.same _ _ ⟨(by first | assumption | omega), trivial⟩ at7
   replace at8 := st9007.same _ _ ⟨(by first | assumption | omega), trivial⟩ at8
   replace at44 := st9007.same _ _ ⟨(by first | assumption | omega), trivial⟩ at44
   replace at_L10 := st9007.same _ _ ⟨(by first | assumption | omega), trivial⟩ at_L10
   have lt_at9007 := GHeap.ltg at9007
   replace hS := base_hS.mono hle
   replace hin := base_hin.mono hle
   replace hin1 := base_hin1.mono hle
   clear hF hG
   have hF : Fun.At _ gs (0 + 0) f p := ⟨hS.left, hin⟩
   have hG : Fun.At _ gs (0 + 12) k q := ⟨(hS.right (n := 12) rfl).left, hin1⟩
   obtain ⟨-, -, -, c11f, -, -⟩ := hF.get
   have hmf : MemN _ _ _ _ _ := ⟨rfl, hF.1⟩
   have hif := hF.2
   have hmg : MemN _ _ _ _ _ := ⟨rfl, hG.1⟩
   have hig := hG.2
   clear hb7
   have hb7 : Cat.At _ g7 0 f.s p.s := ⟨Mem.of_get at7, hin.1⟩
   obtain ⟨-, c17, c27, -, -, i17, i27, -, -⟩ := hb7.get
   clear hb8
   have hb8 : Cat.At _ g8 0 f.t p.t := ⟨Mem.of_get at8, hin.2.1⟩
   clear i44
   have i44 := Ints.of_get at44
   clear i66
   rw [Nat.zero_add] at at9007
   refine .nil (hK13 _ _ (.seq (fun K14 hK14 => .region (.mv rfl (.nil (hK14 _ _ (.seq (fun K15 hK15 => .seq (fun K16 hK16 => .region (.mv rfl (.nil (hK16 _ _ ?_))))))))))))
   refine .block ?_
   refine .loopR (σ := Nat × Bool) [(0, some _), (1, some _), (2, some _), (7, some _), (8, some _), (9, some _), (10, some _), (11, some _), (12, some _)] (fun (a, b) => [(14, some (.int .i64 (a : Int))), (13, some (.bool b))]) (fun (a, b) H' => H9007 = H' ∧ a ≤ f.ar.length ∧ b = allN a ((f.net k iso).fitAt (co.set x ((f.t.hom (f.ob.getD x 0) (k.ob.getD x 0)).getD j 0)) x)) (fun (a, b) => f.ar.length - a) ((0, true)) ⟨rfl, rfl, rfl, rfl, rfl, rfl, rfl, rfl, rfl, trivial⟩ ⟨rfl, rfl, trivial⟩ ?_ ?_
   ·
    refine ⟨rfl, ?_⟩
    exact ⟨by omega, rfl⟩
   rintro ⟨a, b⟩ _ ⟨rfl, hI⟩ KL2 hKL2
   refine .forget (fr' := [(14, some (.int .i64 (a : Int))), (13, some (.bool b)), (0, some _), (1, some _), (2, some _), (7, some _), (8, some _), (9, some _), (10, some _), (11, some _), (12, some _)]) ⟨rfl, rfl, rfl, rfl, rfl, rfl, rfl, rfl, rfl, rfl, rfl, trivial⟩ ?_
   obtain ⟨ha, hb⟩ := hI
   refine .seq (fun K17 hK17 => .seq (fun K18 hK18 => .region (.mv rfl (.mv rfl ?_))))
   refine .split (fun h75 => ?_) (fun h75 => ?_)
   ·
    refine .mg rfl rfl rfl rfl rfl (.move rfl) (.mg rfl rfl rfl rfl rfl (.move rfl) (.mg rfl rfl rfl rfl rfl (.nilCheck rfl) (.mg rfl rfl rfl rfl rfl (.fieldAddr fo_177_0_Ha rfl) (.mg rfl rfl rfl rfl rfl (.fieldAddr fo_33_3_E rfl) ?_))))
    refine .mg rfl rfl rfl rfl rfl (.load on_22_B rfl (by assumption)) ?_
    refine .mg rfl rfl rfl rfl rfl (.len sl_22_A rfl) (.mg rfl rfl rfl rfl rfl (.cmp rfl rfl rfl) (.m rfl rfl rfl (.pickT rfl rfl) (.nil (hK18 _ _ ?_))))
    refine .cond rfl (fun h84 => ?_) (fun h84 => ?_)
    ·
     simp only [sps] at h84
     have a1 := hs.src a (by omega)
     have a2 := hs.tgt a (by omega)
     have a3 := hcs (f.s.src.getD a 0).toNat (by omega)
     have a4 := hcs (f.s.tgt.getD a 0).toNat (by omega)
     refine .skip ?_
     refine hK17 _ _ (.seq (fun K19 hK19 => ?_))
     refine .block ?_
     refine .seq (fun K20 hK20 => ?_)
     refine .regionD mo_B (.q 0 (.q 1 (.q 2 (.q 3 (.q 4 (.q 5 (.q 6 (.q 7 (.q 8 (.q 9 (.q 10 (.q 11 (.done))))))))))))) (by kernel_rfl) ?_
     refine .m rfl rfl rfl rfl (.refl _) (.fieldAddr fo_31_1_B rfl) ?_
     refine .m rfl rfl rfl rfl (.refl _) (.load on_22_B rfl (by first | assumption | exact Mem.of_get at7 1 _ rfl)) ?_
     refine .mv rfl rfl ?_
     refine .m rfl rfl rfl rfl (.refl _) (.idxN sl_22_A (by assumption) rfl rfl (by omega)) ?_
     refine .m rfl rfl rfl rfl (.refl _) (.loadI on_2_A (by assumption) rfl (by omega)) ?_
     refine .m rfl rfl rfl rfl (.refl _) (.fieldAddr fo_31_2_B rfl) ?_
     refine .m rfl rfl rfl rfl (.refl _) (.load on_22_B rfl (by first | assumption | exact Mem.of_get at7 2 _ rfl)) ?_
     refine .mv rfl rfl ?_
     refine .m rfl rfl rfl rfl (.refl _) (.idxN sl_22_A (by assumption) rfl rfl (by omega)) ?_
     refine .m rfl rfl rfl rfl (.refl _) (.loadI on_2_A (by assumption) rfl (by omega)) ?_
     refine .mv rfl rfl (.mv rfl rfl ?_)
     refine .done ?_
     refine hK20 _ _ ?_
     refine .regionD mo_B (.q 0 (.q 1 (.q 2 (.q 3 (.q 4 (.q 5 (.q 6 (.q 7 (.q 8 (.q 9 (.q 10 (.q 11 (.q 12 (.q 13 (.q 14 (.q 15 (.q 16 (.q 17 (.q 18 (.q 19 (.q 20 (.q 21 (.q 22 (.q 23 (.q 24 (.q 25 (.q 26 (.q 27 (.q 28 (.q 29 (.q 30 (.q 31 (.q 32 (.c 33 0 (.q 34 (.q 35 (.done))))))))))))))))))))))))))))))))))))) (by kernel_rfl) ?_
     refine .cut [(0, some _), (1, some _), (2, some _), (7, some _), (8, some _), (9, some _), (10, some _), (11, some _), (12, some _), (14, some _), (15, some _), (16, some _), (74, some _), (75, some _), (76, some _), (77, some _), (78, some _), (79, some _), (80, some _), (81, some _), (82, some _), (83, some _), (84, some _), (87, some _), (88, some _), (89, some _), (90, some _), (91, some _), (92, some _), (93, some _), (94, some _), (95, some _), (96, some _)] ⟨rfl, rfl, rfl, rfl, rfl, rfl, rfl, rfl, rfl, rfl, rfl, rfl, rfl, rfl, rfl, rfl, rfl, rfl, rfl, rfl, rfl, rfl, rfl, rfl, rfl, rfl, rfl, rfl, rfl, rfl, rfl, rfl, rfl, trivial⟩ (fun rest fr' H' => ∃ b' : Bool, Sub ((13, some (.bool b')) :: rest) fr' ∧ H9007 = H' ∧ b' = allN (a + 1) ((f.net k iso).fitAt (co.set x ((f.t.hom (f.ob.getD x 0) (k.ob.getD x 0)).getD j 0)) x)) ?_ ?_
     ·
      refine .mv rfl rfl (.mv rfl rfl (.m rfl rfl rfl rfl (.refl _) (.cmp rfl rfl rfl) (.mv rfl rfl ?_)))
      refine .split (fun h100 => ?_) (fun h100 => ?_)
      ·
       simp only [sps] at h100
       refine .mg rfl rfl rfl rfl rfl rfl (.refl _) (.move rfl) (.mg rfl rfl rfl rfl rfl rfl (.refl _) (.move rfl) (.mg rfl rfl rfl rfl rfl rfl (.refl _) (.cmp rfl rfl rfl) (.m rfl rfl rfl rfl (.refl _) (.pickT rfl rfl) (.mv rfl rfl ?_))))
       refine .split (fun h105 => ?_) (fun h105 => ?_)
       ·
        simp only [sps] at h105
        refine .sg rfl rfl rfl rfl rfl rfl (.sg rfl rfl rfl rfl rfl rfl (.sg rfl rfl rfl rfl rfl rfl (.sg rfl rfl rfl rfl rfl rfl (.sg rfl rfl rfl rfl rfl rfl (.m rfl rfl rfl rfl (.refl _) (.pickT rfl rfl) (.mv rfl rfl (.sg rfl rfl rfl rfl rfl rfl (.sg rfl rfl rfl rfl rfl rfl (.sg rfl rfl rfl rfl rfl rfl (.sg rfl rfl rfl rfl rfl rfl (.sg rfl rfl rfl rfl rfl rfl (.m rfl rfl rfl rfl (.refl _) (.pickT rfl rfl) (.mv rfl rfl (.sg rfl rfl rfl rfl rfl rfl (.sg rfl rfl rfl rfl rfl rfl ?_)))))))))))))))
        refine .sg rfl rfl rfl rfl rfl rfl (.sg rfl rfl rfl rfl rfl rfl (.sg rfl rfl rfl rfl rfl rfl (.sg rfl rfl rfl rfl rfl rfl (.sg rfl rfl rfl rfl rfl rfl (.sg rfl rfl rfl rfl rfl rfl (.sg rfl rfl rfl rfl rfl rfl (.sg rfl rfl rfl rfl rfl rfl (.sgc rfl rfl rfl rfl rfl rfl (.m rfl rfl rfl rfl (.refl _) (.pickT rfl rfl) (.mv rfl rfl ?_))))))))))
        refine .done ?_
        refine ⟨_, ⟨rfl, rfl, rfl, rfl, rfl, rfl, rfl, rfl, rfl, rfl, rfl, rfl, rfl, rfl, rfl, rfl, rfl, rfl, rfl, rfl, rfl, rfl, rfl, rfl, rfl, rfl, rfl, rfl, rfl, rfl, rfl, rfl, rfl, rfl, trivial⟩, rfl, ?_⟩
        rw [allN_succ, ← hb, h75, Bool.true_and]
        exact (Net.fit_1 (toNat_ne a1.1 h100) (toNat_ne a2.1 h105)).symm
       simp only [sps] at h105
       refine .mg rfl rfl rfl rfl rfl rfl (.refl _) (.move rfl) (.mg rfl rfl rfl rfl rfl rfl (.refl _) (.move rfl) ?_)
       refine .mg rfl rfl rfl rfl rfl rfl (.refl _) (.idx1 sl_22_A (by first | assumption | exact SlA.of_row at9007 (by first | rfl | (simp; done) | (simp <;> omega))) rfl rfl (by omega) (by omega)) ?_
       refine .mg rfl rfl rfl rfl rfl rfl (.refl _) (.loadI on_2_A (by first | assumption | exact Ints.of_get at9007) rfl (by omega)) ?_
       refine .mg rfl rfl rfl rfl rfl rfl (.refl _) (.cmp rfl rfl rfl) (.m rfl rfl rfl rfl (.refl _) (.pickF rfl rfl) (.mv rfl rfl ?_))
       refine .split (fun h112 => ?_) (fun h112 => ?_)
       ·
        simp only [sps] at h112
        refine .sg rfl rfl rfl rfl rfl rfl (.sg rfl rfl rfl rfl rfl rfl (.sg rfl rfl rfl rfl rfl rfl (.sg rfl rfl rfl rfl rfl rfl (.sg rfl rfl rfl rfl rfl rfl (.m rfl rfl rfl rfl (.refl _) (.pickT rfl rfl) (.mv rfl rfl (.sg rfl rfl rfl rfl rfl rfl (.sg rfl rfl rfl rfl rfl rfl (.sg rfl rfl rfl rfl rfl rfl (.sg rfl rfl rfl rfl rfl rfl (.sg rfl rfl rfl rfl rfl rfl (.sg rfl rfl rfl rfl rfl rfl (.sg rfl rfl rfl rfl rfl rfl (.sg rfl rfl rfl rfl rfl rfl (.sg rfl rfl rfl rfl rfl rfl ?_)))))))))))))))
        refine .sg rfl rfl rfl rfl rfl rfl (.sgc rfl rfl rfl rfl rfl rfl (.m rfl rfl rfl rfl (.refl _) (.pickT rfl rfl) (.mv rfl rfl ?_)))
        refine .done ?_
        refine ⟨_, ⟨rfl, rfl, rfl, rfl, rfl, rfl, rfl, rfl, rfl, rfl, rfl, rfl, rfl, rfl, rfl, rfl, rfl, rfl, rfl, rfl, rfl, rfl, rfl, rfl, rfl, rfl, rfl, rfl, rfl, rfl, rfl, rfl, rfl, rfl, trivial⟩, rfl, ?_⟩
        rw [allN_succ, ← hb, h75, Bool.true_and]
        exact (Net.fit_2 h112).symm
       simp only [sps] at h112
       refine .mg rfl rfl rfl rfl rfl rfl (.refl _) (.move rfl) (.mg rfl rfl rfl rfl rfl rfl (.refl _) (.move rfl) ?_)
       refine .mg rfl rfl rfl rfl rfl rfl (.refl _) (.idx1 sl_22_A (by first | assumption | exact SlA.of_row at9007 (by first | rfl | (simp; done) | (simp <;> omega))) rfl rfl (by omega) (by omega)) ?_
       refine .mg rfl rfl rfl rfl rfl rfl (.refl _) (.loadI on_2_A (by first | assumption | exact Ints.of_get at9007) rfl (by omega)) ?_
       refine .mg rfl rfl rfl rfl rfl rfl (.refl _) (.cmp rfl rfl rfl) (.m rfl rfl rfl rfl (.refl _) (.pickF rfl rfl) (.mv rfl rfl ?_))
       refine .split (fun h119 => ?_) (fun h119 => ?_)
       ·
        simp only [sps] at h119
        refine .sg rfl rfl rfl rfl rfl rfl (.sg rfl rfl rfl rfl rfl rfl (.sg rfl rfl rfl rfl rfl rfl (.sg rfl rfl rfl rfl rfl rfl (.sg rfl rfl rfl rfl rfl rfl (.sg rfl rfl rfl rfl rfl rfl (.sg rfl rfl rfl rfl rfl rfl (.sg rfl rfl rfl rfl rfl rfl (.sg rfl rfl rfl rfl rfl rfl (.sg rfl rfl rfl rfl rfl rfl (.sgc rfl rfl rfl rfl rfl rfl (.m rfl rfl rfl rfl (.refl _) (.pickT rfl rfl) (.mv rfl rfl ?_))))))))))))
        refine .done ?_
        refine ⟨_, ⟨rfl, rfl, rfl, rfl, rfl, rfl, rfl, rfl, rfl, rfl, rfl, rfl, rfl, rfl, rfl, rfl, rfl, rfl, rfl, rfl, rfl, rfl, rfl, rfl, rfl, rfl, rfl, rfl, rfl, rfl, rfl, rfl, rfl, rfl, trivial⟩, rfl, ?_⟩
        rw [allN_succ, ← hb, h75, Bool.true_and]
        exact (Net.fit_3 h119).symm
       simp only [sps] at h119
       refine .mg rfl rfl rfl rfl rfl rfl (.refl _) (.move rfl) (.mg rfl rfl rfl rfl rfl rfl (.refl _) (.nilCheck rfl) (.mg rfl rfl rfl rfl rfl rfl (.refl _) (.fieldAddr fo_177_0_Ha rfl) ?_))
       refine .mg rfl rfl rfl rfl rfl rfl (.refl _) (.loadM ag_33_E rfl (by assumption)) ?_
       refine .mg rfl rfl rfl rfl rfl rfl (.refl _) (.move rfl) (.mg rfl rfl rfl rfl rfl rfl (.refl _) (.nilCheck rfl) (.mg rfl rfl rfl rfl rfl rfl (.refl _) (.fieldAddr fo_177_1_Ha rfl) ?_))
       refine .mg rfl rfl rfl rfl rfl rfl (.refl _) (.loadM ag_33_E rfl (by assumption)) ?_
       refine .mg rfl rfl rfl rfl rfl rfl (.refl _) (.move rfl) (.mg rfl rfl rfl rfl rfl rfl (.refl _) (.move rfl) ?_)
       have hcc := l07SquareP_c (iso := iso) (n := co.length) (hin := hif) (hin' := hig) (SlA.of_ints at9007 hls) hP (by omega) (a := a) (by omega) ⟨by omega, by omega⟩ ⟨by omega, by omega⟩
       refine .callQ0g rfl rfl rfl rfl rfl rfl rfl @Try.call154 rfl (hcc) ?_
       refine .m rfl rfl rfl rfl (.refl _) (.pickF rfl rfl) (.mv rfl rfl ?_)
       refine .done ?_
       refine ⟨_, ⟨rfl, rfl, rfl, rfl, rfl, rfl, rfl, rfl, rfl, rfl, rfl, rfl, rfl, rfl, rfl, rfl, rfl, rfl, rfl, rfl, rfl, rfl, rfl, rfl, rfl, rfl, rfl, rfl, rfl, rfl, rfl, rfl, rfl, rfl, trivial⟩, rfl, ?_⟩
       rw [allN_succ, ← hb, h75, Bool.true_and]
       exact (Net.fit_4 (.inr (by show (f.s.tgt.getD a 0).toNat = x; omega)) (Int.not_lt.2 h112) (Int.not_lt.2 h119)).symm
      simp only [sps] at h100
      refine .sg rfl rfl rfl rfl rfl rfl (.sg rfl rfl rfl rfl rfl rfl (.sg rfl rfl rfl rfl rfl rfl (.m rfl rfl rfl rfl (.refl _) (.pickF rfl rfl) (.mv rfl rfl (.mg rfl rfl rfl rfl rfl rfl (.refl _) (.move rfl) (.mg rfl rfl rfl rfl rfl rfl (.refl _) (.move rfl) ?_))))))
      refine .mg rfl rfl rfl rfl rfl rfl (.refl _) (.idx1 sl_22_A (by first | assumption | exact SlA.of_row at9007 (by first | rfl | (simp; done) | (simp <;> omega))) rfl rfl (by omega) (by omega)) ?_
      refine .mg rfl rfl rfl rfl rfl rfl (.refl _) (.loadI on_2_A (by first | assumption | exact Ints.of_get at9007) rfl (by omega)) ?_
      refine .mg rfl rfl rfl rfl rfl rfl (.refl _) (.cmp rfl rfl rfl) (.m rfl rfl rfl rfl (.refl _) (.pickF rfl rfl) (.mv rfl rfl ?_))
      refine .split (fun h112 => ?_) (fun h112 => ?_)
      ·
       simp only [sps] at h112
       refine .sg rfl rfl rfl rfl rfl rfl (.sg rfl rfl rfl rfl rfl rfl (.sg rfl rfl rfl rfl rfl rfl (.sg rfl rfl rfl rfl rfl rfl (.sg rfl rfl rfl rfl rfl rfl (.m rfl rfl rfl rfl (.refl _) (.pickT rfl rfl) (.mv rfl rfl (.sg rfl rfl rfl rfl rfl rfl (.sg rfl rfl rfl rfl rfl rfl (.sg rfl rfl rfl rfl rfl rfl (.sg rfl rfl rfl rfl rfl rfl (.sg rfl rfl rfl rfl rfl rfl (.sg rfl rfl rfl rfl rfl rfl (.sg rfl rfl rfl rfl rfl rfl (.sg rfl rfl rfl rfl rfl rfl (.sg rfl rfl rfl rfl rfl rfl ?_)))))))))))))))
       refine .sg rfl rfl rfl rfl rfl rfl (.sgc rfl rfl rfl rfl rfl rfl (.m rfl rfl rfl rfl (.refl _) (.pickT rfl rfl) (.mv rfl rfl ?_)))
       refine .done ?_
       refine ⟨_, ⟨rfl, rfl, rfl, rfl, rfl, rfl, rfl, rfl, rfl, rfl, rfl, rfl, rfl, rfl, rfl, rfl, rfl, rfl, rfl, rfl, rfl, rfl, rfl, rfl, rfl, rfl, rfl, rfl, rfl, rfl, rfl, rfl, rfl, rfl, trivial⟩, rfl, ?_⟩
       rw [allN_succ, ← hb, h75, Bool.true_and]
       exact (Net.fit_2 h112).symm
      simp only [sps] at h112
      refine .mg rfl rfl rfl rfl rfl rfl (.refl _) (.move rfl) (.mg rfl rfl rfl rfl rfl rfl (.refl _) (.move rfl) ?_)
      refine .mg rfl rfl rfl rfl rfl rfl (.refl _) (.idx1 sl_22_A (by first | assumption | exact SlA.of_row at9007 (by first | rfl | (simp; done) | (simp <;> omega))) rfl rfl (by omega) (by omega)) ?_
      refine .mg rfl rfl rfl rfl rfl rfl (.refl _) (.loadI on_2_A (by first | assumption | exact Ints.of_get at9007) rfl (by omega)) ?_
      refine .mg rfl rfl rfl rfl rfl rfl (.refl _) (.cmp rfl rfl rfl) (.m rfl rfl rfl rfl (.refl _) (.pickF rfl rfl) (.mv rfl rfl ?_))
      refine .split (fun h119 => ?_) (fun h119 => ?_)
      ·
       simp only [sps] at h119
       refine .sg rfl rfl rfl rfl rfl rfl (.sg rfl rfl rfl rfl rfl rfl (.sg rfl rfl rfl rfl rfl rfl (.sg rfl rfl rfl rfl rfl rfl (.sg rfl rfl rfl rfl rfl rfl (.sg rfl rfl rfl rfl rfl rfl (.sg rfl rfl rfl rfl rfl rfl (.sg rfl rfl rfl rfl rfl rfl (.sg rfl rfl rfl rfl rfl rfl (.sg rfl rfl rfl rfl rfl rfl (.sgc rfl rfl rfl rfl rfl rfl (.m rfl rfl rfl rfl (.refl _) (.pickT rfl rfl) (.mv rfl rfl ?_))))))))))))
       refine .done ?_
       refine ⟨_, ⟨rfl, rfl, rfl, rfl, rfl, rfl, rfl, rfl, rfl, rfl, rfl, rfl, rfl, rfl, rfl, rfl, rfl, rfl, rfl, rfl, rfl, rfl, rfl, rfl, rfl, rfl, rfl, rfl, rfl, rfl, rfl, rfl, rfl, rfl, trivial⟩, rfl, ?_⟩
       rw [allN_succ, ← hb, h75, Bool.true_and]
       exact (Net.fit_3 h119).symm
      simp only [sps] at h119
      refine .mg rfl rfl rfl rfl rfl rfl (.refl _) (.move rfl) (.mg rfl rfl rfl rfl rfl rfl (.refl _) (.nilCheck rfl) (.mg rfl rfl rfl rfl rfl rfl (.refl _) (.fieldAddr fo_177_0_Ha rfl) ?_))
      refine .mg rfl rfl rfl rfl rfl rfl (.refl _) (.loadM ag_33_E rfl (by assumption)) ?_
      refine .mg rfl rfl rfl rfl rfl rfl (.refl _) (.move rfl) (.mg rfl rfl rfl rfl rfl rfl (.refl _) (.nilCheck rfl) (.mg rfl rfl rfl rfl rfl rfl (.refl _) (.fieldAddr fo_177_1_Ha rfl) ?_))
      refine .mg rfl rfl rfl rfl rfl rfl (.refl _) (.loadM ag_33_E rfl (by assumption)) ?_
      refine .mg rfl rfl rfl rfl rfl rfl (.refl _) (.move rfl) (.mg rfl rfl rfl rfl rfl rfl (.refl _) (.move rfl) ?_)
      have hcc := l07SquareP_c (iso := iso) (n := co.length) (hin := hif) (hin' := hig) (SlA.of_ints at9007 hls) hP (by omega) (a := a) (by omega) ⟨by omega, by omega⟩ ⟨by omega, by omega⟩
      refine .callQ0g rfl rfl rfl rfl rfl rfl rfl @Try.call154 rfl (hcc) ?_
      refine .m rfl rfl rfl rfl (.refl _) (.pickF rfl rfl) (.mv rfl rfl ?_)
      refine .done ?_
      refine ⟨_, ⟨rfl, rfl, rfl, rfl, rfl, rfl, rfl, rfl, rfl, rfl, rfl, rfl, rfl, rfl, rfl, rfl, rfl, rfl, rfl, rfl, rfl, rfl, rfl, rfl, rfl, rfl, rfl, rfl, rfl, rfl, rfl, rfl, rfl, rfl, trivial⟩, rfl, ?_⟩
      rw [allN_succ, ← hb, h75, Bool.true_and]
      exact (Net.fit_4 (.inl (by show (f.s.src.getD a 0).toNat = x; omega)) (Int.not_lt.2 h112) (Int.not_lt.2 h119)).symm
     rintro frJ15 _ ⟨b', hsubJ15, rfl, hJ15⟩
     refine hK19 _ _ ?_
     refine .forget hsubJ15 ?_
     refine .region (.mv rfl ?_)
     refine .m rfl rfl rfl (.add rfl rfl rfl (by omega) (by omega)) ?_
     refine .mv rfl (.nil ?_)
     refine hKL2 ((a + 1, b')) _ _ ?_ ?_ ⟨rfl, rfl, rfl, rfl, rfl, rfl, rfl, rfl, rfl, rfl, rfl, trivial⟩
     ·
      refine ⟨rfl, ?_⟩
      exact ⟨by omega, hJ15⟩
     (dsimp only; omega)
    try simp only [sps] at h84
    refine .exit ?_
    refine hK15 _ _ (.seq (fun K21 hK21 => .region ?_))
    have hfit : b = (f.net k iso).fits (co.set x ((f.t.hom (f.ob.getD x 0) (k.ob.getD x 0)).getD j 0)) x := by
      rw [Net.fits_eq]
      cases hbb : b with
      | false => exact (allN_early (hb.symm.trans hbb) (show a ≤ f.ar.length by omega)).symm
      | true =>
        first
        | exact absurd hbb h75
        | exact absurd (show true = false from hbb.symm.trans h75) Bool.noConfusion
        | (obtain rfl : a = f.ar.length := by omega
           exact hbb.symm.trans hb)
    refine .mv rfl (.nil (hK21 _ _ ?_))
    refine .cond rfl (fun h132 => ?_) (fun h132 => ?_)
    ·
     have hP1 := (hgo.trans hfit.symm).trans h132
     refine .region (.mv rfl (.mv rfl (.mv rfl ?_)))
     refine .m rfl rfl rfl (.idxN sl_22_A (by first | assumption | exact SlA.of_row at44 (by first | rfl | (simp; done) | (simp <;> omega))) rfl rfl (by omega)) ?_
     refine .m rfl rfl rfl (.loadI on_2_A (by first | assumption | exact Ints.of_get at44) rfl (by omega)) ?_
     refine .r rfl rfl rfl (.litR rfl sl_22_A ze_2_E rfl rfl (by omega) (by omega) rfl rfl) ?_
     rintro _ H138 ⟨g138, rfl, le138, ge138, at138⟩
     replace hle := hle.trans le138
     replace lst1 := lst1.le le138
     replace at7 := le138.2 _ _ at7
     replace at8 := le138.2 _ _ at8
     replace at_L10 := le138.2 _ _ at_L10
     have lt_at138 := GHeap.ltg at138
     replace hS := base_hS.mono hle
     replace hin := base_hin.mono hle
     replace hin1 := base_hin1.mono hle
     clear hF hG c11f hmf hif hmg hig
     have hF : Fun.At _ gs (0 + 0) f p := ⟨hS.left, hin⟩
     have hG : Fun.At _ gs (0 + 12) k q := ⟨(hS.right (n := 12) rfl).left, hin1⟩
     clear hb7 c17 c27 i17 i27
     have hb7 : Cat.At _ g7 0 f.s p.s := ⟨Mem.of_get at7, hin.1⟩
     clear hb8
     have hb8 : Cat.At _ g8 0 f.t p.t := ⟨Mem.of_get at8, hin.2.1⟩
     clear i44
     refine .r rfl rfl rfl (.appendI rfl sl_22_A ze_2_E rfl by_2_E sl_22_A rfl rfl (by assumption) (by assumption) (by first | omega | (simp <;> omega)) (by omega) (by omega)) ?_
     rintro _ H139 ⟨g139, rfl, st139, ge139, at139⟩
     replace hle := hle.st st139 (fun k hk => ⟨by omega, trivial⟩)
     replace lst1 := lst1.st st139 (fun k hk ho => by simp only [out, and_true] at ho ⊢ <;> first | exact ho | exact ho.1 | exact ho.2 | exact ho.2.1 | exact ho.2.2 | exact ho.2.2.1 | exact ho.2.2.2 | omega)
     have ne_g7_gL10 : NE g7 gL10 := ⟨by first | assumption | omega⟩
     replace at7 := st139.same _ _ ⟨ne_g7_gL10.ne, trivial⟩ at7
     have ne_g8_gL10 : NE g8 gL10 := ⟨by first | assumption | omega⟩
     replace at8 := st139.same _ _ ⟨ne_g8_gL10.ne, trivial⟩ at8
     replace hS := base_hS.mono hle
     replace hin := base_hin.mono hle
     replace hin1 := base_hin1.mono hle
     clear hF hG
     have hF : Fun.At _ gs (0 + 0) f p := ⟨hS.left, hin⟩
     have hG : Fun.At _ gs (0 + 12) k q := ⟨(hS.right (n := 12) rfl).left, hin1⟩
     clear hb7
     have hb7 : Cat.At _ g7 0 f.s p.s := ⟨Mem.of_get at7, hin.1⟩
     clear hb8
     have hb8 : Cat.At _ g8 0 f.t p.t := ⟨Mem.of_get at8, hin.2.1⟩
     refine .mv rfl (.nil (hK9 _ _ (.region (.mv rfl ?_))))
     refine .m rfl rfl rfl (.add rfl rfl rfl (by omega) (by omega)) ?_
     refine .mv rfl (.nil ?_)
     refine hKL1 ((j + 1, _, _)) _ _ ?_ ?_ ⟨rfl, rfl, rfl, rfl, rfl, rfl, rfl, rfl, trivial⟩
     ·
      refine ⟨lst1, by (rw [filtTake_T (by omega) hP1]; assumption), by omega, by (rw [filtTake_T (by omega) hP1] <;> (first | omega | (simp only [List.length_append, List.length_cons, List.length_nil] <;> omega))), ?_⟩
      omega
     (dsimp only; omega)
    have hP1 := (hgo.trans hfit.symm).trans (by simpa using h132)
    refine .skip ?_
    refine hK9 _ _ (.region (.mv rfl ?_))
    refine .m rfl rfl rfl (.add rfl rfl rfl (by omega) (by omega)) ?_
    refine .mv rfl (.nil ?_)
    refine hKL1 ((j + 1, _, _)) _ _ ?_ ?_ ⟨rfl, rfl, rfl, rfl, rfl, rfl, rfl, rfl, trivial⟩
    ·
     refine ⟨lst1, by (rw [filtTake_F (by omega) hP1]; assumption), by omega, by (rw [filtTake_F (by omega) hP1] <;> (first | omega | (simp only [List.length_append, List.length_cons, List.length_nil] <;> omega))), ?_⟩
     omega
    (dsimp only; omega)
   refine .sg rfl rfl rfl rfl rfl (.sg rfl rfl rfl rfl rfl (.sg rfl rfl rfl rfl rfl (.sg rfl rfl rfl rfl rfl (.sg rfl rfl rfl rfl rfl (.sg rfl rfl rfl rfl rfl (.sg rfl rfl rfl rfl rfl (.sg rfl rfl rfl rfl rfl (.m rfl rfl rfl (.pickF rfl rfl) (.nil (hK18 _ _ ?_))))))))))
   refine .condF rfl ?_
   refine .exit ?_
   refine hK15 _ _ (.seq (fun K22 hK22 => .region ?_))
   have hfit : b = (f.net k iso).fits (co.set x ((f.t.hom (f.ob.getD x 0) (k.ob.getD x 0)).getD j 0)) x := by
     rw [Net.fits_eq]
     cases hbb : b with
     | false => exact (allN_early (hb.symm.trans hbb) (show a ≤ f.ar.length by omega)).symm
     | true =>
       first
       | exact absurd hbb h75
       | exact absurd (show true = false from hbb.symm.trans h75) Bool.noConfusion
       | (obtain rfl : a = f.ar.length := by omega
          exact hbb.symm.trans hb)
   refine .mv rfl (.nil (hK22 _ _ ?_))
   refine .cond rfl (fun h132 => ?_) (fun h132 => ?_)
   ·
    have hP1 := (hgo.trans hfit.symm).trans h132
    refine .region (.mv rfl (.mv rfl (.mv rfl ?_)))
    refine .m rfl rfl rfl (.idxN sl_22_A (by first | assumption | exact SlA.of_row at44 (by first | rfl | (simp; done) | (simp <;> omega))) rfl rfl (by omega)) ?_
    refine .m rfl rfl rfl (.loadI on_2_A (by first | assumption | exact Ints.of_get at44) rfl (by omega)) ?_
    refine .r rfl rfl rfl (.litR rfl sl_22_A ze_2_E rfl rfl (by omega) (by omega) rfl rfl) ?_
    rintro _ H138x2 ⟨g138x2, rfl, le138x2, ge138x2, at138x2⟩
    replace hle := hle.trans le138x2
    replace lst1 := lst1.le le138x2
    replace at7 := le138x2.2 _ _ at7
    replace at8 := le138x2.2 _ _ at8
    replace at_L10 := le138x2.2 _ _ at_L10
    have lt_at138x2 := GHeap.ltg at138x2
    replace hS := base_hS.mono hle
    replace hin := base_hin.mono hle
    replace hin1 := base_hin1.mono hle
    have hF : Fun.At _ gs (0 + 0) f p := ⟨hS.left, hin⟩
    have hG : Fun.At _ gs (0 + 12) k q := ⟨(hS.right (n := 12) rfl).left, hin1⟩
    have hb7 : Cat.At _ g7 0 f.s p.s := ⟨Mem.of_get at7, hin.1⟩
    have hb8 : Cat.At _ g8 0 f.t p.t := ⟨Mem.of_get at8, hin.2.1⟩
    refine .r rfl rfl rfl (.appendI rfl sl_22_A ze_2_E rfl by_2_E sl_22_A rfl rfl (by assumption) (by assumption) (by first | omega | (simp <;> omega)) (by omega) (by omega)) ?_
    rintro _ H139x2 ⟨g139x2, rfl, st139x2, ge139x2, at139x2⟩
    replace hle := hle.st st139x2 (fun k hk => ⟨by omega, trivial⟩)
    replace lst1 := lst1.st st139x2 (fun k hk ho => by simp only [out, and_true] at ho ⊢ <;> first | exact ho | exact ho.1 | exact ho.2 | exact ho.2.1 | exact ho.2.2 | exact ho.2.2.1 | exact ho.2.2.2 | omega)
    have ne_g7_gL10 : NE g7 gL10 := ⟨by first | assumption | omega⟩
    replace at7 := st139x2.same _ _ ⟨ne_g7_gL10.ne, trivial⟩ at7
    have ne_g8_gL10 : NE g8 gL10 := ⟨by first | assumption | omega⟩
    replace at8 := st139x2.same _ _ ⟨ne_g8_gL10.ne, trivial⟩ at8
    replace hS := base_hS.mono hle
    replace hin := base_hin.mono hle
    replace hin1 := base_hin1.mono hle
    clear hF hG
    have hF : Fun.At _ gs (0 + 0) f p := ⟨hS.left, hin⟩
    have hG : Fun.At _ gs (0 + 12) k q := ⟨(hS.right (n := 12) rfl).left, hin1⟩
    clear hb7
    have hb7 : Cat.At _ g7 0 f.s p.s := ⟨Mem.of_get at7, hin.1⟩
    clear hb8
    have hb8 : Cat.At _ g8 0 f.t p.t := ⟨Mem.of_get at8, hin.2.1⟩
    refine .mv rfl (.nil (hK9 _ _ (.region (.mv rfl ?_))))
    refine .m rfl rfl rfl (.add rfl rfl rfl (by omega) (by omega)) ?_
    refine .mv rfl (.nil ?_)
    refine hKL1 ((j + 1, _, _)) _ _ ?_ ?_ ⟨rfl, rfl, rfl, rfl, rfl, rfl, rfl, rfl, trivial⟩
    ·
     refine ⟨lst1, by (rw [filtTake_T (by omega) hP1]; assumption), by omega, by (rw [filtTake_T (by omega) hP1] <;> (first | omega | (simp only [List.length_append, List.length_cons, List.length_nil] <;> omega))), ?_⟩
     omega
    (dsimp only; omega)
   have hP1 := (hgo.trans hfit.symm).trans (by simpa using h132)
   refine .skip ?_
   refine hK9 _ _ (.region (.mv rfl ?_))
   refine .m rfl rfl rfl (.add rfl rfl rfl (by omega) (by omega)) ?_
   refine .mv rfl (.nil ?_)
   refine hKL1 ((j + 1, _, _)) _ _ ?_ ?_ ⟨rfl, rfl, rfl, rfl, rfl, rfl, rfl, rfl, trivial⟩
   ·
    refine ⟨lst1, by (rw [filtTake_F (by omega) hP1]; assumption), by omega, by (rw [filtTake_F (by omega) hP1] <;> (first | omega | (simp only [List.length_append, List.length_cons, List.length_nil] <;> omega))), ?_⟩
    omega
   (dsimp only; omega)
  try simp only [sps] at h49
  refine .exit ?_
  refine hK5 _ _ (.seq (fun K23 hK23 => .region (.mv rfl (.mv rfl (.nil (hK23 _ _ ?_))))))
  refine .ret ?_
  refine hret _ _ ?_
  refine ⟨_, rfl, ?_⟩
  obtain rfl : j = (f.t.hom (f.ob.getD x 0) (k.ob.getD x 0)).length := by omega
  rw [List.take_length, ← Fun.choices_eq] at at_L10 ln_L10
  exact ⟨hle, gL10, by rw [ln_L10], at_L10, by omega⟩
end Go.Proofs.Ytagkeabmdodfiaa
namespace Go.GL
def SlO (b : Nat) (H : GHeap) (a : Option Addr) (g : Nat) (cs : List Value) (e : TypeId) (k : Nat) : Prop := (a = none ∧ k = 0 ∧ cs = []) ∨ (a = some ⟨g, 0, none⟩ ∧ b ≤ g ∧ H.get g = some (.row cs e true))
theorem SlO.mono {b g k : Nat} {H H' : GHeap} {a : Option Addr} {cs : List Value} {e : TypeId} (h : SlO b H a g cs e k) (s : H.Le H') : SlO b H' a g cs e k := h.imp id fun ⟨h1, h2, h3⟩ => ⟨h1, h2, s.2 _ _ h3⟩
theorem SlO.st {b g k : Nat} {bs : List Nat} {H H' : GHeap} {a : Option Addr} {cs : List Value} {e : TypeId} (h : SlO b H a g cs e k) (s : St bs H H') (ho : out bs g) : SlO b H' a g cs e k := h.imp id fun ⟨h1, h2, h3⟩ => ⟨h1, h2, s.same _ _ ho h3⟩
section
variable {P : Program} {o : Oper} {fr : Slots} {H : GHeap}
theorem CDo.appendVO {t tx e e' : TypeId} {s x : Operand} {a : Option Addr} {b g g1 n sz bytes : Nat} {z cs vs : List Value} (ho : o.op = .call { callee := .builtin .append, args := #[s, x], argTypes := #[t, tx] }) (ht : sliceT P t = some (e, sz)) (hz : zeroT P e = some (z, sz)) (hzn : z.length = sz)
    (hb : (P.info? e).map (·.bytes) = some bytes) (htx : sliceT P tx = some (e', sz)) (hsv : ev fr s = some (.slice a n n)) (hx : ev fr x = some (.slice (some ⟨g1, 0, none⟩) 1 1)) (hA : SlO b H a g cs e n) (hg1 : H.get g1 = some (.row vs e' true)) (hend : n * sz = cs.length)
    (hs0 : 0 < sz) (hv : vs.length = sz) (hone : vs.all (·.oneCell') = true) (hN : n + 1 ≤ 16777216) (hB : (n + 1) * bytes ≤ 140737488355328) :
    CDo P o fr H (fun r H' => ∃ g', r = some (.slice (some ⟨g', 0, none⟩) (n + 1) (n + 1)) ∧ St [g] H H' ∧ H.next ≤ g' ∧ H'.get g' = some (.row (cs ++ vs) e true)) := by
  have hsrc : SrcG P fr H sz tx x 1 vs := .slice htx hx (by omega) (fun i v hv => by rw [GHeap.cell_of hg1, Nat.zero_add]; exact hv) (fun v hv => List.all_eq_true.1 hone v hv)
  rcases hA with ⟨rfl, rfl, rfl⟩ | ⟨rfl, h1, h2⟩
  · exact .appendNil ho ht hz hzn hb hsv hsrc (by omega) (by unfold maxLen; omega) (by omega) ⟨_, rfl, .push (.refl _ _), Nat.le_refl _, GHeap.get_push_new _ _⟩
  · exact .appendR (cs := cs) (news := vs) ho ht hz hzn hb hsv h2 (by omega) hsrc hN hB
end
structure FoundAt (T e e' : TypeId) (b : Nat) (H : GHeap) (gs gF : Nat) (f : Fun) (p : FunP) (k : Fun) (q : FunP) (iso : Bool) (M : Nat) (fs : List (List Int)) : Prop where
  ex : ∃ a r, H.get gs = some (.row (stCells f p k q iso (M : Int) a fs.length) T true) ∧ SlO b H a gF (slsL r fs) e fs.length ∧ OwnL b H e' r fs
theorem OwnL.mono {b : Nat} {H H' : GHeap} {e : TypeId} {r : Nat → Option Addr} {xss : List (List Int)} (h : OwnL b H e r xss) (s : H.Le H') : OwnL b H' e r xss := h.keep fun x xs hx => s.2 x _ hx
theorem FoundAt.mono {T e e' : TypeId} {b gs gF : Nat} {H H' : GHeap} {f k : Fun} {p q : FunP} {iso : Bool} {M : Nat} {fs : List (List Int)} (h : FoundAt T e e' b H gs gF f p k q iso M fs) (s : H.Le H') : FoundAt T e e' b H' gs gF f p k q iso M fs := by
  obtain ⟨a, r, h1, h2, h3⟩ := h.ex
  exact ⟨a, r, s.2 _ _ h1, h2.mono s, h3.mono s⟩
theorem St.le_of_nil {H H' : GHeap} (s : St [] H H') : H.Le H' := ⟨s.nx, fun k o hk => s.same k o trivial hk⟩
theorem take_more {α : Type} {l r : List α} {M : Nat} (h : (l.take M).length < M) : (l.take M ++ r).take M = (l ++ r).take M := by
  rw [List.length_take] at h
  rw [List.take_of_length_le (l := l) (by omega)]
theorem take_full {α : Type} {l r : List α} {M : Nat} (h : ¬ (l.take M).length < M) : (l ++ r).take M = l.take M := by
  rw [List.length_take] at h
  exact List.take_append_of_le_length (by omega)
theorem take_less {α : Type} {l : List α} {M : Nat} (h : l.length < M) : (l ++ []).take M = l := by rw [List.append_nil]; exact List.take_of_length_le (by omega)
theorem take_one {α : Type} {l : List α} {x : α} {M : Nat} (h : l.length < M) : (l ++ [x]).take M = l ++ [x] := List.take_of_length_le (by simp; omega)
structure SeenU (n : Net) (co : List Int) (y : Nat) (x : Int) : Prop where
  fst : (x = -1 ∧ ∀ j, y ≤ j → j < co.length → ¬ co.getD j 0 = -1) ∨ (∃ m : Nat, x = m ∧ y ≤ m ∧ m < co.length ∧ co.getD m 0 = -1 ∧ ∀ j, y ≤ j → j < m → ¬ co.getD j 0 = -1)
  cho : ∀ j, y ≤ j → j < co.length → co.getD j 0 = -1 → n.choices co j ≠ []
theorem SeenU.start (n : Net) (co : List Int) : SeenU n co co.length (-1) := ⟨.inl ⟨rfl, fun j h1 h2 => by omega⟩, fun j h1 h2 => by omega⟩
theorem SeenU.hit {n : Net} {co : List Int} {y : Nat} {x : Int} (h : SeenU n co (y + 1) x) (hy : y < co.length) (hu : co.getD y 0 = -1) (hc : ¬ (n.choices co y).length = 0) : SeenU n co y y :=
  ⟨.inr ⟨y, rfl, Nat.le_refl _, hy, hu, fun j h1 h2 => by omega⟩, fun j h1 h2 h3 => by
    by_cases e : j = y
    · subst e; intro hn; rw [hn] at hc; exact hc rfl
    · exact h.cho j (by omega) h2 h3⟩
theorem SeenU.miss {n : Net} {co : List Int} {y : Nat} {x : Int} (h : SeenU n co (y + 1) x) (hu : ¬ co.getD y 0 = -1) : SeenU n co y x := by
  have hj : ∀ j, y ≤ j → (j = y ∨ y + 1 ≤ j) := fun j hj => by omega
  refine ⟨?_, fun j h1 h2 h3 => ?_⟩
  · rcases h.fst with ⟨h1, h2⟩ | ⟨m, h1, h2, h3, h4, h5⟩
    · refine .inl ⟨h1, fun j k1 k2 => ?_⟩
      rcases hj j k1 with e | e
      · subst e; exact hu
      · exact h2 j e k2
    · refine .inr ⟨m, h1, by omega, h3, h4, fun j k1 k2 => ?_⟩
      rcases hj j k1 with e | e
      · subst e; exact hu
      · exact h5 j e k2
  · rcases hj j h1 with e | e
    · subst e; exact absurd h3 hu
    · exact h.cho j e h2 h3
theorem SeenU.none {n : Net} {co : List Int} {x : Int} (h : SeenU n co 0 x) (hx : x < 0) (hc : ∀ x, ∀ h ∈ n.cand x, 0 ≤ h) : n.go co = [co] := by
  rcases h.fst with ⟨_, h2⟩ | ⟨m, h1, _⟩
  · rw [Net.go_eq hc, firstU_no fun j hj => h2 j (Nat.zero_le _) hj]
  · omega
theorem SeenU.some {n : Net} {co : List Int} {x : Int} (h : SeenU n co 0 x) (hx : ¬ x < 0) (hc : ∀ x, ∀ h ∈ n.cand x, 0 ≤ h) : ∃ m : Nat, x = m ∧ m < co.length ∧ co.getD m 0 = -1 ∧ n.go co = (n.choices co m).flatMap fun h => n.go (co.set m h) := by
  rcases h.fst with ⟨h1, _⟩ | ⟨m, h1, _, h3, h4, h5⟩
  · omega
  · refine ⟨m, h1, h3, h4, ?_⟩
    have hs : n.stuck co = false := by
      rw [← Bool.not_eq_true, Net.stuck_iff]
      rintro ⟨y, y1, y2, y3⟩
      exact h.cho y (Nat.zero_le _) y1 y2 y3
    rw [Net.go_eq hc, firstU_of h3 h4 fun j hj => h5 j (Nat.zero_le _) hj]
    simp only [hs, cond_false]
theorem Net.go_stuck {n : Net} {co : List Int} {y : Nat} (hy : y < co.length) (hu : co.getD y 0 = -1) (h : (n.choices co y).length = 0) (hc : ∀ x, ∀ h ∈ n.cand x, 0 ≤ h) : n.go co = [] := by
  have hs : n.stuck co = true := Net.stuck_iff.2 ⟨y, hy, hu, List.eq_nil_of_length_eq_zero h⟩
  rw [Net.go_eq hc]
  cases e : firstU co with
  | none => exact absurd hu (firstU_none e y hy)
  | some x => simp only [hs, cond_true]
theorem GT.regionDB {P : Program} {N : Nat} {Q : Exit → Slots → GHeap → Prop} {fr : Slots} {Hb H : GHeap} {id : Nat} {ops : Array Oper} (hm : P.follows .mixedOrders = true) (t : Tree) (hok : (ctxOf ops).ok [] false t = true) (hb : Hb.Le H) (h : GTree P N ops (fun fr' H' => Q .normal fr' H') t fr Hb H) :
    GT P N (.region id ops true) Q fr H := fun B w0 ρ a w hs hf => by
  refine wp_region_any hm ?_
  refine tree_sound (ρ0 := ρ) (fun ρ' fr' H' a' w' hQ he hs' hf' => ⟨ρ', fr', H', hQ, he, hs', hf'⟩) ops.size t [] fr Hb H ρ _ a _ ⟨hok, h, hb, .refl ρ, hs.drew, hf.1, hf.2.1, by simp, fun i hi => ?_, fun i hi => ?_, .nil, (fun i hi => by cases hi), (fun i hi => by cases hi), fun s v hv _ => hf.2.2 s v hv, (fun j hj => by cases hj)⟩ ?_
  · unfold lis at hi
    simp [Array.getD_eq_getD_getElem?, Array.getElem?_replicate] at hi
    split at hi <;> simp at hi
  · unfold lis at hi
    simp [Array.getD_eq_getD_getElem?, Array.getElem?_replicate] at hi
    split at hi <;> simp at hi
  · unfold left
    exact Nat.le_trans (List.length_filter_le _ _) (by simp)
theorem GHeap.get_erase {H : GHeap} {g k : Nat} {o : GObj} (h : (H.set g none).get k = some o) : k ≠ g ∧ H.get k = some o := by
  by_cases e : g = k
  · subst e
    by_cases hl : g < H.next
    · rw [GHeap.get_set_eq hl] at h; cases h
    · have := GHeap.ltg h
      rw [GHeap.next_set] at this
      exact absurd this hl
  · rw [GHeap.get_set_ne e] at h
    exact ⟨Ne.symm e, h⟩
theorem GHeap.le_erase (H : GHeap) (g : Nat) : (H.set g none).Le H := ⟨by rw [GHeap.next_set]; exact Nat.le_refl _, fun _ _ h => (GHeap.get_erase h).2⟩
theorem GHeap.Le.erase_st {H0 H1 H2 : GHeap} {g : Nat} (h : (H0.set g none).Le H1) (s : St [g] H1 H2) : (H0.set g none).Le H2 := ⟨Nat.le_trans h.1 s.nx, fun k o hk => s.same k o ⟨(GHeap.get_erase hk).1, trivial⟩ (h.2 k o hk)⟩
theorem GHeap.get_erase_of {H : GHeap} {g k : Nat} {o : GObj} (h : H.get k = some o) (hk : k ≠ g) : (H.set g none).get k = some o := by rw [GHeap.get_set_ne (Ne.symm hk)]; exact h
theorem SlO.neR {b gF : Nat} {H : GHeap} {a : Option Addr} {cs : List Value} {e e' : TypeId} {r : Nat → Option Addr} {fs : List (List Int)} (h : SlO b H a gF cs e fs.length) (ho : OwnL b H e' r fs) (hne : (e' != e) = true) : ∀ i, i < fs.length → r i ≠ some ⟨gF, 0, none⟩ := by
  rcases h with ⟨_, h, _⟩ | ⟨_, _, h⟩
  · intro i hi; omega
  · exact ho.neT h hne
theorem foldG_more {α β : Type} {fs : List β} {C : List α} {G : α → List β} {k M : Nat} {d : α} (hk : k < C.length) (h : ((fs ++ (C.take k).flatMap G).take M).length < M) : ((fs ++ (C.take k).flatMap G).take M ++ G (C.getD k d)).take M = (fs ++ (C.take (k + 1)).flatMap G).take M := by
  have e : (C.take (k + 1)).flatMap G = (C.take k).flatMap G ++ G (C.getD k d) := by
    rw [List.take_add_one, List.getElem?_eq_getElem hk, List.flatMap_append, List.getD_eq_getElem?_getD, List.getElem?_eq_getElem hk]
    simp
  rw [take_more h, e, List.append_assoc]
theorem foldG_done {α β : Type} {fs : List β} {C : List α} {G : α → List β} {k M : Nat} (h : k = C.length ∨ ¬ ((fs ++ (C.take k).flatMap G).take M).length < M) : (fs ++ (C.take k).flatMap G).take M = (fs ++ C.flatMap G).take M := by
  rcases h with h | h
  · subst h; rw [List.take_length]
  · have e : C.flatMap G = (C.take k).flatMap G ++ (C.drop k).flatMap G := by rw [← List.flatMap_append, List.take_append_drop]
    rw [e, ← List.append_assoc, take_full h]
theorem rangeS {α : Type} {f : Nat → α} {n : Nat} : (List.range (n + 1)).map f = (List.range n).map f ++ [f n] := by rw [List.range_succ, List.map_append]; rfl
def Cat.endL (c : Cat) (n : Nat) : List (List Int) := (List.range n).map fun a => [c.src.getD a 0, c.tgt.getD a 0]
@[simp] theorem Cat.length_endL (c : Cat) (n : Nat) : (c.endL n).length = n := by simp [endL]
theorem Cat.endL_succ {c : Cat} {n : Nat} : c.endL (n + 1) = c.endL n ++ [[c.src.getD n 0, c.tgt.getD n 0]] := rangeS
theorem Cat.endL_get {c : Cat} {n i : Nat} (h : i < n) : (c.endL n).getD i [] = [c.src.getD i 0, c.tgt.getD i 0] := by simp [endL, List.getD_eq_getElem?_getD, h]
def startL (cls : List Int) (x y : Nat) : List Int := (List.range y).map fun i => if cls.getD i 0 = (x : Int) then -1 else -2
@[simp] theorem length_startL (cls : List Int) (x y : Nat) : (startL cls x y).length = y := by simp [startL]
theorem startL_T {cls : List Int} {x y : Nat} (h : cls.getD y 0 = (x : Int)) : startL cls x (y + 1) = startL cls x y ++ [-1] := by unfold startL; rw [rangeS, if_pos h]
theorem startL_F {cls : List Int} {x y : Nat} (h : ¬ cls.getD y 0 = (x : Int)) : startL cls x (y + 1) = startL cls x y ++ [-2] := by unfold startL; rw [rangeS, if_neg h]
theorem startL_get {cls : List Int} {x n y : Nat} (h : y < n) : (startL cls x n).getD y 0 = -1 ∨ (startL cls x n).getD y 0 < 0 := by
  have : (startL cls x n).getD y 0 = if cls.getD y 0 = (x : Int) then -1 else -2 := by simp [startL, List.getD_eq_getElem?_getD, h]
  rw [this]
  split
  · exact .inl rfl
  · exact .inr (by omega)
theorem Net.sols_nil {n : Net} {N x : Nat} (g : n.Good N) {cls : List Int} (h : n.go (startL cls x N) = []) : n.sols N = [] := by
  cases e : n.sols N with
  | nil => rfl
  | cons q l =>
    have hq : q ∈ n.sols N := by rw [e]; simp
    obtain ⟨h1, h2, h3⟩ := (Net.mem_sols g).1 hq
    exact absurd h (Net.go_some g h2 h3 rfl (length_startL _ _ _) fun y hy => (startL_get hy).imp id fun h => .inl h)
theorem SlO.intssr {b gF : Nat} {H : GHeap} {a : Option Addr} {e e' : TypeId} {r : Nat → Option Addr} {fs : List (List Int)} (h : SlO b H a gF (slsL r fs) e fs.length) (ho : OwnL b H e' r fs) : IntssR b H a fs r := by
  rcases h with ⟨rfl, h, _⟩ | ⟨rfl, h1, h2⟩
  · rw [List.eq_nil_of_length_eq_zero h]; exact .nil _ _ _
  · exact ho.done h2 h1
theorem take_one_nil {α : Type} {l : List α} (h : (l.take 1).length = 0) : l = [] := by
  cases l with
  | nil => rfl
  | cons a l => simp at h
theorem startL_lt {cls : List Int} {x n i m : Nat} (h : i < n) : (startL cls x n).getD i 0 < (m : Int) := by
  rcases startL_get (cls := cls) (x := x) h with h | h <;> omega
theorem repl_lt {n i m : Nat} (h : i < n) : (List.replicate n (-1 : Int)).getD i 0 < (m : Int) := by
  rw [List.getD_eq_getElem?_getD, List.getElem?_replicate, if_pos h]
  show (-1 : Int) < m
  omega
end Go.GL
namespace Go.Proofs.Ytagkeabmdodfiaa
open Go Go.GL Go.RowKit Go.Proofs
theorem fo_177_4_Hb : fieldOff Try.prog 177 4 = some 26 := by kernel_rfl
theorem fo_177_3_Hb : fieldOff Try.prog 177 3 = some 25 := by kernel_rfl
theorem on_3_Hb : oneT Try.prog 3 = true := by kernel_rfl
def GoSpec (f : Fun) (p : FunP) (k : Fun) (q : FunP) (iso : Bool) (M : Nat) (H0 : GHeap) (m : Nat) : Prop :=
  ∀ (gs gF gc b N : Nat) (co : List Int) (fs : List (List Int)) (H : GHeap), cntU co = m → H0.Le H → H0.next ≤ gs → H0.next ≤ gF → gs ≠ gF → gc ≠ gs → gc ≠ gF → gF < H.next → b ≤ H.next → H.get gc = some (.row (ints co) 2 true) → co.length = N → N = f.ob.length →
    (∀ i, i < N → co.getD i 0 < f.t.src.length) → FoundAt 177 22 2 b H gs gF f p k q iso M fs → fs.length < M →
    GCalls Try.prog 141 [.pointer (some ⟨gs, 0, none⟩), .slice (some ⟨gc, 0, none⟩) N N] H (fun _ H' => ∃ gF', (gF' = gF ∨ H.next ≤ gF') ∧ St [gs, gF] H H' ∧ gF' < H'.next ∧ FoundAt 177 22 2 b H' gs gF' f p k q iso M ((fs ++ (f.net k iso).go co).take M))
set_option maxHeartbeats 4000000 in
theorem l07Go_c {f k : Fun} {p q : FunP} {iso : Bool} {M : Nat} {H0 : GHeap} (hin : f.In H0 p) (hin1 : k.In H0 q) (hP : f.Par k) (hM : M ≤ 1048576) (m : Nat) : GoSpec f p k q iso M H0 m := by
  refine Nat.strongRecOn (motive := GoSpec f p k q iso M H0) m (fun m ih => ?_)
  intro gs gF gc b N co fs H hm hle0 n1 n2 n3 n4 n5 n6 n7 hgc hl hN hco hFA hfs
  subst hl
  obtain ⟨af, r, hst, hSl, hOw⟩ := hFA.ex
  have hpos := (hP.fi.good k iso).pos
  have hol := hP.fi.2.2.ol
  have hob := hP.fi.1.1.obj
  have hn40 := hP.fi.2.1.1.n40
  have hfl : (slsL r fs).length = fs.length := length_slsL _ _
  refine GCalls.body (N := 75) (rs := []) Try.func141 rfl rfl rfl rfl (fun Qx hret hend => ?_)
  refine .forget (fr' := [(0, some _), (1, some _)]) ⟨rfl, rfl, trivial⟩ ?_
  have lt_hst := GHeap.ltg hst
  have hfo := St.refl [gs, gF] H
  have hgr := St.refl [] H
  have hst0 := hst
  refine .seq (fun K1 hK1 => .region (.mv rfl (.nil (hK1 _ _ (.seq (fun K2 hK2 => .seq (fun K3 hK3 => .region (.mv rfl (.m rfl rfl rfl (.len sl_22_A rfl) ?_)))))))))
  refine .m rfl rfl rfl (.sub rfl rfl rfl (by omega) (by omega)) ?_
  refine .mv rfl (.nil (hK3 _ _ ?_))
  refine .block ?_
  refine .loopR (σ := Nat × Int) [(0, some _), (1, some _)] (fun (y, x) => [(5, some (.int .i64 ((y : Int) - 1))), (4, some (.int .i64 x))]) (fun (y, x) H' => St [] H H' ∧ y ≤ co.length ∧ SeenU (f.net k iso) co y x) (fun (y, x) => y) ((co.length, -1)) ⟨rfl, rfl, trivial⟩ ⟨rfl, rfl, trivial⟩ ?_ ?_
  ·
   refine ⟨.refl _ _, ?_⟩
   exact ⟨Nat.le_refl _, .start _ _⟩
  rintro ⟨y, x⟩ HL1 ⟨lst1, hI⟩ KL1 hKL1
  refine .forget (fr' := [(5, some (.int .i64 ((y : Int) - 1))), (4, some (.int .i64 x)), (0, some _), (1, some _)]) ⟨rfl, rfl, rfl, rfl, trivial⟩ ?_
  have nx_HL1 := lst1.nx
  replace hfo := hfo.st lst1 (fun k hk ho => by simp only [out, and_true] at ho ⊢ <;> first | exact ho | exact ho.1 | exact ho.2 | exact ho.2.1 | exact ho.2.2 | exact ho.2.2.1 | exact ho.2.2.2 | omega)
  replace hgr := hgr.st lst1 (fun k hk ho => by simp only [out, and_true] at ho ⊢ <;> first | exact ho | exact ho.1 | exact ho.2 | exact ho.2.1 | exact ho.2.2 | exact ho.2.2.1 | exact ho.2.2.2 | omega)
  replace hst := lst1.same _ _ trivial hst
  replace hgc := lst1.same _ _ trivial hgc
  have hz := hle0.st hfo (fun k hk => ⟨by omega, by omega, trivial⟩)
  have hi1 := hin.mono hz
  have hi2 := hin1.mono hz
  obtain ⟨hy, hU⟩ := hI
  refine .seq (fun K4 hK4 => .seq (fun K5 hK5 => .region (.mv rfl (.m rfl rfl rfl (.cmp rfl rfl rfl) (.nil (hK5 _ _ ?_))))))
  refine .cond rfl (fun h13 => ?_) (fun h13 => ?_)
  ·
   simp only [sps] at h13
   obtain ⟨y', rfl⟩ : ∃ y', y = y' + 1 := ⟨y - 1, by omega⟩
   have e8 : ((y' + 1 : Nat) : Int) - 1 = (y' : Int) := by omega
   rw [e8]
   refine .skip ?_
   refine hK4 _ _ (.seq (fun K6 hK6 => ?_))
   refine .block ?_
   refine .seq (fun K7 hK7 => .region (.mv rfl (.mv rfl ?_)))
   refine .m rfl rfl rfl (.idxN sl_22_A (by first | assumption | exact SlA.of_row hgc (by first | rfl | (simp; done) | (simp <;> omega))) rfl rfl (by omega)) ?_
   refine .m rfl rfl rfl (.loadI on_2_A (by first | assumption | exact Ints.of_get hgc) rfl (by omega)) ?_
   refine .m rfl rfl rfl (.cmp rfl rfl rfl) (.nil (hK7 _ _ ?_))
   refine .cond rfl (fun h20 => ?_) (fun h20 => ?_)
   ·
    simp only [sps] at h20
    refine .seq (fun K8 hK8 => .region (.mv rfl (.mv rfl (.nil (hK8 _ _ (.seq (fun K9 hK9 => .region (.mv rfl (.mv rfl (.mv rfl ?_))))))))))
    refine .call rfl rfl rfl rfl @Try.call150 rfl (l07Choices_c (iso := iso) (x := y') (Mem.of_get hst) hi1 hi2 (Ints.of_get hgc) hP hN (by omega) hco) ?_
    rintro _ H25 ⟨le25, g25, rfl, at25, ge25⟩
    replace hfo := hfo.le le25
    replace hgr := hgr.le le25
    replace lst1 := lst1.le le25
    have lt_at25 := GHeap.ltg at25
    clear hz hi1 hi2
    refine .m rfl rfl rfl (.len sl_22_A rfl) (.m rfl rfl rfl (.cmp rfl rfl rfl) (.nil (hK9 _ _ ?_)))
    refine .cond rfl (fun h27 => ?_) (fun h27 => ?_)
    ·
     simp only [sps] at h27
     refine .ret ?_
     refine hret _ _ ?_
     rw [Net.go_stuck (by omega) h20 (by omega) hpos, take_less hfs]
     exact ⟨gF, .inl rfl, hfo, by omega, hFA.mono hgr.le_of_nil⟩
    simp only [sps] at h27
    refine .skip ?_
    refine hK6 _ _ (.region (.mv rfl ?_))
    refine .m rfl rfl rfl (.sub (r := (y' : Int) - 1) rfl rfl (by omega) (by omega) (by omega)) ?_
    refine .mv rfl (.nil ?_)
    refine hKL1 ((y', _)) _ _ ?_ ?_ ⟨rfl, rfl, rfl, rfl, trivial⟩
    ·
     refine ⟨lst1, ?_⟩
     first
     | exact ⟨by omega, hU.hit (by omega) h20 (by omega)⟩
     | exact ⟨by omega, hU.miss h20⟩
    (dsimp only; omega)
   simp only [sps] at h20
   refine .skip ?_
   refine hK6 _ _ (.region (.mv rfl ?_))
   refine .m rfl rfl rfl (.sub (r := (y' : Int) - 1) rfl rfl (by omega) (by omega) (by omega)) ?_
   refine .mv rfl (.nil ?_)
   refine hKL1 ((y', _)) _ _ ?_ ?_ ⟨rfl, rfl, rfl, rfl, trivial⟩
   ·
    refine ⟨lst1, ?_⟩
    first
    | exact ⟨by omega, hU.hit (by omega) h20 (by omega)⟩
    | exact ⟨by omega, hU.miss h20⟩
   (dsimp only; omega)
  simp only [sps] at h13
  obtain rfl : y = 0 := by omega
  refine .exit ?_
  refine hK2 _ _ (.seq (fun K10 hK10 => .seq (fun K11 hK11 => .region (.mv rfl (.m rfl rfl rfl (.cmp rfl rfl rfl) (.nil (hK11 _ _ ?_)))))))
  refine .cond rfl (fun h29 => ?_) (fun h29 => ?_)
  ·
   simp only [sps] at h29
   have hgo := hU.none h29 hpos
   refine .seq (fun K12 hK12 => ?_)
   refine .regionDB mo_B (.q 0 (.q 1 (.q 2 (.q 3 (.q 4 (.q 5 (.c 6 1 (.c 7 1 (.c 8 1 (.q 9 (.q 10 (.c 11 0 (.done))))))))))))) (by kernel_rfl) (GHeap.le_erase HL1 gF) ?_
   have hbl := GHeap.le_erase HL1 gF
   have hstB := GHeap.get_erase_of hst n3
   refine .mB rfl rfl rfl rfl hbl (.move rfl) ?_
   refine .mB rfl rfl rfl rfl hbl (.move rfl) ?_
   refine .mB rfl rfl rfl rfl hbl (.nilCheck rfl) ?_
   refine .mB rfl rfl rfl rfl hbl (.fieldAddr fo_177_4_Hb rfl) ?_
   refine .mB rfl rfl rfl rfl hbl (.load on_23_B rfl (Mem.of_get hstB 26 _ rfl)) ?_
   refine .mB rfl rfl rfl rfl hbl (.move rfl) ?_
   refine .call1 rfl rfl rfl rfl rfl @Try.call147 rfl (l01Own_c (Ints.of_get hgc)) ?_
   rintro _ H36 ⟨le36, g36, rfl, at36, ge36⟩
   replace hbl := hbl.trans le36
   refine ⟨hbl, ?_⟩
   replace hfo := hfo.le le36
   replace hgr := hgr.le le36
   replace hst := le36.2 _ _ hst
   have lt_at36 := GHeap.ltg at36
   refine .c1 rfl rfl rfl rfl (.litR rfl sl_23_B ze_22_E rfl rfl (by omega) (by omega) rfl rfl) ?_
   rintro _ H37 ⟨g37, rfl, le37, ge37, at37⟩
   replace hbl := hbl.trans le37
   refine ⟨hbl, ?_⟩
   replace hfo := hfo.le le37
   replace hgr := hgr.le le37
   replace hst := le37.2 _ _ hst
   replace at36 := le37.2 _ _ at36
   have lt_at37 := GHeap.ltg at37
   have hSl2 := hSl.mono hgr.le_of_nil
   refine .c1 rfl rfl rfl rfl (.appendVO rfl sl_23_B ze_22_E rfl by_22_E sl_23_B rfl rfl hSl2 (by assumption) (by simp) (by omega) rfl rfl (by omega) (by omega)) ?_
   rintro _ H38 ⟨g38, rfl, st38, ge38, at38⟩
   refine ⟨(hbl.erase_st st38), ?_⟩
   replace hfo := hfo.st st38 (fun k hk ho => by simp only [out, and_true] at ho ⊢ <;> first | exact ho | exact ho.1 | exact ho.2 | exact ho.2.1 | exact ho.2.2 | exact ho.2.2.1 | exact ho.2.2.2 | omega)
   replace hst := st38.same _ _ ⟨(by first | assumption | omega), trivial⟩ hst
   replace at36 := st38.same _ _ ⟨(by first | assumption | omega), trivial⟩ at36
   have lt_at38 := GHeap.ltg at38
   replace hbl := hbl.erase_st st38
   refine .mB rfl rfl rfl rfl hbl (.nilCheck rfl) ?_
   refine .mB rfl rfl rfl rfl hbl (.fieldAddr fo_177_4_Hb rfl) ?_
   refine .r0 rfl rfl rfl (.storeR rfl sz_23_E rfl rfl rfl (by assumption) (by first | exact Nat.le_of_ble_eq_true rfl | (simp; done) | (simp <;> omega))) ?_
   rintro _ H8011 ⟨rfl, st8011, at8011⟩
   have nx_H8011 := st8011.nx
   replace hfo := hfo.st st8011 (fun k hk ho => by simp only [out, and_true] at ho ⊢ <;> first | exact ho | exact ho.1 | exact ho.2 | exact ho.2.1 | exact ho.2.2 | exact ho.2.2.1 | exact ho.2.2.2 | omega)
   replace at36 := st8011.same _ _ ⟨(by first | assumption | omega), trivial⟩ at36
   replace at38 := st8011.same _ _ ⟨(by first | assumption | omega), trivial⟩ at38
   try simp only [Nat.zero_add, List.set_cons_succ, List.set_cons_zero] at at8011
   refine .done ?_
   refine hK12 _ _ ?_
   refine .ret ?_
   refine hret _ _ ?_
   have hw1 := hSl.neR hOw rfl
   have hw2 := hOw.st hfo (.cons (hOw.neT hst0 rfl) (.cons hw1 (.nil _ _)))
   have hw3 := hw2.snoc2 at36 (hOw.ne (by omega)) (by omega)
   have hfl2 : (fs ++ [co]).length = fs.length + 1 := by simp
   rw [hgo, take_one hfs]
   exact ⟨g38, .inr (by omega), hfo, by omega, ⟨⟨_, _, by rw [hfl2]; exact at8011, .inr ⟨rfl, by omega, by rw [slsL_snoc]; exact at38⟩, hw3⟩⟩⟩
  simp only [sps] at h29
  obtain ⟨m', rfl, hm1, hm2, hgo⟩ := hU.some (by omega) hpos
  refine .skip ?_
  refine hK10 _ _ (.seq (fun K13 hK13 => .region (.mv rfl (.mv rfl (.mv rfl ?_)))))
  refine .call rfl rfl rfl rfl @Try.call150 rfl (l07Choices_c (iso := iso) (x := m') (Mem.of_get hst) hi1 hi2 (Ints.of_get hgc) hP hN (by omega) hco) ?_
  rintro _ H44 ⟨le44, g44, rfl, at44, ge44⟩
  replace hfo := hfo.le le44
  replace hgr := hgr.le le44
  replace hgc := le44.2 _ _ hgc
  have lt_at44 := GHeap.ltg at44
  refine .mv rfl (.nil (hK13 _ _ (.seq (fun K14 hK14 => .region ?_))))
  have hcl := Fun.choices_le f k iso co m'
  refine .mv rfl (.nil (hK14 _ _ ?_))
  refine .block ?_
  refine .loopR (σ := Nat × Nat) [(0, some _), (1, some _), (4, some _), (6, some _)] (fun (j, gV) => [(7, some (.int .i64 (j : Int)))]) (fun (j, gV) H' => St [gs, gF] H44 H' ∧ j ≤ ((f.net k iso).choices co m').length ∧ (gV = gF ∨ H44.next ≤ gV) ∧ gV < H'.next ∧ FoundAt 177 22 2 b H' gs gV f p k q iso M ((fs ++ (((f.net k iso).choices co m').take j).flatMap fun h => (f.net k iso).go (co.set m' h)).take M)) (fun (j, gV) => ((f.net k iso).choices co m').length - j) ((0, gF)) ⟨rfl, rfl, rfl, rfl, trivial⟩ ⟨rfl, trivial⟩ ?_ ?_
  ·
   refine ⟨.refl _ _, ?_⟩
   refine ⟨by omega, .inl rfl, by omega, ?_⟩
   rw [List.take_zero, List.flatMap_nil, take_less hfs]
   exact hFA.mono (hgr.le_of_nil)
  rintro ⟨j, gV⟩ HL2 ⟨lst2, hI⟩ KL2 hKL2
  refine .forget (fr' := [(7, some (.int .i64 (j : Int))), (0, some _), (1, some _), (4, some _), (6, some _)]) ⟨rfl, rfl, rfl, rfl, rfl, trivial⟩ ?_
  have nx_HL2 := lst2.nx
  replace hfo := hfo.st lst2 (fun k hk ho => by simp only [out, and_true] at ho ⊢ <;> first | exact ho | exact ho.1 | exact ho.2 | exact ho.2.1 | exact ho.2.2 | exact ho.2.2.1 | exact ho.2.2.2 | omega)
  replace hgc := lst2.same _ _ ⟨(by first | assumption | omega), (by first | assumption | omega), trivial⟩ hgc
  replace at44 := lst2.same _ _ ⟨(by first | assumption | omega), (by first | assumption | omega), trivial⟩ at44
  have rk := St.refl [] HL2
  obtain ⟨hj, hgV, hgl, hFV⟩ := hI
  obtain ⟨af2, r2, e1, _, _⟩ := hFV.ex
  have c25 : GHeap.cell HL2 gs (0 + 25) = some (.int .i64 (M : Int)) := Mem.of_get e1 25 _ rfl
  have c26 : GHeap.cell HL2 gs (0 + 26) = some (.slice af2 _ _) := Mem.of_get e1 26 _ rfl
  refine .seq (fun K15 hK15 => .seq (fun K16 hK16 => ?_))
  refine .regionD mo_B (.q 0 (.q 1 (.q 2 (.q 3 (.q 4 (.q 5 (.q 6 (.q 7 (.q 8 (.q 9 (.q 10 (.q 11 (.q 12 (.q 13 (.q 14 (.q 15 (.done))))))))))))))))) (by kernel_rfl) ?_
  refine .mv rfl rfl (.mv rfl rfl (.m rfl rfl rfl rfl (.refl _) (.len sl_22_A rfl) (.m rfl rfl rfl rfl (.refl _) (.cmp rfl rfl rfl) (.mv rfl rfl ?_))))
  refine .split (fun h49 => ?_) (fun h49 => ?_)
  ·
   simp only [sps] at h49
   refine .mg rfl rfl rfl rfl rfl rfl (.refl _) (.move rfl) (.mg rfl rfl rfl rfl rfl rfl (.refl _) (.nilCheck rfl) (.mg rfl rfl rfl rfl rfl rfl (.refl _) (.fieldAddr fo_177_4_Hb rfl) ?_))
   refine .mg rfl rfl rfl rfl rfl rfl (.refl _) (.load on_23_B rfl (by assumption)) ?_
   refine .mg rfl rfl rfl rfl rfl rfl (.refl _) (.len sl_23_B rfl) (.mg rfl rfl rfl rfl rfl rfl (.refl _) (.move rfl) (.mg rfl rfl rfl rfl rfl rfl (.refl _) (.nilCheck rfl) (.mg rfl rfl rfl rfl rfl rfl (.refl _) (.fieldAddr fo_177_3_Hb rfl) ?_)))
   refine .mg rfl rfl rfl rfl rfl rfl (.refl _) (.load on_3_Hb rfl (by assumption)) ?_
   refine .mg rfl rfl rfl rfl rfl rfl (.refl _) (.cmp rfl rfl rfl) (.m rfl rfl rfl rfl (.refl _) (.pickT rfl rfl) ?_)
   refine .done ?_
   refine hK16 _ _ ?_
   refine .cond rfl (fun h60 => ?_) (fun h60 => ?_)
   ·
    simp only [sps] at h60
    refine .skip ?_
    refine hK15 _ _ (.seq (fun K17 hK17 => ?_))
    refine .block ?_
    refine .seq (fun K18 hK18 => .region (.mv rfl ?_))
    refine .call rfl rfl rfl rfl @Try.call147 rfl (l01Own_c (Ints.of_get hgc)) ?_
    rintro _ H64 ⟨le64, g64, rfl, at64, ge64⟩
    have nx_H64 := le64.1
    replace hfo := hfo.le le64
    replace lst2 := lst2.le le64
    replace rk := rk.le le64
    replace at44 := le64.2 _ _ at44
    have i44 := Ints.of_get at44
    have i64 := Ints.of_get at64
    refine .mv rfl (.nil (hK18 _ _ (.seq (fun K19 hK19 => .region (.mv rfl (.mv rfl (.mv rfl (.mv rfl ?_))))))))
    refine .m rfl rfl rfl (.idxN sl_22_A (by first | assumption | exact SlA.of_row at44 (by first | rfl | (simp; done) | (simp <;> omega))) rfl rfl (by omega)) ?_
    refine .m rfl rfl rfl (.loadI on_2_A (by first | assumption | exact Ints.of_get at44) rfl (by omega)) ?_
    refine .m rfl rfl rfl (.idxN sl_22_A (by first | assumption | exact SlA.of_row at64 (by first | rfl | (simp; done) | (simp <;> omega))) rfl rfl (by omega)) ?_
    refine .r0 rfl rfl (.storeI rfl sz_2_E rfl rfl (by assumption) (by first | omega | (simp <;> omega))) ?_
    rintro _ H14007 ⟨rfl, st14007, at14007⟩
    have nx_H14007 := st14007.nx
    replace hfo := hfo.st st14007 (fun k hk ho => by simp only [out, and_true] at ho ⊢ <;> first | exact ho | exact ho.1 | exact ho.2 | exact ho.2.1 | exact ho.2.2 | exact ho.2.2.1 | exact ho.2.2.2 | omega)
    replace lst2 := lst2.st st14007 (fun k hk ho => by simp only [out, and_true] at ho ⊢ <;> first | exact ho | exact ho.1 | exact ho.2 | exact ho.2.1 | exact ho.2.2 | exact ho.2.2.1 | exact ho.2.2.2 | omega)
    replace rk := rk.st st14007 (fun k hk ho => by simp only [out, and_true] at ho ⊢ <;> first | exact ho | exact ho.1 | exact ho.2 | exact ho.2.1 | exact ho.2.2 | exact ho.2.2.1 | exact ho.2.2.2 | omega)
    have lt_at14007 := GHeap.ltg at14007
    have hz := hle0.st hfo (fun k hk => ⟨by omega, by omega, trivial⟩)
    clear i44
    clear i64
    rw [Nat.zero_add] at at14007
    refine .nil (hK19 _ _ (.region (.mv rfl (.mv rfl ?_))))
    have hhm := getD_mem_list (d := (0 : Int)) (show j < ((f.net k iso).choices co m').length by omega)
    obtain ⟨a', ha1, _, _, ha4⟩ := Fun.choices_hom hhm
    have hcn := cntU_set hm1 hm2 (h := ((f.net k iso).choices co m').getD j 0) (by omega)
    have hcs : ∀ i, i < co.length → (co.set m' (((f.net k iso).choices co m').getD j 0)).getD i 0 < f.t.src.length := fun i hi => by
      rw [getD_set (by omega)]
      split
      · omega
      · exact hco i hi
    refine .call rfl rfl rfl rfl @Try.call141 rfl ((ih (cntU (co.set m' (((f.net k iso).choices co m').getD j 0))) (by omega) gs gV g64 b co.length _ _ _ rfl hz n1 (by omega) (by omega) (by omega) (by omega) (by omega) (by omega) at14007 (by simp) hN hcs (hFV.mono rk.le_of_nil) (by omega))) ?_
    rintro _ H74 ⟨gF74, hg74, st74, hl74, hF74⟩
    replace lst2 := lst2.st st74 (fun k hk ho => by simp only [out, and_true] at ho ⊢ <;> first | exact ho | exact ho.1 | exact ho.2 | exact ho.2.1 | exact ho.2.2 | exact ho.2.2.1 | exact ho.2.2.2 | omega)
    clear hz
    refine .nil (hK17 _ _ (.region (.mv rfl ?_)))
    refine .m rfl rfl rfl (.add rfl rfl rfl (by omega) (by omega)) ?_
    refine .mv rfl (.nil ?_)
    refine hKL2 ((j + 1, gF74)) _ _ ?_ ?_ ⟨rfl, rfl, rfl, rfl, rfl, trivial⟩
    ·
     refine ⟨lst2, ?_⟩
     refine ⟨by omega, by omega, hl74, ?_⟩
     rw [← foldG_more (d := 0) (by omega) (by omega)]
     exact hF74
    (dsimp only; omega)
   simp only [sps] at h60
   refine .exit ?_
   refine hend _ _ ?_
   have hge := foldG_done (M := M) (fs := fs) (C := (f.net k iso).choices co m') (G := fun h => (f.net k iso).go (co.set m' h)) (k := j) (.inr (by omega))
   rw [hgo, ← hge]
   exact ⟨gV, by omega, hfo, hgl, hFV⟩
  simp only [sps] at h49
  refine .sg rfl rfl rfl rfl rfl rfl (.sg rfl rfl rfl rfl rfl rfl (.sg rfl rfl rfl rfl rfl rfl (.sg rfl rfl rfl rfl rfl rfl (.sg rfl rfl rfl rfl rfl rfl (.sg rfl rfl rfl rfl rfl rfl (.sg rfl rfl rfl rfl rfl rfl (.sg rfl rfl rfl rfl rfl rfl (.sg rfl rfl rfl rfl rfl rfl (.sg rfl rfl rfl rfl rfl rfl (.m rfl rfl rfl rfl (.refl _) (.pickF rfl rfl) ?_))))))))))
  refine .done ?_
  refine hK16 _ _ ?_
  refine .condF rfl ?_
  refine .exit ?_
  refine hend _ _ ?_
  have hge := foldG_done (M := M) (fs := fs) (C := (f.net k iso).choices co m') (G := fun h => (f.net k iso).go (co.set m' h)) (k := j) (.inl (by omega))
  rw [hgo, ← hge]
  exact ⟨gV, by omega, hfo, hgl, hFV⟩
end Go.Proofs.Ytagkeabmdodfiaa
namespace Go.Proofs.Ytagkeabmdodfiaa
open Go Go.GL Go.RowKit Go.Proofs
theorem bt_177_Hc : buildT Try.prog 177 = some ([.int .i64 0, .slice none 0 0, .slice none 0 0, .slice none 0 0, .slice none 0 0, .int .i64 0, .slice none 0 0, .slice none 0 0, .slice none 0 0, .slice none 0 0, .slice none 0 0, .slice none 0 0, .int .i64 0, .slice none 0 0, .slice none 0 0, .slice none 0 0, .slice none 0 0, .int .i64 0, .slice none 0 0, .slice none 0 0, .slice none 0 0, .slice none 0 0, .slice none 0 0, .slice none 0 0, .bool false, .int .i64 0, .slice none 0 0], [(0, 12), (12, 12), (24, 1), (25, 1), (26, 1)]) := by kernel_rfl
theorem sz_177_Hc : (Try.prog.info? 177).map (·.size) = some 27 := by kernel_rfl
theorem st_build1 {f k : Fun} {p q : FunP} {iso : Bool} {most : Int} : fillL ([(0, 12), (12, 12), (24, 1), (25, 1), (26, 1)][·]?) [.int .i64 0, .slice none 0 0, .slice none 0 0, .slice none 0 0, .slice none 0 0, .int .i64 0, .slice none 0 0, .slice none 0 0, .slice none 0 0, .slice none 0 0, .slice none 0 0, .slice none 0 0, .int .i64 0, .slice none 0 0, .slice none 0 0, .slice none 0 0, .slice none 0 0, .int .i64 0, .slice none 0 0, .slice none 0 0, .slice none 0 0, .slice none 0 0, .slice none 0 0, .slice none 0 0, .bool false, .int .i64 0, .slice none 0 0] [(0, .agg (f.cells p).toArray), (1, .agg (k.cells q).toArray), (2, .bool iso), (3, .int .i64 most)] = some (stCells f p k q iso most none 0) := by kernel_rfl
theorem st_build2 {f k : Fun} {p q : FunP} {iso : Bool} {most : Int} {a : Option Addr} : fillL ([(0, 12), (12, 12), (24, 1), (25, 1), (26, 1)][·]?) [.int .i64 0, .slice none 0 0, .slice none 0 0, .slice none 0 0, .slice none 0 0, .int .i64 0, .slice none 0 0, .slice none 0 0, .slice none 0 0, .slice none 0 0, .slice none 0 0, .slice none 0 0, .int .i64 0, .slice none 0 0, .slice none 0 0, .slice none 0 0, .slice none 0 0, .int .i64 0, .slice none 0 0, .slice none 0 0, .slice none 0 0, .slice none 0 0, .slice none 0 0, .slice none 0 0, .bool false, .int .i64 0, .slice none 0 0] [(0, .agg (f.cells p).toArray), (1, .agg (k.cells q).toArray), (2, .bool iso), (3, .int .i64 most), (4, .slice a 0 0)] = some (stCells f p k q iso most a 0) := by kernel_rfl
set_option maxHeartbeats 4000000 in
theorem l07Find_c {f k : Fun} {p q : FunP} {iso : Bool} {M : Nat} {H : GHeap} (hin : f.In H p := by assumption) (hin1 : k.In H q := by assumption) (hP : f.Par k) (h1 : 1 ≤ M) (hM : M ≤ 1048576) :
    GCalls Try.prog 122 [.agg (f.cells p).toArray, .agg (k.cells q).toArray, .bool iso, .int .i64 (M : Int)] H (NewIntssR H (((f.net k iso).sols f.ob.length).take M)) := by
  have hs := hP.fi.1.1
  have b1 := hs.n40
  have b2 := hs.tl
  have b3 := hs.obj
  have b4 := hP.fi.2.2.ol
  have hgood := hP.fi.good k iso
  have hjl : (joinL f.ob.length ((f.s.endL f.s.src.length).map fun p => (pA p, pB p))).length = f.ob.length := length_joinL _ _
  refine GCalls.body (N := 105) (rs := [.tmp 8]) Try.func122 rfl rfl rfl rfl (fun Qx hret hend => ?_)
  refine .forget (fr' := [(0, some _), (1, some _), (2, some _), (3, some _)]) ⟨rfl, rfl, rfl, rfl, trivial⟩ ?_
  have hle := GHeap.Le.refl H
  have base_hin := hin
  have base_hin1 := hin1
  refine .seq (fun K1 hK1 => .region ?_)
  refine .r rfl rfl rfl (.boxR rfl sz_33_E rfl) ?_
  rintro _ H4 ⟨g4, rfl, le4, ge4, at4⟩
  replace hle := hle.trans le4
  have lt_at4 := GHeap.ltg at4
  replace hin := base_hin.mono hle
  have hb4 : Fun.At _ g4 0 f p := ⟨Mem.of_get at4, hin⟩
  refine .r rfl rfl rfl (.boxR rfl sz_33_E rfl) ?_
  rintro _ H5 ⟨g5, rfl, le5, ge5, at5⟩
  replace hle := hle.trans le5
  replace at4 := le5.2 _ _ at4
  have lt_at5 := GHeap.ltg at5
  replace hin := base_hin.mono hle
  replace hin1 := base_hin1.mono hle
  clear hb4
  have hb4 : Fun.At _ g4 0 f p := ⟨Mem.of_get at4, hin⟩
  obtain ⟨fs4, -, -, -, -, -⟩ := hb4.get
  have hms4 : MemN _ _ _ _ _ := ⟨rfl, fs4.1⟩
  have hb5 : Fun.At _ g5 0 k q := ⟨Mem.of_get at5, hin1⟩
  refine .mv rfl (.nil (hK1 _ _ (.seq (fun K2 hK2 => .region (.m rfl rfl rfl (.fieldAddr fo_33_0_E rfl) ?_)))))
  refine .m rfl rfl rfl (.loadM ag_31_D rfl (by assumption)) ?_
  refine .r rfl rfl rfl (.allocR rfl ze_31_E rfl) ?_
  rintro _ H9 ⟨g9, rfl, le9, ge9, at9⟩
  replace hle := hle.trans le9
  replace at4 := le9.2 _ _ at4
  replace at5 := le9.2 _ _ at5
  replace hin := base_hin.mono hle
  replace hin1 := base_hin1.mono hle
  clear hb4 fs4 hms4
  have hb4 : Fun.At _ g4 0 f p := ⟨Mem.of_get at4, hin⟩
  clear hb5
  have hb5 : Fun.At _ g5 0 k q := ⟨Mem.of_get at5, hin1⟩
  refine .r0 rfl rfl (.fillR rfl sz_31_D rfl rfl rfl rfl (by assumption) (by first | rfl | exact Nat.le_of_ble_eq_true rfl | simp)) ?_
  rintro _ H1003 ⟨rfl, st1003, at1003⟩
  replace hle := hle.st st1003 (fun k hk => ⟨by omega, trivial⟩)
  replace at4 := st1003.same _ _ ⟨(by first | assumption | omega), trivial⟩ at4
  replace at5 := st1003.same _ _ ⟨(by first | assumption | omega), trivial⟩ at5
  have lt_at1003 := GHeap.ltg at1003
  replace hin := base_hin.mono hle
  replace hin1 := base_hin1.mono hle
  clear hb4
  have hb4 : Fun.At _ g4 0 f p := ⟨Mem.of_get at4, hin⟩
  clear hb5
  have hb5 : Fun.At _ g5 0 k q := ⟨Mem.of_get at5, hin1⟩
  have hb9 : Cat.At _ g9 0 f.s p.s := ⟨Mem.of_get at1003, hin.1⟩
  refine .nil (hK2 _ _ (.seq (fun K3 hK3 => .region ?_)))
  refine .r rfl rfl rfl (.litR rfl sl_23_B ze_22_E rfl rfl (by omega) (by omega) rfl rfl) ?_
  rintro _ H21 ⟨g21, rfl, le21, ge21, at21⟩
  replace hle := hle.trans le21
  replace at4 := le21.2 _ _ at4
  replace at5 := le21.2 _ _ at5
  replace at1003 := le21.2 _ _ at1003
  have lt_at21 := GHeap.ltg at21
  replace hin := base_hin.mono hle
  replace hin1 := base_hin1.mono hle
  clear hb4
  have hb4 : Fun.At _ g4 0 f p := ⟨Mem.of_get at4, hin⟩
  clear hb5
  have hb5 : Fun.At _ g5 0 k q := ⟨Mem.of_get at5, hin1⟩
  clear hb9
  have hb9 : Cat.At _ g9 0 f.s p.s := ⟨Mem.of_get at1003, hin.1⟩
  refine .mv rfl (.nil (hK3 _ _ (.seq (fun K4 hK4 => .seq (fun K5 hK5 => .region (.mv rfl (.nil (hK5 _ _ ?_))))))))
  refine .block ?_
  refine .loopR (σ := Nat × (Nat → Option Addr) × Nat × Nat) [(2, some _), (3, some _), (4, some _), (5, some _), (9, some _)] (fun (a, rr, gL10, nL10) => [(11, some (.int .i64 (a : Int))), (10, some (.slice (some ⟨gL10, 0, none⟩) nL10 nL10))]) (fun (a, rr, gL10, nL10) H' => St [g21] H21 H' ∧ H'.get gL10 = some (.row ((slsL rr (f.s.endL a))) 22 true) ∧ (gL10 = g21 ∨ H21.next ≤ gL10) ∧ nL10 = (slsL rr (f.s.endL a)).length ∧ a ≤ f.s.src.length ∧ OwnL H.next H' 2 rr (f.s.endL a)) (fun (a, rr, gL10, nL10) => f.s.src.length - a) ((0, fun _ => none, _, _)) ⟨rfl, rfl, rfl, rfl, rfl, trivial⟩ ⟨rfl, rfl, trivial⟩ ?_ ?_
  ·
   refine ⟨.refl _ _, by assumption, .inl rfl, by rfl, ?_⟩
   exact ⟨by omega, .nil _ _ _ _⟩
  rintro ⟨a, rr, gL10, nL10⟩ HL1 ⟨lst1, at_L10, pl_L10, ln_L10, hI⟩ KL1 hKL1
  refine .forget (fr' := [(11, some (.int .i64 (a : Int))), (10, some (.slice (some ⟨gL10, 0, none⟩) nL10 nL10)), (2, some _), (3, some _), (4, some _), (5, some _), (9, some _)]) ⟨rfl, rfl, rfl, rfl, rfl, rfl, rfl, trivial⟩ ?_
  have ge_L10 : H.next ≤ gL10 := by omega
  have nx_HL1 := lst1.nx
  replace hle := hle.st lst1 (fun k hk => ⟨by omega, trivial⟩)
  replace at4 := lst1.same _ _ ⟨(by first | assumption | omega), trivial⟩ at4
  replace at5 := lst1.same _ _ ⟨(by first | assumption | omega), trivial⟩ at5
  replace at1003 := lst1.same _ _ ⟨(by first | assumption | omega), trivial⟩ at1003
  have lt_at_L10 := GHeap.ltg at_L10
  replace hin := base_hin.mono hle
  replace hin1 := base_hin1.mono hle
  clear hb4
  have hb4 : Fun.At _ g4 0 f p := ⟨Mem.of_get at4, hin⟩
  clear hb5
  have hb5 : Fun.At _ g5 0 k q := ⟨Mem.of_get at5, hin1⟩
  clear hb9
  have hb9 : Cat.At _ g9 0 f.s p.s := ⟨Mem.of_get at1003, hin.1⟩
  obtain ⟨c09, c19, c29, -, -, i19, i29, -, -⟩ := hb9.get
  have rk := St.refl [gL10] HL1
  obtain ⟨ha, hR⟩ := hI
  have hat10 := at_L10
  have hfl : (slsL rr (f.s.endL a)).length = (f.s.endL a).length := length_slsL _ _
  have hpl := Cat.length_endL f.s a
  refine .seq (fun K6 hK6 => .seq (fun K7 hK7 => .region (.mv rfl (.m rfl rfl rfl (.fieldAddr fo_31_1_B rfl) ?_))))
  refine .m rfl rfl rfl (.load on_22_B rfl (by first | assumption | exact Mem.of_get at1003 1 _ rfl)) ?_
  refine .m rfl rfl rfl (.len sl_22_A rfl) (.m rfl rfl rfl (.cmp rfl rfl rfl) (.nil (hK7 _ _ ?_)))
  refine .cond rfl (fun h26 => ?_) (fun h26 => ?_)
  ·
   simp only [sps] at h26
   refine .skip ?_
   refine hK6 _ _ (.seq (fun K8 hK8 => ?_))
   refine .block ?_
   refine .regionD mo_B (.q 0 (.q 1 (.q 2 (.q 3 (.q 4 (.q 5 (.q 6 (.q 7 (.q 8 (.q 9 (.q 10 (.c 11 1 (.c 12 1 (.c 13 0 (.c 14 0 (.done)))))))))))))))) (by kernel_rfl) ?_
   refine .mv rfl rfl (.m rfl rfl rfl rfl (.refl _) (.fieldAddr fo_31_1_B rfl) ?_)
   refine .m rfl rfl rfl rfl (.refl _) (.load on_22_B rfl (by first | assumption | exact Mem.of_get at1003 1 _ rfl)) ?_
   refine .mv rfl rfl ?_
   refine .m rfl rfl rfl rfl (.refl _) (.idxN sl_22_A (by assumption) rfl rfl (by omega)) ?_
   refine .m rfl rfl rfl rfl (.refl _) (.loadI on_2_A (by assumption) rfl (by omega)) ?_
   refine .m rfl rfl rfl rfl (.refl _) (.fieldAddr fo_31_2_B rfl) ?_
   refine .m rfl rfl rfl rfl (.refl _) (.load on_22_B rfl (by first | assumption | exact Mem.of_get at1003 2 _ rfl)) ?_
   refine .mv rfl rfl ?_
   refine .m rfl rfl rfl rfl (.refl _) (.idxN sl_22_A (by assumption) rfl rfl (by omega)) ?_
   refine .m rfl rfl rfl rfl (.refl _) (.loadI on_2_A (by assumption) rfl (by omega)) ?_
   refine .c1 rfl rfl rfl rfl (.litR rfl sl_22_A ze_2_E rfl rfl (by omega) (by omega) rfl rfl) ?_
   rintro _ H40 ⟨g40, rfl, le40, ge40, at40⟩
   have hbl := le40
   refine ⟨hbl, ?_⟩
   replace hle := hle.trans le40
   replace lst1 := lst1.le le40
   replace rk := rk.le le40
   replace at4 := le40.2 _ _ at4
   replace at5 := le40.2 _ _ at5
   replace at1003 := le40.2 _ _ at1003
   replace at_L10 := le40.2 _ _ at_L10
   have lt_at40 := GHeap.ltg at40
   replace hin := base_hin.mono hle
   replace hin1 := base_hin1.mono hle
   clear hb4
   have hb4 : Fun.At _ g4 0 f p := ⟨Mem.of_get at4, hin⟩
   clear hb5
   have hb5 : Fun.At _ g5 0 k q := ⟨Mem.of_get at5, hin1⟩
   clear hb9 c09 c19 c29 i19 i29
   have hb9 : Cat.At _ g9 0 f.s p.s := ⟨Mem.of_get at1003, hin.1⟩
   refine .c1 rfl rfl rfl rfl (.litR rfl sl_23_B ze_22_E rfl rfl (by omega) (by omega) rfl rfl) ?_
   rintro _ H41 ⟨g41, rfl, le41, ge41, at41⟩
   replace hbl := hbl.trans le41
   refine ⟨hbl, ?_⟩
   replace hle := hle.trans le41
   replace lst1 := lst1.le le41
   replace rk := rk.le le41
   replace at4 := le41.2 _ _ at4
   replace at5 := le41.2 _ _ at5
   replace at1003 := le41.2 _ _ at1003
   replace at_L10 := le41.2 _ _ at_L10
   replace at40 := le41.2 _ _ at40
   have lt_at41 := GHeap.ltg at41
   replace hin := base_hin.mono hle
   replace hin1 := base_hin1.mono hle
   clear hb4
   have hb4 : Fun.At _ g4 0 f p := ⟨Mem.of_get at4, hin⟩
   clear hb5
   have hb5 : Fun.At _ g5 0 k q := ⟨Mem.of_get at5, hin1⟩
   clear hb9
   have hb9 : Cat.At _ g9 0 f.s p.s := ⟨Mem.of_get at1003, hin.1⟩
   refine .c0 rfl rfl rfl rfl (.appendV rfl sl_23_B ze_22_E rfl by_22_E sl_23_B rfl rfl (by assumption) (by assumption) (by first | omega | (simp <;> omega)) rfl rfl (by omega) (by omega)) ?_
   rintro _ H42 ⟨g42, rfl, st42, ge42, at42⟩
   replace hle := hle.st st42 (fun k hk => ⟨by omega, trivial⟩)
   replace lst1 := lst1.st st42 (fun k hk ho => by simp only [out, and_true] at ho ⊢ <;> first | exact ho | exact ho.1 | exact ho.2 | exact ho.2.1 | exact ho.2.2 | exact ho.2.2.1 | exact ho.2.2.2 | omega)
   replace rk := rk.st st42 (fun k hk ho => by simp only [out, and_true] at ho ⊢ <;> first | exact ho | exact ho.1 | exact ho.2 | exact ho.2.1 | exact ho.2.2 | exact ho.2.2.1 | exact ho.2.2.2 | omega)
   replace at4 := st42.same _ _ ⟨(by first | assumption | omega), trivial⟩ at4
   replace at5 := st42.same _ _ ⟨(by first | assumption | omega), trivial⟩ at5
   replace at1003 := st42.same _ _ ⟨(by first | assumption | omega), trivial⟩ at1003
   replace at40 := st42.same _ _ ⟨(by first | assumption | omega), trivial⟩ at40
   replace hin := base_hin.mono hle
   replace hin1 := base_hin1.mono hle
   clear hb4
   have hb4 : Fun.At _ g4 0 f p := ⟨Mem.of_get at4, hin⟩
   clear hb5
   have hb5 : Fun.At _ g5 0 k q := ⟨Mem.of_get at5, hin1⟩
   clear hb9
   have hb9 : Cat.At _ g9 0 f.s p.s := ⟨Mem.of_get at1003, hin.1⟩
   refine .d0 rfl rfl rfl rfl (.quiet (.assign rfl) CIs.mk) ?_
   refine .done ?_
   refine hK8 _ _ (.region (.mv rfl ?_))
   refine .m rfl rfl rfl (.add rfl rfl rfl (by omega) (by omega)) ?_
   refine .mv rfl (.nil ?_)
   refine hKL1 ((a + 1, upd rr (f.s.endL a).length (some ⟨g40, 0, none⟩), _, _)) _ _ ?_ ?_ ⟨rfl, rfl, rfl, rfl, rfl, rfl, rfl, trivial⟩
   ·
    refine ⟨lst1, by (rw [Cat.endL_succ, slsL_snoc]; assumption), by omega, by (rw [Cat.endL_succ, slsL_snoc] <;> (first | omega | (simp only [List.length_append, List.length_cons, List.length_nil] <;> omega))), ?_⟩
    exact ⟨by omega, by rw [Cat.endL_succ]; exact hR.snoc (x := [f.s.src.getD a 0, f.s.tgt.getD a 0]) (rk.lasts1 hat10 rfl) (by assumption) (by omega) (by omega)⟩
   (dsimp only; omega)
  try simp only [sps] at h26
  refine .exit ?_
  refine hK4 _ _ (.seq (fun K9 hK9 => .region (.m rfl rfl rfl (.fieldAddr fo_31_0_B rfl) ?_)))
  refine .m rfl rfl rfl (.load on_2_A rfl (by first | assumption | exact Mem.of_get at1003 0 _ rfl)) ?_
  refine .mv rfl ?_
  obtain rfl : a = f.s.src.length := by omega
  have hiss := hR.intss at_L10 (by omega)
  refine .call rfl rfl rfl rfl @Try.call128 rfl (l01JoinN_c (n := f.ob.length) (by omega) (by omega) hiss (by omega) (by omega) (fun i hi => by rw [Cat.endL_get (by omega)]; have w1 := hs.src i (by omega); have w2 := hs.tgt i (by omega); exact ⟨Nat.le_refl _, w1.1, by show f.s.src.getD i 0 < _; omega, w2.1, by show f.s.tgt.getD i 0 < _; omega⟩)) ?_
  rintro _ H46 ⟨le46, g46, rfl, at46, ge46⟩
  replace hle := hle.trans le46
  replace at4 := le46.2 _ _ at4
  replace at5 := le46.2 _ _ at5
  replace at1003 := le46.2 _ _ at1003
  have lt_at46 := GHeap.ltg at46
  replace hin := base_hin.mono hle
  replace hin1 := base_hin1.mono hle
  have hb4 : Fun.At _ g4 0 f p := ⟨Mem.of_get at4, hin⟩
  have hb5 : Fun.At _ g5 0 k q := ⟨Mem.of_get at5, hin1⟩
  have hb9 : Cat.At _ g9 0 f.s p.s := ⟨Mem.of_get at1003, hin.1⟩
  refine .mv rfl (.nil (hK9 _ _ (.seq (fun K10 hK10 => .region ?_))))
  refine .r rfl rfl rfl (.litR rfl sl_22_A ze_2_E rfl rfl (by omega) (by omega) rfl rfl) ?_
  rintro _ H47 ⟨g47, rfl, le47, ge47, at47⟩
  replace hle := hle.trans le47
  replace at4 := le47.2 _ _ at4
  replace at5 := le47.2 _ _ at5
  replace at1003 := le47.2 _ _ at1003
  replace at46 := le47.2 _ _ at46
  have lt_at47 := GHeap.ltg at47
  replace hin := base_hin.mono hle
  replace hin1 := base_hin1.mono hle
  clear hb4
  have hb4 : Fun.At _ g4 0 f p := ⟨Mem.of_get at4, hin⟩
  clear hb5
  have hb5 : Fun.At _ g5 0 k q := ⟨Mem.of_get at5, hin1⟩
  clear hb9
  have hb9 : Cat.At _ g9 0 f.s p.s := ⟨Mem.of_get at1003, hin.1⟩
  replace at47 : GHeap.get H47 g47 = some (.row (ints []) 2 true) := at47
  refine .mv rfl (.nil (hK10 _ _ (.seq (fun K11 hK11 => .seq (fun K12 hK12 => .region (.mv rfl (.nil (hK12 _ _ ?_))))))))
  refine .block ?_
  refine .loopR (σ := Nat × Nat × Nat) [(2, some _), (3, some _), (4, some _), (5, some _), (12, some _)] (fun (x, gL13, nL13) => [(14, some (.int .i64 (x : Int))), (13, some (.slice (some ⟨gL13, 0, none⟩) nL13 nL13))]) (fun (x, gL13, nL13) H' => St [g47] H47 H' ∧ H'.get gL13 = some (.row (ints (List.replicate x (-1))) 2 true) ∧ (gL13 = g47 ∨ H47.next ≤ gL13) ∧ nL13 = (List.replicate x (-1)).length ∧ x ≤ f.ob.length) (fun (x, gL13, nL13) => f.ob.length - x) ((0, _, _)) ⟨rfl, rfl, rfl, rfl, rfl, trivial⟩ ⟨rfl, rfl, trivial⟩ ?_ ?_
  ·
   refine ⟨.refl _ _, by assumption, .inl rfl, by rfl, ?_⟩
   omega
  rintro ⟨x, gL13, nL13⟩ HL2 ⟨lst2, at_L13, pl_L13, ln_L13, hI⟩ KL2 hKL2
  refine .forget (fr' := [(14, some (.int .i64 (x : Int))), (13, some (.slice (some ⟨gL13, 0, none⟩) nL13 nL13)), (2, some _), (3, some _), (4, some _), (5, some _), (12, some _)]) ⟨rfl, rfl, rfl, rfl, rfl, rfl, rfl, trivial⟩ ?_
  have ge_L13 : H.next ≤ gL13 := by omega
  have nx_HL2 := lst2.nx
  replace hle := hle.st lst2 (fun k hk => ⟨by omega, trivial⟩)
  replace at4 := lst2.same _ _ ⟨(by first | assumption | omega), trivial⟩ at4
  replace at5 := lst2.same _ _ ⟨(by first | assumption | omega), trivial⟩ at5
  replace at1003 := lst2.same _ _ ⟨(by first | assumption | omega), trivial⟩ at1003
  replace at46 := lst2.same _ _ ⟨(by first | assumption | omega), trivial⟩ at46
  have lt_at_L13 := GHeap.ltg at_L13
  replace hin := base_hin.mono hle
  replace hin1 := base_hin1.mono hle
  clear hb4
  have hb4 : Fun.At _ g4 0 f p := ⟨Mem.of_get at4, hin⟩
  clear hb5
  have hb5 : Fun.At _ g5 0 k q := ⟨Mem.of_get at5, hin1⟩
  clear hb9
  have hb9 : Cat.At _ g9 0 f.s p.s := ⟨Mem.of_get at1003, hin.1⟩
  have hrl : (List.replicate x (-1 : Int)).length = x := List.length_replicate
  refine .seq (fun K13 hK13 => .seq (fun K14 hK14 => .region (.mv rfl (.mv rfl (.m rfl rfl rfl (.len sl_22_A rfl) (.m rfl rfl rfl (.cmp rfl rfl rfl) (.nil (hK14 _ _ ?_))))))))
  refine .cond rfl (fun h51 => ?_) (fun h51 => ?_)
  ·
   simp only [sps, length_joinL] at h51
   refine .skip ?_
   refine hK13 _ _ (.seq (fun K15 hK15 => ?_))
   refine .block ?_
   refine .seq (fun K16 hK16 => .region (.mv rfl ?_))
   refine .r rfl rfl rfl (.litR rfl sl_22_A ze_2_E rfl rfl (by omega) (by omega) rfl rfl) ?_
   rintro _ H55 ⟨g55, rfl, le55, ge55, at55⟩
   replace hle := hle.trans le55
   replace lst2 := lst2.le le55
   replace at4 := le55.2 _ _ at4
   replace at5 := le55.2 _ _ at5
   replace at1003 := le55.2 _ _ at1003
   replace at46 := le55.2 _ _ at46
   replace at_L13 := le55.2 _ _ at_L13
   have lt_at55 := GHeap.ltg at55
   replace hin := base_hin.mono hle
   replace hin1 := base_hin1.mono hle
   clear hb4
   have hb4 : Fun.At _ g4 0 f p := ⟨Mem.of_get at4, hin⟩
   clear hb5
   have hb5 : Fun.At _ g5 0 k q := ⟨Mem.of_get at5, hin1⟩
   clear hb9
   have hb9 : Cat.At _ g9 0 f.s p.s := ⟨Mem.of_get at1003, hin.1⟩
   refine .r rfl rfl rfl (.appendI rfl sl_22_A ze_2_E rfl by_2_E sl_22_A rfl rfl (by assumption) (by assumption) (by first | omega | (simp <;> omega)) (by omega) (by omega)) ?_
   rintro _ H56 ⟨g56, rfl, st56, ge56, at56⟩
   replace hle := hle.st st56 (fun k hk => ⟨by omega, trivial⟩)
   replace lst2 := lst2.st st56 (fun k hk ho => by simp only [out, and_true] at ho ⊢ <;> first | exact ho | exact ho.1 | exact ho.2 | exact ho.2.1 | exact ho.2.2 | exact ho.2.2.1 | exact ho.2.2.2 | omega)
   replace at4 := st56.same _ _ ⟨(by first | assumption | omega), trivial⟩ at4
   replace at5 := st56.same _ _ ⟨(by first | assumption | omega), trivial⟩ at5
   replace at1003 := st56.same _ _ ⟨(by first | assumption | omega), trivial⟩ at1003
   replace at46 := st56.same _ _ ⟨(by first | assumption | omega), trivial⟩ at46
   have lt_at56 := GHeap.ltg at56
   replace hin := base_hin.mono hle
   replace hin1 := base_hin1.mono hle
   clear hb4
   have hb4 : Fun.At _ g4 0 f p := ⟨Mem.of_get at4, hin⟩
   clear hb5
   have hb5 : Fun.At _ g5 0 k q := ⟨Mem.of_get at5, hin1⟩
   clear hb9
   have hb9 : Cat.At _ g9 0 f.s p.s := ⟨Mem.of_get at1003, hin.1⟩
   refine .mv rfl (.nil (hK16 _ _ (.seq (fun K17 hK17 => .region ?_))))
   refine .r rfl rfl rfl (.litR rfl sl_22_A ze_2_E rfl rfl (by omega) (by omega) rfl rfl) ?_
   rintro _ H57 ⟨g57, rfl, le57, ge57, at57⟩
   replace hle := hle.trans le57
   replace lst2 := lst2.le le57
   replace at4 := le57.2 _ _ at4
   replace at5 := le57.2 _ _ at5
   replace at1003 := le57.2 _ _ at1003
   replace at46 := le57.2 _ _ at46
   replace at56 := le57.2 _ _ at56
   have lt_at57 := GHeap.ltg at57
   replace hin := base_hin.mono hle
   replace hin1 := base_hin1.mono hle
   clear hb4
   have hb4 : Fun.At _ g4 0 f p := ⟨Mem.of_get at4, hin⟩
   clear hb5
   have hb5 : Fun.At _ g5 0 k q := ⟨Mem.of_get at5, hin1⟩
   clear hb9
   have hb9 : Cat.At _ g9 0 f.s p.s := ⟨Mem.of_get at1003, hin.1⟩
   replace at57 : GHeap.get H57 g57 = some (.row (ints []) 2 true) := at57
   refine .mv rfl (.nil (hK17 _ _ (.seq (fun K18 hK18 => .seq (fun K19 hK19 => .region (.mv rfl (.nil (hK19 _ _ ?_))))))))
   refine .block ?_
   refine .loopR (σ := Nat × Nat × Nat) [(2, some _), (3, some _), (4, some _), (5, some _), (12, some _), (13, some _), (14, some _)] (fun (y, gL15, nL15) => [(16, some (.int .i64 (y : Int))), (15, some (.slice (some ⟨gL15, 0, none⟩) nL15 nL15))]) (fun (y, gL15, nL15) H' => St [g57] H57 H' ∧ H'.get gL15 = some (.row (ints (startL (joinL f.ob.length ((f.s.endL f.s.src.length).map fun p => (pA p, pB p))) x y)) 2 true) ∧ (gL15 = g57 ∨ H57.next ≤ gL15) ∧ nL15 = (startL (joinL f.ob.length ((f.s.endL f.s.src.length).map fun p => (pA p, pB p))) x y).length ∧ y ≤ f.ob.length) (fun (y, gL15, nL15) => f.ob.length - y) ((0, _, _)) ⟨rfl, rfl, rfl, rfl, rfl, rfl, rfl, trivial⟩ ⟨rfl, rfl, trivial⟩ ?_ ?_
   ·
    refine ⟨.refl _ _, by assumption, .inl rfl, by rfl, ?_⟩
    omega
   rintro ⟨y, gL15, nL15⟩ HL3 ⟨lst3, at_L15, pl_L15, ln_L15, hI⟩ KL3 hKL3
   refine .forget (fr' := [(16, some (.int .i64 (y : Int))), (15, some (.slice (some ⟨gL15, 0, none⟩) nL15 nL15)), (2, some _), (3, some _), (4, some _), (5, some _), (12, some _), (13, some _), (14, some _)]) ⟨rfl, rfl, rfl, rfl, rfl, rfl, rfl, rfl, rfl, trivial⟩ ?_
   have ge_L15 : H.next ≤ gL15 := by omega
   have nx_HL3 := lst3.nx
   replace hle := hle.st lst3 (fun k hk => ⟨by omega, trivial⟩)
   replace lst2 := lst2.st lst3 (fun k hk ho => by simp only [out, and_true] at ho ⊢ <;> first | exact ho | exact ho.1 | exact ho.2 | exact ho.2.1 | exact ho.2.2 | exact ho.2.2.1 | exact ho.2.2.2 | omega)
   replace at4 := lst3.same _ _ ⟨(by first | assumption | omega), trivial⟩ at4
   replace at5 := lst3.same _ _ ⟨(by first | assumption | omega), trivial⟩ at5
   replace at1003 := lst3.same _ _ ⟨(by first | assumption | omega), trivial⟩ at1003
   replace at46 := lst3.same _ _ ⟨(by first | assumption | omega), trivial⟩ at46
   replace at56 := lst3.same _ _ ⟨(by first | assumption | omega), trivial⟩ at56
   have lt_at_L15 := GHeap.ltg at_L15
   replace hin := base_hin.mono hle
   replace hin1 := base_hin1.mono hle
   clear hb4
   have hb4 : Fun.At _ g4 0 f p := ⟨Mem.of_get at4, hin⟩
   clear hb5
   have hb5 : Fun.At _ g5 0 k q := ⟨Mem.of_get at5, hin1⟩
   clear hb9
   have hb9 : Cat.At _ g9 0 f.s p.s := ⟨Mem.of_get at1003, hin.1⟩
   have i46 := Ints.of_get at46
   have hyl := length_startL (joinL f.ob.length ((f.s.endL f.s.src.length).map fun p => (pA p, pB p))) x y
   refine .seq (fun K20 hK20 => .seq (fun K21 hK21 => .region (.mv rfl (.mv rfl (.m rfl rfl rfl (.len sl_22_A rfl) (.m rfl rfl rfl (.cmp rfl rfl rfl) (.nil (hK21 _ _ ?_))))))))
   refine .cond rfl (fun h61 => ?_) (fun h61 => ?_)
   ·
    simp only [sps, length_joinL] at h61
    refine .skip ?_
    refine hK20 _ _ (.seq (fun K22 hK22 => ?_))
    refine .block ?_
    refine .seq (fun K23 hK23 => .region (.mv rfl (.mv rfl ?_)))
    refine .m rfl rfl rfl (.idxN sl_22_A (by first | assumption | exact SlA.of_row at46 (by first | rfl | (simp; done) | (simp <;> omega))) rfl rfl (by omega)) ?_
    refine .m rfl rfl rfl (.loadI on_2_A (by first | assumption | exact Ints.of_get at46) rfl (by omega)) ?_
    refine .mv rfl (.m rfl rfl rfl (.cmp rfl rfl rfl) (.nil (hK23 _ _ ?_)))
    refine .cond rfl (fun h69 => ?_) (fun h69 => ?_)
    ·
     simp only [sps] at h69
     refine .region (.mv rfl ?_)
     refine .r rfl rfl rfl (.litR rfl sl_22_A ze_2_E rfl rfl (by omega) (by omega) rfl rfl) ?_
     rintro _ H71 ⟨g71, rfl, le71, ge71, at71⟩
     replace hle := hle.trans le71
     replace lst3 := lst3.le le71
     replace at4 := le71.2 _ _ at4
     replace at5 := le71.2 _ _ at5
     replace at1003 := le71.2 _ _ at1003
     replace at_L15 := le71.2 _ _ at_L15
     have lt_at71 := GHeap.ltg at71
     replace hin := base_hin.mono hle
     replace hin1 := base_hin1.mono hle
     clear hb4
     have hb4 : Fun.At _ g4 0 f p := ⟨Mem.of_get at4, hin⟩
     clear hb5
     have hb5 : Fun.At _ g5 0 k q := ⟨Mem.of_get at5, hin1⟩
     clear hb9
     have hb9 : Cat.At _ g9 0 f.s p.s := ⟨Mem.of_get at1003, hin.1⟩
     clear i46
     refine .r rfl rfl rfl (.appendI rfl sl_22_A ze_2_E rfl by_2_E sl_22_A rfl rfl (by assumption) (by assumption) (by first | omega | (simp <;> omega)) (by omega) (by omega)) ?_
     rintro _ H72 ⟨g72, rfl, st72, ge72, at72⟩
     replace hle := hle.st st72 (fun k hk => ⟨by omega, trivial⟩)
     replace lst3 := lst3.st st72 (fun k hk ho => by simp only [out, and_true] at ho ⊢ <;> first | exact ho | exact ho.1 | exact ho.2 | exact ho.2.1 | exact ho.2.2 | exact ho.2.2.1 | exact ho.2.2.2 | omega)
     have ne_g4_gL15 : NE g4 gL15 := ⟨by first | assumption | omega⟩
     replace at4 := st72.same _ _ ⟨ne_g4_gL15.ne, trivial⟩ at4
     have ne_g5_gL15 : NE g5 gL15 := ⟨by first | assumption | omega⟩
     replace at5 := st72.same _ _ ⟨ne_g5_gL15.ne, trivial⟩ at5
     have ne_g9_gL15 : NE g9 gL15 := ⟨by first | assumption | omega⟩
     replace at1003 := st72.same _ _ ⟨ne_g9_gL15.ne, trivial⟩ at1003
     replace hin := base_hin.mono hle
     replace hin1 := base_hin1.mono hle
     clear hb4
     have hb4 : Fun.At _ g4 0 f p := ⟨Mem.of_get at4, hin⟩
     clear hb5
     have hb5 : Fun.At _ g5 0 k q := ⟨Mem.of_get at5, hin1⟩
     clear hb9
     have hb9 : Cat.At _ g9 0 f.s p.s := ⟨Mem.of_get at1003, hin.1⟩
     refine .mv rfl (.nil (hK22 _ _ (.region (.mv rfl ?_))))
     refine .m rfl rfl rfl (.add rfl rfl rfl (by omega) (by omega)) ?_
     refine .mv rfl (.nil ?_)
     refine hKL3 ((y + 1, _, _)) _ _ ?_ ?_ ⟨rfl, rfl, rfl, rfl, rfl, rfl, rfl, rfl, rfl, trivial⟩
     ·
      refine ⟨lst3, by (rw [startL_T h69]; assumption), by omega, by (rw [startL_T h69] <;> (first | omega | (simp only [List.length_append, List.length_cons, List.length_nil] <;> omega))), ?_⟩
      omega
     (dsimp only; omega)
    simp only [sps] at h69
    refine .region (.mv rfl ?_)
    refine .r rfl rfl rfl (.litR rfl sl_22_A ze_2_E rfl rfl (by omega) (by omega) rfl rfl) ?_
    rintro _ H74 ⟨g74, rfl, le74, ge74, at74⟩
    replace hle := hle.trans le74
    replace lst3 := lst3.le le74
    replace at4 := le74.2 _ _ at4
    replace at5 := le74.2 _ _ at5
    replace at1003 := le74.2 _ _ at1003
    replace at_L15 := le74.2 _ _ at_L15
    have lt_at74 := GHeap.ltg at74
    replace hin := base_hin.mono hle
    replace hin1 := base_hin1.mono hle
    have hb4 : Fun.At _ g4 0 f p := ⟨Mem.of_get at4, hin⟩
    have hb5 : Fun.At _ g5 0 k q := ⟨Mem.of_get at5, hin1⟩
    have hb9 : Cat.At _ g9 0 f.s p.s := ⟨Mem.of_get at1003, hin.1⟩
    refine .r rfl rfl rfl (.appendI rfl sl_22_A ze_2_E rfl by_2_E sl_22_A rfl rfl (by assumption) (by assumption) (by first | omega | (simp <;> omega)) (by omega) (by omega)) ?_
    rintro _ H75 ⟨g75, rfl, st75, ge75, at75⟩
    replace hle := hle.st st75 (fun k hk => ⟨by omega, trivial⟩)
    replace lst3 := lst3.st st75 (fun k hk ho => by simp only [out, and_true] at ho ⊢ <;> first | exact ho | exact ho.1 | exact ho.2 | exact ho.2.1 | exact ho.2.2 | exact ho.2.2.1 | exact ho.2.2.2 | omega)
    have ne_g4_gL15 : NE g4 gL15 := ⟨by first | assumption | omega⟩
    replace at4 := st75.same _ _ ⟨ne_g4_gL15.ne, trivial⟩ at4
    have ne_g5_gL15 : NE g5 gL15 := ⟨by first | assumption | omega⟩
    replace at5 := st75.same _ _ ⟨ne_g5_gL15.ne, trivial⟩ at5
    have ne_g9_gL15 : NE g9 gL15 := ⟨by first | assumption | omega⟩
    replace at1003 := st75.same _ _ ⟨ne_g9_gL15.ne, trivial⟩ at1003
    replace hin := base_hin.mono hle
    replace hin1 := base_hin1.mono hle
    clear hb4
    have hb4 : Fun.At _ g4 0 f p := ⟨Mem.of_get at4, hin⟩
    clear hb5
    have hb5 : Fun.At _ g5 0 k q := ⟨Mem.of_get at5, hin1⟩
    clear hb9
    have hb9 : Cat.At _ g9 0 f.s p.s := ⟨Mem.of_get at1003, hin.1⟩
    refine .mv rfl (.nil (hK22 _ _ (.region (.mv rfl ?_))))
    refine .m rfl rfl rfl (.add rfl rfl rfl (by omega) (by omega)) ?_
    refine .mv rfl (.nil ?_)
    refine hKL3 ((y + 1, _, _)) _ _ ?_ ?_ ⟨rfl, rfl, rfl, rfl, rfl, rfl, rfl, rfl, rfl, trivial⟩
    ·
     refine ⟨lst3, by (rw [startL_F h69]; assumption), by omega, by (rw [startL_F h69] <;> (first | omega | (simp only [List.length_append, List.length_cons, List.length_nil] <;> omega))), ?_⟩
     omega
    (dsimp only; omega)
   simp only [sps, length_joinL] at h61
   obtain rfl : y = f.ob.length := by omega
   refine .exit ?_
   refine hK18 _ _ (.seq (fun K24 hK24 => .region ?_))
   refine .m rfl rfl rfl (.loadM ag_33_E rfl ⟨rfl, Mem.of_get at4⟩) ?_
   refine .m rfl rfl rfl (.loadM ag_33_E rfl ⟨rfl, Mem.of_get at5⟩) ?_
   refine .mv rfl (.m rfl rfl rfl (.build bt_177_Hc rfl rfl st_build1) ?_)
   refine .r rfl rfl rfl (.boxR rfl sz_177_Hc rfl) ?_
   rintro _ H80 ⟨g80, rfl, le80, ge80, at80⟩
   replace hle := hle.trans le80
   replace lst2 := lst2.le le80
   replace at4 := le80.2 _ _ at4
   replace at5 := le80.2 _ _ at5
   replace at1003 := le80.2 _ _ at1003
   replace at56 := le80.2 _ _ at56
   replace at_L15 := le80.2 _ _ at_L15
   have lt_at80 := GHeap.ltg at80
   replace hin := base_hin.mono hle
   replace hin1 := base_hin1.mono hle
   have hb4 : Fun.At _ g4 0 f p := ⟨Mem.of_get at4, hin⟩
   have hb5 : Fun.At _ g5 0 k q := ⟨Mem.of_get at5, hin1⟩
   have hb9 : Cat.At _ g9 0 f.s p.s := ⟨Mem.of_get at1003, hin.1⟩
   refine .mv rfl (.nil (hK24 _ _ (.seq (fun K25 hK25 => .region (.mv rfl (.mv rfl ?_))))))
   refine .call rfl rfl rfl rfl @Try.call141 rfl ((l07Go_c base_hin base_hin1 hP (M := 1) (iso := iso) (by omega) _ g80 g55 gL15 H.next nL15 (startL (joinL f.ob.length ((f.s.endL f.s.src.length).map fun p => (pA p, pB p))) x f.ob.length) [] _ rfl hle (by omega) (by omega) (by omega) (by omega) (by omega) (by omega) (by omega) at_L15 ln_L15.symm (ln_L15.trans (length_startL _ _ _)) (fun i hi => startL_lt (by rw [ln_L15, length_startL] at hi; exact hi)) ⟨none, fun _ => none, at80, .inl ⟨rfl, rfl, rfl⟩, .nil _ _ _ _⟩ (by simp))) ?_
   rintro _ H83 ⟨gF83, hg83, st83, hl83, hF83⟩
   have nx_H83 := st83.nx
   replace hle := hle.st st83 (fun k hk => ⟨by omega, by omega, trivial⟩)
   replace lst2 := lst2.st st83 (fun k hk ho => by simp only [out, and_true] at ho ⊢ <;> first | exact ho | exact ho.1 | exact ho.2 | exact ho.2.1 | exact ho.2.2 | exact ho.2.2.1 | exact ho.2.2.2 | omega)
   replace at4 := st83.same _ _ ⟨(by first | assumption | omega), (by first | assumption | omega), trivial⟩ at4
   replace at5 := st83.same _ _ ⟨(by first | assumption | omega), (by first | assumption | omega), trivial⟩ at5
   replace at1003 := st83.same _ _ ⟨(by first | assumption | omega), (by first | assumption | omega), trivial⟩ at1003
   replace at56 := st83.same _ _ ⟨(by first | assumption | omega), (by first | assumption | omega), trivial⟩ at56
   replace hin := base_hin.mono hle
   replace hin1 := base_hin1.mono hle
   clear hb4
   have hb4 : Fun.At _ g4 0 f p := ⟨Mem.of_get at4, hin⟩
   clear hb5
   have hb5 : Fun.At _ g5 0 k q := ⟨Mem.of_get at5, hin1⟩
   clear hb9
   have hb9 : Cat.At _ g9 0 f.s p.s := ⟨Mem.of_get at1003, hin.1⟩
   refine .nil (hK25 _ _ (.seq (fun K26 hK26 => .region ?_)))
   obtain ⟨af2, r2, e1, _, _⟩ := hF83.ex
   have c26 : GHeap.cell H83 g80 (0 + 26) = some (.slice af2 _ _) := Mem.of_get e1 26 _ rfl
   refine .mv rfl (.m rfl rfl rfl (.nilCheck rfl) (.m rfl rfl rfl (.fieldAddr fo_177_4_Hb rfl) ?_))
   refine .m rfl rfl rfl (.load on_23_B rfl (by assumption)) ?_
   refine .m rfl rfl rfl (.len sl_23_B rfl) (.m rfl rfl rfl (.cmp rfl rfl rfl) (.nil (hK26 _ _ ?_)))
   refine .cond rfl (fun h89 => ?_) (fun h89 => ?_)
   ·
    simp only [sps] at h89
    have h0 : (([] ++ (f.net k iso).go (startL (joinL f.ob.length ((f.s.endL f.s.src.length).map fun p => (pA p, pB p))) x f.ob.length)).take 1).length = 0 := by omega
    rw [List.nil_append] at h0
    have hnil := Net.sols_nil hgood (take_one_nil h0)
    refine .seq (fun K27 hK27 => .region ?_)
    refine .r rfl rfl rfl (.litR rfl sl_23_B ze_22_E rfl rfl (by omega) (by omega) rfl rfl) ?_
    rintro _ H90 ⟨g90, rfl, le90, ge90, at90⟩
    replace hle := hle.trans le90
    replace at4 := le90.2 _ _ at4
    replace at5 := le90.2 _ _ at5
    replace at1003 := le90.2 _ _ at1003
    replace hin := base_hin.mono hle
    replace hin1 := base_hin1.mono hle
    clear hb4
    have hb4 : Fun.At _ g4 0 f p := ⟨Mem.of_get at4, hin⟩
    clear hb5
    have hb5 : Fun.At _ g5 0 k q := ⟨Mem.of_get at5, hin1⟩
    clear hb9
    have hb9 : Cat.At _ g9 0 f.s p.s := ⟨Mem.of_get at1003, hin.1⟩
    refine .mv rfl (.nil (hK27 _ _ ?_))
    refine .ret ?_
    refine hret _ _ ?_
    refine ⟨_, rfl, ?_⟩
    rw [hnil, List.take_nil]
    exact ⟨hle, some ⟨g90, 0, none⟩, fun _ => none, rfl, (OwnL.nil H.next _ 2 (fun _ => none)).done at90 (by omega)⟩
   try simp only [sps] at h89
   refine .skip ?_
   refine hK15 _ _ (.region (.mv rfl ?_))
   refine .m rfl rfl rfl (.add rfl rfl rfl (by omega) (by omega)) ?_
   refine .mv rfl (.nil ?_)
   refine hKL2 ((x + 1, _, _)) _ _ ?_ ?_ ⟨rfl, rfl, rfl, rfl, rfl, rfl, rfl, trivial⟩
   ·
    refine ⟨lst2, by (rw [List.replicate_succ']; assumption), by omega, by (rw [List.replicate_succ'] <;> (first | omega | (simp only [List.length_append, List.length_cons, List.length_nil] <;> omega))), ?_⟩
    omega
   (dsimp only; omega)
  simp only [sps, length_joinL] at h51
  obtain rfl : x = f.ob.length := by omega
  refine .exit ?_
  refine hK11 _ _ (.seq (fun K28 hK28 => .region ?_))
  refine .m rfl rfl rfl (.loadM ag_33_E rfl ⟨rfl, Mem.of_get at4⟩) ?_
  refine .m rfl rfl rfl (.loadM ag_33_E rfl ⟨rfl, Mem.of_get at5⟩) ?_
  refine .mv rfl (.mv rfl ?_)
  refine .r rfl rfl rfl (.litR rfl sl_23_B ze_22_E rfl rfl (by omega) (by omega) rfl rfl) ?_
  rintro _ H95 ⟨g95, rfl, le95, ge95, at95⟩
  replace hle := hle.trans le95
  replace at4 := le95.2 _ _ at4
  replace at5 := le95.2 _ _ at5
  replace at1003 := le95.2 _ _ at1003
  replace at_L13 := le95.2 _ _ at_L13
  have lt_at95 := GHeap.ltg at95
  replace hin := base_hin.mono hle
  replace hin1 := base_hin1.mono hle
  have hb4 : Fun.At _ g4 0 f p := ⟨Mem.of_get at4, hin⟩
  have hb5 : Fun.At _ g5 0 k q := ⟨Mem.of_get at5, hin1⟩
  have hb9 : Cat.At _ g9 0 f.s p.s := ⟨Mem.of_get at1003, hin.1⟩
  refine .m rfl rfl rfl (.build bt_177_Hc rfl rfl st_build2) ?_
  refine .r rfl rfl rfl (.boxR rfl sz_177_Hc rfl) ?_
  rintro _ H97 ⟨g97, rfl, le97, ge97, at97⟩
  replace hle := hle.trans le97
  replace at4 := le97.2 _ _ at4
  replace at5 := le97.2 _ _ at5
  replace at1003 := le97.2 _ _ at1003
  replace at_L13 := le97.2 _ _ at_L13
  replace at95 := le97.2 _ _ at95
  have lt_at97 := GHeap.ltg at97
  replace hin := base_hin.mono hle
  replace hin1 := base_hin1.mono hle
  clear hb4
  have hb4 : Fun.At _ g4 0 f p := ⟨Mem.of_get at4, hin⟩
  clear hb5
  have hb5 : Fun.At _ g5 0 k q := ⟨Mem.of_get at5, hin1⟩
  clear hb9
  have hb9 : Cat.At _ g9 0 f.s p.s := ⟨Mem.of_get at1003, hin.1⟩
  refine .mv rfl (.nil (hK28 _ _ (.seq (fun K29 hK29 => .region (.mv rfl (.mv rfl ?_))))))
  refine .call rfl rfl rfl rfl @Try.call141 rfl ((l07Go_c base_hin base_hin1 hP (M := M) (iso := iso) hM _ g97 g95 gL13 H.next nL13 (List.replicate f.ob.length (-1)) [] _ rfl hle (by omega) (by omega) (by omega) (by omega) (by omega) (by omega) (by omega) at_L13 ln_L13.symm (ln_L13.trans List.length_replicate) (fun i hi => repl_lt (by rw [ln_L13, List.length_replicate] at hi; exact hi)) ⟨some ⟨g95, 0, none⟩, fun _ => none, at97, .inr ⟨rfl, by omega, at95⟩, .nil _ _ _ _⟩ (by simp; omega))) ?_
  rintro _ H100 ⟨gF100, hg100, st100, hl100, hF100⟩
  replace hle := hle.st st100 (fun k hk => ⟨by omega, by omega, trivial⟩)
  replace at4 := st100.same _ _ ⟨(by first | assumption | omega), (by first | assumption | omega), trivial⟩ at4
  replace at5 := st100.same _ _ ⟨(by first | assumption | omega), (by first | assumption | omega), trivial⟩ at5
  replace at1003 := st100.same _ _ ⟨(by first | assumption | omega), (by first | assumption | omega), trivial⟩ at1003
  replace hin := base_hin.mono hle
  replace hin1 := base_hin1.mono hle
  clear hb4
  have hb4 : Fun.At _ g4 0 f p := ⟨Mem.of_get at4, hin⟩
  clear hb5
  have hb5 : Fun.At _ g5 0 k q := ⟨Mem.of_get at5, hin1⟩
  clear hb9
  have hb9 : Cat.At _ g9 0 f.s p.s := ⟨Mem.of_get at1003, hin.1⟩
  refine .nil (hK29 _ _ (.seq (fun K30 hK30 => .region ?_)))
  obtain ⟨af2, r2, e1, e2, e3⟩ := hF100.ex
  have c26 : GHeap.cell H100 g97 (0 + 26) = some (.slice af2 _ _) := Mem.of_get e1 26 _ rfl
  refine .mv rfl (.m rfl rfl rfl (.nilCheck rfl) (.m rfl rfl rfl (.fieldAddr fo_177_4_Hb rfl) ?_))
  refine .m rfl rfl rfl (.load on_23_B rfl (by assumption)) ?_
  refine .mv rfl (.nil (hK30 _ _ ?_))
  refine .ret ?_
  refine hret _ _ ?_
  refine ⟨_, rfl, ?_⟩
  rw [List.nil_append, Net.go_all hgood] at e2 e3
  refine ⟨hle, af2, r2, ?_, SlO.intssr e2 e3⟩
  rw [List.nil_append, Net.go_all hgood]
end Go.Proofs.Ytagkeabmdodfiaa
