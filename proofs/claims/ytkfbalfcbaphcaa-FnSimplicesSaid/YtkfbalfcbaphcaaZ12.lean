/- Chains of arrows, their faces and degenerate chains: plain laws. No condition. -/
import Derived.Test.YtkfbalfcbaphcaaZ11
namespace Go.GL
structure Cat.Chain (c : Cat) (xs : List Int) : Prop where
  all : ∀ i : Nat, i + 1 < xs.length → c.T (xs.getD i 0) = c.S (xs.getD (i + 1) 0)
noncomputable def Cat.sxC (c : Cat) (xs : List Int) (i : Int) (n : Nat) : Int := if c.code xs = 0 then (if 0 ≤ i ∧ i ≤ xs.length then (if B (n ≤ xs.length ∧ c.Chain xs) = true then 0 else 5) else 2) else c.code xs
theorem Cat.sx_err {c : Cat} {xs : List Int} {i : Int} {n : Nat} (h : c.code xs ≠ 0) : c.sxC xs i n = c.code xs := by unfold Cat.sxC; rw [if_neg h]
theorem Cat.sx_rng {c : Cat} {xs : List Int} {i : Int} {n : Nat} (h : c.code xs = 0) (h' : ¬ (0 ≤ i ∧ i ≤ xs.length)) : c.sxC xs i n = 2 := by unfold Cat.sxC; rw [if_pos h, if_neg h']
theorem Cat.sx_no {c : Cat} {xs : List Int} {i : Int} {n : Nat} (h : c.code xs = 0) (h' : 0 ≤ i ∧ i ≤ xs.length) (h2 : ¬ (n ≤ xs.length ∧ c.Chain xs)) : c.sxC xs i n = 5 := by unfold Cat.sxC; rw [if_pos h, if_pos h', if_neg (fun q => h2 (B_iff.1 q))]
theorem Cat.sx_ok {c : Cat} {xs : List Int} {i : Int} {n : Nat} : c.sxC xs i n = 0 ↔ c.code xs = 0 ∧ (0 ≤ i ∧ i ≤ xs.length) ∧ n ≤ xs.length ∧ c.Chain xs := by
  unfold Cat.sxC
  by_cases h : c.code xs = 0
  · rw [if_pos h]
    by_cases h' : 0 ≤ i ∧ i ≤ xs.length
    · rw [if_pos h']
      by_cases h2 : n ≤ xs.length ∧ c.Chain xs
      · rw [if_pos (B_iff.2 h2)]; exact ⟨fun _ => ⟨h, h', h2.1, h2.2⟩, fun _ => rfl⟩
      · rw [if_neg (fun q => h2 (B_iff.1 q))]; exact ⟨fun e => by omega, fun e => absurd ⟨e.2.2.1, e.2.2.2⟩ h2⟩
    · rw [if_neg h']; exact ⟨fun e => by omega, fun e => absurd e.2.1 h'⟩
  · rw [if_neg h]; exact ⟨fun e => absurd e h, fun e => absurd e.1 h⟩
def Cat.faceL (c : Cat) (xs : List Int) (i : Nat) : List Int := (List.range (xs.length - 1)).map fun t => if t + 1 < i then xs.getD t 0 else if t + 1 = i then c.th (xs.getD t 0) (xs.getD (t + 1) 0) else xs.getD (t + 1) 0
def Cat.degX (c : Cat) (xs : List Int) (i : Nat) : Int := if i < xs.length then c.S (xs.getD i 0) else c.T (xs.getD (xs.length - 1) 0)
def Cat.degL (c : Cat) (xs : List Int) (i : Nat) : List Int := (List.range (xs.length + 1)).map fun t => if t < i then xs.getD t 0 else if t = i then c.I (c.degX xs i) else xs.getD (t - 1) 0
@[simp] theorem Cat.length_faceL (c : Cat) (xs : List Int) (i : Nat) : (c.faceL xs i).length = xs.length - 1 := by simp [Cat.faceL]
@[simp] theorem Cat.length_degL (c : Cat) (xs : List Int) (i : Nat) : (c.degL xs i).length = xs.length + 1 := by simp [Cat.degL]
theorem Cat.faceL_get {c : Cat} {xs : List Int} {i t : Nat} (h : t < xs.length - 1) : (c.faceL xs i).getD t 0 = if t + 1 < i then xs.getD t 0 else if t + 1 = i then c.th (xs.getD t 0) (xs.getD (t + 1) 0) else xs.getD (t + 1) 0 := by simp [Cat.faceL, List.getD_eq_getElem?_getD, h]
theorem Cat.degL_get {c : Cat} {xs : List Int} {i t : Nat} (h : t < xs.length + 1) : (c.degL xs i).getD t 0 = if t < i then xs.getD t 0 else if t = i then c.I (c.degX xs i) else xs.getD (t - 1) 0 := by simp [Cat.degL, List.getD_eq_getElem?_getD, h]
structure Cat.Ch (c : Cat) (xs : List Int) : Prop where
  rg : ∀ i, i < xs.length → 0 ≤ xs.getD i 0 ∧ xs.getD i 0 < c.src.length
  ch : c.Chain xs
theorem Cat.ch_of {c : Cat} {xs : List Int} {i : Int} {n : Nat} (h : c.sxC xs i n = 0) : c.Is ∧ c.Ch xs ∧ (0 ≤ i ∧ i ≤ xs.length) ∧ n ≤ xs.length := by
  obtain ⟨h1, h2, h3, h4⟩ := Cat.sx_ok.1 h
  obtain ⟨hI, hr⟩ := Cat.code_ok.1 h1
  exact ⟨hI, ⟨allIn_iff.1 hr, h4⟩, h2, h3⟩
theorem Cat.Ch.sx {c : Cat} {xs : List Int} {i : Int} {n : Nat} (hI : c.Is) (h : c.Ch xs) (hi : 0 ≤ i ∧ i ≤ xs.length) (hn : n ≤ xs.length) : c.sxC xs i n = 0 := Cat.sx_ok.2 ⟨Cat.code_ok.2 ⟨hI, allIn_iff.2 h.rg⟩, hi, hn, h.ch⟩
theorem Cat.th_two {c : Cat} (hS : c.Shape) {f g : Int} (hf : 0 ≤ f ∧ f < c.src.length) (hg : 0 ≤ g ∧ g < c.src.length) (e : c.T f = c.S g) : (0 ≤ c.th f g ∧ c.th f g < c.src.length) ∧ c.S (c.th f g) = c.S f ∧ c.T (c.th f g) = c.T g := by
  obtain ⟨F, rfl⟩ : ∃ F : Nat, f = (F : Int) := ⟨f.toNat, by omega⟩
  obtain ⟨G, rfl⟩ : ∃ G : Nat, g = (G : Int) := ⟨g.toNat, by omega⟩
  obtain ⟨p1, p2, p3, p4⟩ := hS.tn (a := F) (b := G) (by omega) (by omega) e
  have a1 : c.th (F : Int) G = (c.tn F G : Int) := by rw [Cat.th_nat]; exact p4
  rw [a1]
  exact ⟨⟨by omega, by omega⟩, p2, p3⟩
theorem Cat.th_assoc {c : Cat} (hI : c.Is) {f g h : Int} (hf : 0 ≤ f ∧ f < c.src.length) (hg : 0 ≤ g ∧ g < c.src.length) (hh : 0 ≤ h ∧ h < c.src.length) (e1 : c.T f = c.S g) (e2 : c.T g = c.S h) : c.th (c.th f g) h = c.th f (c.th g h) := by
  obtain ⟨F, rfl⟩ : ∃ F : Nat, f = (F : Int) := ⟨f.toNat, by omega⟩
  obtain ⟨G, rfl⟩ : ∃ G : Nat, g = (G : Int) := ⟨g.toNat, by omega⟩
  obtain ⟨K, rfl⟩ : ∃ K : Nat, h = (K : Int) := ⟨h.toNat, by omega⟩
  exact hI.2.as F (by omega) G (by omega) e1 K (by omega) e2
theorem Cat.id_two {c : Cat} (hI : c.Is) {f : Int} (hf : 0 ≤ f ∧ f < c.src.length) : c.th (c.I (c.S f)) f = f ∧ c.th f (c.I (c.T f)) = f := by
  obtain ⟨F, rfl⟩ : ∃ F : Nat, f = (F : Int) := ⟨f.toNat, by omega⟩
  exact hI.2.ids F (by omega)
theorem Cat.id_in {c : Cat} (hS : c.Shape) {x : Int} (h0 : 0 ≤ x) (h1 : x < c.obj) : (0 ≤ c.I x ∧ c.I x < c.src.length) ∧ c.S (c.I x) = x ∧ c.T (c.I x) = x := by
  have h2 := hS.idn_lt h0 h1
  have h3 := hS.ids x.toNat (by have := hS.il; omega)
  rw [Int.toNat_of_nonneg h0] at h3
  exact ⟨h2, h3.1, h3.2⟩
theorem Cat.obj_S {c : Cat} (hS : c.Shape) {f : Int} (hf : 0 ≤ f ∧ f < c.src.length) : (0 ≤ c.S f ∧ c.S f < c.obj) ∧ 0 ≤ c.T f ∧ c.T f < c.obj := ⟨hS.src f.toNat (by omega), hS.tgt f.toNat (by have := hS.tl; omega)⟩
theorem Cat.degX_in {c : Cat} (hS : c.Shape) {xs : List Int} (h : c.Ch xs) {i : Nat} (hi : i ≤ xs.length) (hn : 1 ≤ xs.length) : 0 ≤ c.degX xs i ∧ c.degX xs i < c.obj := by
  unfold Cat.degX
  split
  · exact (Cat.obj_S hS (h.rg i (by omega))).1
  · exact (Cat.obj_S hS (h.rg (xs.length - 1) (by omega))).2
theorem Cat.degX_T {c : Cat} {xs : List Int} (h : c.Ch xs) {i : Nat} (hi : i ≤ xs.length) (h0 : 1 ≤ i) : c.degX xs i = c.T (xs.getD (i - 1) 0) := by
  unfold Cat.degX
  split
  · have := h.ch.all (i - 1) (by omega)
    rw [show i - 1 + 1 = i by omega] at this
    exact this.symm
  · rw [show xs.length = i by omega]
theorem Cat.Ch.face {c : Cat} (hS : c.Shape) {xs : List Int} (h : c.Ch xs) {i : Nat} (hi : i ≤ xs.length) : c.Ch (c.faceL xs i) := by
  refine ⟨fun t ht => ?_, ⟨fun t ht => ?_⟩⟩
  · rw [Cat.length_faceL] at ht
    rw [Cat.faceL_get ht]
    split
    · exact h.rg _ (by omega)
    · split
      · exact (Cat.th_two hS (h.rg _ (by omega)) (h.rg _ (by omega)) (h.ch.all _ (by omega))).1
      · exact h.rg _ (by omega)
  · rw [Cat.length_faceL] at ht
    rw [Cat.faceL_get (by omega), Cat.faceL_get (by omega)]
    have h1 := h.ch.all t (by omega)
    have h2 := h.ch.all (t + 1) (by omega)
    have q1 := Cat.th_two hS (h.rg t (by omega)) (h.rg (t + 1) (by omega)) h1
    have q2 := Cat.th_two hS (h.rg (t + 1) (by omega)) (h.rg (t + 1 + 1) (by omega)) h2
    by_cases e1 : t + 1 + 1 < i
    · rw [if_pos (by omega), if_pos e1]; exact h1
    · by_cases e2 : t + 1 + 1 = i
      · rw [if_pos (by omega), if_neg e1, if_pos e2, q2.2.1]; exact h1
      · by_cases e3 : t + 1 = i
        · rw [if_neg (by omega), if_pos e3, if_neg e1, if_neg e2, q1.2.2]; exact h2
        · rw [if_neg (by omega), if_neg e3, if_neg e1, if_neg e2]; exact h2
theorem Cat.Ch.deg {c : Cat} (hS : c.Shape) {xs : List Int} (h : c.Ch xs) {i : Nat} (hi : i ≤ xs.length) (hn : 1 ≤ xs.length) : c.Ch (c.degL xs i) := by
  have hx := Cat.degX_in hS h hi hn
  obtain ⟨r1, r2, r3⟩ := Cat.id_in hS hx.1 hx.2
  refine ⟨fun t ht => ?_, ⟨fun t ht => ?_⟩⟩
  · rw [Cat.length_degL] at ht
    rw [Cat.degL_get ht]
    split
    · exact h.rg _ (by omega)
    · split
      · exact r1
      · exact h.rg _ (by omega)
  · rw [Cat.length_degL] at ht
    rw [Cat.degL_get (by omega), Cat.degL_get (by omega)]
    by_cases e1 : t + 1 < i
    · rw [if_pos (by omega), if_pos e1]; exact h.ch.all t (by omega)
    · by_cases e2 : t + 1 = i
      · rw [if_pos (by omega), if_neg e1, if_pos e2, r2, Cat.degX_T h hi (by omega), show i - 1 = t by omega]
      · by_cases e3 : t = i
        · rw [if_neg (by omega), if_pos e3, if_neg e1, if_neg e2, r3, show t + 1 - 1 = t by omega]
          unfold Cat.degX
          rw [if_pos (by omega), e3]
        · rw [if_neg (by omega), if_neg e3, if_neg e1, if_neg e2]
          have := h.ch.all (t - 1) (by omega)
          rw [show t - 1 + 1 = t by omega] at this
          rw [show t + 1 - 1 = t by omega]
          exact this
theorem Cat.face_deg {c : Cat} (hI : c.Is) {xs : List Int} (h : c.Ch xs) {i : Nat} (hi : i ≤ xs.length) (hn : 1 ≤ xs.length) : c.faceL (c.degL xs i) i = xs ∧ c.faceL (c.degL xs i) (i + 1) = xs := by
  constructor
  · refine eq_of_getD (by simp) fun t ht => ?_
    rw [Cat.faceL_get (by rw [Cat.length_degL]; omega), Cat.degL_get (by omega), Cat.degL_get (by omega)]
    by_cases e1 : t + 1 < i
    · rw [if_pos e1, if_pos (by omega)]
    · by_cases e2 : t + 1 = i
      · rw [if_neg e1, if_pos e2, if_pos (by omega), if_neg e1, if_pos e2, Cat.degX_T h hi (by omega), show i - 1 = t by omega]
        exact (Cat.id_two hI (h.rg t ht)).2
      · rw [if_neg e1, if_neg e2, if_neg e1, if_neg e2, show t + 1 - 1 = t by omega]
  · refine eq_of_getD (by simp) fun t ht => ?_
    rw [Cat.faceL_get (by rw [Cat.length_degL]; omega), Cat.degL_get (by omega), Cat.degL_get (by omega)]
    by_cases e1 : t + 1 < i + 1
    · rw [if_pos e1, if_pos (by omega)]
    · by_cases e2 : t + 1 = i + 1
      · rw [if_neg e1, if_pos e2, if_neg (by omega), if_pos (by omega), if_neg (by omega), if_neg (by omega), show t + 1 - 1 = t by omega]
        unfold Cat.degX
        rw [if_pos (by omega), show i = t by omega]
        exact (Cat.id_two hI (h.rg t ht)).1
      · rw [if_neg e1, if_neg e2, if_neg (by omega), if_neg (by omega), show t + 1 - 1 = t by omega]
theorem Cat.face_face {c : Cat} (hI : c.Is) {xs : List Int} (h : c.Ch xs) {j k : Nat} (hjk : j < k) (hk : k ≤ xs.length) : c.faceL (c.faceL xs k) j = c.faceL (c.faceL xs j) (k - 1) := by
  refine eq_of_getD (by simp) fun t ht => ?_
  simp only [Cat.length_faceL] at ht
  have L1 := Cat.faceL_get (c := c) (xs := c.faceL xs k) (i := j) (t := t) (by rw [Cat.length_faceL]; omega)
  have R1 := Cat.faceL_get (c := c) (xs := c.faceL xs j) (i := k - 1) (t := t) (by rw [Cat.length_faceL]; omega)
  rw [L1, R1, Cat.faceL_get (xs := xs) (i := k) (t := t) (by omega), Cat.faceL_get (xs := xs) (i := k) (t := t + 1) (by omega), Cat.faceL_get (xs := xs) (i := j) (t := t) (by omega), Cat.faceL_get (xs := xs) (i := j) (t := t + 1) (by omega)]
  have asc : t + 2 < xs.length → c.th (c.th (xs.getD t 0) (xs.getD (t + 1) 0)) (xs.getD (t + 1 + 1) 0) = c.th (xs.getD t 0) (c.th (xs.getD (t + 1) 0) (xs.getD (t + 1 + 1) 0)) := fun hl =>
    Cat.th_assoc hI (h.rg _ (by omega)) (h.rg _ (by omega)) (h.rg _ (by omega)) (h.ch.all _ (by omega)) (h.ch.all _ (by omega))
  by_cases a1 : t + 1 < j
  · rw [if_pos a1, if_pos (by omega), if_pos (by omega), if_pos a1]
  · by_cases a2 : t + 1 = j
    · by_cases b1 : j + 1 < k
      · rw [if_neg a1, if_pos a2, if_pos (by omega), if_pos (by omega), if_pos (by omega), if_neg a1, if_pos a2]
      · rw [if_neg a1, if_pos a2, if_pos (by omega), if_neg (by omega), if_pos (by omega), if_neg (by omega), if_pos (by omega), if_neg a1, if_pos a2, if_neg (by omega), if_neg (by omega)]
        exact (asc (by omega)).symm
    · by_cases b1 : t + 1 + 1 < k
      · rw [if_neg a1, if_neg a2, if_pos b1, if_pos (by omega), if_neg a1, if_neg a2]
      · by_cases b2 : t + 1 + 1 = k
        · rw [if_neg a1, if_neg a2, if_neg b1, if_pos b2, if_neg (by omega), if_pos (by omega), if_neg a1, if_neg a2, if_neg (by omega), if_neg (by omega)]
        · rw [if_neg a1, if_neg a2, if_neg b1, if_neg b2, if_neg (by omega), if_neg (by omega), if_neg (by omega), if_neg (by omega)]
theorem getD_takeN {xs : List Int} {n t : Nat} (h : t < n) : (xs.take n).getD t 0 = xs.getD t 0 := by simp [List.getD_eq_getElem?_getD, List.getElem?_take, h]
theorem getD_drop (xs : List Int) (n t : Nat) : (xs.drop n).getD t 0 = xs.getD (n + t) 0 := by simp [List.getD_eq_getElem?_getD]
theorem getD_app (xs ys : List Int) (t : Nat) : (xs ++ ys).getD t 0 = if t < xs.length then xs.getD t 0 else ys.getD (t - xs.length) 0 := by
  rw [List.getD_eq_getElem?_getD, List.getElem?_append]
  split <;> rw [← List.getD_eq_getElem?_getD]
theorem Cat.degL_eq {c : Cat} {xs : List Int} {i : Nat} (h : i ≤ xs.length) : (xs.take i ++ [c.I (c.degX xs i)]) ++ xs.drop i = c.degL xs i := by
  have hl : (xs.take i).length = i := by rw [List.length_take]; omega
  refine eq_of_getD (by simp; omega) fun t ht => ?_
  rw [Cat.length_degL] at ht
  rw [Cat.degL_get ht, getD_app, List.length_append, List.length_singleton, hl]
  by_cases e1 : t < i
  · rw [if_pos (by omega), if_pos e1, getD_app, hl, if_pos e1, getD_takeN e1]
  · by_cases e2 : t = i
    · rw [if_pos (by omega), if_neg e1, if_pos e2, getD_app, hl, if_neg e1, e2, Nat.sub_self]; rfl
    · rw [if_neg (by omega), if_neg e1, if_neg e2, getD_drop, show i + (t - (i + 1)) = t - 1 by omega]
theorem Cat.faceL_zero (c : Cat) (xs : List Int) : xs.drop 1 = c.faceL xs 0 := by
  refine eq_of_getD (by simp) fun t ht => ?_
  rw [Cat.length_faceL] at ht
  rw [Cat.faceL_get ht, if_neg (by omega), if_neg (by omega), getD_drop, Nat.add_comm]
theorem Cat.faceL_len (c : Cat) (xs : List Int) : xs.take (xs.length - 1) = c.faceL xs xs.length := by
  refine eq_of_getD (by simp) fun t ht => ?_
  rw [Cat.length_faceL] at ht
  rw [Cat.faceL_get ht, if_pos (by omega), getD_takeN ht]
theorem Cat.faceL_mid {c : Cat} {xs : List Int} {i : Nat} (h0 : 0 < i) (h : i < xs.length) : (xs.take (i - 1) ++ [c.th (xs.getD (i - 1) 0) (xs.getD i 0)]) ++ xs.drop (i + 1) = c.faceL xs i := by
  have hl : (xs.take (i - 1)).length = i - 1 := by rw [List.length_take]; omega
  refine eq_of_getD (by simp; omega) fun t ht => ?_
  rw [Cat.length_faceL] at ht
  rw [Cat.faceL_get ht, getD_app, List.length_append, List.length_singleton, hl]
  by_cases e1 : t + 1 < i
  · rw [if_pos (by omega), if_pos e1, getD_app, hl, if_pos (by omega), getD_takeN (by omega)]
  · by_cases e2 : t + 1 = i
    · rw [if_pos (by omega), if_neg e1, if_pos e2, getD_app, hl, if_neg (by omega), show t - (i - 1) = 0 by omega, e2, show t = i - 1 by omega]; rfl
    · rw [if_neg (by omega), if_neg e1, if_neg e2, getD_drop, show i + 1 + (t - (i - 1 + 1)) = t + 1 by omega]
theorem Ints.dropI {H : GHeap} {g k : Nat} {xs : List Int} {e : TypeId} {own : Bool} (h : H.get g = some (.row (ints xs) e own)) : Ints H (some ⟨g, 0 + k * 1, none⟩) (xs.drop k) := .inr ⟨g, 0 + k * 1, rfl, fun i hi => by
  rw [List.length_drop] at hi
  show _ = some (Value.int .i64 ((xs.drop k).getD i 0))
  rw [GHeap.cell_of h, show 0 + k * 1 + i = k + i by omega, ints_get (by omega), getD_drop]⟩
theorem Ints.takeI {H : GHeap} {g k : Nat} {xs : List Int} {e : TypeId} {own : Bool} (h : H.get g = some (.row (ints xs) e own)) : Ints H (some ⟨g, 0, none⟩) (xs.take k) := .inr ⟨g, 0, rfl, fun i hi => by
  rw [List.length_take] at hi
  show _ = some (Value.int .i64 ((xs.take k).getD i 0))
  rw [GHeap.cell_of h, Nat.zero_add, ints_get (by omega), getD_takeN (by omega)]⟩
def IntsE (e : TypeId) (b : Nat) (H : GHeap) (a : Option Addr) (xs : List Int) : Prop := (xs = [] ∧ a = none) ∨ ∃ g, a = some ⟨g, 0, none⟩ ∧ b ≤ g ∧ H.get g = some (.row (ints xs) e true)
theorem IntsE.r {e : TypeId} {b : Nat} {H : GHeap} {a : Option Addr} {xs : List Int} (h : IntsE e b H a xs) : IntsR b H a xs := h.imp id fun ⟨g, x⟩ => ⟨g, e, x⟩
theorem IntsE.ints {e : TypeId} {b : Nat} {H : GHeap} {a : Option Addr} {xs : List Int} (h : IntsE e b H a xs) : Ints H a xs := h.r.ints
theorem IntsE.keep {e : TypeId} {b b' : Nat} {H H' : GHeap} {a : Option Addr} {xs : List Int} (h : IntsE e b H a xs) (k : Keep b' H H') (hb : b' ≤ b) : IntsE e b' H' a xs := h.imp id fun ⟨g, x1, x2, x3⟩ => ⟨g, x1, Nat.le_trans hb x2, k _ _ (Nat.le_trans hb x2) x3⟩
def NewLE (e : TypeId) (k : Int) (xs : List Int) (H : GHeap) (v : Value) (H' : GHeap) : Prop := H.Le H' ∧ ∃ a, v = .tuple #[.slice a xs.length xs.length, .int .i64 k] ∧ IntsE e H.next H' a xs
theorem NewLE.mk {k : Int} {xs ys : List Int} {H H' : GHeap} {g l : Nat} {e : TypeId} (h0 : k = 0) (hy : ys = xs) (hg : H.next ≤ g) (hle : H.Le H' := by assumption) (h : H'.get g = some (.row (ints ys) e true) := by assumption) (hl : l = ys.length := by simp <;> omega) : NewLE e k (codeL k xs) H (.tuple #[.slice (some ⟨g, 0, none⟩) l l, .int .i64 0]) H' := by
  subst hy hl
  rw [codeL_ok h0, h0]
  exact ⟨hle, _, rfl, .inr ⟨g, rfl, hg, h⟩⟩
theorem NewLE.err {e : TypeId} {k k' : Int} {xs : List Int} {H H' : GHeap} (e1 : k = k') (h0 : k' ≠ 0) (hle : H.Le H' := by assumption) : NewLE e k (codeL k xs) H (.tuple #[.slice none 0 0, .int .i64 k']) H' := by
  subst e1
  rw [codeL_err h0]
  exact ⟨hle, none, rfl, .inl ⟨rfl, rfl⟩⟩
theorem tmod_step {f : Int} {n : Nat} (h : 0 ≤ f ∧ f < n) : (f + 1).tmod n = if f + 1 = n then 0 else f + 1 := by
  split
  · rename_i e
    rw [e]; exact Int.tmod_self
  · exact Int.tmod_eq_of_lt (by omega) (by omega)
theorem tmod_step_in {f : Int} {n : Nat} (h : 0 ≤ f ∧ f < n) : 0 ≤ (f + 1).tmod n ∧ (f + 1).tmod n < n := by
  rw [tmod_step h]
  split <;> omega
theorem tmod_near {f t : Int} {n : Nat} (h : 0 ≤ f ∧ f < n) (ht : 0 ≤ t ∧ t < n) (e : f ≠ t) : (if (f + 1).tmod n ≤ t then t - (f + 1).tmod n else n - (f + 1).tmod n + t).toNat < (if f ≤ t then t - f else n - f + t).toNat := by
  rw [tmod_step h]
  split <;> (split <;> split <;> omega)
def NewCh (e : TypeId) (H : GHeap) (v : Value) (H' : GHeap) : Prop := H.Le H' ∧ ∃ (c : Cat) (p : CatP) (g : Nat) (ys : List Int) (i : Int), v = .tuple #[.agg (c.cells p).toArray, .slice (some ⟨g, 0, none⟩) ys.length ys.length, .int .i64 i] ∧ c.Small ∧ KIn H.next H' c p ∧ (H.next ≤ g ∧ ys.length ≤ 64 ∧ I64 i) ∧ H'.get g = some (.row (ints ys) e true)
theorem GHeap.le_erase2 (H : GHeap) (g k : Nat) : ((H.set g none).set k none).Le H := ⟨Nat.le_trans (GHeap.le_erase (H.set g none) k).1 (GHeap.le_erase H g).1, fun x o h => (GHeap.le_erase H g).2 x o ((GHeap.le_erase (H.set g none) k).2 x o h)⟩
theorem GHeap.Le.erase2_st {H0 H1 H2 : GHeap} {g k : Nat} (h : ((H0.set g none).set k none).Le H1) (s : St [g] H1 H2) : ((H0.set g none).set k none).Le H2 := ⟨Nat.le_trans h.1 s.nx, fun x o hx => s.same x o ⟨(GHeap.get_erase (GHeap.get_erase hx).2).1, trivial⟩ (h.2 x o hx)⟩
theorem GHeap.Le.erase2_st' {H0 H1 H2 : GHeap} {g k : Nat} (h : ((H0.set g none).set k none).Le H1) (s : St [k] H1 H2) : ((H0.set g none).set k none).Le H2 := h.erase_st s
theorem GHeap.get_erase2_of {H : GHeap} {g k x : Nat} {o : GObj} (h : H.get x = some o) (h1 : x ≠ g) (h2 : x ≠ k) : ((H.set g none).set k none).get x = some o := GHeap.get_erase_of (GHeap.get_erase_of h h1) h2
theorem tdiv_23 {k : Int} (h0 : 0 ≤ k) (h : k < 24) : 0 ≤ IntKind.i64.wrap (k.tdiv 23) ∧ IntKind.i64.wrap (k.tdiv 23) ≤ 1 := by
  have q : 0 ≤ k.tdiv 23 ∧ k.tdiv 23 ≤ 1 := by
    rw [Int.tdiv_eq_ediv_of_nonneg h0]
    omega
  rw [show IntKind.i64.wrap (k.tdiv 23) = k.tdiv 23 by
    have : k.tdiv 23 = 0 ∨ k.tdiv 23 = 1 := by omega
    rcases this with e | e <;> rw [e] <;> rfl]
  exact q
theorem codeL_le {k : Int} {xs : List Int} {n : Nat} (h : xs.length ≤ n) : (codeL k xs).length ≤ n := by
  unfold codeL
  split
  · exact h
  · exact Nat.zero_le _
end Go.GL
namespace Go.Proofs.Ytkfbalfcbaphcaa
open Go Go.GL Go.RowKit Go.Proofs
theorem isChain_c {g o : Nat} {c : Cat} {p : CatP} {a : Option Addr} {xs : List Int} {H : GHeap} (h : Cat.At H g o c p := by assumption) (hS : c.Shape := by assumption) (hx : Ints H a xs := by assumption) (hr : ∀ i, i < xs.length → 0 ≤ xs.getD i 0 ∧ xs.getD i 0 < c.src.length := by assumption) (hl : xs.length ≤ 1048576 := by omega) :
    GCalls Try.prog 76 [.pointer (some ⟨g, o, none⟩), .slice a xs.length xs.length] H (Ret (.bool (B (c.Chain xs))) H) := by
  have q1 := hS.tl
  refine GCalls.body (N := 34) (rs := [.tmp 4]) Try.func76 rfl rfl rfl rfl (fun Qx hret hend => ?_)
  refine .fg [0, 1] rfl ?_
  obtain ⟨-, c1, c2, -, -, i1, i2, -, -⟩ := h.get
  refine .seq (fun K1 hK1 => .region (.mv rfl (.nil (hK1 _ _ (.seq (fun K2 hK2 => .seq (fun K3 hK3 => .region (.mv rfl (.nil (hK3 _ _ ?_))))))))))
  refine .block ?_
  refine .loopR (σ := Nat) [(0, some _), (1, some _)] (fun k => [(5, some (.int .i64 (k : Int)))]) (fun k H' => H = H' ∧ (1 ≤ k ∧ k ≤ xs.length + 1) ∧ ∀ i : Nat, i + 1 < k → i + 1 < xs.length → c.T (xs.getD i 0) = c.S (xs.getD (i + 1) 0)) (fun k => xs.length + 1 - k) (1) ⟨rfl, rfl, trivial⟩ ⟨rfl, trivial⟩ ?_ ?_
  ·
   refine ⟨rfl, ?_⟩
   exact ⟨by omega, fun i h => by omega⟩
  rintro k _ ⟨rfl, hI⟩ KL1 hKL1
  refine .forget (fr' := [(5, some (.int .i64 (k : Int))), (0, some _), (1, some _)]) ⟨rfl, rfl, rfl, trivial⟩ ?_
  obtain ⟨hk, hall⟩ := hI
  refine .seq (fun K4 hK4 => .seq (fun K5 hK5 => .region (.mv rfl (.mv rfl (.q rfl (.len sl_24_A rfl) (.q rfl (.cmp rfl rfl rfl) (.nil (hK5 _ _ ?_))))))))
  refine .cond rfl (fun h9 => ?_) (fun h9 => ?_)
  ·
   simp only [sps] at h9
   have r1 := hr k (by omega)
   have r2 := hr (k - 1) (by omega)
   refine .skip ?_
   refine hK4 _ _ (.seq (fun K6 hK6 => ?_))
   refine .block ?_
   refine .seq (fun K7 hK7 => ?_)
   refine .regionD mo_B (.q 0 (.q 1 (.q 2 (.q 3 (.q 4 (.q 5 (.q 6 (.q 7 (.q 8 (.q 9 (.q 10 (.q 11 (.q 12 (.q 13 (.q 14 (.q 15 (.q 16 (.q 17 (.q 18 (.q 19 (.q 20 (.q 21 (.done))))))))))))))))))))))) (by kernel_rfl) ?_
   refine .mv rfl rfl (.q rfl (.nilCheck rfl) (.q rfl (.fieldAddr fo_27_2_B rfl) ?_))
   refine .q rfl (.load on_24_B rfl (by assumption)) ?_
   refine .mv rfl rfl (.mv rfl rfl ?_)
   refine .q rfl (.sub rfl rfl rfl (by omega) (by omega)) ?_
   rw [show (k : Int) - 1 = ((k - 1 : Nat) : Int) by omega]
   refine .q rfl (.idxN sl_24_A (by assumption) rfl rfl (by omega)) ?_
   refine .q rfl (.loadI on_2_A (by assumption) rfl (by omega)) ?_
   refine .q rfl (.idx1 sl_24_A (by assumption) rfl rfl (by omega) (by omega)) ?_
   refine .q rfl (.loadI on_2_A (by assumption) rfl (by omega)) ?_
   refine .mv rfl rfl (.q rfl (.nilCheck rfl) (.q rfl (.fieldAddr fo_27_1_B rfl) ?_))
   refine .q rfl (.load on_24_B rfl (by assumption)) ?_
   refine .mv rfl rfl (.mv rfl rfl ?_)
   refine .q rfl (.idxN sl_24_A (by assumption) rfl rfl (by omega)) ?_
   refine .q rfl (.loadI on_2_A (by assumption) rfl (by omega)) ?_
   refine .q rfl (.idx1 sl_24_A (by assumption) rfl rfl (by omega) (by omega)) ?_
   refine .q rfl (.loadI on_2_A (by assumption) rfl (by omega)) ?_
   refine .q rfl (.cmp rfl rfl rfl) ?_
   refine .done ?_
   refine hK7 _ _ ?_
   refine .cond rfl (fun h33 => ?_) (fun h33 => ?_)
   ·
    try simp only [sps] at h33
    refine .seq (fun K8 hK8 => .region (.mv rfl (.nil (hK8 _ _ ?_))))
    refine .ret ?_
    refine hret _ _ ?_
    refine ⟨_, rfl, ?_⟩
    obtain ⟨k, rfl⟩ : ∃ m, k = m + 1 := ⟨k - 1, by omega⟩
    exact .of (congrArg _ (B_false fun q => h33 (q.all k (by omega))))
   try simp only [sps] at h33
   refine .skip ?_
   refine hK6 _ _ (.region (.mv rfl ?_))
   refine .q rfl (.add rfl rfl rfl (by omega) (by omega)) ?_
   refine .mv rfl (.nil ?_)
   refine hKL1 (k + 1) _ _ ?_ ?_ ⟨rfl, rfl, rfl, trivial⟩
   ·
    refine ⟨rfl, ?_⟩
    refine ⟨by omega, fun i hi h2 => ?_⟩
    by_cases e : i + 1 < k
    · exact hall i e h2
    · obtain ⟨k, rfl⟩ : ∃ m, k = m + 1 := ⟨k - 1, by omega⟩
      obtain rfl : i = k := by omega
      exact h33
   omega
  try simp only [sps] at h9
  refine .exit ?_
  refine hK2 _ _ (.seq (fun K9 hK9 => .region (.mv rfl (.nil (hK9 _ _ ?_)))))
  refine .ret ?_
  refine hret _ _ ?_
  refine ⟨_, rfl, ?_⟩
  exact .of (congrArg _ (B_true ⟨fun i hi => hall i (by omega) hi⟩))
theorem l33Chain_c {c : Cat} {p : CatP} {a : Option Addr} {xs : List Int} {H : GHeap} (hin : c.In H p := by assumption) (hS : c.Shape := by assumption) (hx : Ints H a xs := by assumption) (hr : ∀ i, i < xs.length → 0 ≤ xs.getD i 0 ∧ xs.getD i 0 < c.src.length := by assumption) (hl : xs.length ≤ 1048576 := by omega) :
    GCalls Try.prog 41 [.agg (c.cells p).toArray, .slice a xs.length xs.length] H (Ret (.bool (B (c.Chain xs))) H) := by
  refine GCalls.ret rfl ?_
  have q1 := hS.tl
  refine GCalls.body (N := 30) (rs := [.tmp 4]) Try.func41 rfl rfl rfl rfl (fun Qx hret hend => ?_)
  refine .fg [0, 1] rfl ?_
  have hle := GHeap.Le.refl H
  have base_hin := hin
  have base_hx := hx
  refine .seq (fun K1 hK1 => .region ?_)
  refine .R rfl (.boxR rfl sz_27_D rfl) ?_
  rintro _ H2 ⟨g2, rfl, le2, ge2, at2⟩
  replace hle := hle.trans le2
  replace hin := base_hin.mono hle
  replace hx := base_hx.mono hle
  have hb2 : Cat.At _ g2 0 c p := ⟨Mem.of_get at2, hin⟩
  obtain ⟨-, c12, c22, -, -, i12, i22, -, -⟩ := hb2.get
  refine .mv rfl (.nil (hK1 _ _ (.seq (fun K2 hK2 => .seq (fun K3 hK3 => .region (.mv rfl (.nil (hK3 _ _ ?_))))))))
  refine .block ?_
  refine .loopR (σ := Nat) [(1, some _), (2, some _)] (fun k => [(5, some (.int .i64 (k : Int)))]) (fun k H' => H2 = H' ∧ (1 ≤ k ∧ k ≤ xs.length + 1) ∧ ∀ i : Nat, i + 1 < k → i + 1 < xs.length → c.T (xs.getD i 0) = c.S (xs.getD (i + 1) 0)) (fun k => xs.length + 1 - k) (1) ⟨rfl, rfl, trivial⟩ ⟨rfl, trivial⟩ ?_ ?_
  ·
   refine ⟨rfl, ?_⟩
   exact ⟨by omega, fun i h => by omega⟩
  rintro k _ ⟨rfl, hI⟩ KL1 hKL1
  refine .forget (fr' := [(5, some (.int .i64 (k : Int))), (1, some _), (2, some _)]) ⟨rfl, rfl, rfl, trivial⟩ ?_
  obtain ⟨hk, hall⟩ := hI
  refine .seq (fun K4 hK4 => .seq (fun K5 hK5 => .region (.mv rfl (.mv rfl (.q rfl (.len sl_24_A rfl) (.q rfl (.cmp rfl rfl rfl) (.nil (hK5 _ _ ?_))))))))
  refine .cond rfl (fun h9 => ?_) (fun h9 => ?_)
  ·
   simp only [sps] at h9
   have r1 := hr k (by omega)
   have r2 := hr (k - 1) (by omega)
   refine .skip ?_
   refine hK4 _ _ (.seq (fun K6 hK6 => ?_))
   refine .block ?_
   refine .seq (fun K7 hK7 => ?_)
   refine .regionD mo_B (.q 0 (.q 1 (.q 2 (.q 3 (.q 4 (.q 5 (.q 6 (.q 7 (.q 8 (.q 9 (.q 10 (.q 11 (.q 12 (.q 13 (.q 14 (.q 15 (.q 16 (.q 17 (.done))))))))))))))))))) (by kernel_rfl) ?_
   refine .q rfl (.fieldAddr fo_27_1_B rfl) ?_
   refine .q rfl (.load on_24_B rfl (by first | assumption | exact Mem.of_get at2 1 _ rfl)) ?_
   refine .mv rfl rfl (.mv rfl rfl ?_)
   refine .q rfl (.idxN sl_24_A (by assumption) rfl rfl (by omega)) ?_
   refine .q rfl (.loadI on_2_A (by assumption) rfl (by omega)) ?_
   refine .q rfl (.idx1 sl_24_A (by assumption) rfl rfl (by omega) (by omega)) ?_
   refine .q rfl (.loadI on_2_A (by assumption) rfl (by omega)) ?_
   refine .q rfl (.fieldAddr fo_27_2_B rfl) ?_
   refine .q rfl (.load on_24_B rfl (by first | assumption | exact Mem.of_get at2 2 _ rfl)) ?_
   refine .mv rfl rfl (.mv rfl rfl ?_)
   refine .q rfl (.sub rfl rfl rfl (by omega) (by omega)) ?_
   rw [show (k : Int) - 1 = ((k - 1 : Nat) : Int) by omega]
   refine .q rfl (.idxN sl_24_A (by assumption) rfl rfl (by omega)) ?_
   refine .q rfl (.loadI on_2_A (by assumption) rfl (by omega)) ?_
   refine .q rfl (.idx1 sl_24_A (by assumption) rfl rfl (by omega) (by omega)) ?_
   refine .q rfl (.loadI on_2_A (by assumption) rfl (by omega)) ?_
   refine .q rfl (.cmp rfl rfl rfl) ?_
   refine .done ?_
   refine hK7 _ _ ?_
   refine .cond rfl (fun h29 => ?_) (fun h29 => ?_)
   ·
    try simp only [sps] at h29
    refine .seq (fun K8 hK8 => .region (.mv rfl (.nil (hK8 _ _ ?_))))
    refine .ret ?_
    refine hret _ _ ?_
    refine ⟨_, rfl, ?_⟩
    obtain ⟨k, rfl⟩ : ∃ m, k = m + 1 := ⟨k - 1, by omega⟩
    exact ⟨congrArg _ (B_false fun q => h29 (q.all k (by omega)).symm), hle⟩
   try simp only [sps] at h29
   refine .skip ?_
   refine hK6 _ _ (.region (.mv rfl ?_))
   refine .q rfl (.add rfl rfl rfl (by omega) (by omega)) ?_
   refine .mv rfl (.nil ?_)
   refine hKL1 (k + 1) _ _ ?_ ?_ ⟨rfl, rfl, rfl, trivial⟩
   ·
    refine ⟨rfl, ?_⟩
    refine ⟨by omega, fun i hi h2 => ?_⟩
    by_cases e : i + 1 < k
    · exact hall i e h2
    · obtain ⟨k, rfl⟩ : ∃ m, k = m + 1 := ⟨k - 1, by omega⟩
      obtain rfl : i = k := by omega
      exact h29.symm
   omega
  try simp only [sps] at h9
  refine .exit ?_
  refine hK2 _ _ (.seq (fun K9 hK9 => .region (.mv rfl (.nil (hK9 _ _ ?_)))))
  refine .ret ?_
  refine hret _ _ ?_
  refine ⟨_, rfl, ?_⟩
  exact ⟨congrArg _ (B_true ⟨fun i hi => hall i (by omega) hi⟩), hle⟩
theorem simplexCode_c {g o n : Nat} {c : Cat} {p : CatP} {a : Option Addr} {xs : List Int} {i : Int} {H : GHeap} (h : Cat.At H g o c p := by assumption) (hs : c.Small := by assumption) (hx : Ints H a xs := by assumption) (hl : xs.length ≤ 1048576 := by omega) :
    GCalls Try.prog 38 [.pointer (some ⟨g, o, none⟩), .slice a xs.length xs.length, .int .i64 i, .int .i64 (n : Int)] H (Ret (.int .i64 (c.sxC xs i n)) H) := by
  refine GCalls.body (N := 31) (rs := [.tmp 8]) Try.func38 rfl rfl rfl rfl (fun Qx hret hend => ?_)
  refine .fg [0, 1, 2, 3] rfl ?_
  refine .seq (fun K1 hK1 => .region (.mv rfl (.nil (hK1 _ _ (.seq (fun K2 hK2 => .seq (fun K3 hK3 => .region (.mv rfl (.mv rfl ?_)))))))))
  refine .callQ rfl rfl rfl rfl @Try.call47 rfl (arrowCode_c) ?_
  refine .mv rfl (.nil (hK3 _ _ (.seq (fun K4 hK4 => .region (.mv rfl (.q rfl (.cmp rfl rfl rfl) (.nil (hK4 _ _ ?_))))))))
  refine .cond rfl (fun h14 => ?_) (fun h14 => ?_)
  ·
   try simp only [sps] at h14
   refine .seq (fun K5 hK5 => .region (.mv rfl (.mv rfl (.nil (hK5 _ _ ?_)))))
   refine .ret ?_
   refine hret _ _ ?_
   refine ⟨_, rfl, ?_⟩
   exact .of (congrArg _ (Cat.sx_err h14))
  simp only [sps] at h14
  obtain ⟨hI, hrr⟩ := Cat.code_ok.1 h14
  have hr := allIn_iff.1 hrr
  have hS := hI.1
  refine .skip ?_
  refine hK2 _ _ (.seq (fun K6 hK6 => .seq (fun K7 hK7 => .region (.mv rfl (.mv rfl (.q rfl (.len sl_24_A rfl) ?_))))))
  refine .callQ rfl rfl rfl rfl @Try.call75 rfl (inRange_c) ?_
  refine .q rfl (.not rfl) (.nil (hK7 _ _ ?_))
  refine .cond rfl (fun h20 => ?_) (fun h20 => ?_)
  ·
   try simp only [sps] at h20
   refine .seq (fun K8 hK8 => .region (.mv rfl (.nil (hK8 _ _ ?_))))
   refine .ret ?_
   refine hret _ _ ?_
   refine ⟨_, rfl, ?_⟩
   exact .of (congrArg _ (Cat.sx_rng h14 (by omega)))
  simp only [sps] at h20
  refine .skip ?_
  refine hK6 _ _ (.seq (fun K9 hK9 => .seq (fun K10 hK10 => .region (.mv rfl (.q rfl (.len sl_24_A rfl) (.mv rfl (.q rfl (.cmp rfl rfl rfl) (.mv rfl ?_))))))))
  refine .split (fun h25 => ?_) (fun h25 => ?_)
  ·
   try simp only [sps] at h25
   refine .z rfl (.z rfl (.z rfl (.z rfl (.q rfl (.pickT rfl rfl) (.nil (hK10 _ _ ?_))))))
   refine .condT rfl ?_
   refine .seq (fun K11 hK11 => .region (.mv rfl (.nil (hK11 _ _ ?_))))
   refine .ret ?_
   refine hret _ _ ?_
   refine ⟨_, rfl, ?_⟩
   exact .of (congrArg _ (Cat.sx_no h14 h20 (fun q => by have := q.1; omega)))
  try simp only [sps] at h25
  refine .qg rfl (.move rfl) (.qg rfl (.move rfl) ?_)
  refine .callQg rfl rfl rfl rfl rfl rfl @Try.call76 rfl (isChain_c) ?_
  refine .qg rfl (.not rfl) (.q rfl (.pickF rfl rfl) (.nil (hK10 _ _ ?_)))
  refine .cond rfl (fun h30 => ?_) (fun h30 => ?_)
  ·
   try simp only [sps] at h30
   refine .seq (fun K12 hK12 => .region (.mv rfl (.nil (hK12 _ _ ?_))))
   refine .ret ?_
   refine hret _ _ ?_
   refine ⟨_, rfl, ?_⟩
   exact .of (congrArg _ (Cat.sx_no h14 h20 (fun q => h30 q.2)))
  try simp only [sps] at h30
  refine .skip ?_
  refine hK9 _ _ (.seq (fun K13 hK13 => .region (.mv rfl (.nil (hK13 _ _ ?_)))))
  refine .ret ?_
  refine hret _ _ ?_
  refine ⟨_, rfl, ?_⟩
  exact .of (congrArg _ (Cat.sx_ok.2 ⟨h14, h20, by omega, h30⟩))
theorem cloneN_c {a : Option Addr} {n : Nat} {xs : List Int} {H : GHeap} (h : Ints H a xs) (hn : xs.length = n) (hl : n ≤ 1048576) :
    GCalls Try.prog 39 [.slice a n n] H (NewInts 2 H xs) := by
  subst hn
  exact clone_c h hl
theorem l01OwnN_c {a : Option Addr} {n : Nat} {xs : List Int} {H : GHeap} (h : Ints H a xs) (hn : xs.length = n) (hl : n ≤ 1048576) :
    GCalls Try.prog 42 [.slice a n n] H (NewInts 2 H xs) := by
  subst hn
  exact l01Own_c h hl
set_option maxHeartbeats 4000000 in
theorem degenerateChain_c {g : Nat} {c : Cat} {p : CatP} {xs : List Int} {i : Int} {H : GHeap} (hin : c.In H p := by assumption) (hs : c.Small := by assumption) (hg : H.get g = some (.row (ints xs) 2 true)) (hl : xs.length ≤ 1048576) :
    GCalls Try.prog 9 [.agg (c.cells p).toArray, .slice (some ⟨g, 0, none⟩) xs.length xs.length, .int .i64 i] H (NewLE 2 (c.sxC xs i 1) (codeL (c.sxC xs i 1) (c.degL xs i.toNat)) H) := by
  refine GCalls.body (N := 55) (rs := [.tmp 6, .tmp 7]) Try.func9 rfl rfl rfl rfl (fun Qx hret hend => ?_)
  refine .fg [0, 1, 2] rfl ?_
  have hle := GHeap.Le.refl H
  have base_hin := hin
  refine .seq (fun K1 hK1 => .region ?_)
  refine .R rfl (.boxR rfl sz_27_D rfl) ?_
  rintro _ H3 ⟨g3, rfl, le3, ge3, at3⟩
  replace hle := hle.trans le3
  replace hg := le3.2 _ _ hg
  have lt_at3 := GHeap.ltg at3
  replace hin := base_hin.mono hle
  have hb3 : Cat.At _ g3 0 c p := ⟨Mem.of_get at3, hin⟩
  obtain ⟨-, c13, c23, c33, -, i13, i23, i33, -⟩ := hb3.get
  refine .mv rfl (.mv rfl (.nil (hK1 _ _ (.seq (fun K2 hK2 => .seq (fun K3 hK3 => .region (.mv rfl (.mv rfl ?_))))))))
  refine .callQ rfl rfl rfl rfl @Try.call38 rfl (simplexCode_c (n := 1) (hx := Ints.of_get hg)) ?_
  refine .mv rfl (.nil (hK3 _ _ (.seq (fun K4 hK4 => .region (.mv rfl (.q rfl (.cmp rfl rfl rfl) (.nil (hK4 _ _ ?_))))))))
  refine .cond rfl (fun h15 => ?_) (fun h15 => ?_)
  ·
   try simp only [sps] at h15
   refine .seq (fun K5 hK5 => .region (.mv rfl (.mv rfl (.mv rfl (.nil (hK5 _ _ ?_))))))
   refine .ret ?_
   refine hret _ _ ?_
   refine ⟨_, _, rfl, rfl, ?_⟩
   exact .err rfl h15
  simp only [sps] at h15
  obtain ⟨hI, hch, hi, hn⟩ := Cat.ch_of h15
  have hS := hI.1
  have q1 := hS.tl
  have q2 := hS.il
  obtain ⟨I, rfl⟩ : ∃ I : Nat, i = (I : Int) := ⟨i.toNat, by omega⟩
  have r1 := hch.rg (xs.length - 1) (by omega)
  have hdx := Cat.degX_in hS hch (i := I) (by omega) hn
  have hix := Cat.id_in hS hdx.1 hdx.2
  have htk : (xs.take I).length = I := by rw [List.length_take]; omega
  refine .skip ?_
  refine hK2 _ _ (.seq (fun K6 hK6 => ?_))
  refine .regionD mo_B (.q 0 (.q 1 (.q 2 (.q 3 (.q 4 (.q 5 (.q 6 (.q 7 (.q 8 (.q 9 (.q 10 (.done)))))))))))) (by kernel_rfl) ?_
  refine .q rfl (.fieldAddr fo_27_2_B rfl) ?_
  refine .q rfl (.load on_24_B rfl (by first | assumption | exact Mem.of_get at3 2 _ rfl)) ?_
  refine .mv rfl rfl (.mv rfl rfl (.q rfl (.len sl_24_A rfl) ?_))
  refine .q rfl (.sub rfl rfl rfl (by omega) (by omega)) ?_
  rw [show (xs.length : Int) - 1 = ((xs.length - 1 : Nat) : Int) by omega]
  refine .q rfl (.idxN sl_24_A (by first | assumption | exact SlA.of_row hg (by first | rfl | (simp; done) | (simp <;> omega))) rfl rfl (by omega)) ?_
  refine .q rfl (.loadI on_2_A (by first | assumption | exact Ints.of_get hg) rfl (by omega)) ?_
  refine .q rfl (.idx1 sl_24_A (by assumption) rfl rfl (by omega) (by omega)) ?_
  refine .q rfl (.loadI on_2_A (by assumption) rfl (by omega)) ?_
  refine .mv rfl rfl ?_
  refine .done ?_
  refine hK6 _ _ (.seq (fun K7 hK7 => .seq (fun K8 hK8 => .region (.mv rfl (.mv rfl (.q rfl (.len sl_24_A rfl) (.q rfl (.cmp rfl rfl rfl) (.nil (hK8 _ _ ?_)))))))))
  refine .cond rfl (fun h30 => ?_) (fun h30 => ?_)
  ·
   simp only [sps] at h30
   have r2 := hch.rg I (by omega)
   refine .regionD mo_B (.q 0 (.q 1 (.q 2 (.q 3 (.q 4 (.q 5 (.q 6 (.q 7 (.q 8 (.done)))))))))) (by kernel_rfl) ?_
   refine .q rfl (.fieldAddr fo_27_1_B rfl) ?_
   refine .q rfl (.load on_24_B rfl (by first | assumption | exact Mem.of_get at3 1 _ rfl)) ?_
   refine .mv rfl rfl (.mv rfl rfl ?_)
   refine .q rfl (.idxN sl_24_A (by first | assumption | exact SlA.of_row hg (by first | rfl | (simp; done) | (simp <;> omega))) rfl rfl (by omega)) ?_
   refine .q rfl (.loadI on_2_A (by first | assumption | exact Ints.of_get hg) rfl (by omega)) ?_
   refine .q rfl (.idx1 sl_24_A (by assumption) rfl rfl (by omega) (by omega)) ?_
   refine .q rfl (.loadI on_2_A (by assumption) rfl (by omega)) ?_
   rw [show c.src.getD (xs.getD I 0).toNat 0 = c.degX xs I by unfold Cat.degX; rw [if_pos (by omega)]]
   refine .mv rfl rfl ?_
   refine .done ?_
   refine hK7 _ _ (.seq (fun K9 hK9 => ?_))
   refine .regionD mo_B (.q 0 (.q 1 (.q 2 (.q 4 (.q 5 (.q 6 (.q 7 (.q 8 (.or (.c 3 1 (.c 9 1 (.c 10 1 (.q 11 (.done))))) (.c 9 1 (.c 3 1 (.c 10 1 (.q 11 (.done)))))))))))))) (by kernel_rfl) ?_
   refine .cut [(0, some _), (1, some _), (2, some _), (3, some _), (6, some _), (7, some _), (8, some _), (9, some _), (11, some _), (12, some _), (13, some _), (14, some _), (15, some _), (17, some _), (18, some _), (19, some _), (20, some _), (21, some _), (22, some _), (23, some _), (24, some _), (25, some _), (26, some _), (27, some _), (28, some _), (29, some _), (30, some _), (31, some _), (32, some _), (33, some _), (34, some _), (35, some _), (36, some _), (37, some _), (38, some _)] ⟨rfl, rfl, rfl, rfl, rfl, rfl, rfl, rfl, rfl, rfl, rfl, rfl, rfl, rfl, rfl, rfl, rfl, rfl, rfl, rfl, rfl, rfl, rfl, rfl, rfl, rfl, rfl, rfl, rfl, rfl, rfl, rfl, rfl, rfl, rfl, trivial⟩ (fun rest fr' H' => ∃ g49, Sub ((49, some (.slice (some ⟨g49, 0, none⟩) ((xs.take I).length + 1) ((xs.take I).length + 1))) :: (10, some (.slice (some ⟨g49, 0, none⟩) ((xs.take I).length + 1) ((xs.take I).length + 1))) :: rest) fr' ∧ H3.Le H' ∧ H3.next ≤ g49 ∧ H'.get g49 = some (.row (ints (xs.take I ++ [c.idn.getD (c.degX xs I).toNat 0])) 2 true)) ?_ ?_
   ·
    have hf0 := GHeap.Le.refl H3
    refine .qB rfl (.refl _) (.move rfl) (.qB rfl (.refl _) (.move rfl) ?_)
    refine .q rfl (.sliceTo sl_24_A rfl rfl (by omega)) ?_
    refine .qB rfl (.refl _) (.fieldAddr fo_27_3_B rfl) ?_
    refine .q rfl (.load on_24_B rfl (by first | assumption | exact Mem.of_get at3 3 _ rfl)) ?_
    refine .qB rfl (.refl _) (.move rfl) ?_
    refine .q rfl (.idx1 sl_24_A (by assumption) rfl rfl (by omega) (by omega)) ?_
    refine .q rfl (.loadI on_2_A (by assumption) rfl (by omega)) ?_
    refine .orI ?_ ?_
    ·
     refine .call1 rfl rfl rfl rfl rfl @Try.call39 rfl (cloneN_c (xs := xs.take I) (Ints.takeI hg) htk (by omega)) ?_
     rintro _ H42 ⟨le42, g42, rfl, at42, ge42⟩
     have hbl := le42
     refine ⟨hbl, ?_⟩
     have lt_at42 := GHeap.ltg at42
     replace hf0 := hf0.trans le42
     refine .c1 rfl rfl rfl rfl (.litA rfl sl_24_A ze_2_Pa rfl rfl rfl rfl) ?_
     rintro _ H48 ⟨g48, rfl, le48, ge48, at48⟩
     replace hbl := hbl.trans le48
     refine ⟨hbl, ?_⟩
     replace at42 := le48.2 _ _ at42
     have lt_at48 := GHeap.ltg at48
     replace hf0 := hf0.trans le48
     refine .c1 rfl rfl rfl rfl (.appendI rfl sl_24_A ze_2_Pa rfl by_2_Pa sl_24_A rfl rfl (by assumption) (by assumption) (by first | omega | (simp <;> omega)) (by omega) (by omega)) ?_
     rintro _ H49x2 ⟨g49x2, rfl, st49x2, ge49x2, at49x2⟩
     replace hbl := hbl.st st49x2 (fun k hk => ⟨by omega, trivial⟩)
     refine ⟨hbl, ?_⟩
     replace hf0 := hf0.st st49x2 (fun k hk => ⟨by omega, trivial⟩)
     refine .qB rfl hbl (.assign rfl) ?_
     refine .done ?_
     exact ⟨g49x2, ⟨rfl, rfl, rfl, rfl, rfl, rfl, rfl, rfl, rfl, rfl, rfl, rfl, rfl, rfl, rfl, rfl, rfl, rfl, rfl, rfl, rfl, rfl, rfl, rfl, rfl, rfl, rfl, rfl, rfl, rfl, rfl, rfl, rfl, rfl, rfl, rfl, rfl, trivial⟩, hf0, by omega, by first | assumption | simpa using at49x2⟩
    refine .c1 rfl rfl rfl rfl (.litA rfl sl_24_A ze_2_Pa rfl rfl rfl rfl) ?_
    rintro _ H48x2 ⟨g48x2, rfl, le48x2, ge48x2, at48x2⟩
    have hbl := le48x2
    refine ⟨hbl, ?_⟩
    replace hle := hle.trans le48x2
    replace hg := le48x2.2 _ _ hg
    replace at3 := le48x2.2 _ _ at3
    have lt_at48x2 := GHeap.ltg at48x2
    replace hf0 := hf0.trans le48x2
    replace hin := base_hin.mono hle
    clear hb3 c13 c23 c33 i13 i23 i33
    have hb3 : Cat.At _ g3 0 c p := ⟨Mem.of_get at3, hin⟩
    refine .call1 rfl rfl rfl rfl rfl @Try.call39 rfl (cloneN_c (xs := xs.take I) (Ints.takeI hg) htk (by omega)) ?_
    rintro _ H42x2 ⟨le42x2, g42x2, rfl, at42x2, ge42x2⟩
    replace hbl := hbl.trans le42x2
    refine ⟨hbl, ?_⟩
    replace at48x2 := le42x2.2 _ _ at48x2
    have lt_at42x2 := GHeap.ltg at42x2
    replace hf0 := hf0.trans le42x2
    refine .c1 rfl rfl rfl rfl (.appendI rfl sl_24_A ze_2_Pa rfl by_2_Pa sl_24_A rfl rfl (by assumption) (by assumption) (by first | omega | (simp <;> omega)) (by omega) (by omega)) ?_
    rintro _ H49x3 ⟨g49x3, rfl, st49x3, ge49x3, at49x3⟩
    replace hbl := hbl.st st49x3 (fun k hk => ⟨by omega, trivial⟩)
    refine ⟨hbl, ?_⟩
    replace hf0 := hf0.st st49x3 (fun k hk => ⟨by omega, trivial⟩)
    refine .qB rfl hbl (.assign rfl) ?_
    refine .done ?_
    exact ⟨g49x3, ⟨rfl, rfl, rfl, rfl, rfl, rfl, rfl, rfl, rfl, rfl, rfl, rfl, rfl, rfl, rfl, rfl, rfl, rfl, rfl, rfl, rfl, rfl, rfl, rfl, rfl, rfl, rfl, rfl, rfl, rfl, rfl, rfl, rfl, rfl, rfl, rfl, rfl, trivial⟩, hf0, by omega, by first | assumption | simpa using at49x3⟩
   rintro fr49 H49 ⟨g49, hsub49, le49, ge49, at49⟩
   replace hle := hle.trans le49
   replace hg := le49.2 _ _ hg
   replace at3 := le49.2 _ _ at3
   have lt_at49 := GHeap.ltg at49
   replace hin := base_hin.mono hle
   have hb3 : Cat.At _ g3 0 c p := ⟨Mem.of_get at3, hin⟩
   refine hK9 _ _ ?_
   refine .forget hsub49 ?_
   refine .seq (fun K10 hK10 => .region (.mv rfl (.mv rfl (.mv rfl ?_))))
   refine .q rfl (.slice (l := I) (h := xs.length) sl_24_A rfl hg ⟨_, rfl⟩ rfl (by omega) (by omega)) ?_
   rw [show xs.length - I = (xs.drop I).length by rw [List.length_drop]]
   have hdr := Ints.dropI (k := I) hg
   have hdl : (xs.drop I).length = xs.length - I := by rw [List.length_drop]
   refine .R rfl (.appendL rfl sl_24_A ze_2_Pa rfl by_2_Pa sl_24_A rfl rfl (by assumption) (by first | assumption | exact Ints.of_get (by assumption)) (by first | omega | (simp <;> omega)) (by omega) (by omega)) ?_
   rintro _ H54 ⟨g54, rfl, st54, ge54, at54⟩
   replace hle := hle.st st54 (fun k hk => ⟨by omega, trivial⟩)
   replace at3 := st54.s at3
   replace hin := base_hin.mono hle
   clear hb3
   have hb3 : Cat.At _ g3 0 c p := ⟨Mem.of_get at3, hin⟩
   refine .mv rfl (.mv rfl (.nil (hK10 _ _ ?_)))
   refine .ret ?_
   refine hret _ _ ?_
   refine ⟨_, _, rfl, rfl, ?_⟩
   exact .mk h15 (Cat.degL_eq (by omega)) (by omega)
  simp only [sps] at h30
  rw [show c.tgt.getD (xs.getD (xs.length - 1) 0).toNat 0 = c.degX xs I by unfold Cat.degX; rw [if_neg (by omega)]]
  refine .skip ?_
  refine hK7 _ _ (.seq (fun K11 hK11 => ?_))
  refine .regionD mo_B (.q 0 (.q 1 (.q 2 (.q 4 (.q 5 (.q 6 (.q 7 (.q 8 (.or (.c 3 1 (.c 9 1 (.c 10 1 (.q 11 (.done))))) (.c 9 1 (.c 3 1 (.c 10 1 (.q 11 (.done)))))))))))))) (by kernel_rfl) ?_
  refine .cut [(0, some _), (1, some _), (2, some _), (3, some _), (6, some _), (7, some _), (8, some _), (9, some _), (11, some _), (12, some _), (13, some _), (14, some _), (15, some _), (17, some _), (18, some _), (19, some _), (20, some _), (21, some _), (22, some _), (23, some _), (24, some _), (25, some _), (26, some _), (27, some _), (28, some _), (29, some _), (30, some _)] ⟨rfl, rfl, rfl, rfl, rfl, rfl, rfl, rfl, rfl, rfl, rfl, rfl, rfl, rfl, rfl, rfl, rfl, rfl, rfl, rfl, rfl, rfl, rfl, rfl, rfl, rfl, rfl, trivial⟩ (fun rest fr' H' => ∃ g49x4, Sub ((49, some (.slice (some ⟨g49x4, 0, none⟩) ((xs.take I).length + 1) ((xs.take I).length + 1))) :: (10, some (.slice (some ⟨g49x4, 0, none⟩) ((xs.take I).length + 1) ((xs.take I).length + 1))) :: rest) fr' ∧ H3.Le H' ∧ H3.next ≤ g49x4 ∧ H'.get g49x4 = some (.row (ints (xs.take I ++ [c.idn.getD (c.degX xs I).toNat 0])) 2 true)) ?_ ?_
  ·
   have hf0 := GHeap.Le.refl H3
   refine .qB rfl (.refl _) (.move rfl) (.qB rfl (.refl _) (.move rfl) ?_)
   refine .q rfl (.sliceTo sl_24_A rfl rfl (by omega)) ?_
   refine .qB rfl (.refl _) (.fieldAddr fo_27_3_B rfl) ?_
   refine .q rfl (.load on_24_B rfl (by first | assumption | exact Mem.of_get at3 3 _ rfl)) ?_
   refine .qB rfl (.refl _) (.move rfl) ?_
   refine .q rfl (.idx1 sl_24_A (by assumption) rfl rfl (by omega) (by omega)) ?_
   refine .q rfl (.loadI on_2_A (by assumption) rfl (by omega)) ?_
   refine .orI ?_ ?_
   ·
    refine .call1 rfl rfl rfl rfl rfl @Try.call39 rfl (cloneN_c (xs := xs.take I) (Ints.takeI hg) htk (by omega)) ?_
    rintro _ H42x3 ⟨le42x3, g42x3, rfl, at42x3, ge42x3⟩
    have hbl := le42x3
    refine ⟨hbl, ?_⟩
    have lt_at42x3 := GHeap.ltg at42x3
    replace hf0 := hf0.trans le42x3
    refine .c1 rfl rfl rfl rfl (.litA rfl sl_24_A ze_2_Pa rfl rfl rfl rfl) ?_
    rintro _ H48x3 ⟨g48x3, rfl, le48x3, ge48x3, at48x3⟩
    replace hbl := hbl.trans le48x3
    refine ⟨hbl, ?_⟩
    replace at42x3 := le48x3.2 _ _ at42x3
    have lt_at48x3 := GHeap.ltg at48x3
    replace hf0 := hf0.trans le48x3
    refine .c1 rfl rfl rfl rfl (.appendI rfl sl_24_A ze_2_Pa rfl by_2_Pa sl_24_A rfl rfl (by assumption) (by assumption) (by first | omega | (simp <;> omega)) (by omega) (by omega)) ?_
    rintro _ H49x5 ⟨g49x5, rfl, st49x5, ge49x5, at49x5⟩
    replace hbl := hbl.st st49x5 (fun k hk => ⟨by omega, trivial⟩)
    refine ⟨hbl, ?_⟩
    replace hf0 := hf0.st st49x5 (fun k hk => ⟨by omega, trivial⟩)
    refine .qB rfl hbl (.assign rfl) ?_
    refine .done ?_
    exact ⟨g49x5, ⟨rfl, rfl, rfl, rfl, rfl, rfl, rfl, rfl, rfl, rfl, rfl, rfl, rfl, rfl, rfl, rfl, rfl, rfl, rfl, rfl, rfl, rfl, rfl, rfl, rfl, rfl, rfl, rfl, rfl, trivial⟩, hf0, by omega, by first | assumption | simpa using at49x5⟩
   refine .c1 rfl rfl rfl rfl (.litA rfl sl_24_A ze_2_Pa rfl rfl rfl rfl) ?_
   rintro _ H48x4 ⟨g48x4, rfl, le48x4, ge48x4, at48x4⟩
   have hbl := le48x4
   refine ⟨hbl, ?_⟩
   replace hle := hle.trans le48x4
   replace hg := le48x4.2 _ _ hg
   replace at3 := le48x4.2 _ _ at3
   have lt_at48x4 := GHeap.ltg at48x4
   replace hf0 := hf0.trans le48x4
   replace hin := base_hin.mono hle
   have hb3 : Cat.At _ g3 0 c p := ⟨Mem.of_get at3, hin⟩
   refine .call1 rfl rfl rfl rfl rfl @Try.call39 rfl (cloneN_c (xs := xs.take I) (Ints.takeI hg) htk (by omega)) ?_
   rintro _ H42x4 ⟨le42x4, g42x4, rfl, at42x4, ge42x4⟩
   replace hbl := hbl.trans le42x4
   refine ⟨hbl, ?_⟩
   replace at48x4 := le42x4.2 _ _ at48x4
   have lt_at42x4 := GHeap.ltg at42x4
   replace hf0 := hf0.trans le42x4
   refine .c1 rfl rfl rfl rfl (.appendI rfl sl_24_A ze_2_Pa rfl by_2_Pa sl_24_A rfl rfl (by assumption) (by assumption) (by first | omega | (simp <;> omega)) (by omega) (by omega)) ?_
   rintro _ H49x6 ⟨g49x6, rfl, st49x6, ge49x6, at49x6⟩
   replace hbl := hbl.st st49x6 (fun k hk => ⟨by omega, trivial⟩)
   refine ⟨hbl, ?_⟩
   replace hf0 := hf0.st st49x6 (fun k hk => ⟨by omega, trivial⟩)
   refine .qB rfl hbl (.assign rfl) ?_
   refine .done ?_
   exact ⟨g49x6, ⟨rfl, rfl, rfl, rfl, rfl, rfl, rfl, rfl, rfl, rfl, rfl, rfl, rfl, rfl, rfl, rfl, rfl, rfl, rfl, rfl, rfl, rfl, rfl, rfl, rfl, rfl, rfl, rfl, rfl, trivial⟩, hf0, by omega, by first | assumption | simpa using at49x6⟩
  rintro fr49x4 H49x4 ⟨g49x4, hsub49x4, le49x4, ge49x4, at49x4⟩
  replace hle := hle.trans le49x4
  replace hg := le49x4.2 _ _ hg
  replace at3 := le49x4.2 _ _ at3
  have lt_at49x4 := GHeap.ltg at49x4
  replace hin := base_hin.mono hle
  have hb3 : Cat.At _ g3 0 c p := ⟨Mem.of_get at3, hin⟩
  refine hK11 _ _ ?_
  refine .forget hsub49x4 ?_
  refine .seq (fun K12 hK12 => .region (.mv rfl (.mv rfl (.mv rfl ?_))))
  refine .q rfl (.slice (l := I) (h := xs.length) sl_24_A rfl hg ⟨_, rfl⟩ rfl (by omega) (by omega)) ?_
  rw [show xs.length - I = (xs.drop I).length by rw [List.length_drop]]
  have hdr := Ints.dropI (k := I) hg
  have hdl : (xs.drop I).length = xs.length - I := by rw [List.length_drop]
  refine .R rfl (.appendL rfl sl_24_A ze_2_Pa rfl by_2_Pa sl_24_A rfl rfl (by assumption) (by first | assumption | exact Ints.of_get (by assumption)) (by first | omega | (simp <;> omega)) (by omega) (by omega)) ?_
  rintro _ H54x2 ⟨g54x2, rfl, st54x2, ge54x2, at54x2⟩
  replace hle := hle.st st54x2 (fun k hk => ⟨by omega, trivial⟩)
  replace at3 := st54x2.s at3
  replace hin := base_hin.mono hle
  clear hb3
  have hb3 : Cat.At _ g3 0 c p := ⟨Mem.of_get at3, hin⟩
  refine .mv rfl (.mv rfl (.nil (hK12 _ _ ?_)))
  refine .ret ?_
  refine hret _ _ ?_
  refine ⟨_, _, rfl, rfl, ?_⟩
  exact .mk h15 (Cat.degL_eq (by omega)) (by omega)
set_option maxHeartbeats 4000000 in
theorem faceOfChain_c {g : Nat} {c : Cat} {p : CatP} {xs : List Int} {i : Int} {H : GHeap} (hin : c.In H p := by assumption) (hs : c.Small := by assumption) (hg : H.get g = some (.row (ints xs) 2 true)) (hl : xs.length ≤ 1048576) :
    GCalls Try.prog 12 [.agg (c.cells p).toArray, .slice (some ⟨g, 0, none⟩) xs.length xs.length, .int .i64 i] H (NewLE 2 (c.sxC xs i 2) (codeL (c.sxC xs i 2) (c.faceL xs i.toNat)) H) := by
  refine GCalls.body (N := 56) (rs := [.tmp 6, .tmp 7]) Try.func12 rfl rfl rfl rfl (fun Qx hret hend => ?_)
  refine .fg [0, 1, 2] rfl ?_
  have hle := GHeap.Le.refl H
  have base_hin := hin
  refine .seq (fun K1 hK1 => .region ?_)
  refine .R rfl (.boxR rfl sz_27_D rfl) ?_
  rintro _ H3 ⟨g3, rfl, le3, ge3, at3⟩
  replace hle := hle.trans le3
  replace hg := le3.2 _ _ hg
  have lt_at3 := GHeap.ltg at3
  replace hin := base_hin.mono hle
  have hb3 : Cat.At _ g3 0 c p := ⟨Mem.of_get at3, hin⟩
  refine .mv rfl (.mv rfl (.nil (hK1 _ _ (.seq (fun K2 hK2 => .seq (fun K3 hK3 => .region (.mv rfl (.mv rfl ?_))))))))
  refine .callQ rfl rfl rfl rfl @Try.call38 rfl (simplexCode_c (n := 2) (hx := Ints.of_get hg)) ?_
  refine .mv rfl (.nil (hK3 _ _ (.seq (fun K4 hK4 => .region (.mv rfl (.q rfl (.cmp rfl rfl rfl) (.nil (hK4 _ _ ?_))))))))
  refine .cond rfl (fun h15 => ?_) (fun h15 => ?_)
  ·
   try simp only [sps] at h15
   refine .seq (fun K5 hK5 => .region (.mv rfl (.mv rfl (.mv rfl (.nil (hK5 _ _ ?_))))))
   refine .ret ?_
   refine hret _ _ ?_
   refine ⟨_, _, rfl, rfl, ?_⟩
   exact .err rfl h15
  simp only [sps] at h15
  obtain ⟨hI, hch, hi, hn⟩ := Cat.ch_of (i := i) (n := 2) h15
  have hS := hI.1
  obtain ⟨I, rfl⟩ : ∃ I : Nat, i = (I : Int) := ⟨i.toNat, by omega⟩
  have d1 : (xs.drop 1).length = xs.length - 1 := List.length_drop
  have d2 : (xs.take (xs.length - 1)).length = xs.length - 1 := by rw [List.length_take]; omega
  have d3 : (xs.take (I - 1)).length = I - 1 := by rw [List.length_take]; omega
  have d4 : (xs.drop (I + 1)).length = xs.length - (I + 1) := List.length_drop
  refine .skip ?_
  refine hK2 _ _ (.seq (fun K6 hK6 => .region (.mv rfl (.q rfl (.len sl_24_A rfl) (.mv rfl (.nil (hK6 _ _ (.seq (fun K7 hK7 => .seq (fun K8 hK8 => .region (.mv rfl (.nil (hK8 _ _ ?_)))))))))))))
  refine .block ?_
  refine .seq (fun K9 hK9 => .region (.q rfl (.cmp rfl rfl rfl) (.mv rfl (.nil (hK9 _ _ ?_)))))
  refine .cond rfl (fun h20 => ?_) (fun h20 => ?_)
  ·
   try simp only [sps] at h20
   refine .seq (fun K10 hK10 => .region (.mv rfl ?_))
   refine .q rfl (.slice (l := 1) (h := xs.length) sl_24_A rfl hg ⟨_, rfl⟩ rfl (by omega) (by omega)) ?_
   refine .call rfl rfl rfl rfl @Try.call39 rfl (cloneN_c (xs := xs.drop 1) (Ints.dropI hg) d1 (by omega)) ?_
   rintro _ H24 ⟨le24, g24, rfl, at24, ge24⟩
   replace hle := hle.trans le24
   replace at3 := le24.2 _ _ at3
   replace hin := base_hin.mono hle
   clear hb3
   have hb3 : Cat.At _ g3 0 c p := ⟨Mem.of_get at3, hin⟩
   refine .mv rfl (.mv rfl (.nil (hK10 _ _ ?_)))
   refine .ret ?_
   refine hret _ _ ?_
   refine ⟨_, _, rfl, rfl, ?_⟩
   exact .mk h15 ((Cat.faceL_zero c xs).trans (congrArg _ (by omega))) (by omega)
  try simp only [sps] at h20
  refine .seq (fun K11 hK11 => .region (.mv rfl (.q rfl (.cmp rfl rfl rfl) (.mv rfl (.nil (hK11 _ _ ?_))))))
  refine .cond rfl (fun h25 => ?_) (fun h25 => ?_)
  ·
   try simp only [sps] at h25
   refine .seq (fun K12 hK12 => .region (.mv rfl (.mv rfl ?_)))
   refine .q rfl (.sub rfl rfl rfl (by omega) (by omega)) ?_
   rw [show (xs.length : Int) - 1 = ((xs.length - 1 : Nat) : Int) by omega]
   refine .q rfl (.sliceTo sl_24_A rfl rfl (by omega)) ?_
   refine .call rfl rfl rfl rfl @Try.call39 rfl (cloneN_c (xs := xs.take (xs.length - 1)) (Ints.takeI hg) d2 (by omega)) ?_
   rintro _ H32 ⟨le32, g32, rfl, at32, ge32⟩
   replace hle := hle.trans le32
   replace at3 := le32.2 _ _ at3
   replace hin := base_hin.mono hle
   have hb3 : Cat.At _ g3 0 c p := ⟨Mem.of_get at3, hin⟩
   refine .mv rfl (.mv rfl (.nil (hK12 _ _ ?_)))
   refine .ret ?_
   refine hret _ _ ?_
   refine ⟨_, _, rfl, rfl, ?_⟩
   exact .mk h15 ((Cat.faceL_len c xs).trans (congrArg _ (by omega))) (by omega)
  try simp only [sps] at h25
  refine .skip ?_
  refine hK7 _ _ (.seq (fun K13 hK13 => ?_))
  refine .regionD mo_B (.q 0 (.q 1 (.q 2 (.q 3 (.q 5 (.q 6 (.q 7 (.q 8 (.q 9 (.q 10 (.q 11 (.q 12 (.q 13 (.c 4 1 (.c 14 1 (.c 15 1 (.c 16 1 (.q 17 (.done))))))))))))))))))) (by kernel_rfl) ?_
  refine .cut [(0, some _), (1, some _), (2, some _), (3, some _), (6, some _), (7, some _), (8, some _), (9, some _), (11, some _), (12, some _), (13, some _), (14, some _), (15, some _), (17, some _), (18, some _), (19, some _), (20, some _), (21, some _), (25, some _), (26, some _), (27, some _)] ⟨rfl, rfl, rfl, rfl, rfl, rfl, rfl, rfl, rfl, rfl, rfl, rfl, rfl, rfl, rfl, rfl, rfl, rfl, rfl, rfl, rfl, trivial⟩ (fun rest fr' H' => ∃ g49, Sub ((49, some (.slice (some ⟨g49, 0, none⟩) ((xs.take (I - 1)).length + 1) ((xs.take (I - 1)).length + 1))) :: (10, some (.slice (some ⟨g49, 0, none⟩) ((xs.take (I - 1)).length + 1) ((xs.take (I - 1)).length + 1))) :: rest) fr' ∧ H3.Le H' ∧ H3.next ≤ g49 ∧ H'.get g49 = some (.row (ints (xs.take (I - 1) ++ [c.th (xs.getD (I - 1) 0) (xs.getD I 0)])) 2 true)) ?_ ?_
  ·
   have hf0 := GHeap.Le.refl H3
   refine .qB rfl (.refl _) (.move rfl) (.qB rfl (.refl _) (.move rfl) ?_)
   refine .qB rfl (.refl _) (.sub rfl rfl rfl (by omega) (by omega)) ?_
   rw [show (I : Int) - 1 = ((I - 1 : Nat) : Int) by omega]
   have r1 := hch.rg (I - 1) (by omega)
   have r2 := hch.rg I (by omega)
   refine .q rfl (.sliceTo sl_24_A rfl rfl (by omega)) ?_
   refine .qB rfl (.refl _) (.move rfl) (.qB rfl (.refl _) (.move rfl) ?_)
   refine .qB rfl (.refl _) (.sub rfl rfl rfl (by omega) (by omega)) ?_
   rw [show (I : Int) - 1 = ((I - 1 : Nat) : Int) by omega]
   refine .q rfl (.idxN sl_24_A (by first | assumption | exact SlA.of_row hg (by first | rfl | (simp; done) | (simp <;> omega))) rfl rfl (by omega)) ?_
   refine .q rfl (.loadI on_2_A (by first | assumption | exact Ints.of_get hg) rfl (by omega)) ?_
   refine .qB rfl (.refl _) (.move rfl) (.qB rfl (.refl _) (.move rfl) ?_)
   refine .q rfl (.idxN sl_24_A (by first | assumption | exact SlA.of_row hg (by first | rfl | (simp; done) | (simp <;> omega))) rfl rfl (by omega)) ?_
   refine .q rfl (.loadI on_2_A (by first | assumption | exact Ints.of_get hg) rfl (by omega)) ?_
   refine .call1 rfl rfl rfl rfl rfl @Try.call39 rfl (cloneN_c (xs := xs.take (I - 1)) (Ints.takeI hg) d3 (by omega)) ?_
   rintro _ H37 ⟨le37, g37, rfl, at37, ge37⟩
   have hbl := le37
   refine ⟨hbl, ?_⟩
   replace hle := hle.trans le37
   replace at3 := le37.2 _ _ at3
   have lt_at37 := GHeap.ltg at37
   replace hf0 := hf0.trans le37
   replace hin := base_hin.mono hle
   have hb3 : Cat.At _ g3 0 c p := ⟨Mem.of_get at3, hin⟩
   refine .callQ1 rfl rfl rfl rfl rfl @Try.call43 rfl (then_s) hbl ?_
   refine .c1 rfl rfl rfl rfl (.litA rfl sl_24_A ze_2_Pa rfl rfl rfl rfl) ?_
   rintro _ H48 ⟨g48, rfl, le48, ge48, at48⟩
   replace hbl := hbl.trans le48
   refine ⟨hbl, ?_⟩
   replace at37 := le48.2 _ _ at37
   have lt_at48 := GHeap.ltg at48
   replace hf0 := hf0.trans le48
   refine .c1 rfl rfl rfl rfl (.appendI rfl sl_24_A ze_2_Pa rfl by_2_Pa sl_24_A rfl rfl (by assumption) (by assumption) (by first | omega | (simp <;> omega)) (by omega) (by omega)) ?_
   rintro _ H49x2 ⟨g49x2, rfl, st49x2, ge49x2, at49x2⟩
   replace hbl := hbl.st st49x2 (fun k hk => ⟨by omega, trivial⟩)
   refine ⟨hbl, ?_⟩
   replace hf0 := hf0.st st49x2 (fun k hk => ⟨by omega, trivial⟩)
   refine .qB rfl hbl (.assign rfl) ?_
   refine .done ?_
   exact ⟨g49x2, ⟨rfl, rfl, rfl, rfl, rfl, rfl, rfl, rfl, rfl, rfl, rfl, rfl, rfl, rfl, rfl, rfl, rfl, rfl, rfl, rfl, rfl, rfl, rfl, trivial⟩, hf0, by omega, by first | assumption | simpa using at49x2⟩
  rintro fr49 H49 ⟨g49, hsub49, le49, ge49, at49⟩
  replace hle := hle.trans le49
  replace hg := le49.2 _ _ hg
  replace at3 := le49.2 _ _ at3
  have lt_at49 := GHeap.ltg at49
  replace hin := base_hin.mono hle
  have hb3 : Cat.At _ g3 0 c p := ⟨Mem.of_get at3, hin⟩
  refine hK13 _ _ ?_
  refine .forget hsub49 ?_
  refine .seq (fun K14 hK14 => .region (.mv rfl (.mv rfl (.mv rfl ?_))))
  refine .q rfl (.add rfl rfl rfl (by omega) (by omega)) ?_
  rw [show (I : Int) + 1 = ((I + 1 : Nat) : Int) by omega]
  refine .q rfl (.slice (l := I + 1) (h := xs.length) sl_24_A rfl hg ⟨_, rfl⟩ rfl (by omega) (by omega)) ?_
  rw [show xs.length - (I + 1) = (xs.drop (I + 1)).length by rw [List.length_drop]]
  have hdr := Ints.dropI (k := I + 1) hg
  refine .R rfl (.appendL rfl sl_24_A ze_2_Pa rfl by_2_Pa sl_24_A rfl rfl (by assumption) (by first | assumption | exact Ints.of_get (by assumption)) (by first | omega | (simp <;> omega)) (by omega) (by omega)) ?_
  rintro _ H55 ⟨g55, rfl, st55, ge55, at55⟩
  replace hle := hle.st st55 (fun k hk => ⟨by omega, trivial⟩)
  replace at3 := st55.s at3
  replace hin := base_hin.mono hle
  clear hb3
  have hb3 : Cat.At _ g3 0 c p := ⟨Mem.of_get at3, hin⟩
  refine .mv rfl (.mv rfl (.nil (hK14 _ _ ?_)))
  refine .ret ?_
  refine hret _ _ ?_
  refine ⟨_, _, rfl, rfl, ?_⟩
  exact .mk h15 (Cat.faceL_mid (by omega) (by omega)) (by omega)
theorem faceOfChain_r {b : Nat} {a : Option Addr} {c : Cat} {p : CatP} {xs : List Int} {i : Int} {H : GHeap} (hv : IntsE 2 b H a xs) (hin : c.In H p := by assumption) (hs : c.Small := by assumption) (h0 : 0 < xs.length := by omega) (hl : xs.length ≤ 1048576 := by omega) :
    GCalls Try.prog 12 [.agg (c.cells p).toArray, .slice a xs.length xs.length, .int .i64 i] H (NewLE 2 (c.sxC xs i 2) (codeL (c.sxC xs i 2) (c.faceL xs i.toNat)) H) := by
  rcases hv with ⟨rfl, _⟩ | ⟨g, rfl, _, hg⟩
  · exact absurd h0 (Nat.lt_irrefl 0)
  · exact faceOfChain_c (hg := hg) (hl := hl)
set_option maxHeartbeats 4000000 in
theorem degenerateChain_s {g : Nat} {c : Cat} {p : CatP} {xs : List Int} {i : Int} {H : GHeap} (hin : c.In H p := by assumption) (hs : c.Small := by assumption) (hg : H.get g = some (.row (ints xs) 2 true)) (hl : xs.length ≤ 1048576) :
    GCalls Try.prog 10 [.agg (c.cells p).toArray, .slice (some ⟨g, 0, none⟩) xs.length xs.length, .int .i64 i] H (NewLE 2 (c.sxC xs i 1) (codeL (c.sxC xs i 1) (c.degL xs i.toNat)) H) := by
  refine GCalls.body (N := 71) (rs := [.tmp 6, .tmp 7]) Try.func10 rfl rfl rfl rfl (fun Qx hret hend => ?_)
  refine .fg [0, 1, 2] rfl ?_
  have hle := GHeap.Le.refl H
  have base_hin := hin
  refine .seq (fun K1 hK1 => .region ?_)
  refine .R rfl (.boxR rfl sz_27_D rfl) ?_
  rintro _ H3 ⟨g3, rfl, le3, ge3, at3⟩
  replace hle := hle.trans le3
  replace hg := le3.2 _ _ hg
  have lt_at3 := GHeap.ltg at3
  replace hin := base_hin.mono hle
  have hb3 : Cat.At _ g3 0 c p := ⟨Mem.of_get at3, hin⟩
  obtain ⟨-, c13, c23, c33, -, i13, i23, i33, -⟩ := hb3.get
  have hi3 := hb3.2
  refine .mv rfl (.mv rfl (.nil (hK1 _ _ (.seq (fun K2 hK2 => .seq (fun K3 hK3 => .region ?_))))))
  refine .q rfl (.loadM ag_27_D rfl ⟨rfl, Mem.of_get at3⟩) ?_
  refine .mv rfl ?_
  refine .callQ rfl rfl rfl rfl @Try.call40 rfl (l02Arrows_c (hx := Ints.of_get hg)) ?_
  refine .mv rfl (.nil (hK3 _ _ (.seq (fun K4 hK4 => .region (.mv rfl (.q rfl (.cmp rfl rfl rfl) (.nil (hK4 _ _ ?_))))))))
  refine .cond rfl (fun h16 => ?_) (fun h16 => ?_)
  ·
   try simp only [sps] at h16
   refine .seq (fun K5 hK5 => .region (.mv rfl (.mv rfl (.mv rfl (.nil (hK5 _ _ ?_))))))
   refine .ret ?_
   refine hret _ _ ?_
   refine ⟨_, _, rfl, rfl, ?_⟩
   exact .err (Cat.sx_err h16) h16
  simp only [sps] at h16
  obtain ⟨hI, hrr⟩ := Cat.code_ok.1 h16
  have hr := allIn_iff.1 hrr
  have hS := hI.1
  refine .skip ?_
  refine hK2 _ _ (.seq (fun K6 hK6 => .region (.mv rfl (.q rfl (.len sl_24_A rfl) (.mv rfl (.nil (hK6 _ _ (.seq (fun K7 hK7 => .seq (fun K8 hK8 => .region (.mv rfl (.q rfl (.cmp rfl rfl rfl) (.mv rfl ?_)))))))))))))
  refine .split (fun h22 => ?_) (fun h22 => ?_)
  ·
   try simp only [sps] at h22
   refine .z rfl (.z rfl (.z rfl (.q rfl (.pickT rfl rfl) (.nil (hK8 _ _ ?_)))))
   refine .condT rfl ?_
   refine .seq (fun K9 hK9 => .region (.mv rfl (.mv rfl (.nil (hK9 _ _ ?_)))))
   refine .ret ?_
   refine hret _ _ ?_
   refine ⟨_, _, rfl, rfl, ?_⟩
   exact .err (Cat.sx_rng h16 (by omega)) (by omega)
  try simp only [sps] at h22
  refine .qg rfl (.move rfl) (.qg rfl (.move rfl) (.qg rfl (.cmp rfl rfl rfl) (.q rfl (.pickF rfl rfl) (.nil (hK8 _ _ ?_)))))
  refine .cond rfl (fun h26 => ?_) (fun h26 => ?_)
  ·
   try simp only [sps] at h26
   refine .seq (fun K10 hK10 => .region (.mv rfl (.mv rfl (.nil (hK10 _ _ ?_)))))
   refine .ret ?_
   refine hret _ _ ?_
   refine ⟨_, _, rfl, rfl, ?_⟩
   exact .err (Cat.sx_rng h16 (by omega)) (by omega)
  try simp only [sps] at h26
  refine .skip ?_
  refine hK7 _ _ (.seq (fun K11 hK11 => .seq (fun K12 hK12 => .region (.mv rfl (.q rfl (.cmp rfl rfl rfl) (.mv rfl ?_))))))
  refine .split (fun h29 => ?_) (fun h29 => ?_)
  ·
   try simp only [sps] at h29
   refine .z rfl (.z rfl (.z rfl (.z rfl (.q rfl (.pickT rfl rfl) (.nil (hK12 _ _ ?_))))))
   refine .condT rfl ?_
   refine .seq (fun K13 hK13 => .region (.mv rfl (.mv rfl (.nil (hK13 _ _ ?_)))))
   refine .ret ?_
   refine hret _ _ ?_
   refine ⟨_, _, rfl, rfl, ?_⟩
   exact .err (Cat.sx_no h16 (by omega) (fun q => by have := q.1; omega)) (by omega)
  try simp only [sps] at h29
  refine .qg rfl (.loadM ag_27_D rfl ⟨rfl, Mem.of_get at3⟩) ?_
  refine .qg rfl (.move rfl) ?_
  refine .callQg rfl rfl rfl rfl rfl rfl @Try.call41 rfl (l33Chain_c (hx := Ints.of_get hg)) ?_
  refine .qg rfl (.not rfl) (.q rfl (.pickF rfl rfl) (.nil (hK12 _ _ ?_)))
  refine .cond rfl (fun h34 => ?_) (fun h34 => ?_)
  ·
   try simp only [sps] at h34
   refine .seq (fun K14 hK14 => .region (.mv rfl (.mv rfl (.nil (hK14 _ _ ?_)))))
   refine .ret ?_
   refine hret _ _ ?_
   refine ⟨_, _, rfl, rfl, ?_⟩
   exact .err (Cat.sx_no h16 (by omega) (fun q => h34 q.2)) (by omega)
  try simp only [sps] at h34
  have hk := Cat.sx_ok.2 ⟨h16, (by omega : 0 ≤ i ∧ i ≤ xs.length), (by omega : 1 ≤ xs.length), h34⟩
  obtain ⟨-, hch, hi, hn⟩ := Cat.ch_of hk
  have q1 := hS.tl
  have q2 := hS.il
  obtain ⟨I, rfl⟩ : ∃ I : Nat, i = (I : Int) := ⟨i.toNat, by omega⟩
  have r1 := hch.rg (xs.length - 1) (by omega)
  have hdx := Cat.degX_in hS hch (i := I) (by omega) hn
  have hix := Cat.id_in hS hdx.1 hdx.2
  have htk : (xs.take I).length = I := by rw [List.length_take]; omega
  refine .skip ?_
  refine hK11 _ _ (.seq (fun K15 hK15 => ?_))
  refine .regionD mo_B (.q 0 (.q 1 (.q 2 (.q 3 (.q 4 (.q 5 (.q 6 (.q 7 (.q 8 (.q 9 (.done))))))))))) (by kernel_rfl) ?_
  refine .q rfl (.fieldAddr fo_27_2_B rfl) ?_
  refine .q rfl (.load on_24_B rfl (by first | assumption | exact Mem.of_get at3 2 _ rfl)) ?_
  refine .mv rfl rfl (.mv rfl rfl ?_)
  refine .q rfl (.sub rfl rfl rfl (by omega) (by omega)) ?_
  rw [show (xs.length : Int) - 1 = ((xs.length - 1 : Nat) : Int) by omega]
  refine .q rfl (.idxN sl_24_A (by first | assumption | exact SlA.of_row hg (by first | rfl | (simp; done) | (simp <;> omega))) rfl rfl (by omega)) ?_
  refine .q rfl (.loadI on_2_A (by first | assumption | exact Ints.of_get hg) rfl (by omega)) ?_
  refine .q rfl (.idx1 sl_24_A (by assumption) rfl rfl (by omega) (by omega)) ?_
  refine .q rfl (.loadI on_2_A (by assumption) rfl (by omega)) ?_
  refine .mv rfl rfl ?_
  refine .done ?_
  refine hK15 _ _ (.seq (fun K16 hK16 => .seq (fun K17 hK17 => .region (.mv rfl (.mv rfl (.q rfl (.cmp rfl rfl rfl) (.nil (hK17 _ _ ?_))))))))
  refine .cond rfl (fun h46 => ?_) (fun h46 => ?_)
  ·
   simp only [sps] at h46
   have r2 := hch.rg I (by omega)
   refine .regionD mo_B (.q 0 (.q 1 (.q 2 (.q 3 (.q 4 (.q 5 (.q 6 (.q 7 (.q 8 (.done)))))))))) (by kernel_rfl) ?_
   refine .q rfl (.fieldAddr fo_27_1_B rfl) ?_
   refine .q rfl (.load on_24_B rfl (by first | assumption | exact Mem.of_get at3 1 _ rfl)) ?_
   refine .mv rfl rfl (.mv rfl rfl ?_)
   refine .q rfl (.idxN sl_24_A (by first | assumption | exact SlA.of_row hg (by first | rfl | (simp; done) | (simp <;> omega))) rfl rfl (by omega)) ?_
   refine .q rfl (.loadI on_2_A (by first | assumption | exact Ints.of_get hg) rfl (by omega)) ?_
   refine .q rfl (.idx1 sl_24_A (by assumption) rfl rfl (by omega) (by omega)) ?_
   refine .q rfl (.loadI on_2_A (by assumption) rfl (by omega)) ?_
   rw [show c.src.getD (xs.getD I 0).toNat 0 = c.degX xs I by unfold Cat.degX; rw [if_pos (by omega)]]
   refine .mv rfl rfl ?_
   refine .done ?_
   refine hK16 _ _ (.seq (fun K18 hK18 => ?_))
   refine .regionD mo_B (.q 0 (.q 1 (.q 2 (.q 4 (.q 5 (.q 6 (.q 7 (.q 8 (.or (.c 3 1 (.c 9 1 (.c 10 1 (.q 11 (.done))))) (.c 9 1 (.c 3 1 (.c 10 1 (.q 11 (.done)))))))))))))) (by kernel_rfl) ?_
   refine .cut [(0, some _), (1, some _), (2, some _), (3, some _), (6, some _), (7, some _), (8, some _), (9, some _), (10, some _), (12, some _), (13, some _), (14, some _), (15, some _), (16, some _), (18, some _), (19, some _), (20, some _), (21, some _), (22, some _), (23, some _), (24, some _), (25, some _), (26, some _), (27, some _), (28, some _), (29, some _), (30, some _), (31, some _), (32, some _), (33, some _), (34, some _), (35, some _), (36, some _), (37, some _), (38, some _), (39, some _), (40, some _), (41, some _), (42, some _), (43, some _), (44, some _), (45, some _), (46, some _), (47, some _), (48, some _), (49, some _), (50, some _), (51, some _), (52, some _), (53, some _), (54, some _)] ⟨rfl, rfl, rfl, rfl, rfl, rfl, rfl, rfl, rfl, rfl, rfl, rfl, rfl, rfl, rfl, rfl, rfl, rfl, rfl, rfl, rfl, rfl, rfl, rfl, rfl, rfl, rfl, rfl, rfl, rfl, rfl, rfl, rfl, rfl, rfl, rfl, rfl, rfl, rfl, rfl, rfl, rfl, rfl, rfl, rfl, rfl, rfl, rfl, rfl, rfl, rfl, trivial⟩ (fun rest fr' H' => ∃ g65, Sub ((65, some (.slice (some ⟨g65, 0, none⟩) ((xs.take I).length + 1) ((xs.take I).length + 1))) :: (11, some (.slice (some ⟨g65, 0, none⟩) ((xs.take I).length + 1) ((xs.take I).length + 1))) :: rest) fr' ∧ H3.Le H' ∧ H3.next ≤ g65 ∧ H'.get g65 = some (.row (ints (xs.take I ++ [c.idn.getD (c.degX xs I).toNat 0])) 2 true)) ?_ ?_
   ·
    have hf0 := GHeap.Le.refl H3
    refine .qB rfl (.refl _) (.move rfl) (.qB rfl (.refl _) (.move rfl) ?_)
    refine .q rfl (.sliceTo sl_24_A rfl rfl (by omega)) ?_
    refine .qB rfl (.refl _) (.fieldAddr fo_27_3_B rfl) ?_
    refine .q rfl (.load on_24_B rfl (by first | assumption | exact Mem.of_get at3 3 _ rfl)) ?_
    refine .qB rfl (.refl _) (.move rfl) ?_
    refine .q rfl (.idx1 sl_24_A (by assumption) rfl rfl (by omega) (by omega)) ?_
    refine .q rfl (.loadI on_2_A (by assumption) rfl (by omega)) ?_
    refine .orI ?_ ?_
    ·
     refine .call1 rfl rfl rfl rfl rfl @Try.call42 rfl (l01OwnN_c (xs := xs.take I) (Ints.takeI hg) htk (by omega)) ?_
     rintro _ H58 ⟨le58, g58, rfl, at58, ge58⟩
     have hbl := le58
     refine ⟨hbl, ?_⟩
     have lt_at58 := GHeap.ltg at58
     replace hf0 := hf0.trans le58
     refine .c1 rfl rfl rfl rfl (.litA rfl sl_24_A ze_2_Pa rfl rfl rfl rfl) ?_
     rintro _ H64 ⟨g64, rfl, le64, ge64, at64⟩
     replace hbl := hbl.trans le64
     refine ⟨hbl, ?_⟩
     replace at58 := le64.2 _ _ at58
     have lt_at64 := GHeap.ltg at64
     replace hf0 := hf0.trans le64
     refine .c1 rfl rfl rfl rfl (.appendI rfl sl_24_A ze_2_Pa rfl by_2_Pa sl_24_A rfl rfl (by assumption) (by assumption) (by first | omega | (simp <;> omega)) (by omega) (by omega)) ?_
     rintro _ H65x2 ⟨g65x2, rfl, st65x2, ge65x2, at65x2⟩
     replace hbl := hbl.st st65x2 (fun k hk => ⟨by omega, trivial⟩)
     refine ⟨hbl, ?_⟩
     replace hf0 := hf0.st st65x2 (fun k hk => ⟨by omega, trivial⟩)
     refine .qB rfl hbl (.assign rfl) ?_
     refine .done ?_
     exact ⟨g65x2, ⟨rfl, rfl, rfl, rfl, rfl, rfl, rfl, rfl, rfl, rfl, rfl, rfl, rfl, rfl, rfl, rfl, rfl, rfl, rfl, rfl, rfl, rfl, rfl, rfl, rfl, rfl, rfl, rfl, rfl, rfl, rfl, rfl, rfl, rfl, rfl, rfl, rfl, rfl, rfl, rfl, rfl, rfl, rfl, rfl, rfl, rfl, rfl, rfl, rfl, rfl, rfl, rfl, rfl, trivial⟩, hf0, by omega, by first | assumption | simpa using at65x2⟩
    refine .c1 rfl rfl rfl rfl (.litA rfl sl_24_A ze_2_Pa rfl rfl rfl rfl) ?_
    rintro _ H64x2 ⟨g64x2, rfl, le64x2, ge64x2, at64x2⟩
    have hbl := le64x2
    refine ⟨hbl, ?_⟩
    replace hle := hle.trans le64x2
    replace hg := le64x2.2 _ _ hg
    replace at3 := le64x2.2 _ _ at3
    have lt_at64x2 := GHeap.ltg at64x2
    replace hf0 := hf0.trans le64x2
    replace hin := base_hin.mono hle
    clear hb3 c13 c23 c33 i13 i23 i33 hi3
    have hb3 : Cat.At _ g3 0 c p := ⟨Mem.of_get at3, hin⟩
    refine .call1 rfl rfl rfl rfl rfl @Try.call42 rfl (l01OwnN_c (xs := xs.take I) (Ints.takeI hg) htk (by omega)) ?_
    rintro _ H58x2 ⟨le58x2, g58x2, rfl, at58x2, ge58x2⟩
    replace hbl := hbl.trans le58x2
    refine ⟨hbl, ?_⟩
    replace at64x2 := le58x2.2 _ _ at64x2
    have lt_at58x2 := GHeap.ltg at58x2
    replace hf0 := hf0.trans le58x2
    refine .c1 rfl rfl rfl rfl (.appendI rfl sl_24_A ze_2_Pa rfl by_2_Pa sl_24_A rfl rfl (by assumption) (by assumption) (by first | omega | (simp <;> omega)) (by omega) (by omega)) ?_
    rintro _ H65x3 ⟨g65x3, rfl, st65x3, ge65x3, at65x3⟩
    replace hbl := hbl.st st65x3 (fun k hk => ⟨by omega, trivial⟩)
    refine ⟨hbl, ?_⟩
    replace hf0 := hf0.st st65x3 (fun k hk => ⟨by omega, trivial⟩)
    refine .qB rfl hbl (.assign rfl) ?_
    refine .done ?_
    exact ⟨g65x3, ⟨rfl, rfl, rfl, rfl, rfl, rfl, rfl, rfl, rfl, rfl, rfl, rfl, rfl, rfl, rfl, rfl, rfl, rfl, rfl, rfl, rfl, rfl, rfl, rfl, rfl, rfl, rfl, rfl, rfl, rfl, rfl, rfl, rfl, rfl, rfl, rfl, rfl, rfl, rfl, rfl, rfl, rfl, rfl, rfl, rfl, rfl, rfl, rfl, rfl, rfl, rfl, rfl, rfl, trivial⟩, hf0, by omega, by first | assumption | simpa using at65x3⟩
   rintro fr65 H65 ⟨g65, hsub65, le65, ge65, at65⟩
   replace hle := hle.trans le65
   replace hg := le65.2 _ _ hg
   replace at3 := le65.2 _ _ at3
   have lt_at65 := GHeap.ltg at65
   replace hin := base_hin.mono hle
   have hb3 : Cat.At _ g3 0 c p := ⟨Mem.of_get at3, hin⟩
   refine hK18 _ _ ?_
   refine .forget hsub65 ?_
   refine .seq (fun K19 hK19 => .region (.mv rfl (.mv rfl (.mv rfl ?_))))
   refine .q rfl (.slice (l := I) (h := xs.length) sl_24_A rfl hg ⟨_, rfl⟩ rfl (by omega) (by omega)) ?_
   rw [show xs.length - I = (xs.drop I).length by rw [List.length_drop]]
   have hdr := Ints.dropI (k := I) hg
   have hdl : (xs.drop I).length = xs.length - I := by rw [List.length_drop]
   refine .R rfl (.appendL rfl sl_24_A ze_2_Pa rfl by_2_Pa sl_24_A rfl rfl (by assumption) (by first | assumption | exact Ints.of_get (by assumption)) (by first | omega | (simp <;> omega)) (by omega) (by omega)) ?_
   rintro _ H70 ⟨g70, rfl, st70, ge70, at70⟩
   replace hle := hle.st st70 (fun k hk => ⟨by omega, trivial⟩)
   replace at3 := st70.s at3
   replace hin := base_hin.mono hle
   clear hb3
   have hb3 : Cat.At _ g3 0 c p := ⟨Mem.of_get at3, hin⟩
   refine .mv rfl (.mv rfl (.nil (hK19 _ _ ?_)))
   refine .ret ?_
   refine hret _ _ ?_
   refine ⟨_, _, rfl, rfl, ?_⟩
   exact .mk hk (Cat.degL_eq (by omega)) (by omega)
  simp only [sps] at h46
  rw [show c.tgt.getD (xs.getD (xs.length - 1) 0).toNat 0 = c.degX xs I by unfold Cat.degX; rw [if_neg (by omega)]]
  refine .skip ?_
  refine hK16 _ _ (.seq (fun K20 hK20 => ?_))
  refine .regionD mo_B (.q 0 (.q 1 (.q 2 (.q 4 (.q 5 (.q 6 (.q 7 (.q 8 (.or (.c 3 1 (.c 9 1 (.c 10 1 (.q 11 (.done))))) (.c 9 1 (.c 3 1 (.c 10 1 (.q 11 (.done)))))))))))))) (by kernel_rfl) ?_
  refine .cut [(0, some _), (1, some _), (2, some _), (3, some _), (6, some _), (7, some _), (8, some _), (9, some _), (10, some _), (12, some _), (13, some _), (14, some _), (15, some _), (16, some _), (18, some _), (19, some _), (20, some _), (21, some _), (22, some _), (23, some _), (24, some _), (25, some _), (26, some _), (27, some _), (28, some _), (29, some _), (30, some _), (31, some _), (32, some _), (33, some _), (34, some _), (35, some _), (36, some _), (37, some _), (38, some _), (39, some _), (40, some _), (41, some _), (42, some _), (43, some _), (44, some _), (45, some _), (46, some _)] ⟨rfl, rfl, rfl, rfl, rfl, rfl, rfl, rfl, rfl, rfl, rfl, rfl, rfl, rfl, rfl, rfl, rfl, rfl, rfl, rfl, rfl, rfl, rfl, rfl, rfl, rfl, rfl, rfl, rfl, rfl, rfl, rfl, rfl, rfl, rfl, rfl, rfl, rfl, rfl, rfl, rfl, rfl, rfl, trivial⟩ (fun rest fr' H' => ∃ g65x4, Sub ((65, some (.slice (some ⟨g65x4, 0, none⟩) ((xs.take I).length + 1) ((xs.take I).length + 1))) :: (11, some (.slice (some ⟨g65x4, 0, none⟩) ((xs.take I).length + 1) ((xs.take I).length + 1))) :: rest) fr' ∧ H3.Le H' ∧ H3.next ≤ g65x4 ∧ H'.get g65x4 = some (.row (ints (xs.take I ++ [c.idn.getD (c.degX xs I).toNat 0])) 2 true)) ?_ ?_
  ·
   have hf0 := GHeap.Le.refl H3
   refine .qB rfl (.refl _) (.move rfl) (.qB rfl (.refl _) (.move rfl) ?_)
   refine .q rfl (.sliceTo sl_24_A rfl rfl (by omega)) ?_
   refine .qB rfl (.refl _) (.fieldAddr fo_27_3_B rfl) ?_
   refine .q rfl (.load on_24_B rfl (by first | assumption | exact Mem.of_get at3 3 _ rfl)) ?_
   refine .qB rfl (.refl _) (.move rfl) ?_
   refine .q rfl (.idx1 sl_24_A (by assumption) rfl rfl (by omega) (by omega)) ?_
   refine .q rfl (.loadI on_2_A (by assumption) rfl (by omega)) ?_
   refine .orI ?_ ?_
   ·
    refine .call1 rfl rfl rfl rfl rfl @Try.call42 rfl (l01OwnN_c (xs := xs.take I) (Ints.takeI hg) htk (by omega)) ?_
    rintro _ H58x3 ⟨le58x3, g58x3, rfl, at58x3, ge58x3⟩
    have hbl := le58x3
    refine ⟨hbl, ?_⟩
    have lt_at58x3 := GHeap.ltg at58x3
    replace hf0 := hf0.trans le58x3
    refine .c1 rfl rfl rfl rfl (.litA rfl sl_24_A ze_2_Pa rfl rfl rfl rfl) ?_
    rintro _ H64x3 ⟨g64x3, rfl, le64x3, ge64x3, at64x3⟩
    replace hbl := hbl.trans le64x3
    refine ⟨hbl, ?_⟩
    replace at58x3 := le64x3.2 _ _ at58x3
    have lt_at64x3 := GHeap.ltg at64x3
    replace hf0 := hf0.trans le64x3
    refine .c1 rfl rfl rfl rfl (.appendI rfl sl_24_A ze_2_Pa rfl by_2_Pa sl_24_A rfl rfl (by assumption) (by assumption) (by first | omega | (simp <;> omega)) (by omega) (by omega)) ?_
    rintro _ H65x5 ⟨g65x5, rfl, st65x5, ge65x5, at65x5⟩
    replace hbl := hbl.st st65x5 (fun k hk => ⟨by omega, trivial⟩)
    refine ⟨hbl, ?_⟩
    replace hf0 := hf0.st st65x5 (fun k hk => ⟨by omega, trivial⟩)
    refine .qB rfl hbl (.assign rfl) ?_
    refine .done ?_
    exact ⟨g65x5, ⟨rfl, rfl, rfl, rfl, rfl, rfl, rfl, rfl, rfl, rfl, rfl, rfl, rfl, rfl, rfl, rfl, rfl, rfl, rfl, rfl, rfl, rfl, rfl, rfl, rfl, rfl, rfl, rfl, rfl, rfl, rfl, rfl, rfl, rfl, rfl, rfl, rfl, rfl, rfl, rfl, rfl, rfl, rfl, rfl, rfl, trivial⟩, hf0, by omega, by first | assumption | simpa using at65x5⟩
   refine .c1 rfl rfl rfl rfl (.litA rfl sl_24_A ze_2_Pa rfl rfl rfl rfl) ?_
   rintro _ H64x4 ⟨g64x4, rfl, le64x4, ge64x4, at64x4⟩
   have hbl := le64x4
   refine ⟨hbl, ?_⟩
   replace hle := hle.trans le64x4
   replace hg := le64x4.2 _ _ hg
   replace at3 := le64x4.2 _ _ at3
   have lt_at64x4 := GHeap.ltg at64x4
   replace hf0 := hf0.trans le64x4
   replace hin := base_hin.mono hle
   have hb3 : Cat.At _ g3 0 c p := ⟨Mem.of_get at3, hin⟩
   refine .call1 rfl rfl rfl rfl rfl @Try.call42 rfl (l01OwnN_c (xs := xs.take I) (Ints.takeI hg) htk (by omega)) ?_
   rintro _ H58x4 ⟨le58x4, g58x4, rfl, at58x4, ge58x4⟩
   replace hbl := hbl.trans le58x4
   refine ⟨hbl, ?_⟩
   replace at64x4 := le58x4.2 _ _ at64x4
   have lt_at58x4 := GHeap.ltg at58x4
   replace hf0 := hf0.trans le58x4
   refine .c1 rfl rfl rfl rfl (.appendI rfl sl_24_A ze_2_Pa rfl by_2_Pa sl_24_A rfl rfl (by assumption) (by assumption) (by first | omega | (simp <;> omega)) (by omega) (by omega)) ?_
   rintro _ H65x6 ⟨g65x6, rfl, st65x6, ge65x6, at65x6⟩
   replace hbl := hbl.st st65x6 (fun k hk => ⟨by omega, trivial⟩)
   refine ⟨hbl, ?_⟩
   replace hf0 := hf0.st st65x6 (fun k hk => ⟨by omega, trivial⟩)
   refine .qB rfl hbl (.assign rfl) ?_
   refine .done ?_
   exact ⟨g65x6, ⟨rfl, rfl, rfl, rfl, rfl, rfl, rfl, rfl, rfl, rfl, rfl, rfl, rfl, rfl, rfl, rfl, rfl, rfl, rfl, rfl, rfl, rfl, rfl, rfl, rfl, rfl, rfl, rfl, rfl, rfl, rfl, rfl, rfl, rfl, rfl, rfl, rfl, rfl, rfl, rfl, rfl, rfl, rfl, rfl, rfl, trivial⟩, hf0, by omega, by first | assumption | simpa using at65x6⟩
  rintro fr65x4 H65x4 ⟨g65x4, hsub65x4, le65x4, ge65x4, at65x4⟩
  replace hle := hle.trans le65x4
  replace hg := le65x4.2 _ _ hg
  replace at3 := le65x4.2 _ _ at3
  have lt_at65x4 := GHeap.ltg at65x4
  replace hin := base_hin.mono hle
  have hb3 : Cat.At _ g3 0 c p := ⟨Mem.of_get at3, hin⟩
  refine hK20 _ _ ?_
  refine .forget hsub65x4 ?_
  refine .seq (fun K21 hK21 => .region (.mv rfl (.mv rfl (.mv rfl ?_))))
  refine .q rfl (.slice (l := I) (h := xs.length) sl_24_A rfl hg ⟨_, rfl⟩ rfl (by omega) (by omega)) ?_
  rw [show xs.length - I = (xs.drop I).length by rw [List.length_drop]]
  have hdr := Ints.dropI (k := I) hg
  have hdl : (xs.drop I).length = xs.length - I := by rw [List.length_drop]
  refine .R rfl (.appendL rfl sl_24_A ze_2_Pa rfl by_2_Pa sl_24_A rfl rfl (by assumption) (by first | assumption | exact Ints.of_get (by assumption)) (by first | omega | (simp <;> omega)) (by omega) (by omega)) ?_
  rintro _ H70x2 ⟨g70x2, rfl, st70x2, ge70x2, at70x2⟩
  replace hle := hle.st st70x2 (fun k hk => ⟨by omega, trivial⟩)
  replace at3 := st70x2.s at3
  replace hin := base_hin.mono hle
  clear hb3
  have hb3 : Cat.At _ g3 0 c p := ⟨Mem.of_get at3, hin⟩
  refine .mv rfl (.mv rfl (.nil (hK21 _ _ ?_)))
  refine .ret ?_
  refine hret _ _ ?_
  refine ⟨_, _, rfl, rfl, ?_⟩
  exact .mk hk (Cat.degL_eq (by omega)) (by omega)
set_option maxHeartbeats 4000000 in
theorem faceOfChain_s {g : Nat} {c : Cat} {p : CatP} {xs : List Int} {i : Int} {H : GHeap} (hin : c.In H p := by assumption) (hs : c.Small := by assumption) (hg : H.get g = some (.row (ints xs) 2 true)) (hl : xs.length ≤ 1048576) :
    GCalls Try.prog 14 [.agg (c.cells p).toArray, .slice (some ⟨g, 0, none⟩) xs.length xs.length, .int .i64 i] H (NewLE 2 (c.sxC xs i 2) (codeL (c.sxC xs i 2) (c.faceL xs i.toNat)) H) := by
  refine GCalls.body (N := 72) (rs := [.tmp 6, .tmp 7]) Try.func14 rfl rfl rfl rfl (fun Qx hret hend => ?_)
  refine .fg [0, 1, 2] rfl ?_
  have hle := GHeap.Le.refl H
  have base_hin := hin
  refine .seq (fun K1 hK1 => .region ?_)
  refine .R rfl (.boxR rfl sz_27_D rfl) ?_
  rintro _ H3 ⟨g3, rfl, le3, ge3, at3⟩
  replace hle := hle.trans le3
  replace hg := le3.2 _ _ hg
  have lt_at3 := GHeap.ltg at3
  replace hin := base_hin.mono hle
  have hb3 : Cat.At _ g3 0 c p := ⟨Mem.of_get at3, hin⟩
  have hi3 := hb3.2
  refine .mv rfl (.mv rfl (.nil (hK1 _ _ (.seq (fun K2 hK2 => .seq (fun K3 hK3 => .region ?_))))))
  refine .q rfl (.loadM ag_27_D rfl ⟨rfl, Mem.of_get at3⟩) ?_
  refine .mv rfl ?_
  refine .callQ rfl rfl rfl rfl @Try.call40 rfl (l02Arrows_c (hx := Ints.of_get hg)) ?_
  refine .mv rfl (.nil (hK3 _ _ (.seq (fun K4 hK4 => .region (.mv rfl (.q rfl (.cmp rfl rfl rfl) (.nil (hK4 _ _ ?_))))))))
  refine .cond rfl (fun h15 => ?_) (fun h15 => ?_)
  ·
   try simp only [sps] at h15
   refine .seq (fun K5 hK5 => .region (.mv rfl (.mv rfl (.mv rfl (.nil (hK5 _ _ ?_))))))
   refine .ret ?_
   refine hret _ _ ?_
   refine ⟨_, _, rfl, rfl, ?_⟩
   exact .err (Cat.sx_err h15) h15
  simp only [sps] at h15
  obtain ⟨hI, hrr⟩ := Cat.code_ok.1 h15
  have hr := allIn_iff.1 hrr
  have hS := hI.1
  refine .skip ?_
  refine hK2 _ _ (.seq (fun K6 hK6 => .region (.mv rfl (.q rfl (.len sl_24_A rfl) (.mv rfl (.nil (hK6 _ _ (.seq (fun K7 hK7 => .seq (fun K8 hK8 => .region (.mv rfl (.q rfl (.cmp rfl rfl rfl) (.mv rfl ?_)))))))))))))
  refine .split (fun h21 => ?_) (fun h21 => ?_)
  ·
   try simp only [sps] at h21
   refine .z rfl (.z rfl (.z rfl (.q rfl (.pickT rfl rfl) (.nil (hK8 _ _ ?_)))))
   refine .condT rfl ?_
   refine .seq (fun K9 hK9 => .region (.mv rfl (.mv rfl (.nil (hK9 _ _ ?_)))))
   refine .ret ?_
   refine hret _ _ ?_
   refine ⟨_, _, rfl, rfl, ?_⟩
   exact .err (Cat.sx_rng h15 (by omega)) (by omega)
  try simp only [sps] at h21
  refine .qg rfl (.move rfl) (.qg rfl (.move rfl) (.qg rfl (.cmp rfl rfl rfl) (.q rfl (.pickF rfl rfl) (.nil (hK8 _ _ ?_)))))
  refine .cond rfl (fun h25 => ?_) (fun h25 => ?_)
  ·
   try simp only [sps] at h25
   refine .seq (fun K10 hK10 => .region (.mv rfl (.mv rfl (.nil (hK10 _ _ ?_)))))
   refine .ret ?_
   refine hret _ _ ?_
   refine ⟨_, _, rfl, rfl, ?_⟩
   exact .err (Cat.sx_rng h15 (by omega)) (by omega)
  try simp only [sps] at h25
  refine .skip ?_
  refine hK7 _ _ (.seq (fun K11 hK11 => .seq (fun K12 hK12 => .region (.mv rfl (.q rfl (.cmp rfl rfl rfl) (.mv rfl ?_))))))
  refine .split (fun h28 => ?_) (fun h28 => ?_)
  ·
   try simp only [sps] at h28
   refine .z rfl (.z rfl (.z rfl (.z rfl (.q rfl (.pickT rfl rfl) (.nil (hK12 _ _ ?_))))))
   refine .condT rfl ?_
   refine .seq (fun K13 hK13 => .region (.mv rfl (.mv rfl (.nil (hK13 _ _ ?_)))))
   refine .ret ?_
   refine hret _ _ ?_
   refine ⟨_, _, rfl, rfl, ?_⟩
   exact .err (Cat.sx_no h15 (by omega) (fun q => by have := q.1; omega)) (by omega)
  try simp only [sps] at h28
  refine .qg rfl (.loadM ag_27_D rfl ⟨rfl, Mem.of_get at3⟩) ?_
  refine .qg rfl (.move rfl) ?_
  refine .callQg rfl rfl rfl rfl rfl rfl @Try.call41 rfl (l33Chain_c (hx := Ints.of_get hg)) ?_
  refine .qg rfl (.not rfl) (.q rfl (.pickF rfl rfl) (.nil (hK12 _ _ ?_)))
  refine .cond rfl (fun h33 => ?_) (fun h33 => ?_)
  ·
   try simp only [sps] at h33
   refine .seq (fun K14 hK14 => .region (.mv rfl (.mv rfl (.nil (hK14 _ _ ?_)))))
   refine .ret ?_
   refine hret _ _ ?_
   refine ⟨_, _, rfl, rfl, ?_⟩
   exact .err (Cat.sx_no h15 (by omega) (fun q => h33 q.2)) (by omega)
  try simp only [sps] at h33
  have hk := Cat.sx_ok.2 ⟨h15, (by omega : 0 ≤ i ∧ i ≤ xs.length), (by omega : 2 ≤ xs.length), h33⟩
  obtain ⟨-, hch, hi, -⟩ := Cat.ch_of (i := i) (n := 2) hk
  obtain ⟨I, rfl⟩ : ∃ I : Nat, i = (I : Int) := ⟨i.toNat, by omega⟩
  have d1 : (xs.drop 1).length = xs.length - 1 := List.length_drop
  have d2 : (xs.take (xs.length - 1)).length = xs.length - 1 := by rw [List.length_take]; omega
  have d3 : (xs.take (I - 1)).length = I - 1 := by rw [List.length_take]; omega
  have d4 : (xs.drop (I + 1)).length = xs.length - (I + 1) := List.length_drop
  refine .skip ?_
  refine hK11 _ _ (.seq (fun K15 hK15 => .seq (fun K16 hK16 => .region (.mv rfl (.nil (hK16 _ _ ?_))))))
  refine .block ?_
  refine .seq (fun K17 hK17 => .region (.q rfl (.cmp rfl rfl rfl) (.mv rfl (.nil (hK17 _ _ ?_)))))
  refine .cond rfl (fun h35 => ?_) (fun h35 => ?_)
  ·
   try simp only [sps] at h35
   refine .seq (fun K18 hK18 => .region (.mv rfl ?_))
   refine .q rfl (.slice (l := 1) (h := xs.length) sl_24_A rfl hg ⟨_, rfl⟩ rfl (by omega) (by omega)) ?_
   refine .call rfl rfl rfl rfl @Try.call42 rfl (l01OwnN_c (xs := xs.drop 1) (Ints.dropI hg) d1 (by omega)) ?_
   rintro _ H39 ⟨le39, g39, rfl, at39, ge39⟩
   replace hle := hle.trans le39
   replace at3 := le39.2 _ _ at3
   replace hin := base_hin.mono hle
   clear hb3 hi3
   have hb3 : Cat.At _ g3 0 c p := ⟨Mem.of_get at3, hin⟩
   refine .mv rfl (.mv rfl (.nil (hK18 _ _ ?_)))
   refine .ret ?_
   refine hret _ _ ?_
   refine ⟨_, _, rfl, rfl, ?_⟩
   exact .mk hk ((Cat.faceL_zero c xs).trans (congrArg _ (by omega))) (by omega)
  try simp only [sps] at h35
  refine .seq (fun K19 hK19 => .region (.mv rfl (.q rfl (.cmp rfl rfl rfl) (.mv rfl (.nil (hK19 _ _ ?_))))))
  refine .cond rfl (fun h40 => ?_) (fun h40 => ?_)
  ·
   try simp only [sps] at h40
   refine .seq (fun K20 hK20 => .region (.mv rfl (.mv rfl ?_)))
   refine .q rfl (.sub rfl rfl rfl (by omega) (by omega)) ?_
   rw [show (xs.length : Int) - 1 = ((xs.length - 1 : Nat) : Int) by omega]
   refine .q rfl (.sliceTo sl_24_A rfl rfl (by omega)) ?_
   refine .call rfl rfl rfl rfl @Try.call42 rfl (l01OwnN_c (xs := xs.take (xs.length - 1)) (Ints.takeI hg) d2 (by omega)) ?_
   rintro _ H47 ⟨le47, g47, rfl, at47, ge47⟩
   replace hle := hle.trans le47
   replace at3 := le47.2 _ _ at3
   replace hin := base_hin.mono hle
   have hb3 : Cat.At _ g3 0 c p := ⟨Mem.of_get at3, hin⟩
   refine .mv rfl (.mv rfl (.nil (hK20 _ _ ?_)))
   refine .ret ?_
   refine hret _ _ ?_
   refine ⟨_, _, rfl, rfl, ?_⟩
   exact .mk hk ((Cat.faceL_len c xs).trans (congrArg _ (by omega))) (by omega)
  try simp only [sps] at h40
  refine .skip ?_
  refine hK15 _ _ (.seq (fun K21 hK21 => ?_))
  refine .regionD mo_B (.q 0 (.q 1 (.q 2 (.q 3 (.q 5 (.q 6 (.q 7 (.q 8 (.q 9 (.q 10 (.q 11 (.q 12 (.q 13 (.q 14 (.c 4 1 (.c 15 1 (.c 16 1 (.c 17 1 (.q 18 (.done)))))))))))))))))))) (by kernel_rfl) ?_
  refine .cut [(0, some _), (1, some _), (2, some _), (3, some _), (6, some _), (7, some _), (8, some _), (9, some _), (11, some _), (12, some _), (13, some _), (14, some _), (15, some _), (17, some _), (18, some _), (19, some _), (20, some _), (21, some _), (22, some _), (23, some _), (24, some _), (25, some _), (26, some _), (27, some _), (28, some _), (29, some _), (30, some _), (31, some _), (32, some _), (33, some _), (34, some _), (35, some _), (36, some _), (40, some _), (41, some _), (42, some _)] ⟨rfl, rfl, rfl, rfl, rfl, rfl, rfl, rfl, rfl, rfl, rfl, rfl, rfl, rfl, rfl, rfl, rfl, rfl, rfl, rfl, rfl, rfl, rfl, rfl, rfl, rfl, rfl, rfl, rfl, rfl, rfl, rfl, rfl, rfl, rfl, rfl, trivial⟩ (fun rest fr' H' => ∃ g65, Sub ((65, some (.slice (some ⟨g65, 0, none⟩) ((xs.take (I - 1)).length + 1) ((xs.take (I - 1)).length + 1))) :: (10, some (.slice (some ⟨g65, 0, none⟩) ((xs.take (I - 1)).length + 1) ((xs.take (I - 1)).length + 1))) :: rest) fr' ∧ H3.Le H' ∧ H3.next ≤ g65 ∧ H'.get g65 = some (.row (ints (xs.take (I - 1) ++ [c.th (xs.getD (I - 1) 0) (xs.getD I 0)])) 2 true)) ?_ ?_
  ·
   have hf0 := GHeap.Le.refl H3
   refine .qB rfl (.refl _) (.move rfl) (.qB rfl (.refl _) (.move rfl) ?_)
   refine .qB rfl (.refl _) (.sub rfl rfl rfl (by omega) (by omega)) ?_
   rw [show (I : Int) - 1 = ((I - 1 : Nat) : Int) by omega]
   have r1 := hch.rg (I - 1) (by omega)
   have r2 := hch.rg I (by omega)
   refine .q rfl (.sliceTo sl_24_A rfl rfl (by omega)) ?_
   refine .q rfl (.loadM ag_27_D rfl ⟨rfl, Mem.of_get at3⟩) ?_
   refine .qB rfl (.refl _) (.move rfl) (.qB rfl (.refl _) (.move rfl) ?_)
   refine .qB rfl (.refl _) (.sub rfl rfl rfl (by omega) (by omega)) ?_
   rw [show (I : Int) - 1 = ((I - 1 : Nat) : Int) by omega]
   refine .q rfl (.idxN sl_24_A (by first | assumption | exact SlA.of_row hg (by first | rfl | (simp; done) | (simp <;> omega))) rfl rfl (by omega)) ?_
   refine .q rfl (.loadI on_2_A (by first | assumption | exact Ints.of_get hg) rfl (by omega)) ?_
   refine .qB rfl (.refl _) (.move rfl) (.qB rfl (.refl _) (.move rfl) ?_)
   refine .q rfl (.idxN sl_24_A (by first | assumption | exact SlA.of_row hg (by first | rfl | (simp; done) | (simp <;> omega))) rfl rfl (by omega)) ?_
   refine .q rfl (.loadI on_2_A (by first | assumption | exact Ints.of_get hg) rfl (by omega)) ?_
   refine .call1 rfl rfl rfl rfl rfl @Try.call42 rfl (l01OwnN_c (xs := xs.take (I - 1)) (Ints.takeI hg) d3 (by omega)) ?_
   rintro _ H52 ⟨le52, g52, rfl, at52, ge52⟩
   have hbl := le52
   refine ⟨hbl, ?_⟩
   replace hle := hle.trans le52
   replace at3 := le52.2 _ _ at3
   have lt_at52 := GHeap.ltg at52
   replace hf0 := hf0.trans le52
   replace hin := base_hin.mono hle
   have hb3 : Cat.At _ g3 0 c p := ⟨Mem.of_get at3, hin⟩
   have hi3 := hb3.2
   refine .callQ1 rfl rfl rfl rfl rfl @Try.call44 rfl (l02Then_c) hbl ?_
   refine .c1 rfl rfl rfl rfl (.litA rfl sl_24_A ze_2_Pa rfl rfl rfl rfl) ?_
   rintro _ H64 ⟨g64, rfl, le64, ge64, at64⟩
   replace hbl := hbl.trans le64
   refine ⟨hbl, ?_⟩
   replace at52 := le64.2 _ _ at52
   have lt_at64 := GHeap.ltg at64
   replace hf0 := hf0.trans le64
   refine .c1 rfl rfl rfl rfl (.appendI rfl sl_24_A ze_2_Pa rfl by_2_Pa sl_24_A rfl rfl (by assumption) (by assumption) (by first | omega | (simp <;> omega)) (by omega) (by omega)) ?_
   rintro _ H65x2 ⟨g65x2, rfl, st65x2, ge65x2, at65x2⟩
   replace hbl := hbl.st st65x2 (fun k hk => ⟨by omega, trivial⟩)
   refine ⟨hbl, ?_⟩
   replace hf0 := hf0.st st65x2 (fun k hk => ⟨by omega, trivial⟩)
   refine .qB rfl hbl (.assign rfl) ?_
   refine .done ?_
   exact ⟨g65x2, ⟨rfl, rfl, rfl, rfl, rfl, rfl, rfl, rfl, rfl, rfl, rfl, rfl, rfl, rfl, rfl, rfl, rfl, rfl, rfl, rfl, rfl, rfl, rfl, rfl, rfl, rfl, rfl, rfl, rfl, rfl, rfl, rfl, rfl, rfl, rfl, rfl, rfl, rfl, trivial⟩, hf0, by omega, by first | assumption | simpa using at65x2⟩
  rintro fr65 H65 ⟨g65, hsub65, le65, ge65, at65⟩
  replace hle := hle.trans le65
  replace hg := le65.2 _ _ hg
  replace at3 := le65.2 _ _ at3
  have lt_at65 := GHeap.ltg at65
  replace hin := base_hin.mono hle
  have hb3 : Cat.At _ g3 0 c p := ⟨Mem.of_get at3, hin⟩
  refine hK21 _ _ ?_
  refine .forget hsub65 ?_
  refine .seq (fun K22 hK22 => .region (.mv rfl (.mv rfl (.mv rfl ?_))))
  refine .q rfl (.add rfl rfl rfl (by omega) (by omega)) ?_
  rw [show (I : Int) + 1 = ((I + 1 : Nat) : Int) by omega]
  refine .q rfl (.slice (l := I + 1) (h := xs.length) sl_24_A rfl hg ⟨_, rfl⟩ rfl (by omega) (by omega)) ?_
  rw [show xs.length - (I + 1) = (xs.drop (I + 1)).length by rw [List.length_drop]]
  have hdr := Ints.dropI (k := I + 1) hg
  refine .R rfl (.appendL rfl sl_24_A ze_2_Pa rfl by_2_Pa sl_24_A rfl rfl (by assumption) (by first | assumption | exact Ints.of_get (by assumption)) (by first | omega | (simp <;> omega)) (by omega) (by omega)) ?_
  rintro _ H71 ⟨g71, rfl, st71, ge71, at71⟩
  replace hle := hle.st st71 (fun k hk => ⟨by omega, trivial⟩)
  replace at3 := st71.s at3
  replace hin := base_hin.mono hle
  clear hb3
  have hb3 : Cat.At _ g3 0 c p := ⟨Mem.of_get at3, hin⟩
  refine .mv rfl (.mv rfl (.nil (hK22 _ _ ?_)))
  refine .ret ?_
  refine hret _ _ ?_
  refine ⟨_, _, rfl, rfl, ?_⟩
  exact .mk hk (Cat.faceL_mid (by omega) (by omega)) (by omega)
set_option maxHeartbeats 4000000 in
theorem l02Walk_c {gS : Nat} {c : Cat} {p : CatP} {x n : Int} {H : GHeap} (hs : DSrc 93 H gS := by assumption) (hin : ∀ H', St [gS] H H' → c.In H' p) (hsm : c.Small := by assumption) (hn : 0 ≤ n ∧ n ≤ 16 := by omega) :
    GCalls Try.prog 72 [.pointer (some ⟨gS, 0, none⟩), .agg (c.cells p).toArray, .int .i64 x, .int .i64 n] H (fun v H' => ∃ g ys, v = .slice (some ⟨g, 0, none⟩) (ys : List Int).length ys.length ∧ H.next ≤ g ∧ H'.get g = some (.row (ints ys) 2 true) ∧ ys.length ≤ 32 ∧ St [gS] H H' ∧ DSrc 93 H' gS) := by
  have hlS := hs.lt
  obtain ⟨n1, -, -, -, -, -⟩ := id hsm
  refine GCalls.body (N := 58) (rs := [.tmp 8]) Try.func72 rfl rfl rfl rfl (fun Qx hret hend => ?_)
  refine .fg [0, 1, 2, 3] rfl ?_
  have hst := St.refl [gS] H
  refine .seq (fun K1 hK1 => .region ?_)
  refine .R rfl (.boxR rfl sz_27_D rfl) ?_
  rintro _ H5 ⟨g5, rfl, le5, ge5, at5⟩
  replace hst := hst.le le5
  have lt_at5 := GHeap.ltg at5
  have hi0 := hin _ hst
  have hb5 : Cat.At _ g5 0 c p := ⟨Mem.of_get at5, hi0⟩
  refine .mv rfl (.nil (hK1 _ _ (.seq (fun K2 hK2 => .region ?_))))
  have hs := hs.le le5
  refine .R rfl (.litA rfl sl_24_A ze_2_Pa rfl rfl rfl rfl) ?_
  rintro _ H12 ⟨g12, rfl, le12, ge12, at12⟩
  replace hst := hst.le le12
  replace hs := hs.le le12
  replace at5 := le12.2 _ _ at5
  have lt_at12 := GHeap.ltg at12
  clear hi0
  have hi0 := hin _ hst
  clear hb5
  have hb5 : Cat.At _ g5 0 c p := ⟨Mem.of_get at5, hi0⟩
  replace at12 : GHeap.get H12 g12 = some (.row (ints []) 2 true) := at12
  refine .mv rfl (.nil (hK2 _ _ (.seq (fun K3 hK3 => .seq (fun K4 hK4 => .region (.mv rfl (.mv rfl ?_)))))))
  refine .q rfl (.add rfl rfl rfl (by omega) (by omega)) ?_
  refine .call rfl rfl rfl rfl @Try.call73 rfl (l01Next_c) ?_
  rintro _ H16 ⟨k16, rfl, ka16, kb16, kc16, st16, hs⟩
  have nx_H16 := st16.nx
  replace hst := hst.sA st16
  have ne_g5_gS : NE g5 gS := .a
  replace at5 := st16.s at5 ne_g5_gS.ne
  replace at12 := st16.s at12
  clear hi0
  have hi0 := hin _ hst
  clear hb5
  have hb5 : Cat.At _ g5 0 c p := ⟨Mem.of_get at5, hi0⟩
  refine .mv rfl (.nil (hK4 _ _ ?_))
  refine .block ?_
  refine .loopR (σ := Int × Int × List Int × Nat × Nat) [(0, some _), (5, some _)] (fun (kk, y, ys, gL9, nL9) => [(10, some (.int .i64 kk)), (2, some (.int .i64 y)), (9, some (.slice (some ⟨gL9, 0, none⟩) nL9 nL9))]) (fun (kk, y, ys, gL9, nL9) H' => St [g12, gS] H16 H' ∧ H'.get gL9 = some (.row (ints ys) 2 true) ∧ (gL9 = g12 ∨ H16.next ≤ gL9) ∧ nL9 = ys.length ∧ (0 ≤ kk ∧ kk + ys.length ≤ 17) ∧ DSrc 93 H' gS) (fun (kk, y, ys, gL9, nL9) => kk.toNat) ((k16, x, [], _, _)) ⟨rfl, rfl, trivial⟩ ⟨rfl, rfl, rfl, trivial⟩ ?_ ?_
  ·
   refine ⟨.refl _ _, by first | assumption | exact at12 | simpa using at12, .inl rfl, by first | rfl | assumption | simp | omega, ?_⟩
   exact ⟨⟨by omega, by simp; omega⟩, hs⟩
  rintro ⟨kk, y, ys, gL9, nL9⟩ HL1 ⟨lst1, at_L9, pl_L9, ln_L9, hI⟩ KL1 hKL1
  refine .forget (fr' := [(10, some (.int .i64 kk)), (2, some (.int .i64 y)), (9, some (.slice (some ⟨gL9, 0, none⟩) nL9 nL9)), (0, some _), (5, some _)]) ⟨rfl, rfl, rfl, rfl, rfl, trivial⟩ ?_
  have nx_HL1 := lst1.nx
  replace hst := hst.sA lst1
  replace at5 := lst1.same _ _ ⟨(by first | assumption | omega), ne_g5_gS.ne, trivial⟩ at5
  clear hi0
  have hi0 := hin _ hst
  clear hb5
  have hb5 : Cat.At _ g5 0 c p := ⟨Mem.of_get at5, hi0⟩
  obtain ⟨-, c15, -, -, -, -, -, -, -⟩ := hb5.get
  have hi5 := hb5.2
  obtain ⟨hkk, hs⟩ := hI
  refine .seq (fun K5 hK5 => .seq (fun K6 hK6 => .region (.mv rfl (.q rfl (.cmp rfl rfl rfl) (.mv rfl ?_)))))
  refine .split (fun h19 => ?_) (fun h19 => ?_)
  ·
   simp only [sps] at h19
   refine .qg rfl (.loadM ag_27_D rfl ⟨rfl, Mem.of_get at5⟩) ?_
   refine .callQg rfl rfl rfl rfl rfl rfl @Try.call58 rfl (l02Is_c) ?_
   refine .q rfl (.pickT rfl rfl) (.mv rfl ?_)
   refine .split (fun h23 => ?_) (fun h23 => ?_)
   ·
    try simp only [sps] at h23
    refine .qg rfl (.loadM ag_27_D rfl ⟨rfl, Mem.of_get at5⟩) ?_
    refine .qg rfl (.move rfl) ?_
    refine .callQg rfl rfl rfl rfl rfl rfl @Try.call103 rfl (l02Object_c) ?_
    refine .q rfl (.pickT rfl rfl) (.nil (hK6 _ _ ?_))
    refine .cond rfl (fun h27 => ?_) (fun h27 => ?_)
    ·
     simp only [sps] at h23 h27
     have hIs := h23
     have hS := hIs.1
     have q1 := hS.tl
     have q2 := hS.n40
     have hid := Cat.id_in hS h27.1 h27.2
     refine .skip ?_
     refine hK5 _ _ (.seq (fun K7 hK7 => ?_))
     refine .block ?_
     refine .seq (fun K8 hK8 => .region (.mv rfl (.q rfl (.fieldAddr fo_27_1_B rfl) ?_)))
     refine .q rfl (.load on_24_B rfl (by first | assumption | exact Mem.of_get at5 1 _ rfl)) ?_
     refine .q rfl (.len sl_24_A rfl) ?_
     refine .call rfl rfl rfl rfl @Try.call73 rfl (l01Next_c) ?_
     rintro _ H34 ⟨k34, rfl, ka34, kb34, kc34, st34, hs⟩
     have nx_H34 := st34.nx
     replace hst := hst.sA st34
     replace lst1 := lst1.sA st34
     replace at5 := st34.s at5 ne_g5_gS.ne
     replace at_L9 := st34.s at_L9
     clear hi0
     have hi0 := hin _ hst
     clear hb5 c15 hi5
     have hb5 : Cat.At _ g5 0 c p := ⟨Mem.of_get at5, hi0⟩
     obtain ⟨-, c15, -, -, -, i15, -, -, -⟩ := hb5.get
     refine .mv rfl (.nil (hK8 _ _ (.seq (fun K9 hK9 => ?_))))
     refine .block ?_
     refine .loopR (σ := Int) [(0, some _), (2, some _), (5, some _), (9, some _), (10, some _), (20, some _), (21, some _), (24, some _), (25, some _), (26, some _)] (fun f2 => [(11, some (.int .i64 f2))]) (fun f2 H' => H34 = H' ∧ 0 ≤ f2 ∧ f2 < c.src.length) (fun f2 => (if f2 ≤ c.I y then c.I y - f2 else c.src.length - f2 + c.I y).toNat) (k34) ⟨rfl, rfl, rfl, rfl, rfl, rfl, rfl, rfl, rfl, rfl, trivial⟩ ⟨rfl, trivial⟩ ?_ ?_
     ·
      refine ⟨rfl, ?_⟩
      exact ⟨by omega, by omega⟩
     rintro f2 _ ⟨rfl, hI⟩ KL2 hKL2
     refine .forget (fr' := [(11, some (.int .i64 f2)), (0, some _), (2, some _), (5, some _), (9, some _), (10, some _), (20, some _), (21, some _), (24, some _), (25, some _), (26, some _)]) ⟨rfl, rfl, rfl, rfl, rfl, rfl, rfl, rfl, rfl, rfl, rfl, trivial⟩ ?_
     refine .seq (fun K10 hK10 => .seq (fun K11 hK11 => .region (.q rfl (.fieldAddr fo_27_1_B rfl) ?_)))
     refine .q rfl (.load on_24_B rfl (by first | assumption | exact Mem.of_get at5 1 _ rfl)) ?_
     refine .mv rfl ?_
     refine .q rfl (.idx1 sl_24_A (by assumption) rfl rfl (by omega) (by omega)) ?_
     refine .q rfl (.loadI on_2_A (by assumption) rfl (by omega)) ?_
     refine .mv rfl (.q rfl (.cmp rfl rfl rfl) (.nil (hK11 _ _ ?_)))
     refine .cond rfl (fun h41 => ?_) (fun h41 => ?_)
     ·
      try simp only [sps] at h41
      refine .skip ?_
      refine hK10 _ _ ?_
      refine .block ?_
      refine .region (.mv rfl ?_)
      refine .q rfl (.add rfl rfl rfl (by omega) (by omega)) ?_
      refine .q rfl (.fieldAddr fo_27_1_B rfl) ?_
      refine .q rfl (.load on_24_B rfl (by first | assumption | exact Mem.of_get at5 1 _ rfl)) ?_
      refine .q rfl (.len sl_24_A rfl) ?_
      refine .q rfl (.rem rfl rfl (by omega)) ?_
      refine .mv rfl (.nil ?_)
      refine hKL2 (_) _ _ ?_ ?_ ⟨rfl, rfl, rfl, rfl, rfl, rfl, rfl, rfl, rfl, rfl, rfl, trivial⟩
      ·
       refine ⟨rfl, ?_⟩
       exact tmod_step_in hI
      exact tmod_near hI hid.1 (fun q => h41 (q ▸ hid.2.1))
     try simp only [sps] at h41
     refine .exit ?_
     refine hK9 _ _ (.seq (fun K12 hK12 => .region (.mv rfl (.mv rfl ?_))))
     refine .R rfl (.litA rfl sl_24_A ze_2_Pa rfl rfl rfl rfl) ?_
     rintro _ H50 ⟨g50, rfl, le50, ge50, at50⟩
     replace hst := hst.le le50
     replace lst1 := lst1.le le50
     replace hs := hs.le le50
     replace at5 := le50.2 _ _ at5
     replace at_L9 := le50.2 _ _ at_L9
     have lt_at50 := GHeap.ltg at50
     clear hi0
     have hi0 := hin _ hst
     clear hb5 c15 i15
     have hb5 : Cat.At _ g5 0 c p := ⟨Mem.of_get at5, hi0⟩
     refine .R rfl (.appendI rfl sl_24_A ze_2_Pa rfl by_2_Pa sl_24_A rfl rfl (by assumption) (by assumption) (by first | omega | (simp <;> omega)) (by omega) (by omega)) ?_
     rintro _ H51 ⟨g51, rfl, st51, ge51, at51⟩
     replace hst := hst.sA st51
     replace lst1 := lst1.sA st51
     replace hs := hs.sA st51
     replace at5 := st51.s at5
     clear hi0
     have hi0 := hin _ hst
     clear hb5
     have hb5 : Cat.At _ g5 0 c p := ⟨Mem.of_get at5, hi0⟩
     obtain ⟨-, -, c25, -, -, -, i25, -, -⟩ := hb5.get
     refine .mv rfl (.nil (hK12 _ _ (.region (.q rfl (.fieldAddr fo_27_2_B rfl) ?_))))
     refine .q rfl (.load on_24_B rfl (by first | assumption | exact Mem.of_get at5 2 _ rfl)) ?_
     refine .mv rfl ?_
     refine .q rfl (.idx1 sl_24_A (by assumption) rfl rfl (by omega) (by omega)) ?_
     refine .q rfl (.loadI on_2_A (by assumption) rfl (by omega)) ?_
     refine .mv rfl (.nil (hK7 _ _ (.region (.mv rfl ?_))))
     refine .q rfl (.sub rfl rfl rfl (by omega) (by omega)) ?_
     refine .mv rfl (.nil ?_)
     refine hKL1 ((kk - 1, _, ys ++ [f2], _, _)) _ _ ?_ ?_ ⟨rfl, rfl, rfl, rfl, rfl, trivial⟩
     ·
      refine ⟨lst1, by assumption, by omega, by first | omega | (simp only [List.length_append, List.length_cons, List.length_nil] <;> omega), ?_⟩
      exact ⟨⟨by omega, by simp; omega⟩, hs⟩
     (dsimp only; omega)
    try simp only [sps] at h27
    refine .exit ?_
    refine hK3 _ _ (.seq (fun K13 hK13 => .region (.mv rfl (.mv rfl (.nil (hK13 _ _ ?_))))))
    refine .ret ?_
    refine hret _ _ ?_
    refine ⟨_, rfl, ?_⟩
    exact ⟨gL9, ys, by rw [ln_L9], by omega, at_L9, by omega, hst, hs⟩
   try simp only [sps] at h23
   refine .z rfl (.z rfl (.z rfl (.q rfl (.pickF rfl rfl) (.nil (hK6 _ _ ?_)))))
   refine .condF rfl ?_
   refine .exit ?_
   refine hK3 _ _ (.seq (fun K14 hK14 => .region (.mv rfl (.mv rfl (.nil (hK14 _ _ ?_))))))
   refine .ret ?_
   refine hret _ _ ?_
   refine ⟨_, rfl, ?_⟩
   exact ⟨gL9, ys, by rw [ln_L9], by omega, at_L9, by omega, hst, hs⟩
  try simp only [sps] at h19
  refine .z rfl (.z rfl (.q rfl (.pickF rfl rfl) (.mv rfl (.z rfl (.z rfl (.z rfl (.q rfl (.pickF rfl rfl) (.nil (hK6 _ _ ?_)))))))))
  refine .condF rfl ?_
  refine .exit ?_
  refine hK3 _ _ (.seq (fun K15 hK15 => .region (.mv rfl (.mv rfl (.nil (hK15 _ _ ?_))))))
  refine .ret ?_
  refine hret _ _ ?_
  refine ⟨_, rfl, ?_⟩
  exact ⟨gL9, ys, by rw [ln_L9], by omega, at_L9, by omega, hst, hs⟩
end Go.Proofs.Ytkfbalfcbaphcaa
namespace Go.Proofs.Ytkfbalfcbaphcaa
open Go Go.GL Go.RowKit Go.Proofs
set_option maxHeartbeats 8000000 in
theorem l33Chained_c {a : Option Addr} {xs : List Int} {H : GHeap} (hb : Bytes H a xs := by assumption) (hlt : ∀ b o t, a = some ⟨b, o, t⟩ → b < H.next := by assumption) (hx : xs.length ≤ 4096 := by omega) :
    GCalls Try.prog 37 [.slice a xs.length xs.length] H (NewCh 2 H) := by
  refine GCalls.body (N := 45) (rs := [.cell 2 27, .tmp 3, .tmp 4]) Try.func37 rfl rfl rfl rfl (fun Qx hret hend => ?_)
  refine .fg [0] rfl ?_
  have hle := GHeap.Le.refl H
  have base_hb := hb
  refine .seq (fun K1 hK1 => .region ?_)
  refine .R rfl (.allocR rfl ze_27_Hj rfl) ?_
  rintro _ H2 ⟨g2, rfl, le2, ge2, at2⟩
  replace hle := hle.trans le2
  have lt_at2 := GHeap.ltg at2
  replace hb := base_hb.mono hle
  refine .mv rfl (.mv rfl (.nil (hK1 _ _ (.seq (fun K2 hK2 => .region (.mv rfl ?_))))))
  refine .call rfl rfl rfl rfl @Try.call46 rfl (l01From_c (hlt := fun b o t e => by have := hlt b o t e; omega)) ?_
  rintro _ H9 ⟨le9, gS, rfl, ge9, hs⟩
  have hlS := hs.lt
  have nx_H9 := le9.1
  replace hle := hle.trans le9
  replace at2 := le9.2 _ _ at2
  refine .mv rfl (.nil (hK2 _ _ (.seq (fun K3 hK3 => .region (.mv rfl ?_)))))
  refine .call rfl rfl rfl rfl @Try.call71 rfl (l02Draw_c) ?_
  rintro _ H11 ⟨c11, p11, rfl, sm11, v11, st11, hs⟩
  have nx_H11 := st11.nx
  replace hle := hle.st st11 (fun k hk => ⟨by omega, trivial⟩)
  have ne_g2_gS : NE g2 gS := .a
  replace at2 := st11.s at2 ne_g2_gS.ne
  have bs_v11 := v11
  have lv_v11 : Keep H9.next H11 H11 := fun _ _ _ h => h
  refine .R rfl (.allocR rfl ze_27_Hj rfl) ?_
  rintro _ H6 ⟨g6, rfl, le6, ge6, at6⟩
  replace hle := hle.trans le6
  replace hs := hs.le le6
  replace at2 := le6.2 _ _ at2
  replace lv_v11 := Keep.le lv_v11 le6
  refine .r0 rfl rfl (.fillA rfl sz_27_D rfl rfl rfl rfl) ?_
  rintro _ H2003 ⟨rfl, st2003, at2003⟩
  replace hle := hle.st st2003 (fun k hk => ⟨by omega, trivial⟩)
  replace hs := hs.sA st2003
  replace at2 := st2003.s at2
  replace lv_v11 := Keep.st lv_v11 st2003 (fun k hb hk => ⟨(by omega), trivial⟩)
  have lt_at2003 := GHeap.ltg at2003
  refine .nil (hK3 _ _ (.seq (fun K4 hK4 => ?_)))
  refine .regionDB mo_B (.q 0 (.q 1 (.q 2 (.q 3 (.q 4 (.c 5 1 (.c 6 0 (.q 7 (.done))))))))) (by kernel_rfl) (GHeap.le_erase H2003 gS) ?_
  have hbl := GHeap.le_erase H2003 gS
  have a6B := GHeap.get_erase_of (g := gS) at2003 (by omega)
  obtain ⟨n1, -, -, -, -, -⟩ := id sm11
  refine .qB rfl hbl (.move rfl) ?_
  refine .qB rfl hbl (.loadM ag_27_D rfl ⟨rfl, Mem.of_get a6B⟩) ?_
  refine .qB rfl hbl (.move rfl) (.qB rfl hbl (.fieldAddr fo_27_0_B rfl) (.qB rfl hbl (.load on_2_A rfl (Mem.of_get a6B 0 _ rfl)) ?_))
  refine .call1 rfl rfl rfl rfl rfl @Try.call73 rfl (l01Next_c) ?_
  rintro _ H17 ⟨k17, rfl, ka17, kb17, kc17, st17, hs⟩
  replace hbl := hbl.erase_st st17
  refine ⟨hbl, ?_⟩
  have nx_H17 := st17.nx
  replace hle := hle.st st17 (fun k hk => ⟨by omega, trivial⟩)
  replace at2 := st17.s at2 ne_g2_gS.ne
  have ne_g6_gS : NE g6 gS := .a
  replace at2003 := st17.s at2003 ne_g6_gS.ne
  replace lv_v11 := Keep.st lv_v11 st17 (fun k hb hk => ⟨(by omega), trivial⟩)
  replace v11 := bs_v11.keep lv_v11 (Nat.le_refl _)
  refine .call0 rfl rfl rfl rfl rfl @Try.call72 rfl (l02Walk_c (hin := fun H' s => v11.all H' (Keep.st (.of_le (.refl _)) s (fun k hb hk => ⟨(by omega), trivial⟩)))) ?_
  rintro _ H18 ⟨g18, ys18, rfl, ge18, at18, yl18, st18, hs⟩
  replace hle := hle.st st18 (fun k hk => ⟨by omega, trivial⟩)
  replace at2 := st18.s at2 ne_g2_gS.ne
  replace at2003 := st18.s at2003 ne_g6_gS.ne
  replace lv_v11 := Keep.st lv_v11 st18 (fun k hb hk => ⟨(by omega), trivial⟩)
  have lt_at18 := GHeap.ltg at18
  refine .qB rfl (.refl _) (.assign rfl) ?_
  refine .done ?_
  refine hK4 _ _ (.seq (fun K5 hK5 => .seq (fun K6 hK6 => .region (.mv rfl ?_))))
  refine .call rfl rfl rfl rfl @Try.call73 rfl (l01Next_c) ?_
  rintro _ H20 ⟨k20, rfl, ka20, kb20, kc20, st20, hs⟩
  have nx_H20 := st20.nx
  replace hle := hle.st st20 (fun k hk => ⟨by omega, trivial⟩)
  replace at2 := st20.s at2 ne_g2_gS.ne
  replace at2003 := st20.s at2003 ne_g6_gS.ne
  have ne_g18_gS : NE g18 gS := .a
  replace at18 := st20.s at18 ne_g18_gS.ne
  replace lv_v11 := Keep.st lv_v11 st20 (fun k hb hk => ⟨(by omega), trivial⟩)
  refine .nil (hK6 _ _ ?_)
  refine .block ?_
  refine .seq (fun K7 hK7 => .region (.q rfl (.cmp rfl rfl rfl) (.mv rfl (.nil (hK7 _ _ ?_)))))
  refine .cond rfl (fun h21 => ?_) (fun h21 => ?_)
  ·
   try simp only [sps] at h21
   refine .region (.mv rfl (.mv rfl (.q rfl (.fieldAddr fo_27_1_B rfl) ?_)))
   refine .q rfl (.load on_24_B rfl (by first | assumption | exact Mem.of_get at2003 1 _ rfl)) ?_
   refine .q rfl (.len sl_24_A rfl) ?_
   refine .call rfl rfl rfl rfl @Try.call74 rfl (l02Number_c) ?_
   rintro _ H28 ⟨k28, rfl, b28, st28, hs⟩
   have nx_H28 := st28.nx
   replace hle := hle.st st28 (fun k hk => ⟨by omega, trivial⟩)
   replace at2 := st28.s at2 ne_g2_gS.ne
   replace at2003 := st28.s at2003 ne_g6_gS.ne
   replace at18 := st28.s at18 ne_g18_gS.ne
   replace lv_v11 := Keep.st lv_v11 st28 (fun k hb hk => ⟨(by omega), trivial⟩)
   refine .R rfl (.litA rfl sl_24_A ze_2_Pa rfl rfl rfl rfl) ?_
   rintro _ H29 ⟨g29, rfl, le29, ge29, at29⟩
   replace hle := hle.trans le29
   replace hs := hs.le le29
   replace at2 := le29.2 _ _ at2
   replace at2003 := le29.2 _ _ at2003
   replace at18 := le29.2 _ _ at18
   replace lv_v11 := Keep.le lv_v11 le29
   have lt_at29 := GHeap.ltg at29
   refine .R rfl (.appendI rfl sl_24_A ze_2_Pa rfl by_2_Pa sl_24_A rfl rfl (by assumption) (by assumption) (by first | omega | (simp <;> omega)) (by omega) (by omega)) ?_
   rintro _ H30 ⟨g30, rfl, st30, ge30, at30⟩
   replace hle := hle.st st30 (fun k hk => ⟨by omega, trivial⟩)
   replace hs := hs.sA st30
   replace at2 := st30.s at2
   replace at2003 := st30.s at2003
   replace lv_v11 := Keep.st lv_v11 st30 (fun k hb hk => ⟨(by omega), trivial⟩)
   refine .mv rfl (.nil (hK5 _ _ (.seq (fun K8 hK8 => ?_))))
   refine .regionDB mo_B (.q 0 (.q 1 (.q 2 (.q 3 (.q 4 (.q 5 (.q 7 (.c 6 1 (.c 8 1 (.q 9 (.q 10 (.c 11 1 (.q 12 (.q 13 (.done))))))))))))))) (by kernel_rfl) (GHeap.le_erase2 H30 gS g2) ?_
   have hbl := GHeap.le_erase2 H30 gS g2
   have a6C := GHeap.get_erase2_of (g := gS) (k := g2) at2003 (by omega) (by omega)
   refine .qB rfl hbl (.loadM ag_27_D rfl ⟨rfl, Mem.of_get a6C⟩) ?_
   refine .qB rfl hbl (.move rfl) (.qB rfl hbl (.move rfl) (.qB rfl hbl (.move rfl) (.qB rfl hbl (.len sl_24_A rfl) ?_)))
   refine .qB rfl hbl (.add rfl rfl rfl (by omega) (by omega)) ?_
   refine .qB rfl hbl (.move rfl) ?_
   refine .call1 rfl rfl rfl rfl rfl @Try.call73 rfl (l01Next_c) ?_
   rintro _ H40 ⟨k40, rfl, ka40, kb40, kc40, st40, hs⟩
   replace hbl := hbl.erase2_st st40
   refine ⟨hbl, ?_⟩
   replace hle := hle.st st40 (fun k hk => ⟨by omega, trivial⟩)
   replace at2 := st40.s at2 ne_g2_gS.ne
   have ne_g30_gS : NE g30 gS := .a
   replace at30 := st40.s at30 ne_g30_gS.ne
   replace lv_v11 := Keep.st lv_v11 st40 (fun k hb hk => ⟨(by omega), trivial⟩)
   refine .call1 rfl rfl rfl rfl rfl @Try.call73 rfl (l01Next_c) ?_
   rintro _ H42 ⟨k42, rfl, ka42, kb42, kc42, st42, hs⟩
   have hq := tdiv_23 ka42 (kb42 (by omega))
   replace hbl := hbl.erase2_st st42
   refine ⟨hbl, ?_⟩
   replace hle := hle.st st42 (fun k hk => ⟨by omega, trivial⟩)
   replace at2 := st42.s at2 ne_g2_gS.ne
   replace at30 := st42.s at30 ne_g30_gS.ne
   replace lv_v11 := Keep.st lv_v11 st42 (fun k hb hk => ⟨(by omega), trivial⟩)
   refine .qB rfl hbl (.quo rfl rfl (by omega)) ?_
   refine .qB rfl hbl (.sub rfl rfl rfl (by omega) (by omega)) ?_
   refine .r1 rfl rfl rfl (.fillA rfl sz_27_D rfl rfl rfl rfl) ?_
   rintro _ H9011 ⟨rfl, st9011, at9011⟩
   refine ⟨(hbl.erase2_st' (by assumption)), ?_⟩
   replace hle := hle.st st9011 (fun k hk => ⟨by omega, trivial⟩)
   replace at30 := st9011.s at30
   replace lv_v11 := Keep.st lv_v11 st9011 (fun k hb hk => ⟨(by omega), trivial⟩)
   replace v11 := bs_v11.keep lv_v11 (Nat.le_refl _)
   replace hbl := hbl.erase2_st' st9011
   refine .qB rfl hbl (.assign rfl) (.qB rfl hbl (.assign rfl) ?_)
   refine .done ?_
   refine hK8 _ _ ?_
   refine .ret ?_
   refine hret _ _ ?_
   refine ⟨_, _, _, _, _, _, rfl, ag_27_D, (by rfl), (Mem.of_get at9011), rfl, rfl, ?_⟩
   exact ⟨hle, c11, p11, g30, ys18 ++ [k28], _, by rw [List.length_append]; rfl, sm11, v11.keep (.of_le (.refl _)) (by omega), ⟨by omega, by rw [List.length_append]; simp; omega, ⟨by omega, by omega⟩⟩, at30⟩
  try simp only [sps] at h21
  refine .seq (fun K9 hK9 => .region (.q rfl (.cmp rfl rfl rfl) (.mv rfl (.nil (hK9 _ _ ?_)))))
  refine .cond rfl (fun h31 => ?_) (fun h31 => ?_)
  ·
   try simp only [sps] at h31
   refine .region ?_
   refine .R rfl (.litA rfl sl_24_A ze_2_Pa rfl rfl rfl rfl) ?_
   rintro _ H33 ⟨g33, rfl, le33, ge33, at33⟩
   replace hle := hle.trans le33
   replace hs := hs.le le33
   replace at2 := le33.2 _ _ at2
   replace at2003 := le33.2 _ _ at2003
   replace lv_v11 := Keep.le lv_v11 le33
   replace at33 : GHeap.get H33 g33 = some (.row (ints []) 2 true) := at33
   refine .mv rfl (.nil (hK5 _ _ (.seq (fun K10 hK10 => ?_))))
   refine .regionDB mo_B (.q 0 (.q 1 (.q 2 (.q 3 (.q 4 (.q 5 (.q 7 (.c 6 1 (.c 8 1 (.q 9 (.q 10 (.c 11 1 (.q 12 (.q 13 (.done))))))))))))))) (by kernel_rfl) (GHeap.le_erase2 H33 gS g2) ?_
   have hbl := GHeap.le_erase2 H33 gS g2
   have a6C := GHeap.get_erase2_of (g := gS) (k := g2) at2003 (by omega) (by omega)
   refine .qB rfl hbl (.loadM ag_27_D rfl ⟨rfl, Mem.of_get a6C⟩) ?_
   refine .qB rfl hbl (.move rfl) (.qB rfl hbl (.move rfl) (.qB rfl hbl (.move rfl) (.qB rfl hbl (.len sl_24_A rfl) ?_)))
   refine .qB rfl hbl (.add rfl rfl rfl (by omega) (by omega)) ?_
   refine .qB rfl hbl (.move rfl) ?_
   refine .call1 rfl rfl rfl rfl rfl @Try.call73 rfl (l01Next_c) ?_
   rintro _ H40x2 ⟨k40x2, rfl, ka40x2, kb40x2, kc40x2, st40x2, hs⟩
   replace hbl := hbl.erase2_st st40x2
   refine ⟨hbl, ?_⟩
   replace hle := hle.st st40x2 (fun k hk => ⟨by omega, trivial⟩)
   replace at2 := st40x2.s at2 ne_g2_gS.ne
   have ne_g33_gS : NE g33 gS := .a
   replace at33 := st40x2.s at33 ne_g33_gS.ne
   replace lv_v11 := Keep.st lv_v11 st40x2 (fun k hb hk => ⟨(by omega), trivial⟩)
   refine .call1 rfl rfl rfl rfl rfl @Try.call73 rfl (l01Next_c) ?_
   rintro _ H42x2 ⟨k42x2, rfl, ka42x2, kb42x2, kc42x2, st42x2, hs⟩
   have hq := tdiv_23 ka42x2 (kb42x2 (by omega))
   replace hbl := hbl.erase2_st st42x2
   refine ⟨hbl, ?_⟩
   replace hle := hle.st st42x2 (fun k hk => ⟨by omega, trivial⟩)
   replace at2 := st42x2.s at2 ne_g2_gS.ne
   replace at33 := st42x2.s at33 ne_g33_gS.ne
   replace lv_v11 := Keep.st lv_v11 st42x2 (fun k hb hk => ⟨(by omega), trivial⟩)
   refine .qB rfl hbl (.quo rfl rfl (by omega)) ?_
   refine .qB rfl hbl (.sub rfl rfl rfl (by omega) (by omega)) ?_
   refine .r1 rfl rfl rfl (.fillA rfl sz_27_D rfl rfl rfl rfl) ?_
   rintro _ H9011x2 ⟨rfl, st9011x2, at9011x2⟩
   refine ⟨(hbl.erase2_st' (by assumption)), ?_⟩
   replace hle := hle.st st9011x2 (fun k hk => ⟨by omega, trivial⟩)
   replace at33 := st9011x2.s at33
   replace lv_v11 := Keep.st lv_v11 st9011x2 (fun k hb hk => ⟨(by omega), trivial⟩)
   replace v11 := bs_v11.keep lv_v11 (Nat.le_refl _)
   replace hbl := hbl.erase2_st' st9011x2
   refine .qB rfl hbl (.assign rfl) (.qB rfl hbl (.assign rfl) ?_)
   refine .done ?_
   refine hK10 _ _ ?_
   refine .ret ?_
   refine hret _ _ ?_
   refine ⟨_, _, _, _, _, _, rfl, ag_27_D, (by rfl), (Mem.of_get at9011x2), rfl, rfl, ?_⟩
   exact ⟨hle, c11, p11, g33, [], _, rfl, sm11, v11.keep (.of_le (.refl _)) (by omega), ⟨by omega, by simp, ⟨by omega, by omega⟩⟩, at33⟩
  try simp only [sps] at h31
  refine .skip ?_
  refine hK5 _ _ (.seq (fun K11 hK11 => ?_))
  refine .regionDB mo_B (.q 0 (.q 1 (.q 2 (.q 3 (.q 4 (.q 5 (.q 7 (.c 6 1 (.c 8 1 (.q 9 (.q 10 (.c 11 1 (.q 12 (.q 13 (.done))))))))))))))) (by kernel_rfl) (GHeap.le_erase2 H20 gS g2) ?_
  have hbl := GHeap.le_erase2 H20 gS g2
  have a6C := GHeap.get_erase2_of (g := gS) (k := g2) at2003 (by omega) (by omega)
  refine .qB rfl hbl (.loadM ag_27_D rfl ⟨rfl, Mem.of_get a6C⟩) ?_
  refine .qB rfl hbl (.move rfl) (.qB rfl hbl (.move rfl) (.qB rfl hbl (.move rfl) (.qB rfl hbl (.len sl_24_A rfl) ?_)))
  refine .qB rfl hbl (.add rfl rfl rfl (by omega) (by omega)) ?_
  refine .qB rfl hbl (.move rfl) ?_
  refine .call1 rfl rfl rfl rfl rfl @Try.call73 rfl (l01Next_c) ?_
  rintro _ H40x3 ⟨k40x3, rfl, ka40x3, kb40x3, kc40x3, st40x3, hs⟩
  replace hbl := hbl.erase2_st st40x3
  refine ⟨hbl, ?_⟩
  replace hle := hle.st st40x3 (fun k hk => ⟨by omega, trivial⟩)
  replace at2 := st40x3.s at2 ne_g2_gS.ne
  replace at18 := st40x3.s at18 ne_g18_gS.ne
  replace lv_v11 := Keep.st lv_v11 st40x3 (fun k hb hk => ⟨(by omega), trivial⟩)
  refine .call1 rfl rfl rfl rfl rfl @Try.call73 rfl (l01Next_c) ?_
  rintro _ H42x3 ⟨k42x3, rfl, ka42x3, kb42x3, kc42x3, st42x3, hs⟩
  have hq := tdiv_23 ka42x3 (kb42x3 (by omega))
  replace hbl := hbl.erase2_st st42x3
  refine ⟨hbl, ?_⟩
  replace hle := hle.st st42x3 (fun k hk => ⟨by omega, trivial⟩)
  replace at2 := st42x3.s at2 ne_g2_gS.ne
  replace at18 := st42x3.s at18 ne_g18_gS.ne
  replace lv_v11 := Keep.st lv_v11 st42x3 (fun k hb hk => ⟨(by omega), trivial⟩)
  refine .qB rfl hbl (.quo rfl rfl (by omega)) ?_
  refine .qB rfl hbl (.sub rfl rfl rfl (by omega) (by omega)) ?_
  refine .r1 rfl rfl rfl (.fillA rfl sz_27_D rfl rfl rfl rfl) ?_
  rintro _ H9011x3 ⟨rfl, st9011x3, at9011x3⟩
  refine ⟨(hbl.erase2_st' (by assumption)), ?_⟩
  replace hle := hle.st st9011x3 (fun k hk => ⟨by omega, trivial⟩)
  replace at18 := st9011x3.s at18
  replace lv_v11 := Keep.st lv_v11 st9011x3 (fun k hb hk => ⟨(by omega), trivial⟩)
  replace v11 := bs_v11.keep lv_v11 (Nat.le_refl _)
  replace hbl := hbl.erase2_st' st9011x3
  refine .qB rfl hbl (.assign rfl) (.qB rfl hbl (.assign rfl) ?_)
  refine .done ?_
  refine hK11 _ _ ?_
  refine .ret ?_
  refine hret _ _ ?_
  refine ⟨_, _, _, _, _, _, rfl, ag_27_D, (by rfl), (Mem.of_get at9011x3), rfl, rfl, ?_⟩
  exact ⟨hle, c11, p11, g18, ys18, _, rfl, sm11, v11.keep (.of_le (.refl _)) (by omega), ⟨by omega, by omega, ⟨by omega, by omega⟩⟩, at18⟩
set_option maxHeartbeats 8000000 in
theorem drawDegenerateChain_c {a : Option Addr} {xs : List Int} {H : GHeap} (hb : Bytes H a xs := by assumption) (hlt : ∀ b o t, a = some ⟨b, o, t⟩ → b < H.next := by assumption) (hx : xs.length ≤ 4096 := by omega) :
    GCalls Try.prog 8 [.slice a xs.length xs.length] H (NewCh 2 H) := by
  refine GCalls.body (N := 10) (rs := [.cell 2 27, .tmp 3, .tmp 4]) Try.func8 rfl rfl rfl rfl (fun Qx hret hend => ?_)
  refine .fg [0] rfl ?_
  have hle := GHeap.Le.refl H
  have base_hb := hb
  refine .seq (fun K1 hK1 => .region ?_)
  refine .R rfl (.allocR rfl ze_27_Hj rfl) ?_
  rintro _ H2 ⟨g2, rfl, le2, ge2, at2⟩
  have nx_H2 := le2.1
  replace hle := hle.trans le2
  have lt_at2 := GHeap.ltg at2
  replace hb := base_hb.mono hle
  refine .mv rfl (.mv rfl (.nil (hK1 _ _ (.seq (fun K2 hK2 => .region (.mv rfl ?_))))))
  refine .call rfl rfl rfl rfl @Try.call37 rfl (l33Chained_c (hlt := fun b o t e => by have := hlt b o t e; omega)) ?_
  rintro _ H6 ⟨le6, c6, p6, g6, ys6, n6, rfl, sm6, v6, ⟨ge6, yl6, bn6⟩, at6⟩
  replace hle := hle.trans le6
  replace at2 := le6.2 _ _ at2
  have bs_v6 := v6
  have lv_v6 : Keep H2.next H6 H6 := fun _ _ _ h => h
  refine .q rfl (.extract rfl rfl) (.q rfl (.extract rfl rfl) (.q rfl (.extract rfl rfl) ?_))
  refine .r0 rfl rfl (.fillA rfl sz_27_D rfl rfl rfl rfl) ?_
  rintro _ H1005 ⟨rfl, st1005, at1005⟩
  replace hle := hle.st st1005 (fun k hk => ⟨by omega, trivial⟩)
  replace at6 := st1005.s at6
  replace lv_v6 := Keep.st lv_v6 st1005 (fun k hb hk => ⟨by omega, trivial⟩)
  replace v6 := bs_v6.keep lv_v6 (Nat.le_refl _)
  refine .mv rfl (.mv rfl (.nil (hK2 _ _ ?_)))
  refine .ret ?_
  refine hret _ _ ?_
  refine ⟨_, _, _, _, _, _, rfl, ag_27_D, (by rfl), (Mem.of_get at1005), rfl, rfl, ?_⟩
  exact ⟨hle, c6, p6, g6, ys6, n6, rfl, sm6, v6.keep (.of_le (.refl _)) (by omega), ⟨by omega, yl6, bn6⟩, at6⟩
set_option maxHeartbeats 8000000 in
theorem drawFaceOfChain_c {a : Option Addr} {xs : List Int} {H : GHeap} (hb : Bytes H a xs := by assumption) (hlt : ∀ b o t, a = some ⟨b, o, t⟩ → b < H.next := by assumption) (hx : xs.length ≤ 4096 := by omega) :
    GCalls Try.prog 13 [.slice a xs.length xs.length] H (NewCh 2 H) := by
  refine GCalls.body (N := 10) (rs := [.cell 2 27, .tmp 3, .tmp 4]) Try.func13 rfl rfl rfl rfl (fun Qx hret hend => ?_)
  refine .fg [0] rfl ?_
  have hle := GHeap.Le.refl H
  have base_hb := hb
  refine .seq (fun K1 hK1 => .region ?_)
  refine .R rfl (.allocR rfl ze_27_Hj rfl) ?_
  rintro _ H2 ⟨g2, rfl, le2, ge2, at2⟩
  have nx_H2 := le2.1
  replace hle := hle.trans le2
  have lt_at2 := GHeap.ltg at2
  replace hb := base_hb.mono hle
  refine .mv rfl (.mv rfl (.nil (hK1 _ _ (.seq (fun K2 hK2 => .region (.mv rfl ?_))))))
  refine .call rfl rfl rfl rfl @Try.call37 rfl (l33Chained_c (hlt := fun b o t e => by have := hlt b o t e; omega)) ?_
  rintro _ H6 ⟨le6, c6, p6, g6, ys6, n6, rfl, sm6, v6, ⟨ge6, yl6, bn6⟩, at6⟩
  replace hle := hle.trans le6
  replace at2 := le6.2 _ _ at2
  have bs_v6 := v6
  have lv_v6 : Keep H2.next H6 H6 := fun _ _ _ h => h
  refine .q rfl (.extract rfl rfl) (.q rfl (.extract rfl rfl) (.q rfl (.extract rfl rfl) ?_))
  refine .r0 rfl rfl (.fillA rfl sz_27_D rfl rfl rfl rfl) ?_
  rintro _ H1005 ⟨rfl, st1005, at1005⟩
  replace hle := hle.st st1005 (fun k hk => ⟨by omega, trivial⟩)
  replace at6 := st1005.s at6
  replace lv_v6 := Keep.st lv_v6 st1005 (fun k hb hk => ⟨by omega, trivial⟩)
  replace v6 := bs_v6.keep lv_v6 (Nat.le_refl _)
  refine .mv rfl (.mv rfl (.nil (hK2 _ _ ?_)))
  refine .ret ?_
  refine hret _ _ ?_
  refine ⟨_, _, _, _, _, _, rfl, ag_27_D, (by rfl), (Mem.of_get at1005), rfl, rfl, ?_⟩
  exact ⟨hle, c6, p6, g6, ys6, n6, rfl, sm6, v6.keep (.of_le (.refl _)) (by omega), ⟨by omega, yl6, bn6⟩, at6⟩
set_option maxHeartbeats 40000000 in
theorem lawFnSimplices_c {a : Option Addr} {xs : List Int} {H : GHeap} (hb : Bytes H a xs) (hl : xs.length ≤ 9223372036854775807) (hlt : ∀ b o t, a = some ⟨b, o, t⟩ → b < H.next) :
    GCalls Try.prog 3 [.slice a xs.length xs.length] H (fun v _ => v = .bool true) := by
  refine GCalls.body (N := 188) (rs := [.tmp 2]) Try.func3 rfl rfl rfl rfl (fun Qx hret hend => ?_)
  refine .fg [0] rfl ?_
  have hle := GHeap.Le.refl H
  have base_hb := hb
  refine .seq (fun K1 hK1 => .region (.mv rfl (.nil (hK1 _ _ (.seq (fun K2 hK2 => .seq (fun K3 hK3 => .region (.mv rfl ?_))))))))
  refine .callQ rfl rfl rfl rfl @Try.call7 rfl (big_c) ?_
  refine .nil (hK3 _ _ ?_)
  refine .cond rfl (fun h31 => ?_) (fun h31 => ?_)
  ·
   try simp only [sps] at h31
   refine .seq (fun K4 hK4 => .region (.mv rfl (.nil (hK4 _ _ ?_))))
   refine .ret ?_
   refine hret _ _ ?_
   refine ⟨_, rfl, ?_⟩
   rfl
  simp only [sps] at h31
  refine .skip ?_
  refine hK2 _ _ (.seq (fun K5 hK5 => .region (.mv rfl ?_)))
  refine .call rfl rfl rfl rfl @Try.call8 rfl (drawDegenerateChain_c) ?_
  rintro _ H34 ⟨le34, c34, p34, g34, ys34, n34, rfl, sm34, v34, ⟨ge34, yl34, bn34⟩, at34⟩
  replace hle := hle.trans le34
  have lt_at34 := GHeap.ltg at34
  have bs_v34 := v34
  have lv_v34 : Keep H.next H34 H34 := fun _ _ _ h => h
  refine .mv rfl (.q rfl (.extract rfl rfl) (.q rfl (.extract rfl rfl) (.q rfl (.extract rfl rfl) ?_)))
  refine .R rfl (.allocR rfl ze_27_Hj rfl) ?_
  rintro _ H3 ⟨g3, rfl, le3, ge3, at3⟩
  replace hle := hle.trans le3
  replace at34 := le3.2 _ _ at34
  replace lv_v34 := Keep.le lv_v34 le3
  refine .r0 rfl rfl (.fillA rfl sz_27_D rfl rfl rfl rfl) ?_
  rintro _ H3007 ⟨rfl, st3007, at3007⟩
  replace hle := hle.st st3007 (fun k hk => ⟨by omega, trivial⟩)
  replace at34 := st3007.s at34
  replace lv_v34 := Keep.st lv_v34 st3007 (fun k hb hk => ⟨by omega, trivial⟩)
  replace v34 := bs_v34.keep lv_v34 (Nat.le_refl _)
  have lt_at3007 := GHeap.ltg at3007
  have i34 := v34.inn
  refine .mv rfl (.mv rfl (.nil (hK5 _ _ (.seq (fun K6 hK6 => .region ?_)))))
  refine .q rfl (.loadM ag_27_D rfl ⟨rfl, Mem.of_get at3007⟩) ?_
  refine .mv rfl (.mv rfl ?_)
  refine .call rfl rfl rfl rfl @Try.call9 rfl (degenerateChain_c (hg := at34) (hl := by omega)) ?_
  rintro _ H42 ⟨le42, a42, rfl, v42⟩
  have nx_H42 := le42.1
  replace hle := hle.trans le42
  replace at34 := le42.2 _ _ at34
  replace at3007 := le42.2 _ _ at3007
  replace lv_v34 := Keep.le lv_v34 le42
  replace v34 := bs_v34.keep lv_v34 (Nat.le_refl _)
  have bs_v42 := v42
  have lv_v42 : Keep H3007.next H42 H42 := fun _ _ _ h => h
  clear i34
  have i34 := v34.inn
  refine .mv rfl (.q rfl (.extract rfl rfl) (.q rfl (.extract rfl rfl) (.mv rfl (.mv rfl (.nil (hK6 _ _ (.seq (fun K7 hK7 => .region ?_))))))))
  refine .q rfl (.loadM ag_27_D rfl ⟨rfl, Mem.of_get at3007⟩) ?_
  refine .mv rfl (.mv rfl ?_)
  refine .call rfl rfl rfl rfl @Try.call10 rfl (degenerateChain_s (hg := at34) (hl := by omega)) ?_
  rintro _ H49 ⟨le49, a49, rfl, v49⟩
  have nx_H49 := le49.1
  replace hle := hle.trans le49
  replace at34 := le49.2 _ _ at34
  replace at3007 := le49.2 _ _ at3007
  replace lv_v34 := Keep.le lv_v34 le49
  replace v34 := bs_v34.keep lv_v34 (Nat.le_refl _)
  replace lv_v42 := Keep.le lv_v42 le49
  replace v42 := bs_v42.keep lv_v42 (Nat.le_refl _)
  have bs_v49 := v49
  have lv_v49 : Keep H42.next H49 H49 := fun _ _ _ h => h
  replace hb := base_hb.mono hle
  clear i34
  have i34 := v34.inn
  have i42 := v42.ints
  have i49 := v49.ints
  refine .mv rfl (.q rfl (.extract rfl rfl) (.q rfl (.extract rfl rfl) (.mv rfl (.mv rfl (.nil (hK7 _ _ (.seq (fun K8 hK8 => .seq (fun K9 hK9 => .region ?_)))))))))
  have hq1 : (codeL (c34.sxC ys34 n34 1) (c34.degL ys34 n34.toNat)).length ≤ 1048576 := codeL_le (by rw [Cat.length_degL]; omega)
  refine .mv rfl (.mv rfl (.q rfl (.cmp rfl rfl rfl) (.mv rfl ?_)))
  refine .split (fun h55 => ?_) (fun h55 => ?_)
  ·
   simp at h55
  try simp only [sps] at h55
  refine .qg rfl (.move rfl) (.qg rfl (.move rfl) ?_)
  refine .callQg rfl rfl rfl rfl rfl rfl @Try.call11 rfl (likeInts_c) ?_
  refine .qg rfl (.not rfl) (.q rfl (.pickF rfl rfl) (.nil (hK9 _ _ ?_)))
  refine .cond rfl (fun h60 => ?_) (fun h60 => ?_)
  ·
   simp at h60
  try simp only [sps] at h60
  refine .skip ?_
  refine hK8 _ _ (.seq (fun K10 hK10 => .seq (fun K11 hK11 => .region (.mv rfl (.q rfl (.cmp rfl rfl rfl) (.nil (hK11 _ _ ?_)))))))
  refine .cond rfl (fun h62 => ?_) (fun h62 => ?_)
  ·
   try simp only [sps] at h62
   refine .seq (fun K12 hK12 => .region ?_)
   obtain ⟨hIs, hch, hi, hn⟩ := Cat.ch_of h62
   have hD := hch.deg hIs.1 (i := n34.toNat) (by omega) hn
   obtain ⟨f1, f2⟩ := Cat.face_deg hIs hch (i := n34.toNat) (by omega) hn
   have hdl := c34.length_degL ys34 n34.toNat
   have z1 := hD.sx (i := n34) (n := 2) hIs (by omega) (by omega)
   have z2 := hD.sx (i := n34 + 1) (n := 2) hIs (by omega) (by omega)
   have hX : codeL (c34.sxC ys34 n34 1) (c34.degL ys34 n34.toNat) = c34.degL ys34 n34.toNat := codeL_ok h62
   generalize codeL (c34.sxC ys34 n34 1) (c34.degL ys34 n34.toNat) = L at *
   subst hX
   refine .q rfl (.loadM ag_27_D rfl ⟨rfl, Mem.of_get at3007⟩) ?_
   refine .mv rfl (.mv rfl ?_)
   refine .call rfl rfl rfl rfl @Try.call12 rfl (faceOfChain_r (hv := v49)) ?_
   rintro _ H67 ⟨le67, a67, rfl, v67⟩
   have nx_H67 := le67.1
   replace hle := hle.trans le67
   replace at34 := le67.2 _ _ at34
   replace at3007 := le67.2 _ _ at3007
   replace lv_v34 := Keep.le lv_v34 le67
   replace v34 := bs_v34.keep lv_v34 (Nat.le_refl _)
   replace lv_v49 := Keep.le lv_v49 le67
   replace v49 := bs_v49.keep lv_v49 (Nat.le_refl _)
   have bs_v67 := v67
   have lv_v67 : Keep H49.next H67 H67 := fun _ _ _ h => h
   clear i34
   have i34 := v34.inn
   clear i42
   clear i49
   refine .mv rfl (.q rfl (.extract rfl rfl) (.q rfl (.extract rfl rfl) (.mv rfl (.mv rfl (.nil (hK12 _ _ (.seq (fun K13 hK13 => .region ?_))))))))
   refine .q rfl (.loadM ag_27_D rfl ⟨rfl, Mem.of_get at3007⟩) ?_
   refine .mv rfl (.mv rfl ?_)
   refine .q rfl (.add rfl rfl rfl (by omega) (by omega)) ?_
   refine .call rfl rfl rfl rfl @Try.call12 rfl (faceOfChain_r (hv := v49)) ?_
   rintro _ H75 ⟨le75, a75, rfl, v75⟩
   have nx_H75 := le75.1
   replace hle := hle.trans le75
   replace at34 := le75.2 _ _ at34
   replace lv_v67 := Keep.le lv_v67 le75
   replace v67 := bs_v67.keep lv_v67 (Nat.le_refl _)
   replace hb := base_hb.mono hle
   clear i34
   have i67 := v67.ints
   have i75 := v75.ints
   refine .mv rfl (.q rfl (.extract rfl rfl) (.q rfl (.extract rfl rfl) (.mv rfl (.mv rfl (.nil (hK13 _ _ (.seq (fun K14 hK14 => .region ?_))))))))
   have e1 : codeL (c34.sxC (c34.degL ys34 n34.toNat) n34 2) (c34.faceL (c34.degL ys34 n34.toNat) n34.toNat) = ys34 := (codeL_ok z1).trans f1
   have e2 : codeL (c34.sxC (c34.degL ys34 n34.toNat) (n34 + 1) 2) (c34.faceL (c34.degL ys34 n34.toNat) (n34 + 1).toNat) = ys34 := by rw [codeL_ok z2, show (n34 + 1).toNat = n34.toNat + 1 by omega]; exact f2
   have hq2 := congrArg List.length e1
   have hq3 := congrArg List.length e2
   refine .mv rfl (.q rfl (.cmp rfl rfl rfl) (.mv rfl ?_))
   refine .split (fun h80 => ?_) (fun h80 => ?_)
   ·
    simp [z1] at h80
   try simp only [sps] at h80
   refine .qg rfl (.move rfl) (.qg rfl (.cmp rfl rfl rfl) (.q rfl (.pickF rfl rfl) (.mv rfl ?_)))
   refine .split (fun h84 => ?_) (fun h84 => ?_)
   ·
    simp [z2] at h84
   try simp only [sps] at h84
   refine .qg rfl (.move rfl) (.qg rfl (.move rfl) ?_)
   refine .callQg rfl rfl rfl rfl rfl rfl @Try.call11 rfl (likeInts_c (h' := Ints.of_get at34)) ?_
   refine .qg rfl (.not rfl) (.q rfl (.pickF rfl rfl) (.mv rfl ?_))
   refine .split (fun h90 => ?_) (fun h90 => ?_)
   ·
    simp [e1] at h90
   try simp only [sps] at h90
   refine .qg rfl (.move rfl) (.qg rfl (.move rfl) ?_)
   refine .callQg rfl rfl rfl rfl rfl rfl @Try.call11 rfl (likeInts_c (h' := Ints.of_get at34)) ?_
   refine .qg rfl (.not rfl) (.q rfl (.pickF rfl rfl) (.nil (hK14 _ _ ?_)))
   refine .cond rfl (fun h95 => ?_) (fun h95 => ?_)
   ·
    simp [e2] at h95
   try simp only [sps] at h95
   refine .skip ?_
   refine hK10 _ _ (.seq (fun K15 hK15 => .region (.mv rfl ?_)))
   refine .call rfl rfl rfl rfl @Try.call13 rfl (drawFaceOfChain_c (hlt := fun b o t e => by have := hlt b o t e; omega)) ?_
   rintro _ H98 ⟨le98, cE, pE, gE, yE, nE, rfl, smE, vE, ⟨geE, ylE, bnE⟩, atE⟩
   have lt_atE := GHeap.ltg atE
   have bs_vE := vE
   have lv_vE : Keep H75.next H98 H98 := fun _ _ _ h => h
   clear i67
   clear i75
   refine .mv rfl (.q rfl (.extract rfl rfl) (.q rfl (.extract rfl rfl) (.q rfl (.extract rfl rfl) ?_)))
   refine .R rfl (.allocR rfl ze_27_Hj rfl) ?_
   rintro _ H14 ⟨g14, rfl, le14, ge14, at14⟩
   replace atE := le14.2 _ _ atE
   replace lv_vE := Keep.le lv_vE le14
   refine .r0 rfl rfl (.fillA rfl sz_27_D rfl rfl rfl rfl) ?_
   rintro _ H13007 ⟨rfl, st13007, at13007⟩
   replace atE := st13007.s atE
   replace lv_vE := Keep.st lv_vE st13007 (fun k hb hk => ⟨by omega, trivial⟩)
   replace vE := bs_vE.keep lv_vE (Nat.le_refl _)
   have iE := vE.inn
   refine .mv rfl (.mv rfl (.nil (hK15 _ _ (.seq (fun K16 hK16 => .region ?_)))))
   refine .q rfl (.loadM ag_27_D rfl ⟨rfl, Mem.of_get at13007⟩) ?_
   refine .mv rfl (.mv rfl ?_)
   refine .call rfl rfl rfl rfl @Try.call12 rfl (faceOfChain_c (hg := atE) (hl := by omega)) ?_
   rintro _ H106 ⟨le106, a106, rfl, v106⟩
   replace atE := le106.2 _ _ atE
   replace at13007 := le106.2 _ _ at13007
   replace lv_vE := Keep.le lv_vE le106
   replace vE := bs_vE.keep lv_vE (Nat.le_refl _)
   have bs_v106 := v106
   have lv_v106 : Keep H13007.next H106 H106 := fun _ _ _ h => h
   clear iE
   have iE := vE.inn
   refine .mv rfl (.q rfl (.extract rfl rfl) (.q rfl (.extract rfl rfl) (.mv rfl (.mv rfl (.nil (hK16 _ _ (.seq (fun K17 hK17 => .region ?_))))))))
   refine .q rfl (.loadM ag_27_D rfl ⟨rfl, Mem.of_get at13007⟩) ?_
   refine .mv rfl (.mv rfl ?_)
   refine .call rfl rfl rfl rfl @Try.call14 rfl (faceOfChain_s (hg := atE) (hl := by omega)) ?_
   rintro _ H113 ⟨le113, aF, rfl, vF⟩
   replace atE := le113.2 _ _ atE
   replace at13007 := le113.2 _ _ at13007
   replace lv_vE := Keep.le lv_vE le113
   replace lv_v106 := Keep.le lv_v106 le113
   replace v106 := bs_v106.keep lv_v106 (Nat.le_refl _)
   have bs_vF := vF
   have lv_vF : Keep H106.next H113 H113 := fun _ _ _ h => h
   clear iE
   have i106 := v106.ints
   have iF := vF.ints
   refine .mv rfl (.q rfl (.extract rfl rfl) (.q rfl (.extract rfl rfl) (.mv rfl (.mv rfl (.nil (hK17 _ _ (.seq (fun K18 hK18 => .seq (fun K19 hK19 => .region ?_)))))))))
   have hq4 : (codeL (cE.sxC yE nE 2) (cE.faceL yE nE.toNat)).length ≤ 1048576 := codeL_le (by rw [Cat.length_faceL]; omega)
   refine .mv rfl (.mv rfl (.q rfl (.cmp rfl rfl rfl) (.mv rfl ?_)))
   refine .split (fun h119 => ?_) (fun h119 => ?_)
   ·
    simp at h119
   try simp only [sps] at h119
   refine .qg rfl (.move rfl) (.qg rfl (.move rfl) ?_)
   refine .callQg rfl rfl rfl rfl rfl rfl @Try.call11 rfl (likeInts_c) ?_
   refine .qg rfl (.not rfl) (.q rfl (.pickF rfl rfl) (.nil (hK19 _ _ ?_)))
   refine .cond rfl (fun h124 => ?_) (fun h124 => ?_)
   ·
    simp at h124
   try simp only [sps] at h124
   refine .skip ?_
   refine hK18 _ _ (.seq (fun K20 hK20 => .seq (fun K21 hK21 => .region (.mv rfl (.q rfl (.cmp rfl rfl rfl) (.mv rfl ?_))))))
   refine .split (fun h127 => ?_) (fun h127 => ?_)
   ·
    try simp only [sps] at h127
    refine .z rfl (.z rfl (.z rfl (.q rfl (.pickT rfl rfl) (.nil (hK21 _ _ ?_)))))
    refine .condT rfl ?_
    refine .seq (fun K22 hK22 => .region (.mv rfl (.nil (hK22 _ _ ?_))))
    refine .ret ?_
    refine hret _ _ ?_
    refine ⟨_, rfl, ?_⟩
    rfl
   try simp only [sps] at h127
   refine .qg rfl (.move rfl) (.qg rfl (.len sl_24_A rfl) (.qg rfl (.cmp rfl rfl rfl) (.q rfl (.pickF rfl rfl) (.nil (hK21 _ _ ?_)))))
   refine .cond rfl (fun h131 => ?_) (fun h131 => ?_)
   ·
    try simp only [sps] at h131
    refine .seq (fun K23 hK23 => .region (.mv rfl (.nil (hK23 _ _ ?_))))
    refine .ret ?_
    refine hret _ _ ?_
    refine ⟨_, rfl, ?_⟩
    rfl
   try simp only [sps] at h131
   refine .skip ?_
   refine hK20 _ _ (.seq (fun K24 hK24 => .seq (fun K25 hK25 => .region ?_)))
   obtain ⟨hIs, hch, hi, hn⟩ := Cat.ch_of h127
   have hF := hch.face hIs.1 (i := nE.toNat) (by omega)
   have hfl := cE.length_faceL yE nE.toNat
   have hX : codeL (cE.sxC yE nE 2) (cE.faceL yE nE.toNat) = cE.faceL yE nE.toNat := codeL_ok h127
   generalize codeL (cE.sxC yE nE 2) (cE.faceL yE nE.toNat) = L2 at *
   subst hX
   refine .mv rfl (.nil (hK25 _ _ ?_))
   refine .block ?_
   refine .loopR (σ := Int) [(14, some _), (15, some _), (16, some _), (19, some _)] (fun j => [(21, some (.int .i64 j))]) (fun j H' => St [] H113 H' ∧ 0 ≤ j ∧ j ≤ nE) (fun j => (nE - j).toNat) (0) ⟨rfl, rfl, rfl, rfl, trivial⟩ ⟨rfl, trivial⟩ ?_ ?_
   ·
    refine ⟨.refl _ _, ?_⟩
    exact ⟨by omega, by omega⟩
   rintro j HL1 ⟨lst1, hI⟩ KL1 hKL1
   refine .forget (fr' := [(21, some (.int .i64 j)), (14, some _), (15, some _), (16, some _), (19, some _)]) ⟨rfl, rfl, rfl, rfl, rfl, trivial⟩ ?_
   replace atE := lst1.same _ _ trivial atE
   replace at13007 := lst1.same _ _ trivial at13007
   replace lv_vE := Keep.st lv_vE lst1 (fun k hb hk => trivial)
   replace vE := bs_vE.keep lv_vE (Nat.le_refl _)
   replace lv_vF := Keep.st lv_vF lst1 (fun k hb hk => trivial)
   replace vF := bs_vF.keep lv_vF (Nat.le_refl _)
   have iE := vE.inn
   clear i106
   clear iF
   refine .seq (fun K26 hK26 => .seq (fun K27 hK27 => .region (.mv rfl (.mv rfl (.q rfl (.cmp rfl rfl rfl) (.nil (hK27 _ _ ?_)))))))
   refine .cond rfl (fun h134 => ?_) (fun h134 => ?_)
   ·
    simp only [sps] at h134
    refine .skip ?_
    refine hK26 _ _ (.seq (fun K28 hK28 => ?_))
    refine .block ?_
    refine .seq (fun K29 hK29 => .region ?_)
    refine .q rfl (.loadM ag_27_D rfl ⟨rfl, Mem.of_get at13007⟩) ?_
    refine .mv rfl (.mv rfl ?_)
    refine .call rfl rfl rfl rfl @Try.call12 rfl (faceOfChain_r (hv := vF)) ?_
    rintro _ H141 ⟨le141, a141, rfl, v141⟩
    replace lst1 := lst1.le le141
    replace atE := le141.2 _ _ atE
    replace at13007 := le141.2 _ _ at13007
    replace lv_vE := Keep.le lv_vE le141
    replace vE := bs_vE.keep lv_vE (Nat.le_refl _)
    have bs_v141 := v141
    have lv_v141 : Keep HL1.next H141 H141 := fun _ _ _ h => h
    clear iE
    have iE := vE.inn
    refine .mv rfl (.q rfl (.extract rfl rfl) (.q rfl (.extract rfl rfl) (.mv rfl (.mv rfl (.nil (hK29 _ _ (.seq (fun K30 hK30 => .region ?_))))))))
    refine .q rfl (.loadM ag_27_D rfl ⟨rfl, Mem.of_get at13007⟩) ?_
    refine .mv rfl (.mv rfl ?_)
    refine .call rfl rfl rfl rfl @Try.call12 rfl (faceOfChain_c (hg := atE) (hl := by omega)) ?_
    rintro _ H148 ⟨le148, a148, rfl, v148⟩
    replace lst1 := lst1.le le148
    replace atE := le148.2 _ _ atE
    replace at13007 := le148.2 _ _ at13007
    replace lv_vE := Keep.le lv_vE le148
    replace vE := bs_vE.keep lv_vE (Nat.le_refl _)
    replace lv_v141 := Keep.le lv_v141 le148
    have bs_v148 := v148
    have lv_v148 : Keep H141.next H148 H148 := fun _ _ _ h => h
    clear iE
    have iE := vE.inn
    refine .mv rfl (.q rfl (.extract rfl rfl) (.q rfl (.extract rfl rfl) (.mv rfl (.mv rfl (.nil (hK30 _ _ (.seq (fun K31 hK31 => .region ?_))))))))
    refine .q rfl (.loadM ag_27_D rfl ⟨rfl, Mem.of_get at13007⟩) ?_
    refine .mv rfl (.mv rfl ?_)
    refine .call rfl rfl rfl rfl @Try.call14 rfl (faceOfChain_s (hg := atE) (hl := by omega)) ?_
    rintro _ H155 ⟨le155, aD, rfl, vD⟩
    replace lst1 := lst1.le le155
    replace at13007 := le155.2 _ _ at13007
    replace lv_vE := Keep.le lv_vE le155
    replace vE := bs_vE.keep lv_vE (Nat.le_refl _)
    replace lv_v141 := Keep.le lv_v141 le155
    replace lv_v148 := Keep.le lv_v148 le155
    replace v148 := bs_v148.keep lv_v148 (Nat.le_refl _)
    have bs_vD := vD
    have lv_vD : Keep H148.next H155 H155 := fun _ _ _ h => h
    clear iE
    have iE := vE.inn
    have i148 := v148.ints
    have iD := vD.ints
    refine .mv rfl (.q rfl (.extract rfl rfl) (.q rfl (.extract rfl rfl) (.mv rfl (.mv rfl (.nil (hK31 _ _ (.seq (fun K32 hK32 => .region ?_))))))))
    have hG := hch.face hIs.1 (i := j.toNat) (by omega)
    have hgl := cE.length_faceL yE j.toNat
    have w2 := hch.sx (i := j) (n := 2) hIs (by omega) (by omega)
    have hX : codeL (cE.sxC yE j 2) (cE.faceL yE j.toNat) = cE.faceL yE j.toNat := codeL_ok w2
    generalize codeL (cE.sxC yE j 2) (cE.faceL yE j.toNat) = L3 at *
    subst hX
    refine .q rfl (.loadM ag_27_D rfl ⟨rfl, Mem.of_get at13007⟩) ?_
    refine .mv rfl (.mv rfl ?_)
    refine .q rfl (.sub rfl rfl rfl (by omega) (by omega)) ?_
    refine .call rfl rfl rfl rfl @Try.call12 rfl (faceOfChain_r (hv := vD)) ?_
    rintro _ H163 ⟨le163, a163, rfl, v163⟩
    replace lst1 := lst1.le le163
    replace lv_v141 := Keep.le lv_v141 le163
    replace v141 := bs_v141.keep lv_v141 (Nat.le_refl _)
    replace lv_v148 := Keep.le lv_v148 le163
    replace v148 := bs_v148.keep lv_v148 (Nat.le_refl _)
    replace lv_vD := Keep.le lv_vD le163
    replace vD := bs_vD.keep lv_vD (Nat.le_refl _)
    clear iE
    have i141 := v141.ints
    clear i148
    have i148 := v148.ints
    clear iD
    have iD := vD.ints
    have i163 := v163.ints
    refine .mv rfl (.q rfl (.extract rfl rfl) (.q rfl (.extract rfl rfl) (.mv rfl (.mv rfl (.nil (hK32 _ _ (.seq (fun K33 hK33 => .region ?_))))))))
    have w1 := hF.sx (i := j) (n := 2) hIs (by omega) (by omega)
    have w3 := hG.sx (i := nE - 1) (n := 2) hIs (by omega) (by omega)
    have w4 := Cat.face_face hIs hch (j := j.toNat) (k := nE.toNat) (by omega) (by omega)
    have w5 : codeL (cE.sxC (cE.faceL yE nE.toNat) j 2) (cE.faceL (cE.faceL yE nE.toNat) j.toNat) = codeL (cE.sxC (cE.faceL yE j.toNat) (nE - 1) 2) (cE.faceL (cE.faceL yE j.toNat) (nE - 1).toNat) := by
      rw [codeL_ok w1, codeL_ok w3, w4, show (nE - 1).toNat = nE.toNat - 1 by omega]
    have hq5 : (codeL (cE.sxC (cE.faceL yE j.toNat) (nE - 1) 2) (cE.faceL (cE.faceL yE j.toNat) (nE - 1).toNat)).length ≤ 1048576 := codeL_le (by rw [Cat.length_faceL]; omega)
    have hq6 := congrArg List.length w5
    refine .mv rfl (.q rfl (.cmp rfl rfl rfl) (.mv rfl ?_))
    refine .split (fun h168 => ?_) (fun h168 => ?_)
    ·
     simp [w1] at h168
    try simp only [sps] at h168
    refine .qg rfl (.move rfl) (.qg rfl (.cmp rfl rfl rfl) (.q rfl (.pickF rfl rfl) (.mv rfl ?_)))
    refine .split (fun h172 => ?_) (fun h172 => ?_)
    ·
     simp [w2] at h172
    try simp only [sps] at h172
    refine .qg rfl (.move rfl) (.qg rfl (.cmp rfl rfl rfl) (.q rfl (.pickF rfl rfl) (.mv rfl ?_)))
    refine .split (fun h176 => ?_) (fun h176 => ?_)
    ·
     simp [w3] at h176
    try simp only [sps] at h176
    refine .qg rfl (.move rfl) (.qg rfl (.move rfl) ?_)
    refine .callQg rfl rfl rfl rfl rfl rfl @Try.call11 rfl (likeInts_c) ?_
    refine .qg rfl (.not rfl) (.q rfl (.pickF rfl rfl) (.mv rfl ?_))
    refine .split (fun h182 => ?_) (fun h182 => ?_)
    ·
     simp at h182
    try simp only [sps] at h182
    refine .qg rfl (.move rfl) (.qg rfl (.move rfl) ?_)
    refine .callQg rfl rfl rfl rfl rfl rfl @Try.call11 rfl (likeInts_c) ?_
    refine .qg rfl (.not rfl) (.q rfl (.pickF rfl rfl) (.nil (hK33 _ _ ?_)))
    refine .cond rfl (fun h187 => ?_) (fun h187 => ?_)
    ·
     simp [w5] at h187
    try simp only [sps] at h187
    refine .skip ?_
    refine hK28 _ _ (.region (.mv rfl ?_))
    refine .q rfl (.add rfl rfl rfl (by omega) (by omega)) ?_
    refine .mv rfl (.nil ?_)
    refine hKL1 (j + 1) _ _ ?_ ?_ ⟨rfl, rfl, rfl, rfl, rfl, trivial⟩
    ·
     refine ⟨lst1, ?_⟩
     exact ⟨by omega, by omega⟩
    omega
   try simp only [sps] at h134
   refine .exit ?_
   refine hK24 _ _ (.seq (fun K34 hK34 => .region (.mv rfl (.nil (hK34 _ _ ?_)))))
   refine .ret ?_
   refine hret _ _ ?_
   refine ⟨_, rfl, ?_⟩
   rfl
  try simp only [sps] at h62
  refine .skip ?_
  refine hK10 _ _ (.seq (fun K35 hK35 => .region (.mv rfl ?_)))
  refine .call rfl rfl rfl rfl @Try.call13 rfl (drawFaceOfChain_c (hlt := fun b o t e => by have := hlt b o t e; omega)) ?_
  rintro _ H98x2 ⟨le98x2, cE, pE, gE, yE, nE, rfl, smE, vE, ⟨geE, ylE, bnE⟩, atE⟩
  have lt_atE := GHeap.ltg atE
  have bs_vE := vE
  have lv_vE : Keep H49.next H98x2 H98x2 := fun _ _ _ h => h
  refine .mv rfl (.q rfl (.extract rfl rfl) (.q rfl (.extract rfl rfl) (.q rfl (.extract rfl rfl) ?_)))
  refine .R rfl (.allocR rfl ze_27_Hj rfl) ?_
  rintro _ H14x2 ⟨g14x2, rfl, le14x2, ge14x2, at14x2⟩
  replace atE := le14x2.2 _ _ atE
  replace lv_vE := Keep.le lv_vE le14x2
  refine .r0 rfl rfl (.fillA rfl sz_27_D rfl rfl rfl rfl) ?_
  rintro _ H13007x2 ⟨rfl, st13007x2, at13007x2⟩
  replace atE := st13007x2.s atE
  replace lv_vE := Keep.st lv_vE st13007x2 (fun k hb hk => ⟨by omega, trivial⟩)
  replace vE := bs_vE.keep lv_vE (Nat.le_refl _)
  have iE := vE.inn
  refine .mv rfl (.mv rfl (.nil (hK35 _ _ (.seq (fun K36 hK36 => .region ?_)))))
  refine .q rfl (.loadM ag_27_D rfl ⟨rfl, Mem.of_get at13007x2⟩) ?_
  refine .mv rfl (.mv rfl ?_)
  refine .call rfl rfl rfl rfl @Try.call12 rfl (faceOfChain_c (hg := atE) (hl := by omega)) ?_
  rintro _ H106x2 ⟨le106x2, a106x2, rfl, v106x2⟩
  replace atE := le106x2.2 _ _ atE
  replace at13007x2 := le106x2.2 _ _ at13007x2
  replace lv_vE := Keep.le lv_vE le106x2
  replace vE := bs_vE.keep lv_vE (Nat.le_refl _)
  have bs_v106x2 := v106x2
  have lv_v106x2 : Keep H13007x2.next H106x2 H106x2 := fun _ _ _ h => h
  clear iE
  have iE := vE.inn
  refine .mv rfl (.q rfl (.extract rfl rfl) (.q rfl (.extract rfl rfl) (.mv rfl (.mv rfl (.nil (hK36 _ _ (.seq (fun K37 hK37 => .region ?_))))))))
  refine .q rfl (.loadM ag_27_D rfl ⟨rfl, Mem.of_get at13007x2⟩) ?_
  refine .mv rfl (.mv rfl ?_)
  refine .call rfl rfl rfl rfl @Try.call14 rfl (faceOfChain_s (hg := atE) (hl := by omega)) ?_
  rintro _ H113x2 ⟨le113x2, aF, rfl, vF⟩
  replace atE := le113x2.2 _ _ atE
  replace at13007x2 := le113x2.2 _ _ at13007x2
  replace lv_vE := Keep.le lv_vE le113x2
  replace lv_v106x2 := Keep.le lv_v106x2 le113x2
  replace v106x2 := bs_v106x2.keep lv_v106x2 (Nat.le_refl _)
  have bs_vF := vF
  have lv_vF : Keep H106x2.next H113x2 H113x2 := fun _ _ _ h => h
  clear iE
  have i106x2 := v106x2.ints
  have iF := vF.ints
  refine .mv rfl (.q rfl (.extract rfl rfl) (.q rfl (.extract rfl rfl) (.mv rfl (.mv rfl (.nil (hK37 _ _ (.seq (fun K38 hK38 => .seq (fun K39 hK39 => .region ?_)))))))))
  have hq4 : (codeL (cE.sxC yE nE 2) (cE.faceL yE nE.toNat)).length ≤ 1048576 := codeL_le (by rw [Cat.length_faceL]; omega)
  refine .mv rfl (.mv rfl (.q rfl (.cmp rfl rfl rfl) (.mv rfl ?_)))
  refine .split (fun h119 => ?_) (fun h119 => ?_)
  ·
   simp at h119
  try simp only [sps] at h119
  refine .qg rfl (.move rfl) (.qg rfl (.move rfl) ?_)
  refine .callQg rfl rfl rfl rfl rfl rfl @Try.call11 rfl (likeInts_c) ?_
  refine .qg rfl (.not rfl) (.q rfl (.pickF rfl rfl) (.nil (hK39 _ _ ?_)))
  refine .cond rfl (fun h124 => ?_) (fun h124 => ?_)
  ·
   simp at h124
  try simp only [sps] at h124
  refine .skip ?_
  refine hK38 _ _ (.seq (fun K40 hK40 => .seq (fun K41 hK41 => .region (.mv rfl (.q rfl (.cmp rfl rfl rfl) (.mv rfl ?_))))))
  refine .split (fun h127 => ?_) (fun h127 => ?_)
  ·
   try simp only [sps] at h127
   refine .z rfl (.z rfl (.z rfl (.q rfl (.pickT rfl rfl) (.nil (hK41 _ _ ?_)))))
   refine .condT rfl ?_
   refine .seq (fun K42 hK42 => .region (.mv rfl (.nil (hK42 _ _ ?_))))
   refine .ret ?_
   refine hret _ _ ?_
   refine ⟨_, rfl, ?_⟩
   rfl
  try simp only [sps] at h127
  refine .qg rfl (.move rfl) (.qg rfl (.len sl_24_A rfl) (.qg rfl (.cmp rfl rfl rfl) (.q rfl (.pickF rfl rfl) (.nil (hK41 _ _ ?_)))))
  refine .cond rfl (fun h131 => ?_) (fun h131 => ?_)
  ·
   try simp only [sps] at h131
   refine .seq (fun K43 hK43 => .region (.mv rfl (.nil (hK43 _ _ ?_))))
   refine .ret ?_
   refine hret _ _ ?_
   refine ⟨_, rfl, ?_⟩
   rfl
  try simp only [sps] at h131
  refine .skip ?_
  refine hK40 _ _ (.seq (fun K44 hK44 => .seq (fun K45 hK45 => .region ?_)))
  obtain ⟨hIs, hch, hi, hn⟩ := Cat.ch_of h127
  have hF := hch.face hIs.1 (i := nE.toNat) (by omega)
  have hfl := cE.length_faceL yE nE.toNat
  have hX : codeL (cE.sxC yE nE 2) (cE.faceL yE nE.toNat) = cE.faceL yE nE.toNat := codeL_ok h127
  generalize codeL (cE.sxC yE nE 2) (cE.faceL yE nE.toNat) = L2 at *
  subst hX
  refine .mv rfl (.nil (hK45 _ _ ?_))
  refine .block ?_
  refine .loopR (σ := Int) [(14, some _), (15, some _), (16, some _), (19, some _)] (fun j => [(21, some (.int .i64 j))]) (fun j H' => St [] H113x2 H' ∧ 0 ≤ j ∧ j ≤ nE) (fun j => (nE - j).toNat) (0) ⟨rfl, rfl, rfl, rfl, trivial⟩ ⟨rfl, trivial⟩ ?_ ?_
  ·
   refine ⟨.refl _ _, ?_⟩
   exact ⟨by omega, by omega⟩
  rintro j HL1 ⟨lst1, hI⟩ KL1 hKL1
  refine .forget (fr' := [(21, some (.int .i64 j)), (14, some _), (15, some _), (16, some _), (19, some _)]) ⟨rfl, rfl, rfl, rfl, rfl, trivial⟩ ?_
  replace atE := lst1.same _ _ trivial atE
  replace at13007x2 := lst1.same _ _ trivial at13007x2
  replace lv_vE := Keep.st lv_vE lst1 (fun k hb hk => trivial)
  replace vE := bs_vE.keep lv_vE (Nat.le_refl _)
  replace lv_vF := Keep.st lv_vF lst1 (fun k hb hk => trivial)
  replace vF := bs_vF.keep lv_vF (Nat.le_refl _)
  have iE := vE.inn
  clear i106x2
  clear iF
  refine .seq (fun K46 hK46 => .seq (fun K47 hK47 => .region (.mv rfl (.mv rfl (.q rfl (.cmp rfl rfl rfl) (.nil (hK47 _ _ ?_)))))))
  refine .cond rfl (fun h134 => ?_) (fun h134 => ?_)
  ·
   simp only [sps] at h134
   refine .skip ?_
   refine hK46 _ _ (.seq (fun K48 hK48 => ?_))
   refine .block ?_
   refine .seq (fun K49 hK49 => .region ?_)
   refine .q rfl (.loadM ag_27_D rfl ⟨rfl, Mem.of_get at13007x2⟩) ?_
   refine .mv rfl (.mv rfl ?_)
   refine .call rfl rfl rfl rfl @Try.call12 rfl (faceOfChain_r (hv := vF)) ?_
   rintro _ H141x2 ⟨le141x2, a141x2, rfl, v141x2⟩
   replace lst1 := lst1.le le141x2
   replace atE := le141x2.2 _ _ atE
   replace at13007x2 := le141x2.2 _ _ at13007x2
   replace lv_vE := Keep.le lv_vE le141x2
   replace vE := bs_vE.keep lv_vE (Nat.le_refl _)
   have bs_v141x2 := v141x2
   have lv_v141x2 : Keep HL1.next H141x2 H141x2 := fun _ _ _ h => h
   clear iE
   have iE := vE.inn
   refine .mv rfl (.q rfl (.extract rfl rfl) (.q rfl (.extract rfl rfl) (.mv rfl (.mv rfl (.nil (hK49 _ _ (.seq (fun K50 hK50 => .region ?_))))))))
   refine .q rfl (.loadM ag_27_D rfl ⟨rfl, Mem.of_get at13007x2⟩) ?_
   refine .mv rfl (.mv rfl ?_)
   refine .call rfl rfl rfl rfl @Try.call12 rfl (faceOfChain_c (hg := atE) (hl := by omega)) ?_
   rintro _ H148x2 ⟨le148x2, a148x2, rfl, v148x2⟩
   replace lst1 := lst1.le le148x2
   replace atE := le148x2.2 _ _ atE
   replace at13007x2 := le148x2.2 _ _ at13007x2
   replace lv_vE := Keep.le lv_vE le148x2
   replace vE := bs_vE.keep lv_vE (Nat.le_refl _)
   replace lv_v141x2 := Keep.le lv_v141x2 le148x2
   have bs_v148x2 := v148x2
   have lv_v148x2 : Keep H141x2.next H148x2 H148x2 := fun _ _ _ h => h
   clear iE
   have iE := vE.inn
   refine .mv rfl (.q rfl (.extract rfl rfl) (.q rfl (.extract rfl rfl) (.mv rfl (.mv rfl (.nil (hK50 _ _ (.seq (fun K51 hK51 => .region ?_))))))))
   refine .q rfl (.loadM ag_27_D rfl ⟨rfl, Mem.of_get at13007x2⟩) ?_
   refine .mv rfl (.mv rfl ?_)
   refine .call rfl rfl rfl rfl @Try.call14 rfl (faceOfChain_s (hg := atE) (hl := by omega)) ?_
   rintro _ H155x2 ⟨le155x2, aD, rfl, vD⟩
   replace lst1 := lst1.le le155x2
   replace at13007x2 := le155x2.2 _ _ at13007x2
   replace lv_vE := Keep.le lv_vE le155x2
   replace vE := bs_vE.keep lv_vE (Nat.le_refl _)
   replace lv_v141x2 := Keep.le lv_v141x2 le155x2
   replace lv_v148x2 := Keep.le lv_v148x2 le155x2
   replace v148x2 := bs_v148x2.keep lv_v148x2 (Nat.le_refl _)
   have bs_vD := vD
   have lv_vD : Keep H148x2.next H155x2 H155x2 := fun _ _ _ h => h
   clear iE
   have iE := vE.inn
   have i148x2 := v148x2.ints
   have iD := vD.ints
   refine .mv rfl (.q rfl (.extract rfl rfl) (.q rfl (.extract rfl rfl) (.mv rfl (.mv rfl (.nil (hK51 _ _ (.seq (fun K52 hK52 => .region ?_))))))))
   have hG := hch.face hIs.1 (i := j.toNat) (by omega)
   have hgl := cE.length_faceL yE j.toNat
   have w2 := hch.sx (i := j) (n := 2) hIs (by omega) (by omega)
   have hX : codeL (cE.sxC yE j 2) (cE.faceL yE j.toNat) = cE.faceL yE j.toNat := codeL_ok w2
   generalize codeL (cE.sxC yE j 2) (cE.faceL yE j.toNat) = L3 at *
   subst hX
   refine .q rfl (.loadM ag_27_D rfl ⟨rfl, Mem.of_get at13007x2⟩) ?_
   refine .mv rfl (.mv rfl ?_)
   refine .q rfl (.sub rfl rfl rfl (by omega) (by omega)) ?_
   refine .call rfl rfl rfl rfl @Try.call12 rfl (faceOfChain_r (hv := vD)) ?_
   rintro _ H163x2 ⟨le163x2, a163x2, rfl, v163x2⟩
   replace lst1 := lst1.le le163x2
   replace lv_v141x2 := Keep.le lv_v141x2 le163x2
   replace v141x2 := bs_v141x2.keep lv_v141x2 (Nat.le_refl _)
   replace lv_v148x2 := Keep.le lv_v148x2 le163x2
   replace v148x2 := bs_v148x2.keep lv_v148x2 (Nat.le_refl _)
   replace lv_vD := Keep.le lv_vD le163x2
   replace vD := bs_vD.keep lv_vD (Nat.le_refl _)
   clear iE
   have i141x2 := v141x2.ints
   clear i148x2
   have i148x2 := v148x2.ints
   clear iD
   have iD := vD.ints
   have i163x2 := v163x2.ints
   refine .mv rfl (.q rfl (.extract rfl rfl) (.q rfl (.extract rfl rfl) (.mv rfl (.mv rfl (.nil (hK52 _ _ (.seq (fun K53 hK53 => .region ?_))))))))
   have w1 := hF.sx (i := j) (n := 2) hIs (by omega) (by omega)
   have w3 := hG.sx (i := nE - 1) (n := 2) hIs (by omega) (by omega)
   have w4 := Cat.face_face hIs hch (j := j.toNat) (k := nE.toNat) (by omega) (by omega)
   have w5 : codeL (cE.sxC (cE.faceL yE nE.toNat) j 2) (cE.faceL (cE.faceL yE nE.toNat) j.toNat) = codeL (cE.sxC (cE.faceL yE j.toNat) (nE - 1) 2) (cE.faceL (cE.faceL yE j.toNat) (nE - 1).toNat) := by
     rw [codeL_ok w1, codeL_ok w3, w4, show (nE - 1).toNat = nE.toNat - 1 by omega]
   have hq5 : (codeL (cE.sxC (cE.faceL yE j.toNat) (nE - 1) 2) (cE.faceL (cE.faceL yE j.toNat) (nE - 1).toNat)).length ≤ 1048576 := codeL_le (by rw [Cat.length_faceL]; omega)
   have hq6 := congrArg List.length w5
   refine .mv rfl (.q rfl (.cmp rfl rfl rfl) (.mv rfl ?_))
   refine .split (fun h168 => ?_) (fun h168 => ?_)
   ·
    simp [w1] at h168
   try simp only [sps] at h168
   refine .qg rfl (.move rfl) (.qg rfl (.cmp rfl rfl rfl) (.q rfl (.pickF rfl rfl) (.mv rfl ?_)))
   refine .split (fun h172 => ?_) (fun h172 => ?_)
   ·
    simp [w2] at h172
   try simp only [sps] at h172
   refine .qg rfl (.move rfl) (.qg rfl (.cmp rfl rfl rfl) (.q rfl (.pickF rfl rfl) (.mv rfl ?_)))
   refine .split (fun h176 => ?_) (fun h176 => ?_)
   ·
    simp [w3] at h176
   try simp only [sps] at h176
   refine .qg rfl (.move rfl) (.qg rfl (.move rfl) ?_)
   refine .callQg rfl rfl rfl rfl rfl rfl @Try.call11 rfl (likeInts_c) ?_
   refine .qg rfl (.not rfl) (.q rfl (.pickF rfl rfl) (.mv rfl ?_))
   refine .split (fun h182 => ?_) (fun h182 => ?_)
   ·
    simp at h182
   try simp only [sps] at h182
   refine .qg rfl (.move rfl) (.qg rfl (.move rfl) ?_)
   refine .callQg rfl rfl rfl rfl rfl rfl @Try.call11 rfl (likeInts_c) ?_
   refine .qg rfl (.not rfl) (.q rfl (.pickF rfl rfl) (.nil (hK53 _ _ ?_)))
   refine .cond rfl (fun h187 => ?_) (fun h187 => ?_)
   ·
    simp [w5] at h187
   try simp only [sps] at h187
   refine .skip ?_
   refine hK48 _ _ (.region (.mv rfl ?_))
   refine .q rfl (.add rfl rfl rfl (by omega) (by omega)) ?_
   refine .mv rfl (.nil ?_)
   refine hKL1 (j + 1) _ _ ?_ ?_ ⟨rfl, rfl, rfl, rfl, rfl, trivial⟩
   ·
    refine ⟨lst1, ?_⟩
    exact ⟨by omega, by omega⟩
   omega
  try simp only [sps] at h134
  refine .exit ?_
  refine hK44 _ _ (.seq (fun K54 hK54 => .region (.mv rfl (.nil (hK54 _ _ ?_)))))
  refine .ret ?_
  refine hret _ _ ?_
  refine ⟨_, rfl, ?_⟩
  rfl
end Go.Proofs.Ytkfbalfcbaphcaa
