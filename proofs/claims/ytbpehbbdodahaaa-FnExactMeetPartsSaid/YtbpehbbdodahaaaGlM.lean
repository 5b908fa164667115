/- Views of structs and of new lists in a ghost heap; small facts on lists. No condition. -/
import Derived.Test.YtbpehbbdodahaaaGlL
namespace Go.GL
open Go.RowKit

theorem GHeap.Le.set_new {H H' : GHeap} {g : Nat} {o : Option GObj} (h : H.Le H') (hg : H.next ≤ g) : H.Le (H'.set g o) := by
  refine ⟨by simpa using h.1, fun k x hk => ?_⟩
  have hl := GHeap.lt_of_get hk
  rw [GHeap.get_set_ne (by omega)]
  exact h.2 k x hk
theorem GHeap.Le.push {H H' : GHeap} {o : GObj} (h : H.Le H') : H.Le (H'.push o) := h.trans (GHeap.le_push _ _)

theorem MStep.idxN {P : Program} {fr : Slots} {H : GHeap} {a : Option Addr} {n : Nat} {f : Nat → Value} {t e : TypeId} {x i : Operand} {k : IntKind} {j : Nat} (ht : sliceT P t = some (e, 1)) (h : SlA H a n f) (hx : ev fr x = some (.slice a n n)) (hi : ev fr i = some (.int k (j : Int))) (h1 : j < n) :
    MStep P fr H (.indexAddr t x i) (elemPtr a j) := by
  have := MStep.idx1 (P := P) (fr := fr) (H := H) ht h hx hi (by omega) (by omega)
  simpa using this

/-- Cells that lie one behind the other. -/
def Mem (H : GHeap) (g o : Nat) (cs : List Value) : Prop := ∀ (i : Nat) (v : Value), cs[i]? = some v → H.cell g (o + i) = some v
theorem Mem.mono {H H' : GHeap} {g o : Nat} {cs : List Value} (h : Mem H g o cs) (hle : H.Le H') : Mem H' g o cs := fun i v hv => hle.cell (h i v hv)
theorem Mem.of_get {H : GHeap} {g : Nat} {cs : List Value} {e : TypeId} {own : Bool} (h : H.get g = some (.row cs e own)) : Mem H g 0 cs := fun i v hv => by
  rw [GHeap.cell_of h, Nat.zero_add]; exact hv
theorem Mem.new (H : GHeap) (cs : List Value) (e : TypeId) (own : Bool) : Mem (H.push (.row cs e own)) H.next 0 cs := .of_get (GHeap.get_push_new _ _)
theorem Mem.left {H : GHeap} {g o : Nat} {as bs : List Value} (h : Mem H g o (as ++ bs)) : Mem H g o as := fun i v hv => h i v (by
  rw [List.getElem?_append_left (List.getElem?_eq_some_iff.1 hv).1]; exact hv)
theorem Mem.right {H : GHeap} {g o : Nat} {as bs : List Value} (h : Mem H g o (as ++ bs)) {n : Nat} (hn : as.length = n) : Mem H g (o + n) bs := fun i v hv => by
  rw [Nat.add_assoc]
  refine h (n + i) v ?_
  rw [List.getElem?_append_right (by omega), hn, Nat.add_sub_cancel_left]
  exact hv

def ints (xs : List Int) : List Value := xs.map (Value.int .i64)
def bools (xs : List Bool) : List Value := xs.map Value.bool
theorem ints_get {xs : List Int} {i : Nat} (hi : i < xs.length) : (ints xs)[i]? = some (.int .i64 (xs.getD i 0)) := by
  simp [ints, List.getD_eq_getElem?_getD, hi]
theorem bools_get {xs : List Bool} {i : Nat} (hi : i < xs.length) : (bools xs)[i]? = some (.bool (xs.getD i false)) := by
  simp [bools, List.getD_eq_getElem?_getD, hi]
@[simp] theorem length_ints (xs : List Int) : (ints xs).length = xs.length := by simp [ints]
@[simp] theorem length_bools (xs : List Bool) : (bools xs).length = xs.length := by simp [bools]

theorem Ints.of_get {H : GHeap} {g : Nat} {xs : List Int} {e : TypeId} {own : Bool} (h : H.get g = some (.row (ints xs) e own)) : Ints H (some ⟨g, 0, none⟩) xs :=
  .inr ⟨g, 0, rfl, fun i hi => by rw [GHeap.cell_of h, Nat.zero_add]; exact ints_get hi⟩
theorem Bools.of_get {H : GHeap} {g : Nat} {xs : List Bool} {e : TypeId} {own : Bool} (h : H.get g = some (.row (bools xs) e own)) : Bools H (some ⟨g, 0, none⟩) xs :=
  .inr ⟨g, 0, rfl, fun i hi => by rw [GHeap.cell_of h, Nat.zero_add]; exact bools_get hi⟩
theorem Ints.of_mem {H : GHeap} {g o : Nat} {xs : List Int} (h : Mem H g o (ints xs)) : Ints H (some ⟨g, o, none⟩) xs := .inr ⟨g, o, rfl, fun i hi => h i _ (ints_get hi)⟩

/-- A new list of numbers, the call's own. -/
def NewInts (e : TypeId) (H : GHeap) (xs : List Int) (v : Value) (H' : GHeap) : Prop :=
  H.Le H' ∧ ∃ g, v = .slice (some ⟨g, 0, none⟩) xs.length xs.length ∧ H'.get g = some (.row (ints xs) e true) ∧ H.next ≤ g

/-- Of all numbers below n. -/
def allN (n : Nat) (p : Nat → Bool) : Bool := (List.range n).all p
theorem allN_of {n : Nat} {p : Nat → Bool} (h : ∀ i, i < n → p i = true) : allN n p = true := by
  unfold allN; rw [List.all_eq_true]; intro i hi; exact h i (List.mem_range.1 hi)
theorem allN_not {n i : Nat} {p : Nat → Bool} (hi : i < n) (h : p i = false) : allN n p = false := by
  unfold allN; rw [List.all_eq_false]; exact ⟨i, List.mem_range.2 hi, by simp [h]⟩
theorem allN_iff {n : Nat} {p : Nat → Bool} : allN n p = true ↔ ∀ i, i < n → p i = true := by
  unfold allN; rw [List.all_eq_true]; simp
theorem allN_congr {n : Nat} {p q : Nat → Bool} (h : ∀ i, i < n → p i = q i) : allN n p = allN n q := by
  rw [Bool.eq_iff_iff, allN_iff, allN_iff]
  exact ⟨fun hp i hi => by rw [← h i hi]; exact hp i hi, fun hq i hi => by rw [h i hi]; exact hq i hi⟩
/-- The first number below n with a property. -/
def firstN (n : Nat) (p : Nat → Bool) : Option Nat := (List.range n).find? p
theorem firstN_some {n i : Nat} {p : Nat → Bool} (hi : i < n) (h : p i = true) (hb : ∀ j, j < i → p j = false) : firstN n p = some i := by
  unfold firstN
  rw [List.find?_range_eq_some]
  exact ⟨h, List.mem_range.2 hi, fun j hj => by simp [hb j hj]⟩
theorem firstN_none {n : Nat} {p : Nat → Bool} (h : ∀ j, j < n → p j = false) : firstN n p = none := by
  unfold firstN
  rw [List.find?_range_eq_none]
  intro i hi; simp [h i hi]
theorem firstN_congr {n : Nat} {p q : Nat → Bool} (h : ∀ i, i < n → p i = q i) : firstN n p = firstN n q := by
  unfold firstN
  have : ∀ l : List Nat, (∀ i ∈ l, i < n) → l.find? p = l.find? q := by
    intro l
    induction l with
    | nil => intro _; rfl
    | cons a l ih =>
      intro hl
      simp only [List.find?_cons]
      rw [h a (hl a (by simp)), ih (fun i hi => hl i (by simp [hi]))]
  exact this _ fun i hi => List.mem_range.1 hi

theorem Intss.sl {H : GHeap} {a : Option Addr} {xss : List (List Int)} {r : Nat → Option Addr} (h : Intss H a xss r) : SlA H a xss.length (fun i => .slice (r i) (xss.getD i []).length (xss.getD i []).length) := h.1

/-- A sentence as a truth value. -/
noncomputable def B (p : Prop) : Bool := @decide p (Classical.propDecidable p)
theorem B_true {p : Prop} (h : p) : B p = true := by unfold B; exact @decide_eq_true p (Classical.propDecidable p) h
theorem B_false {p : Prop} (h : ¬ p) : B p = false := by unfold B; exact @decide_eq_false p (Classical.propDecidable p) h
theorem B_iff {p : Prop} : B p = true ↔ p := ⟨fun h => by unfold B at h; exact @of_decide_eq_true p (Classical.propDecidable p) h, B_true⟩
theorem B_not {p : Prop} : B p = false ↔ ¬ p := ⟨fun h => by unfold B at h; exact @of_decide_eq_false p (Classical.propDecidable p) h, B_false⟩
theorem B_congr {p q : Prop} (h : p ↔ q) : B p = B q := by rw [Bool.eq_iff_iff, B_iff, B_iff]; exact h
def inR (n lo hi : Int) : Bool := decide (lo ≤ n) && decide (n ≤ hi)
theorem inR_iff {n lo hi : Int} : inR n lo hi = true ↔ lo ≤ n ∧ n ≤ hi := by simp [inR]
theorem inR_not {n lo hi : Int} : inR n lo hi = false ↔ n < lo ∨ hi < n := by simp [inR]; omega
/-- All numbers of a list are in 0 .. n - 1. -/
def allIn (xs : List Int) (n : Int) : Bool := allN xs.length fun i => inR (xs.getD i 0) 0 (n - 1)
theorem allIn_iff {xs : List Int} {n : Int} : allIn xs n = true ↔ ∀ i, i < xs.length → 0 ≤ xs.getD i 0 ∧ xs.getD i 0 < n := by
  unfold allIn
  rw [allN_iff]
  exact ⟨fun h i hi => by have := inR_iff.1 (h i hi); omega, fun h i hi => inR_iff.2 (by have := h i hi; omega)⟩

/-- What a test of the program says, as a sentence. -/
theorem sps :
    (∀ n lo hi : Int, inR n lo hi = true ↔ lo ≤ n ∧ n ≤ hi) ∧ (∀ n lo hi : Int, inR n lo hi = false ↔ n < lo ∨ hi < n) ∧
    (∀ (xs : List Int) (n : Int), allIn xs n = true ↔ ∀ i, i < xs.length → 0 ≤ xs.getD i 0 ∧ xs.getD i 0 < n) ∧
    (∀ p : Prop, B p = true ↔ p) ∧ (∀ p : Prop, B p = false ↔ ¬ p) ∧
    (∀ a b : Bool, ((a && b) = false) ↔ (a = false ∨ b = false)) ∧ (∀ a b : Bool, ((a && b) = true) ↔ (a = true ∧ b = true)) ∧
    (∀ a b : Bool, ((a || b) = false) ↔ (a = false ∧ b = false)) ∧ (∀ a b : Bool, ((a || b) = true) ↔ (a = true ∨ b = true)) ∧
    (∀ p : Prop, ¬ ¬ p ↔ p) ∧ (∀ (p : Prop) [Decidable p], (decide p = true) = p) ∧ (∀ (p : Prop) [Decidable p], (decide p = false) ↔ ¬ p) ∧
    (∀ (α : Type) [BEq α] [LawfulBEq α] (a b : α), (a == b) = true ↔ a = b) ∧ (∀ (α : Type) [BEq α] [LawfulBEq α] (a b : α), (a == b) = false ↔ ¬ a = b) ∧
    (∀ (α : Type) [BEq α] [LawfulBEq α] (a b : α), (a != b) = true ↔ ¬ a = b) ∧ (∀ (α : Type) [BEq α] [LawfulBEq α] (a b : α), (a != b) = false ↔ a = b) ∧
    (∀ b : Bool, ((!b) = true) = (b = false)) ∧ (∀ b : Bool, ((!b) = false) = (b = true)) ∧ (∀ (α : Type) (a b : α), (a ≠ b) = ¬ a = b) ∧
    (∀ a b : Int, a > b ↔ b < a) ∧ (∀ a b : Int, a ≥ b ↔ b ≤ a) ∧ (∀ a b : Int, ¬ a < b ↔ b ≤ a) ∧ (∀ a b : Int, ¬ a ≤ b ↔ b < a) ∧ (∀ a b : Nat, a > b ↔ b < a) ∧ (∀ a b : Nat, a ≥ b ↔ b ≤ a) :=
  ⟨fun _ _ _ => inR_iff, fun _ _ _ => inR_not, fun _ _ => allIn_iff, fun _ => B_iff, fun _ => B_not, fun a b => by cases a <;> cases b <;> simp, fun a b => by cases a <;> cases b <;> simp,
    fun a b => by cases a <;> cases b <;> simp, fun a b => by cases a <;> cases b <;> simp, fun _ => Classical.not_not, fun _ _ => decide_eq_true_eq, fun _ _ => decide_eq_false_iff_not, fun _ _ _ _ _ => beq_iff_eq, fun _ _ _ _ _ => beq_eq_false_iff_ne,
    fun _ _ _ _ _ => bne_iff_ne, fun _ _ _ _ _ => bne_eq_false_iff_eq, fun b => by cases b <;> simp, fun b => by cases b <;> simp, fun _ _ _ => rfl,
    fun _ _ => Iff.rfl, fun _ _ => Iff.rfl, fun _ _ => Int.not_lt, fun _ _ => Int.not_le, fun _ _ => Iff.rfl, fun _ _ => Iff.rfl⟩

end Go.GL
