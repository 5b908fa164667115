/- Profunctors: what their laws are. No condition. -/
import Derived.Test.YtihkbggaaopebaaGlX
namespace Go.GL

/-- The numbers below n. -/
def numsL (n : Nat) : List Int := (List.range n).map fun (i : Nat) => (i : Int)
@[simp] theorem length_numsL (n : Nat) : (numsL n).length = n := by simp [numsL]
theorem numsL_get {n i : Nat} (h : i < n) : (numsL n).getD i 0 = i := by simp [numsL, List.getD_eq_getElem?_getD, h]
theorem numsL_eq {n : Nat} {ys : List Int} (hl : ys.length = n) (h : ∀ i, i < n → ys.getD i 0 = (i : Int)) : ys = numsL n := by
  refine eq_of_getD (by rw [hl, length_numsL]) fun i hi => ?_
  rw [length_numsL] at hi
  rw [h i hi, numsL_get hi]
/-- A map that moves nothing. -/
def NoMove (xs : List Int) : Prop := ∀ i : Nat, i < xs.length → xs.getD i 0 = i
theorem calm_iff {xs : List Int} {n : Nat} (h : xs.length = n) : xs = numsL n ↔ NoMove xs := by
  subst h
  exact ⟨fun e i hi => by rw [e]; exact numsL_get hi, fun hc => numsL_eq rfl hc⟩
theorem calm_iff' {xs : List Int} {n : Int} (h : (xs.length : Int) = n) : xs = numsL n.toNat ↔ NoMove xs := calm_iff (by omega)

structure Prof.Sized (m : Prof) : Prop where
  sl : (m.sz.length : Int) = m.s.obj
  bl : m.be.length = m.s.src.length
  hl : m.bh.length = m.t.src.length
  row : ∀ x, x < m.sz.length → ((m.sz.getD x []).length : Int) = m.t.obj
  rng : ∀ x, x < m.sz.length → ∀ y, y < (m.sz.getD x []).length → 0 ≤ (m.sz.getD x []).getD y 0 ∧ (m.sz.getD x []).getD y 0 ≤ 64
def Prof.BeOk (m : Prof) (a y : Nat) : Prop :=
  (((m.be.getD a []).getD y []).length : Int) = (m.sz.getD (m.s.tgt.getD a 0).toNat []).getD y 0 ∧ allIn ((m.be.getD a []).getD y []) ((m.sz.getD (m.s.src.getD a 0).toNat []).getD y 0) = true
def Prof.BhOk (m : Prof) (b x : Nat) : Prop :=
  (((m.bh.getD b []).getD x []).length : Int) = (m.sz.getD x []).getD (m.t.src.getD b 0).toNat 0 ∧ allIn ((m.bh.getD b []).getD x []) ((m.sz.getD x []).getD (m.t.tgt.getD b 0).toNat 0) = true
structure Prof.Maps (m : Prof) : Prop where
  be : ∀ a, a < m.be.length → ((m.be.getD a []).length : Int) = m.t.obj ∧ ∀ y, y < (m.be.getD a []).length → m.BeOk a y
  bh : ∀ b, b < m.bh.length → ((m.bh.getD b []).length : Int) = m.s.obj ∧ ∀ x, x < (m.bh.getD b []).length → m.BhOk b x
structure Prof.Shape (m : Prof) : Prop where
  s : m.s.Is
  t : m.t.Is
  z : m.Sized
  ok : m.Maps
/-- Arrow a of the first category: its ends, and how many maps it has. -/
theorem Prof.Sized.b {m : Prof} (z : m.Sized) (s : m.s.Is) {a : Nat} (ha : a < m.be.length) : a < m.s.src.length ∧ a < m.s.tgt.length ∧ 0 ≤ m.s.src.getD a 0 ∧ m.s.src.getD a 0 < m.sz.length ∧ 0 ≤ m.s.tgt.getD a 0 ∧ m.s.tgt.getD a 0 < m.sz.length ∧
    ((m.sz.getD (m.s.src.getD a 0).toNat []).length : Int) = m.t.obj ∧ ((m.sz.getD (m.s.tgt.getD a 0).toNat []).length : Int) = m.t.obj := by
  have h0 := z.bl
  have h1 := s.1.tl
  have h2 := s.1.src a (by omega)
  have h3 := s.1.tgt a (by omega)
  have h4 := z.sl
  exact ⟨by omega, by omega, by omega, by omega, by omega, by omega, z.row _ (by omega), z.row _ (by omega)⟩
theorem Prof.Sized.h {m : Prof} (z : m.Sized) (t : m.t.Is) {b : Nat} (hb : b < m.bh.length) : b < m.t.src.length ∧ b < m.t.tgt.length ∧ 0 ≤ m.t.src.getD b 0 ∧ m.t.src.getD b 0 < m.t.obj ∧ 0 ≤ m.t.tgt.getD b 0 ∧ m.t.tgt.getD b 0 < m.t.obj := by
  have h0 := z.hl
  have h1 := t.1.tl
  have h2 := t.1.src b (by omega)
  have h3 := t.1.tgt b (by omega)
  exact ⟨by omega, by omega, by omega, by omega, by omega, by omega⟩
/-- The map of arrow a at object y. -/
theorem Prof.Shape.by {m : Prof} (h : m.Shape) {a y : Nat} (ha : a < m.be.length) (hy : (y : Int) < m.t.obj) : y < (m.be.getD a []).length ∧ y < (m.sz.getD (m.s.src.getD a 0).toNat []).length ∧ y < (m.sz.getD (m.s.tgt.getD a 0).toNat []).length ∧
    (((m.be.getD a []).getD y []).length : Int) = (m.sz.getD (m.s.tgt.getD a 0).toNat []).getD y 0 ∧ (∀ i, i < ((m.be.getD a []).getD y []).length → 0 ≤ ((m.be.getD a []).getD y []).getD i 0 ∧ ((m.be.getD a []).getD y []).getD i 0 < (m.sz.getD (m.s.src.getD a 0).toNat []).getD y 0) ∧
    (0 ≤ (m.sz.getD (m.s.src.getD a 0).toNat []).getD y 0 ∧ (m.sz.getD (m.s.src.getD a 0).toNat []).getD y 0 ≤ 64) ∧ 0 ≤ (m.sz.getD (m.s.tgt.getD a 0).toNat []).getD y 0 ∧ (m.sz.getD (m.s.tgt.getD a 0).toNat []).getD y 0 ≤ 64 := by
  have q := h.z.b h.s ha
  have r := h.ok.be a ha
  have r2 := r.2 y (by omega)
  exact ⟨by omega, by omega, by omega, r2.1, allIn_iff.1 r2.2, h.z.rng _ (by omega) _ (by omega), h.z.rng _ (by omega) _ (by omega)⟩
theorem Prof.Shape.hx {m : Prof} (h : m.Shape) {b x : Nat} (hb : b < m.bh.length) (hx : (x : Int) < m.s.obj) : x < (m.bh.getD b []).length ∧ x < m.sz.length ∧ (m.t.src.getD b 0).toNat < (m.sz.getD x []).length ∧ (m.t.tgt.getD b 0).toNat < (m.sz.getD x []).length ∧
    (((m.bh.getD b []).getD x []).length : Int) = (m.sz.getD x []).getD (m.t.src.getD b 0).toNat 0 ∧ (∀ i, i < ((m.bh.getD b []).getD x []).length → 0 ≤ ((m.bh.getD b []).getD x []).getD i 0 ∧ ((m.bh.getD b []).getD x []).getD i 0 < (m.sz.getD x []).getD (m.t.tgt.getD b 0).toNat 0) ∧
    (0 ≤ (m.sz.getD x []).getD (m.t.src.getD b 0).toNat 0 ∧ (m.sz.getD x []).getD (m.t.src.getD b 0).toNat 0 ≤ 64) ∧ 0 ≤ (m.sz.getD x []).getD (m.t.tgt.getD b 0).toNat 0 ∧ (m.sz.getD x []).getD (m.t.tgt.getD b 0).toNat 0 ≤ 64 := by
  have q := h.z.h h.t hb
  have z := h.z.sl
  have w := h.z.row x (by omega)
  have r := h.ok.bh b hb
  have r2 := r.2 x (by omega)
  exact ⟨by omega, by omega, by omega, by omega, r2.1, allIn_iff.1 r2.2, h.z.rng _ (by omega) _ (by omega), h.z.rng _ (by omega) _ (by omega)⟩
/-- Arrow a's composite with b. -/
theorem Cat.Shape.comp {c : Cat} (h : c.Shape) {a b : Nat} (ha : a < c.src.length) (hb : b < c.src.length) (hp : 0 ≤ (c.comp.getD a []).getD b 0) :
    c.tgt.getD a 0 = c.src.getD b 0 ∧ (c.comp.getD a []).getD b 0 < c.src.length ∧ c.src.getD ((c.comp.getD a []).getD b 0).toNat 0 = c.src.getD a 0 ∧ c.tgt.getD ((c.comp.getD a []).getD b 0).toNat 0 = c.tgt.getD b 0 := by
  have u := (h.th_ge (f := a) (g := b) ha hb).1 hp
  exact ⟨u, ((Cat.Cell.pos u).1 (h.cell a (by have := h.cl; omega) b hb)).2⟩

structure Prof.Acts (m : Prof) : Prop where
  idb : ∀ y : Nat, (y : Int) < m.t.obj → ∀ x : Nat, (x : Int) < m.s.obj → NoMove ((m.be.getD (m.s.idn.getD x 0).toNat []).getD y []) ∧ NoMove ((m.bh.getD (m.t.idn.getD y 0).toNat []).getD x [])
  thb : ∀ y : Nat, (y : Int) < m.t.obj → ∀ a : Nat, a < m.s.src.length → ∀ b : Nat, b < m.s.src.length → 0 ≤ (m.s.comp.getD a []).getD b 0 →
    (m.be.getD ((m.s.comp.getD a []).getD b 0).toNat []).getD y [] = thenL ((m.be.getD b []).getD y []) ((m.be.getD a []).getD y [])
  thh : ∀ x : Nat, (x : Int) < m.s.obj → ∀ a : Nat, a < m.t.src.length → ∀ b : Nat, b < m.t.src.length → 0 ≤ (m.t.comp.getD a []).getD b 0 →
    (m.bh.getD ((m.t.comp.getD a []).getD b 0).toNat []).getD x [] = thenL ((m.bh.getD a []).getD x []) ((m.bh.getD b []).getD x [])
/-- Both sides act past each other. -/
def Prof.MixAt (m : Prof) (a b : Nat) : Prop :=
  thenL ((m.be.getD a []).getD (m.t.src.getD b 0).toNat []) ((m.bh.getD b []).getD (m.s.src.getD a 0).toNat []) = thenL ((m.bh.getD b []).getD (m.s.tgt.getD a 0).toNat []) ((m.be.getD a []).getD (m.t.tgt.getD b 0).toNat [])
def Prof.Mix (m : Prof) : Prop := ∀ a, a < m.s.src.length → ∀ b, b < m.t.src.length → m.MixAt a b
def Prof.Is (m : Prof) : Prop := m.Shape ∧ m.Acts ∧ m.Mix

/-- f's sum below n. -/
def sumN (f : Nat → Int) : Nat → Int
  | 0 => 0
  | n + 1 => sumN f n + f n
theorem sumN_bd {f : Nat → Int} {c : Int} {N : Nat} (h : ∀ i, i < N → 0 ≤ f i ∧ f i ≤ c) : ∀ {n}, n ≤ N → 0 ≤ sumN f n ∧ sumN f n ≤ n * c
  | 0, _ => ⟨Int.le_refl _, by simp [sumN]⟩
  | n + 1, hn => by
    have h1 := sumN_bd h (n := n) (by omega)
    have h2 := h n (by omega)
    have h3 : ((n + 1 : Nat) : Int) * c = n * c + c := by rw [Int.natCast_add, Int.add_mul]; simp
    rw [h3]
    simp only [sumN]
    omega
theorem range_succ_map {α : Type} {f : Nat → α} {n : Nat} : (List.range (n + 1)).map f = (List.range n).map f ++ [f n] := by simp [List.range_succ]
def Prof.diag (m : Prof) (i : Nat) : Int := (m.sz.getD i []).getD i 0
/-- Where the places over each object begin. -/
def Prof.firsts (m : Prof) (n : Nat) : List Int := (List.range n).map (sumN m.diag)
@[simp] theorem Prof.length_firsts (m : Prof) (n : Nat) : (m.firsts n).length = n := by simp [Prof.firsts]
theorem Prof.firsts_get (m : Prof) {n i : Nat} (h : i < n) : (m.firsts n).getD i 0 = sumN m.diag i := by simp [Prof.firsts, List.getD_eq_getElem?_getD, h]
theorem Prof.firsts_succ (m : Prof) {n : Nat} : m.firsts (n + 1) = m.firsts n ++ [sumN m.diag n] := range_succ_map
/-- A profunctor of a category with itself. -/
noncomputable def Prof.code (m : Prof) : Int := bif B m.Is then (bif B (m.s = m.t) then 0 else 5) else 1
theorem Prof.code_nis {m : Prof} (h : ¬ m.Is) : m.code = 1 := by unfold Prof.code; rw [B_false h]; rfl
theorem Prof.code_ne {m : Prof} (h : m.Is) (h' : ¬ m.s = m.t) : m.code = 5 := by unfold Prof.code; rw [B_true h, B_false h']; rfl
theorem Prof.code_ok {m : Prof} (h : m.Is) (h' : m.s = m.t) : m.code = 0 := by unfold Prof.code; rw [B_true h, B_true h']; rfl
theorem Prof.of_code {m : Prof} (h : m.code = 0) : m.Is ∧ m.s = m.t := by
  by_cases h1 : m.Is
  · by_cases h2 : m.s = m.t
    · exact ⟨h1, h2⟩
    · rw [Prof.code_ne h1 h2] at h; cases h
  · rw [Prof.code_nis h1] at h; cases h
theorem Prof.code_bd (m : Prof) : 0 ≤ m.code ∧ m.code ≤ 5 := by
  by_cases h1 : m.Is
  · by_cases h2 : m.s = m.t
    · rw [Prof.code_ok h1 h2]; omega
    · rw [Prof.code_ne h1 h2]; omega
  · rw [Prof.code_nis h1]; omega
theorem Prof.Sized.diag {m : Prof} (z : m.Sized) (e : m.s = m.t) {i : Nat} (hi : i < m.sz.length) : i < (m.sz.getD i []).length ∧ 0 ≤ m.diag i ∧ m.diag i ≤ 64 := by
  have h1 := z.row i hi
  have h2 := z.sl
  rw [e] at h2
  have h3 := z.rng i hi i (by omega)
  exact ⟨by omega, h3⟩
theorem Prof.Sized.sum {m : Prof} (z : m.Sized) (e : m.s = m.t) {n : Nat} (hn : n ≤ m.sz.length) : 0 ≤ sumN m.diag n ∧ sumN m.diag n ≤ n * 64 := sumN_bd (N := m.sz.length) (fun _ hi => (z.diag e hi).2) hn
/-- The place of element e over object x. -/
noncomputable def Prof.place (m : Prof) (x e : Int) : Int × Int := bif B (m.code = 0) then (bif B (0 ≤ x ∧ x < m.s.obj ∧ 0 ≤ e ∧ e < m.diag x.toNat) then (sumN m.diag x.toNat + e, 0) else (0, 2)) else (0, m.code)
theorem Prof.place_bad {m : Prof} {x e : Int} (h : ¬ m.code = 0) : m.place x e = (0, m.code) := by unfold Prof.place; rw [B_false h]; rfl
theorem Prof.place_out {m : Prof} {x e : Int} (h : m.code = 0) (h' : ¬ (0 ≤ x ∧ x < m.s.obj ∧ 0 ≤ e ∧ e < m.diag x.toNat)) : m.place x e = (0, 2) := by unfold Prof.place; rw [B_true h, B_false h']; rfl
theorem Prof.place_in {m : Prof} {x e : Int} (h : m.code = 0) (h' : 0 ≤ x ∧ x < m.s.obj ∧ 0 ≤ e ∧ e < m.diag x.toNat) : m.place x e = (sumN m.diag x.toNat + e, 0) := by unfold Prof.place; rw [B_true h, B_true h']; rfl

/-- Two profunctors between the same categories. -/
noncomputable def Prof.code2 (m n : Prof) : Int := bif B (m.Is ∧ n.Is) then (bif B (m.s = n.s ∧ m.t = n.t) then 0 else 5) else 1
theorem Prof.code2_nis {m n : Prof} (h : ¬ (m.Is ∧ n.Is)) : m.code2 n = 1 := by unfold Prof.code2; rw [B_false h]; rfl
theorem Prof.code2_ne {m n : Prof} (h : m.Is ∧ n.Is) (h' : ¬ (m.s = n.s ∧ m.t = n.t)) : m.code2 n = 5 := by unfold Prof.code2; rw [B_true h, B_false h']; rfl
theorem Prof.code2_ok {m n : Prof} (h : m.Is ∧ n.Is) (h' : m.s = n.s ∧ m.t = n.t) : m.code2 n = 0 := by unfold Prof.code2; rw [B_true h, B_true h']; rfl
theorem Prof.of_code2 {m n : Prof} (h : m.code2 n = 0) : (m.Is ∧ n.Is) ∧ m.s = n.s ∧ m.t = n.t := by
  by_cases h1 : m.Is ∧ n.Is
  · by_cases h2 : m.s = n.s ∧ m.t = n.t
    · exact ⟨h1, h2⟩
    · rw [Prof.code2_ne h1 h2] at h; cases h
  · rw [Prof.code2_nis h1] at h; cases h
abbrev L3 := List (List (List Int))
def Prof.CoOk (m n : Prof) (c : L3) (x y : Nat) : Prop := (((c.getD x []).getD y []).length : Int) = (m.sz.getD x []).getD y 0 ∧ allIn ((c.getD x []).getD y []) ((n.sz.getD x []).getD y 0) = true
structure Prof.Rows (m n : Prof) (c : L3) : Prop where
  cl : (c.length : Int) = m.s.obj
  row : ∀ x, x < c.length → ((c.getD x []).length : Int) = m.t.obj ∧ ∀ y, y < (c.getD x []).length → m.CoOk n c x y
def Prof.NatB (m n : Prof) (c : L3) (a y : Nat) : Prop :=
  thenL ((m.be.getD a []).getD y []) ((c.getD (m.s.src.getD a 0).toNat []).getD y []) = thenL ((c.getD (m.s.tgt.getD a 0).toNat []).getD y []) ((n.be.getD a []).getD y [])
def Prof.NatH (m n : Prof) (c : L3) (b x : Nat) : Prop :=
  thenL ((m.bh.getD b []).getD x []) ((c.getD x []).getD (m.t.tgt.getD b 0).toNat []) = thenL ((c.getD x []).getD (m.t.src.getD b 0).toNat []) ((n.bh.getD b []).getD x [])
structure Prof.IsMap (m n : Prof) (c : L3) : Prop where
  rows : m.Rows n c
  nb : ∀ a, a < m.s.src.length → ∀ y : Nat, (y : Int) < m.t.obj → m.NatB n c a y
  nh : ∀ b, b < m.t.src.length → ∀ x : Nat, (x : Int) < m.s.obj → m.NatH n c b x
theorem Prof.Rows.co {m n : Prof} {c : L3} (h : m.Rows n c) {x y : Nat} (hx : (x : Int) < m.s.obj) (hy : (y : Int) < m.t.obj) : x < c.length ∧ y < (c.getD x []).length ∧ (((c.getD x []).getD y []).length : Int) = (m.sz.getD x []).getD y 0 ∧
    ∀ i, i < ((c.getD x []).getD y []).length → 0 ≤ ((c.getD x []).getD y []).getD i 0 ∧ ((c.getD x []).getD y []).getD i 0 < (n.sz.getD x []).getD y 0 := by
  have h1 := h.cl
  have h2 := h.row x (by omega)
  have h3 := h2.2 y (by omega)
  exact ⟨by omega, by omega, h3.1, allIn_iff.1 h3.2⟩
end Go.GL
