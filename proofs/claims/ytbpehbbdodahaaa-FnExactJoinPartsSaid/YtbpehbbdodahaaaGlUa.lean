/- Marks on set functors, their maps and parts; lists of lists that are made row by row. No condition. -/
import Derived.Test.YtbpehbbdodahaaaGlU
import Derived.Test.YtbpehbbdodahaaaGlY
namespace Go.GL

def SFun.total (f : SFun) : Nat := f.sh.total + (f.sz.length + sumL f.ac)
def SFunW (lo hi : Nat) (H : GHeap) (f : SFun) (p : SFunP) : Prop := CatW lo hi H f.sh p.sh ∧ IntsW lo hi H p.a1 f.sz.length ∧ IntssW lo hi H p.a2 f.ac p.r2
theorem SFunW.stm {lo hi : Nat} {H H' : GHeap} {c : SFun} {p : SFunP} (h : SFunW lo hi H c p) (s : StM lo hi H H') : SFunW lo hi H' c p := ⟨h.1.stm s, h.2.1.stm s, h.2.2.stm s⟩
theorem SFunW.of_at {b : Nat} {H0 H : GHeap} {c : SFun} {p : SFunP} (h : SFunAt b H0 c p) (k : Keep b H0 H) : SFunW b H0.next H c p := ⟨.of_at h.1 k, .of_at h.2.1 k, .of_at h.2.2 k⟩
def SFun.leaves (f : SFun) (p : SFunP) : List Leaf := f.sh.leaves p.sh ++ ([(p.a1, f.sz.length)] ++ rowsL p.r2 f.ac f.ac.length)
theorem SFun.lvSum_leaves (c : SFun) (p : SFunP) : lvSum (c.leaves p) = c.total := by
  simp only [SFun.leaves, lvSum_append, lvSum, Cat.lvSum_leaves, lvSum_rowsL p.r2 c.ac _ (Nat.le_refl _), List.take_length, SFun.total, Nat.add_zero]
theorem sumL_tot {xss : List (List Int)} (h : xss.length ≤ 1048576) (h' : ∀ i, (xss.getD i []).length ≤ 1048576) : sumL xss ≤ 1048576 * 1048576 := by
  have := sumL_le (m := 1048576) h'
  have h6 : xss.length * 1048576 ≤ 1048576 * 1048576 := Nat.mul_le_mul_right _ h
  exact Nat.le_trans this h6
theorem SFun.Small.tot {c : SFun} (h : c.Small) : c.total ≤ 4 * 1048576 + 2 * 1048576 * 1048576 := by
  obtain ⟨h1, h2, h3, h4⟩ := h
  have := h1.tot
  have := sumL_tot h3 h4
  unfold SFun.total
  omega
def SMap.total (f : SMap) : Nat := f.s.total + (f.t.total + sumL f.pa)
def SMapW (lo hi : Nat) (H : GHeap) (f : SMap) (p : SMapP) : Prop := SFunW lo hi H f.s p.s ∧ SFunW lo hi H f.t p.t ∧ IntssW lo hi H p.a2 f.pa p.r2
theorem SMapW.stm {lo hi : Nat} {H H' : GHeap} {c : SMap} {p : SMapP} (h : SMapW lo hi H c p) (s : StM lo hi H H') : SMapW lo hi H' c p := ⟨h.1.stm s, h.2.1.stm s, h.2.2.stm s⟩
theorem SMapW.of_at {b : Nat} {H0 H : GHeap} {c : SMap} {p : SMapP} (h : SMapAt b H0 c p) (k : Keep b H0 H) : SMapW b H0.next H c p := ⟨.of_at h.1 k, .of_at h.2.1 k, .of_at h.2.2 k⟩
def SMap.leaves (f : SMap) (p : SMapP) : List Leaf := f.s.leaves p.s ++ (f.t.leaves p.t ++ rowsL p.r2 f.pa f.pa.length)
theorem SMap.lvSum_leaves (c : SMap) (p : SMapP) : lvSum (c.leaves p) = c.total := by
  simp only [SMap.leaves, lvSum_append, SFun.lvSum_leaves, lvSum_rowsL p.r2 c.pa _ (Nat.le_refl _), List.take_length, SMap.total]
theorem SMap.Small.tot {c : SMap} (h : c.Small) : c.total ≤ 8 * 1048576 + 5 * 1048576 * 1048576 := by
  obtain ⟨h1, h2, h3, h4⟩ := h
  have := h1.tot
  have := h2.tot
  have := sumL_tot h3 h4
  unfold SMap.total
  omega
def Prt.total (f : Prt) : Nat := sumL f.me
def PrtW (lo hi : Nat) (H : GHeap) (f : Prt) (p : PrtP) : Prop := IntssW lo hi H p.a0 f.me p.r0
theorem PrtW.stm {lo hi : Nat} {H H' : GHeap} {c : Prt} {p : PrtP} (h : PrtW lo hi H c p) (s : StM lo hi H H') : PrtW lo hi H' c p := IntssW.stm h s
theorem PrtW.keep {lo lo' hi : Nat} {H H' : GHeap} {c : Prt} {p : PrtP} (h : PrtW lo hi H c p) (k : Keep lo' H H') (hb : lo' ≤ lo) : PrtW lo hi H' c p := IntssW.keep h k hb
theorem SFunW.keep {lo lo' hi : Nat} {H H' : GHeap} {c : SFun} {p : SFunP} (h : SFunW lo hi H c p) (k : Keep lo' H H') (hb : lo' ≤ lo) : SFunW lo hi H' c p := ⟨h.1.keep k hb, h.2.1.keep k hb, h.2.2.keep k hb⟩
theorem SMapW.keep {lo lo' hi : Nat} {H H' : GHeap} {c : SMap} {p : SMapP} (h : SMapW lo hi H c p) (k : Keep lo' H H') (hb : lo' ≤ lo) : SMapW lo hi H' c p := ⟨h.1.keep k hb, h.2.1.keep k hb, h.2.2.keep k hb⟩
theorem PrtW.of_at {b : Nat} {H0 H : GHeap} {c : Prt} {p : PrtP} (h : PrtAt b H0 c p) (k : Keep b H0 H) : PrtW b H0.next H c p := IntssW.of_at h k
def Prt.leaves (f : Prt) (p : PrtP) : List Leaf := rowsL p.r0 f.me f.me.length
theorem Prt.lvSum_leaves (c : Prt) (p : PrtP) : lvSum (c.leaves p) = c.total := by
  simp only [Prt.leaves, lvSum_rowsL p.r0 c.me _ (Nat.le_refl _), List.take_length, Prt.total]
theorem Prt.Small.tot {c : Prt} (h : c.Small) : c.total ≤ 1048576 * 1048576 := sumL_tot h.1 h.2

/-! ### Lists of lists made row by row. -/
def NoTwo (xss : List (List Int)) (r : Nat → Option Addr) : Prop := (lvBlks (rowsL r xss xss.length)).Nodup
/-- A result's list of lists: none, or rows of its own, no two alike. -/
def IntssR (b : Nat) (H : GHeap) (a : Option Addr) (xss : List (List Int)) (r : Nat → Option Addr) : Prop := ((xss = [] ∧ a = none) ∨ IntssAt b H a xss r) ∧ NoTwo xss r
theorem IntssR.keep {b b' : Nat} {H H' : GHeap} {a : Option Addr} {xs : List (List Int)} {r : Nat → Option Addr} (h : IntssR b H a xs r) (k : Keep b' H H') (hb : b' ≤ b) : IntssR b' H' a xs r := ⟨h.1.imp id fun h => h.keep k hb, h.2⟩
theorem IntssR.intss {b : Nat} {H : GHeap} {a : Option Addr} {xs : List (List Int)} {r : Nat → Option Addr} (h : IntssR b H a xs r) : Intss H a xs r := by
  rcases h.1 with ⟨rfl, rfl⟩ | h
  · exact ⟨.inl rfl, fun i hi => by simp at hi⟩
  · exact h.intss
theorem IntssR.nil (b : Nat) (H : GHeap) (r : Nat → Option Addr) : IntssR b H none [] r := ⟨.inl ⟨rfl, rfl⟩, by simp [NoTwo, lvBlks, rowsL]⟩
def NewIntssR (H : GHeap) (xs : List (List Int)) (v : Value) (H' : GHeap) : Prop := H.Le H' ∧ ∃ a r, v = .slice a xs.length xs.length ∧ IntssR H.next H' a xs r
def PrtR (b : Nat) (H : GHeap) (c : Prt) (p : PrtP) : Prop := IntssR b H p.a0 c.me p.r0
theorem PrtR.keep {b b' : Nat} {H H' : GHeap} {c : Prt} {p : PrtP} (h : PrtR b H c p) (k : Keep b' H H') (hb : b' ≤ b) : PrtR b' H' c p := IntssR.keep h k hb
theorem PrtR.inn {b : Nat} {H : GHeap} {c : Prt} {p : PrtP} (h : PrtR b H c p) : c.In H p := IntssR.intss h
theorem PrtR.nodup {b : Nat} {H : GHeap} {c : Prt} {p : PrtP} (h : PrtR b H c p) : (lvBlks (c.leaves p)).Nodup := h.2
theorem IntssW.of_r {b : Nat} {H0 H : GHeap} {a : Option Addr} {xs : List (List Int)} {r : Nat → Option Addr} (h : IntssR b H0 a xs r) (k : Keep b H0 H) : IntssW b H0.next H a xs r := by
  rcases h.1 with ⟨rfl, rfl⟩ | h
  · exact ⟨.inl rfl, fun i hi => by simp at hi, .inl rfl⟩
  · exact .of_at h k
theorem PrtW.of_r {b : Nat} {H0 H : GHeap} {c : Prt} {p : PrtP} (h : PrtR b H0 c p) (k : Keep b H0 H) : PrtW b H0.next H c p := IntssW.of_r h k

def slsOf (r : Nat → Option Addr) (X : Nat → List Int) (k : Nat) : List Value := (List.range k).map fun i => .slice (r i) (X i).length (X i).length
@[simp] theorem length_slsOf (r : Nat → Option Addr) (X : Nat → List Int) (k : Nat) : (slsOf r X k).length = k := by simp [slsOf]
def upd (r : Nat → Option Addr) (k : Nat) (a : Option Addr) : Nat → Option Addr := fun i => if i = k then a else r i
theorem upd_eq (r : Nat → Option Addr) (k : Nat) (a : Option Addr) : upd r k a k = a := by simp [upd]
theorem upd_ne {r : Nat → Option Addr} {k i : Nat} {a : Option Addr} (h : i ≠ k) : upd r k a i = r i := by simp [upd, h]
theorem slsOf_succ {r : Nat → Option Addr} {X : Nat → List Int} {k : Nat} {a : Option Addr} : slsOf (upd r k a) X (k + 1) = slsOf r X k ++ [.slice a (X k).length (X k).length] := by
  unfold slsOf
  rw [List.range_succ, List.map_append]
  congr 1
  · refine List.map_congr_left fun i hi => ?_
    rw [upd_ne (by have := List.mem_range.1 hi; omega)]
  · simp [upd_eq]
structure OwnRows (b : Nat) (H : GHeap) (e : TypeId) (r : Nat → Option Addr) (X : Nat → List Int) (k : Nat) : Prop where
  row : ∀ i, i < k → ∃ g, r i = some ⟨g, 0, none⟩ ∧ b ≤ g ∧ H.get g = some (.row (ints (X i)) e true)
  inj : ∀ i j, i < k → j < k → r i = r j → i = j
theorem OwnRows.zero (b : Nat) (H : GHeap) (e : TypeId) (r : Nat → Option Addr) (X : Nat → List Int) : OwnRows b H e r X 0 := ⟨fun i hi => by omega, fun i j hi => by omega⟩
/-- Rows of numbers of type e live on. -/
def Lasts (e : TypeId) (H H' : GHeap) : Prop := ∀ x xs, H.get x = some (.row (ints xs) e true) → H'.get x = some (.row (ints xs) e true)
theorem St.lasts1 {g0 : Nat} {H H' : GHeap} {e e' : TypeId} {cs : List Value} (s : St [g0] H H') (h0 : H.get g0 = some (.row cs e' true)) (hne : (e != e') = true) : Lasts e H H' := fun x xs hx => by
  simp only [bne_iff_ne, ne_eq] at hne
  refine s.same x _ ⟨fun ex => ?_, trivial⟩ hx
  subst ex
  rw [h0] at hx
  cases hx
  exact hne rfl
theorem St.lasts2 {g0 g1 : Nat} {H H' : GHeap} {e e' e'' : TypeId} {cs ds : List Value} (s : St [g0, g1] H H') (h0 : H.get g0 = some (.row cs e' true)) (hne : (e != e') = true) (h1 : H.next ≤ g1 ∨ H.get g1 = some (.row ds e'' true)) (hne' : (e != e'') = true) : Lasts e H H' := fun x xs hx => by
  simp only [bne_iff_ne, ne_eq] at hne hne'
  refine s.same x _ ⟨fun ex => ?_, fun ex => ?_, trivial⟩ hx
  · subst ex
    rw [h0] at hx
    cases hx
    exact hne rfl
  · subst ex
    rcases h1 with h1 | h1
    · have := GHeap.lt_of_get hx
      omega
    · rw [h1] at hx
      cases hx
      exact hne' rfl
theorem OwnRows.keep {b k : Nat} {H H' : GHeap} {e : TypeId} {r : Nat → Option Addr} {X : Nat → List Int} (h : OwnRows b H e r X k) (s : Lasts e H H') : OwnRows b H' e r X k := ⟨fun i hi => by
  obtain ⟨x, h1, h2, h3⟩ := h.row i hi
  exact ⟨x, h1, h2, s x _ h3⟩, h.inj⟩
theorem OwnRows.succ' {b g k : Nat} {H H' : GHeap} {e : TypeId} {r : Nat → Option Addr} {X : Nat → List Int} (h : OwnRows b H e r X k) (s : Lasts e H H')
    (hg : H'.get g = some (.row (ints (X k)) e true)) (hn : H.next ≤ g) (hb : b ≤ g) : OwnRows b H' e (upd r k (some ⟨g, 0, none⟩)) X (k + 1) := by
  refine ⟨fun i hi => ?_, fun i j hi hj hij => ?_⟩
  · by_cases ek : i = k
    · subst ek; exact ⟨g, upd_eq _ _ _, hb, hg⟩
    · obtain ⟨x, h1, h2, h3⟩ := h.row i (by omega)
      exact ⟨x, by rw [upd_ne ek]; exact h1, h2, s x _ h3⟩
  · by_cases ei : i = k
    · by_cases ej : j = k
      · omega
      · subst ei
        rw [upd_eq, upd_ne ej] at hij
        obtain ⟨x, h1, _, h3⟩ := h.row j (by omega)
        rw [h1] at hij
        cases hij
        have := GHeap.lt_of_get h3
        omega
    · by_cases ej : j = k
      · subst ej
        rw [upd_eq, upd_ne ei] at hij
        obtain ⟨x, h1, _, h3⟩ := h.row i (by omega)
        rw [h1] at hij
        cases hij
        have := GHeap.lt_of_get h3
        omega
      · rw [upd_ne ei, upd_ne ej] at hij
        exact h.inj i j (by omega) (by omega) hij
theorem OwnRows.succ {b g g0 k : Nat} {H H' : GHeap} {e e' : TypeId} {r : Nat → Option Addr} {X : Nat → List Int} {cs : List Value} (h : OwnRows b H e r X k) (s : St [g0] H H') (h0 : H.get g0 = some (.row cs e' true)) (hne : (e != e') = true)
    (hg : H'.get g = some (.row (ints (X k)) e true)) (hn : H.next ≤ g) (hb : b ≤ g) : OwnRows b H' e (upd r k (some ⟨g, 0, none⟩)) X (k + 1) := h.succ' (s.lasts1 h0 hne) hg hn hb
theorem mem_lvBlk {g n x : Nat} (h : x ∈ lvBlk (some ⟨g, 0, none⟩, n)) : x = g := by
  cases n with
  | zero => simp [lvBlk] at h
  | succ n => simpa [lvBlk] using h
theorem lvBlks_rowsL {r : Nat → Option Addr} {xss : List (List Int)} (hr : ∀ i, i < xss.length → ∃ g, r i = some ⟨g, 0, none⟩) (hi : ∀ i j, i < xss.length → j < xss.length → r i = r j → i = j) : ∀ {n}, n ≤ xss.length →
    (lvBlks (rowsL r xss n)).Nodup ∧ ∀ g ∈ lvBlks (rowsL r xss n), ∃ i, i < n ∧ r i = some ⟨g, 0, none⟩
  | 0, _ => by simp [rowsL, lvBlks]
  | n + 1, hn => by
    obtain ⟨h1, h2⟩ := lvBlks_rowsL hr hi (n := n) (by omega)
    obtain ⟨g, hg⟩ := hr n (by omega)
    have h3 : ∀ x ∈ lvBlk (r n, (xss.getD n []).length), x = g := fun x hx => by rw [hg] at hx; exact mem_lvBlk hx
    have h4 : (lvBlk (r n, (xss.getD n []).length)).Nodup := by unfold lvBlk; split <;> simp
    have e1 : lvBlks (rowsL r xss (n + 1)) = lvBlks (rowsL r xss n) ++ lvBlk (r n, (xss.getD n []).length) := by rw [rowsL_succ, lvBlks_append]; simp [lvBlks]
    rw [e1]
    refine ⟨List.nodup_append.2 ⟨h1, h4, fun x hx y hy hxy => ?_⟩, fun x hx => ?_⟩
    · obtain ⟨i, i1, i2⟩ := h2 x hx
      have := h3 y hy
      subst hxy this
      have := hi i n (by omega) (by omega) (by rw [i2, hg])
      omega
    · rcases List.mem_append.1 hx with hx | hx
      · obtain ⟨i, i1, i2⟩ := h2 x hx
        exact ⟨i, by omega, i2⟩
      · exact ⟨n, by omega, by rw [h3 x hx]; exact hg⟩
def rowsOf (X : Nat → List Int) (n : Nat) : List (List Int) := (List.range n).map X
@[simp] theorem length_rowsOf (X : Nat → List Int) (n : Nat) : (rowsOf X n).length = n := by simp [rowsOf]
theorem rowsOf_get {X : Nat → List Int} {n i : Nat} (h : i < n) : (rowsOf X n).getD i [] = X i := by simp [rowsOf, List.getD_eq_getElem?_getD, h]
theorem OwnRows.done {b g n : Nat} {H : GHeap} {e e' : TypeId} {r : Nat → Option Addr} {X : Nat → List Int} (h : OwnRows b H e r X n) (hg : H.get g = some (.row (slsOf r X n) e' true)) (hb : b ≤ g) : IntssR b H (some ⟨g, 0, none⟩) (rowsOf X n) r := by
  refine ⟨.inr ⟨g, e', slsOf r X n, rfl, hb, hg, by simp, fun i hi => ?_, fun i hi => ?_⟩, ?_⟩
  · rw [length_rowsOf] at hi
    rw [rowsOf_get hi]
    simp [slsOf, hi]
  · rw [length_rowsOf] at hi
    rw [rowsOf_get hi]
    obtain ⟨x, h1, h2, h3⟩ := h.row i hi
    exact ⟨x, e, h1, h2, h3⟩
  · exact (lvBlks_rowsL (fun i hi => by rw [length_rowsOf] at hi; obtain ⟨x, h1, _⟩ := h.row i hi; exact ⟨x, h1⟩) (fun i j hi hj => by rw [length_rowsOf] at hi hj; exact h.inj i j hi hj) (Nat.le_refl _)).1

/-- A list that is nil as long as it is empty. -/
def NilOr (b : Nat) (H : GHeap) (a : Option Addr) (g : Nat) (cs : List Value) (e : TypeId) (k : Nat) : Prop := (a = none ∧ k = 0) ∨ (a = some ⟨g, 0, none⟩ ∧ 0 < k ∧ b ≤ g ∧ H.get g = some (.row cs e true))
theorem NilOr.st {b g g0 k : Nat} {H H' : GHeap} {a : Option Addr} {cs : List Value} {e : TypeId} (h : NilOr b H a g cs e k) (s : St [g0] H H') (hn : g0 < b) : NilOr b H' a g cs e k := h.imp id fun ⟨h1, h0, h2, h3⟩ => ⟨h1, h0, h2, s.same g _ ⟨by omega, trivial⟩ h3⟩
theorem Lasts.trans {e : TypeId} {A B C : GHeap} (h : Lasts e A B) (h' : Lasts e B C) : Lasts e A C := fun x xs hx => h' x xs (h x xs hx)
theorem St.lastsA {g : Nat} {H H' : GHeap} {e e' : TypeId} (s : St [g] H H') (h : H.next ≤ g ∨ ∃ cs, H.get g = some (.row cs e' true)) (hne : (e != e') = true) : Lasts e H H' := fun x xs hx => by
  simp only [bne_iff_ne, ne_eq] at hne
  refine s.same x _ ⟨fun ex => ?_, trivial⟩ hx
  subst ex
  rcases h with h | ⟨cs, h⟩
  · have := GHeap.lt_of_get hx
    omega
  · rw [h] at hx
    cases hx
    exact hne rfl
/-- Where an append writes: a block of its own, or none yet. -/
theorem NilOr.where_ {b g k n : Nat} {H0 H : GHeap} {a : Option Addr} {cs : List Value} {e : TypeId} (h : NilOr b H a g cs e k) (h0 : NilOr b H0 a g cs e k) (hn : H0.next ≤ n) (hb : b ≤ n) (hnn : n ≤ H.next) :
    ∃ gA, (k = 0 ∨ gA = g) ∧ (H.next ≤ gA ∨ ∃ cs, H.get gA = some (.row cs e true)) ∧ b ≤ gA ∧ (gA < n ∨ H.next ≤ gA) := by
  rcases h with ⟨_, hk⟩ | ⟨_, _, h1, h2⟩
  · exact ⟨H.next, .inl hk, .inl (Nat.le_refl _), by omega, .inr (Nat.le_refl _)⟩
  · rcases h0 with ⟨_, hk⟩ | ⟨_, _, _, k2⟩
    · omega
    · exact ⟨g, .inr rfl, .inr ⟨_, h2⟩, h1, .inl (by have := GHeap.lt_of_get k2; omega)⟩
theorem OwnRows.done' {b b' g n : Nat} {a : Option Addr} {H : GHeap} {e e' : TypeId} {r : Nat → Option Addr} {X : Nat → List Int} (h : OwnRows b H e r X n) (hA : NilOr b' H a g (slsOf r X n) e' n) (hb : b ≤ b') : IntssR b H a (rowsOf X n) r := by
  rcases hA with ⟨rfl, rfl⟩ | ⟨rfl, _, h1, h2⟩
  · exact .nil _ _ _
  · exact h.done h2 (by omega)
section
variable {P : Program} {o : Oper} {fr : Slots} {H : GHeap}
theorem CDo.appendVN {t tx e e' : TypeId} {s x : Operand} {a : Option Addr} {b g gB g1 n sz bytes : Nat} {z cs vs : List Value} (ho : o.op = .call { callee := .builtin .append, args := #[s, x], argTypes := #[t, tx] }) (ht : sliceT P t = some (e, sz)) (hz : zeroT P e = some (z, sz)) (hzn : z.length = sz)
    (hb : (P.info? e).map (·.bytes) = some bytes) (htx : sliceT P tx = some (e', sz)) (hsv : ev fr s = some (.slice a n n)) (hx : ev fr x = some (.slice (some ⟨g1, 0, none⟩) 1 1)) (hA : NilOr b H a gB cs e n) (hAg : n = 0 ∨ g = gB) (hg1 : H.get g1 = some (.row vs e' true)) (hend : n * sz = cs.length)
    (hs0 : 0 < sz) (hv : vs.length = sz) (hone : vs.all (·.oneCell') = true) (hN : n + 1 ≤ 16777216) (hB : (n + 1) * bytes ≤ 140737488355328) :
    CDo P o fr H (fun r H' => ∃ g', r = some (.slice (some ⟨g', 0, none⟩) (n + 1) (n + 1)) ∧ St [g] H H' ∧ H.next ≤ g' ∧ H'.get g' = some (.row (cs ++ vs) e true)) := by
  have hsrc : SrcG P fr H sz tx x 1 vs := .slice htx hx (by omega) (fun i v hv => by rw [GHeap.cell_of hg1, Nat.zero_add]; exact hv) (fun v hv => List.all_eq_true.1 hone v hv)
  rcases hA with ⟨rfl, rfl⟩ | ⟨rfl, h0, h1, h2⟩
  · obtain rfl : cs = [] := List.eq_nil_of_length_eq_zero (by omega)
    exact .appendNil ho ht hz hzn hb hsv hsrc (by omega) (by unfold maxLen; omega) (by omega) ⟨_, rfl, .push (.refl _ _), Nat.le_refl _, GHeap.get_push_new _ _⟩
  · obtain rfl : g = gB := by
      rcases hAg with h | h
      · omega
      · exact h
    exact .appendR (cs := cs) (news := vs) ho ht hz hzn hb hsv h2 (by omega) hsrc hN hB
end
/-- Row x of a part drawn back along a map: the elements whose images lie in it. -/
def SMap.backX (m : SMap) (me : List (List Int)) (x : Nat) : List Int := filtN (m.pa.getD x []).length fun e => (me.getD x []).contains ((m.pa.getD x []).getD e 0)
def SMap.backR (m : SMap) (me : List (List Int)) : List (List Int) := rowsOf (m.backX me) m.pa.length
noncomputable def SMap.back (m : SMap) (me : List (List Int)) : Prt := ⟨bif B (m.Is ∧ m.t.Part me) then m.backR me else []⟩
noncomputable def SMap.backC (m : SMap) (me : List (List Int)) : Int := bif B (m.Is ∧ m.t.Part me) then 0 else 1
theorem SMap.back_not {m : SMap} {me : List (List Int)} (h : ¬ (m.Is ∧ m.t.Part me)) : m.back me = ⟨[]⟩ ∧ m.backC me = 1 := by unfold SMap.back SMap.backC; rw [B_false h]; exact ⟨rfl, rfl⟩
theorem SMap.back_ok {m : SMap} {me : List (List Int)} (h : m.Is ∧ m.t.Part me) : m.back me = ⟨m.backR me⟩ ∧ m.backC me = 0 := by unfold SMap.back SMap.backC; rw [B_true h]; exact ⟨rfl, rfl⟩
/-- The part whose row x holds the elements that Y says. -/
def SFun.pick (f : SFun) (Y : Nat → Nat → Bool) : Prt := ⟨rowsOf (fun x => filtN (f.sz.getD x 0).toNat (Y x)) f.sz.length⟩
theorem rowsOf_congr {X Y : Nat → List Int} {n : Nat} (h : ∀ i, i < n → X i = Y i) : rowsOf X n = rowsOf Y n := List.map_congr_left fun i hi => h i (List.mem_range.1 hi)
theorem SMap.pick_eq {m : SMap} {me : List (List Int)} (h : m.Fits) : m.s.pick (fun x e => (me.getD x []).contains ((m.pa.getD x []).getD e 0)) = ⟨m.backR me⟩ := by
  unfold SFun.pick SMap.backR
  rw [← h.pl]
  refine congrArg Prt.mk (rowsOf_congr fun i hi => ?_)
  have := (h.pa i hi).1
  unfold SMap.backX
  rw [← this, Int.toNat_natCast]
theorem SMap.back_small {m : SMap} {me : List (List Int)} (hs : m.Small) : (m.back me).Small := by
  obtain ⟨_, _, h3, h4⟩ := hs
  by_cases h : m.Is ∧ m.t.Part me
  · rw [(SMap.back_ok h).1]
    refine ⟨by simp only [SMap.backR, length_rowsOf]; omega, fun i => ?_⟩
    by_cases hi : i < m.pa.length
    · simp only [SMap.backR]
      rw [rowsOf_get hi]
      exact Nat.le_trans (filtN_le _ _) (h4 i)
    · simp only [SMap.backR]
      rw [List.getD_eq_getElem?_getD, List.getElem?_eq_none (by rw [length_rowsOf]; omega)]
      simp
  · rw [(SMap.back_not h).1]
    exact ⟨by simp, fun i => by simp⟩
end Go.GL
