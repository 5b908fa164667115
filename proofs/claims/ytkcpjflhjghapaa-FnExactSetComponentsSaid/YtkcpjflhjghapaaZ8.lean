/- Marks on set functors, their maps and parts; lists of lists that are made row by row. No condition. -/
import Derived.Test.YtkcpjflhjghapaaZ7
namespace Go.GL

def SFun.total (f : SFun) : Nat := f.sh.total + (f.sz.length + sumL f.ac)
def SFunW (lo hi : Nat) (H : GHeap) (f : SFun) (p : SFunP) : Prop := CatW lo hi H f.sh p.sh ∧ IntsW lo hi H p.a1 f.sz.length ∧ IntssW lo hi H p.a2 f.ac p.r2
theorem SFunW.stm {lo hi : Nat} {H H' : GHeap} {c : SFun} {p : SFunP} (h : SFunW lo hi H c p) (s : StM lo hi H H') : SFunW lo hi H' c p := ⟨h.1.stm s, h.2.1.stm s, h.2.2.stm s⟩
theorem SFunW.of_at {b : Nat} {H0 H : GHeap} {c : SFun} {p : SFunP} (h : SFunAt b H0 c p) (k : Keep b H0 H) : SFunW b H0.next H c p := ⟨.of_at h.1 k, .of_at h.2.1 k, .of_at h.2.2 k⟩
def SFun.leaves (f : SFun) (p : SFunP) : List Leaf := f.sh.leaves p.sh ++ ([(p.a1, f.sz.length)] ++ rowsL p.r2 f.ac f.ac.length)
theorem SFun.lvSum_leaves (c : SFun) (p : SFunP) : lvSum (c.leaves p) = c.total := by
  simp only [SFun.leaves, lvSum_append, lvSum, Cat.lvSum_leaves, lvSum_rowsL p.r2 c.ac _ (Nat.le_refl _), List.take_length, SFun.total, Nat.add_zero]
theorem sumL_tot {xss : List (List Int)} (h : xss.length ≤ 1048576) (h' : ∀ i, (xss.getD i []).length ≤ 1048576) : sumL xss ≤ 1048576 * 1048576 := by
  have := sumL_le (m := 1048576) h'
  have h6 : xss.length * 1048576 ≤ 1048576 * 1048576 := Nat.mul_le_mul_right _ h
  exact Nat.le_trans this h6
theorem SFun.Small.tot {c : SFun} (h : c.Small) : c.total ≤ 4 * 1048576 + 2 * 1048576 * 1048576 := by
  obtain ⟨h1, h2, h3, h4⟩ := h
  have := h1.tot
  have := sumL_tot h3 h4
  unfold SFun.total
  omega
def SMap.total (f : SMap) : Nat := f.s.total + (f.t.total + sumL f.pa)
def SMapW (lo hi : Nat) (H : GHeap) (f : SMap) (p : SMapP) : Prop := SFunW lo hi H f.s p.s ∧ SFunW lo hi H f.t p.t ∧ IntssW lo hi H p.a2 f.pa p.r2
theorem SMapW.stm {lo hi : Nat} {H H' : GHeap} {c : SMap} {p : SMapP} (h : SMapW lo hi H c p) (s : StM lo hi H H') : SMapW lo hi H' c p := ⟨h.1.stm s, h.2.1.stm s, h.2.2.stm s⟩
theorem SMapW.of_at {b : Nat} {H0 H : GHeap} {c : SMap} {p : SMapP} (h : SMapAt b H0 c p) (k : Keep b H0 H) : SMapW b H0.next H c p := ⟨.of_at h.1 k, .of_at h.2.1 k, .of_at h.2.2 k⟩
def SMap.leaves (f : SMap) (p : SMapP) : List Leaf := f.s.leaves p.s ++ (f.t.leaves p.t ++ rowsL p.r2 f.pa f.pa.length)
theorem SMap.lvSum_leaves (c : SMap) (p : SMapP) : lvSum (c.leaves p) = c.total := by
  simp only [SMap.leaves, lvSum_append, SFun.lvSum_leaves, lvSum_rowsL p.r2 c.pa _ (Nat.le_refl _), List.take_length, SMap.total]
theorem SMap.Small.tot {c : SMap} (h : c.Small) : c.total ≤ 8 * 1048576 + 5 * 1048576 * 1048576 := by
  obtain ⟨h1, h2, h3, h4⟩ := h
  have := h1.tot
  have := h2.tot
  have := sumL_tot h3 h4
  unfold SMap.total
  omega
def Prt.total (f : Prt) : Nat := sumL f.me
def PrtW (lo hi : Nat) (H : GHeap) (f : Prt) (p : PrtP) : Prop := IntssW lo hi H p.a0 f.me p.r0
theorem PrtW.stm {lo hi : Nat} {H H' : GHeap} {c : Prt} {p : PrtP} (h : PrtW lo hi H c p) (s : StM lo hi H H') : PrtW lo hi H' c p := IntssW.stm h s
theorem PrtW.keep {lo lo' hi : Nat} {H H' : GHeap} {c : Prt} {p : PrtP} (h : PrtW lo hi H c p) (k : Keep lo' H H') (hb : lo' ≤ lo) : PrtW lo hi H' c p := IntssW.keep h k hb
theorem SFunW.keep {lo lo' hi : Nat} {H H' : GHeap} {c : SFun} {p : SFunP} (h : SFunW lo hi H c p) (k : Keep lo' H H') (hb : lo' ≤ lo) : SFunW lo hi H' c p := ⟨h.1.keep k hb, h.2.1.keep k hb, h.2.2.keep k hb⟩
theorem SMapW.keep {lo lo' hi : Nat} {H H' : GHeap} {c : SMap} {p : SMapP} (h : SMapW lo hi H c p) (k : Keep lo' H H') (hb : lo' ≤ lo) : SMapW lo hi H' c p := ⟨h.1.keep k hb, h.2.1.keep k hb, h.2.2.keep k hb⟩
theorem PrtW.of_at {b : Nat} {H0 H : GHeap} {c : Prt} {p : PrtP} (h : PrtAt b H0 c p) (k : Keep b H0 H) : PrtW b H0.next H c p := IntssW.of_at h k
def Prt.leaves (f : Prt) (p : PrtP) : List Leaf := rowsL p.r0 f.me f.me.length
theorem Prt.lvSum_leaves (c : Prt) (p : PrtP) : lvSum (c.leaves p) = c.total := by
  simp only [Prt.leaves, lvSum_rowsL p.r0 c.me _ (Nat.le_refl _), List.take_length, Prt.total]
theorem Prt.Small.tot {c : Prt} (h : c.Small) : c.total ≤ 1048576 * 1048576 := sumL_tot h.1 h.2

/-! ### Lists of lists made row by row. -/
def NoTwo (xss : List (List Int)) (r : Nat → Option Addr) : Prop := (lvBlks (rowsL r xss xss.length)).Nodup
/-- A result's list of lists: none, or rows of its own, no two alike. -/
def IntssR (b : Nat) (H : GHeap) (a : Option Addr) (xss : List (List Int)) (r : Nat → Option Addr) : Prop := ((xss = [] ∧ a = none) ∨ IntssAt b H a xss r) ∧ NoTwo xss r
theorem IntssR.keep {b b' : Nat} {H H' : GHeap} {a : Option Addr} {xs : List (List Int)} {r : Nat → Option Addr} (h : IntssR b H a xs r) (k : Keep b' H H') (hb : b' ≤ b) : IntssR b' H' a xs r := ⟨h.1.imp id fun h => h.keep k hb, h.2⟩
theorem IntssR.intss {b : Nat} {H : GHeap} {a : Option Addr} {xs : List (List Int)} {r : Nat → Option Addr} (h : IntssR b H a xs r) : Intss H a xs r := by
  rcases h.1 with ⟨rfl, rfl⟩ | h
  · exact ⟨.inl rfl, fun i hi => by simp at hi⟩
  · exact h.intss
theorem IntssR.nil (b : Nat) (H : GHeap) (r : Nat → Option Addr) : IntssR b H none [] r := ⟨.inl ⟨rfl, rfl⟩, by simp [NoTwo, lvBlks, rowsL]⟩
def NewIntssR (H : GHeap) (xs : List (List Int)) (v : Value) (H' : GHeap) : Prop := H.Le H' ∧ ∃ a r, v = .slice a xs.length xs.length ∧ IntssR H.next H' a xs r
def PrtR (b : Nat) (H : GHeap) (c : Prt) (p : PrtP) : Prop := IntssR b H p.a0 c.me p.r0
theorem PrtR.keep {b b' : Nat} {H H' : GHeap} {c : Prt} {p : PrtP} (h : PrtR b H c p) (k : Keep b' H H') (hb : b' ≤ b) : PrtR b' H' c p := IntssR.keep h k hb
theorem PrtR.inn {b : Nat} {H : GHeap} {c : Prt} {p : PrtP} (h : PrtR b H c p) : c.In H p := IntssR.intss h
theorem PrtR.nodup {b : Nat} {H : GHeap} {c : Prt} {p : PrtP} (h : PrtR b H c p) : (lvBlks (c.leaves p)).Nodup := h.2
theorem IntssW.of_r {b : Nat} {H0 H : GHeap} {a : Option Addr} {xs : List (List Int)} {r : Nat → Option Addr} (h : IntssR b H0 a xs r) (k : Keep b H0 H) : IntssW b H0.next H a xs r := by
  rcases h.1 with ⟨rfl, rfl⟩ | h
  · exact ⟨.inl rfl, fun i hi => by simp at hi, .inl rfl⟩
  · exact .of_at h k
theorem PrtW.of_r {b : Nat} {H0 H : GHeap} {c : Prt} {p : PrtP} (h : PrtR b H0 c p) (k : Keep b H0 H) : PrtW b H0.next H c p := IntssW.of_r h k

def slsOf (r : Nat → Option Addr) (X : Nat → List Int) (k : Nat) : List Value := (List.range k).map fun i => .slice (r i) (X i).length (X i).length
@[simp] theorem length_slsOf (r : Nat → Option Addr) (X : Nat → List Int) (k : Nat) : (slsOf r X k).length = k := by simp [slsOf]
def upd (r : Nat → Option Addr) (k : Nat) (a : Option Addr) : Nat → Option Addr := fun i => if i = k then a else r i
theorem upd_eq (r : Nat → Option Addr) (k : Nat) (a : Option Addr) : upd r k a k = a := by simp [upd]
theorem upd_ne {r : Nat → Option Addr} {k i : Nat} {a : Option Addr} (h : i ≠ k) : upd r k a i = r i := by simp [upd, h]
theorem slsOf_succ {r : Nat → Option Addr} {X : Nat → List Int} {k : Nat} {a : Option Addr} : slsOf (upd r k a) X (k + 1) = slsOf r X k ++ [.slice a (X k).length (X k).length] := by
  unfold slsOf
  rw [List.range_succ, List.map_append]
  congr 1
  · refine List.map_congr_left fun i hi => ?_
    rw [upd_ne (by have := List.mem_range.1 hi; omega)]
  · simp [upd_eq]
structure OwnRows (b : Nat) (H : GHeap) (e : TypeId) (r : Nat → Option Addr) (X : Nat → List Int) (k : Nat) : Prop where
  row : ∀ i, i < k → ∃ g, r i = some ⟨g, 0, none⟩ ∧ b ≤ g ∧ H.get g = some (.row (ints (X i)) e true)
  inj : ∀ i j, i < k → j < k → r i = r j → i = j
theorem OwnRows.zero (b : Nat) (H : GHeap) (e : TypeId) (r : Nat → Option Addr) (X : Nat → List Int) : OwnRows b H e r X 0 := ⟨fun i hi => by omega, fun i j hi => by omega⟩
/-- Rows of numbers of type e live on. -/
def Lasts (e : TypeId) (H H' : GHeap) : Prop := ∀ x xs, H.get x = some (.row (ints xs) e true) → H'.get x = some (.row (ints xs) e true)
theorem St.lasts1 {g0 : Nat} {H H' : GHeap} {e e' : TypeId} {cs : List Value} (s : St [g0] H H') (h0 : H.get g0 = some (.row cs e' true)) (hne : (e != e') = true) : Lasts e H H' := fun x xs hx => by
  simp only [bne_iff_ne, ne_eq] at hne
  refine s.same x _ ⟨fun ex => ?_, trivial⟩ hx
  subst ex
  rw [h0] at hx
  cases hx
  exact hne rfl
theorem St.lasts2 {g0 g1 : Nat} {H H' : GHeap} {e e' e'' : TypeId} {cs ds : List Value} (s : St [g0, g1] H H') (h0 : H.get g0 = some (.row cs e' true)) (hne : (e != e') = true) (h1 : H.next ≤ g1 ∨ H.get g1 = some (.row ds e'' true)) (hne' : (e != e'') = true) : Lasts e H H' := fun x xs hx => by
  simp only [bne_iff_ne, ne_eq] at hne hne'
  refine s.same x _ ⟨fun ex => ?_, fun ex => ?_, trivial⟩ hx
  · subst ex
    rw [h0] at hx
    cases hx
    exact hne rfl
  · subst ex
    rcases h1 with h1 | h1
    · have := GHeap.lt_of_get hx
      omega
    · rw [h1] at hx
      cases hx
      exact hne' rfl
theorem OwnRows.keep {b k : Nat} {H H' : GHeap} {e : TypeId} {r : Nat → Option Addr} {X : Nat → List Int} (h : OwnRows b H e r X k) (s : Lasts e H H') : OwnRows b H' e r X k := ⟨fun i hi => by
  obtain ⟨x, h1, h2, h3⟩ := h.row i hi
  exact ⟨x, h1, h2, s x _ h3⟩, h.inj⟩
theorem OwnRows.succ' {b g k : Nat} {H H' : GHeap} {e : TypeId} {r : Nat → Option Addr} {X : Nat → List Int} (h : OwnRows b H e r X k) (s : Lasts e H H')
    (hg : H'.get g = some (.row (ints (X k)) e true)) (hn : H.next ≤ g) (hb : b ≤ g) : OwnRows b H' e (upd r k (some ⟨g, 0, none⟩)) X (k + 1) := by
  refine ⟨fun i hi => ?_, fun i j hi hj hij => ?_⟩
  · by_cases ek : i = k
    · subst ek; exact ⟨g, upd_eq _ _ _, hb, hg⟩
    · obtain ⟨x, h1, h2, h3⟩ := h.row i (by omega)
      exact ⟨x, by rw [upd_ne ek]; exact h1, h2, s x _ h3⟩
  · by_cases ei : i = k
    · by_cases ej : j = k
      · omega
      · subst ei
        rw [upd_eq, upd_ne ej] at hij
        obtain ⟨x, h1, _, h3⟩ := h.row j (by omega)
        rw [h1] at hij
        cases hij
        have := GHeap.lt_of_get h3
        omega
    · by_cases ej : j = k
      · subst ej
        rw [upd_eq, upd_ne ei] at hij
        obtain ⟨x, h1, _, h3⟩ := h.row i (by omega)
        rw [h1] at hij
        cases hij
        have := GHeap.lt_of_get h3
        omega
      · rw [upd_ne ei, upd_ne ej] at hij
        exact h.inj i j (by omega) (by omega) hij
theorem OwnRows.succ {b g g0 k : Nat} {H H' : GHeap} {e e' : TypeId} {r : Nat → Option Addr} {X : Nat → List Int} {cs : List Value} (h : OwnRows b H e r X k) (s : St [g0] H H') (h0 : H.get g0 = some (.row cs e' true)) (hne : (e != e') = true)
    (hg : H'.get g = some (.row (ints (X k)) e true)) (hn : H.next ≤ g) (hb : b ≤ g) : OwnRows b H' e (upd r k (some ⟨g, 0, none⟩)) X (k + 1) := h.succ' (s.lasts1 h0 hne) hg hn hb
theorem mem_lvBlk {g n x : Nat} (h : x ∈ lvBlk (some ⟨g, 0, none⟩, n)) : x = g := by
  cases n with
  | zero => simp [lvBlk] at h
  | succ n => simpa [lvBlk] using h
theorem lvBlks_rowsL {r : Nat → Option Addr} {xss : List (List Int)} (hr : ∀ i, i < xss.length → ∃ g, r i = some ⟨g, 0, none⟩) (hi : ∀ i j, i < xss.length → j < xss.length → r i = r j → i = j) : ∀ {n}, n ≤ xss.length →
    (lvBlks (rowsL r xss n)).Nodup ∧ ∀ g ∈ lvBlks (rowsL r xss n), ∃ i, i < n ∧ r i = some ⟨g, 0, none⟩
  | 0, _ => by simp [rowsL, lvBlks]
  | n + 1, hn => by
    obtain ⟨h1, h2⟩ := lvBlks_rowsL hr hi (n := n) (by omega)
    obtain ⟨g, hg⟩ := hr n (by omega)
    have h3 : ∀ x ∈ lvBlk (r n, (xss.getD n []).length), x = g := fun x hx => by rw [hg] at hx; exact mem_lvBlk hx
    have h4 : (lvBlk (r n, (xss.getD n []).length)).Nodup := by unfold lvBlk; split <;> simp
    have e1 : lvBlks (rowsL r xss (n + 1)) = lvBlks (rowsL r xss n) ++ lvBlk (r n, (xss.getD n []).length) := by rw [rowsL_succ, lvBlks_append]; simp [lvBlks]
    rw [e1]
    refine ⟨List.nodup_append.2 ⟨h1, h4, fun x hx y hy hxy => ?_⟩, fun x hx => ?_⟩
    · obtain ⟨i, i1, i2⟩ := h2 x hx
      have := h3 y hy
      subst hxy this
      have := hi i n (by omega) (by omega) (by rw [i2, hg])
      omega
    · rcases List.mem_append.1 hx with hx | hx
      · obtain ⟨i, i1, i2⟩ := h2 x hx
        exact ⟨i, by omega, i2⟩
      · exact ⟨n, by omega, by rw [h3 x hx]; exact hg⟩
def rowsOf (X : Nat → List Int) (n : Nat) : List (List Int) := (List.range n).map X
@[simp] theorem length_rowsOf (X : Nat → List Int) (n : Nat) : (rowsOf X n).length = n := by simp [rowsOf]
theorem rowsOf_get {X : Nat → List Int} {n i : Nat} (h : i < n) : (rowsOf X n).getD i [] = X i := by simp [rowsOf, List.getD_eq_getElem?_getD, h]
theorem OwnRows.done {b g n : Nat} {H : GHeap} {e e' : TypeId} {r : Nat → Option Addr} {X : Nat → List Int} (h : OwnRows b H e r X n) (hg : H.get g = some (.row (slsOf r X n) e' true)) (hb : b ≤ g) : IntssR b H (some ⟨g, 0, none⟩) (rowsOf X n) r := by
  refine ⟨.inr ⟨g, e', slsOf r X n, rfl, hb, hg, by simp, fun i hi => ?_, fun i hi => ?_⟩, ?_⟩
  · rw [length_rowsOf] at hi
    rw [rowsOf_get hi]
    simp [slsOf, hi]
  · rw [length_rowsOf] at hi
    rw [rowsOf_get hi]
    obtain ⟨x, h1, h2, h3⟩ := h.row i hi
    exact ⟨x, e, h1, h2, h3⟩
  · exact (lvBlks_rowsL (fun i hi => by rw [length_rowsOf] at hi; obtain ⟨x, h1, _⟩ := h.row i hi; exact ⟨x, h1⟩) (fun i j hi hj => by rw [length_rowsOf] at hi hj; exact h.inj i j hi hj) (Nat.le_refl _)).1

/-- A list that is nil as long as it is empty. -/
def NilOr (b : Nat) (H : GHeap) (a : Option Addr) (g : Nat) (cs : List Value) (e : TypeId) (k : Nat) : Prop := (a = none ∧ k = 0) ∨ (a = some ⟨g, 0, none⟩ ∧ 0 < k ∧ b ≤ g ∧ H.get g = some (.row cs e true))
theorem NilOr.st {b g g0 k : Nat} {H H' : GHeap} {a : Option Addr} {cs : List Value} {e : TypeId} (h : NilOr b H a g cs e k) (s : St [g0] H H') (hn : g0 < b) : NilOr b H' a g cs e k := h.imp id fun ⟨h1, h0, h2, h3⟩ => ⟨h1, h0, h2, s.same g _ ⟨by omega, trivial⟩ h3⟩
theorem Lasts.trans {e : TypeId} {A B C : GHeap} (h : Lasts e A B) (h' : Lasts e B C) : Lasts e A C := fun x xs hx => h' x xs (h x xs hx)
theorem St.lastsA {g : Nat} {H H' : GHeap} {e e' : TypeId} (s : St [g] H H') (h : H.next ≤ g ∨ ∃ cs, H.get g = some (.row cs e' true)) (hne : (e != e') = true) : Lasts e H H' := fun x xs hx => by
  simp only [bne_iff_ne, ne_eq] at hne
  refine s.same x _ ⟨fun ex => ?_, trivial⟩ hx
  subst ex
  rcases h with h | ⟨cs, h⟩
  · have := GHeap.lt_of_get hx
    omega
  · rw [h] at hx
    cases hx
    exact hne rfl
/-- Where an append writes: a block of its own, or none yet. -/
theorem NilOr.where_ {b g k n : Nat} {H0 H : GHeap} {a : Option Addr} {cs : List Value} {e : TypeId} (h : NilOr b H a g cs e k) (h0 : NilOr b H0 a g cs e k) (hn : H0.next ≤ n) (hb : b ≤ n) (hnn : n ≤ H.next) :
    ∃ gA, (k = 0 ∨ gA = g) ∧ (H.next ≤ gA ∨ ∃ cs, H.get gA = some (.row cs e true)) ∧ b ≤ gA ∧ (gA < n ∨ H.next ≤ gA) := by
  rcases h with ⟨_, hk⟩ | ⟨_, _, h1, h2⟩
  · exact ⟨H.next, .inl hk, .inl (Nat.le_refl _), by omega, .inr (Nat.le_refl _)⟩
  · rcases h0 with ⟨_, hk⟩ | ⟨_, _, _, k2⟩
    · omega
    · exact ⟨g, .inr rfl, .inr ⟨_, h2⟩, h1, .inl (by have := GHeap.lt_of_get k2; omega)⟩
theorem OwnRows.done' {b b' g n : Nat} {a : Option Addr} {H : GHeap} {e e' : TypeId} {r : Nat → Option Addr} {X : Nat → List Int} (h : OwnRows b H e r X n) (hA : NilOr b' H a g (slsOf r X n) e' n) (hb : b ≤ b') : IntssR b H a (rowsOf X n) r := by
  rcases hA with ⟨rfl, rfl⟩ | ⟨rfl, _, h1, h2⟩
  · exact .nil _ _ _
  · exact h.done h2 (by omega)
section
variable {P : Program} {o : Oper} {fr : Slots} {H : GHeap}
theorem CDo.appendVN {t tx e e' : TypeId} {s x : Operand} {a : Option Addr} {b g gB g1 n sz bytes : Nat} {z cs vs : List Value} (ho : o.op = .call { callee := .builtin .append, args := #[s, x], argTypes := #[t, tx] }) (ht : sliceT P t = some (e, sz)) (hz : zeroT P e = some (z, sz)) (hzn : z.length = sz)
    (hb : (P.info? e).map (·.bytes) = some bytes) (htx : sliceT P tx = some (e', sz)) (hsv : ev fr s = some (.slice a n n)) (hx : ev fr x = some (.slice (some ⟨g1, 0, none⟩) 1 1)) (hA : NilOr b H a gB cs e n) (hAg : n = 0 ∨ g = gB) (hg1 : H.get g1 = some (.row vs e' true)) (hend : n * sz = cs.length)
    (hs0 : 0 < sz) (hv : vs.length = sz) (hone : vs.all (·.oneCell') = true) (hN : n + 1 ≤ 16777216) (hB : (n + 1) * bytes ≤ 140737488355328) :
    CDo P o fr H (fun r H' => ∃ g', r = some (.slice (some ⟨g', 0, none⟩) (n + 1) (n + 1)) ∧ St [g] H H' ∧ H.next ≤ g' ∧ H'.get g' = some (.row (cs ++ vs) e true)) := by
  have hsrc : SrcG P fr H sz tx x 1 vs := .slice htx hx (by omega) (fun i v hv => by rw [GHeap.cell_of hg1, Nat.zero_add]; exact hv) (fun v hv => List.all_eq_true.1 hone v hv)
  rcases hA with ⟨rfl, rfl⟩ | ⟨rfl, h0, h1, h2⟩
  · obtain rfl : cs = [] := List.eq_nil_of_length_eq_zero (by omega)
    exact .appendNil ho ht hz hzn hb hsv hsrc (by omega) (by unfold maxLen; omega) (by omega) ⟨_, rfl, .push (.refl _ _), Nat.le_refl _, GHeap.get_push_new _ _⟩
  · obtain rfl : g = gB := by
      rcases hAg with h | h
      · omega
      · exact h
    exact .appendR (cs := cs) (news := vs) ho ht hz hzn hb hsv h2 (by omega) hsrc hN hB
end
/-- Row x of a part drawn back along a map: the elements whose images lie in it. -/
def SMap.backX (m : SMap) (me : List (List Int)) (x : Nat) : List Int := filtN (m.pa.getD x []).length fun e => (me.getD x []).contains ((m.pa.getD x []).getD e 0)
def SMap.backR (m : SMap) (me : List (List Int)) : List (List Int) := rowsOf (m.backX me) m.pa.length
noncomputable def SMap.back (m : SMap) (me : List (List Int)) : Prt := ⟨bif B (m.Is ∧ m.t.Part me) then m.backR me else []⟩
noncomputable def SMap.backC (m : SMap) (me : List (List Int)) : Int := bif B (m.Is ∧ m.t.Part me) then 0 else 1
theorem SMap.back_not {m : SMap} {me : List (List Int)} (h : ¬ (m.Is ∧ m.t.Part me)) : m.back me = ⟨[]⟩ ∧ m.backC me = 1 := by unfold SMap.back SMap.backC; rw [B_false h]; exact ⟨rfl, rfl⟩
theorem SMap.back_ok {m : SMap} {me : List (List Int)} (h : m.Is ∧ m.t.Part me) : m.back me = ⟨m.backR me⟩ ∧ m.backC me = 0 := by unfold SMap.back SMap.backC; rw [B_true h]; exact ⟨rfl, rfl⟩
/-- The part whose row x holds the elements that Y says. -/
def SFun.pick (f : SFun) (Y : Nat → Nat → Bool) : Prt := ⟨rowsOf (fun x => filtN (f.sz.getD x 0).toNat (Y x)) f.sz.length⟩
theorem rowsOf_congr {X Y : Nat → List Int} {n : Nat} (h : ∀ i, i < n → X i = Y i) : rowsOf X n = rowsOf Y n := List.map_congr_left fun i hi => h i (List.mem_range.1 hi)
theorem SMap.pick_eq {m : SMap} {me : List (List Int)} (h : m.Fits) : m.s.pick (fun x e => (me.getD x []).contains ((m.pa.getD x []).getD e 0)) = ⟨m.backR me⟩ := by
  unfold SFun.pick SMap.backR
  rw [← h.pl]
  refine congrArg Prt.mk (rowsOf_congr fun i hi => ?_)
  have := (h.pa i hi).1
  unfold SMap.backX
  rw [← this, Int.toNat_natCast]
theorem SMap.back_small {m : SMap} {me : List (List Int)} (hs : m.Small) : (m.back me).Small := by
  obtain ⟨_, _, h3, h4⟩ := hs
  by_cases h : m.Is ∧ m.t.Part me
  · rw [(SMap.back_ok h).1]
    refine ⟨by simp only [SMap.backR, length_rowsOf]; omega, fun i => ?_⟩
    by_cases hi : i < m.pa.length
    · simp only [SMap.backR]
      rw [rowsOf_get hi]
      exact Nat.le_trans (filtN_le _ _) (h4 i)
    · simp only [SMap.backR]
      rw [List.getD_eq_getElem?_getD, List.getElem?_eq_none (by rw [length_rowsOf]; omega)]
      simp
  · rw [(SMap.back_not h).1]
    exact ⟨by simp, fun i => by simp⟩
end Go.GL
/- Lists of lists that grow row by row; lists made in two nested loops. No condition. -/
namespace Go.GL
def slsL (r : Nat → Option Addr) (xss : List (List Int)) : List Value := slsOf r (fun i => xss.getD i []) xss.length
@[simp] theorem length_slsL (r : Nat → Option Addr) (xss : List (List Int)) : (slsL r xss).length = xss.length := by simp [slsL]
theorem slsOf_congr {r : Nat → Option Addr} {X Y : Nat → List Int} {k : Nat} (h : ∀ i, i < k → X i = Y i) : slsOf r X k = slsOf r Y k := List.map_congr_left fun i hi => by rw [h i (List.mem_range.1 hi)]
theorem getD_snoc {α : Type} {xs : List α} {x d : α} {i : Nat} : (xs ++ [x]).getD i d = if i < xs.length then xs.getD i d else if i = xs.length then x else d := by
  rw [List.getD_eq_getElem?_getD, List.getD_eq_getElem?_getD]
  by_cases h : i < xs.length
  · rw [if_pos h, List.getElem?_append_left h]
  · rw [if_neg h, List.getElem?_append_right (by omega)]
    by_cases e : i = xs.length
    · subst e; simp
    · rw [if_neg e, List.getElem?_eq_none (by simp; omega)]; rfl
theorem slsL_snoc {r : Nat → Option Addr} {xss : List (List Int)} {x : List Int} {a : Option Addr} : slsL (upd r xss.length a) (xss ++ [x]) = slsL r xss ++ [.slice a x.length x.length] := by
  unfold slsL
  rw [List.length_append, List.length_singleton]
  rw [slsOf_succ]
  congr 1
  · refine slsOf_congr fun i hi => ?_
    rw [getD_snoc, if_pos hi]
  · rw [getD_snoc, if_neg (by omega), if_pos rfl]
/-- Rows of their own, no two alike. -/
def OwnL (b : Nat) (H : GHeap) (e : TypeId) (r : Nat → Option Addr) (xss : List (List Int)) : Prop := OwnRows b H e r (fun i => xss.getD i []) xss.length
theorem OwnL.nil (b : Nat) (H : GHeap) (e : TypeId) (r : Nat → Option Addr) : OwnL b H e r [] := OwnRows.zero _ _ _ _ _
theorem OwnRows.congr {b : Nat} {H : GHeap} {e : TypeId} {r : Nat → Option Addr} {X Y : Nat → List Int} {k : Nat} (h : OwnRows b H e r X k) (hx : ∀ i, i < k → X i = Y i) : OwnRows b H e r Y k := ⟨fun i hi => by rw [← hx i hi]; exact h.row i hi, h.inj⟩
theorem OwnL.snoc {b g : Nat} {H H' : GHeap} {e : TypeId} {r : Nat → Option Addr} {xss : List (List Int)} {x : List Int} (h : OwnL b H e r xss) (s : Lasts e H H') (hg : H'.get g = some (.row (ints x) e true)) (hn : H.next ≤ g) (hb : b ≤ g) : OwnL b H' e (upd r xss.length (some ⟨g, 0, none⟩)) (xss ++ [x]) := by
  unfold OwnL at h ⊢
  rw [List.length_append, List.length_singleton]
  have h' : OwnRows b H e r (fun i => (xss ++ [x]).getD i []) xss.length := h.congr fun i hi => by rw [getD_snoc, if_pos hi]
  exact h'.succ' s (by rw [getD_snoc, if_neg (by omega), if_pos rfl]; exact hg) hn hb
theorem OwnL.keep {b : Nat} {H H' : GHeap} {e : TypeId} {r : Nat → Option Addr} {xss : List (List Int)} (h : OwnL b H e r xss) (s : Lasts e H H') : OwnL b H' e r xss := OwnRows.keep h s
theorem rowsOf_self (xss : List (List Int)) : rowsOf (fun i => xss.getD i []) xss.length = xss := by
  apply List.ext_getElem (by simp)
  intro i h1 h2
  simp only [rowsOf, List.getElem_map, List.getElem_range, List.getD_eq_getElem?_getD, List.getElem?_eq_getElem h2, Option.getD_some]
theorem OwnL.done {b g : Nat} {H : GHeap} {e e' : TypeId} {r : Nat → Option Addr} {xss : List (List Int)} (h : OwnL b H e r xss) (hg : H.get g = some (.row (slsL r xss) e' true)) (hb : b ≤ g) : IntssR b H (some ⟨g, 0, none⟩) xss r := by
  have := OwnRows.done (X := fun i => xss.getD i []) h hg hb
  rwa [rowsOf_self] at this
theorem OwnL.intss {b g : Nat} {H : GHeap} {e e' : TypeId} {r : Nat → Option Addr} {xss : List (List Int)} (h : OwnL b H e r xss) (hg : H.get g = some (.row (slsL r xss) e' true)) (hb : b ≤ g) : Intss H (some ⟨g, 0, none⟩) xss r := (h.done hg hb).intss
theorem IntsR.nodup {a : Option Addr} {n : Nat} : (lvBlks [(a, n)]).Nodup := by
  simp only [lvBlks, List.flatMap_cons, List.flatMap_nil, List.append_nil]
  unfold lvBlk
  split <;> simp
theorem IntsR.of_at {b : Nat} {H : GHeap} {g : Nat} {e : TypeId} {xs : List Int} (h : H.get g = some (.row (Go.GL.ints xs) e true)) (hb : b ≤ g) : IntsR b H (some ⟨g, 0, none⟩) xs := .inr ⟨g, e, rfl, hb, h⟩

/-- The rows of two nested loops, up to (k, t). -/
def nestL {α : Type} (pr : Nat → Nat → α) (sz : Nat → Nat) (k t : Nat) : List α := (List.range k).flatMap (fun a => (List.range (sz a)).map (pr a)) ++ (List.range t).map (pr k)
theorem nestL_zero {α : Type} (pr : Nat → Nat → α) (sz : Nat → Nat) : nestL pr sz 0 0 = [] := rfl
theorem nestL_snoc {α : Type} {pr : Nat → Nat → α} {sz : Nat → Nat} {k t : Nat} : nestL pr sz k (t + 1) = nestL pr sz k t ++ [pr k t] := by
  unfold nestL
  rw [List.range_succ, List.map_append, ← List.append_assoc]
  rfl
theorem nestL_next {α : Type} {pr : Nat → Nat → α} {sz : Nat → Nat} {k : Nat} : nestL pr sz (k + 1) 0 = nestL pr sz k (sz k) := by
  unfold nestL
  rw [List.range_succ, List.flatMap_append]
  simp
theorem nestL_mem {α : Type} {pr : Nat → Nat → α} {sz : Nat → Nat} {k : Nat} {x : α} (h : x ∈ nestL pr sz k 0) : ∃ a t, a < k ∧ t < sz a ∧ x = pr a t := by
  simp only [nestL, List.range_zero, List.map_nil, List.append_nil, List.mem_flatMap, List.mem_range, List.mem_map] at h
  obtain ⟨a, ha, t, ht, e⟩ := h
  exact ⟨a, t, ha, ht, e.symm⟩
theorem nestL_length {α : Type} {pr : Nat → Nat → α} {sz : Nat → Nat} {c : Nat} : ∀ {k}, (∀ a, a < k → sz a ≤ c) → (nestL pr sz k 0).length ≤ k * c
  | 0, _ => by simp [nestL]
  | k + 1, h => by
    have ih := nestL_length (pr := pr) (sz := sz) (c := c) (k := k) fun a ha => h a (by omega)
    have := h k (by omega)
    rw [nestL_next]
    simp only [nestL, List.length_append, List.length_map, List.length_range, List.range_zero, List.map_nil, List.append_nil] at ih ⊢
    rw [Nat.add_mul]
    omega
theorem nestL_le {α : Type} {pr : Nat → Nat → α} {sz : Nat → Nat} {c k t n : Nat} (h : ∀ a, a < n → sz a ≤ c) (hk : k < n) (ht : t ≤ sz k) : (nestL pr sz k t).length ≤ n * c := by
  have h1 := nestL_length (pr := pr) (sz := sz) (c := c) (k := k) fun a ha => h a (by omega)
  have h2 := h k hk
  have h3 : (k + 1) * c ≤ n * c := Nat.mul_le_mul_right _ hk
  rw [Nat.add_mul] at h3
  simp only [nestL, List.length_append, List.length_map, List.length_range, List.range_zero, List.map_nil, List.append_nil] at h1 ⊢
  omega
theorem nestL_map {α β : Type} (f : α → β) (pr : Nat → Nat → α) (sz : Nat → Nat) (k t : Nat) : (nestL pr sz k t).map f = nestL (fun a i => f (pr a i)) sz k t := by
  simp [nestL, List.map_flatMap, Function.comp_def]
/-- The rows of three nested loops, up to (k, t, u). -/
def nest3 {α : Type} (pr : Nat → Nat → Nat → α) (s1 : Nat → Nat) (s2 : Nat → Nat → Nat) (k t u : Nat) : List α := (List.range k).flatMap (fun a => nestL (pr a) (s2 a) (s1 a) 0) ++ nestL (pr k) (s2 k) t u
theorem nest3_zero {α : Type} (pr : Nat → Nat → Nat → α) (s1 : Nat → Nat) (s2 : Nat → Nat → Nat) : nest3 pr s1 s2 0 0 0 = [] := rfl
theorem nest3_snoc {α : Type} {pr : Nat → Nat → Nat → α} {s1 : Nat → Nat} {s2 : Nat → Nat → Nat} {k t u : Nat} : nest3 pr s1 s2 k t (u + 1) = nest3 pr s1 s2 k t u ++ [pr k t u] := by
  unfold nest3
  rw [nestL_snoc, List.append_assoc]
theorem nest3_next2 {α : Type} {pr : Nat → Nat → Nat → α} {s1 : Nat → Nat} {s2 : Nat → Nat → Nat} {k t : Nat} : nest3 pr s1 s2 k (t + 1) 0 = nest3 pr s1 s2 k t (s2 k t) := by
  unfold nest3
  rw [nestL_next]
theorem nest3_next1 {α : Type} {pr : Nat → Nat → Nat → α} {s1 : Nat → Nat} {s2 : Nat → Nat → Nat} {k : Nat} : nest3 pr s1 s2 (k + 1) 0 0 = nest3 pr s1 s2 k (s1 k) 0 := by
  unfold nest3
  rw [List.range_succ, List.flatMap_append]
  simp [nestL_zero]
theorem nest3_mem {α : Type} {pr : Nat → Nat → Nat → α} {s1 : Nat → Nat} {s2 : Nat → Nat → Nat} {k : Nat} {x : α} (h : x ∈ nest3 pr s1 s2 k 0 0) : ∃ a b t, a < k ∧ b < s1 a ∧ t < s2 a b ∧ x = pr a b t := by
  unfold nest3 at h
  rw [nestL_zero, List.append_nil, List.mem_flatMap] at h
  obtain ⟨a, ha, hx⟩ := h
  obtain ⟨b, t, hb, ht, e⟩ := nestL_mem hx
  exact ⟨a, b, t, List.mem_range.1 ha, hb, ht, e⟩
theorem flatMap_len {α : Type} {f : Nat → List α} {c : Nat} : ∀ {k}, (∀ a, a < k → (f a).length ≤ c) → ((List.range k).flatMap f).length ≤ k * c
  | 0, _ => by simp
  | k + 1, h => by
    have ih := flatMap_len (f := f) (c := c) (k := k) fun a ha => h a (by omega)
    have := h k (by omega)
    rw [List.range_succ, List.flatMap_append, List.length_append, Nat.add_mul]
    simp only [List.flatMap_cons, List.flatMap_nil, List.append_nil]
    omega
theorem nest3_le {α : Type} {pr : Nat → Nat → Nat → α} {s1 : Nat → Nat} {s2 : Nat → Nat → Nat} {c d k t u n : Nat} (h1 : ∀ a, a < n → s1 a ≤ d) (h2 : ∀ a, a < n → ∀ b, b < s1 a → s2 a b ≤ c) (hk : k < n) (ht : t < s1 k) (hu : u ≤ s2 k t) : (nest3 pr s1 s2 k t u).length ≤ n * (d * c) := by
  unfold nest3
  rw [List.length_append]
  have q1 := flatMap_len (f := fun a => nestL (pr a) (s2 a) (s1 a) 0) (c := d * c) (k := k) fun a ha => by
    have r1 := nestL_length (pr := pr a) (sz := s2 a) (c := c) (k := s1 a) fun b hb => h2 a (by omega) b hb
    exact Nat.le_trans r1 (Nat.mul_le_mul_right _ (h1 a (by omega)))
  have q2 := nestL_le (pr := pr k) (sz := s2 k) (c := c) (k := t) (t := u) (n := s1 k) (fun b hb => h2 k hk b hb) ht hu
  have q3 : s1 k * c ≤ d * c := Nat.mul_le_mul_right _ (h1 k hk)
  have q4 : (k + 1) * (d * c) ≤ n * (d * c) := Nat.mul_le_mul_right _ hk
  rw [Nat.add_mul] at q4
  omega
theorem nest3_all {α : Type} {pr : Nat → Nat → Nat → α} {s1 : Nat → Nat} {s2 : Nat → Nat → Nat} {c d n : Nat} (h1 : ∀ a, a < n → s1 a ≤ d) (h2 : ∀ a, a < n → ∀ b, b < s1 a → s2 a b ≤ c) : (nest3 pr s1 s2 n 0 0).length ≤ n * (d * c) := by
  unfold nest3
  rw [nestL_zero, List.append_nil]
  exact flatMap_len fun a ha => by
    have r1 := nestL_length (pr := pr a) (sz := s2 a) (c := c) (k := s1 a) fun b hb => h2 a ha b hb
    exact Nat.le_trans r1 (Nat.mul_le_mul_right _ (h1 a ha))
theorem getD_mem_list {α : Type} {xs : List α} {d : α} {i : Nat} (h : i < xs.length) : xs.getD i d ∈ xs := by
  rw [List.getD_eq_getElem?_getD, List.getElem?_eq_getElem h]
  exact List.getElem_mem h

/-! ### Categories as results. -/
def CatR (b : Nat) (H : GHeap) (c : Cat) (p : CatP) : Prop := (IntsR b H p.a1 c.src ∧ IntsR b H p.a2 c.tgt ∧ IntsR b H p.a3 c.idn ∧ IntssR b H p.a4 c.comp p.r) ∧ (lvBlks (c.leaves p)).Nodup
theorem CatR.keep {b b' : Nat} {H H' : GHeap} {c : Cat} {p : CatP} (h : CatR b H c p) (k : Keep b' H H') (hb : b' ≤ b) : CatR b' H' c p := ⟨⟨h.1.1.keep k hb, h.1.2.1.keep k hb, h.1.2.2.1.keep k hb, h.1.2.2.2.keep k hb⟩, h.2⟩
theorem CatR.inn {b : Nat} {H : GHeap} {c : Cat} {p : CatP} (h : CatR b H c p) : c.In H p := ⟨h.1.1.ints, h.1.2.1.ints, h.1.2.2.1.ints, h.1.2.2.2.intss⟩
theorem CatW.of_r {b : Nat} {H0 H : GHeap} {c : Cat} {p : CatP} (h : CatR b H0 c p) (k : Keep b H0 H) : CatW b H0.next H c p := ⟨.of_r h.1.1 k, .of_r h.1.2.1 k, .of_r h.1.2.2.1 k, .of_r h.1.2.2.2 k⟩
def Cat.zero : Cat := ⟨0, [], [], [], []⟩
def CatP.zero : CatP := ⟨none, none, none, none, fun _ => none⟩
theorem CatR.zero (b : Nat) (H : GHeap) : CatR b H .zero .zero := ⟨⟨.inl ⟨rfl, rfl⟩, .inl ⟨rfl, rfl⟩, .inl ⟨rfl, rfl⟩, .nil _ _ _⟩, by simp [Cat.leaves, Cat.zero, CatP.zero, lvBlks, lvBlk, rowsL]⟩
theorem mem_lvBlk1 {a : Option Addr} {n x : Nat} (h : x ∈ lvBlk (a, n)) : ∃ o s, a = some ⟨x, o, s⟩ := by
  unfold lvBlk at h
  split at h
  · rename_i a' m e
    cases e
    rw [List.mem_singleton] at h
    subst h
    exact ⟨_, _, rfl⟩
  · cases h
theorem lvBlk_nodup (l : Leaf) : (lvBlk l).Nodup := by unfold lvBlk; split <;> simp
/-- A category whose lists lie in rows of their own. -/
theorem CatR.mk {b : Nat} {H : GHeap} {c : Cat} {p : CatP} (h1 : IntsR b H p.a1 c.src) (h2 : IntsR b H p.a2 c.tgt) (h3 : IntsR b H p.a3 c.idn) (h4 : IntssR b H p.a4 c.comp p.r) {g1 g2 g3 : Nat} (k1 : p.a1 = none ∨ p.a1 = some ⟨g1, 0, none⟩) (k2 : p.a2 = none ∨ p.a2 = some ⟨g2, 0, none⟩) (k3 : p.a3 = none ∨ p.a3 = some ⟨g3, 0, none⟩)
    (n12 : g1 ≠ g2) (n13 : g1 ≠ g3) (n23 : g2 ≠ g3) (n4 : ∀ i, i < c.comp.length → p.r i ≠ some ⟨g1, 0, none⟩ ∧ p.r i ≠ some ⟨g2, 0, none⟩ ∧ p.r i ≠ some ⟨g3, 0, none⟩) : CatR b H c p := by
  have one : ∀ {a : Option Addr} {g n x : Nat}, (a = none ∨ a = some ⟨g, 0, none⟩) → x ∈ lvBlk (a, n) → x = g := by
    intro a g n x hk hx
    obtain ⟨o, s, e⟩ := mem_lvBlk1 hx
    rcases hk with h | h
    · rw [h] at e; cases e
    · rw [h] at e; cases e; rfl
  have rows : ∀ x ∈ lvBlks (rowsL p.r c.comp c.comp.length), x ≠ g1 ∧ x ≠ g2 ∧ x ≠ g3 := by
    intro x hx
    obtain ⟨l, hl, hxl⟩ := List.mem_flatMap.1 hx
    obtain ⟨i, hi, rfl⟩ := List.mem_map.1 hl
    have hi' := List.mem_range.1 hi
    have hlen : 0 < (c.comp.getD i []).length := by
      unfold lvBlk at hxl
      split at hxl
      · rename_i e; have := congrArg Prod.snd e; simp only at this; omega
      · cases hxl
    obtain ⟨o, s, e⟩ := mem_lvBlk1 hxl
    have hrow : ∃ g, p.r i = some ⟨g, 0, none⟩ := by
      rcases h4.1 with ⟨h, _⟩ | ⟨g, e', cs, _, _, _, _, _, h6⟩
      · rw [h] at hi'; simp at hi'
      · obtain ⟨g', _, hg', _⟩ := h6 i hi'
        exact ⟨g', hg'⟩
    obtain ⟨g, hg⟩ := hrow
    rw [hg] at e
    cases e
    obtain ⟨q1, q2, q3⟩ := n4 i hi'
    rw [hg] at q1 q2 q3
    exact ⟨fun h => q1 (by rw [h]), fun h => q2 (by rw [h]), fun h => q3 (by rw [h])⟩
  refine ⟨⟨h1, h2, h3, h4⟩, ?_⟩
  unfold Cat.leaves
  rw [lvBlks_append, lvBlks_append, lvBlks_append]
  have s1 : lvBlks [(p.a1, c.src.length)] = lvBlk (p.a1, c.src.length) := by simp [lvBlks]
  have s2 : lvBlks [(p.a2, c.tgt.length)] = lvBlk (p.a2, c.tgt.length) := by simp [lvBlks]
  have s3 : lvBlks [(p.a3, c.idn.length)] = lvBlk (p.a3, c.idn.length) := by simp [lvBlks]
  rw [s1, s2, s3]
  refine List.nodup_append.2 ⟨lvBlk_nodup _, List.nodup_append.2 ⟨lvBlk_nodup _, List.nodup_append.2 ⟨lvBlk_nodup _, h4.2, ?_⟩, ?_⟩, ?_⟩
  · intro x hx y hy hxy
    have e1 := one k3 hx
    have e2 := rows y hy
    omega
  · intro x hx y hy hxy
    have e1 := one k2 hx
    rcases List.mem_append.1 hy with hy | hy
    · have e2 := one k3 hy; omega
    · have e2 := rows y hy; omega
  · intro x hx y hy hxy
    have e1 := one k1 hx
    rcases List.mem_append.1 hy with hy | hy
    · have e2 := one k2 hy; omega
    · rcases List.mem_append.1 hy with hy | hy
      · have e2 := one k3 hy; omega
      · have e2 := rows y hy; omega
end Go.GL
/- The coend of a profunctor of a category with itself. No condition. -/
namespace Go.GL
/-- How many pairs arrow a brings. -/
def Prof.coSz (m : Prof) (a : Nat) : Nat := ((m.sz.getD (m.s.tgt.getD a 0).toNat []).getD (m.s.src.getD a 0).toNat 0).toNat
def Prof.coPr (m : Prof) (a t : Nat) : List Int := [sumN m.diag (m.s.src.getD a 0).toNat + ((m.be.getD a []).getD (m.s.src.getD a 0).toNat []).getD t 0, sumN m.diag (m.s.tgt.getD a 0).toNat + ((m.bh.getD a []).getD (m.s.tgt.getD a 0).toNat []).getD t 0]
def Prof.coL (m : Prof) (k t : Nat) : List (List Int) := nestL m.coPr m.coSz k t
def Prof.coP (m : Prof) (k t : Nat) : List (Nat × Nat) := nestL (fun a t => (pA (m.coPr a t), pB (m.coPr a t))) m.coSz k t
theorem Prof.coL_snoc {m : Prof} {k t : Nat} : m.coL k (t + 1) = m.coL k t ++ [m.coPr k t] := nestL_snoc
theorem Prof.coL_next {m : Prof} {k : Nat} : m.coL (k + 1) 0 = m.coL k (m.coSz k) := nestL_next
theorem Prof.coP_snoc {m : Prof} {k t : Nat} : m.coP k (t + 1) = m.coP k t ++ [(pA (m.coPr k t), pB (m.coPr k t))] := nestL_snoc
theorem Prof.coP_next {m : Prof} {k : Nat} : m.coP (k + 1) 0 = m.coP k (m.coSz k) := nestL_next
theorem Prof.coP_eq {m : Prof} {k t : Nat} : (m.coL k t).map (fun p => (pA p, pB p)) = m.coP k t := nestL_map _ _ _ _ _
def Prof.coend (m : Prof) : List Int := joinL (sumN m.diag m.sz.length).toNat (m.coP m.s.src.length 0)
noncomputable def Prof.coendR (m : Prof) : List Int := bif B (m.code = 0) then m.coend else []
theorem Prof.coendR_ok {m : Prof} (h : m.code = 0) : m.coendR = m.coend := by unfold Prof.coendR; rw [B_true h]; rfl
theorem Prof.coendR_not {m : Prof} (h : ¬ m.code = 0) : m.coendR = [] := by unfold Prof.coendR; rw [B_false h]; rfl
theorem sumN_mono {f : Nat → Int} (h : ∀ i, 0 ≤ f i) {a b : Nat} (hab : a ≤ b) : sumN f a ≤ sumN f b := by
  induction b with
  | zero => obtain rfl : a = 0 := by omega
            exact Int.le_refl _
  | succ b ih =>
    by_cases e : a = b + 1
    · subst e; exact Int.le_refl _
    · have := ih (by omega)
      have := h b
      simp only [sumN]
      omega
theorem sumN_le {f : Nat → Int} {N : Nat} (h : ∀ i, i < N → 0 ≤ f i) : ∀ {b a : Nat}, a ≤ b → b ≤ N → sumN f a ≤ sumN f b
  | 0, a, hab, _ => by obtain rfl : a = 0 := by omega
                       exact Int.le_refl _
  | b + 1, a, hab, hb => by
    by_cases e : a = b + 1
    · subst e; exact Int.le_refl _
    · have h1 := sumN_le h (b := b) (a := a) (by omega) (by omega)
      have := h b (by omega)
      simp only [sumN]
      omega
/-- A place lies below all places. -/
theorem Prof.place_lt {m : Prof} (z : m.Sized) (e : m.s = m.t) {x : Nat} {v : Int} (hx : x < m.sz.length) (h0 : 0 ≤ v) (h1 : v < m.diag x) : 0 ≤ sumN m.diag x + v ∧ sumN m.diag x + v < sumN m.diag m.sz.length := by
  have h2 := z.sum e (n := x) (by omega)
  have h3 := sumN_le (f := m.diag) (N := m.sz.length) (fun i hi => (z.diag e hi).2.1) (a := x + 1) (b := m.sz.length) (by omega) (Nat.le_refl _)
  simp only [sumN] at h3
  omega
/-- What the pairs of arrow a are. -/
theorem Prof.Shape.co {m : Prof} (h : m.Shape) (e : m.s = m.t) {a : Nat} (ha : a < m.s.src.length) : a < m.be.length ∧ a < m.bh.length ∧ a < m.s.tgt.length ∧ 0 ≤ m.s.src.getD a 0 ∧ m.s.src.getD a 0 < m.sz.length ∧ 0 ≤ m.s.tgt.getD a 0 ∧ m.s.tgt.getD a 0 < m.sz.length ∧
    (m.s.src.getD a 0).toNat < (m.sz.getD (m.s.tgt.getD a 0).toNat []).length ∧ 0 ≤ (m.sz.getD (m.s.tgt.getD a 0).toNat []).getD (m.s.src.getD a 0).toNat 0 ∧ (m.sz.getD (m.s.tgt.getD a 0).toNat []).getD (m.s.src.getD a 0).toNat 0 ≤ 64 ∧
    (m.s.src.getD a 0).toNat < (m.be.getD a []).length ∧ (m.s.tgt.getD a 0).toNat < (m.bh.getD a []).length ∧
    (((m.be.getD a []).getD (m.s.src.getD a 0).toNat []).length : Int) = (m.sz.getD (m.s.tgt.getD a 0).toNat []).getD (m.s.src.getD a 0).toNat 0 ∧ (((m.bh.getD a []).getD (m.s.tgt.getD a 0).toNat []).length : Int) = (m.sz.getD (m.s.tgt.getD a 0).toNat []).getD (m.s.src.getD a 0).toNat 0 ∧
    (∀ t, t < ((m.be.getD a []).getD (m.s.src.getD a 0).toNat []).length → 0 ≤ ((m.be.getD a []).getD (m.s.src.getD a 0).toNat []).getD t 0 ∧ ((m.be.getD a []).getD (m.s.src.getD a 0).toNat []).getD t 0 < m.diag (m.s.src.getD a 0).toNat) ∧
    (∀ t, t < ((m.bh.getD a []).getD (m.s.tgt.getD a 0).toNat []).length → 0 ≤ ((m.bh.getD a []).getD (m.s.tgt.getD a 0).toNat []).getD t 0 ∧ ((m.bh.getD a []).getD (m.s.tgt.getD a 0).toNat []).getD t 0 < m.diag (m.s.tgt.getD a 0).toNat) := by
  have hbl := h.z.bl
  have hhl := h.z.hl
  have e1 : m.t.src.length = m.s.src.length := by rw [e]
  have q := h.z.b h.s (a := a) (by omega)
  have hsl := h.z.sl
  have hso : m.t.obj = m.s.obj := by rw [e]
  have r1 := h.by (a := a) (y := (m.s.src.getD a 0).toNat) (by omega) (by omega)
  have r2 := h.hx (b := a) (x := (m.s.tgt.getD a 0).toNat) (by omega) (by omega)
  have e2 : m.t.src = m.s.src := by rw [e]
  have e3 : m.t.tgt = m.s.tgt := by rw [e]
  rw [e2, e3] at r2
  exact ⟨by omega, by omega, by omega, by omega, by omega, by omega, by omega, by omega, by omega, by omega, r1.1, r2.1, r1.2.2.2.1, r2.2.2.2.2.1, r1.2.2.2.2.1, r2.2.2.2.2.2.1⟩
theorem Prof.Shape.coPr {m : Prof} (h : m.Shape) (e : m.s = m.t) {a t : Nat} (ha : a < m.s.src.length) (ht : t < m.coSz a) : 2 ≤ (m.coPr a t).length ∧ 0 ≤ (m.coPr a t).getD 0 0 ∧ (m.coPr a t).getD 0 0 < sumN m.diag m.sz.length ∧ 0 ≤ (m.coPr a t).getD 1 0 ∧ (m.coPr a t).getD 1 0 < sumN m.diag m.sz.length := by
  obtain ⟨_, _, _, q4, q5, q6, q7, _, q9, _, _, _, q13, q14, q15, q16⟩ := h.co e ha
  have htt : t < ((m.be.getD a []).getD (m.s.src.getD a 0).toNat []).length := by unfold Prof.coSz at ht; omega
  have htt' : t < ((m.bh.getD a []).getD (m.s.tgt.getD a 0).toNat []).length := by unfold Prof.coSz at ht; omega
  have p1 := Prof.place_lt h.z e (x := (m.s.src.getD a 0).toNat) (by omega) (q15 t htt).1 (q15 t htt).2
  have p2 := Prof.place_lt h.z e (x := (m.s.tgt.getD a 0).toNat) (by omega) (q16 t htt').1 (q16 t htt').2
  exact ⟨Nat.le_refl _, p1.1, p1.2, p2.1, p2.2⟩
theorem Prof.coendR_len (m : Prof) : m.coendR.length ≤ 512 := by
  by_cases h : m.code = 0
  · obtain ⟨hI, he⟩ := Prof.of_code h
    rw [Prof.coendR_ok h]
    unfold Prof.coend
    rw [length_joinL]
    have b1 := hI.1.s.1.obj
    have b3 := hI.1.z.sl
    have b4 := hI.1.z.sum he (n := m.sz.length) (Nat.le_refl _)
    omega
  · rw [Prof.coendR_not h]; simp
end Go.GL
/- The components of a set functor. No condition. -/
namespace Go.GL
theorem MStep.sliceI {P : Program} {fr : Slots} {H : GHeap} {t e : TypeId} {x y z : Operand} {g n : Nat} {k k' : IntKind} {l h : Int} {cs : List Value} (ht : sliceT P t = some (e, 1)) (hx : ev fr x = some (.slice (some ⟨g, 0, none⟩) n n)) (hg : H.get g = some (.row cs e true))
    (hlo : ev fr y = some (.int k l)) (hhi : ev fr z = some (.int k' h)) (h0 : 0 ≤ l) (h1 : l ≤ h) (h2 : h ≤ n) : MStep P fr H (.slice t x (some y) (some z) none) (.slice (some ⟨g, l.toNat, none⟩) (h - l).toNat (h - l).toNat) := by
  have := MStep.slice (P := P) (fr := fr) (H := H) (lo := some y) (hi := some z) (l := l.toNat) (h := h.toNat) ht hx hg ⟨k, by rw [hlo, Int.toNat_of_nonneg h0]⟩ ⟨k', by rw [hhi, Int.toNat_of_nonneg (by omega)]⟩ (by omega) (by omega)
  rw [show (h - l).toNat = h.toNat - l.toNat by omega]
  simpa using this
def segL (xs : List Int) (l n : Nat) : List Int := (xs.drop l).take n
theorem length_segL {xs : List Int} {l n : Nat} (h : l + n ≤ xs.length) : (segL xs l n).length = n := by simp [segL]; omega
theorem segL_get {xs : List Int} {l n i : Nat} (h : i < n) : (segL xs l n).getD i 0 = xs.getD (l + i) 0 := by
  simp [segL, List.getD_eq_getElem?_getD, List.getElem?_take, h]
theorem Ints.seg {H : GHeap} {g l n : Nat} {xs : List Int} {e : TypeId} {own : Bool} (h : H.get g = some (.row (Go.GL.ints xs) e own)) (hl : l + n ≤ xs.length) : Ints H (some ⟨g, l, none⟩) (segL xs l n) :=
  .inr ⟨g, l, rfl, fun i hi => by
    rw [length_segL hl] at hi
    rw [GHeap.cell_of h, ints_get (by omega)]
    show _ = some (Value.int .i64 ((segL xs l n).getD i 0))
    rw [segL_get hi]⟩
def SFun.szF (f : SFun) (i : Nat) : Int := f.sz.getD i 0
def SFun.offs (f : SFun) (n : Nat) : List Int := (List.range n).map (sumN f.szF)
@[simp] theorem SFun.length_offs (f : SFun) (n : Nat) : (f.offs n).length = n := by simp [SFun.offs]
theorem SFun.offs_get (f : SFun) {n i : Nat} (h : i < n) : (f.offs n).getD i 0 = sumN f.szF i := by simp [SFun.offs, List.getD_eq_getElem?_getD, h]
theorem SFun.offs_succ (f : SFun) {n : Nat} : f.offs (n + 1) = f.offs n ++ [sumN f.szF n] := range_succ_map
def SFun.cpSz (f : SFun) (a : Nat) : Nat := (f.ac.getD a []).length
def SFun.cpPr (f : SFun) (a t : Nat) : List Int := [sumN f.szF (f.sh.src.getD a 0).toNat + (t : Int), sumN f.szF (f.sh.tgt.getD a 0).toNat + (f.ac.getD a []).getD t 0]
def SFun.cpL (f : SFun) (k t : Nat) : List (List Int) := nestL f.cpPr f.cpSz k t
def SFun.cpP (f : SFun) (k t : Nat) : List (Nat × Nat) := nestL (fun a t => (pA (f.cpPr a t), pB (f.cpPr a t))) f.cpSz k t
theorem SFun.cpL_snoc {m : SFun} {k t : Nat} : m.cpL k (t + 1) = m.cpL k t ++ [m.cpPr k t] := nestL_snoc
theorem SFun.cpL_next {m : SFun} {k : Nat} : m.cpL (k + 1) 0 = m.cpL k (m.cpSz k) := nestL_next
theorem SFun.cpP_snoc {m : SFun} {k t : Nat} : m.cpP k (t + 1) = m.cpP k t ++ [(pA (m.cpPr k t), pB (m.cpPr k t))] := nestL_snoc
theorem SFun.cpP_next {m : SFun} {k : Nat} : m.cpP (k + 1) 0 = m.cpP k (m.cpSz k) := nestL_next
theorem SFun.cpP_eq {m : SFun} {k t : Nat} : (m.cpL k t).map (fun p => (pA p, pB p)) = m.cpP k t := nestL_map _ _ _ _ _
theorem SFun.Shape.sum {f : SFun} (h : f.Shape) {n : Nat} (hn : n ≤ f.sz.length) : 0 ≤ sumN f.szF n ∧ sumN f.szF n ≤ n * 16 := sumN_bd (N := f.sz.length) (fun i hi => h.sz i hi) hn
/-- An element's number lies below all numbers. -/
theorem SFun.Shape.elt {f : SFun} (h : f.Shape) {x : Nat} {v : Int} (hx : x < f.sz.length) (h0 : 0 ≤ v) (h1 : v < f.sz.getD x 0) : 0 ≤ sumN f.szF x + v ∧ sumN f.szF x + v < sumN f.szF f.sz.length := by
  have h2 := h.sum (n := x) (by omega)
  have h3 := sumN_le (f := f.szF) (N := f.sz.length) (fun i hi => (h.sz i hi).1) (a := x + 1) (b := f.sz.length) (by omega) (Nat.le_refl _)
  simp only [sumN] at h3
  have e1 : f.szF x = f.sz.getD x 0 := rfl
  omega
theorem SFun.Shape.seg {f : SFun} (h : f.Shape) {x : Nat} (hx : x < f.sz.length) : 0 ≤ sumN f.szF x ∧ 0 ≤ f.sz.getD x 0 ∧ sumN f.szF x + f.sz.getD x 0 ≤ sumN f.szF f.sz.length := by
  have h2 := h.sum (n := x) (by omega)
  have h4 := h.sz x hx
  have h3 := sumN_le (f := f.szF) (N := f.sz.length) (fun i hi => (h.sz i hi).1) (a := x + 1) (b := f.sz.length) (by omega) (Nat.le_refl _)
  simp only [sumN] at h3
  have e1 : f.szF x = f.sz.getD x 0 := rfl
  omega
theorem SFun.Shape.cpPr {f : SFun} (h : f.Shape) {a t : Nat} (ha : a < f.ac.length) (ht : t < f.cpSz a) : 2 ≤ (f.cpPr a t).length ∧ 0 ≤ (f.cpPr a t).getD 0 0 ∧ (f.cpPr a t).getD 0 0 < sumN f.szF f.sz.length ∧ 0 ≤ (f.cpPr a t).getD 1 0 ∧ (f.cpPr a t).getD 1 0 < sumN f.szF f.sz.length := by
  have ha' : a < f.sh.src.length := by have := h.al; omega
  obtain ⟨q1, q2, q3, q4, q5⟩ := h.ends ha'
  have q6 := h.act ha (e := t) ht
  have ht' : t < (f.ac.getD a []).length := ht
  have p1 := h.elt (x := (f.sh.src.getD a 0).toNat) (v := (t : Int)) (by omega) (by omega) (by omega)
  have p2 := h.elt (x := (f.sh.tgt.getD a 0).toNat) (by omega) q6.1 q6.2
  exact ⟨Nat.le_refl _, p1.1, p1.2, p2.1, p2.2⟩
def SFun.comps (f : SFun) : List Int := joinL (sumN f.szF f.sz.length).toNat (f.cpP f.ac.length 0)
def SFun.compX (f : SFun) (x : Nat) : List Int := segL f.comps (sumN f.szF x).toNat (f.sz.getD x 0).toNat
noncomputable def SFun.compR (f : SFun) : List (List Int) := bif B f.Is then rowsOf f.compX f.sz.length else []
noncomputable def SFun.compN (f : SFun) : Int := bif B f.Is then topL f.comps else 0
noncomputable def SFun.compC (f : SFun) : Int := bif B f.Is then 0 else 1
theorem SFun.comp_ok {f : SFun} (h : f.Is) : f.compR = rowsOf f.compX f.sz.length ∧ f.compN = topL f.comps ∧ f.compC = 0 := by unfold SFun.compR SFun.compN SFun.compC; rw [B_true h]; exact ⟨rfl, rfl, rfl⟩
theorem SFun.comp_not {f : SFun} (h : ¬ f.Is) : f.compR = [] ∧ f.compN = 0 ∧ f.compC = 1 := by unfold SFun.compR SFun.compN SFun.compC; rw [B_false h]; exact ⟨rfl, rfl, rfl⟩
theorem SFun.comps_len {f : SFun} (h : f.Shape) : (f.comps.length : Int) = sumN f.szF f.sz.length ∧ f.comps.length ≤ 128 := by
  unfold SFun.comps
  rw [length_joinL]
  have b1 := h.c.1.obj
  have b2 := h.zl
  have b3 := h.sum (n := f.sz.length) (Nat.le_refl _)
  omega
theorem SFun.compR_small (f : SFun) : f.compR.length ≤ 1048576 ∧ ∀ i, (f.compR.getD i []).length ≤ 1048576 := by
  by_cases h : f.Is
  · rw [(SFun.comp_ok h).1]
    have b1 := h.1.c.1.obj
    have b2 := h.1.zl
    have b3 := (SFun.comps_len h.1).2
    refine ⟨by rw [length_rowsOf]; omega, fun i => ?_⟩
    by_cases hi : i < f.sz.length
    · rw [rowsOf_get hi]
      unfold SFun.compX segL
      simp only [List.length_take, List.length_drop]
      omega
    · rw [List.getD_eq_getElem?_getD, List.getElem?_eq_none (by rw [length_rowsOf]; omega)]
      simp
  · rw [(SFun.comp_not h).1]; exact ⟨by simp, fun i => by simp⟩
theorem SFun.comps_bd {f : SFun} : ∀ i, i < f.comps.length → -1 ≤ f.comps.getD i 0 ∧ f.comps.getD i 0 ≤ (i : Int) := fun i hi => by
  unfold SFun.comps joinL at hi ⊢
  rw [length_clsL] at hi
  have := clsL_range (K := joinK (f.cpP f.ac.length 0)) hi
  omega
end Go.GL
/- The components of a set functor. No condition but those of each statement. -/
namespace Go.Proofs.Ytkcpjflhjghapaa
open Go Go.GL Go.RowKit Go.Proofs
theorem l01OwnN_c {a : Option Addr} {n : Nat} {xs : List Int} {H : GHeap} (h : Ints H a xs) (hn : xs.length = n) (hl : n ≤ 1048576 := by omega) :
    GCalls Try.prog 57 [.slice a n n] H (NewInts 2 H xs) := by
  subst hn
  exact l01Own_c h hl
theorem cloneN_c {a : Option Addr} {n : Nat} {xs : List Int} {H : GHeap} (h : Ints H a xs) (hn : xs.length = n) (hl : n ≤ 1048576 := by omega) :
    GCalls Try.prog 62 [.slice a n n] H (NewInts 2 H xs) := by
  subst hn
  exact clone_c h hl
theorem classesN_c {a : Option Addr} {n : Nat} {xs : List Int} {H : GHeap} (hn : xs.length = n) (h : Ints H a xs) (hl : n ≤ 1048576) (hb : ∀ i, i < xs.length → -1 ≤ xs.getD i 0 ∧ xs.getD i 0 ≤ 1048576) :
    GCalls Try.prog 63 [.slice a n n] H (Ret (.int .i64 (topL xs)) H) := by
  subst hn
  exact classes_c h hl hb
theorem elements_c {g o : Nat} {f : SFun} {p : SFunP} {H : GHeap} (h : SFun.At H g o f p := by assumption) (hS : f.Shape := by assumption) (hn : f.sz.length ≤ 8 := by omega) :
    GCalls Try.prog 61 [.pointer (some ⟨g, o, none⟩)] H (Ret (.int .i64 (sumN f.szF f.sz.length)) H) := by
  refine GCalls.body (N := 20) (rs := [.tmp 2]) Try.func61 rfl rfl rfl rfl (fun Qx hret hend => ?_)
  refine .forget (fr' := [(0, some _)]) ⟨rfl, trivial⟩ ?_
  have hle := GHeap.Le.refl H
  have base_h := h
  obtain ⟨fsh, c5, c6, i1, i2⟩ := h.get
  have hm : MemN _ _ _ _ _ := ⟨rfl, h.1⟩
  have hi := h.2
  have hmsh : MemN _ _ _ _ _ := ⟨rfl, fsh.1⟩
  have hish := fsh.2
  refine .seq (fun K1 hK1 => ?_)
  refine .region ?_
  refine .m rfl rfl rfl (.assign rfl) ?_
  refine .nil ?_
  refine hK1 _ _ ?_
  refine .seq (fun K2 hK2 => ?_)
  refine .region ?_
  refine .m rfl rfl rfl (.assign rfl) ?_
  refine .nil ?_
  refine hK2 _ _ ?_
  refine .seq (fun K3 hK3 => ?_)
  refine .seq (fun K4 hK4 => ?_)
  refine .region ?_
  refine .m rfl rfl rfl (.move rfl) ?_
  refine .m rfl rfl rfl (.nilCheck rfl) ?_
  refine .m rfl rfl rfl (.fieldAddr fo_47_1_P rfl) ?_
  refine .m rfl rfl rfl (.load on_22_B rfl (by assumption)) ?_
  refine .m rfl rfl rfl (.len sl_22_A rfl) ?_
  refine .m rfl rfl rfl (.move rfl) ?_
  refine .nil ?_
  refine hK4 _ _ ?_
  refine .block ?_
  refine .loopR (σ := Nat × Int) [(9, some _), (10, some _)] (fun (k, v) => [(11, some (.int .i64 (k : Int))), (3, some (.int .i64 v))]) (fun (k, v) H' => H = H' ∧ k ≤ f.sz.length ∧ v = sumN f.szF k) (fun (k, v) => f.sz.length - k) ((0, 0)) ⟨rfl, rfl, trivial⟩ ⟨rfl, rfl, trivial⟩ ?_ ?_
  ·
   refine ⟨rfl, ?_⟩
   exact ⟨by omega, rfl⟩
  ·
   rintro ⟨k, v⟩ _ ⟨rfl, hI⟩ KL1 hKL1
   refine .forget (fr' := [(11, some (.int .i64 (k : Int))), (3, some (.int .i64 v)), (9, some _), (10, some _)]) ⟨rfl, rfl, rfl, rfl, trivial⟩ ?_
   obtain ⟨hk, hv⟩ := hI
   have sb := hS.sum (n := k) (by omega)
   refine .seq (fun K5 hK5 => ?_)
   refine .region ?_
   refine .m rfl rfl rfl (.cmp rfl rfl rfl) ?_
   refine .nil ?_
   refine hK5 _ _ ?_
   refine .seq (fun K6 hK6 => ?_)
   refine .cond rfl (fun h12 => ?_) (fun h12 => ?_)
   ·
    simp only [sps] at h12
    have r2 := hS.sz k (by omega)
    refine .skip ?_
    refine hK6 _ _ ?_
    refine .seq (fun K7 hK7 => ?_)
    refine .block ?_
    refine .seq (fun K8 hK8 => ?_)
    refine .region ?_
    refine .m rfl rfl rfl (.idxN sl_22_A (by assumption) rfl rfl (by omega)) ?_
    refine .m rfl rfl rfl (.loadI on_2_A (by assumption) rfl (by omega)) ?_
    refine .m rfl rfl rfl (.assign rfl) ?_
    refine .nil ?_
    refine hK8 _ _ ?_
    refine .region ?_
    refine .m rfl rfl rfl (.move rfl) ?_
    refine .m rfl rfl rfl (.move rfl) ?_
    refine .m rfl rfl rfl (.add rfl rfl rfl (by omega) (by omega)) ?_
    refine .m rfl rfl rfl (.assign rfl) ?_
    refine .nil ?_
    refine hK7 _ _ ?_
    refine .region ?_
    refine .m rfl rfl rfl (.add rfl rfl rfl (by omega) (by omega)) ?_
    refine .m rfl rfl rfl (.move rfl) ?_
    refine .nil ?_
    refine hKL1 ((k + 1, v + f.sz.getD k 0)) _ _ ?_ ?_ ⟨rfl, rfl, rfl, rfl, trivial⟩
    ·
     refine ⟨rfl, ?_⟩
     exact ⟨by omega, by rw [hv]; rfl⟩
    ·
     (dsimp only; omega)
   ·
    try simp only [sps] at h12
    refine .exit ?_
    refine hK3 _ _ ?_
    refine .seq (fun K9 hK9 => ?_)
    refine .region ?_
    refine .m rfl rfl rfl (.move rfl) ?_
    refine .m rfl rfl rfl (.assign rfl) ?_
    refine .nil ?_
    refine hK9 _ _ ?_
    refine .ret ?_
    -- leaf e1
    refine hret _ _ ?_
    refine ⟨_, rfl, ?_⟩
    obtain rfl : k = f.sz.length := by omega
    exact .of (by rw [hv])
theorem offsets_c {g o : Nat} {f : SFun} {p : SFunP} {H : GHeap} (h : SFun.At H g o f p := by assumption) (hS : f.Shape := by assumption) (hn : f.sz.length ≤ 8 := by omega) :
    GCalls Try.prog 60 [.pointer (some ⟨g, o, none⟩)] H (NewInts 2 H (f.offs f.sz.length)) := by
  refine GCalls.body (N := 26) (rs := [.tmp 2]) Try.func60 rfl rfl rfl rfl (fun Qx hret hend => ?_)
  refine .forget (fr' := [(0, some _)]) ⟨rfl, trivial⟩ ?_
  have hle := GHeap.Le.refl H
  have base_h := h
  obtain ⟨fsh, c5, c6, i1, i2⟩ := h.get
  have hm : MemN _ _ _ _ _ := ⟨rfl, h.1⟩
  have hi := h.2
  have hmsh : MemN _ _ _ _ _ := ⟨rfl, fsh.1⟩
  have hish := fsh.2
  refine .seq (fun K1 hK1 => ?_)
  refine .region ?_
  refine .m rfl rfl rfl (.assign rfl) ?_
  refine .nil ?_
  refine hK1 _ _ ?_
  refine .seq (fun K2 hK2 => ?_)
  refine .region ?_
  refine .r rfl rfl rfl (.litR rfl sl_22_A ze_2_E rfl rfl (by omega) (by omega) rfl rfl) ?_
  rintro _ H7 ⟨g7, rfl, le7, ge7, at7⟩
  have nx_H7 := le7.1
  replace hle := hle.trans le7
  have lt_at7 := GHeap.lt_of_get at7
  replace h := base_h.mono hle
  clear fsh c5 c6 i1 i2 hm hi hmsh hish
  obtain ⟨fsh, c5, c6, i1, i2⟩ := h.get
  have hm : MemN _ _ _ _ _ := ⟨rfl, h.1⟩
  have hi := h.2
  have hmsh : MemN _ _ _ _ _ := ⟨rfl, fsh.1⟩
  have hish := fsh.2
  replace at7 : GHeap.get H7 g7 = some (.row (ints []) 2 true) := at7
  refine .m rfl rfl rfl (.assign rfl) ?_
  refine .nil ?_
  refine hK2 _ _ ?_
  refine .seq (fun K3 hK3 => ?_)
  refine .region ?_
  refine .m rfl rfl rfl (.assign rfl) ?_
  refine .nil ?_
  refine hK3 _ _ ?_
  refine .seq (fun K4 hK4 => ?_)
  refine .seq (fun K5 hK5 => ?_)
  refine .region ?_
  refine .m rfl rfl rfl (.move rfl) ?_
  refine .m rfl rfl rfl (.nilCheck rfl) ?_
  refine .m rfl rfl rfl (.fieldAddr fo_47_1_P rfl) ?_
  refine .m rfl rfl rfl (.load on_22_B rfl (by assumption)) ?_
  refine .m rfl rfl rfl (.len sl_22_A rfl) ?_
  refine .m rfl rfl rfl (.move rfl) ?_
  refine .nil ?_
  refine hK5 _ _ ?_
  refine .block ?_
  refine .loopR (σ := Nat × Int × Nat × Nat) [(11, some _), (12, some _)] (fun (k, v, gL3, nL3) => [(13, some (.int .i64 (k : Int))), (4, some (.int .i64 v)), (3, some (.slice (some ⟨gL3, 0, none⟩) nL3 nL3))]) (fun (k, v, gL3, nL3) H' => St [g7] H7 H' ∧ H'.get gL3 = some (.row (ints (f.offs k)) 2 true) ∧ (gL3 = g7 ∨ H7.next ≤ gL3) ∧ nL3 = (f.offs k).length ∧ k ≤ f.sz.length ∧ v = sumN f.szF k) (fun (k, v, gL3, nL3) => f.sz.length - k) ((0, 0, _, _)) ⟨rfl, rfl, trivial⟩ ⟨rfl, rfl, rfl, trivial⟩ ?_ ?_
  ·
   refine ⟨.refl _ _, by first | assumption | exact at7 | simpa using at7, .inl rfl, by first | rfl | assumption | simp | omega, ?_⟩
   exact ⟨by omega, rfl⟩
  ·
   rintro ⟨k, v, gL3, nL3⟩ HL1 ⟨lst1, at_L3, pl_L3, ln_L3, hI⟩ KL1 hKL1
   refine .forget (fr' := [(13, some (.int .i64 (k : Int))), (4, some (.int .i64 v)), (3, some (.slice (some ⟨gL3, 0, none⟩) nL3 nL3)), (11, some _), (12, some _)]) ⟨rfl, rfl, rfl, rfl, rfl, trivial⟩ ?_
   have ge_L3 : H.next ≤ gL3 := by omega
   have nx_HL1 := lst1.nx
   replace hle := hle.st lst1 (fun k hk => ⟨by omega, trivial⟩)
   have lt_at_L3 := GHeap.lt_of_get at_L3
   replace h := base_h.mono hle
   clear fsh c5 c6 i1 i2 hm hi hmsh hish
   obtain ⟨fsh, c5, c6, i1, i2⟩ := h.get
   have hm : MemN _ _ _ _ _ := ⟨rfl, h.1⟩
   have hi := h.2
   have hmsh : MemN _ _ _ _ _ := ⟨rfl, fsh.1⟩
   have hish := fsh.2
   obtain ⟨hk, rfl⟩ := hI
   have sb := hS.sum (n := k) (by omega)
   have hfl := f.length_offs k
   refine .seq (fun K6 hK6 => ?_)
   refine .region ?_
   refine .m rfl rfl rfl (.cmp rfl rfl rfl) ?_
   refine .nil ?_
   refine hK6 _ _ ?_
   refine .seq (fun K7 hK7 => ?_)
   refine .cond rfl (fun h14 => ?_) (fun h14 => ?_)
   ·
    simp only [sps] at h14
    have r2 := hS.sz k (by omega)
    refine .skip ?_
    refine hK7 _ _ ?_
    refine .seq (fun K8 hK8 => ?_)
    refine .block ?_
    refine .seq (fun K9 hK9 => ?_)
    refine .region ?_
    refine .m rfl rfl rfl (.idxN sl_22_A (by assumption) rfl rfl (by omega)) ?_
    refine .m rfl rfl rfl (.loadI on_2_A (by assumption) rfl (by omega)) ?_
    refine .m rfl rfl rfl (.assign rfl) ?_
    refine .nil ?_
    refine hK9 _ _ ?_
    refine .seq (fun K10 hK10 => ?_)
    refine .region ?_
    refine .m rfl rfl rfl (.move rfl) ?_
    refine .m rfl rfl rfl (.move rfl) ?_
    refine .r rfl rfl rfl (.litR rfl sl_22_A ze_2_E rfl rfl (by omega) (by omega) rfl rfl) ?_
    rintro _ H19 ⟨g19, rfl, le19, ge19, at19⟩
    have nx_H19 := le19.1
    replace hle := hle.trans le19
    replace lst1 := lst1.le le19
    replace at_L3 := le19.2 _ _ at_L3
    have lt_at19 := GHeap.lt_of_get at19
    replace h := base_h.mono hle
    clear fsh c5 c6 i1 i2 hm hi hmsh hish
    obtain ⟨fsh, c5, c6, i1, i2⟩ := h.get
    have hm : MemN _ _ _ _ _ := ⟨rfl, h.1⟩
    have hi := h.2
    have hmsh : MemN _ _ _ _ _ := ⟨rfl, fsh.1⟩
    have hish := fsh.2
    refine .r rfl rfl rfl (.appendI rfl sl_22_A ze_2_E rfl by_2_E sl_22_A rfl rfl (by assumption) (by assumption) (by first | omega | (simp <;> omega)) (by omega) (by omega)) ?_
    rintro _ H20 ⟨g20, rfl, st20, ge20, at20⟩
    have nx_H20 := st20.nx
    replace hle := hle.st st20 (fun k hk => ⟨by omega, trivial⟩)
    replace lst1 := lst1.st st20 (fun k hk ho => by simp only [out, and_true] at ho ⊢ <;> omega)
    replace at19 := st20.same _ _ ⟨by omega, trivial⟩ at19
    have lt_at20 := GHeap.lt_of_get at20
    replace h := base_h.mono hle
    clear fsh c5 c6 i1 i2 hm hi hmsh hish
    obtain ⟨fsh, c5, c6, i1, i2⟩ := h.get
    have hm : MemN _ _ _ _ _ := ⟨rfl, h.1⟩
    have hi := h.2
    have hmsh : MemN _ _ _ _ _ := ⟨rfl, fsh.1⟩
    have hish := fsh.2
    refine .m rfl rfl rfl (.assign rfl) ?_
    refine .nil ?_
    refine hK10 _ _ ?_
    refine .region ?_
    refine .m rfl rfl rfl (.move rfl) ?_
    refine .m rfl rfl rfl (.move rfl) ?_
    refine .m rfl rfl rfl (.add rfl rfl rfl (by omega) (by omega)) ?_
    refine .m rfl rfl rfl (.assign rfl) ?_
    refine .nil ?_
    refine hK8 _ _ ?_
    refine .region ?_
    refine .m rfl rfl rfl (.add rfl rfl rfl (by omega) (by omega)) ?_
    refine .m rfl rfl rfl (.move rfl) ?_
    refine .nil ?_
    refine hKL1 ((k + 1, sumN f.szF k + f.sz.getD k 0, _, _)) _ _ ?_ ?_ ⟨rfl, rfl, rfl, rfl, rfl, trivial⟩
    ·
     refine ⟨lst1, by first | assumption | (rw [f.offs_succ]; assumption), by omega, by first | omega | (simp only [List.length_append, List.length_cons, List.length_nil] <;> omega) | (rw [f.offs_succ] <;> (first | omega | (simp only [List.length_append, List.length_cons, List.length_nil] <;> omega))), ?_⟩
     exact ⟨by omega, rfl⟩
    ·
     (dsimp only; omega)
   ·
    try simp only [sps] at h14
    refine .exit ?_
    refine hK4 _ _ ?_
    refine .seq (fun K11 hK11 => ?_)
    refine .region ?_
    refine .m rfl rfl rfl (.move rfl) ?_
    refine .m rfl rfl rfl (.assign rfl) ?_
    refine .nil ?_
    refine hK11 _ _ ?_
    refine .ret ?_
    -- leaf e1
    refine hret _ _ ?_
    refine ⟨_, rfl, ?_⟩
    obtain rfl : k = f.sz.length := by omega
    exact ⟨hle, _, by rw [ln_L3], at_L3, by omega⟩
set_option maxHeartbeats 4000000 in
theorem components_c {g o : Nat} {f : SFun} {p : SFunP} {H : GHeap} (h : SFun.At H g o f p := by assumption) (hS : f.Shape := by assumption) :
    GCalls Try.prog 45 [.pointer (some ⟨g, o, none⟩)] H (fun v H' => H.Le H' ∧ ∃ a r, v = .tuple #[.slice a (rowsOf f.compX f.sz.length).length (rowsOf f.compX f.sz.length).length, .int .i64 (topL f.comps)] ∧ IntssR H.next H' a (rowsOf f.compX f.sz.length) r) := by
  have b1 := hS.c.1.obj
  have b2 := hS.zl
  have b3 := hS.sum (n := f.sz.length) (Nat.le_refl _)
  have b4 := hS.al
  have b5 := hS.c.1.tl
  have b6 := hS.c.1.n40
  have hn : f.sz.length ≤ 8 := by omega
  have hof := f.length_offs f.sz.length
  refine GCalls.body (N := 99) (rs := [.tmp 2, .tmp 3]) Try.func45 rfl rfl rfl rfl (fun Qx hret hend => ?_)
  refine .forget (fr' := [(0, some _)]) ⟨rfl, trivial⟩ ?_
  have hle := GHeap.Le.refl H
  have base_h := h
  obtain ⟨fsh, c5, c6, i1, i2⟩ := h.get
  have hm : MemN _ _ _ _ _ := ⟨rfl, h.1⟩
  have hi := h.2
  have hmsh : MemN _ _ _ _ _ := ⟨rfl, fsh.1⟩
  have hish := fsh.2
  obtain ⟨d0, d1, d2, d3, d4, d5, d6, d7, d8⟩ := fsh.get
  refine .seq (fun K1 hK1 => ?_)
  refine .region ?_
  refine .m rfl rfl rfl (.assign rfl) ?_
  refine .m rfl rfl rfl (.assign rfl) ?_
  refine .nil ?_
  refine hK1 _ _ ?_
  refine .seq (fun K2 hK2 => ?_)
  refine .region ?_
  refine .m rfl rfl rfl (.move rfl) ?_
  refine .call rfl rfl rfl rfl @Try.call60 rfl (offsets_c h) ?_
  rintro _ H15 ⟨le15, g15, rfl, at15, ge15⟩
  have nx_H15 := le15.1
  replace hle := hle.trans le15
  have lt_at15 := GHeap.lt_of_get at15
  replace h := base_h.mono hle
  clear fsh c5 c6 i1 i2 hm hi hmsh hish d0 d1 d2 d3 d4 d5 d6 d7 d8
  obtain ⟨fsh, c5, c6, i1, i2⟩ := h.get
  have hm : MemN _ _ _ _ _ := ⟨rfl, h.1⟩
  have hi := h.2
  have hmsh : MemN _ _ _ _ _ := ⟨rfl, fsh.1⟩
  have hish := fsh.2
  obtain ⟨d0, d1, d2, d3, d4, d5, d6, d7, d8⟩ := fsh.get
  have i15 := Ints.of_get at15
  refine .m rfl rfl rfl (.assign rfl) ?_
  refine .nil ?_
  refine hK2 _ _ ?_
  refine .seq (fun K3 hK3 => ?_)
  refine .region ?_
  refine .m rfl rfl rfl (.move rfl) ?_
  refine .callQ rfl rfl rfl rfl @Try.call61 rfl (elements_c h) ?_
  refine .call rfl rfl rfl rfl @Try.call33 rfl (joinerOf_c) ?_
  rintro _ H18 ⟨le18, g18, rfl, at18, ge18⟩
  have nx_H18 := le18.1
  replace hle := hle.trans le18
  replace at15 := le18.2 _ _ at15
  have lt_at18 := GHeap.lt_of_get at18
  replace h := base_h.mono hle
  clear fsh c5 c6 i1 i2 hm hi hmsh hish d0 d1 d2 d3 d4 d5 d6 d7 d8
  obtain ⟨fsh, c5, c6, i1, i2⟩ := h.get
  have hm : MemN _ _ _ _ _ := ⟨rfl, h.1⟩
  have hi := h.2
  have hmsh : MemN _ _ _ _ _ := ⟨rfl, fsh.1⟩
  have hish := fsh.2
  obtain ⟨d0, d1, d2, d3, d4, d5, d6, d7, d8⟩ := fsh.get
  clear i15
  have i15 := Ints.of_get at15
  have i18 := Ints.of_get at18
  refine .m rfl rfl rfl (.assign rfl) ?_
  refine .nil ?_
  refine hK3 _ _ ?_
  refine .seq (fun K4 hK4 => ?_)
  refine .seq (fun K5 hK5 => ?_)
  refine .region ?_
  refine .m rfl rfl rfl (.move rfl) ?_
  refine .m rfl rfl rfl (.nilCheck rfl) ?_
  refine .m rfl rfl rfl (.fieldAddr fo_47_2_P rfl) ?_
  refine .m rfl rfl rfl (.load on_23_B rfl (by assumption)) ?_
  refine .m rfl rfl rfl (.len sl_23_B rfl) ?_
  refine .m rfl rfl rfl (.move rfl) ?_
  refine .nil ?_
  refine hK5 _ _ ?_
  refine .block ?_
  have hnl : (numsL (sumN f.szF f.sz.length).toNat).length = (sumN f.szF f.sz.length).toNat := length_numsL _
  refine .loopR (σ := Nat × List Int) [(0, some _), (4, some _), (5, some _), (22, some _), (23, some _)] (fun (k, js) => [(24, some (.int .i64 (k : Int)))]) (fun (k, js) H' => St [g18] H18 H' ∧ H'.get g18 = some (.row (ints js) 2 true) ∧ k ≤ f.ac.length ∧ RootK js (joinK (f.cpP k 0)) (numsL (sumN f.szF f.sz.length).toNat).length) (fun (k, js) => f.ac.length - k) ((0, numsL (sumN f.szF f.sz.length).toNat)) ⟨rfl, rfl, rfl, rfl, rfl, trivial⟩ ⟨rfl, trivial⟩ ?_ ?_
  ·
   refine ⟨.refl _ _, by first | assumption | exact at18 | simpa using at18, ?_⟩
   exact ⟨by omega, RootK.start rfl fun i hi => numsL_get (by omega)⟩
  ·
   rintro ⟨k, js⟩ HL1 ⟨lst1, at_L5, hI⟩ KL1 hKL1
   refine .forget (fr' := [(24, some (.int .i64 (k : Int))), (0, some _), (4, some _), (5, some _), (22, some _), (23, some _)]) ⟨rfl, rfl, rfl, rfl, rfl, rfl, trivial⟩ ?_
   have nx_HL1 := lst1.nx
   replace hle := hle.st lst1 (fun k hk => ⟨by omega, trivial⟩)
   replace at15 := lst1.same _ _ ⟨by omega, trivial⟩ at15
   have lt_at_L5 := GHeap.lt_of_get at_L5
   replace h := base_h.mono hle
   clear fsh c5 c6 i1 i2 hm hi hmsh hish d0 d1 d2 d3 d4 d5 d6 d7 d8
   obtain ⟨fsh, c5, c6, i1, i2⟩ := h.get
   have hm : MemN _ _ _ _ _ := ⟨rfl, h.1⟩
   have hi := h.2
   have hmsh : MemN _ _ _ _ _ := ⟨rfl, fsh.1⟩
   have hish := fsh.2
   obtain ⟨d0, d1, d2, d3, d4, d5, d6, d7, d8⟩ := fsh.get
   clear i15
   have i15 := Ints.of_get at15
   clear i18
   have i18 := Ints.of_get at18
   obtain ⟨hk, hK⟩ := hI
   refine .seq (fun K6 hK6 => ?_)
   refine .region ?_
   refine .m rfl rfl rfl (.cmp rfl rfl rfl) ?_
   refine .nil ?_
   refine hK6 _ _ ?_
   refine .seq (fun K7 hK7 => ?_)
   refine .cond rfl (fun h25 => ?_) (fun h25 => ?_)
   ·
    simp only [sps] at h25
    have hen := hS.ends (a := k) (by omega)
    have hz1 := hS.sz (f.sh.src.getD k 0).toNat (by omega)
    have u1 := i2.2 k (by omega)
    refine .skip ?_
    refine hK7 _ _ ?_
    refine .seq (fun K8 hK8 => ?_)
    refine .block ?_
    refine .seq (fun K9 hK9 => ?_)
    refine .region ?_
    refine .m rfl rfl rfl (.move rfl) ?_
    refine .m rfl rfl rfl (.idxN sl_23_B (Intss.sl (by assumption)) rfl rfl (by omega)) ?_
    refine .m rfl rfl rfl (.loadR on_22_B (by assumption) rfl (by omega)) ?_
    refine .m rfl rfl rfl (.assign rfl) ?_
    refine .m rfl rfl rfl (.assign rfl) ?_
    refine .nil ?_
    refine hK9 _ _ ?_
    refine .seq (fun K10 hK10 => ?_)
    refine .region ?_
    refine .m rfl rfl rfl (.move rfl) ?_
    refine .m rfl rfl rfl (.len sl_22_A rfl) ?_
    refine .m rfl rfl rfl (.move rfl) ?_
    refine .nil ?_
    refine hK10 _ _ ?_
    refine .block ?_
    refine .loopR (σ := Nat × List Int) [(0, some _), (4, some _), (5, some _), (6, some _), (22, some _), (23, some _), (24, some _), (29, some _), (30, some _)] (fun (t, ks) => [(31, some (.int .i64 (t : Int)))]) (fun (t, ks) H' => St [g18] HL1 H' ∧ H'.get g18 = some (.row (ints ks) 2 true) ∧ t ≤ (f.ac.getD k []).length ∧ RootK ks (joinK (f.cpP k t)) (numsL (sumN f.szF f.sz.length).toNat).length) (fun (t, ks) => (f.ac.getD k []).length - t) ((0, js)) ⟨rfl, rfl, rfl, rfl, rfl, rfl, rfl, rfl, rfl, trivial⟩ ⟨rfl, trivial⟩ ?_ ?_
    ·
     refine ⟨.refl _ _, by first | assumption | exact at_L5 | simpa using at_L5, ?_⟩
     exact ⟨by omega, hK⟩
    ·
     rintro ⟨t, ks⟩ HL2 ⟨lst2, at_L5, hI⟩ KL2 hKL2
     refine .forget (fr' := [(31, some (.int .i64 (t : Int))), (0, some _), (4, some _), (5, some _), (6, some _), (22, some _), (23, some _), (24, some _), (29, some _), (30, some _)]) ⟨rfl, rfl, rfl, rfl, rfl, rfl, rfl, rfl, rfl, rfl, trivial⟩ ?_
     have nx_HL2 := lst2.nx
     replace hle := hle.st lst2 (fun k hk => ⟨by omega, trivial⟩)
     replace lst1 := lst1.st lst2 (fun k hk ho => by simp only [out, and_true] at ho ⊢ <;> omega)
     replace at15 := lst2.same _ _ ⟨by omega, trivial⟩ at15
     have lt_at_L5 := GHeap.lt_of_get at_L5
     replace h := base_h.mono hle
     clear fsh c5 c6 i1 i2 hm hi hmsh hish d0 d1 d2 d3 d4 d5 d6 d7 d8
     obtain ⟨fsh, c5, c6, i1, i2⟩ := h.get
     have hm : MemN _ _ _ _ _ := ⟨rfl, h.1⟩
     have hi := h.2
     have hmsh : MemN _ _ _ _ _ := ⟨rfl, fsh.1⟩
     have hish := fsh.2
     obtain ⟨d0, d1, d2, d3, d4, d5, d6, d7, d8⟩ := fsh.get
     clear i15
     have i15 := Ints.of_get at15
     clear i18
     have i18 := Ints.of_get at18
     clear u1
     have u1 := i2.2 k (by omega)
     obtain ⟨ht, hK⟩ := hI
     refine .seq (fun K11 hK11 => ?_)
     refine .region ?_
     refine .m rfl rfl rfl (.cmp rfl rfl rfl) ?_
     refine .nil ?_
     refine hK11 _ _ ?_
     refine .seq (fun K12 hK12 => ?_)
     refine .cond rfl (fun h32 => ?_) (fun h32 => ?_)
     ·
      simp only [sps] at h32
      have q1 := hS.act (a := k) (by omega) (e := t) (by omega)
      have q21 := hS.elt (x := (f.sh.src.getD k 0).toNat) (v := (t : Int)) (by omega) (by omega) (by omega)
      have q24 := hS.elt (x := (f.sh.tgt.getD k 0).toNat) (by omega) q1.1 q1.2
      have q22 := f.offs_get (n := f.sz.length) (i := (f.sh.src.getD k 0).toNat) (by omega)
      have q23 := f.offs_get (n := f.sz.length) (i := (f.sh.tgt.getD k 0).toNat) (by omega)
      refine .skip ?_
      refine hK12 _ _ ?_
      refine .seq (fun K13 hK13 => ?_)
      refine .block ?_
      refine .seq (fun K14 hK14 => ?_)
      refine .region ?_
      refine .m rfl rfl rfl (.move rfl) ?_
      refine .m rfl rfl rfl (.idxN sl_22_A (by assumption) rfl rfl (by omega)) ?_
      refine .m rfl rfl rfl (.loadI on_2_A (by assumption) rfl (by omega)) ?_
      refine .m rfl rfl rfl (.assign rfl) ?_
      refine .m rfl rfl rfl (.assign rfl) ?_
      refine .nil ?_
      refine hK14 _ _ ?_
      refine .regionD mixed_orders_B (.q 0 (.q 1 (.q 2 (.q 3 (.q 4 (.q 5 (.q 6 (.q 7 (.q 8 (.q 9 (.q 10 (.q 11 (.q 12 (.q 13 (.q 14 (.q 15 (.q 16 (.q 17 (.q 18 (.q 19 (.q 20 (.q 21 (.q 22 (.q 23 (.q 24 (.q 25 (.q 26 (.c 27 0 (.done))))))))))))))))))))))))))))) (by kernel_rfl) ?_
      refine .m rfl rfl rfl rfl (.refl _) (.move rfl) ?_
      refine .m rfl rfl rfl rfl (.refl _) (.move rfl) ?_
      refine .m rfl rfl rfl rfl (.refl _) (.move rfl) ?_
      refine .m rfl rfl rfl rfl (.refl _) (.nilCheck rfl) ?_
      refine .m rfl rfl rfl rfl (.refl _) (.fieldAddr fo_47_0_P rfl) ?_
      refine .m rfl rfl rfl rfl (.refl _) (.fieldAddr fo_32_1_B rfl) ?_
      refine .m rfl rfl rfl rfl (.refl _) (.load on_22_B rfl (by assumption)) ?_
      refine .m rfl rfl rfl rfl (.refl _) (.move rfl) ?_
      refine .m rfl rfl rfl rfl (.refl _) (.idxN sl_22_A (by assumption) rfl rfl (by omega)) ?_
      refine .m rfl rfl rfl rfl (.refl _) (.loadI on_2_A (by assumption) rfl (by omega)) ?_
      refine .m rfl rfl rfl rfl (.refl _) (.idx1 sl_22_A (by assumption) rfl rfl (by omega) (by omega)) ?_
      refine .m rfl rfl rfl rfl (.refl _) (.loadI on_2_A (by assumption) rfl (by omega)) ?_
      refine .m rfl rfl rfl rfl (.refl _) (.move rfl) ?_
      refine .m rfl rfl rfl rfl (.refl _) (.add rfl rfl rfl (by omega) (by omega)) ?_
      refine .m rfl rfl rfl rfl (.refl _) (.move rfl) ?_
      refine .m rfl rfl rfl rfl (.refl _) (.move rfl) ?_
      refine .m rfl rfl rfl rfl (.refl _) (.nilCheck rfl) ?_
      refine .m rfl rfl rfl rfl (.refl _) (.fieldAddr fo_47_0_P rfl) ?_
      refine .m rfl rfl rfl rfl (.refl _) (.fieldAddr fo_32_2_B rfl) ?_
      refine .m rfl rfl rfl rfl (.refl _) (.load on_22_B rfl (by assumption)) ?_
      refine .m rfl rfl rfl rfl (.refl _) (.move rfl) ?_
      refine .m rfl rfl rfl rfl (.refl _) (.idxN sl_22_A (by assumption) rfl rfl (by omega)) ?_
      refine .m rfl rfl rfl rfl (.refl _) (.loadI on_2_A (by assumption) rfl (by omega)) ?_
      refine .m rfl rfl rfl rfl (.refl _) (.idx1 sl_22_A (by assumption) rfl rfl (by omega) (by omega)) ?_
      refine .m rfl rfl rfl rfl (.refl _) (.loadI on_2_A (by assumption) rfl (by omega)) ?_
      refine .m rfl rfl rfl rfl (.refl _) (.move rfl) ?_
      refine .m rfl rfl rfl rfl (.refl _) (.add rfl rfl rfl (by omega) (by omega)) ?_
      refine .call0 rfl rfl rfl rfl rfl @Try.call34 rfl (join_c) ?_
      rintro _ H63 ⟨⟨b63, rfl⟩, st63, js63, at63, hK63⟩
      have nx_H63 := st63.nx
      replace hle := hle.st st63 (fun k hk => ⟨by omega, trivial⟩)
      replace lst1 := lst1.st st63 (fun k hk ho => by simp only [out, and_true] at ho ⊢ <;> omega)
      replace lst2 := lst2.st st63 (fun k hk ho => by simp only [out, and_true] at ho ⊢ <;> omega)
      replace at15 := st63.same _ _ ⟨by omega, trivial⟩ at15
      have lt_at63 := GHeap.lt_of_get at63
      replace h := base_h.mono hle
      clear fsh c5 c6 i1 i2 hm hi hmsh hish d0 d1 d2 d3 d4 d5 d6 d7 d8
      obtain ⟨fsh, c5, c6, i1, i2⟩ := h.get
      have hm : MemN _ _ _ _ _ := ⟨rfl, h.1⟩
      have hi := h.2
      have hmsh : MemN _ _ _ _ _ := ⟨rfl, fsh.1⟩
      have hish := fsh.2
      obtain ⟨d0, d1, d2, d3, d4, d5, d6, d7, d8⟩ := fsh.get
      clear i15
      have i15 := Ints.of_get at15
      clear i18
      have i18 := Ints.of_get at18
      clear u1
      have u1 := i2.2 k (by omega)
      refine .done ?_
      refine hK13 _ _ ?_
      refine .region ?_
      refine .m rfl rfl rfl (.add rfl rfl rfl (by omega) (by omega)) ?_
      refine .m rfl rfl rfl (.move rfl) ?_
      refine .nil ?_
      refine hKL2 ((t + 1, js63)) _ _ ?_ ?_ ⟨rfl, rfl, rfl, rfl, rfl, rfl, rfl, rfl, rfl, rfl, trivial⟩
      ·
       refine ⟨lst2, by assumption, ?_⟩
       rw [q22, q23] at hK63
       exact ⟨by omega, by rw [f.cpP_snoc, joinK_snoc]; exact hK63⟩
      ·
       (dsimp only; omega)
     ·
      try simp only [sps] at h32
      refine .exit ?_
      refine hK8 _ _ ?_
      refine .region ?_
      refine .m rfl rfl rfl (.add rfl rfl rfl (by omega) (by omega)) ?_
      refine .m rfl rfl rfl (.move rfl) ?_
      refine .nil ?_
      refine hKL1 ((k + 1, ks)) _ _ ?_ ?_ ⟨rfl, rfl, rfl, rfl, rfl, rfl, trivial⟩
      ·
       refine ⟨lst1, by assumption, ?_⟩
       obtain rfl : t = f.cpSz k := by unfold SFun.cpSz; omega
       exact ⟨by omega, by rw [f.cpP_next]; exact hK⟩
      ·
       (dsimp only; omega)
   ·
    try simp only [sps] at h25
    refine .exit ?_
    refine hK4 _ _ ?_
    refine .seq (fun K15 hK15 => ?_)
    refine .region ?_
    refine .m rfl rfl rfl (.move rfl) ?_
    refine .call rfl rfl rfl rfl @Try.call35 rfl (partition_c) ?_
    rintro _ H67 ⟨g67, rfl, st67, ge67, at67⟩
    have nx_H67 := st67.nx
    replace hle := hle.st st67 (fun k hk => ⟨by omega, trivial⟩)
    replace lst1 := lst1.st st67 (fun k hk ho => by simp only [out, and_true] at ho ⊢ <;> omega)
    replace at15 := st67.same _ _ ⟨by omega, trivial⟩ at15
    have lt_at67 := GHeap.lt_of_get at67
    replace h := base_h.mono hle
    clear fsh c5 c6 i1 i2 hm hi hmsh hish d0 d1 d2 d3 d4 d5 d6 d7 d8
    obtain ⟨fsh, c5, c6, i1, i2⟩ := h.get
    have hm : MemN _ _ _ _ _ := ⟨rfl, h.1⟩
    have hi := h.2
    have hmsh : MemN _ _ _ _ _ := ⟨rfl, fsh.1⟩
    have hish := fsh.2
    obtain ⟨d0, d1, d2, d3, d4, d5, d6, d7, d8⟩ := fsh.get
    clear i15
    have i15 := Ints.of_get at15
    clear i18
    have i18 := Ints.of_get at18
    refine .m rfl rfl rfl (.assign rfl) ?_
    refine .nil ?_
    refine hK15 _ _ ?_
    refine .seq (fun K16 hK16 => ?_)
    refine .region ?_
    refine .r rfl rfl rfl (.litR rfl sl_23_B ze_22_E rfl rfl (by omega) (by omega) rfl rfl) ?_
    rintro _ H68 ⟨g68, rfl, le68, ge68, at68⟩
    have nx_H68 := le68.1
    replace hle := hle.trans le68
    replace lst1 := lst1.le le68
    replace at15 := le68.2 _ _ at15
    replace at67 := le68.2 _ _ at67
    have lt_at68 := GHeap.lt_of_get at68
    replace h := base_h.mono hle
    clear fsh c5 c6 i1 i2 hm hi hmsh hish d0 d1 d2 d3 d4 d5 d6 d7 d8
    obtain ⟨fsh, c5, c6, i1, i2⟩ := h.get
    have hm : MemN _ _ _ _ _ := ⟨rfl, h.1⟩
    have hi := h.2
    have hmsh : MemN _ _ _ _ _ := ⟨rfl, fsh.1⟩
    have hish := fsh.2
    obtain ⟨d0, d1, d2, d3, d4, d5, d6, d7, d8⟩ := fsh.get
    clear i15
    have i15 := Ints.of_get at15
    clear i18
    have i18 := Ints.of_get at18
    refine .m rfl rfl rfl (.assign rfl) ?_
    refine .nil ?_
    refine hK16 _ _ ?_
    refine .seq (fun K17 hK17 => ?_)
    refine .seq (fun K18 hK18 => ?_)
    refine .region ?_
    refine .m rfl rfl rfl (.move rfl) ?_
    refine .m rfl rfl rfl (.nilCheck rfl) ?_
    refine .m rfl rfl rfl (.fieldAddr fo_47_1_P rfl) ?_
    refine .m rfl rfl rfl (.load on_22_B rfl (by assumption)) ?_
    refine .m rfl rfl rfl (.len sl_22_A rfl) ?_
    refine .m rfl rfl rfl (.move rfl) ?_
    refine .nil ?_
    refine hK18 _ _ ?_
    refine .block ?_
    obtain rfl : k = f.ac.length := by omega
    have hcm : clsL (joinK (f.cpP f.ac.length 0)) (numsL (sumN f.szF f.sz.length).toNat).length = f.comps := by rw [hnl]; rfl
    rw [hcm] at at67
    have hcl := SFun.comps_len hS
    refine .loopR (σ := Nat × (Nat → Option Addr) × Nat × Nat) [(4, some _), (10, some _), (72, some _), (73, some _)] (fun (x, rr, gL11, nL11) => [(74, some (.int .i64 (x : Int))), (11, some (.slice (some ⟨gL11, 0, none⟩) nL11 nL11))]) (fun (x, rr, gL11, nL11) H' => St [g68] H68 H' ∧ H'.get gL11 = some (.row ((slsOf rr f.compX x)) 22 true) ∧ (gL11 = g68 ∨ H68.next ≤ gL11) ∧ nL11 = (slsOf rr f.compX x).length ∧ x ≤ f.sz.length ∧ OwnRows H.next H' 2 rr f.compX x) (fun (x, rr, gL11, nL11) => f.sz.length - x) ((0, fun _ => none, _, _)) ⟨rfl, rfl, rfl, rfl, trivial⟩ ⟨rfl, rfl, trivial⟩ ?_ ?_
    ·
     refine ⟨.refl _ _, by first | assumption | exact at68 | simpa using at68, .inl rfl, by first | rfl | assumption | simp | omega, ?_⟩
     exact ⟨by omega, .zero _ _ _ _ _⟩
    ·
     rintro ⟨x, rr, gL11, nL11⟩ HL3 ⟨lst3, at_L11, pl_L11, ln_L11, hI⟩ KL3 hKL3
     refine .forget (fr' := [(74, some (.int .i64 (x : Int))), (11, some (.slice (some ⟨gL11, 0, none⟩) nL11 nL11)), (4, some _), (10, some _), (72, some _), (73, some _)]) ⟨rfl, rfl, rfl, rfl, rfl, rfl, trivial⟩ ?_
     have ge_L11 : H.next ≤ gL11 := by omega
     have nx_HL3 := lst3.nx
     replace hle := hle.st lst3 (fun k hk => ⟨by omega, trivial⟩)
     replace lst1 := lst1.st lst3 (fun k hk ho => by simp only [out, and_true] at ho ⊢ <;> omega)
     replace at15 := lst3.same _ _ ⟨by omega, trivial⟩ at15
     replace at67 := lst3.same _ _ ⟨by omega, trivial⟩ at67
     have lt_at_L11 := GHeap.lt_of_get at_L11
     replace h := base_h.mono hle
     clear fsh c5 c6 i1 i2 hm hi hmsh hish d0 d1 d2 d3 d4 d5 d6 d7 d8
     obtain ⟨fsh, c5, c6, i1, i2⟩ := h.get
     have hm : MemN _ _ _ _ _ := ⟨rfl, h.1⟩
     have hi := h.2
     have hmsh : MemN _ _ _ _ _ := ⟨rfl, fsh.1⟩
     have hish := fsh.2
     obtain ⟨d0, d1, d2, d3, d4, d5, d6, d7, d8⟩ := fsh.get
     clear i15
     have i15 := Ints.of_get at15
     clear i18
     have i18 := Ints.of_get at18
     have rk := St.refl [gL11] HL3
     obtain ⟨hx, hR⟩ := hI
     have hat11 := at_L11
     have hfl : (slsOf rr f.compX x).length = x := length_slsOf _ _ _
     refine .seq (fun K19 hK19 => ?_)
     refine .region ?_
     refine .m rfl rfl rfl (.cmp rfl rfl rfl) ?_
     refine .nil ?_
     refine hK19 _ _ ?_
     refine .seq (fun K20 hK20 => ?_)
     refine .cond rfl (fun h75 => ?_) (fun h75 => ?_)
     ·
      simp only [sps] at h75
      have w1 := hS.seg (x := x) (by omega)
      have w2 := f.offs_get (n := f.sz.length) (i := x) (by omega)
      have w3 := hS.sz x (by omega)
      refine .skip ?_
      refine hK20 _ _ ?_
      refine .seq (fun K21 hK21 => ?_)
      refine .block ?_
      refine .seq (fun K22 hK22 => ?_)
      refine .region ?_
      refine .m rfl rfl rfl (.move rfl) ?_
      refine .m rfl rfl rfl (.idxN sl_22_A (by assumption) rfl rfl (by omega)) ?_
      refine .m rfl rfl rfl (.loadI on_2_A (by assumption) rfl (by omega)) ?_
      refine .m rfl rfl rfl (.assign rfl) ?_
      refine .m rfl rfl rfl (.assign rfl) ?_
      refine .nil ?_
      refine hK22 _ _ ?_
      refine .regionD mixed_orders_B (.q 0 (.q 1 (.q 2 (.q 3 (.q 4 (.q 5 (.q 6 (.q 7 (.q 8 (.q 9 (.q 10 (.q 11 (.q 12 (.c 13 1 (.c 14 1 (.c 15 0 (.c 16 0 (.done)))))))))))))))))) (by kernel_rfl) ?_
      refine .m rfl rfl rfl rfl (.refl _) (.move rfl) ?_
      refine .m rfl rfl rfl rfl (.refl _) (.move rfl) ?_
      refine .m rfl rfl rfl rfl (.refl _) (.move rfl) ?_
      refine .m rfl rfl rfl rfl (.refl _) (.move rfl) ?_
      refine .m rfl rfl rfl rfl (.refl _) (.idxN sl_22_A (by assumption) rfl rfl (by omega)) ?_
      refine .m rfl rfl rfl rfl (.refl _) (.loadI on_2_A (by assumption) rfl (by omega)) ?_
      refine .m rfl rfl rfl rfl (.refl _) (.move rfl) ?_
      refine .m rfl rfl rfl rfl (.refl _) (.move rfl) ?_
      refine .m rfl rfl rfl rfl (.refl _) (.idxN sl_22_A (by assumption) rfl rfl (by omega)) ?_
      refine .m rfl rfl rfl rfl (.refl _) (.loadI on_2_A (by assumption) rfl (by omega)) ?_
      refine .m rfl rfl rfl rfl (.refl _) (.move rfl) ?_
      refine .m rfl rfl rfl rfl (.refl _) (.add rfl rfl rfl (by omega) (by omega)) ?_
      refine .m rfl rfl rfl rfl (.refl _) (.sliceI sl_68_Pb rfl at67 rfl rfl (by omega) (by omega) (by omega)) ?_
      refine .call1 rfl rfl rfl rfl rfl @Try.call62 rfl (cloneN_c (xs := f.compX x) (by rw [w2]; exact Ints.seg at67 (by omega)) (by unfold SFun.compX; rw [length_segL (by omega)]; omega)) ?_
      rintro _ H92 ⟨le92, g92, rfl, at92, ge92⟩
      have hbl := le92
      refine ⟨hbl, ?_⟩
      have nx_H92 := le92.1
      replace hle := hle.trans le92
      replace lst1 := lst1.le le92
      replace lst3 := lst3.le le92
      replace rk := rk.le le92
      replace at15 := le92.2 _ _ at15
      replace at67 := le92.2 _ _ at67
      replace at_L11 := le92.2 _ _ at_L11
      have lt_at92 := GHeap.lt_of_get at92
      replace h := base_h.mono hle
      clear fsh c5 c6 i1 i2 hm hi hmsh hish d0 d1 d2 d3 d4 d5 d6 d7 d8
      obtain ⟨fsh, c5, c6, i1, i2⟩ := h.get
      have hm : MemN _ _ _ _ _ := ⟨rfl, h.1⟩
      have hi := h.2
      have hmsh : MemN _ _ _ _ _ := ⟨rfl, fsh.1⟩
      have hish := fsh.2
      obtain ⟨d0, d1, d2, d3, d4, d5, d6, d7, d8⟩ := fsh.get
      clear i15
      have i15 := Ints.of_get at15
      clear i18
      have i18 := Ints.of_get at18
      have i92 := Ints.of_get at92
      refine .c1 rfl rfl rfl rfl (.litR rfl sl_23_B ze_22_E rfl rfl (by omega) (by omega) rfl rfl) ?_
      rintro _ H93 ⟨g93, rfl, le93, ge93, at93⟩
      replace hbl := hbl.trans le93
      refine ⟨hbl, ?_⟩
      have nx_H93 := le93.1
      replace hle := hle.trans le93
      replace lst1 := lst1.le le93
      replace lst3 := lst3.le le93
      replace rk := rk.le le93
      replace at15 := le93.2 _ _ at15
      replace at67 := le93.2 _ _ at67
      replace at_L11 := le93.2 _ _ at_L11
      replace at92 := le93.2 _ _ at92
      have lt_at93 := GHeap.lt_of_get at93
      replace h := base_h.mono hle
      clear fsh c5 c6 i1 i2 hm hi hmsh hish d0 d1 d2 d3 d4 d5 d6 d7 d8
      obtain ⟨fsh, c5, c6, i1, i2⟩ := h.get
      have hm : MemN _ _ _ _ _ := ⟨rfl, h.1⟩
      have hi := h.2
      have hmsh : MemN _ _ _ _ _ := ⟨rfl, fsh.1⟩
      have hish := fsh.2
      obtain ⟨d0, d1, d2, d3, d4, d5, d6, d7, d8⟩ := fsh.get
      clear i15
      have i15 := Ints.of_get at15
      clear i18
      have i18 := Ints.of_get at18
      clear i92
      have i92 := Ints.of_get at92
      refine .c0 rfl rfl rfl rfl (.appendV rfl sl_23_B ze_22_E rfl by_22_E sl_23_B rfl rfl (by assumption) (by assumption) (by first | omega | (simp <;> omega)) rfl rfl (by omega) (by omega)) ?_
      rintro _ H94 ⟨g94, rfl, st94, ge94, at94⟩
      have nx_H94 := st94.nx
      replace hle := hle.st st94 (fun k hk => ⟨by omega, trivial⟩)
      replace lst1 := lst1.st st94 (fun k hk ho => by simp only [out, and_true] at ho ⊢ <;> omega)
      replace lst3 := lst3.st st94 (fun k hk ho => by simp only [out, and_true] at ho ⊢ <;> omega)
      replace rk := rk.st st94 (fun k hk ho => by simp only [out, and_true] at ho ⊢ <;> omega)
      replace at15 := st94.same _ _ ⟨by omega, trivial⟩ at15
      replace at67 := st94.same _ _ ⟨by omega, trivial⟩ at67
      replace at92 := st94.same _ _ ⟨by omega, trivial⟩ at92
      replace at93 := st94.same _ _ ⟨by omega, trivial⟩ at93
      have lt_at94 := GHeap.lt_of_get at94
      replace h := base_h.mono hle
      clear fsh c5 c6 i1 i2 hm hi hmsh hish d0 d1 d2 d3 d4 d5 d6 d7 d8
      obtain ⟨fsh, c5, c6, i1, i2⟩ := h.get
      have hm : MemN _ _ _ _ _ := ⟨rfl, h.1⟩
      have hi := h.2
      have hmsh : MemN _ _ _ _ _ := ⟨rfl, fsh.1⟩
      have hish := fsh.2
      obtain ⟨d0, d1, d2, d3, d4, d5, d6, d7, d8⟩ := fsh.get
      clear i15
      have i15 := Ints.of_get at15
      clear i18
      have i18 := Ints.of_get at18
      clear i92
      have i92 := Ints.of_get at92
      refine .d0 rfl rfl rfl rfl (.quiet (.assign rfl) CIs.mk) ?_
      refine .done ?_
      refine hK21 _ _ ?_
      refine .region ?_
      refine .m rfl rfl rfl (.add rfl rfl rfl (by omega) (by omega)) ?_
      refine .m rfl rfl rfl (.move rfl) ?_
      refine .nil ?_
      refine hKL3 ((x + 1, upd rr x (some ⟨g92, 0, none⟩), _, _)) _ _ ?_ ?_ ⟨rfl, rfl, rfl, rfl, rfl, rfl, trivial⟩
      ·
       refine ⟨lst3, by first | assumption | (rw [slsOf_succ]; assumption), by omega, by first | omega | (simp only [List.length_append, List.length_cons, List.length_nil] <;> omega) | (rw [slsOf_succ] <;> (first | omega | (simp only [List.length_append, List.length_cons, List.length_nil] <;> omega))), ?_⟩
       exact ⟨by omega, hR.succ rk hat11 rfl (by assumption) (by omega) (by omega)⟩
      ·
       (dsimp only; omega)
     ·
      try simp only [sps] at h75
      refine .exit ?_
      refine hK17 _ _ ?_
      refine .seq (fun K23 hK23 => ?_)
      refine .region ?_
      refine .m rfl rfl rfl (.move rfl) ?_
      refine .m rfl rfl rfl (.move rfl) ?_
      refine .callQ rfl rfl rfl rfl @Try.call63 rfl (classesN_c (xs := f.comps) (by omega) (Ints.of_get at67) (by omega) (hb := fun i hi => by have := f.comps_bd i hi; omega)) ?_
      refine .m rfl rfl rfl (.assign rfl) ?_
      refine .m rfl rfl rfl (.assign rfl) ?_
      refine .nil ?_
      refine hK23 _ _ ?_
      refine .ret ?_
      -- leaf e1
      refine hret _ _ ?_
      refine ⟨_, _, rfl, rfl, ?_⟩
      obtain rfl : x = f.sz.length := by omega
      exact ⟨hle, _, rr, by rw [ln_L11]; simp, hR.done at_L11 (by omega)⟩
set_option maxHeartbeats 4000000 in
theorem l21Components_c {f : SFun} {p : SFunP} {H : GHeap} (hin : f.In H p := by assumption) (hS : f.Shape := by assumption) :
    GCalls Try.prog 42 [.agg (f.cells p).toArray] H (fun v H' => H.Le H' ∧ ∃ a r, v = .tuple #[.slice a (rowsOf f.compX f.sz.length).length (rowsOf f.compX f.sz.length).length, .int .i64 (topL f.comps)] ∧ IntssR H.next H' a (rowsOf f.compX f.sz.length) r) := by
  have b1 := hS.c.1.obj
  have b2 := hS.zl
  have b3 := hS.sum (n := f.sz.length) (Nat.le_refl _)
  have b4 := hS.al
  have b5 := hS.c.1.tl
  have b6 := hS.c.1.n40
  have hcl := SFun.comps_len hS
  refine GCalls.body (N := 131) (rs := [.tmp 2, .tmp 3]) Try.func42 rfl rfl rfl rfl (fun Qx hret hend => ?_)
  refine .forget (fr' := [(0, some _)]) ⟨rfl, trivial⟩ ?_
  have hle := GHeap.Le.refl H
  have base_hin := hin
  refine .seq (fun K1 hK1 => ?_)
  refine .region ?_
  refine .r rfl rfl rfl (.boxR rfl sz_47_VSFun rfl) ?_
  rintro _ H1 ⟨g1, rfl, le1, ge1, at1⟩
  have nx_H1 := le1.1
  replace hle := hle.trans le1
  have lt_at1 := GHeap.lt_of_get at1
  replace hin := base_hin.mono hle
  have hb1 : SFun.At _ g1 0 f p := ⟨Mem.of_get at1, hin⟩
  obtain ⟨fsh1, c51, c61, i11, i21⟩ := hb1.get
  have hm1 : MemN _ _ _ _ _ := ⟨rfl, hb1.1⟩
  have hi1 := hb1.2
  have hmsh1 : MemN _ _ _ _ _ := ⟨rfl, fsh1.1⟩
  have hish1 := fsh1.2
  refine .m rfl rfl rfl (.assign rfl) ?_
  refine .m rfl rfl rfl (.assign rfl) ?_
  refine .nil ?_
  refine hK1 _ _ ?_
  refine .seq (fun K2 hK2 => ?_)
  refine .region ?_
  refine .r rfl rfl rfl (.litR rfl sl_22_A ze_2_E rfl rfl (by omega) (by omega) rfl rfl) ?_
  rintro _ H15 ⟨g15, rfl, le15, ge15, at15⟩
  have nx_H15 := le15.1
  replace hle := hle.trans le15
  replace at1 := le15.2 _ _ at1
  have lt_at15 := GHeap.lt_of_get at15
  replace hin := base_hin.mono hle
  clear hb1 fsh1 c51 c61 i11 i21 hm1 hi1 hmsh1 hish1
  have hb1 : SFun.At _ g1 0 f p := ⟨Mem.of_get at1, hin⟩
  obtain ⟨fsh1, c51, c61, i11, i21⟩ := hb1.get
  have hm1 : MemN _ _ _ _ _ := ⟨rfl, hb1.1⟩
  have hi1 := hb1.2
  have hmsh1 : MemN _ _ _ _ _ := ⟨rfl, fsh1.1⟩
  have hish1 := fsh1.2
  replace at15 : GHeap.get H15 g15 = some (.row (ints []) 2 true) := at15
  refine .m rfl rfl rfl (.assign rfl) ?_
  refine .m rfl rfl rfl (.assign rfl) ?_
  refine .nil ?_
  refine hK2 _ _ ?_
  refine .seq (fun K3 hK3 => ?_)
  refine .seq (fun K4 hK4 => ?_)
  refine .region ?_
  refine .m rfl rfl rfl (.assign rfl) ?_
  refine .nil ?_
  refine hK4 _ _ ?_
  refine .block ?_
  refine .loopR (σ := Nat × Int × Nat × Nat) [(1, some _)] (fun (k, v, gL4, nL4) => [(6, some (.int .i64 (k : Int))), (5, some (.int .i64 v)), (4, some (.slice (some ⟨gL4, 0, none⟩) nL4 nL4))]) (fun (k, v, gL4, nL4) H' => St [g15] H15 H' ∧ H'.get gL4 = some (.row (ints (f.offs k)) 2 true) ∧ (gL4 = g15 ∨ H15.next ≤ gL4) ∧ nL4 = (f.offs k).length ∧ k ≤ f.sz.length ∧ v = sumN f.szF k) (fun (k, v, gL4, nL4) => f.sz.length - k) ((0, 0, _, _)) ⟨rfl, trivial⟩ ⟨rfl, rfl, rfl, trivial⟩ ?_ ?_
  ·
   refine ⟨.refl _ _, by first | assumption | exact at15 | simpa using at15, .inl rfl, by first | rfl | assumption | simp | omega, ?_⟩
   exact ⟨by omega, rfl⟩
  ·
   rintro ⟨k, v, gL4, nL4⟩ HL1 ⟨lst1, at_L4, pl_L4, ln_L4, hI⟩ KL1 hKL1
   refine .forget (fr' := [(6, some (.int .i64 (k : Int))), (5, some (.int .i64 v)), (4, some (.slice (some ⟨gL4, 0, none⟩) nL4 nL4)), (1, some _)]) ⟨rfl, rfl, rfl, rfl, trivial⟩ ?_
   have ge_L4 : H.next ≤ gL4 := by omega
   have nx_HL1 := lst1.nx
   replace hle := hle.st lst1 (fun k hk => ⟨by omega, trivial⟩)
   replace at1 := lst1.same _ _ ⟨by omega, trivial⟩ at1
   have lt_at_L4 := GHeap.lt_of_get at_L4
   replace hin := base_hin.mono hle
   clear hb1 fsh1 c51 c61 i11 i21 hm1 hi1 hmsh1 hish1
   have hb1 : SFun.At _ g1 0 f p := ⟨Mem.of_get at1, hin⟩
   obtain ⟨fsh1, c51, c61, i11, i21⟩ := hb1.get
   have hm1 : MemN _ _ _ _ _ := ⟨rfl, hb1.1⟩
   have hi1 := hb1.2
   have hmsh1 : MemN _ _ _ _ _ := ⟨rfl, fsh1.1⟩
   have hish1 := fsh1.2
   obtain ⟨hk, rfl⟩ := hI
   have sb := hS.sum (n := k) (by omega)
   have hfl := f.length_offs k
   refine .seq (fun K5 hK5 => ?_)
   refine .seq (fun K6 hK6 => ?_)
   refine .region ?_
   refine .m rfl rfl rfl (.move rfl) ?_
   refine .m rfl rfl rfl (.fieldAddr fo_47_1_P rfl) ?_
   refine .m rfl rfl rfl (.load on_22_B rfl (by assumption)) ?_
   refine .m rfl rfl rfl (.len sl_22_A rfl) ?_
   refine .m rfl rfl rfl (.cmp rfl rfl rfl) ?_
   refine .nil ?_
   refine hK6 _ _ ?_
   refine .cond rfl (fun h20 => ?_) (fun h20 => ?_)
   ·
    simp only [sps] at h20
    have r2 := hS.sz k (by omega)
    refine .skip ?_
    refine hK5 _ _ ?_
    refine .seq (fun K7 hK7 => ?_)
    refine .block ?_
    refine .seq (fun K8 hK8 => ?_)
    refine .region ?_
    refine .m rfl rfl rfl (.move rfl) ?_
    refine .m rfl rfl rfl (.move rfl) ?_
    refine .r rfl rfl rfl (.litR rfl sl_22_A ze_2_E rfl rfl (by omega) (by omega) rfl rfl) ?_
    rintro _ H25 ⟨g25, rfl, le25, ge25, at25⟩
    have nx_H25 := le25.1
    replace hle := hle.trans le25
    replace lst1 := lst1.le le25
    replace at1 := le25.2 _ _ at1
    replace at_L4 := le25.2 _ _ at_L4
    have lt_at25 := GHeap.lt_of_get at25
    replace hin := base_hin.mono hle
    clear hb1 fsh1 c51 c61 i11 i21 hm1 hi1 hmsh1 hish1
    have hb1 : SFun.At _ g1 0 f p := ⟨Mem.of_get at1, hin⟩
    obtain ⟨fsh1, c51, c61, i11, i21⟩ := hb1.get
    have hm1 : MemN _ _ _ _ _ := ⟨rfl, hb1.1⟩
    have hi1 := hb1.2
    have hmsh1 : MemN _ _ _ _ _ := ⟨rfl, fsh1.1⟩
    have hish1 := fsh1.2
    refine .r rfl rfl rfl (.appendI rfl sl_22_A ze_2_E rfl by_2_E sl_22_A rfl rfl (by assumption) (by assumption) (by first | omega | (simp <;> omega)) (by omega) (by omega)) ?_
    rintro _ H26 ⟨g26, rfl, st26, ge26, at26⟩
    have nx_H26 := st26.nx
    replace hle := hle.st st26 (fun k hk => ⟨by omega, trivial⟩)
    replace lst1 := lst1.st st26 (fun k hk ho => by simp only [out, and_true] at ho ⊢ <;> omega)
    replace at1 := st26.same _ _ ⟨by omega, trivial⟩ at1
    replace at25 := st26.same _ _ ⟨by omega, trivial⟩ at25
    have lt_at26 := GHeap.lt_of_get at26
    replace hin := base_hin.mono hle
    clear hb1 fsh1 c51 c61 i11 i21 hm1 hi1 hmsh1 hish1
    have hb1 : SFun.At _ g1 0 f p := ⟨Mem.of_get at1, hin⟩
    obtain ⟨fsh1, c51, c61, i11, i21⟩ := hb1.get
    have hm1 : MemN _ _ _ _ _ := ⟨rfl, hb1.1⟩
    have hi1 := hb1.2
    have hmsh1 : MemN _ _ _ _ _ := ⟨rfl, fsh1.1⟩
    have hish1 := fsh1.2
    refine .m rfl rfl rfl (.assign rfl) ?_
    refine .nil ?_
    refine hK8 _ _ ?_
    refine .region ?_
    refine .m rfl rfl rfl (.move rfl) ?_
    refine .m rfl rfl rfl (.fieldAddr fo_47_1_P rfl) ?_
    refine .m rfl rfl rfl (.load on_22_B rfl (by assumption)) ?_
    refine .m rfl rfl rfl (.move rfl) ?_
    refine .m rfl rfl rfl (.idxN sl_22_A (by assumption) rfl rfl (by omega)) ?_
    refine .m rfl rfl rfl (.loadI on_2_A (by assumption) rfl (by omega)) ?_
    refine .m rfl rfl rfl (.add rfl rfl rfl (by omega) (by omega)) ?_
    refine .m rfl rfl rfl (.assign rfl) ?_
    refine .nil ?_
    refine hK7 _ _ ?_
    refine .region ?_
    refine .m rfl rfl rfl (.move rfl) ?_
    refine .m rfl rfl rfl (.add rfl rfl rfl (by omega) (by omega)) ?_
    refine .m rfl rfl rfl (.assign rfl) ?_
    refine .nil ?_
    refine hKL1 ((k + 1, sumN f.szF k + f.sz.getD k 0, _, _)) _ _ ?_ ?_ ⟨rfl, rfl, rfl, rfl, trivial⟩
    ·
     refine ⟨lst1, by first | assumption | (rw [f.offs_succ]; assumption), by omega, by first | omega | (simp only [List.length_append, List.length_cons, List.length_nil] <;> omega) | (rw [f.offs_succ] <;> (first | omega | (simp only [List.length_append, List.length_cons, List.length_nil] <;> omega))), ?_⟩
     exact ⟨by omega, rfl⟩
    ·
     (dsimp only; omega)
   ·
    try simp only [sps] at h20
    refine .exit ?_
    refine hK3 _ _ ?_
    refine .seq (fun K9 hK9 => ?_)
    refine .region ?_
    refine .r rfl rfl rfl (.litR rfl sl_23_B ze_22_E rfl rfl (by omega) (by omega) rfl rfl) ?_
    rintro _ H34 ⟨g34, rfl, le34, ge34, at34⟩
    have nx_H34 := le34.1
    replace hle := hle.trans le34
    replace lst1 := lst1.le le34
    replace at1 := le34.2 _ _ at1
    replace at_L4 := le34.2 _ _ at_L4
    have lt_at34 := GHeap.lt_of_get at34
    replace hin := base_hin.mono hle
    clear hb1 fsh1 c51 c61 i11 i21 hm1 hi1 hmsh1 hish1
    have hb1 : SFun.At _ g1 0 f p := ⟨Mem.of_get at1, hin⟩
    obtain ⟨fsh1, c51, c61, i11, i21⟩ := hb1.get
    have hm1 : MemN _ _ _ _ _ := ⟨rfl, hb1.1⟩
    have hi1 := hb1.2
    have hmsh1 : MemN _ _ _ _ _ := ⟨rfl, fsh1.1⟩
    have hish1 := fsh1.2
    refine .m rfl rfl rfl (.assign rfl) ?_
    refine .nil ?_
    refine hK9 _ _ ?_
    refine .seq (fun K10 hK10 => ?_)
    refine .seq (fun K11 hK11 => ?_)
    refine .region ?_
    refine .m rfl rfl rfl (.assign rfl) ?_
    refine .nil ?_
    refine hK11 _ _ ?_
    refine .block ?_
    obtain rfl : k = f.sz.length := by omega
    have hof := f.length_offs f.sz.length
    obtain rfl := ln_L4
    refine .loopR (σ := Nat × (Nat → Option Addr) × Nat × Nat) [(1, some _), (4, some _), (5, some _)] (fun (k, rr, gL7, nL7) => [(8, some (.int .i64 (k : Int))), (7, some (.slice (some ⟨gL7, 0, none⟩) nL7 nL7))]) (fun (k, rr, gL7, nL7) H' => St [g34] H34 H' ∧ H'.get gL7 = some (.row ((slsL rr (f.cpL k 0))) 22 true) ∧ (gL7 = g34 ∨ H34.next ≤ gL7) ∧ nL7 = (slsL rr (f.cpL k 0)).length ∧ k ≤ f.ac.length ∧ OwnL H.next H' 2 rr (f.cpL k 0)) (fun (k, rr, gL7, nL7) => f.ac.length - k) ((0, fun _ => none, _, _)) ⟨rfl, rfl, rfl, trivial⟩ ⟨rfl, rfl, trivial⟩ ?_ ?_
    ·
     refine ⟨.refl _ _, by first | assumption | exact at34 | simpa using at34, .inl rfl, by first | rfl | assumption | simp | omega, ?_⟩
     exact ⟨by omega, .nil _ _ _ _⟩
    ·
     rintro ⟨k, rr, gL7, nL7⟩ HL2 ⟨lst2, at_L7, pl_L7, ln_L7, hI⟩ KL2 hKL2
     refine .forget (fr' := [(8, some (.int .i64 (k : Int))), (7, some (.slice (some ⟨gL7, 0, none⟩) nL7 nL7)), (1, some _), (4, some _), (5, some _)]) ⟨rfl, rfl, rfl, rfl, rfl, trivial⟩ ?_
     have ge_L7 : H.next ≤ gL7 := by omega
     have nx_HL2 := lst2.nx
     replace hle := hle.st lst2 (fun k hk => ⟨by omega, trivial⟩)
     replace lst1 := lst1.st lst2 (fun k hk ho => by simp only [out, and_true] at ho ⊢ <;> omega)
     replace at1 := lst2.same _ _ ⟨by omega, trivial⟩ at1
     replace at_L4 := lst2.same _ _ ⟨by omega, trivial⟩ at_L4
     have lt_at_L7 := GHeap.lt_of_get at_L7
     replace hin := base_hin.mono hle
     clear hb1 fsh1 c51 c61 i11 i21 hm1 hi1 hmsh1 hish1
     have hb1 : SFun.At _ g1 0 f p := ⟨Mem.of_get at1, hin⟩
     obtain ⟨fsh1, c51, c61, i11, i21⟩ := hb1.get
     have hm1 : MemN _ _ _ _ _ := ⟨rfl, hb1.1⟩
     have hi1 := hb1.2
     have hmsh1 : MemN _ _ _ _ _ := ⟨rfl, fsh1.1⟩
     have hish1 := fsh1.2
     obtain ⟨hk, hR⟩ := hI
     refine .seq (fun K12 hK12 => ?_)
     refine .seq (fun K13 hK13 => ?_)
     refine .region ?_
     refine .m rfl rfl rfl (.move rfl) ?_
     refine .m rfl rfl rfl (.fieldAddr fo_47_2_P rfl) ?_
     refine .m rfl rfl rfl (.load on_23_B rfl (by assumption)) ?_
     refine .m rfl rfl rfl (.len sl_23_B rfl) ?_
     refine .m rfl rfl rfl (.cmp rfl rfl rfl) ?_
     refine .nil ?_
     refine hK13 _ _ ?_
     refine .cond rfl (fun h39 => ?_) (fun h39 => ?_)
     ·
      simp only [sps] at h39
      have hen := hS.ends (a := k) (by omega)
      have hz1 := hS.sz (f.sh.src.getD k 0).toNat (by omega)
      have u1 := i21.2 k (by omega)
      have i4 := Ints.of_get at_L4
      obtain ⟨d0, d1, d2, d3, d4, d5, d6, d7, d8⟩ := fsh1.get
      refine .skip ?_
      refine hK12 _ _ ?_
      refine .seq (fun K14 hK14 => ?_)
      refine .block ?_
      refine .seq (fun K15 hK15 => ?_)
      refine .region ?_
      refine .m rfl rfl rfl (.assign rfl) ?_
      refine .nil ?_
      refine hK15 _ _ ?_
      refine .block ?_
      refine .loopR (σ := Nat × (Nat → Option Addr) × Nat × Nat) [(1, some _), (4, some _), (5, some _), (8, some _)] (fun (t, r2, gL7v3, nL7v3) => [(9, some (.int .i64 (t : Int))), (7, some (.slice (some ⟨gL7v3, 0, none⟩) nL7v3 nL7v3))]) (fun (t, r2, gL7v3, nL7v3) H' => St [gL7] HL2 H' ∧ H'.get gL7v3 = some (.row ((slsL r2 (f.cpL k t))) 22 true) ∧ (gL7v3 = gL7 ∨ HL2.next ≤ gL7v3) ∧ nL7v3 = (slsL r2 (f.cpL k t)).length ∧ t ≤ (f.ac.getD k []).length ∧ OwnL H.next H' 2 r2 (f.cpL k t)) (fun (t, r2, gL7v3, nL7v3) => (f.ac.getD k []).length - t) ((0, rr, _, _)) ⟨rfl, rfl, rfl, rfl, trivial⟩ ⟨rfl, rfl, trivial⟩ ?_ ?_
      ·
       refine ⟨.refl _ _, by first | assumption | exact at_L7 | simpa using at_L7, .inl rfl, by first | rfl | assumption | simp | omega, ?_⟩
       exact ⟨by omega, hR⟩
      ·
       rintro ⟨t, r2, gL7v3, nL7v3⟩ HL3 ⟨lst3, at_L7v3, pl_L7v3, ln_L7v3, hI⟩ KL3 hKL3
       refine .forget (fr' := [(9, some (.int .i64 (t : Int))), (7, some (.slice (some ⟨gL7v3, 0, none⟩) nL7v3 nL7v3)), (1, some _), (4, some _), (5, some _), (8, some _)]) ⟨rfl, rfl, rfl, rfl, rfl, rfl, trivial⟩ ?_
       have ge_L7v3 : H.next ≤ gL7v3 := by omega
       have nx_HL3 := lst3.nx
       replace hle := hle.st lst3 (fun k hk => ⟨by omega, trivial⟩)
       replace lst1 := lst1.st lst3 (fun k hk ho => by simp only [out, and_true] at ho ⊢ <;> omega)
       replace lst2 := lst2.st lst3 (fun k hk ho => by simp only [out, and_true] at ho ⊢ <;> omega)
       replace at1 := lst3.same _ _ ⟨by omega, trivial⟩ at1
       replace at_L4 := lst3.same _ _ ⟨by omega, trivial⟩ at_L4
       have lt_at_L7v3 := GHeap.lt_of_get at_L7v3
       replace hin := base_hin.mono hle
       clear hb1 fsh1 c51 c61 i11 i21 hm1 hi1 hmsh1 hish1
       have hb1 : SFun.At _ g1 0 f p := ⟨Mem.of_get at1, hin⟩
       obtain ⟨fsh1, c51, c61, i11, i21⟩ := hb1.get
       have hm1 : MemN _ _ _ _ _ := ⟨rfl, hb1.1⟩
       have hi1 := hb1.2
       have hmsh1 : MemN _ _ _ _ _ := ⟨rfl, fsh1.1⟩
       have hish1 := fsh1.2
       clear u1 i4 d0 d1 d2 d3 d4 d5 d6 d7 d8
       have u1 := i21.2 k (by omega)
       have i4 := Ints.of_get at_L4
       obtain ⟨d0, d1, d2, d3, d4, d5, d6, d7, d8⟩ := fsh1.get
       have rk := St.refl [gL7v3] HL3
       obtain ⟨ht, hR⟩ := hI
       have hat7 := at_L7v3
       have hln := nestL_le (pr := f.cpPr) (sz := f.cpSz) (c := 16) (k := k) (t := t) (n := f.ac.length) (fun a ha => by have h1 := hS.ends (a := a) (by omega); have h2 := hS.sz (f.sh.src.getD a 0).toNat (by omega); unfold SFun.cpSz; omega) (by omega) ht
       have hfl : (slsL r2 (f.cpL k t)).length = (f.cpL k t).length := length_slsL _ _
       have hln2 : (f.cpL k t).length ≤ f.ac.length * 16 := hln
       refine .seq (fun K16 hK16 => ?_)
       refine .seq (fun K17 hK17 => ?_)
       refine .region ?_
       refine .m rfl rfl rfl (.move rfl) ?_
       refine .m rfl rfl rfl (.fieldAddr fo_47_2_P rfl) ?_
       refine .m rfl rfl rfl (.load on_23_B rfl (by assumption)) ?_
       refine .m rfl rfl rfl (.move rfl) ?_
       refine .m rfl rfl rfl (.idxN sl_23_B (Intss.sl (by assumption)) rfl rfl (by omega)) ?_
       refine .m rfl rfl rfl (.loadR on_22_B (by assumption) rfl (by omega)) ?_
       refine .m rfl rfl rfl (.len sl_22_A rfl) ?_
       refine .m rfl rfl rfl (.cmp rfl rfl rfl) ?_
       refine .nil ?_
       refine hK17 _ _ ?_
       refine .cond rfl (fun h49 => ?_) (fun h49 => ?_)
       ·
        simp only [sps] at h49
        have q1 := hS.act (a := k) (by omega) (e := t) (by omega)
        have q21 := hS.elt (x := (f.sh.src.getD k 0).toNat) (v := (t : Int)) (by omega) (by omega) (by omega)
        have q24 := hS.elt (x := (f.sh.tgt.getD k 0).toNat) (by omega) q1.1 q1.2
        have q22 := f.offs_get (n := f.sz.length) (i := (f.sh.src.getD k 0).toNat) (by omega)
        have q23 := f.offs_get (n := f.sz.length) (i := (f.sh.tgt.getD k 0).toNat) (by omega)
        refine .skip ?_
        refine hK16 _ _ ?_
        refine .seq (fun K18 hK18 => ?_)
        refine .block ?_
        refine .regionD mixed_orders_B (.q 0 (.q 1 (.q 2 (.q 3 (.q 4 (.q 5 (.q 6 (.q 7 (.q 8 (.q 9 (.q 10 (.q 11 (.q 12 (.q 13 (.q 14 (.q 15 (.q 16 (.q 17 (.q 18 (.q 19 (.q 20 (.q 21 (.q 22 (.q 23 (.q 24 (.q 25 (.q 26 (.q 27 (.q 28 (.q 29 (.c 30 1 (.c 31 1 (.c 32 0 (.c 33 0 (.done))))))))))))))))))))))))))))))))))) (by kernel_rfl) ?_
        refine .m rfl rfl rfl rfl (.refl _) (.move rfl) ?_
        refine .m rfl rfl rfl rfl (.refl _) (.move rfl) ?_
        refine .m rfl rfl rfl rfl (.refl _) (.fieldAddr fo_47_0_P rfl) ?_
        refine .m rfl rfl rfl rfl (.refl _) (.fieldAddr fo_32_1_B rfl) ?_
        refine .m rfl rfl rfl rfl (.refl _) (.load on_22_B rfl (by assumption)) ?_
        refine .m rfl rfl rfl rfl (.refl _) (.move rfl) ?_
        refine .m rfl rfl rfl rfl (.refl _) (.idxN sl_22_A (by assumption) rfl rfl (by omega)) ?_
        refine .m rfl rfl rfl rfl (.refl _) (.loadI on_2_A (by assumption) rfl (by omega)) ?_
        refine .m rfl rfl rfl rfl (.refl _) (.idx1 sl_22_A (by assumption) rfl rfl (by omega) (by omega)) ?_
        refine .m rfl rfl rfl rfl (.refl _) (.loadI on_2_A (by assumption) rfl (by omega)) ?_
        refine .m rfl rfl rfl rfl (.refl _) (.move rfl) ?_
        refine .m rfl rfl rfl rfl (.refl _) (.add rfl rfl rfl (by omega) (by omega)) ?_
        refine .m rfl rfl rfl rfl (.refl _) (.move rfl) ?_
        refine .m rfl rfl rfl rfl (.refl _) (.fieldAddr fo_47_0_P rfl) ?_
        refine .m rfl rfl rfl rfl (.refl _) (.fieldAddr fo_32_2_B rfl) ?_
        refine .m rfl rfl rfl rfl (.refl _) (.load on_22_B rfl (by assumption)) ?_
        refine .m rfl rfl rfl rfl (.refl _) (.move rfl) ?_
        refine .m rfl rfl rfl rfl (.refl _) (.idxN sl_22_A (by assumption) rfl rfl (by omega)) ?_
        refine .m rfl rfl rfl rfl (.refl _) (.loadI on_2_A (by assumption) rfl (by omega)) ?_
        refine .m rfl rfl rfl rfl (.refl _) (.idx1 sl_22_A (by assumption) rfl rfl (by omega) (by omega)) ?_
        refine .m rfl rfl rfl rfl (.refl _) (.loadI on_2_A (by assumption) rfl (by omega)) ?_
        refine .m rfl rfl rfl rfl (.refl _) (.fieldAddr fo_47_2_P rfl) ?_
        refine .m rfl rfl rfl rfl (.refl _) (.load on_23_B rfl (by assumption)) ?_
        refine .m rfl rfl rfl rfl (.refl _) (.move rfl) ?_
        refine .m rfl rfl rfl rfl (.refl _) (.idxN sl_23_B (Intss.sl (by assumption)) rfl rfl (by omega)) ?_
        refine .m rfl rfl rfl rfl (.refl _) (.loadR on_22_B (by assumption) rfl (by omega)) ?_
        refine .m rfl rfl rfl rfl (.refl _) (.move rfl) ?_
        refine .m rfl rfl rfl rfl (.refl _) (.idxN sl_22_A (by assumption) rfl rfl (by omega)) ?_
        refine .m rfl rfl rfl rfl (.refl _) (.loadI on_2_A (by assumption) rfl (by omega)) ?_
        refine .m rfl rfl rfl rfl (.refl _) (.add rfl rfl rfl (by omega) (by omega)) ?_
        refine .c1 rfl rfl rfl rfl (.litR rfl sl_22_A ze_2_E rfl rfl (by omega) (by omega) rfl rfl) ?_
        rintro _ H82 ⟨g82, rfl, le82, ge82, at82⟩
        have hbl := le82
        refine ⟨hbl, ?_⟩
        have nx_H82 := le82.1
        replace hle := hle.trans le82
        replace lst1 := lst1.le le82
        replace lst2 := lst2.le le82
        replace lst3 := lst3.le le82
        replace rk := rk.le le82
        replace at1 := le82.2 _ _ at1
        replace at_L4 := le82.2 _ _ at_L4
        replace at_L7v3 := le82.2 _ _ at_L7v3
        have lt_at82 := GHeap.lt_of_get at82
        replace hin := base_hin.mono hle
        clear hb1 fsh1 c51 c61 i11 i21 hm1 hi1 hmsh1 hish1
        have hb1 : SFun.At _ g1 0 f p := ⟨Mem.of_get at1, hin⟩
        obtain ⟨fsh1, c51, c61, i11, i21⟩ := hb1.get
        have hm1 : MemN _ _ _ _ _ := ⟨rfl, hb1.1⟩
        have hi1 := hb1.2
        have hmsh1 : MemN _ _ _ _ _ := ⟨rfl, fsh1.1⟩
        have hish1 := fsh1.2
        clear u1 i4 d0 d1 d2 d3 d4 d5 d6 d7 d8
        have u1 := i21.2 k (by omega)
        have i4 := Ints.of_get at_L4
        obtain ⟨d0, d1, d2, d3, d4, d5, d6, d7, d8⟩ := fsh1.get
        refine .c1 rfl rfl rfl rfl (.litR rfl sl_23_B ze_22_E rfl rfl (by omega) (by omega) rfl rfl) ?_
        rintro _ H83 ⟨g83, rfl, le83, ge83, at83⟩
        replace hbl := hbl.trans le83
        refine ⟨hbl, ?_⟩
        have nx_H83 := le83.1
        replace hle := hle.trans le83
        replace lst1 := lst1.le le83
        replace lst2 := lst2.le le83
        replace lst3 := lst3.le le83
        replace rk := rk.le le83
        replace at1 := le83.2 _ _ at1
        replace at_L4 := le83.2 _ _ at_L4
        replace at_L7v3 := le83.2 _ _ at_L7v3
        replace at82 := le83.2 _ _ at82
        have lt_at83 := GHeap.lt_of_get at83
        replace hin := base_hin.mono hle
        clear hb1 fsh1 c51 c61 i11 i21 hm1 hi1 hmsh1 hish1
        have hb1 : SFun.At _ g1 0 f p := ⟨Mem.of_get at1, hin⟩
        obtain ⟨fsh1, c51, c61, i11, i21⟩ := hb1.get
        have hm1 : MemN _ _ _ _ _ := ⟨rfl, hb1.1⟩
        have hi1 := hb1.2
        have hmsh1 : MemN _ _ _ _ _ := ⟨rfl, fsh1.1⟩
        have hish1 := fsh1.2
        clear u1 i4 d0 d1 d2 d3 d4 d5 d6 d7 d8
        have u1 := i21.2 k (by omega)
        have i4 := Ints.of_get at_L4
        obtain ⟨d0, d1, d2, d3, d4, d5, d6, d7, d8⟩ := fsh1.get
        refine .c0 rfl rfl rfl rfl (.appendV rfl sl_23_B ze_22_E rfl by_22_E sl_23_B rfl rfl (by assumption) (by assumption) (by first | omega | (simp <;> omega)) rfl rfl (by omega) (by omega)) ?_
        rintro _ H84 ⟨g84, rfl, st84, ge84, at84⟩
        have nx_H84 := st84.nx
        replace hle := hle.st st84 (fun k hk => ⟨by omega, trivial⟩)
        replace lst1 := lst1.st st84 (fun k hk ho => by simp only [out, and_true] at ho ⊢ <;> omega)
        replace lst2 := lst2.st st84 (fun k hk ho => by simp only [out, and_true] at ho ⊢ <;> omega)
        replace lst3 := lst3.st st84 (fun k hk ho => by simp only [out, and_true] at ho ⊢ <;> omega)
        replace rk := rk.st st84 (fun k hk ho => by simp only [out, and_true] at ho ⊢ <;> omega)
        replace at1 := st84.same _ _ ⟨by omega, trivial⟩ at1
        replace at_L4 := st84.same _ _ ⟨by omega, trivial⟩ at_L4
        replace at82 := st84.same _ _ ⟨by omega, trivial⟩ at82
        replace at83 := st84.same _ _ ⟨by omega, trivial⟩ at83
        have lt_at84 := GHeap.lt_of_get at84
        replace hin := base_hin.mono hle
        clear hb1 fsh1 c51 c61 i11 i21 hm1 hi1 hmsh1 hish1
        have hb1 : SFun.At _ g1 0 f p := ⟨Mem.of_get at1, hin⟩
        obtain ⟨fsh1, c51, c61, i11, i21⟩ := hb1.get
        have hm1 : MemN _ _ _ _ _ := ⟨rfl, hb1.1⟩
        have hi1 := hb1.2
        have hmsh1 : MemN _ _ _ _ _ := ⟨rfl, fsh1.1⟩
        have hish1 := fsh1.2
        clear u1 i4 d0 d1 d2 d3 d4 d5 d6 d7 d8
        have u1 := i21.2 k (by omega)
        have i4 := Ints.of_get at_L4
        obtain ⟨d0, d1, d2, d3, d4, d5, d6, d7, d8⟩ := fsh1.get
        refine .d0 rfl rfl rfl rfl (.quiet (.assign rfl) CIs.mk) ?_
        refine .done ?_
        refine hK18 _ _ ?_
        refine .region ?_
        refine .m rfl rfl rfl (.move rfl) ?_
        refine .m rfl rfl rfl (.add rfl rfl rfl (by omega) (by omega)) ?_
        refine .m rfl rfl rfl (.assign rfl) ?_
        refine .nil ?_
        refine hKL3 ((t + 1, upd r2 (f.cpL k t).length (some ⟨g82, 0, none⟩), _, _)) _ _ ?_ ?_ ⟨rfl, rfl, rfl, rfl, rfl, rfl, trivial⟩
        ·
         refine ⟨lst3, by first | assumption | (rw [f.cpL_snoc, slsL_snoc]; assumption), by omega, by first | omega | (simp only [List.length_append, List.length_cons, List.length_nil] <;> omega) | (rw [f.cpL_snoc, slsL_snoc] <;> (first | omega | (simp only [List.length_append, List.length_cons, List.length_nil] <;> omega))), ?_⟩
         exact ⟨by omega, by rw [f.cpL_snoc]; exact hR.snoc (x := f.cpPr k t) (rk.lasts1 hat7 rfl) (by rw [q22, q23] at at82; exact at82) (by omega) (by omega)⟩
        ·
         (dsimp only; omega)
       ·
        try simp only [sps] at h49
        refine .exit ?_
        refine hK14 _ _ ?_
        refine .region ?_
        refine .m rfl rfl rfl (.move rfl) ?_
        refine .m rfl rfl rfl (.add rfl rfl rfl (by omega) (by omega)) ?_
        refine .m rfl rfl rfl (.assign rfl) ?_
        refine .nil ?_
        obtain rfl : t = f.cpSz k := by unfold SFun.cpSz; omega
        refine hKL2 ((k + 1, r2, _, _)) _ _ ?_ ?_ ⟨rfl, rfl, rfl, rfl, rfl, trivial⟩
        ·
         refine ⟨lst2, by first | assumption | (rw [f.cpL_next]; assumption), by omega, by first | omega | (simp only [List.length_append, List.length_cons, List.length_nil] <;> omega) | (rw [f.cpL_next] <;> (first | omega | (simp only [List.length_append, List.length_cons, List.length_nil] <;> omega))), ?_⟩
         exact ⟨by omega, by rw [f.cpL_next]; exact hR⟩
        ·
         (dsimp only; omega)
     ·
      try simp only [sps] at h39
      refine .exit ?_
      refine hK10 _ _ ?_
      refine .seq (fun K19 hK19 => ?_)
      refine .region ?_
      refine .m rfl rfl rfl (.move rfl) ?_
      refine .m rfl rfl rfl (.move rfl) ?_
      obtain rfl : k = f.ac.length := by omega
      have hiss := hR.intss at_L7 ge_L7
      have hcl7 := nestL_length (pr := f.cpPr) (sz := f.cpSz) (c := 16) (k := f.ac.length) fun a ha => by have h1 := hS.ends (a := a) (by omega); have h2 := hS.sz (f.sh.src.getD a 0).toNat (by omega); unfold SFun.cpSz; omega
      have hfl : (slsL rr (f.cpL f.ac.length 0)).length = (f.cpL f.ac.length 0).length := length_slsL _ _
      have hfl2 : (f.cpL f.ac.length 0).length ≤ f.ac.length * 16 := hcl7
      refine .call rfl rfl rfl rfl @Try.call49 rfl (l01JoinM_c (n := (sumN f.szF f.sz.length).toNat) (cs := f.comps) (by rw [f.cpP_eq]; rfl) (by omega) (by omega) hiss (by omega) (by omega) (fun i hi => by obtain ⟨a, t, ha, ht, e⟩ := nestL_mem (getD_mem_list (d := []) hi); have e' : (f.cpL f.ac.length 0).getD i [] = f.cpPr a t := e; rw [e']; have := hS.cpPr ha ht; omega)) ?_
      rintro _ H87 ⟨le87, g87, rfl, at87, ge87⟩
      have nx_H87 := le87.1
      replace hle := hle.trans le87
      replace lst1 := lst1.le le87
      replace at1 := le87.2 _ _ at1
      replace at_L4 := le87.2 _ _ at_L4
      replace at_L7 := le87.2 _ _ at_L7
      have lt_at87 := GHeap.lt_of_get at87
      replace hin := base_hin.mono hle
      clear hb1 fsh1 c51 c61 i11 i21 hm1 hi1 hmsh1 hish1
      have hb1 : SFun.At _ g1 0 f p := ⟨Mem.of_get at1, hin⟩
      obtain ⟨fsh1, c51, c61, i11, i21⟩ := hb1.get
      have hm1 : MemN _ _ _ _ _ := ⟨rfl, hb1.1⟩
      have hi1 := hb1.2
      have hmsh1 : MemN _ _ _ _ _ := ⟨rfl, fsh1.1⟩
      have hish1 := fsh1.2
      refine .r rfl rfl rfl (.litR rfl sl_23_B ze_22_E rfl rfl (by omega) (by omega) rfl rfl) ?_
      rintro _ H88 ⟨g88, rfl, le88, ge88, at88⟩
      have nx_H88 := le88.1
      replace hle := hle.trans le88
      replace lst1 := lst1.le le88
      replace at1 := le88.2 _ _ at1
      replace at_L4 := le88.2 _ _ at_L4
      replace at_L7 := le88.2 _ _ at_L7
      replace at87 := le88.2 _ _ at87
      have lt_at88 := GHeap.lt_of_get at88
      replace hin := base_hin.mono hle
      clear hb1 fsh1 c51 c61 i11 i21 hm1 hi1 hmsh1 hish1
      have hb1 : SFun.At _ g1 0 f p := ⟨Mem.of_get at1, hin⟩
      obtain ⟨fsh1, c51, c61, i11, i21⟩ := hb1.get
      have hm1 : MemN _ _ _ _ _ := ⟨rfl, hb1.1⟩
      have hi1 := hb1.2
      have hmsh1 : MemN _ _ _ _ _ := ⟨rfl, fsh1.1⟩
      have hish1 := fsh1.2
      refine .m rfl rfl rfl (.assign rfl) ?_
      refine .m rfl rfl rfl (.assign rfl) ?_
      refine .m rfl rfl rfl (.assign rfl) ?_
      refine .nil ?_
      refine hK19 _ _ ?_
      refine .seq (fun K20 hK20 => ?_)
      refine .seq (fun K21 hK21 => ?_)
      refine .region ?_
      refine .m rfl rfl rfl (.assign rfl) ?_
      refine .nil ?_
      refine hK21 _ _ ?_
      refine .block ?_
      refine .loopR (σ := Nat × (Nat → Option Addr) × Nat × Nat) [(1, some _), (4, some _), (10, some _), (12, some _)] (fun (x, ra, gL11, nL11) => [(13, some (.int .i64 (x : Int))), (11, some (.slice (some ⟨gL11, 0, none⟩) nL11 nL11))]) (fun (x, ra, gL11, nL11) H' => St [g88] H88 H' ∧ H'.get gL11 = some (.row ((slsOf ra f.compX x)) 22 true) ∧ (gL11 = g88 ∨ H88.next ≤ gL11) ∧ nL11 = (slsOf ra f.compX x).length ∧ x ≤ f.sz.length ∧ OwnRows H.next H' 2 ra f.compX x) (fun (x, ra, gL11, nL11) => f.sz.length - x) ((0, fun _ => none, _, _)) ⟨rfl, rfl, rfl, rfl, trivial⟩ ⟨rfl, rfl, trivial⟩ ?_ ?_
      ·
       refine ⟨.refl _ _, by first | assumption | exact at88 | simpa using at88, .inl rfl, by first | rfl | assumption | simp | omega, ?_⟩
       exact ⟨by omega, .zero _ _ _ _ _⟩
      ·
       rintro ⟨x, ra, gL11, nL11⟩ HL4 ⟨lst4, at_L11, pl_L11, ln_L11, hI⟩ KL4 hKL4
       refine .forget (fr' := [(13, some (.int .i64 (x : Int))), (11, some (.slice (some ⟨gL11, 0, none⟩) nL11 nL11)), (1, some _), (4, some _), (10, some _), (12, some _)]) ⟨rfl, rfl, rfl, rfl, rfl, rfl, trivial⟩ ?_
       have ge_L11 : H.next ≤ gL11 := by omega
       have nx_HL4 := lst4.nx
       replace hle := hle.st lst4 (fun k hk => ⟨by omega, trivial⟩)
       replace lst1 := lst1.st lst4 (fun k hk ho => by simp only [out, and_true] at ho ⊢ <;> omega)
       replace at1 := lst4.same _ _ ⟨by omega, trivial⟩ at1
       replace at_L4 := lst4.same _ _ ⟨by omega, trivial⟩ at_L4
       replace at_L7 := lst4.same _ _ ⟨by omega, trivial⟩ at_L7
       replace at87 := lst4.same _ _ ⟨by omega, trivial⟩ at87
       have lt_at_L11 := GHeap.lt_of_get at_L11
       replace hin := base_hin.mono hle
       clear hb1 fsh1 c51 c61 i11 i21 hm1 hi1 hmsh1 hish1
       have hb1 : SFun.At _ g1 0 f p := ⟨Mem.of_get at1, hin⟩
       obtain ⟨fsh1, c51, c61, i11, i21⟩ := hb1.get
       have hm1 : MemN _ _ _ _ _ := ⟨rfl, hb1.1⟩
       have hi1 := hb1.2
       have hmsh1 : MemN _ _ _ _ _ := ⟨rfl, fsh1.1⟩
       have hish1 := fsh1.2
       have rk := St.refl [gL11] HL4
       obtain ⟨hx, hR⟩ := hI
       have hat11 := at_L11
       have hfl : (slsOf ra f.compX x).length = x := length_slsOf _ _ _
       refine .seq (fun K22 hK22 => ?_)
       refine .seq (fun K23 hK23 => ?_)
       refine .region ?_
       refine .m rfl rfl rfl (.move rfl) ?_
       refine .m rfl rfl rfl (.fieldAddr fo_47_1_P rfl) ?_
       refine .m rfl rfl rfl (.load on_22_B rfl (by assumption)) ?_
       refine .m rfl rfl rfl (.len sl_22_A rfl) ?_
       refine .m rfl rfl rfl (.cmp rfl rfl rfl) ?_
       refine .nil ?_
       refine hK23 _ _ ?_
       refine .cond rfl (fun h93 => ?_) (fun h93 => ?_)
       ·
        simp only [sps] at h93
        have w1 := hS.seg (x := x) (by omega)
        have w2 := f.offs_get (n := f.sz.length) (i := x) (by omega)
        have w3 := hS.sz x (by omega)
        have i4 := Ints.of_get at_L4
        refine .skip ?_
        refine hK22 _ _ ?_
        refine .seq (fun K24 hK24 => ?_)
        refine .block ?_
        refine .regionD mixed_orders_B (.q 0 (.q 1 (.q 2 (.q 3 (.q 4 (.q 5 (.q 6 (.q 7 (.q 8 (.q 9 (.q 10 (.q 11 (.q 12 (.q 13 (.q 14 (.q 15 (.q 16 (.c 17 1 (.c 18 1 (.c 19 0 (.c 20 0 (.done)))))))))))))))))))))) (by kernel_rfl) ?_
        refine .m rfl rfl rfl rfl (.refl _) (.move rfl) ?_
        refine .m rfl rfl rfl rfl (.refl _) (.move rfl) ?_
        refine .m rfl rfl rfl rfl (.refl _) (.move rfl) ?_
        refine .m rfl rfl rfl rfl (.refl _) (.move rfl) ?_
        refine .m rfl rfl rfl rfl (.refl _) (.idxN sl_22_A (by assumption) rfl rfl (by omega)) ?_
        refine .m rfl rfl rfl rfl (.refl _) (.loadI on_2_A (by assumption) rfl (by omega)) ?_
        refine .m rfl rfl rfl rfl (.refl _) (.move rfl) ?_
        refine .m rfl rfl rfl rfl (.refl _) (.move rfl) ?_
        refine .m rfl rfl rfl rfl (.refl _) (.idxN sl_22_A (by assumption) rfl rfl (by omega)) ?_
        refine .m rfl rfl rfl rfl (.refl _) (.loadI on_2_A (by assumption) rfl (by omega)) ?_
        refine .m rfl rfl rfl rfl (.refl _) (.fieldAddr fo_47_1_P rfl) ?_
        refine .m rfl rfl rfl rfl (.refl _) (.load on_22_B rfl (by assumption)) ?_
        refine .m rfl rfl rfl rfl (.refl _) (.move rfl) ?_
        refine .m rfl rfl rfl rfl (.refl _) (.idxN sl_22_A (by assumption) rfl rfl (by omega)) ?_
        refine .m rfl rfl rfl rfl (.refl _) (.loadI on_2_A (by assumption) rfl (by omega)) ?_
        refine .m rfl rfl rfl rfl (.refl _) (.add rfl rfl rfl (by omega) (by omega)) ?_
        refine .m rfl rfl rfl rfl (.refl _) (.sliceI sl_22_A rfl at87 rfl rfl (by omega) (by omega) (by omega)) ?_
        refine .call1 rfl rfl rfl rfl rfl @Try.call57 rfl (l01OwnN_c (xs := f.compX x) (by rw [w2]; exact Ints.seg at87 (by omega)) (by unfold SFun.compX; rw [length_segL (by omega)]; omega)) ?_
        rintro _ H113 ⟨le113, g113, rfl, at113, ge113⟩
        have hbl := le113
        refine ⟨hbl, ?_⟩
        have nx_H113 := le113.1
        replace hle := hle.trans le113
        replace lst1 := lst1.le le113
        replace lst4 := lst4.le le113
        replace rk := rk.le le113
        replace at1 := le113.2 _ _ at1
        replace at_L4 := le113.2 _ _ at_L4
        replace at_L7 := le113.2 _ _ at_L7
        replace at87 := le113.2 _ _ at87
        replace at_L11 := le113.2 _ _ at_L11
        have lt_at113 := GHeap.lt_of_get at113
        replace hin := base_hin.mono hle
        clear hb1 fsh1 c51 c61 i11 i21 hm1 hi1 hmsh1 hish1
        have hb1 : SFun.At _ g1 0 f p := ⟨Mem.of_get at1, hin⟩
        obtain ⟨fsh1, c51, c61, i11, i21⟩ := hb1.get
        have hm1 : MemN _ _ _ _ _ := ⟨rfl, hb1.1⟩
        have hi1 := hb1.2
        have hmsh1 : MemN _ _ _ _ _ := ⟨rfl, fsh1.1⟩
        have hish1 := fsh1.2
        clear i4
        have i4 := Ints.of_get at_L4
        have i113 := Ints.of_get at113
        refine .c1 rfl rfl rfl rfl (.litR rfl sl_23_B ze_22_E rfl rfl (by omega) (by omega) rfl rfl) ?_
        rintro _ H114 ⟨g114, rfl, le114, ge114, at114⟩
        replace hbl := hbl.trans le114
        refine ⟨hbl, ?_⟩
        have nx_H114 := le114.1
        replace hle := hle.trans le114
        replace lst1 := lst1.le le114
        replace lst4 := lst4.le le114
        replace rk := rk.le le114
        replace at1 := le114.2 _ _ at1
        replace at_L4 := le114.2 _ _ at_L4
        replace at_L7 := le114.2 _ _ at_L7
        replace at87 := le114.2 _ _ at87
        replace at_L11 := le114.2 _ _ at_L11
        replace at113 := le114.2 _ _ at113
        have lt_at114 := GHeap.lt_of_get at114
        replace hin := base_hin.mono hle
        clear hb1 fsh1 c51 c61 i11 i21 hm1 hi1 hmsh1 hish1
        have hb1 : SFun.At _ g1 0 f p := ⟨Mem.of_get at1, hin⟩
        obtain ⟨fsh1, c51, c61, i11, i21⟩ := hb1.get
        have hm1 : MemN _ _ _ _ _ := ⟨rfl, hb1.1⟩
        have hi1 := hb1.2
        have hmsh1 : MemN _ _ _ _ _ := ⟨rfl, fsh1.1⟩
        have hish1 := fsh1.2
        clear i4
        have i4 := Ints.of_get at_L4
        clear i113
        have i113 := Ints.of_get at113
        refine .c0 rfl rfl rfl rfl (.appendV rfl sl_23_B ze_22_E rfl by_22_E sl_23_B rfl rfl (by assumption) (by assumption) (by first | omega | (simp <;> omega)) rfl rfl (by omega) (by omega)) ?_
        rintro _ H115 ⟨g115, rfl, st115, ge115, at115⟩
        have nx_H115 := st115.nx
        replace hle := hle.st st115 (fun k hk => ⟨by omega, trivial⟩)
        replace lst1 := lst1.st st115 (fun k hk ho => by simp only [out, and_true] at ho ⊢ <;> omega)
        replace lst4 := lst4.st st115 (fun k hk ho => by simp only [out, and_true] at ho ⊢ <;> omega)
        replace rk := rk.st st115 (fun k hk ho => by simp only [out, and_true] at ho ⊢ <;> omega)
        replace at1 := st115.same _ _ ⟨by omega, trivial⟩ at1
        replace at_L4 := st115.same _ _ ⟨by omega, trivial⟩ at_L4
        replace at_L7 := st115.same _ _ ⟨by omega, trivial⟩ at_L7
        replace at87 := st115.same _ _ ⟨by omega, trivial⟩ at87
        replace at113 := st115.same _ _ ⟨by omega, trivial⟩ at113
        replace at114 := st115.same _ _ ⟨by omega, trivial⟩ at114
        have lt_at115 := GHeap.lt_of_get at115
        replace hin := base_hin.mono hle
        clear hb1 fsh1 c51 c61 i11 i21 hm1 hi1 hmsh1 hish1
        have hb1 : SFun.At _ g1 0 f p := ⟨Mem.of_get at1, hin⟩
        obtain ⟨fsh1, c51, c61, i11, i21⟩ := hb1.get
        have hm1 : MemN _ _ _ _ _ := ⟨rfl, hb1.1⟩
        have hi1 := hb1.2
        have hmsh1 : MemN _ _ _ _ _ := ⟨rfl, fsh1.1⟩
        have hish1 := fsh1.2
        clear i4
        have i4 := Ints.of_get at_L4
        clear i113
        have i113 := Ints.of_get at113
        refine .d0 rfl rfl rfl rfl (.quiet (.assign rfl) CIs.mk) ?_
        refine .done ?_
        refine hK24 _ _ ?_
        refine .region ?_
        refine .m rfl rfl rfl (.move rfl) ?_
        refine .m rfl rfl rfl (.add rfl rfl rfl (by omega) (by omega)) ?_
        refine .m rfl rfl rfl (.assign rfl) ?_
        refine .nil ?_
        refine hKL4 ((x + 1, upd ra x (some ⟨g113, 0, none⟩), _, _)) _ _ ?_ ?_ ⟨rfl, rfl, rfl, rfl, rfl, rfl, trivial⟩
        ·
         refine ⟨lst4, by first | assumption | (rw [slsOf_succ]; assumption), by omega, by first | omega | (simp only [List.length_append, List.length_cons, List.length_nil] <;> omega) | (rw [slsOf_succ] <;> (first | omega | (simp only [List.length_append, List.length_cons, List.length_nil] <;> omega))), ?_⟩
         exact ⟨by omega, hR.succ rk hat11 rfl (by assumption) (by omega) (by omega)⟩
        ·
         (dsimp only; omega)
       ·
        try simp only [sps] at h93
        refine .exit ?_
        refine hK20 _ _ ?_
        refine .seq (fun K25 hK25 => ?_)
        refine .seq (fun K26 hK26 => ?_)
        refine .region ?_
        refine .m rfl rfl rfl (.assign rfl) ?_
        refine .nil ?_
        refine hK26 _ _ ?_
        refine .block ?_
        obtain rfl : x = f.sz.length := by omega
        have hR2 := hR.done at_L11 (by omega)
        refine .loopR (σ := Nat × Int) [(10, some _), (11, some _)] (fun (i, t) => [(14, some (.int .i64 (i : Int))), (12, some (.int .i64 t))]) (fun (i, t) H' => HL4 = H' ∧ i ≤ f.comps.length ∧ 0 ≤ t ∧ t = topN f.comps i) (fun (i, t) => f.comps.length - i) ((0, 0)) ⟨rfl, rfl, trivial⟩ ⟨rfl, rfl, trivial⟩ ?_ ?_
        ·
         refine ⟨rfl, ?_⟩
         exact ⟨by omega, by omega, by simp [topN, topL]⟩
        ·
         rintro ⟨i, t⟩ _ ⟨rfl, hI⟩ KL5 hKL5
         refine .forget (fr' := [(14, some (.int .i64 (i : Int))), (12, some (.int .i64 t)), (10, some _), (11, some _)]) ⟨rfl, rfl, rfl, rfl, trivial⟩ ?_
         obtain ⟨hi, ht, hT⟩ := hI
         have i87 := Ints.of_get at87
         refine .seq (fun K27 hK27 => ?_)
         refine .seq (fun K28 hK28 => ?_)
         refine .region ?_
         refine .m rfl rfl rfl (.move rfl) ?_
         refine .m rfl rfl rfl (.move rfl) ?_
         refine .m rfl rfl rfl (.len sl_22_A rfl) ?_
         refine .m rfl rfl rfl (.cmp rfl rfl rfl) ?_
         refine .nil ?_
         refine hK28 _ _ ?_
         refine .cond rfl (fun h119 => ?_) (fun h119 => ?_)
         ·
          simp only [sps] at h119
          have q1 := f.comps_bd i (by omega)
          refine .skip ?_
          refine hK27 _ _ ?_
          refine .seq (fun K29 hK29 => ?_)
          refine .block ?_
          refine .region ?_
          refine .m rfl rfl rfl (.move rfl) ?_
          refine .m rfl rfl rfl (.move rfl) ?_
          refine .m rfl rfl rfl (.move rfl) ?_
          refine .m rfl rfl rfl (.idxN sl_22_A (by assumption) rfl rfl (by omega)) ?_
          refine .m rfl rfl rfl (.loadI on_2_A (by assumption) rfl (by omega)) ?_
          refine .m rfl rfl rfl (.add rfl rfl rfl (by omega) (by omega)) ?_
          refine .m rfl rfl rfl (.max2 rfl rfl) ?_
          refine .m rfl rfl rfl (.assign rfl) ?_
          refine .nil ?_
          refine hK29 _ _ ?_
          refine .region ?_
          refine .m rfl rfl rfl (.move rfl) ?_
          refine .m rfl rfl rfl (.add rfl rfl rfl (by omega) (by omega)) ?_
          refine .m rfl rfl rfl (.assign rfl) ?_
          refine .nil ?_
          refine hKL5 ((i + 1, max t (f.comps.getD i 0 + 1))) _ _ ?_ ?_ ⟨rfl, rfl, rfl, rfl, trivial⟩
          ·
           refine ⟨rfl, ?_⟩
           exact ⟨by omega, by omega, by rw [topN_succ (by omega), ← hT]⟩
          ·
           (dsimp only; omega)
         ·
          try simp only [sps] at h119
          refine .exit ?_
          refine hK25 _ _ ?_
          refine .seq (fun K30 hK30 => ?_)
          refine .region ?_
          refine .m rfl rfl rfl (.move rfl) ?_
          refine .m rfl rfl rfl (.move rfl) ?_
          refine .m rfl rfl rfl (.assign rfl) ?_
          refine .m rfl rfl rfl (.assign rfl) ?_
          refine .nil ?_
          refine hK30 _ _ ?_
          refine .ret ?_
          -- leaf e1
          refine hret _ _ ?_
          refine ⟨_, _, rfl, rfl, ?_⟩
          obtain rfl : i = f.comps.length := by omega
          exact ⟨hle, _, ra, by rw [hT, ln_L11]; unfold topN; rw [List.take_length]; simp, hR2⟩
theorem specSetComponents_c {f : SFun} {p : SFunP} {H : GHeap} (hin : f.In H p := by assumption) (hs : f.Small := by assumption) :
    GCalls Try.prog 15 [.agg (f.cells p).toArray] H (fun v H' => H.Le H' ∧ ∃ a r, v = .tuple #[.slice a f.compR.length f.compR.length, .int .i64 f.compN, .int .i64 f.compC] ∧ IntssR H.next H' a f.compR r) := by
  refine GCalls.body (N := 17) (rs := [.tmp 2, .tmp 3, .tmp 4]) Try.func15 rfl rfl rfl rfl (fun Qx hret hend => ?_)
  refine .forget (fr' := [(0, some _)]) ⟨rfl, trivial⟩ ?_
  have hle := GHeap.Le.refl H
  have base_hin := hin
  refine .seq (fun K1 hK1 => ?_)
  refine .region ?_
  refine .r rfl rfl rfl (.boxR rfl sz_47_VSFun rfl) ?_
  rintro _ H1 ⟨g1, rfl, le1, ge1, at1⟩
  have nx_H1 := le1.1
  replace hle := hle.trans le1
  have lt_at1 := GHeap.lt_of_get at1
  replace hin := base_hin.mono hle
  have hb1 : SFun.At _ g1 0 f p := ⟨Mem.of_get at1, hin⟩
  obtain ⟨fsh1, c51, c61, i11, i21⟩ := hb1.get
  have hm1 : MemN _ _ _ _ _ := ⟨rfl, hb1.1⟩
  have hi1 := hb1.2
  have hmsh1 : MemN _ _ _ _ _ := ⟨rfl, fsh1.1⟩
  have hish1 := fsh1.2
  refine .m rfl rfl rfl (.assign rfl) ?_
  refine .m rfl rfl rfl (.assign rfl) ?_
  refine .m rfl rfl rfl (.assign rfl) ?_
  refine .nil ?_
  refine hK1 _ _ ?_
  refine .seq (fun K2 hK2 => ?_)
  refine .seq (fun K3 hK3 => ?_)
  refine .region ?_
  refine .m rfl rfl rfl (.loadM ag_47_VSFun rfl ⟨rfl, Mem.of_get at1⟩) ?_
  refine .callQ rfl rfl rfl rfl @Try.call41 rfl (l19Is_c) ?_
  refine .m rfl rfl rfl (.not rfl) ?_
  refine .nil ?_
  refine hK3 _ _ ?_
  refine .cond rfl (fun h9 => ?_) (fun h9 => ?_)
  ·
   try simp only [sps] at h9
   refine .seq (fun K4 hK4 => ?_)
   refine .region ?_
   refine .m rfl rfl rfl (.assign rfl) ?_
   refine .m rfl rfl rfl (.assign rfl) ?_
   refine .m rfl rfl rfl (.assign rfl) ?_
   refine .nil ?_
   refine hK4 _ _ ?_
   refine .ret ?_
   -- leaf e1
   refine hret _ _ ?_
   refine ⟨_, _, _, rfl, rfl, rfl, ?_⟩
   obtain ⟨e1, e2, e3⟩ := f.comp_not (by simpa only [sps] using h9)
   rw [e1, e2, e3]
   exact ⟨hle, none, fun _ => none, rfl, .nil _ _ _⟩
  ·
   simp only [sps] at h9
   have hS := h9.1
   refine .skip ?_
   refine hK2 _ _ ?_
   refine .seq (fun K5 hK5 => ?_)
   refine .region ?_
   refine .m rfl rfl rfl (.loadM ag_47_VSFun rfl ⟨rfl, Mem.of_get at1⟩) ?_
   refine .call rfl rfl rfl rfl @Try.call42 rfl (l21Components_c) ?_
   rintro _ H12 ⟨le12, a12, r12, rfl, v12⟩
   have nx_H12 := le12.1
   replace hle := hle.trans le12
   replace at1 := le12.2 _ _ at1
   have bs_v12 := v12
   have lv_v12 : Keep H1.next H12 H12 := fun _ _ _ h => h
   replace hin := base_hin.mono hle
   clear hb1 fsh1 c51 c61 i11 i21 hm1 hi1 hmsh1 hish1
   have hb1 : SFun.At _ g1 0 f p := ⟨Mem.of_get at1, hin⟩
   obtain ⟨fsh1, c51, c61, i11, i21⟩ := hb1.get
   have hm1 : MemN _ _ _ _ _ := ⟨rfl, hb1.1⟩
   have hi1 := hb1.2
   have hmsh1 : MemN _ _ _ _ _ := ⟨rfl, fsh1.1⟩
   have hish1 := fsh1.2
   have i12 := v12.intss
   refine .m rfl rfl rfl (.move rfl) ?_
   refine .m rfl rfl rfl (.extract rfl rfl) ?_
   refine .m rfl rfl rfl (.extract rfl rfl) ?_
   refine .m rfl rfl rfl (.assign rfl) ?_
   refine .m rfl rfl rfl (.assign rfl) ?_
   refine .nil ?_
   refine hK5 _ _ ?_
   refine .seq (fun K6 hK6 => ?_)
   refine .region ?_
   refine .m rfl rfl rfl (.move rfl) ?_
   refine .m rfl rfl rfl (.move rfl) ?_
   refine .m rfl rfl rfl (.assign rfl) ?_
   refine .m rfl rfl rfl (.assign rfl) ?_
   refine .m rfl rfl rfl (.assign rfl) ?_
   refine .nil ?_
   refine hK6 _ _ ?_
   refine .ret ?_
   -- leaf e2
   refine hret _ _ ?_
   refine ⟨_, _, _, rfl, rfl, rfl, ?_⟩
   obtain ⟨e1, e2, e3⟩ := f.comp_ok h9
   rw [e1, e2, e3]
   exact ⟨hle, a12, r12, rfl, v12.keep (.of_le (.refl _)) (by omega)⟩
theorem implSetComponents_c {f : SFun} {p : SFunP} {H : GHeap} (hin : f.In H p := by assumption) (hs : f.Small := by assumption) :
    GCalls Try.prog 17 [.agg (f.cells p).toArray] H (fun v H' => H.Le H' ∧ ∃ a r, v = .tuple #[.slice a f.compR.length f.compR.length, .int .i64 f.compN, .int .i64 f.compC] ∧ IntssR H.next H' a f.compR r) := by
  refine GCalls.body (N := 15) (rs := [.tmp 2, .tmp 3, .tmp 4]) Try.func17 rfl rfl rfl rfl (fun Qx hret hend => ?_)
  refine .forget (fr' := [(0, some _)]) ⟨rfl, trivial⟩ ?_
  have hle := GHeap.Le.refl H
  have base_hin := hin
  refine .seq (fun K1 hK1 => ?_)
  refine .region ?_
  refine .r rfl rfl rfl (.boxR rfl sz_47_VSFun rfl) ?_
  rintro _ H1 ⟨g1, rfl, le1, ge1, at1⟩
  have nx_H1 := le1.1
  replace hle := hle.trans le1
  have lt_at1 := GHeap.lt_of_get at1
  replace hin := base_hin.mono hle
  have hb1 : SFun.At _ g1 0 f p := ⟨Mem.of_get at1, hin⟩
  obtain ⟨fsh1, c51, c61, i11, i21⟩ := hb1.get
  have hm1 : MemN _ _ _ _ _ := ⟨rfl, hb1.1⟩
  have hi1 := hb1.2
  have hmsh1 : MemN _ _ _ _ _ := ⟨rfl, fsh1.1⟩
  have hish1 := fsh1.2
  refine .m rfl rfl rfl (.assign rfl) ?_
  refine .m rfl rfl rfl (.assign rfl) ?_
  refine .m rfl rfl rfl (.assign rfl) ?_
  refine .nil ?_
  refine hK1 _ _ ?_
  refine .seq (fun K2 hK2 => ?_)
  refine .seq (fun K3 hK3 => ?_)
  refine .region ?_
  refine .callQ rfl rfl rfl rfl @Try.call44 rfl (isSetFunctor_c) ?_
  refine .m rfl rfl rfl (.not rfl) ?_
  refine .nil ?_
  refine hK3 _ _ ?_
  refine .cond rfl (fun h8 => ?_) (fun h8 => ?_)
  ·
   try simp only [sps] at h8
   refine .seq (fun K4 hK4 => ?_)
   refine .region ?_
   refine .m rfl rfl rfl (.assign rfl) ?_
   refine .m rfl rfl rfl (.assign rfl) ?_
   refine .m rfl rfl rfl (.assign rfl) ?_
   refine .nil ?_
   refine hK4 _ _ ?_
   refine .ret ?_
   -- leaf e1
   refine hret _ _ ?_
   refine ⟨_, _, _, rfl, rfl, rfl, ?_⟩
   obtain ⟨e1, e2, e3⟩ := f.comp_not (by simpa only [sps] using h8)
   rw [e1, e2, e3]
   exact ⟨hle, none, fun _ => none, rfl, .nil _ _ _⟩
  ·
   simp only [sps] at h8
   have hS := h8.1
   refine .skip ?_
   refine hK2 _ _ ?_
   refine .seq (fun K5 hK5 => ?_)
   refine .region ?_
   refine .call rfl rfl rfl rfl @Try.call45 rfl (components_c) ?_
   rintro _ H10 ⟨le10, a10, r10, rfl, v10⟩
   have nx_H10 := le10.1
   replace hle := hle.trans le10
   replace at1 := le10.2 _ _ at1
   have bs_v10 := v10
   have lv_v10 : Keep H1.next H10 H10 := fun _ _ _ h => h
   replace hin := base_hin.mono hle
   clear hb1 fsh1 c51 c61 i11 i21 hm1 hi1 hmsh1 hish1
   have hb1 : SFun.At _ g1 0 f p := ⟨Mem.of_get at1, hin⟩
   obtain ⟨fsh1, c51, c61, i11, i21⟩ := hb1.get
   have hm1 : MemN _ _ _ _ _ := ⟨rfl, hb1.1⟩
   have hi1 := hb1.2
   have hmsh1 : MemN _ _ _ _ _ := ⟨rfl, fsh1.1⟩
   have hish1 := fsh1.2
   have i10 := v10.intss
   refine .m rfl rfl rfl (.move rfl) ?_
   refine .m rfl rfl rfl (.extract rfl rfl) ?_
   refine .m rfl rfl rfl (.extract rfl rfl) ?_
   refine .m rfl rfl rfl (.assign rfl) ?_
   refine .m rfl rfl rfl (.assign rfl) ?_
   refine .nil ?_
   refine hK5 _ _ ?_
   refine .seq (fun K6 hK6 => ?_)
   refine .region ?_
   refine .m rfl rfl rfl (.move rfl) ?_
   refine .m rfl rfl rfl (.move rfl) ?_
   refine .m rfl rfl rfl (.assign rfl) ?_
   refine .m rfl rfl rfl (.assign rfl) ?_
   refine .m rfl rfl rfl (.assign rfl) ?_
   refine .nil ?_
   refine hK6 _ _ ?_
   refine .ret ?_
   -- leaf e2
   refine hret _ _ ?_
   refine ⟨_, _, _, rfl, rfl, rfl, ?_⟩
   obtain ⟨e1, e2, e3⟩ := f.comp_ok h8
   rw [e1, e2, e3]
   exact ⟨hle, a10, r10, rfl, v10.keep (.of_le (.refl _)) (by omega)⟩
end Go.Proofs.Ytkcpjflhjghapaa
/- Writing over lists, and finding again what was written. No condition but those of each statement. -/
namespace Go.Proofs.Ytkcpjflhjghapaa
open Go Go.GL Go.RowKit Go.Proofs
theorem markInt64S_own {g : Nat} {e : TypeId} {xs : List Int} {k : Int} {H : GHeap} (at0 : H.get g = some (.row (ints xs) e true)) (hk : 0 ≤ k) (hk' : k + xs.length ≤ 4611686018427387904) :
    GCalls Try.prog 12 [.slice (some ⟨g, 0, none⟩) xs.length xs.length, .int .i64 k] H (fun v H' => v = .int .i64 (k + xs.length) ∧ St [g] H H' ∧ H'.get g = some (.row (ints (seqL k xs.length)) e true)) := by
  refine GCalls.body (N := 19) (rs := [.tmp 4]) Try.func12 rfl rfl rfl rfl (fun Qx hret hend => ?_)
  refine .forget (fr' := [(0, some _), (1, some _)]) ⟨rfl, rfl, trivial⟩ ?_
  have lt_at0 := GHeap.lt_of_get at0
  refine .seq (fun K1 hK1 => ?_)
  refine .region ?_
  refine .m rfl rfl rfl (.assign rfl) ?_
  refine .nil ?_
  refine hK1 _ _ ?_
  refine .seq (fun K2 hK2 => ?_)
  refine .seq (fun K3 hK3 => ?_)
  refine .region ?_
  refine .m rfl rfl rfl (.assign rfl) ?_
  refine .nil ?_
  refine hK3 _ _ ?_
  refine .block ?_
  refine .loopR (σ := Nat × Int × List Int) [(0, some _)] (fun (i, q, ys) => [(5, some (.int .i64 (i : Int))), (1, some (.int .i64 q))]) (fun (i, q, ys) H' => St [g] H H' ∧ H'.get g = some (.row (ints ys) e true) ∧ i ≤ xs.length ∧ q = k + i ∧ ys.length = xs.length ∧ ∀ j, j < i → ys.getD j 0 = k + j) (fun (i, q, ys) => xs.length - i) ((0, k, xs)) ⟨rfl, trivial⟩ ⟨rfl, rfl, trivial⟩ ?_ ?_
  ·
   refine ⟨.refl _ _, by first | assumption | exact at0 | simpa using at0, ?_⟩
   exact ⟨by omega, by omega, rfl, fun _ _ => by omega⟩
  ·
   rintro ⟨i, q, ys⟩ HL1 ⟨lst1, at_L0, hI⟩ KL1 hKL1
   refine .forget (fr' := [(5, some (.int .i64 (i : Int))), (1, some (.int .i64 q)), (0, some _)]) ⟨rfl, rfl, rfl, trivial⟩ ?_
   have nx_HL1 := lst1.nx
   have lt_at_L0 := GHeap.lt_of_get at_L0
   obtain ⟨hi, hq, hyl, ha⟩ := hI
   have hsl := SlA.of_ints at_L0 hyl
   refine .seq (fun K4 hK4 => ?_)
   refine .seq (fun K5 hK5 => ?_)
   refine .region ?_
   refine .m rfl rfl rfl (.move rfl) ?_
   refine .m rfl rfl rfl (.move rfl) ?_
   refine .m rfl rfl rfl (.len sl_22_A rfl) ?_
   refine .m rfl rfl rfl (.cmp rfl rfl rfl) ?_
   refine .nil ?_
   refine hK5 _ _ ?_
   refine .cond rfl (fun h9 => ?_) (fun h9 => ?_)
   ·
    try simp only [sps] at h9
    refine .skip ?_
    refine hK4 _ _ ?_
    refine .seq (fun K6 hK6 => ?_)
    refine .block ?_
    refine .seq (fun K7 hK7 => ?_)
    refine .region ?_
    refine .m rfl rfl rfl (.move rfl) ?_
    refine .m rfl rfl rfl (.move rfl) ?_
    refine .m rfl rfl rfl (.move rfl) ?_
    refine .m rfl rfl rfl (.idxN sl_22_A (by assumption) rfl rfl (by omega)) ?_
    refine .r0 rfl rfl (.storeI rfl sz_2_E rfl rfl (by assumption) (by first | omega | (simp <;> omega))) ?_
    rintro _ H4004 ⟨rfl, st4004, at4004⟩
    have nx_H4004 := st4004.nx
    replace lst1 := lst1.st st4004 (fun k hk ho => by simp only [out, and_true] at ho ⊢ <;> omega)
    have lt_at4004 := GHeap.lt_of_get at4004
    refine .nil ?_
    refine hK7 _ _ ?_
    refine .region ?_
    refine .m rfl rfl rfl (.move rfl) ?_
    refine .m rfl rfl rfl (.add rfl rfl rfl (by omega) (by omega)) ?_
    refine .m rfl rfl rfl (.assign rfl) ?_
    refine .nil ?_
    refine hK6 _ _ ?_
    refine .region ?_
    refine .m rfl rfl rfl (.move rfl) ?_
    refine .m rfl rfl rfl (.add rfl rfl rfl (by omega) (by omega)) ?_
    refine .m rfl rfl rfl (.assign rfl) ?_
    refine .nil ?_
    refine hKL1 ((i + 1, q + 1, ys.set (0 + i) q)) _ _ ?_ ?_ ⟨rfl, rfl, rfl, trivial⟩
    ·
     refine ⟨lst1, by assumption, ?_⟩
     refine ⟨by omega, by omega, by simpa using hyl, fun j hj => ?_⟩
     rw [Nat.zero_add, getD_set (by omega)]
     split
     · rename_i e; rw [e]; exact hq
     · exact ha j (by omega)
    ·
     (dsimp only; omega)
   ·
    try simp only [sps] at h9
    refine .exit ?_
    refine hK2 _ _ ?_
    refine .seq (fun K8 hK8 => ?_)
    refine .region ?_
    refine .m rfl rfl rfl (.move rfl) ?_
    refine .m rfl rfl rfl (.assign rfl) ?_
    refine .nil ?_
    refine hK8 _ _ ?_
    refine .ret ?_
    -- leaf e1
    refine hret _ _ ?_
    refine ⟨_, rfl, ?_⟩
    obtain rfl : ys = seqL k xs.length := eq_of_getD (by rw [hyl, length_seqL]) fun j hj => by rw [length_seqL] at hj; rw [ha j (by omega), seqL_get hj]
    obtain rfl : i = xs.length := by omega
    exact ⟨by rw [hq], lst1, at_L0⟩
theorem markInt64S_nil {a : Option Addr} {k : Int} {H : GHeap} (hk : 0 ≤ k) (hk' : k ≤ 4611686018427387904) :
    GCalls Try.prog 12 [.slice a 0 0, .int .i64 k] H (fun v H' => v = .int .i64 k ∧ H' = H) := by
  refine GCalls.body (N := 19) (rs := [.tmp 4]) Try.func12 rfl rfl rfl rfl (fun Qx hret hend => ?_)
  refine .forget (fr' := [(0, some _), (1, some _)]) ⟨rfl, rfl, trivial⟩ ?_
  refine .seq (fun K1 hK1 => ?_)
  refine .region ?_
  refine .m rfl rfl rfl (.assign rfl) ?_
  refine .nil ?_
  refine hK1 _ _ ?_
  refine .seq (fun K2 hK2 => ?_)
  refine .seq (fun K3 hK3 => ?_)
  refine .region ?_
  refine .m rfl rfl rfl (.assign rfl) ?_
  refine .nil ?_
  refine hK3 _ _ ?_
  refine .block ?_
  refine .loopR (σ := Unit) [(0, some _)] (fun u => [(5, some (.int .i64 0)), (1, some (.int .i64 k))]) (fun u H' => H = H' ∧ True) (fun u => 0) (()) ⟨rfl, trivial⟩ ⟨rfl, rfl, trivial⟩ ?_ ?_
  ·
   refine ⟨rfl, ?_⟩
   exact trivial
  ·
   rintro u _ ⟨rfl, hI⟩ KL1 hKL1
   refine .forget (fr' := [(5, some (.int .i64 0)), (1, some (.int .i64 k)), (0, some _)]) ⟨rfl, rfl, rfl, trivial⟩ ?_
   refine .seq (fun K4 hK4 => ?_)
   refine .seq (fun K5 hK5 => ?_)
   refine .region ?_
   refine .m rfl rfl rfl (.move rfl) ?_
   refine .m rfl rfl rfl (.move rfl) ?_
   refine .m rfl rfl rfl (.len sl_22_A rfl) ?_
   refine .m rfl rfl rfl (.cmp rfl rfl rfl) ?_
   refine .nil ?_
   refine hK5 _ _ ?_
   refine .cond rfl (fun h9 => ?_) (fun h9 => ?_)
   ·
    exact absurd h9 (by simp)
   ·
    try simp only [sps] at h9
    refine .exit ?_
    refine hK2 _ _ ?_
    refine .seq (fun K6 hK6 => ?_)
    refine .region ?_
    refine .m rfl rfl rfl (.move rfl) ?_
    refine .m rfl rfl rfl (.assign rfl) ?_
    refine .nil ?_
    refine hK6 _ _ ?_
    refine .ret ?_
    -- leaf e1
    refine hret _ _ ?_
    refine ⟨_, rfl, ?_⟩
    exact ⟨rfl, rfl⟩
theorem markInt64S_c {a : Option Addr} {n lo hi : Nat} {k : Int} {H : GHeap} (h : IntsW lo hi H a n := by assumption) (hk : 0 ≤ k := by omega) (hk' : k + n ≤ 4611686018427387904 := by omega) :
    GCalls Try.prog 12 [.slice a n n, .int .i64 k] H (fun v H' => v = .int .i64 (k + n) ∧ Marked lo hi H H' [(a, n)] k) := by
  by_cases h0 : n = 0
  · subst h0
    refine (markInt64S_nil hk (by omega)).mono fun v H' ⟨h1, h2⟩ => ?_
    subst h2
    exact ⟨by rw [h1]; simp, .refl _ _ _, .refl _ _, fun _ => ⟨.inl rfl, trivial⟩⟩
  · rcases h with h | ⟨g, e, xs, rfl, h2, h3, h4, rfl⟩
    · exact absurd h h0
    · exact (markInt64S_own h4 hk hk').mono fun v H' ⟨k1, k2, k3⟩ => ⟨k1, .one h2 h3 h4 k2 k3 h0⟩
theorem heldInt64S_c {a : Option Addr} {n b : Nat} {k : Int} {H : GHeap} (h : Held b H [(a, n)] k := by assumption) (hk : 0 ≤ k := by omega) (hk' : k + n ≤ 4611686018427387904 := by omega) :
    GCalls Try.prog 13 [.slice a n n, .int .i64 k] H (Ret (.int .i64 (k + n)) H) := by
  have hi := h.ints
  have hl : (seqL k n).length = n := length_seqL k n
  have hsl : SlA H a n (fun i => .int .i64 ((seqL k n).getD i 0)) := by have hi' := hi; unfold Ints at hi'; rw [hl] at hi'; exact hi'
  refine GCalls.body (N := 21) (rs := [.tmp 4]) Try.func13 rfl rfl rfl rfl (fun Qx hret hend => ?_)
  refine .forget (fr' := [(0, some _), (1, some _)]) ⟨rfl, rfl, trivial⟩ ?_
  refine .seq (fun K1 hK1 => ?_)
  refine .region ?_
  refine .m rfl rfl rfl (.assign rfl) ?_
  refine .nil ?_
  refine hK1 _ _ ?_
  refine .seq (fun K2 hK2 => ?_)
  refine .seq (fun K3 hK3 => ?_)
  refine .region ?_
  refine .m rfl rfl rfl (.assign rfl) ?_
  refine .nil ?_
  refine hK3 _ _ ?_
  refine .block ?_
  refine .loopR (σ := Nat × Int) [(0, some _)] (fun (i, q) => [(5, some (.int .i64 (i : Int))), (1, some (.int .i64 q))]) (fun (i, q) H' => H = H' ∧ i ≤ n ∧ q = k + i) (fun (i, q) => n - i) ((0, k)) ⟨rfl, trivial⟩ ⟨rfl, rfl, trivial⟩ ?_ ?_
  ·
   refine ⟨rfl, ?_⟩
   exact ⟨by omega, by omega⟩
  ·
   rintro ⟨i, q⟩ _ ⟨rfl, hI⟩ KL1 hKL1
   refine .forget (fr' := [(5, some (.int .i64 (i : Int))), (1, some (.int .i64 q)), (0, some _)]) ⟨rfl, rfl, rfl, trivial⟩ ?_
   obtain ⟨hi, hq⟩ := hI
   refine .seq (fun K4 hK4 => ?_)
   refine .seq (fun K5 hK5 => ?_)
   refine .region ?_
   refine .m rfl rfl rfl (.move rfl) ?_
   refine .m rfl rfl rfl (.move rfl) ?_
   refine .m rfl rfl rfl (.len sl_22_A rfl) ?_
   refine .m rfl rfl rfl (.cmp rfl rfl rfl) ?_
   refine .nil ?_
   refine hK5 _ _ ?_
   refine .cond rfl (fun h9 => ?_) (fun h9 => ?_)
   ·
    try simp only [sps] at h9
    refine .skip ?_
    refine hK4 _ _ ?_
    refine .seq (fun K6 hK6 => ?_)
    refine .block ?_
    refine .seq (fun K7 hK7 => ?_)
    refine .seq (fun K8 hK8 => ?_)
    refine .region ?_
    refine .m rfl rfl rfl (.move rfl) ?_
    refine .m rfl rfl rfl (.move rfl) ?_
    refine .m rfl rfl rfl (.idxN sl_22_A hsl rfl rfl (by omega)) ?_
    refine .m rfl rfl rfl (.loadE on_2_A hsl rfl (by omega)) ?_
    refine .m rfl rfl rfl (.move rfl) ?_
    refine .m rfl rfl rfl (.cmp rfl rfl rfl) ?_
    refine .nil ?_
    refine hK8 _ _ ?_
    refine .cond rfl (fun h17 => ?_) (fun h17 => ?_)
    ·
     simp only [sps] at h17
     rw [seqL_get (by omega)] at h17
     refine .seq (fun K9 hK9 => ?_)
     refine .region ?_
     refine .m rfl rfl rfl (.assign rfl) ?_
     refine .nil ?_
     refine hK9 _ _ ?_
     refine .ret ?_
     -- leaf e1
     refine hret _ _ ?_
     refine ⟨_, rfl, ?_⟩
     exact absurd hq.symm (by omega)
    ·
     try simp only [sps] at h17
     refine .skip ?_
     refine hK7 _ _ ?_
     refine .region ?_
     refine .m rfl rfl rfl (.move rfl) ?_
     refine .m rfl rfl rfl (.add rfl rfl rfl (by omega) (by omega)) ?_
     refine .m rfl rfl rfl (.assign rfl) ?_
     refine .nil ?_
     refine hK6 _ _ ?_
     refine .region ?_
     refine .m rfl rfl rfl (.move rfl) ?_
     refine .m rfl rfl rfl (.add rfl rfl rfl (by omega) (by omega)) ?_
     refine .m rfl rfl rfl (.assign rfl) ?_
     refine .nil ?_
     refine hKL1 ((i + 1, q + 1)) _ _ ?_ ?_ ⟨rfl, rfl, rfl, trivial⟩
     ·
      refine ⟨rfl, ?_⟩
      exact ⟨by omega, by omega⟩
     ·
      (dsimp only; omega)
   ·
    try simp only [sps] at h9
    refine .exit ?_
    refine hK2 _ _ ?_
    refine .seq (fun K10 hK10 => ?_)
    refine .region ?_
    refine .m rfl rfl rfl (.move rfl) ?_
    refine .m rfl rfl rfl (.assign rfl) ?_
    refine .nil ?_
    refine hK10 _ _ ?_
    refine .ret ?_
    -- leaf e2
    refine hret _ _ ?_
    refine ⟨_, rfl, ?_⟩
    obtain rfl : i = n := by omega
    exact .of (by rw [hq])
theorem markInt64SS_c {a : Option Addr} {xss : List (List Int)} {r : Nat → Option Addr} {lo hi : Nat} {k : Int} {H : GHeap} (h : IntssW lo hi H a xss r := by assumption) (hk : 0 ≤ k := by omega) (hk' : k + sumL xss ≤ 4611686018427387904 := by omega) (hl : xss.length ≤ 1048576 := by omega) :
    GCalls Try.prog 21 [.slice a xss.length xss.length, .int .i64 k] H (fun v H' => v = .int .i64 (k + sumL xss) ∧ Marked lo hi H H' (rowsL r xss xss.length) k) := by
  refine GCalls.body (N := 19) (rs := [.tmp 4]) Try.func21 rfl rfl rfl rfl (fun Qx hret hend => ?_)
  refine .forget (fr' := [(0, some _), (1, some _)]) ⟨rfl, rfl, trivial⟩ ?_
  refine .seq (fun K1 hK1 => ?_)
  refine .region ?_
  refine .m rfl rfl rfl (.assign rfl) ?_
  refine .nil ?_
  refine hK1 _ _ ?_
  refine .seq (fun K2 hK2 => ?_)
  refine .seq (fun K3 hK3 => ?_)
  refine .region ?_
  refine .m rfl rfl rfl (.assign rfl) ?_
  refine .nil ?_
  refine hK3 _ _ ?_
  refine .block ?_
  refine .loopR (σ := Nat × Int) [(0, some _)] (fun (i, q) => [(5, some (.int .i64 (i : Int))), (1, some (.int .i64 q))]) (fun (i, q) H' => i ≤ xss.length ∧ q = k + sumL (xss.take i) ∧ Marked lo hi H H' (rowsL r xss i) k) (fun (i, q) => xss.length - i) ((0, k)) ⟨rfl, trivial⟩ ⟨rfl, rfl, trivial⟩ ?_ ?_
  ·
   exact ⟨by omega, by simp [sumL], .nil _ _ _ _⟩
  ·
   rintro ⟨i, q⟩ H' hI KL1 hKL1
   refine .forget (fr' := [(5, some (.int .i64 (i : Int))), (1, some (.int .i64 q)), (0, some _)]) ⟨rfl, rfl, rfl, trivial⟩ ?_
   obtain ⟨hi', hq, hm⟩ := hI
   have hw := h.stm hm.stm
   have hsl := hw.1
   have hle1 := sumL_take_le (xss := xss) (k := i + 1)
   refine .seq (fun K4 hK4 => ?_)
   refine .seq (fun K5 hK5 => ?_)
   refine .region ?_
   refine .m rfl rfl rfl (.move rfl) ?_
   refine .m rfl rfl rfl (.move rfl) ?_
   refine .m rfl rfl rfl (.len sl_23_B rfl) ?_
   refine .m rfl rfl rfl (.cmp rfl rfl rfl) ?_
   refine .nil ?_
   refine hK5 _ _ ?_
   refine .cond rfl (fun h9 => ?_) (fun h9 => ?_)
   ·
    simp only [sps] at h9
    have hts := sumL_take_succ (xss := xss) (k := i) (by omega)
    refine .skip ?_
    refine hK4 _ _ ?_
    refine .seq (fun K6 hK6 => ?_)
    refine .block ?_
    refine .region ?_
    refine .m rfl rfl rfl (.move rfl) ?_
    refine .m rfl rfl rfl (.move rfl) ?_
    refine .m rfl rfl rfl (.idxN sl_23_B hsl rfl rfl (by omega)) ?_
    refine .m rfl rfl rfl (.loadE on_22_B hsl rfl (by omega)) ?_
    refine .m rfl rfl rfl (.move rfl) ?_
    refine .call rfl rfl rfl rfl @Try.call12 rfl (markInt64S_c (hw.2.1 i (by omega)) (by omega) (by omega)) ?_
    rintro _ H17 ⟨rfl, mk17⟩
    refine .m rfl rfl rfl (.assign rfl) ?_
    refine .nil ?_
    refine hK6 _ _ ?_
    refine .region ?_
    refine .m rfl rfl rfl (.move rfl) ?_
    refine .m rfl rfl rfl (.add rfl rfl rfl (by omega) (by omega)) ?_
    refine .m rfl rfl rfl (.assign rfl) ?_
    refine .nil ?_
    refine hKL1 ((i + 1, _)) _ _ ?_ ?_ ⟨rfl, rfl, rfl, trivial⟩
    ·
     exact ⟨by omega, by rw [sumL_take_succ (by omega)]; omega, by rw [rowsL_succ]; exact hm.app' mk17 (by rw [lvSum_rowsL _ _ _ (by omega)]; omega)⟩
    ·
     (dsimp only; omega)
   ·
    try simp only [sps] at h9
    refine .exit ?_
    refine hK2 _ _ ?_
    refine .seq (fun K7 hK7 => ?_)
    refine .region ?_
    refine .m rfl rfl rfl (.move rfl) ?_
    refine .m rfl rfl rfl (.assign rfl) ?_
    refine .nil ?_
    refine hK7 _ _ ?_
    refine .ret ?_
    -- leaf e1
    refine hret _ _ ?_
    refine ⟨_, rfl, ?_⟩
    obtain rfl : i = xss.length := by omega
    rw [List.take_length] at hq
    exact ⟨by rw [hq], hm⟩
theorem heldRow {b : Nat} {H : GHeap} {r : Nat → Option Addr} {xss : List (List Int)} {k : Int} : ∀ {n : Nat}, n ≤ xss.length → Held b H (rowsL r xss n) k → ∀ i, i < n → Held b H [(r i, (xss.getD i []).length)] (k + sumL (xss.take i))
  | 0, _, _, i, hi => by omega
  | n + 1, hn, h, i, hi => by
    rw [rowsL_succ] at h
    obtain ⟨h1, h2⟩ := h.app
    rw [lvSum_rowsL _ _ _ (by omega)] at h2
    by_cases e : i = n
    · subst e; exact h2
    · exact heldRow (by omega) h1 i (by omega)
theorem heldInt64SS_c {a : Option Addr} {xss : List (List Int)} {r : Nat → Option Addr} {b : Nat} {k : Int} {H : GHeap} (hsl : SlA H a xss.length (fun i => .slice (r i) (xss.getD i []).length (xss.getD i []).length) := by assumption) (h : Held b H (rowsL r xss xss.length) k := by assumption) (hk : 0 ≤ k := by omega) (hk' : k + sumL xss ≤ 4611686018427387904 := by omega) (hl : xss.length ≤ 1048576 := by omega) :
    GCalls Try.prog 22 [.slice a xss.length xss.length, .int .i64 k] H (Ret (.int .i64 (k + sumL xss)) H) := by
  refine GCalls.body (N := 21) (rs := [.tmp 4]) Try.func22 rfl rfl rfl rfl (fun Qx hret hend => ?_)
  refine .forget (fr' := [(0, some _), (1, some _)]) ⟨rfl, rfl, trivial⟩ ?_
  refine .seq (fun K1 hK1 => ?_)
  refine .region ?_
  refine .m rfl rfl rfl (.assign rfl) ?_
  refine .nil ?_
  refine hK1 _ _ ?_
  refine .seq (fun K2 hK2 => ?_)
  refine .seq (fun K3 hK3 => ?_)
  refine .region ?_
  refine .m rfl rfl rfl (.assign rfl) ?_
  refine .nil ?_
  refine hK3 _ _ ?_
  refine .block ?_
  refine .loopR (σ := Nat × Int) [(0, some _)] (fun (i, q) => [(5, some (.int .i64 (i : Int))), (1, some (.int .i64 q))]) (fun (i, q) H' => H = H' ∧ i ≤ xss.length ∧ q = k + sumL (xss.take i)) (fun (i, q) => xss.length - i) ((0, k)) ⟨rfl, trivial⟩ ⟨rfl, rfl, trivial⟩ ?_ ?_
  ·
   refine ⟨rfl, ?_⟩
   exact ⟨by omega, by simp [sumL]⟩
  ·
   rintro ⟨i, q⟩ _ ⟨rfl, hI⟩ KL1 hKL1
   refine .forget (fr' := [(5, some (.int .i64 (i : Int))), (1, some (.int .i64 q)), (0, some _)]) ⟨rfl, rfl, rfl, trivial⟩ ?_
   obtain ⟨hi', hq⟩ := hI
   have hle1 := sumL_take_le (xss := xss) (k := i + 1)
   refine .seq (fun K4 hK4 => ?_)
   refine .seq (fun K5 hK5 => ?_)
   refine .region ?_
   refine .m rfl rfl rfl (.move rfl) ?_
   refine .m rfl rfl rfl (.move rfl) ?_
   refine .m rfl rfl rfl (.len sl_23_B rfl) ?_
   refine .m rfl rfl rfl (.cmp rfl rfl rfl) ?_
   refine .nil ?_
   refine hK5 _ _ ?_
   refine .cond rfl (fun h9 => ?_) (fun h9 => ?_)
   ·
    simp only [sps] at h9
    have hts := sumL_take_succ (xss := xss) (k := i) (by omega)
    have hr := heldRow (Nat.le_refl _) h i (by omega)
    rw [← hq] at hr
    refine .skip ?_
    refine hK4 _ _ ?_
    refine .seq (fun K6 hK6 => ?_)
    refine .block ?_
    refine .seq (fun K7 hK7 => ?_)
    refine .region ?_
    refine .m rfl rfl rfl (.move rfl) ?_
    refine .m rfl rfl rfl (.move rfl) ?_
    refine .m rfl rfl rfl (.idxN sl_23_B hsl rfl rfl (by omega)) ?_
    refine .m rfl rfl rfl (.loadE on_22_B hsl rfl (by omega)) ?_
    refine .m rfl rfl rfl (.move rfl) ?_
    refine .callQ rfl rfl rfl rfl @Try.call13 rfl (heldInt64S_c) ?_
    refine .m rfl rfl rfl (.assign rfl) ?_
    refine .nil ?_
    refine hK7 _ _ ?_
    refine .seq (fun K8 hK8 => ?_)
    refine .region ?_
    refine .m rfl rfl rfl (.move rfl) ?_
    refine .m rfl rfl rfl (.cmp rfl rfl rfl) ?_
    refine .nil ?_
    refine hK8 _ _ ?_
    refine .cond rfl (fun h19 => ?_) (fun h19 => ?_)
    ·
     exact absurd h19 (by simp; omega)
    ·
     try simp only [sps] at h19
     refine .skip ?_
     refine hK6 _ _ ?_
     refine .region ?_
     refine .m rfl rfl rfl (.move rfl) ?_
     refine .m rfl rfl rfl (.add rfl rfl rfl (by omega) (by omega)) ?_
     refine .m rfl rfl rfl (.assign rfl) ?_
     refine .nil ?_
     refine hKL1 ((i + 1, _)) _ _ ?_ ?_ ⟨rfl, rfl, rfl, trivial⟩
     ·
      refine ⟨rfl, ?_⟩
      exact ⟨by omega, by rw [sumL_take_succ (by omega)]; omega⟩
     ·
      (dsimp only; omega)
   ·
    try simp only [sps] at h9
    refine .exit ?_
    refine hK2 _ _ ?_
    refine .seq (fun K9 hK9 => ?_)
    refine .region ?_
    refine .m rfl rfl rfl (.move rfl) ?_
    refine .m rfl rfl rfl (.assign rfl) ?_
    refine .nil ?_
    refine hK9 _ _ ?_
    refine .ret ?_
    -- leaf e1
    refine hret _ _ ?_
    refine ⟨_, rfl, ?_⟩
    obtain rfl : i = xss.length := by omega
    rw [List.take_length] at hq
    exact .of (by rw [hq])
theorem heldInt64SSw_c {a : Option Addr} {xss : List (List Int)} {r : Nat → Option Addr} {lo hi b : Nat} {k : Int} {H : GHeap} (w : IntssW lo hi H a xss r := by assumption) (h : Held b H (rowsL r xss xss.length) k := by assumption) (hk : 0 ≤ k := by omega) (hk' : k + sumL xss ≤ 4611686018427387904 := by omega) (hl : xss.length ≤ 1048576 := by omega) :
    GCalls Try.prog 22 [.slice a xss.length xss.length, .int .i64 k] H (Ret (.int .i64 (k + sumL xss)) H) := heldInt64SS_c w.1 h hk hk' hl
theorem markCategory_c {c : Cat} {p : CatP} {lo hi : Nat} {k : Int} {H : GHeap} (w : CatW lo hi H c p := by assumption) (hs : c.Small := by assumption) (hk : 0 ≤ k := by omega) (hk' : k + c.total ≤ 4611686018427387904 := by omega) (hhi : hi ≤ H.next := by omega) :
    GCalls Try.prog 38 [.agg (c.cells p).toArray, .int .i64 k] H (fun v H' => v = .int .i64 (k + c.total) ∧ Marked lo hi H H' (c.leaves p) k) := by
  obtain ⟨w1, w2, w3, w4⟩ := w
  have ht : c.total = c.src.length + (c.tgt.length + (c.idn.length + sumL c.comp)) := rfl
  obtain ⟨s1, s2, s3, s4, s5, s6⟩ := hs
  refine GCalls.body (N := 22) (rs := [.tmp 4]) Try.func38 rfl rfl rfl rfl (fun Qx hret hend => ?_)
  refine .forget (fr' := [(0, some _), (1, some _)]) ⟨rfl, rfl, trivial⟩ ?_
  refine .seq (fun K1 hK1 => ?_)
  refine .region ?_
  refine .r rfl rfl rfl (.boxR rfl sz_32_D rfl) ?_
  rintro _ H2 ⟨g2, rfl, le2, ge2, at2⟩
  have nx_H2 := le2.1
  have lt_at2 := GHeap.lt_of_get at2
  have mm2 : MemN _ _ _ _ _ := ⟨rfl, Mem.of_get at2⟩
  replace w1 := w1.stm (.of_le le2)
  replace w2 := w2.stm (.of_le le2)
  replace w3 := w3.stm (.of_le le2)
  replace w4 := w4.stm (.of_le le2)
  have hc : Mem _ g2 0 (c.cells p) := Mem.of_get at2
  refine .m rfl rfl rfl (.assign rfl) ?_
  refine .nil ?_
  refine hK1 _ _ ?_
  refine .seq (fun K2 hK2 => ?_)
  refine .region ?_
  have c1 : H2.cell g2 (0 + 1) = some (.slice p.a1 c.src.length c.src.length) := Mem.of_get at2 1 _ rfl
  refine .m rfl rfl rfl (.fieldAddr fo_32_1_B rfl) ?_
  refine .m rfl rfl rfl (.load on_22_B rfl (by assumption)) ?_
  refine .m rfl rfl rfl (.move rfl) ?_
  refine .call rfl rfl rfl rfl @Try.call12 rfl (markInt64S_c) ?_
  rintro _ H8 ⟨rfl, mk8⟩
  have sm8 := mk8.stm
  have nx_H8 := sm8.nx
  replace at2 := sm8.same _ _ (by omega) at2
  replace w1 := w1.stm sm8
  replace w2 := w2.stm sm8
  replace w3 := w3.stm sm8
  replace w4 := w4.stm sm8
  clear mm2
  have mm2 : MemN _ _ _ _ _ := ⟨rfl, Mem.of_get at2⟩
  refine .m rfl rfl rfl (.assign rfl) ?_
  refine .nil ?_
  refine hK2 _ _ ?_
  refine .seq (fun K3 hK3 => ?_)
  refine .region ?_
  have c2 : H8.cell g2 (0 + 2) = some (.slice p.a2 c.tgt.length c.tgt.length) := Mem.of_get at2 2 _ rfl
  refine .m rfl rfl rfl (.fieldAddr fo_32_2_B rfl) ?_
  refine .m rfl rfl rfl (.load on_22_B rfl (by assumption)) ?_
  refine .m rfl rfl rfl (.move rfl) ?_
  refine .call rfl rfl rfl rfl @Try.call12 rfl (markInt64S_c) ?_
  rintro _ H12 ⟨rfl, mk12⟩
  have sm12 := mk12.stm
  have nx_H12 := sm12.nx
  replace at2 := sm12.same _ _ (by omega) at2
  replace w1 := w1.stm sm12
  replace w2 := w2.stm sm12
  replace w3 := w3.stm sm12
  replace w4 := w4.stm sm12
  clear mm2
  have mm2 : MemN _ _ _ _ _ := ⟨rfl, Mem.of_get at2⟩
  refine .m rfl rfl rfl (.assign rfl) ?_
  refine .nil ?_
  refine hK3 _ _ ?_
  refine .seq (fun K4 hK4 => ?_)
  refine .region ?_
  have c3 : H12.cell g2 (0 + 3) = some (.slice p.a3 c.idn.length c.idn.length) := Mem.of_get at2 3 _ rfl
  refine .m rfl rfl rfl (.fieldAddr fo_32_3_B rfl) ?_
  refine .m rfl rfl rfl (.load on_22_B rfl (by assumption)) ?_
  refine .m rfl rfl rfl (.move rfl) ?_
  refine .call rfl rfl rfl rfl @Try.call12 rfl (markInt64S_c) ?_
  rintro _ H16 ⟨rfl, mk16⟩
  have sm16 := mk16.stm
  have nx_H16 := sm16.nx
  replace at2 := sm16.same _ _ (by omega) at2
  replace w1 := w1.stm sm16
  replace w2 := w2.stm sm16
  replace w3 := w3.stm sm16
  replace w4 := w4.stm sm16
  clear mm2
  have mm2 : MemN _ _ _ _ _ := ⟨rfl, Mem.of_get at2⟩
  refine .m rfl rfl rfl (.assign rfl) ?_
  refine .nil ?_
  refine hK4 _ _ ?_
  refine .seq (fun K5 hK5 => ?_)
  refine .region ?_
  have c4 : H16.cell g2 (0 + 4) = some (.slice p.a4 c.comp.length c.comp.length) := Mem.of_get at2 4 _ rfl
  refine .m rfl rfl rfl (.fieldAddr fo_32_4_B rfl) ?_
  refine .m rfl rfl rfl (.load on_23_B rfl (by assumption)) ?_
  refine .m rfl rfl rfl (.move rfl) ?_
  refine .call rfl rfl rfl rfl @Try.call21 rfl (markInt64SS_c) ?_
  rintro _ H20 ⟨rfl, mk20⟩
  have sm20 := mk20.stm
  have nx_H20 := sm20.nx
  replace at2 := sm20.same _ _ (by omega) at2
  replace w1 := w1.stm sm20
  replace w2 := w2.stm sm20
  replace w3 := w3.stm sm20
  replace w4 := w4.stm sm20
  clear mm2
  have mm2 : MemN _ _ _ _ _ := ⟨rfl, Mem.of_get at2⟩
  refine .m rfl rfl rfl (.assign rfl) ?_
  refine .nil ?_
  refine hK5 _ _ ?_
  refine .seq (fun K6 hK6 => ?_)
  refine .region ?_
  refine .m rfl rfl rfl (.move rfl) ?_
  refine .m rfl rfl rfl (.assign rfl) ?_
  refine .nil ?_
  refine hK6 _ _ ?_
  refine .ret ?_
  -- leaf e1
  refine hret _ _ ?_
  refine ⟨_, rfl, ?_⟩
  exact ⟨by rw [ht]; congr 1; omega, .le_left le2 (mk8.app' (mk12.app' (mk16.app' mk20 (by simp [lvSum])) (by simp [lvSum])) (by simp [lvSum]))⟩
end Go.Proofs.Ytkcpjflhjghapaa
/- The laws' helpers for Part. No condition but those of each statement. -/
namespace Go.Proofs.Ytkcpjflhjghapaa
open Go Go.GL Go.RowKit Go.Proofs
end Go.Proofs.Ytkcpjflhjghapaa
/- Parts of set functors. No condition but those of each statement. -/
namespace Go.Proofs.Ytkcpjflhjghapaa
open Go Go.GL Go.RowKit Go.Proofs
theorem slA_mem1 {H : GHeap} {k n i : Nat} {f : Nat → Value} (h : SlA H (some ⟨k, 0, none⟩) n f) (hi : i < n) : MemN H k (0 + i) 1 [f i] := by
  refine ⟨rfl, fun j v hv => ?_⟩
  rcases h with h | ⟨g, o, e, h⟩
  · omega
  · cases e
    have := h i hi
    match j, hv with
    | 0, hv => simp at hv; subst hv; exact this
end Go.Proofs.Ytkcpjflhjghapaa
/- Marks on set functors, their maps and parts. No condition but those of each statement. -/
namespace Go.Proofs.Ytkcpjflhjghapaa
open Go Go.GL Go.RowKit Go.Proofs
theorem markSetFunctor_c {c : SFun} {p : SFunP} {lo hi : Nat} {k : Int} {H : GHeap} (w : SFunW lo hi H c p := by assumption) (hs : c.Small := by assumption) (hk : 0 ≤ k := by omega) (hk' : k + c.total ≤ 4611686018427387904 := by omega) (hhi : hi ≤ H.next := by omega) :
    GCalls Try.prog 20 [.agg (c.cells p).toArray, .int .i64 k] H (fun v H' => v = .int .i64 (k + c.total) ∧ Marked lo hi H H' (c.leaves p) k) := by
  obtain ⟨w1, w2, w3⟩ := w
  have ht : c.total = c.sh.total + (c.sz.length + sumL c.ac) := rfl
  obtain ⟨s1, s2, s3, s4⟩ := hs
  refine GCalls.body (N := 18) (rs := [.tmp 4]) Try.func20 rfl rfl rfl rfl (fun Qx hret hend => ?_)
  refine .forget (fr' := [(0, some _), (1, some _)]) ⟨rfl, rfl, trivial⟩ ?_
  refine .seq (fun K1 hK1 => ?_)
  refine .region ?_
  refine .r rfl rfl rfl (.boxR rfl sz_47_VSFun rfl) ?_
  rintro _ H2 ⟨g2, rfl, le2, ge2, at2⟩
  have nx_H2 := le2.1
  have lt_at2 := GHeap.lt_of_get at2
  have mm2 : MemN _ _ _ _ _ := ⟨rfl, Mem.of_get at2⟩
  replace w1 := w1.stm (.of_le le2)
  replace w2 := w2.stm (.of_le le2)
  replace w3 := w3.stm (.of_le le2)
  refine .m rfl rfl rfl (.assign rfl) ?_
  refine .nil ?_
  refine hK1 _ _ ?_
  refine .seq (fun K2 hK2 => ?_)
  refine .region ?_
  have m1 : MemN H2 g2 (0 + 0) 5 (c.sh.cells p.sh) := ⟨rfl, Mem.left (bs := [.slice p.a1 c.sz.length c.sz.length, .slice p.a2 c.ac.length c.ac.length]) (Mem.of_get at2)⟩
  refine .m rfl rfl rfl (.fieldAddr fo_47_0_P rfl) ?_
  refine .m rfl rfl rfl (.loadM ag_32_D rfl (by assumption)) ?_
  refine .m rfl rfl rfl (.move rfl) ?_
  refine .call rfl rfl rfl rfl @Try.call38 rfl (markCategory_c) ?_
  rintro _ H8 ⟨rfl, mk8⟩
  have sm8 := mk8.stm
  have nx_H8 := sm8.nx
  replace at2 := sm8.same _ _ (by omega) at2
  replace w1 := w1.stm sm8
  replace w2 := w2.stm sm8
  replace w3 := w3.stm sm8
  clear mm2
  have mm2 : MemN _ _ _ _ _ := ⟨rfl, Mem.of_get at2⟩
  refine .m rfl rfl rfl (.assign rfl) ?_
  refine .nil ?_
  refine hK2 _ _ ?_
  refine .seq (fun K3 hK3 => ?_)
  refine .region ?_
  have c1 : H8.cell g2 (0 + 5) = some (.slice p.a1 c.sz.length c.sz.length) := Mem.of_get at2 5 _ rfl
  refine .m rfl rfl rfl (.fieldAddr fo_47_1_P rfl) ?_
  refine .m rfl rfl rfl (.load on_22_B rfl (by assumption)) ?_
  refine .m rfl rfl rfl (.move rfl) ?_
  refine .call rfl rfl rfl rfl @Try.call12 rfl (markInt64S_c) ?_
  rintro _ H12 ⟨rfl, mk12⟩
  have sm12 := mk12.stm
  have nx_H12 := sm12.nx
  replace at2 := sm12.same _ _ (by omega) at2
  replace w1 := w1.stm sm12
  replace w2 := w2.stm sm12
  replace w3 := w3.stm sm12
  clear mm2
  have mm2 : MemN _ _ _ _ _ := ⟨rfl, Mem.of_get at2⟩
  refine .m rfl rfl rfl (.assign rfl) ?_
  refine .nil ?_
  refine hK3 _ _ ?_
  refine .seq (fun K4 hK4 => ?_)
  refine .region ?_
  have c1 : H12.cell g2 (0 + 6) = some (.slice p.a2 c.ac.length c.ac.length) := Mem.of_get at2 6 _ rfl
  refine .m rfl rfl rfl (.fieldAddr fo_47_2_P rfl) ?_
  refine .m rfl rfl rfl (.load on_23_B rfl (by assumption)) ?_
  refine .m rfl rfl rfl (.move rfl) ?_
  refine .call rfl rfl rfl rfl @Try.call21 rfl (markInt64SS_c) ?_
  rintro _ H16 ⟨rfl, mk16⟩
  have sm16 := mk16.stm
  have nx_H16 := sm16.nx
  replace at2 := sm16.same _ _ (by omega) at2
  replace w1 := w1.stm sm16
  replace w2 := w2.stm sm16
  replace w3 := w3.stm sm16
  clear mm2
  have mm2 : MemN _ _ _ _ _ := ⟨rfl, Mem.of_get at2⟩
  refine .m rfl rfl rfl (.assign rfl) ?_
  refine .nil ?_
  refine hK4 _ _ ?_
  refine .seq (fun K5 hK5 => ?_)
  refine .region ?_
  refine .m rfl rfl rfl (.move rfl) ?_
  refine .m rfl rfl rfl (.assign rfl) ?_
  refine .nil ?_
  refine hK5 _ _ ?_
  refine .ret ?_
  -- leaf e1
  refine hret _ _ ?_
  refine ⟨_, rfl, ?_⟩
  exact ⟨by rw [ht]; congr 1; omega, .le_left le2 (mk8.app' (mk12.app' mk16 (by simp [lvSum])) (by rw [Cat.lvSum_leaves]))⟩
end Go.Proofs.Ytkcpjflhjghapaa
/- The law of SetComponents. No condition but those of each statement. -/
namespace Go.Proofs.Ytkcpjflhjghapaa
open Go Go.GL Go.RowKit Go.Proofs
theorem ag_42_LSetComponents : aggT Try.prog 42 = some 7 := by kernel_rfl
set_option maxHeartbeats 40000000 in
theorem lawSetComponents_c {f : SFun} {p : SFunP} {H : GHeap} (h0 : f.In H p) (w0 : f.Wide) :
    GCalls Try.prog 4 [.agg (f.cells p).toArray] H (fun v _ => v = .bool true) := by
  refine GCalls.body (N := 117) (rs := [.tmp 2]) Try.func4 rfl rfl rfl rfl (fun Qx hret hend => ?_)
  refine .forget (fr' := [(0, some _)]) ⟨rfl, trivial⟩ ?_
  have hle := GHeap.Le.refl H
  have base_h0 := h0
  refine .seq (fun K1 hK1 => ?_)
  refine .region ?_
  refine .r rfl rfl rfl (.boxR rfl sz_42_VSFun rfl) ?_
  rintro _ H1 ⟨g1, rfl, le1, ge1, at1⟩
  have nx_H1 := le1.1
  replace hle := hle.trans le1
  have lt_at1 := GHeap.lt_of_get at1
  replace h0 := base_h0.mono hle
  have hb1 : SFun.At _ g1 0 f p := ⟨Mem.of_get at1, h0⟩
  obtain ⟨fsh1, c51, c61, i11, i21⟩ := hb1.get
  have hm1 : MemN _ _ _ _ _ := ⟨rfl, hb1.1⟩
  have hi1 := hb1.2
  have hmsh1 : MemN _ _ _ _ _ := ⟨rfl, fsh1.1⟩
  have hish1 := fsh1.2
  refine .m rfl rfl rfl (.assign rfl) ?_
  refine .nil ?_
  refine hK1 _ _ ?_
  refine .seq (fun K2 hK2 => ?_)
  refine .region ?_
  refine .m rfl rfl rfl (.assign rfl) ?_
  refine .nil ?_
  refine hK2 _ _ ?_
  refine .seq (fun K3 hK3 => ?_)
  refine .region ?_
  refine .m rfl rfl rfl (.loadM ag_42_LSetComponents rfl ⟨rfl, Mem.of_get at1⟩) ?_
  refine .m rfl rfl rfl (.move rfl) ?_
  refine .call rfl rfl rfl rfl @Try.call14 rfl (szSetFunctor_c) ?_
  rintro _ _ ⟨heq, lf19, rfl, z119, z219, z319⟩
  obtain rfl := heq.symm
  refine .m rfl rfl rfl (.assign rfl) ?_
  refine .nil ?_
  refine hK3 _ _ ?_
  refine .seq (fun K4 hK4 => ?_)
  refine .seq (fun K5 hK5 => ?_)
  refine .region ?_
  refine .m rfl rfl rfl (.move rfl) ?_
  refine .m rfl rfl rfl (.cmp rfl rfl rfl) ?_
  refine .nil ?_
  refine hK5 _ _ ?_
  refine .cond rfl (fun h21 => ?_) (fun h21 => ?_)
  ·
   try simp only [sps] at h21
   refine .seq (fun K6 hK6 => ?_)
   refine .region ?_
   refine .m rfl rfl rfl (.assign rfl) ?_
   refine .nil ?_
   refine hK6 _ _ ?_
   refine .ret ?_
   -- leaf e1
   refine hret _ _ ?_
   refine ⟨_, rfl, ?_⟩
   first
   | exact rfl
   | exact absurd trivial (by assumption)
   | contradiction
   | (exfalso; omega)
  ·
   simp only [sps] at h21
   obtain ⟨hcl, hcl2⟩ := f.compR_small
   have hct := sumL_tot hcl hcl2
   have hsm19 := z319 (by omega)
   have tb19 := hsm19.tot
   refine .skip ?_
   refine hK4 _ _ ?_
   refine .seq (fun K7 hK7 => ?_)
   refine .region ?_
   refine .m rfl rfl rfl (.loadM ag_42_LSetComponents rfl ⟨rfl, Mem.of_get at1⟩) ?_
   refine .call rfl rfl rfl rfl @Try.call16 rfl (toSetFunctor_c) ?_
   rintro _ H24 ⟨le24, p24, rfl, v24⟩
   have nx_H24 := le24.1
   replace hle := hle.trans le24
   replace at1 := le24.2 _ _ at1
   have bs_v24 := v24
   have lv_v24 : Keep H1.next H24 H24 := fun _ _ _ h => h
   replace h0 := base_h0.mono hle
   clear hb1 fsh1 c51 c61 i11 i21 hm1 hi1 hmsh1 hish1
   have hb1 : SFun.At _ g1 0 f p := ⟨Mem.of_get at1, h0⟩
   obtain ⟨fsh1, c51, c61, i11, i21⟩ := hb1.get
   have hm1 : MemN _ _ _ _ _ := ⟨rfl, hb1.1⟩
   have hi1 := hb1.2
   have hmsh1 : MemN _ _ _ _ _ := ⟨rfl, fsh1.1⟩
   have hish1 := fsh1.2
   have i24 := v24.inn
   refine .call rfl rfl rfl rfl @Try.call15 rfl (specSetComponents_c) ?_
   rintro _ H25 ⟨le25, a25, r25, rfl, v25⟩
   have nx_H25 := le25.1
   replace hle := hle.trans le25
   replace at1 := le25.2 _ _ at1
   replace lv_v24 := Keep.le lv_v24 le25
   replace v24 := bs_v24.keep lv_v24 (Nat.le_refl _)
   have bs_v25 := v25
   have lv_v25 : Keep H24.next H25 H25 := fun _ _ _ h => h
   replace h0 := base_h0.mono hle
   clear hb1 fsh1 c51 c61 i11 i21 hm1 hi1 hmsh1 hish1
   have hb1 : SFun.At _ g1 0 f p := ⟨Mem.of_get at1, h0⟩
   obtain ⟨fsh1, c51, c61, i11, i21⟩ := hb1.get
   have hm1 : MemN _ _ _ _ _ := ⟨rfl, hb1.1⟩
   have hi1 := hb1.2
   have hmsh1 : MemN _ _ _ _ _ := ⟨rfl, fsh1.1⟩
   have hish1 := fsh1.2
   clear i24
   have i24 := v24.inn
   have i25 := v25.intss
   refine .m rfl rfl rfl (.move rfl) ?_
   refine .m rfl rfl rfl (.extract rfl rfl) ?_
   refine .m rfl rfl rfl (.extract rfl rfl) ?_
   refine .m rfl rfl rfl (.extract rfl rfl) ?_
   refine .m rfl rfl rfl (.assign rfl) ?_
   refine .m rfl rfl rfl (.assign rfl) ?_
   refine .m rfl rfl rfl (.assign rfl) ?_
   refine .nil ?_
   refine hK7 _ _ ?_
   refine .seq (fun K8 hK8 => ?_)
   refine .region ?_
   refine .m rfl rfl rfl (.loadM ag_42_LSetComponents rfl ⟨rfl, Mem.of_get at1⟩) ?_
   refine .call rfl rfl rfl rfl @Try.call16 rfl (toSetFunctor_c) ?_
   rintro _ H30 ⟨le30, p30, rfl, v30⟩
   have nx_H30 := le30.1
   replace hle := hle.trans le30
   replace at1 := le30.2 _ _ at1
   replace lv_v24 := Keep.le lv_v24 le30
   replace v24 := bs_v24.keep lv_v24 (Nat.le_refl _)
   replace lv_v25 := Keep.le lv_v25 le30
   replace v25 := bs_v25.keep lv_v25 (Nat.le_refl _)
   have bs_v30 := v30
   have lv_v30 : Keep H25.next H30 H30 := fun _ _ _ h => h
   replace h0 := base_h0.mono hle
   clear hb1 fsh1 c51 c61 i11 i21 hm1 hi1 hmsh1 hish1
   have hb1 : SFun.At _ g1 0 f p := ⟨Mem.of_get at1, h0⟩
   obtain ⟨fsh1, c51, c61, i11, i21⟩ := hb1.get
   have hm1 : MemN _ _ _ _ _ := ⟨rfl, hb1.1⟩
   have hi1 := hb1.2
   have hmsh1 : MemN _ _ _ _ _ := ⟨rfl, fsh1.1⟩
   have hish1 := fsh1.2
   clear i24
   have i24 := v24.inn
   clear i25
   have i25 := v25.intss
   have i30 := v30.inn
   refine .r rfl rfl rfl (.allocR rfl ze_47_VSFun rfl) ?_
   rintro _ H7 ⟨g7, rfl, le7, ge7, at7⟩
   have nx_H7 := le7.1
   replace hle := hle.trans le7
   replace at1 := le7.2 _ _ at1
   replace lv_v24 := Keep.le lv_v24 le7
   replace v24 := bs_v24.keep lv_v24 (Nat.le_refl _)
   replace lv_v25 := Keep.le lv_v25 le7
   replace v25 := bs_v25.keep lv_v25 (Nat.le_refl _)
   replace lv_v30 := Keep.le lv_v30 le7
   replace v30 := bs_v30.keep lv_v30 (Nat.le_refl _)
   have lt_at7 := GHeap.lt_of_get at7
   replace h0 := base_h0.mono hle
   clear hb1 fsh1 c51 c61 i11 i21 hm1 hi1 hmsh1 hish1
   have hb1 : SFun.At _ g1 0 f p := ⟨Mem.of_get at1, h0⟩
   obtain ⟨fsh1, c51, c61, i11, i21⟩ := hb1.get
   have hm1 : MemN _ _ _ _ _ := ⟨rfl, hb1.1⟩
   have hi1 := hb1.2
   have hmsh1 : MemN _ _ _ _ _ := ⟨rfl, fsh1.1⟩
   have hish1 := fsh1.2
   clear i24
   have i24 := v24.inn
   clear i25
   have i25 := v25.intss
   clear i30
   have i30 := v30.inn
   refine .r0 rfl rfl (.fillR rfl sz_47_VSFun rfl rfl rfl rfl (by assumption) (by first | rfl | exact Nat.le_of_ble_eq_true rfl | simp)) ?_
   rintro _ H6003 ⟨rfl, st6003, at6003⟩
   have nx_H6003 := st6003.nx
   replace hle := hle.st st6003 (fun k hk => ⟨by omega, trivial⟩)
   replace at1 := st6003.same _ _ ⟨by omega, trivial⟩ at1
   replace lv_v24 := Keep.st lv_v24 st6003 (fun k hb hk => ⟨by omega, trivial⟩)
   replace v24 := bs_v24.keep lv_v24 (Nat.le_refl _)
   replace lv_v25 := Keep.st lv_v25 st6003 (fun k hb hk => ⟨by omega, trivial⟩)
   replace v25 := bs_v25.keep lv_v25 (Nat.le_refl _)
   replace lv_v30 := Keep.st lv_v30 st6003 (fun k hb hk => ⟨by omega, trivial⟩)
   replace v30 := bs_v30.keep lv_v30 (Nat.le_refl _)
   have lt_at6003 := GHeap.lt_of_get at6003
   replace h0 := base_h0.mono hle
   clear hb1 fsh1 c51 c61 i11 i21 hm1 hi1 hmsh1 hish1
   have hb1 : SFun.At _ g1 0 f p := ⟨Mem.of_get at1, h0⟩
   obtain ⟨fsh1, c51, c61, i11, i21⟩ := hb1.get
   have hm1 : MemN _ _ _ _ _ := ⟨rfl, hb1.1⟩
   have hi1 := hb1.2
   have hmsh1 : MemN _ _ _ _ _ := ⟨rfl, fsh1.1⟩
   have hish1 := fsh1.2
   clear i24
   have i24 := v24.inn
   clear i25
   have i25 := v25.intss
   clear i30
   have i30 := v30.inn
   have mm6003 : MemN _ _ _ _ _ := ⟨rfl, Mem.of_get at6003⟩
   refine .nil ?_
   refine hK8 _ _ ?_
   refine .seq (fun K9 hK9 => ?_)
   refine .region ?_
   refine .m rfl rfl rfl (.loadM ag_47_VSFun rfl ⟨rfl, Mem.of_get at6003⟩) ?_
   refine .call rfl rfl rfl rfl @Try.call17 rfl (implSetComponents_c) ?_
   rintro _ H33 ⟨le33, a33, r33, rfl, v33⟩
   have nx_H33 := le33.1
   replace hle := hle.trans le33
   replace at1 := le33.2 _ _ at1
   replace at6003 := le33.2 _ _ at6003
   replace lv_v24 := Keep.le lv_v24 le33
   replace v24 := bs_v24.keep lv_v24 (Nat.le_refl _)
   replace lv_v25 := Keep.le lv_v25 le33
   replace v25 := bs_v25.keep lv_v25 (Nat.le_refl _)
   replace lv_v30 := Keep.le lv_v30 le33
   replace v30 := bs_v30.keep lv_v30 (Nat.le_refl _)
   have bs_v33 := v33
   have lv_v33 : Keep H6003.next H33 H33 := fun _ _ _ h => h
   replace h0 := base_h0.mono hle
   clear hb1 fsh1 c51 c61 i11 i21 hm1 hi1 hmsh1 hish1
   have hb1 : SFun.At _ g1 0 f p := ⟨Mem.of_get at1, h0⟩
   obtain ⟨fsh1, c51, c61, i11, i21⟩ := hb1.get
   have hm1 : MemN _ _ _ _ _ := ⟨rfl, hb1.1⟩
   have hi1 := hb1.2
   have hmsh1 : MemN _ _ _ _ _ := ⟨rfl, fsh1.1⟩
   have hish1 := fsh1.2
   clear i24
   have i24 := v24.inn
   clear i25
   have i25 := v25.intss
   clear i30
   have i30 := v30.inn
   clear mm6003
   have mm6003 : MemN _ _ _ _ _ := ⟨rfl, Mem.of_get at6003⟩
   have i33 := v33.intss
   refine .m rfl rfl rfl (.move rfl) ?_
   refine .m rfl rfl rfl (.extract rfl rfl) ?_
   refine .m rfl rfl rfl (.extract rfl rfl) ?_
   refine .m rfl rfl rfl (.extract rfl rfl) ?_
   refine .m rfl rfl rfl (.assign rfl) ?_
   refine .m rfl rfl rfl (.assign rfl) ?_
   refine .m rfl rfl rfl (.assign rfl) ?_
   refine .nil ?_
   refine hK9 _ _ ?_
   refine .seq (fun K10 hK10 => ?_)
   refine .seq (fun K11 hK11 => ?_)
   refine .region ?_
   refine .m rfl rfl rfl (.move rfl) ?_
   refine .m rfl rfl rfl (.move rfl) ?_
   refine .callQ rfl rfl rfl rfl @Try.call18 rfl (eqInt64SS_c) ?_
   refine .m rfl rfl rfl (.not rfl) ?_
   refine .m rfl rfl rfl (.move rfl) ?_
   refine .split (fun h41 => ?_) (fun h41 => ?_)
   ·
    try simp only [sps] at h41
    refine .sg rfl rfl rfl rfl rfl ?_
    refine .sg rfl rfl rfl rfl rfl ?_
    refine .sg rfl rfl rfl rfl rfl ?_
    refine .m rfl rfl rfl (.pickT rfl rfl) ?_
    refine .m rfl rfl rfl (.move rfl) ?_
    refine .sg rfl rfl rfl rfl rfl ?_
    refine .sg rfl rfl rfl rfl rfl ?_
    refine .sg rfl rfl rfl rfl rfl ?_
    refine .m rfl rfl rfl (.pickT rfl rfl) ?_
    refine .nil ?_
    refine hK11 _ _ ?_
    refine .condT rfl ?_
    refine .seq (fun K12 hK12 => ?_)
    refine .region ?_
    refine .m rfl rfl rfl (.assign rfl) ?_
    refine .nil ?_
    refine hK12 _ _ ?_
    refine .ret ?_
    -- leaf e2
    refine hret _ _ ?_
    refine ⟨_, rfl, ?_⟩
    first
    | exact rfl
    | exact absurd trivial (by assumption)
    | contradiction
    | (exfalso; omega)
   ·
    try simp only [sps] at h41
    refine .mg rfl rfl rfl rfl rfl (.move rfl) ?_
    refine .mg rfl rfl rfl rfl rfl (.move rfl) ?_
    refine .mg rfl rfl rfl rfl rfl (.cmp rfl rfl rfl) ?_
    refine .m rfl rfl rfl (.pickF rfl rfl) ?_
    refine .m rfl rfl rfl (.move rfl) ?_
    refine .split (fun h46 => ?_) (fun h46 => ?_)
    ·
     try simp only [sps] at h46
     refine .sg rfl rfl rfl rfl rfl ?_
     refine .sg rfl rfl rfl rfl rfl ?_
     refine .sg rfl rfl rfl rfl rfl ?_
     refine .m rfl rfl rfl (.pickT rfl rfl) ?_
     refine .nil ?_
     refine hK11 _ _ ?_
     refine .condT rfl ?_
     refine .seq (fun K13 hK13 => ?_)
     refine .region ?_
     refine .m rfl rfl rfl (.assign rfl) ?_
     refine .nil ?_
     refine hK13 _ _ ?_
     refine .ret ?_
     -- leaf e3
     refine hret _ _ ?_
     refine ⟨_, rfl, ?_⟩
     first
     | exact rfl
     | exact absurd trivial (by assumption)
     | contradiction
     | (exfalso; omega)
    ·
     try simp only [sps] at h46
     refine .mg rfl rfl rfl rfl rfl (.move rfl) ?_
     refine .mg rfl rfl rfl rfl rfl (.move rfl) ?_
     refine .mg rfl rfl rfl rfl rfl (.cmp rfl rfl rfl) ?_
     refine .m rfl rfl rfl (.pickF rfl rfl) ?_
     refine .nil ?_
     refine hK11 _ _ ?_
     refine .cond rfl (fun h50 => ?_) (fun h50 => ?_)
     ·
      try simp only [sps] at h50
      refine .seq (fun K14 hK14 => ?_)
      refine .region ?_
      refine .m rfl rfl rfl (.assign rfl) ?_
      refine .nil ?_
      refine hK14 _ _ ?_
      refine .ret ?_
      -- leaf e4
      refine hret _ _ ?_
      refine ⟨_, rfl, ?_⟩
      first
      | exact rfl
      | exact absurd trivial (by assumption)
      | contradiction
      | (exfalso; omega)
     ·
      try simp only [sps] at h50
      refine .skip ?_
      refine hK10 _ _ ?_
      refine .seq (fun K15 hK15 => ?_)
      refine .seq (fun K16 hK16 => ?_)
      refine .regionD mixed_orders_B (.q 0 (.q 1 (.c 2 1 (.c 3 0 (.q 4 (.done)))))) (by kernel_rfl) ?_
      refine .m rfl rfl rfl rfl (.refl _) (.loadM ag_47_VSFun rfl ⟨rfl, Mem.of_get at6003⟩) ?_
      refine .m rfl rfl rfl rfl (.refl _) (.loadM ag_42_LSetComponents rfl ⟨rfl, Mem.of_get at1⟩) ?_
      refine .call1 rfl rfl rfl rfl rfl @Try.call16 rfl (toSetFunctor_c) ?_
      rintro _ H53 ⟨le53, p53, rfl, v53⟩
      have hbl := le53
      refine ⟨hbl, ?_⟩
      have nx_H53 := le53.1
      replace hle := hle.trans le53
      replace at1 := le53.2 _ _ at1
      replace at6003 := le53.2 _ _ at6003
      replace lv_v24 := Keep.le lv_v24 le53
      replace v24 := bs_v24.keep lv_v24 (Nat.le_refl _)
      replace lv_v25 := Keep.le lv_v25 le53
      replace v25 := bs_v25.keep lv_v25 (Nat.le_refl _)
      replace lv_v30 := Keep.le lv_v30 le53
      replace v30 := bs_v30.keep lv_v30 (Nat.le_refl _)
      replace lv_v33 := Keep.le lv_v33 le53
      replace v33 := bs_v33.keep lv_v33 (Nat.le_refl _)
      have bs_v53 := v53
      have lv_v53 : Keep H33.next H53 H53 := fun _ _ _ h => h
      replace h0 := base_h0.mono hle
      clear hb1 fsh1 c51 c61 i11 i21 hm1 hi1 hmsh1 hish1
      have hb1 : SFun.At _ g1 0 f p := ⟨Mem.of_get at1, h0⟩
      obtain ⟨fsh1, c51, c61, i11, i21⟩ := hb1.get
      have hm1 : MemN _ _ _ _ _ := ⟨rfl, hb1.1⟩
      have hi1 := hb1.2
      have hmsh1 : MemN _ _ _ _ _ := ⟨rfl, fsh1.1⟩
      have hish1 := fsh1.2
      clear i24
      have i24 := v24.inn
      clear i25
      have i25 := v25.intss
      clear i30
      have i30 := v30.inn
      clear mm6003
      have mm6003 : MemN _ _ _ _ _ := ⟨rfl, Mem.of_get at6003⟩
      clear i33
      have i33 := v33.intss
      have i53 := v53.inn
      refine .callQ0 rfl rfl rfl rfl rfl @Try.call19 rfl (eqSetFunctor_c) ?_
      refine .m rfl rfl rfl rfl (.refl _) (.not rfl) ?_
      refine .done ?_
      refine hK16 _ _ ?_
      refine .cond rfl (fun h55 => ?_) (fun h55 => ?_)
      ·
       try simp only [sps] at h55
       refine .seq (fun K17 hK17 => ?_)
       refine .region ?_
       refine .m rfl rfl rfl (.assign rfl) ?_
       refine .nil ?_
       refine hK17 _ _ ?_
       refine .ret ?_
       -- leaf e5
       refine hret _ _ ?_
       refine ⟨_, rfl, ?_⟩
       first
       | exact rfl
       | exact absurd trivial (by assumption)
       | contradiction
       | (exfalso; omega)
      ·
       try simp only [sps] at h55
       refine .skip ?_
       refine hK15 _ _ ?_
       refine .seq (fun K18 hK18 => ?_)
       refine .region ?_
       refine .m rfl rfl rfl (.assign rfl) ?_
       refine .nil ?_
       refine hK18 _ _ ?_
       refine .seq (fun K19 hK19 => ?_)
       refine .region ?_
       refine .m rfl rfl rfl (.loadM ag_47_VSFun rfl ⟨rfl, Mem.of_get at6003⟩) ?_
       refine .m rfl rfl rfl (.move rfl) ?_
       have w_v30 := SFunW.of_at bs_v30 lv_v30
       refine .call rfl rfl rfl rfl @Try.call20 rfl (markSetFunctor_c) ?_
       rintro _ H58 ⟨rfl, mk58⟩
       have sm58 := mk58.stm
       have nx_H58 := sm58.nx
       replace hle := StM.le_left hle sm58 (by omega)
       replace at1 := sm58.same _ _ (by omega) at1
       replace at6003 := sm58.same _ _ (by omega) at6003
       replace lv_v24 := Keep.stM lv_v24 sm58 (fun k hb hk => by omega)
       replace v24 := bs_v24.keep lv_v24 (Nat.le_refl _)
       replace lv_v25 := Keep.stM lv_v25 sm58 (fun k hb hk => by omega)
       replace v25 := bs_v25.keep lv_v25 (Nat.le_refl _)
       replace lv_v33 := Keep.stM lv_v33 sm58 (fun k hb hk => by omega)
       replace v33 := bs_v33.keep lv_v33 (Nat.le_refl _)
       replace lv_v53 := Keep.stM lv_v53 sm58 (fun k hb hk => by omega)
       replace v53 := bs_v53.keep lv_v53 (Nat.le_refl _)
       replace h0 := base_h0.mono hle
       clear hb1 fsh1 c51 c61 i11 i21 hm1 hi1 hmsh1 hish1
       have hb1 : SFun.At _ g1 0 f p := ⟨Mem.of_get at1, h0⟩
       obtain ⟨fsh1, c51, c61, i11, i21⟩ := hb1.get
       have hm1 : MemN _ _ _ _ _ := ⟨rfl, hb1.1⟩
       have hi1 := hb1.2
       have hmsh1 : MemN _ _ _ _ _ := ⟨rfl, fsh1.1⟩
       have hish1 := fsh1.2
       clear i24
       have i24 := v24.inn
       clear i25
       have i25 := v25.intss
       clear mm6003
       have mm6003 : MemN _ _ _ _ _ := ⟨rfl, Mem.of_get at6003⟩
       clear i33
       have i33 := v33.intss
       clear i53
       have i53 := v53.inn
       refine .m rfl rfl rfl (.assign rfl) ?_
       refine .nil ?_
       refine hK19 _ _ ?_
       refine .seq (fun K20 hK20 => ?_)
       refine .seq (fun K21 hK21 => ?_)
       refine .region ?_
       refine .m rfl rfl rfl (.move rfl) ?_
       refine .m rfl rfl rfl (.cmp rfl rfl rfl) ?_
       refine .m rfl rfl rfl (.move rfl) ?_
       refine .split (fun h61 => ?_) (fun h61 => ?_)
       ·
        try simp only [sps] at h61
        refine .sg rfl rfl rfl rfl rfl ?_
        refine .sg rfl rfl rfl rfl rfl ?_
        refine .sg rfl rfl rfl rfl rfl ?_
        refine .sg rfl rfl rfl rfl rfl ?_
        refine .m rfl rfl rfl (.pickT rfl rfl) ?_
        refine .m rfl rfl rfl (.move rfl) ?_
        refine .sg rfl rfl rfl rfl rfl ?_
        refine .sg rfl rfl rfl rfl rfl ?_
        refine .sg rfl rfl rfl rfl rfl ?_
        refine .m rfl rfl rfl (.pickT rfl rfl) ?_
        refine .m rfl rfl rfl (.move rfl) ?_
        refine .sg rfl rfl rfl rfl rfl ?_
        refine .sg rfl rfl rfl rfl rfl ?_
        refine .sg rfl rfl rfl rfl rfl ?_
        refine .m rfl rfl rfl (.pickT rfl rfl) ?_
        refine .nil ?_
        refine hK21 _ _ ?_
        refine .condT rfl ?_
        refine .seq (fun K22 hK22 => ?_)
        refine .region ?_
        refine .m rfl rfl rfl (.assign rfl) ?_
        refine .nil ?_
        refine hK22 _ _ ?_
        refine .ret ?_
        -- leaf e6
        refine hret _ _ ?_
        refine ⟨_, rfl, ?_⟩
        first
        | exact rfl
        | exact absurd trivial (by assumption)
        | contradiction
        | (exfalso; omega)
       ·
        try simp only [sps] at h61
        refine .mg rfl rfl rfl rfl rfl (.move rfl) ?_
        refine .mg rfl rfl rfl rfl rfl (.move rfl) ?_
        refine .callQg rfl rfl rfl rfl rfl rfl @Try.call18 rfl (eqInt64SS_c) ?_
        refine .mg rfl rfl rfl rfl rfl (.not rfl) ?_
        refine .m rfl rfl rfl (.pickF rfl rfl) ?_
        refine .m rfl rfl rfl (.move rfl) ?_
        refine .split (fun h67 => ?_) (fun h67 => ?_)
        ·
         try simp only [sps] at h67
         refine .sg rfl rfl rfl rfl rfl ?_
         refine .sg rfl rfl rfl rfl rfl ?_
         refine .sg rfl rfl rfl rfl rfl ?_
         refine .m rfl rfl rfl (.pickT rfl rfl) ?_
         refine .m rfl rfl rfl (.move rfl) ?_
         refine .sg rfl rfl rfl rfl rfl ?_
         refine .sg rfl rfl rfl rfl rfl ?_
         refine .sg rfl rfl rfl rfl rfl ?_
         refine .m rfl rfl rfl (.pickT rfl rfl) ?_
         refine .nil ?_
         refine hK21 _ _ ?_
         refine .condT rfl ?_
         refine .seq (fun K23 hK23 => ?_)
         refine .region ?_
         refine .m rfl rfl rfl (.assign rfl) ?_
         refine .nil ?_
         refine hK23 _ _ ?_
         refine .ret ?_
         -- leaf e7
         refine hret _ _ ?_
         refine ⟨_, rfl, ?_⟩
         first
         | exact rfl
         | exact absurd trivial (by assumption)
         | contradiction
         | (exfalso; omega)
        ·
         try simp only [sps] at h67
         refine .mg rfl rfl rfl rfl rfl (.move rfl) ?_
         refine .mg rfl rfl rfl rfl rfl (.move rfl) ?_
         refine .mg rfl rfl rfl rfl rfl (.cmp rfl rfl rfl) ?_
         refine .m rfl rfl rfl (.pickF rfl rfl) ?_
         refine .m rfl rfl rfl (.move rfl) ?_
         refine .split (fun h72 => ?_) (fun h72 => ?_)
         ·
          try simp only [sps] at h72
          refine .sg rfl rfl rfl rfl rfl ?_
          refine .sg rfl rfl rfl rfl rfl ?_
          refine .sg rfl rfl rfl rfl rfl ?_
          refine .m rfl rfl rfl (.pickT rfl rfl) ?_
          refine .nil ?_
          refine hK21 _ _ ?_
          refine .condT rfl ?_
          refine .seq (fun K24 hK24 => ?_)
          refine .region ?_
          refine .m rfl rfl rfl (.assign rfl) ?_
          refine .nil ?_
          refine hK24 _ _ ?_
          refine .ret ?_
          -- leaf e8
          refine hret _ _ ?_
          refine ⟨_, rfl, ?_⟩
          first
          | exact rfl
          | exact absurd trivial (by assumption)
          | contradiction
          | (exfalso; omega)
         ·
          try simp only [sps] at h72
          refine .mg rfl rfl rfl rfl rfl (.move rfl) ?_
          refine .mg rfl rfl rfl rfl rfl (.move rfl) ?_
          refine .mg rfl rfl rfl rfl rfl (.cmp rfl rfl rfl) ?_
          refine .m rfl rfl rfl (.pickF rfl rfl) ?_
          refine .nil ?_
          refine hK21 _ _ ?_
          refine .cond rfl (fun h76 => ?_) (fun h76 => ?_)
          ·
           try simp only [sps] at h76
           refine .seq (fun K25 hK25 => ?_)
           refine .region ?_
           refine .m rfl rfl rfl (.assign rfl) ?_
           refine .nil ?_
           refine hK25 _ _ ?_
           refine .ret ?_
           -- leaf e9
           refine hret _ _ ?_
           refine ⟨_, rfl, ?_⟩
           first
           | exact rfl
           | exact absurd trivial (by assumption)
           | contradiction
           | (exfalso; omega)
          ·
           try simp only [sps] at h76
           refine .skip ?_
           refine hK20 _ _ ?_
           refine .seq (fun K26 hK26 => ?_)
           refine .region ?_
           refine .m rfl rfl rfl (.assign rfl) ?_
           refine .nil ?_
           refine hK26 _ _ ?_
           refine .seq (fun K27 hK27 => ?_)
           refine .region ?_
           refine .m rfl rfl rfl (.move rfl) ?_
           refine .m rfl rfl rfl (.move rfl) ?_
           have w_v33 := IntssW.of_r bs_v33 lv_v33
           refine .call rfl rfl rfl rfl @Try.call21 rfl (markInt64SS_c) ?_
           rintro _ H79 ⟨rfl, mk79⟩
           have sm79 := mk79.stm
           have nx_H79 := sm79.nx
           replace hle := StM.le_left hle sm79 (by omega)
           replace at1 := sm79.same _ _ (by omega) at1
           replace at6003 := sm79.same _ _ (by omega) at6003
           replace lv_v24 := Keep.stM lv_v24 sm79 (fun k hb hk => by omega)
           replace v24 := bs_v24.keep lv_v24 (Nat.le_refl _)
           replace lv_v25 := Keep.stM lv_v25 sm79 (fun k hb hk => by omega)
           replace v25 := bs_v25.keep lv_v25 (Nat.le_refl _)
           replace lv_v53 := Keep.stM lv_v53 sm79 (fun k hb hk => by omega)
           replace v53 := bs_v53.keep lv_v53 (Nat.le_refl _)
           replace h0 := base_h0.mono hle
           clear hb1 fsh1 c51 c61 i11 i21 hm1 hi1 hmsh1 hish1
           have hb1 : SFun.At _ g1 0 f p := ⟨Mem.of_get at1, h0⟩
           obtain ⟨fsh1, c51, c61, i11, i21⟩ := hb1.get
           have hm1 : MemN _ _ _ _ _ := ⟨rfl, hb1.1⟩
           have hi1 := hb1.2
           have hmsh1 : MemN _ _ _ _ _ := ⟨rfl, fsh1.1⟩
           have hish1 := fsh1.2
           clear i24
           have i24 := v24.inn
           clear i25
           have i25 := v25.intss
           clear mm6003
           have mm6003 : MemN _ _ _ _ _ := ⟨rfl, Mem.of_get at6003⟩
           clear i53
           have i53 := v53.inn
           have hd79 := mk79.held (v33.2)
           have wd79 := w_v33.stm sm79
           have bs_hd79 := hd79
           have lv_hd79 : Keep H6003.next H79 H79 := fun _ _ _ h => h
           have bs_wd79 := wd79
           have lv_wd79 : Keep H6003.next H79 H79 := fun _ _ _ h => h
           refine .m rfl rfl rfl (.assign rfl) ?_
           refine .nil ?_
           refine hK27 _ _ ?_
           refine .seq (fun K28 hK28 => ?_)
           refine .region ?_
           refine .m rfl rfl rfl (.assign rfl) ?_
           refine .nil ?_
           refine hK28 _ _ ?_
           refine .seq (fun K29 hK29 => ?_)
           refine .region ?_
           refine .m rfl rfl rfl (.move rfl) ?_
           refine .m rfl rfl rfl (.move rfl) ?_
           refine .callQ rfl rfl rfl rfl @Try.call22 rfl (heldInt64SSw_c) ?_
           refine .m rfl rfl rfl (.assign rfl) ?_
           refine .nil ?_
           refine hK29 _ _ ?_
           refine .seq (fun K30 hK30 => ?_)
           refine .seq (fun K31 hK31 => ?_)
           refine .region ?_
           refine .m rfl rfl rfl (.move rfl) ?_
           refine .m rfl rfl rfl (.cmp rfl rfl rfl) ?_
           refine .nil ?_
           refine hK31 _ _ ?_
           refine .cond rfl (fun h84 => ?_) (fun h84 => ?_)
           ·
            try simp only [sps] at h84
            refine .seq (fun K32 hK32 => ?_)
            refine .region ?_
            refine .m rfl rfl rfl (.assign rfl) ?_
            refine .nil ?_
            refine hK32 _ _ ?_
            refine .ret ?_
            -- leaf e10
            refine hret _ _ ?_
            refine ⟨_, rfl, ?_⟩
            first
            | exact rfl
            | exact absurd trivial (by assumption)
            | contradiction
            | (exfalso; omega)
           ·
            try simp only [sps] at h84
            refine .skip ?_
            refine hK30 _ _ ?_
            refine .seq (fun K33 hK33 => ?_)
            refine .seq (fun K34 hK34 => ?_)
            refine .region ?_
            refine .m rfl rfl rfl (.move rfl) ?_
            refine .m rfl rfl rfl (.move rfl) ?_
            refine .m rfl rfl rfl (.cmp rfl rfl rfl) ?_
            refine .nil ?_
            refine hK34 _ _ ?_
            refine .cond rfl (fun h87 => ?_) (fun h87 => ?_)
            ·
             try simp only [sps] at h87
             refine .seq (fun K35 hK35 => ?_)
             refine .region ?_
             refine .m rfl rfl rfl (.assign rfl) ?_
             refine .nil ?_
             refine hK35 _ _ ?_
             refine .ret ?_
             -- leaf e11
             refine hret _ _ ?_
             refine ⟨_, rfl, ?_⟩
             first
             | exact rfl
             | exact absurd trivial (by assumption)
             | contradiction
             | (exfalso; omega)
            ·
             try simp only [sps] at h87
             refine .skip ?_
             refine hK33 _ _ ?_
             refine .seq (fun K36 hK36 => ?_)
             refine .region ?_
             refine .m rfl rfl rfl (.loadM ag_42_LSetComponents rfl ⟨rfl, Mem.of_get at1⟩) ?_
             refine .call rfl rfl rfl rfl @Try.call16 rfl (toSetFunctor_c) ?_
             rintro _ H90 ⟨le90, p90, rfl, v90⟩
             have nx_H90 := le90.1
             replace hle := hle.trans le90
             replace at1 := le90.2 _ _ at1
             replace at6003 := le90.2 _ _ at6003
             replace lv_v24 := Keep.le lv_v24 le90
             replace v24 := bs_v24.keep lv_v24 (Nat.le_refl _)
             replace lv_v25 := Keep.le lv_v25 le90
             replace v25 := bs_v25.keep lv_v25 (Nat.le_refl _)
             replace lv_v53 := Keep.le lv_v53 le90
             replace v53 := bs_v53.keep lv_v53 (Nat.le_refl _)
             replace lv_hd79 := Keep.le lv_hd79 le90
             replace hd79 := bs_hd79.keep lv_hd79 (Nat.le_refl _)
             replace lv_wd79 := Keep.le lv_wd79 le90
             replace wd79 := bs_wd79.keep lv_wd79 (Nat.le_refl _)
             have bs_v90 := v90
             have lv_v90 : Keep H79.next H90 H90 := fun _ _ _ h => h
             replace h0 := base_h0.mono hle
             clear hb1 fsh1 c51 c61 i11 i21 hm1 hi1 hmsh1 hish1
             have hb1 : SFun.At _ g1 0 f p := ⟨Mem.of_get at1, h0⟩
             obtain ⟨fsh1, c51, c61, i11, i21⟩ := hb1.get
             have hm1 : MemN _ _ _ _ _ := ⟨rfl, hb1.1⟩
             have hi1 := hb1.2
             have hmsh1 : MemN _ _ _ _ _ := ⟨rfl, fsh1.1⟩
             have hish1 := fsh1.2
             clear i24
             have i24 := v24.inn
             clear i25
             have i25 := v25.intss
             clear mm6003
             have mm6003 : MemN _ _ _ _ _ := ⟨rfl, Mem.of_get at6003⟩
             clear i53
             have i53 := v53.inn
             have i90 := v90.inn
             refine .call rfl rfl rfl rfl @Try.call17 rfl (implSetComponents_c) ?_
             rintro _ H91 ⟨le91, a91, r91, rfl, v91⟩
             have nx_H91 := le91.1
             replace hle := hle.trans le91
             replace at1 := le91.2 _ _ at1
             replace at6003 := le91.2 _ _ at6003
             replace lv_v24 := Keep.le lv_v24 le91
             replace v24 := bs_v24.keep lv_v24 (Nat.le_refl _)
             replace lv_v25 := Keep.le lv_v25 le91
             replace v25 := bs_v25.keep lv_v25 (Nat.le_refl _)
             replace lv_v53 := Keep.le lv_v53 le91
             replace v53 := bs_v53.keep lv_v53 (Nat.le_refl _)
             replace lv_hd79 := Keep.le lv_hd79 le91
             replace hd79 := bs_hd79.keep lv_hd79 (Nat.le_refl _)
             replace lv_wd79 := Keep.le lv_wd79 le91
             replace wd79 := bs_wd79.keep lv_wd79 (Nat.le_refl _)
             replace lv_v90 := Keep.le lv_v90 le91
             replace v90 := bs_v90.keep lv_v90 (Nat.le_refl _)
             have bs_v91 := v91
             have lv_v91 : Keep H90.next H91 H91 := fun _ _ _ h => h
             replace h0 := base_h0.mono hle
             clear hb1 fsh1 c51 c61 i11 i21 hm1 hi1 hmsh1 hish1
             have hb1 : SFun.At _ g1 0 f p := ⟨Mem.of_get at1, h0⟩
             obtain ⟨fsh1, c51, c61, i11, i21⟩ := hb1.get
             have hm1 : MemN _ _ _ _ _ := ⟨rfl, hb1.1⟩
             have hi1 := hb1.2
             have hmsh1 : MemN _ _ _ _ _ := ⟨rfl, fsh1.1⟩
             have hish1 := fsh1.2
             clear i24
             have i24 := v24.inn
             clear i25
             have i25 := v25.intss
             clear mm6003
             have mm6003 : MemN _ _ _ _ _ := ⟨rfl, Mem.of_get at6003⟩
             clear i53
             have i53 := v53.inn
             clear i90
             have i90 := v90.inn
             have i91 := v91.intss
             refine .m rfl rfl rfl (.move rfl) ?_
             refine .m rfl rfl rfl (.extract rfl rfl) ?_
             refine .m rfl rfl rfl (.extract rfl rfl) ?_
             refine .m rfl rfl rfl (.extract rfl rfl) ?_
             refine .m rfl rfl rfl (.assign rfl) ?_
             refine .m rfl rfl rfl (.assign rfl) ?_
             refine .m rfl rfl rfl (.assign rfl) ?_
             refine .nil ?_
             refine hK36 _ _ ?_
             refine .seq (fun K37 hK37 => ?_)
             refine .seq (fun K38 hK38 => ?_)
             refine .region ?_
             refine .m rfl rfl rfl (.move rfl) ?_
             refine .m rfl rfl rfl (.move rfl) ?_
             refine .callQ rfl rfl rfl rfl @Try.call18 rfl (eqInt64SS_c) ?_
             refine .m rfl rfl rfl (.not rfl) ?_
             refine .m rfl rfl rfl (.move rfl) ?_
             refine .split (fun h99 => ?_) (fun h99 => ?_)
             ·
              try simp only [sps] at h99
              refine .sg rfl rfl rfl rfl rfl ?_
              refine .sg rfl rfl rfl rfl rfl ?_
              refine .sg rfl rfl rfl rfl rfl ?_
              refine .m rfl rfl rfl (.pickT rfl rfl) ?_
              refine .m rfl rfl rfl (.move rfl) ?_
              refine .sg rfl rfl rfl rfl rfl ?_
              refine .sg rfl rfl rfl rfl rfl ?_
              refine .sg rfl rfl rfl rfl rfl ?_
              refine .m rfl rfl rfl (.pickT rfl rfl) ?_
              refine .nil ?_
              refine hK38 _ _ ?_
              refine .condT rfl ?_
              refine .seq (fun K39 hK39 => ?_)
              refine .region ?_
              refine .m rfl rfl rfl (.assign rfl) ?_
              refine .nil ?_
              refine hK39 _ _ ?_
              refine .ret ?_
              -- leaf e12
              refine hret _ _ ?_
              refine ⟨_, rfl, ?_⟩
              first
              | exact rfl
              | exact absurd trivial (by assumption)
              | contradiction
              | (exfalso; omega)
             ·
              try simp only [sps] at h99
              refine .mg rfl rfl rfl rfl rfl (.move rfl) ?_
              refine .mg rfl rfl rfl rfl rfl (.move rfl) ?_
              refine .mg rfl rfl rfl rfl rfl (.cmp rfl rfl rfl) ?_
              refine .m rfl rfl rfl (.pickF rfl rfl) ?_
              refine .m rfl rfl rfl (.move rfl) ?_
              refine .split (fun h104 => ?_) (fun h104 => ?_)
              ·
               try simp only [sps] at h104
               refine .sg rfl rfl rfl rfl rfl ?_
               refine .sg rfl rfl rfl rfl rfl ?_
               refine .sg rfl rfl rfl rfl rfl ?_
               refine .m rfl rfl rfl (.pickT rfl rfl) ?_
               refine .nil ?_
               refine hK38 _ _ ?_
               refine .condT rfl ?_
               refine .seq (fun K40 hK40 => ?_)
               refine .region ?_
               refine .m rfl rfl rfl (.assign rfl) ?_
               refine .nil ?_
               refine hK40 _ _ ?_
               refine .ret ?_
               -- leaf e13
               refine hret _ _ ?_
               refine ⟨_, rfl, ?_⟩
               first
               | exact rfl
               | exact absurd trivial (by assumption)
               | contradiction
               | (exfalso; omega)
              ·
               try simp only [sps] at h104
               refine .mg rfl rfl rfl rfl rfl (.move rfl) ?_
               refine .mg rfl rfl rfl rfl rfl (.move rfl) ?_
               refine .mg rfl rfl rfl rfl rfl (.cmp rfl rfl rfl) ?_
               refine .m rfl rfl rfl (.pickF rfl rfl) ?_
               refine .nil ?_
               refine hK38 _ _ ?_
               refine .cond rfl (fun h108 => ?_) (fun h108 => ?_)
               ·
                try simp only [sps] at h108
                refine .seq (fun K41 hK41 => ?_)
                refine .region ?_
                refine .m rfl rfl rfl (.assign rfl) ?_
                refine .nil ?_
                refine hK41 _ _ ?_
                refine .ret ?_
                -- leaf e14
                refine hret _ _ ?_
                refine ⟨_, rfl, ?_⟩
                first
                | exact rfl
                | exact absurd trivial (by assumption)
                | contradiction
                | (exfalso; omega)
               ·
                try simp only [sps] at h108
                refine .skip ?_
                refine hK37 _ _ ?_
                refine .seq (fun K42 hK42 => ?_)
                refine .region ?_
                refine .m rfl rfl rfl (.assign rfl) ?_
                refine .nil ?_
                refine hK42 _ _ ?_
                refine .seq (fun K43 hK43 => ?_)
                refine .region ?_
                refine .m rfl rfl rfl (.move rfl) ?_
                refine .m rfl rfl rfl (.move rfl) ?_
                refine .callQ rfl rfl rfl rfl @Try.call22 rfl (heldInt64SSw_c) ?_
                refine .m rfl rfl rfl (.assign rfl) ?_
                refine .nil ?_
                refine hK43 _ _ ?_
                refine .seq (fun K44 hK44 => ?_)
                refine .seq (fun K45 hK45 => ?_)
                refine .region ?_
                refine .m rfl rfl rfl (.move rfl) ?_
                refine .m rfl rfl rfl (.cmp rfl rfl rfl) ?_
                refine .nil ?_
                refine hK45 _ _ ?_
                refine .cond rfl (fun h113 => ?_) (fun h113 => ?_)
                ·
                 try simp only [sps] at h113
                 refine .seq (fun K46 hK46 => ?_)
                 refine .region ?_
                 refine .m rfl rfl rfl (.assign rfl) ?_
                 refine .nil ?_
                 refine hK46 _ _ ?_
                 refine .ret ?_
                 -- leaf e15
                 refine hret _ _ ?_
                 refine ⟨_, rfl, ?_⟩
                 first
                 | exact rfl
                 | exact absurd trivial (by assumption)
                 | contradiction
                 | (exfalso; omega)
                ·
                 try simp only [sps] at h113
                 refine .skip ?_
                 refine hK44 _ _ ?_
                 refine .seq (fun K47 hK47 => ?_)
                 refine .seq (fun K48 hK48 => ?_)
                 refine .region ?_
                 refine .m rfl rfl rfl (.move rfl) ?_
                 refine .m rfl rfl rfl (.move rfl) ?_
                 refine .m rfl rfl rfl (.cmp rfl rfl rfl) ?_
                 refine .nil ?_
                 refine hK48 _ _ ?_
                 refine .cond rfl (fun h116 => ?_) (fun h116 => ?_)
                 ·
                  try simp only [sps] at h116
                  refine .seq (fun K49 hK49 => ?_)
                  refine .region ?_
                  refine .m rfl rfl rfl (.assign rfl) ?_
                  refine .nil ?_
                  refine hK49 _ _ ?_
                  refine .ret ?_
                  -- leaf e16
                  refine hret _ _ ?_
                  refine ⟨_, rfl, ?_⟩
                  first
                  | exact rfl
                  | exact absurd trivial (by assumption)
                  | contradiction
                  | (exfalso; omega)
                 ·
                  try simp only [sps] at h116
                  refine .skip ?_
                  refine hK47 _ _ ?_
                  refine .seq (fun K50 hK50 => ?_)
                  refine .region ?_
                  refine .m rfl rfl rfl (.assign rfl) ?_
                  refine .nil ?_
                  refine hK50 _ _ ?_
                  refine .ret ?_
                  -- leaf e17
                  refine hret _ _ ?_
                  refine ⟨_, rfl, ?_⟩
                  first
                  | exact rfl
                  | exact absurd trivial (by assumption)
                  | contradiction
                  | (exfalso; omega)
end Go.Proofs.Ytkcpjflhjghapaa
/- The call of a law, whatever it takes: the arguments brought in one by one. No condition. -/
namespace Go.GL
open Go.RowKit Go.WideShapes Go.ChangeShapes Go.Deep

/-- An argument of type t may be brought in so that R holds of what stands for it. -/
structure Imp1 (P : Program) (t : TypeId) (R : GHeap → Value → Prop) : Prop where
  mono : ∀ {H H' : GHeap} {g : Value}, H.Le H' → R H g → R H' g
  imp : ∀ {T : Type} {enc : TypeId × Value → T} {B : Nat} {w0 : World} {ρ : Place} {H : GHeap} {w : World} {held : Bool} {base fuel : Nat} {v : Value} {x : DataW T × List MemPlace}, Sim P B w0 ρ H w → w.heap.size ≤ B →
    DataW.trod enc P w 0 (fun _ => true) held fuel t v.cells.toList = some x → Value.okWide P w .any base t v → ∃ ρ' H' g, Sim P B w0 ρ' H' w ∧ Ext ρ ρ' ∧ H.Le H' ∧ VRel ρ' g v ∧ R H' g

def structT (P : Program) (t : TypeId) : Bool := match P.underlying t with | some (.struct _) => true | _ => false
theorem imp1_struct {P : Program} {t : TypeId} {α β : Type} {cells : α → β → List Value} {I : GHeap → α → β → Prop} {W : α → Prop} (hm : ∀ {H H' : GHeap} {c : α} {p : β}, I H c p → H.Le H' → I H' c p)
    (hI : Imports P t (fun ρ H cs => ∃ (c : α) (p : β), LRel ρ (cells c p) cs ∧ I H c p ∧ W c)) (hst : structT P t = true) : Imp1 P t (fun H g => ∃ (c : α) (p : β), g = .agg (cells c p).toArray ∧ I H c p ∧ W c) where
  mono h := fun ⟨c, p, h1, h2, h3⟩ => ⟨c, p, h1, hm h2 h, h3⟩
  imp := by
    intro T enc B w0 ρ H w held base fuel v x hs hB h hv
    have hagg : ∃ cs, v = .agg cs := by
      unfold Value.okWide at hv
      unfold structT at hst
      split at hst
      · rename_i fs hu
        rw [hu] at hv
        obtain ⟨cs, h, _⟩ := hv
        exact ⟨cs, h⟩
      · cases hst
    obtain ⟨cs, rfl⟩ := hagg
    obtain ⟨ρ', H', h1, h2, h3, c, p, h4, h5, h6⟩ := hI hs hB h
    exact ⟨ρ', H', _, h1, h2, h3, by have := VRel.agg_of h4; simpa [Value.cells] using this, c, p, rfl, h5, h6⟩
theorem imp1_int {P : Program} {t : TypeId} (ht : i64T P t = true) : Imp1 P t (fun _ g => ∃ n, g = .int .i64 n ∧ I64 n) where
  mono _ := id
  imp := by
    intro T enc B w0 ρ H w held base fuel v x hs hB h hv
    obtain ⟨n, rfl⟩ := okWide_int (i64T_run ht) hv
    obtain ⟨ρ', H', h1, h2, h3, m, h4, h5⟩ := import_int ht hs hB h
    have : n = m := by simpa [Value.cells] using h4
    subst this
    exact ⟨ρ', H', _, h1, h2, h3, .int _ _, n, rfl, h5⟩
theorem imp1_ints {P : Program} {t : TypeId} (ht : intsT P t = true) : Imp1 P t (fun H g => ∃ a xs, g = .slice a xs.length xs.length ∧ Ints H a xs ∧ I64s xs) where
  mono h := fun ⟨a, xs, h1, h2, h3⟩ => ⟨a, xs, h1, h2.mono h, h3⟩
  imp := by
    intro T enc B w0 ρ H w held base fuel v x hs hB h hv
    obtain ⟨e, hu, _⟩ := intsT_run ht
    obtain ⟨a, l, c, rfl⟩ := okWide_slice hu hv
    obtain ⟨ρ', H', h1, h2, h3, a', xs, c', h4, h5, h6, h7⟩ := import_ints ht hs hB h
    have : Value.slice a l c = c' := by simpa [Value.cells] using h4
    subst this
    exact ⟨ρ', H', _, h1, h2, h3, h5, a', xs, rfl, h6, h7⟩
theorem imp1_intss {P : Program} {t : TypeId} (ht : intssT P t = true) : Imp1 P t (fun H g => ∃ a xss r, g = .slice a xss.length xss.length ∧ Intss H a xss r ∧ xss.length ≤ 9223372036854775807 ∧ ∀ i, I64s (xss.getD i [])) where
  mono h := fun ⟨a, xs, r, h1, h2, h3⟩ => ⟨a, xs, r, h1, h2.mono h, h3⟩
  imp := by
    intro T enc B w0 ρ H w held base fuel v x hs hB h hv
    obtain ⟨e, hu, _⟩ := intssT_run ht
    obtain ⟨a, l, c, rfl⟩ := okWide_slice hu hv
    obtain ⟨ρ', H', h1, h2, h3, a', xs, r, c', h4, h5, h6, h7⟩ := import_intss ht hs hB h
    have : Value.slice a l c = c' := by simpa [Value.cells] using h4
    subst this
    exact ⟨ρ', H', _, h1, h2, h3, h5, a', xs, r, rfl, h6, h7⟩
theorem imp1_intsss {P : Program} {t : TypeId} (ht : intsssT P t = true) : Imp1 P t (fun H g => ∃ a x r s, g = .slice a x.length x.length ∧ Intsss H a x r s ∧ Wd3 x) where
  mono h := fun ⟨a, xs, r, s, h1, h2, h3⟩ => ⟨a, xs, r, s, h1, h2.mono h, h3⟩
  imp := by
    intro T enc B w0 ρ H w held base fuel v x hs hB h hv
    obtain ⟨e, hu, _⟩ := intsssT_run ht
    obtain ⟨a, l, c, rfl⟩ := okWide_slice hu hv
    obtain ⟨ρ', H', h1, h2, h3, a', xs, r, s, c', h4, h5, h6, h7⟩ := import_intsss ht hs hB h
    have : Value.slice a l c = c' := by simpa [Value.cells] using h4
    subst this
    exact ⟨ρ', H', _, h1, h2, h3, h5, a', xs, r, s, rfl, h6, h7⟩

/-- Arguments of types ts may be brought in so that R holds of what stands for them. -/
structure ImpAll (P : Program) (ts : List TypeId) (R : GHeap → List Value → Prop) : Prop where
  imp : ∀ {T : Type} {enc : TypeId × Value → T} {B : Nat} {w0 : World} {ρ : Place} {H : GHeap} {w : World} {base : Nat} {vs : List Value} {ds : List (DataW T)} {ps : List MemPlace}, Sim P B w0 ρ H w → w.heap.size ≤ B →
    DataW.TrodAll enc P w 0 (fun _ => true) true ts vs ds ps → (∀ (j : Nat) t v, ts[j]? = some t → vs[j]? = some v → Value.okWide P w .any base t v) → ds.length = ts.length ∧ ∃ ρ' H' gs, Sim P B w0 ρ' H' w ∧ Ext ρ ρ' ∧ H.Le H' ∧ LRel ρ' gs vs ∧ R H' gs
theorem ImpAll.nil {P : Program} : ImpAll P [] (fun _ gs => gs = []) where
  imp := by
    intro T enc B w0 ρ H w base vs ds ps hs hB h hv
    obtain ⟨rfl, rfl, rfl⟩ := trodAll_nil h
    exact ⟨rfl, ρ, H, [], hs, .refl ρ, .refl H, .nil ρ, rfl⟩
theorem ImpAll.cons {P : Program} {t : TypeId} {ts : List TypeId} {R1 : GHeap → Value → Prop} {R : GHeap → List Value → Prop} (h1 : Imp1 P t R1) (h2 : ImpAll P ts R) : ImpAll P (t :: ts) (fun H gs => ∃ g r, gs = g :: r ∧ R1 H g ∧ R H r) where
  imp := by
    intro T enc B w0 ρ H w base vs ds ps hs hB h hv
    obtain ⟨v, vs, d, ds, p, q, rfl, rfl, rfl, ⟨fuel, k1⟩, k2⟩ := trodAll_cons h
    obtain ⟨ρ1, H1, g, s1, e1, l1, v1, r1⟩ := h1.imp hs hB k1 (hv 0 t v rfl rfl)
    obtain ⟨hl, ρ2, H2, gs, s2, e2, l2, v2, r2⟩ := h2.imp s1 hB k2 (fun j t v ht hj => hv (j + 1) t v (by simpa using ht) (by simpa using hj))
    exact ⟨by simp [hl], ρ2, H2, g :: gs, s2, e1.trans e2, l1.trans l2, .cons (v1.mono e2) v2, g, gs, rfl, h1.mono l2 r1, r2⟩

/-- The call of a law. -/
theorem law_calls {P : Program} {f : FuncId} {fn : Func} {ts : List TypeId} {tb : TypeId} {R : GHeap → List Value → Prop} (hI : ImpAll P ts R) (hp : fn.params = ts.toArray)
    (hc : ∀ H gs, R H gs → GCalls P f gs H fun v _ => v = .bool true)
    {T : Type} {enc : TypeId × Value → T} {W : World} {base : Nat} {args : Array Value} {s : ChangeSpec} {apart fresh handsOn again : Bool} {ds gs : List (DataW T)} {before : List MemPlace}
    (hval : ∀ (j : Nat) t v, fn.params[j]? = some t → args[j]? = some v → Value.okWide P W .any base t v)
    (hW : DataW.Whole enc P fn.params.toList s.vars apart W args.toList ds gs before)
    (hl : laidOutB P = true) (hr : readB P fn.params.toList = true) (hv : s.vars = []) (hrt : fn.resultTypes = #[tb]) (htb : P.underlying tb = some .bool)
    (hs : ∀ ds : List (DataW T), ds.length = ts.length → (s.fn T ds).results = [.lit (.bool true)] ∧ (s.fn T ds).args = ds ∧ (s.fn T ds).vars = []) :
    Calls P f args W fun e W' => ∃ v, e = .returned v ∧ s.post enc P fn apart fresh handsOn again W args v W' := by
  have hWW := hW
  obtain ⟨p, q, hA, _⟩ := hW
  rw [hp] at hA
  obtain ⟨hlen, ρ, H, gs', hs', _, _, hrel, hR⟩ := hI.imp (base := base) (Sim.start P W) (Nat.le_refl _) (by simpa using hA) (fun j t v ht hj => hval j t v (by rw [hp]; simpa using ht) (by simpa using hj))
  have := (hc H gs' hR) _ _ ρ args.toList W hs' hrel
  rw [Array.toArray_toList] at this
  refine this.mono fun e W' ⟨v, c, ρ', H', he, hv', _, hsim, hrv⟩ => ?_
  subst hv'
  cases hrv
  exact ⟨_, he, law_post hl hr hv hrt htb hWW (hs ds hlen).1 (hs ds hlen).2.1 (hs ds hlen).2.2 hsim.below⟩
end Go.GL
