/- Partitions: the reference's and the program's. No condition but those of each statement. -/
import Derived.Test.YtfanjkbaemhbmaaZ7
namespace Go.Proofs.Ytfanjkbaemhbmaa
open Go Go.GL Go.RowKit Go.Proofs
theorem l01Own_c {a : Option Addr} {xs : List Int} {H : GHeap} (h : Ints H a xs := by assumption) (hl : xs.length ≤ 1048576 := by omega) :
    GCalls Try.prog 108 [.slice a xs.length xs.length] H (NewInts 2 H xs) := by
  refine GCalls.body (N := 6) (rs := [.tmp 2]) Try.func108 rfl rfl rfl rfl (fun Qx d hend => ?_)
  refine .fg [0] rfl ?_
  have c := GHeap.Le.refl H
  have b := h
  refine .seq (fun K1 j => .region (.mv rfl (.nil (j _ _ (.seq (fun K2 i => .region ?_))))))
  refine .R rfl (.litA rfl sl_24_A ze_2_L rfl rfl rfl rfl) ?_
  rintro _ H3 ⟨g3, rfl, g, _, e⟩
  replace c := c.trans g
  have _ := GHeap.ltg e
  replace h := b.mono c
  replace e : GHeap.get H3 g3 = some (.row (ints []) 2 true) := e
  refine .mv rfl ?_
  refine .R rfl (.appendL rfl sl_24_A ze_2_L rfl by_2_L sl_24_A rfl rfl (by assumption) (by first | assumption | exact Ints.of_get (by assumption)) (by first | omega | (simp <;> omega)) (by omega) (by omega)) ?_
  rintro _ _ ⟨_, rfl, l, _, f⟩
  replace c := c.st l (fun k hk => ⟨by omega, trivial⟩)
  refine .mv rfl (.nil (i _ _ (.ret (d _ _ (⟨_, rfl, ?_⟩)))))
  exact ⟨c, _, by rw [Nat.zero_add], by simpa using f, by omega⟩
end Go.Proofs.Ytfanjkbaemhbmaa
namespace Go.GL
def searchL (cand : Nat → List Int) (ok : Nat → List Int → Bool) : Nat → List Int → List (List Int)
  | 0, p => [p]
  | r + 1, p => (cand p.length).flatMap fun h => bif ok p.length (p ++ [h]) then searchL cand ok r (p ++ [h]) else []
structure Net where
  cand : Nat → List Int
  A : Nat
  sr : Nat → Nat
  tg : Nat → Nat
  sq : Nat → Int → Int → Bool
namespace Net
def ok (n : Net) (j : Nat) (q : List Int) : Bool := allN n.A fun a => !(max (n.sr a) (n.tg a) == j) || n.sq a (q.getD (n.sr a) 0) (q.getD (n.tg a) 0)
def fits (n : Net) (q : List Int) (x : Nat) : Bool := allN n.A fun a => (n.sr a != x && n.tg a != x) || decide (q.getD (n.sr a) 0 < 0) || decide (q.getD (n.tg a) 0 < 0) || n.sq a (q.getD (n.sr a) 0) (q.getD (n.tg a) 0)
def choices (n : Net) (c : List Int) (x : Nat) : List Int := (n.cand x).filter fun h => n.fits (c.set x h) x
def sols (n : Net) (N : Nat) : List (List Int) := searchL n.cand n.ok N []
end Net
def firstU (c : List Int) : Option Nat := firstN c.length fun i => c.getD i 0 == -1
def cntU (c : List Int) : Nat := ((List.range c.length).filter fun i => c.getD i 0 == -1).length
def Net.stuck (n : Net) (c : List Int) : Bool := (List.range c.length).any fun y => c.getD y 0 == -1 && (n.choices c y).isEmpty
def Net.goF (n : Net) : Nat → List Int → List (List Int)
  | 0, c => [c]
  | f + 1, c => match firstU c with
    | none => [c]
    | some x => bif n.stuck c then [] else (n.choices c x).flatMap fun h => n.goF f (c.set x h)
def Net.go (n : Net) (c : List Int) : List (List Int) := n.goF (cntU c) c
structure Net.Good (n : Net) (N : Nat) : Prop where
  pos : ∀ x, ∀ h ∈ n.cand x, 0 ≤ h
  sr : ∀ a, a < n.A → n.sr a < N
  tg : ∀ a, a < n.A → n.tg a < N
end Go.GL
namespace Go.GL

structure StM (lo hi : Nat) (H H' : GHeap) : Prop where
  nx : H.next ≤ H'.next
  same : ∀ k o, ¬ (lo ≤ k ∧ k < hi) → H.get k = some o → H'.get k = some o
  ins : ∀ k o, H.get k = some o → ∃ o', H'.get k = some o' ∧ (o' = o ∨ ∃ xs ys e, o = .row (ints xs) e true ∧ o' = .row (ints ys) e true ∧ ys.length = xs.length)
def sumL : List (List Int) → Nat
  | [] => 0
  | xs :: r => xs.length + sumL r
def seqL (k : Int) (n : Nat) : List Int := (List.range n).map fun (i : Nat) => k + (i : Int)
abbrev Leaf := Option Addr × Nat
def lvBlk : Leaf → List Nat
  | (some a, _ + 1) => [a.block]
  | _ => []
def lvBlks (ls : List Leaf) : List Nat := ls.flatMap lvBlk
def Held (b : Nat) (H : GHeap) : List Leaf → Int → Prop
  | [], _ => True
  | l :: r, k => (l.2 = 0 ∨ ∃ g e, l.1 = some ⟨g, 0, none⟩ ∧ b ≤ g ∧ H.get g = some (.row (ints (seqL k l.2)) e true)) ∧ Held b H r (k + l.2)
structure StB (bs : List Nat) (H H' : GHeap) : Prop where
  nx : H.next ≤ H'.next
  same : ∀ k o, ¬ k ∈ bs → H.get k = some o → H'.get k = some o
theorem lvBlks_append (ls ms : List Leaf) : lvBlks (ls ++ ms) = lvBlks ls ++ lvBlks ms := by simp [lvBlks]
def IntsR (b : Nat) (H : GHeap) (a : Option Addr) (xs : List Int) : Prop := (xs = [] ∧ a = none) ∨ IntsAt b H a xs
theorem IntsR.keep {b b' : Nat} {H H' : GHeap} {a : Option Addr} {xs : List Int} (h : IntsR b H a xs) (k : Keep b' H H') (hb : b' ≤ b) : IntsR b' H' a xs := h.imp id fun h => h.keep k hb
theorem IntsR.ints {b : Nat} {H : GHeap} {a : Option Addr} {xs : List Int} (h : IntsR b H a xs) : Ints H a xs := by
  rcases h with ⟨rfl, _⟩ | h
  · exact .inl rfl
  · exact h.ints
def Con.leaves (c : Con) (p : ConP) : List Leaf := [(p.a1, c.lg.length)]
structure Marked (lo hi : Nat) (H H' : GHeap) (ls : List Leaf) (k : Int) : Prop where
  stm : StM lo hi H H'
  stb : StB (lvBlks ls) H H'
  held : (lvBlks ls).Nodup → Held lo H' ls k
def rowsL (r : Nat → Option Addr) (xss : List (List Int)) (n : Nat) : List Leaf := (List.range n).map fun i => (r i, (xss.getD i []).length)
theorem rowsL_succ (r : Nat → Option Addr) (xss : List (List Int)) (n : Nat) : rowsL r xss (n + 1) = rowsL r xss n ++ [(r n, (xss.getD n []).length)] := by simp [rowsL, List.range_succ]
def Cat.leaves (c : Cat) (p : CatP) : List Leaf := [(p.a1, c.src.length)] ++ ([(p.a2, c.tgt.length)] ++ ([(p.a3, c.idn.length)] ++ rowsL p.r c.comp c.comp.length))
def Fun.leaves (f : Fun) (p : FunP) : List Leaf := f.s.leaves p.s ++ (f.t.leaves p.t ++ ([(p.b1, f.ob.length)] ++ [(p.b2, f.ar.length)]))
end Go.GL
namespace Go.GL

structure Fun.Cone (d : Fun) (p : Con) : Prop where
  ap : 0 ≤ p.ap ∧ p.ap < d.t.obj
  ll : p.lg.length = d.ob.length
  lg : ∀ j, j < p.lg.length → 0 ≤ p.lg.getD j 0 ∧ p.lg.getD j 0 < d.t.src.length
  ends : ∀ j, j < p.lg.length → d.t.src.getD (p.lg.getD j 0).toNat 0 = p.ap ∧ d.t.tgt.getD (p.lg.getD j 0).toNat 0 = d.ob.getD j 0
  tri : ∀ a, a < d.ar.length → d.t.th (p.lg.getD (d.s.src.getD a 0).toNat 0) (d.ar.getD a 0) = p.lg.getD (d.s.tgt.getD a 0).toNat 0
def Con.zero : Con := ⟨0, []⟩
end Go.GL
namespace Go.GL

def Rising (xs : List Int) : Prop := ∀ i, 1 ≤ i → i < xs.length → xs.getD (i - 1) 0 < xs.getD i 0
structure SFun.Part (f : SFun) (me : List (List Int)) : Prop where
  pl : me.length = f.sz.length
  rs : ∀ x, x < me.length → Rising (me.getD x []) ∧ allIn (me.getD x []) (f.sz.getD x 0) = true
  cl : ∀ a, a < f.ac.length → ∀ i, i < (me.getD (f.sh.src.getD a 0).toNat []).length → (me.getD (f.sh.tgt.getD a 0).toNat []).contains ((f.ac.getD a []).getD ((me.getD (f.sh.src.getD a 0).toNat []).getD i 0).toNat 0) = true
end Go.GL
namespace Go.GL

def SFun.leaves (f : SFun) (p : SFunP) : List Leaf := f.sh.leaves p.sh ++ ([(p.a1, f.sz.length)] ++ rowsL p.r2 f.ac f.ac.length)
def SMap.leaves (f : SMap) (p : SMapP) : List Leaf := f.s.leaves p.s ++ (f.t.leaves p.t ++ rowsL p.r2 f.pa f.pa.length)
def Prt.leaves (f : Prt) (p : PrtP) : List Leaf := rowsL p.r0 f.me f.me.length
def NoTwo (xss : List (List Int)) (r : Nat → Option Addr) : Prop := (lvBlks (rowsL r xss xss.length)).Nodup
def IntssR (b : Nat) (H : GHeap) (a : Option Addr) (xss : List (List Int)) (r : Nat → Option Addr) : Prop := ((xss = [] ∧ a = none) ∨ IntssAt b H a xss r) ∧ NoTwo xss r
theorem IntssR.keep {b b' : Nat} {H H' : GHeap} {a : Option Addr} {xs : List (List Int)} {r : Nat → Option Addr} (h : IntssR b H a xs r) (k : Keep b' H H') (hb : b' ≤ b) : IntssR b' H' a xs r := ⟨h.1.imp id fun h => h.keep k hb, h.2⟩
theorem IntssR.intss {b : Nat} {H : GHeap} {a : Option Addr} {xs : List (List Int)} {r : Nat → Option Addr} (h : IntssR b H a xs r) : Intss H a xs r := by
  rcases h.1 with ⟨rfl, rfl⟩ | h
  · exact ⟨.inl rfl, fun i hi => by simp at hi⟩
  · exact h.intss
def slsOf (r : Nat → Option Addr) (X : Nat → List Int) (k : Nat) : List Value := (List.range k).map fun i => .slice (r i) (X i).length (X i).length
@[simp] theorem length_slsOf (r : Nat → Option Addr) (X : Nat → List Int) (k : Nat) : (slsOf r X k).length = k := by simp [slsOf]
def upd (r : Nat → Option Addr) (k : Nat) (a : Option Addr) : Nat → Option Addr := fun i => if i = k then a else r i
theorem upd_eq (r : Nat → Option Addr) (k : Nat) (a : Option Addr) : upd r k a k = a := by simp [upd]
theorem upd_ne {r : Nat → Option Addr} {k i : Nat} {a : Option Addr} (h : i ≠ k) : upd r k a i = r i := by simp [upd, h]
theorem slsOf_succ {r : Nat → Option Addr} {X : Nat → List Int} {k : Nat} {a : Option Addr} : slsOf (upd r k a) X (k + 1) = slsOf r X k ++ [.slice a (X k).length (X k).length] := by
  unfold slsOf
  rw [List.range_succ, List.map_append]
  congr 1
  · refine List.map_congr_left fun i hi => ?_
    rw [upd_ne (by have := List.mem_range.1 hi; omega)]
  · simp [upd_eq]
structure OwnRows (b : Nat) (H : GHeap) (e : TypeId) (r : Nat → Option Addr) (X : Nat → List Int) (k : Nat) : Prop where
  row : ∀ i, i < k → ∃ g, r i = some ⟨g, 0, none⟩ ∧ b ≤ g ∧ H.get g = some (.row (ints (X i)) e true)
  inj : ∀ i j, i < k → j < k → r i = r j → i = j
theorem OwnRows.zero (b : Nat) (H : GHeap) (e : TypeId) (r : Nat → Option Addr) (X : Nat → List Int) : OwnRows b H e r X 0 := ⟨fun i hi => by omega, fun i j hi => by omega⟩
def Lasts (e : TypeId) (H H' : GHeap) : Prop := ∀ x xs, H.get x = some (.row (ints xs) e true) → H'.get x = some (.row (ints xs) e true)
theorem St.lasts1 {g0 : Nat} {H H' : GHeap} {e e' : TypeId} {cs : List Value} (s : St [g0] H H') (h0 : H.get g0 = some (.row cs e' true)) (hne : (e != e') = true) : Lasts e H H' := fun x xs hx => by
  simp only [bne_iff_ne, ne_eq] at hne
  refine s.same x _ ⟨fun ex => ?_, trivial⟩ hx
  subst ex
  rw [h0] at hx
  cases hx
  exact hne rfl
theorem OwnRows.keep {b k : Nat} {H H' : GHeap} {e : TypeId} {r : Nat → Option Addr} {X : Nat → List Int} (h : OwnRows b H e r X k) (s : Lasts e H H') : OwnRows b H' e r X k := ⟨fun i hi => by
  obtain ⟨x, h1, h2, h3⟩ := h.row i hi
  exact ⟨x, h1, h2, s x _ h3⟩, h.inj⟩
theorem OwnRows.succ' {b g k : Nat} {H H' : GHeap} {e : TypeId} {r : Nat → Option Addr} {X : Nat → List Int} (h : OwnRows b H e r X k) (s : Lasts e H H')
    (hg : H'.get g = some (.row (ints (X k)) e true)) (hn : H.next ≤ g) (hb : b ≤ g) : OwnRows b H' e (upd r k (some ⟨g, 0, none⟩)) X (k + 1) := by
  refine ⟨fun i hi => ?_, fun i j hi hj hij => ?_⟩
  · by_cases ek : i = k
    · subst ek; exact ⟨g, upd_eq _ _ _, hb, hg⟩
    · obtain ⟨x, h1, h2, h3⟩ := h.row i (by omega)
      exact ⟨x, by rw [upd_ne ek]; exact h1, h2, s x _ h3⟩
  · by_cases ei : i = k
    · by_cases ej : j = k
      · omega
      · subst ei
        rw [upd_eq, upd_ne ej] at hij
        obtain ⟨x, h1, _, h3⟩ := h.row j (by omega)
        rw [h1] at hij
        cases hij
        have := GHeap.ltg h3
        omega
    · by_cases ej : j = k
      · subst ej
        rw [upd_eq, upd_ne ei] at hij
        obtain ⟨x, h1, _, h3⟩ := h.row i (by omega)
        rw [h1] at hij
        cases hij
        have := GHeap.ltg h3
        omega
      · rw [upd_ne ei, upd_ne ej] at hij
        exact h.inj i j (by omega) (by omega) hij
theorem mem_lvBlk {g n x : Nat} (h : x ∈ lvBlk (some ⟨g, 0, none⟩, n)) : x = g := by
  cases n with
  | zero => simp [lvBlk] at h
  | succ n => simpa [lvBlk] using h
theorem lvBlks_rowsL {r : Nat → Option Addr} {xss : List (List Int)} (hr : ∀ i, i < xss.length → ∃ g, r i = some ⟨g, 0, none⟩) (hi : ∀ i j, i < xss.length → j < xss.length → r i = r j → i = j) : ∀ {n}, n ≤ xss.length →
    (lvBlks (rowsL r xss n)).Nodup ∧ ∀ g ∈ lvBlks (rowsL r xss n), ∃ i, i < n ∧ r i = some ⟨g, 0, none⟩
  | 0, _ => by simp [rowsL, lvBlks]
  | n + 1, hn => by
    obtain ⟨h1, h2⟩ := lvBlks_rowsL hr hi (n := n) (by omega)
    obtain ⟨g, hg⟩ := hr n (by omega)
    have h3 : ∀ x ∈ lvBlk (r n, (xss.getD n []).length), x = g := fun x hx => by rw [hg] at hx; exact mem_lvBlk hx
    have h4 : (lvBlk (r n, (xss.getD n []).length)).Nodup := by unfold lvBlk; split <;> simp
    have e1 : lvBlks (rowsL r xss (n + 1)) = lvBlks (rowsL r xss n) ++ lvBlk (r n, (xss.getD n []).length) := by rw [rowsL_succ, lvBlks_append]; simp [lvBlks]
    rw [e1]
    refine ⟨List.nodup_append.2 ⟨h1, h4, fun x hx y hy hxy => ?_⟩, fun x hx => ?_⟩
    · obtain ⟨i, i1, i2⟩ := h2 x hx
      have := h3 y hy
      subst hxy this
      have := hi i n (by omega) (by omega) (by rw [i2, hg])
      omega
    · rcases List.mem_append.1 hx with hx | hx
      · obtain ⟨i, i1, i2⟩ := h2 x hx
        exact ⟨i, by omega, i2⟩
      · exact ⟨n, by omega, by rw [h3 x hx]; exact hg⟩
def rowsOf (X : Nat → List Int) (n : Nat) : List (List Int) := (List.range n).map X
@[simp] theorem length_rowsOf (X : Nat → List Int) (n : Nat) : (rowsOf X n).length = n := by simp [rowsOf]
theorem rowsOf_get {X : Nat → List Int} {n i : Nat} (h : i < n) : (rowsOf X n).getD i [] = X i := by simp [rowsOf, List.getD_eq_getElem?_getD, h]
theorem OwnRows.done {b g n : Nat} {H : GHeap} {e e' : TypeId} {r : Nat → Option Addr} {X : Nat → List Int} (h : OwnRows b H e r X n) (hg : H.get g = some (.row (slsOf r X n) e' true)) (hb : b ≤ g) : IntssR b H (some ⟨g, 0, none⟩) (rowsOf X n) r := by
  refine ⟨.inr ⟨g, e', slsOf r X n, rfl, hb, hg, by simp, fun i hi => ?_, fun i hi => ?_⟩, ?_⟩
  · rw [length_rowsOf] at hi
    rw [rowsOf_get hi]
    simp [slsOf, hi]
  · rw [length_rowsOf] at hi
    rw [rowsOf_get hi]
    obtain ⟨x, h1, h2, h3⟩ := h.row i hi
    exact ⟨x, e, h1, h2, h3⟩
  · exact (lvBlks_rowsL (fun i hi => by rw [length_rowsOf] at hi; obtain ⟨x, h1, _⟩ := h.row i hi; exact ⟨x, h1⟩) (fun i j hi hj => by rw [length_rowsOf] at hi hj; exact h.inj i j hi hj) (Nat.le_refl _)).1

section
variable {P : Program} {o : Oper} {fr : Slots} {H : GHeap}
end
def SMap.backX (m : SMap) (me : List (List Int)) (x : Nat) : List Int := filtN (m.pa.getD x []).length fun e => (me.getD x []).contains ((m.pa.getD x []).getD e 0)
def SMap.backR (m : SMap) (me : List (List Int)) : List (List Int) := rowsOf (m.backX me) m.pa.length
noncomputable def SMap.back (m : SMap) (me : List (List Int)) : Prt := ⟨bif B (m.Is ∧ m.t.Part me) then m.backR me else []⟩
def SFun.pick (f : SFun) (Y : Nat → Nat → Bool) : Prt := ⟨rowsOf (fun x => filtN (f.sz.getD x 0).toNat (Y x)) f.sz.length⟩
end Go.GL
namespace Go.GL
def slsL (r : Nat → Option Addr) (xss : List (List Int)) : List Value := slsOf r (fun i => xss.getD i []) xss.length
@[simp] theorem length_slsL (r : Nat → Option Addr) (xss : List (List Int)) : (slsL r xss).length = xss.length := by simp [slsL]
theorem slsOf_congr {r : Nat → Option Addr} {X Y : Nat → List Int} {k : Nat} (h : ∀ i, i < k → X i = Y i) : slsOf r X k = slsOf r Y k := List.map_congr_left fun i hi => by rw [h i (List.mem_range.1 hi)]
theorem getD_snoc {α : Type} {xs : List α} {x d : α} {i : Nat} : (xs ++ [x]).getD i d = if i < xs.length then xs.getD i d else if i = xs.length then x else d := by
  rw [List.getD_eq_getElem?_getD, List.getD_eq_getElem?_getD]
  by_cases h : i < xs.length
  · rw [if_pos h, List.getElem?_append_left h]
  · rw [if_neg h, List.getElem?_append_right (by omega)]
    by_cases e : i = xs.length
    · subst e; simp
    · rw [if_neg e, List.getElem?_eq_none (by simp; omega)]; rfl
theorem slsL_snoc {r : Nat → Option Addr} {xss : List (List Int)} {x : List Int} {a : Option Addr} : slsL (upd r xss.length a) (xss ++ [x]) = slsL r xss ++ [.slice a x.length x.length] := by
  unfold slsL
  rw [List.length_append, List.length_singleton]
  rw [slsOf_succ]
  congr 1
  · refine slsOf_congr fun i hi => ?_
    rw [getD_snoc, if_pos hi]
  · rw [getD_snoc, if_neg (by omega), if_pos rfl]
def OwnL (b : Nat) (H : GHeap) (e : TypeId) (r : Nat → Option Addr) (xss : List (List Int)) : Prop := OwnRows b H e r (fun i => xss.getD i []) xss.length
theorem OwnL.nil (b : Nat) (H : GHeap) (e : TypeId) (r : Nat → Option Addr) : OwnL b H e r [] := OwnRows.zero _ _ _ _ _
theorem OwnRows.congr {b : Nat} {H : GHeap} {e : TypeId} {r : Nat → Option Addr} {X Y : Nat → List Int} {k : Nat} (h : OwnRows b H e r X k) (hx : ∀ i, i < k → X i = Y i) : OwnRows b H e r Y k := ⟨fun i hi => by rw [← hx i hi]; exact h.row i hi, h.inj⟩
theorem OwnL.snoc {b g : Nat} {H H' : GHeap} {e : TypeId} {r : Nat → Option Addr} {xss : List (List Int)} {x : List Int} (h : OwnL b H e r xss) (s : Lasts e H H') (hg : H'.get g = some (.row (ints x) e true)) (hn : H.next ≤ g) (hb : b ≤ g) : OwnL b H' e (upd r xss.length (some ⟨g, 0, none⟩)) (xss ++ [x]) := by
  unfold OwnL at h ⊢
  rw [List.length_append, List.length_singleton]
  have h' : OwnRows b H e r (fun i => (xss ++ [x]).getD i []) xss.length := h.congr fun i hi => by rw [getD_snoc, if_pos hi]
  exact h'.succ' s (by rw [getD_snoc, if_neg (by omega), if_pos rfl]; exact hg) hn hb
theorem OwnL.keep {b : Nat} {H H' : GHeap} {e : TypeId} {r : Nat → Option Addr} {xss : List (List Int)} (h : OwnL b H e r xss) (s : Lasts e H H') : OwnL b H' e r xss := OwnRows.keep h s
theorem rowsOf_self (xss : List (List Int)) : rowsOf (fun i => xss.getD i []) xss.length = xss := by
  apply List.ext_getElem (by simp)
  intro i h1 h2
  simp only [rowsOf, List.getElem_map, List.getElem_range, List.getD_eq_getElem?_getD, List.getElem?_eq_getElem h2, Option.getD_some]
theorem OwnL.done {b g : Nat} {H : GHeap} {e e' : TypeId} {r : Nat → Option Addr} {xss : List (List Int)} (h : OwnL b H e r xss) (hg : H.get g = some (.row (slsL r xss) e' true)) (hb : b ≤ g) : IntssR b H (some ⟨g, 0, none⟩) xss r := by
  have := OwnRows.done (X := fun i => xss.getD i []) h hg hb
  rwa [rowsOf_self] at this
theorem OwnL.intss {b g : Nat} {H : GHeap} {e e' : TypeId} {r : Nat → Option Addr} {xss : List (List Int)} (h : OwnL b H e r xss) (hg : H.get g = some (.row (slsL r xss) e' true)) (hb : b ≤ g) : Intss H (some ⟨g, 0, none⟩) xss r := (h.done hg hb).intss
theorem IntsR.of_at {b : Nat} {H : GHeap} {g : Nat} {e : TypeId} {xs : List Int} (h : H.get g = some (.row (Go.GL.ints xs) e true)) (hb : b ≤ g) : IntsR b H (some ⟨g, 0, none⟩) xs := .inr ⟨g, e, rfl, hb, h⟩

def nestL {α : Type} (pr : Nat → Nat → α) (sz : Nat → Nat) (k t : Nat) : List α := (List.range k).flatMap (fun a => (List.range (sz a)).map (pr a)) ++ (List.range t).map (pr k)
theorem nestL_zero {α : Type} (pr : Nat → Nat → α) (sz : Nat → Nat) : nestL pr sz 0 0 = [] := rfl
theorem nestL_snoc {α : Type} {pr : Nat → Nat → α} {sz : Nat → Nat} {k t : Nat} : nestL pr sz k (t + 1) = nestL pr sz k t ++ [pr k t] := by
  unfold nestL
  rw [List.range_succ, List.map_append, ← List.append_assoc]
  rfl
theorem nestL_next {α : Type} {pr : Nat → Nat → α} {sz : Nat → Nat} {k : Nat} : nestL pr sz (k + 1) 0 = nestL pr sz k (sz k) := by
  unfold nestL
  rw [List.range_succ, List.flatMap_append]
  simp
theorem nestL_length {α : Type} {pr : Nat → Nat → α} {sz : Nat → Nat} {c : Nat} : ∀ {k}, (∀ a, a < k → sz a ≤ c) → (nestL pr sz k 0).length ≤ k * c
  | 0, _ => by simp [nestL]
  | k + 1, h => by
    have ih := nestL_length (pr := pr) (sz := sz) (c := c) (k := k) fun a ha => h a (by omega)
    have := h k (by omega)
    rw [nestL_next]
    simp only [nestL, List.length_append, List.length_map, List.length_range, List.range_zero, List.map_nil, List.append_nil] at ih ⊢
    rw [Nat.add_mul]
    omega
def nest3 {α : Type} (pr : Nat → Nat → Nat → α) (s1 : Nat → Nat) (s2 : Nat → Nat → Nat) (k t u : Nat) : List α := (List.range k).flatMap (fun a => nestL (pr a) (s2 a) (s1 a) 0) ++ nestL (pr k) (s2 k) t u
theorem nest3_snoc {α : Type} {pr : Nat → Nat → Nat → α} {s1 : Nat → Nat} {s2 : Nat → Nat → Nat} {k t u : Nat} : nest3 pr s1 s2 k t (u + 1) = nest3 pr s1 s2 k t u ++ [pr k t u] := by
  unfold nest3
  rw [nestL_snoc, List.append_assoc]
theorem nest3_next2 {α : Type} {pr : Nat → Nat → Nat → α} {s1 : Nat → Nat} {s2 : Nat → Nat → Nat} {k t : Nat} : nest3 pr s1 s2 k (t + 1) 0 = nest3 pr s1 s2 k t (s2 k t) := by
  unfold nest3
  rw [nestL_next]
theorem nest3_next1 {α : Type} {pr : Nat → Nat → Nat → α} {s1 : Nat → Nat} {s2 : Nat → Nat → Nat} {k : Nat} : nest3 pr s1 s2 (k + 1) 0 0 = nest3 pr s1 s2 k (s1 k) 0 := by
  unfold nest3
  rw [List.range_succ, List.flatMap_append]
  simp [nestL_zero]
theorem flatMap_len {α : Type} {f : Nat → List α} {c : Nat} : ∀ {k}, (∀ a, a < k → (f a).length ≤ c) → ((List.range k).flatMap f).length ≤ k * c
  | 0, _ => by simp
  | k + 1, h => by
    have ih := flatMap_len (f := f) (c := c) (k := k) fun a ha => h a (by omega)
    have := h k (by omega)
    rw [List.range_succ, List.flatMap_append, List.length_append, Nat.add_mul]
    simp only [List.flatMap_cons, List.flatMap_nil, List.append_nil]
    omega
theorem nest3_all {α : Type} {pr : Nat → Nat → Nat → α} {s1 : Nat → Nat} {s2 : Nat → Nat → Nat} {c d n : Nat} (h1 : ∀ a, a < n → s1 a ≤ d) (h2 : ∀ a, a < n → ∀ b, b < s1 a → s2 a b ≤ c) : (nest3 pr s1 s2 n 0 0).length ≤ n * (d * c) := by
  unfold nest3
  rw [nestL_zero, List.append_nil]
  exact flatMap_len fun a ha => by
    have r1 := nestL_length (pr := pr a) (sz := s2 a) (c := c) (k := s1 a) fun b hb => h2 a ha b hb
    exact Nat.le_trans r1 (Nat.mul_le_mul_right _ (h1 a ha))
theorem getD_mem_list {α : Type} {xs : List α} {d : α} {i : Nat} (h : i < xs.length) : xs.getD i d ∈ xs := by
  rw [List.getD_eq_getElem?_getD, List.getElem?_eq_getElem h]
  exact List.getElem_mem h

def CatR (b : Nat) (H : GHeap) (c : Cat) (p : CatP) : Prop := (IntsR b H p.a1 c.src ∧ IntsR b H p.a2 c.tgt ∧ IntsR b H p.a3 c.idn ∧ IntssR b H p.a4 c.comp p.r) ∧ (lvBlks (c.leaves p)).Nodup
theorem CatR.keep {b b' : Nat} {H H' : GHeap} {c : Cat} {p : CatP} (h : CatR b H c p) (k : Keep b' H H') (hb : b' ≤ b) : CatR b' H' c p := ⟨⟨h.1.1.keep k hb, h.1.2.1.keep k hb, h.1.2.2.1.keep k hb, h.1.2.2.2.keep k hb⟩, h.2⟩
theorem CatR.inn {b : Nat} {H : GHeap} {c : Cat} {p : CatP} (h : CatR b H c p) : c.In H p := ⟨h.1.1.ints, h.1.2.1.ints, h.1.2.2.1.ints, h.1.2.2.2.intss⟩
def Cat.zero : Cat := ⟨0, [], [], [], []⟩
def CatP.zero : CatP := ⟨none, none, none, none, fun _ => none⟩
theorem mem_lvBlk1 {a : Option Addr} {n x : Nat} (h : x ∈ lvBlk (a, n)) : ∃ o s, a = some ⟨x, o, s⟩ := by
  unfold lvBlk at h
  split at h
  · rename_i a' m e
    cases e
    rw [List.mem_singleton] at h
    subst h
    exact ⟨_, _, rfl⟩
  · cases h
theorem lvBlk_nodup (l : Leaf) : (lvBlk l).Nodup := by unfold lvBlk; split <;> simp
theorem CatR.mk {b : Nat} {H : GHeap} {c : Cat} {p : CatP} (h1 : IntsR b H p.a1 c.src) (h2 : IntsR b H p.a2 c.tgt) (h3 : IntsR b H p.a3 c.idn) (h4 : IntssR b H p.a4 c.comp p.r) {g1 g2 g3 : Nat} (k1 : p.a1 = none ∨ p.a1 = some ⟨g1, 0, none⟩) (k2 : p.a2 = none ∨ p.a2 = some ⟨g2, 0, none⟩) (k3 : p.a3 = none ∨ p.a3 = some ⟨g3, 0, none⟩)
    (n12 : g1 ≠ g2) (n13 : g1 ≠ g3) (n23 : g2 ≠ g3) (n4 : ∀ i, i < c.comp.length → p.r i ≠ some ⟨g1, 0, none⟩ ∧ p.r i ≠ some ⟨g2, 0, none⟩ ∧ p.r i ≠ some ⟨g3, 0, none⟩) : CatR b H c p := by
  have one : ∀ {a : Option Addr} {g n x : Nat}, (a = none ∨ a = some ⟨g, 0, none⟩) → x ∈ lvBlk (a, n) → x = g := by
    intro a g n x hk hx
    obtain ⟨o, s, e⟩ := mem_lvBlk1 hx
    rcases hk with h | h
    · rw [h] at e; cases e
    · rw [h] at e; cases e; rfl
  have rows : ∀ x ∈ lvBlks (rowsL p.r c.comp c.comp.length), x ≠ g1 ∧ x ≠ g2 ∧ x ≠ g3 := by
    intro x hx
    obtain ⟨l, hl, hxl⟩ := List.mem_flatMap.1 hx
    obtain ⟨i, hi, rfl⟩ := List.mem_map.1 hl
    have hi' := List.mem_range.1 hi
    have hlen : 0 < (c.comp.getD i []).length := by
      unfold lvBlk at hxl
      split at hxl
      · rename_i e; have := congrArg Prod.snd e; simp only at this; omega
      · cases hxl
    obtain ⟨o, s, e⟩ := mem_lvBlk1 hxl
    have hrow : ∃ g, p.r i = some ⟨g, 0, none⟩ := by
      rcases h4.1 with ⟨h, _⟩ | ⟨g, e', cs, _, _, _, _, _, h6⟩
      · rw [h] at hi'; simp at hi'
      · obtain ⟨g', _, hg', _⟩ := h6 i hi'
        exact ⟨g', hg'⟩
    obtain ⟨g, hg⟩ := hrow
    rw [hg] at e
    cases e
    obtain ⟨q1, q2, q3⟩ := n4 i hi'
    rw [hg] at q1 q2 q3
    exact ⟨fun h => q1 (by rw [h]), fun h => q2 (by rw [h]), fun h => q3 (by rw [h])⟩
  refine ⟨⟨h1, h2, h3, h4⟩, ?_⟩
  unfold Cat.leaves
  rw [lvBlks_append, lvBlks_append, lvBlks_append]
  have s1 : lvBlks [(p.a1, c.src.length)] = lvBlk (p.a1, c.src.length) := by simp [lvBlks]
  have s2 : lvBlks [(p.a2, c.tgt.length)] = lvBlk (p.a2, c.tgt.length) := by simp [lvBlks]
  have s3 : lvBlks [(p.a3, c.idn.length)] = lvBlk (p.a3, c.idn.length) := by simp [lvBlks]
  rw [s1, s2, s3]
  refine List.nodup_append.2 ⟨lvBlk_nodup _, List.nodup_append.2 ⟨lvBlk_nodup _, List.nodup_append.2 ⟨lvBlk_nodup _, h4.2, ?_⟩, ?_⟩, ?_⟩
  · intro x hx y hy hxy
    have e1 := one k3 hx
    have e2 := rows y hy
    omega
  · intro x hx y hy hxy
    have e1 := one k2 hx
    rcases List.mem_append.1 hy with hy | hy
    · have e2 := one k3 hy; omega
    · have e2 := rows y hy; omega
  · intro x hx y hy hxy
    have e1 := one k1 hx
    rcases List.mem_append.1 hy with hy | hy
    · have e2 := one k2 hy; omega
    · rcases List.mem_append.1 hy with hy | hy
      · have e2 := one k3 hy; omega
      · have e2 := rows y hy; omega
end Go.GL
namespace Go.GL
section
variable {P : Program} {N : Nat} {ops : Array Oper} {Q : Slots → GHeap → Prop} {L : List (Oper × Nat)} {fr : Slots} {H Hb : GHeap} {o : Oper} {i : Nat} {t : Tree}
end
end Go.GL
namespace Go.GL
end Go.GL
namespace Go.GL
def Off (r : Nat → Option Addr) (n : Nat) (gs : List Nat) : Prop := ∀ i, i < n → ∀ g, r i = some ⟨g, 0, none⟩ → out gs g
theorem Off.nil (r : Nat → Option Addr) (n : Nat) : Off r n [] := fun _ _ _ _ => trivial
theorem Off.cons {r : Nat → Option Addr} {n g : Nat} {gs : List Nat} (h : ∀ i, i < n → r i ≠ some ⟨g, 0, none⟩) (h' : Off r n gs) : Off r n (g :: gs) := fun i hi k hk => ⟨fun e => h i hi (by rw [hk, e]), h' i hi k hk⟩
theorem OwnRows.st {b k : Nat} {bs : List Nat} {H H' : GHeap} {e : TypeId} {r : Nat → Option Addr} {X : Nat → List Int} (h : OwnRows b H e r X k) (s : St bs H H') (ho : Off r k bs) : OwnRows b H' e r X k := ⟨fun i hi => by
  obtain ⟨x, h1, h2, h3⟩ := h.row i hi
  exact ⟨x, h1, h2, s.same x _ (ho i hi x h1) h3⟩, h.inj⟩
theorem OwnL.st {b : Nat} {bs : List Nat} {H H' : GHeap} {e : TypeId} {r : Nat → Option Addr} {xss : List (List Int)} (h : OwnL b H e r xss) (s : St bs H H') (ho : Off r xss.length bs) : OwnL b H' e r xss := OwnRows.st h s ho
theorem OwnL.ne {b g : Nat} {H : GHeap} {e : TypeId} {r : Nat → Option Addr} {xss : List (List Int)} (h : OwnL b H e r xss) (hg : H.next ≤ g) : ∀ i, i < xss.length → r i ≠ some ⟨g, 0, none⟩ := fun i hi e => by
  obtain ⟨x, h1, _, h3⟩ := h.row i hi
  rw [h1] at e
  cases e
  have := GHeap.ltg h3
  omega
theorem OwnL.neT {b g : Nat} {H : GHeap} {e e' : TypeId} {cs : List Value} {r : Nat → Option Addr} {xss : List (List Int)} (h : OwnL b H e r xss) (hg : H.get g = some (.row cs e' true)) (hne : (e != e') = true) : ∀ i, i < xss.length → r i ≠ some ⟨g, 0, none⟩ := fun i hi ei => by
  obtain ⟨x, h1, _, h3⟩ := h.row i hi
  rw [h1] at ei
  cases ei
  rw [hg] at h3
  cases h3
  simp at hne
theorem OwnL.lowNe {b g : Nat} {H : GHeap} {e : TypeId} {r : Nat → Option Addr} {xss : List (List Int)} (h : OwnL b H e r xss) (hg : g < b) : ∀ i, i < xss.length → r i ≠ some ⟨g, 0, none⟩ := fun i hi ei => by
  obtain ⟨x, h1, h2, _⟩ := h.row i hi
  rw [h1] at ei
  cases ei
  omega
theorem ne_snoc {g k : Nat} {r : Nat → Option Addr} {xss : List (List Int)} {x : List Int} (h : ∀ i, i < xss.length → r i ≠ some ⟨g, 0, none⟩) (hk : k ≠ g) : ∀ i, i < (xss ++ [x]).length → upd r xss.length (some ⟨k, 0, none⟩) i ≠ some ⟨g, 0, none⟩ := fun i hi => by
  rw [List.length_append, List.length_singleton] at hi
  by_cases e : i = xss.length
  · subst e
    rw [upd_eq]
    intro e
    cases e
    exact hk rfl
  · rw [upd_ne e]
    exact h i (by omega)
theorem OwnL.snoc2 {b g : Nat} {H : GHeap} {e : TypeId} {r : Nat → Option Addr} {xss : List (List Int)} {x : List Int} (h : OwnL b H e r xss) (hg : H.get g = some (.row (ints x) e true)) (hne : ∀ i, i < xss.length → r i ≠ some ⟨g, 0, none⟩) (hb : b ≤ g) :
    OwnL b H e (upd r xss.length (some ⟨g, 0, none⟩)) (xss ++ [x]) := by
  have key : ∀ i, i < xss.length + 1 → (i = xss.length ∧ upd r xss.length (some ⟨g, 0, none⟩) i = some ⟨g, 0, none⟩ ∧ (xss ++ [x]).getD i [] = x) ∨ (i < xss.length ∧ upd r xss.length (some ⟨g, 0, none⟩) i = r i ∧ (xss ++ [x]).getD i [] = xss.getD i []) := by
    intro i hi
    by_cases e : i = xss.length
    · subst e
      exact .inl ⟨rfl, upd_eq _ _ _, by rw [getD_snoc, if_neg (by omega), if_pos rfl]⟩
    · exact .inr ⟨by omega, upd_ne e, by rw [getD_snoc, if_pos (by omega)]⟩
  unfold OwnL
  rw [List.length_append, List.length_singleton]
  refine ⟨fun i hi => ?_, fun i j hi hj hij => ?_⟩
  · rcases key i hi with ⟨_, h2, h3⟩ | ⟨h1, h2, h3⟩
    · exact ⟨g, h2, hb, by rw [h3]; exact hg⟩
    · obtain ⟨y, y1, y2, y3⟩ := h.row i h1
      exact ⟨y, by rw [h2]; exact y1, y2, by rw [h3]; exact y3⟩
  · rcases key i hi with ⟨h1, h2, _⟩ | ⟨h1, h2, _⟩
    · rcases key j hj with ⟨k1, k2, _⟩ | ⟨k1, k2, _⟩
      · omega
      · rw [h2, k2] at hij
        exact absurd hij.symm (hne j k1)
    · rcases key j hj with ⟨k1, k2, _⟩ | ⟨k1, k2, _⟩
      · rw [h2, k2] at hij
        exact absurd hij (hne i h1)
      · rw [h2, k2] at hij
        exact h.inj i j h1 k1 hij
theorem take_map_snoc {α β : Type} {f : α → β} {l : List α} {i : Nat} {d : α} (h : i < l.length) : (l.take (i + 1)).map f = (l.take i).map f ++ [f (l.getD i d)] := by
  rw [List.take_add_one, List.getElem?_eq_getElem h, List.map_append, List.getD_eq_getElem?_getD, List.getElem?_eq_getElem h]; rfl

def tabC (src tgt : List Int) (X : Nat → Nat → Int) (i j : Nat) : Int := if tgt.getD i 0 = src.getD j 0 then X i j else -1
def tabR (src tgt : List Int) (X : Nat → Nat → Int) (n i : Nat) : List Int := (List.range n).map (tabC src tgt X i)
def tabL (src tgt : List Int) (X : Nat → Nat → Int) (n : Nat) : List (List Int) := rowsOf (tabR src tgt X n) n
theorem eq_of_getD2 {xss yss : List (List Int)} (hl : xss.length = yss.length) (h : ∀ i, i < xss.length → xss.getD i [] = yss.getD i []) : xss = yss := by
  apply List.ext_getElem hl
  intro i h1 h2
  have := h i h1
  simpa [List.getD_eq_getElem?_getD, List.getElem?_eq_getElem h1, List.getElem?_eq_getElem h2] using this
end Go.GL
namespace Go.GL
structure Fun.Par (f g : Fun) : Prop where
  fi : f.Is
  gi : g.Is
  ps : f.s = g.s
  pt : f.t = g.t
def Fun.net (f g : Fun) (iso : Bool) : Net where
  cand x := (f.t.hom (f.ob.getD x 0) (g.ob.getD x 0)).filter fun h => !iso || decide (0 ≤ f.t.inv h)
  A := f.ar.length
  sr a := (f.s.src.getD a 0).toNat
  tg a := (f.s.tgt.getD a 0).toNat
  sq a u v := decide (f.t.th (f.ar.getD a 0) v = f.t.th u (g.ar.getD a 0))
def stCells (f : Fun) (p : FunP) (g : Fun) (q : FunP) (iso : Bool) (most : Int) (a : Option Addr) (n : Nat) : List Value := f.cells p ++ (g.cells q ++ [.bool iso, .int .i64 most, .slice a n n])
end Go.GL
namespace Go.GL
def SlO (b : Nat) (H : GHeap) (a : Option Addr) (g : Nat) (cs : List Value) (e : TypeId) (k : Nat) : Prop := (a = none ∧ k = 0 ∧ cs = []) ∨ (a = some ⟨g, 0, none⟩ ∧ b ≤ g ∧ H.get g = some (.row cs e true))
section
variable {P : Program} {o : Oper} {fr : Slots} {H : GHeap}
end
structure FoundAt (T e e' : TypeId) (b : Nat) (H : GHeap) (gs gF : Nat) (f : Fun) (p : FunP) (k : Fun) (q : FunP) (iso : Bool) (M : Nat) (fs : List (List Int)) : Prop where
  ex : ∃ a r, H.get gs = some (.row (stCells f p k q iso (M : Int) a fs.length) T true) ∧ SlO b H a gF (slsL r fs) e fs.length ∧ OwnL b H e' r fs
structure SeenU (n : Net) (co : List Int) (y : Nat) (x : Int) : Prop where
  fst : (x = -1 ∧ ∀ j, y ≤ j → j < co.length → ¬ co.getD j 0 = -1) ∨ (∃ m : Nat, x = m ∧ y ≤ m ∧ m < co.length ∧ co.getD m 0 = -1 ∧ ∀ j, y ≤ j → j < m → ¬ co.getD j 0 = -1)
  cho : ∀ j, y ≤ j → j < co.length → co.getD j 0 = -1 → n.choices co j ≠ []
theorem GT.regionDB {P : Program} {N : Nat} {Q : Exit → Slots → GHeap → Prop} {fr : Slots} {Hb H : GHeap} {id : Nat} {ops : Array Oper} (hm : P.follows .mixedOrders = true) (t : Tree) (hok : (ctxOf ops).ok [] false t = true) (hb : Hb.Le H) (h : GTree P N ops (fun fr' H' => Q .normal fr' H') t fr Hb H) :
    GT P N (.region id ops true) Q fr H := fun l D B w0 ρ a w hs hf => by
  refine wpIn_region_any hm ?_
  refine tree_sound (ρ0 := ρ) (fun ρ' fr' H' a' w' hQ he hs' hf' => ⟨ρ', fr', H', hQ, he, hs', hf'⟩) ops.size t [] fr Hb H ρ _ a _ ⟨hok, h, hb, .refl ρ, hs.drew, hf.1, hf.2.1, by simp, fun i hi => ?_, fun i hi => ?_, .nil, (fun i hi => by cases hi), (fun i hi => by cases hi), fun s v hv _ => hf.2.2 s v hv, (fun j hj => by cases hj)⟩ ?_
  · unfold lis at hi
    simp [Array.getD_eq_getD_getElem?, Array.getElem?_replicate] at hi
    split at hi <;> simp at hi
  · unfold lis at hi
    simp [Array.getD_eq_getD_getElem?, Array.getElem?_replicate] at hi
    split at hi <;> simp at hi
  · unfold left
    exact Nat.le_trans (List.length_filter_le _ _) (by simp)
theorem GHeap.get_erase {H : GHeap} {g k : Nat} {o : GObj} (h : (H.set g none).get k = some o) : k ≠ g ∧ H.get k = some o := by
  by_cases e : g = k
  · subst e
    by_cases hl : g < H.next
    · rw [GHeap.get_set_eq hl] at h; cases h
    · have := GHeap.ltg h
      rw [GHeap.next_set] at this
      exact absurd this hl
  · rw [GHeap.get_set_ne e] at h
    exact ⟨Ne.symm e, h⟩
theorem GHeap.le_erase (H : GHeap) (g : Nat) : (H.set g none).Le H := ⟨by rw [GHeap.next_set]; exact Nat.le_refl _, fun _ _ h => (GHeap.get_erase h).2⟩
theorem GHeap.Le.erase_st {H0 H1 H2 : GHeap} {g : Nat} (h : (H0.set g none).Le H1) (s : St [g] H1 H2) : (H0.set g none).Le H2 := ⟨Nat.le_trans h.1 s.nx, fun k o hk => s.same k o ⟨(GHeap.get_erase hk).1, trivial⟩ (h.2 k o hk)⟩
theorem GHeap.get_erase_of {H : GHeap} {g k : Nat} {o : GObj} (h : H.get k = some o) (hk : k ≠ g) : (H.set g none).get k = some o := by rw [GHeap.get_set_ne (Ne.symm hk)]; exact h
end Go.GL
namespace Go.GL
structure Hears (P : Program) (fn : Nat) (cap : Array Value) (e0 g1 most : Nat) (T : TypeId) (A : Nat → List (List Int) → Nat → GHeap → Prop) : Prop where
  code : ∀ (xs : Array Value) (w : World), (callFunc fn xs).run P w = .ok (.enter fn xs) w
  le : ∀ {b : Nat} {fs : List (List Int)} {gF : Nat} {H H' : GHeap}, A b fs gF H → H.Le H' → A b fs gF H'
  st : ∀ {b : Nat} {fs : List (List Int)} {gF gc : Nat} {H H' : GHeap}, A b fs gF H → e0 ≤ gc → gc < b → gc ≠ gF → St [gc] H H' → A b fs gF H'
  run : ∀ {b : Nat} {fs : List (List Int)} {gF gc : Nat} {q : List Int} {H : GHeap}, A b fs gF H → e0 ≤ gc → gc < b → gc ≠ gF → b ≤ H.next → H.get gc = some (.row (ints q) T true) → fs.length ≤ most → q.length ≤ 8 → gF < H.next →
    GCalls P fn ([.slice (some ⟨gc, 0, none⟩) q.length q.length] ++ cap.toList) H (fun v H' => v = .bool (decide (fs.length + 1 ≤ most)) ∧ ∃ gF', (gF' = gF ∨ H.next ≤ gF') ∧ gF' < H'.next ∧ St [g1, gF] H H' ∧ A b (fs ++ [q]) gF' H')
end Go.GL
namespace Go.GL
structure GathL (T1 T2 e : TypeId) (go gm most : Nat) (Tm : TypeId) (b : Nat) (fs : List (List Int)) (gF : Nat) (H : GHeap) : Prop where
  hd : H.get go = some (.row [.slice (some ⟨gF, 0, none⟩) fs.length fs.length] T1 true)
  most : H.get gm = some (.row [.int .i64 (most : Int)] Tm true)
  rows : ∃ r, H.get gF = some (.row (slsL r fs) T2 true) ∧ OwnL b H e r fs
noncomputable def Fun.atR (f k : Fun) : List (List Int) := bif B (f.Is ∧ k.Is) then (bif B (f.s = k.s ∧ f.t = k.t) then (bif decide (((f.net k false).sols f.ob.length).length ≤ 200) then (f.net k false).sols f.ob.length else []) else []) else []
theorem row_ne {H : GHeap} {g g' : Nat} {cs cs' : List Value} {e e' : TypeId} (h : H.get g = some (.row cs e true)) (h' : H.get g' = some (.row cs' e' true)) (hne : (e != e') = true) : g ≠ g' := fun ei => by
  subst ei
  rw [h] at h'
  cases h'
  simp at hne
structure GathI (T e : TypeId) (go : Nat) (b : Nat) (fs : List (List Int)) (gF : Nat) (H : GHeap) : Prop where
  ex : ∃ x, (fs = [] ∧ x = [] ∨ fs = [x]) ∧ H.get go = some (.row [.slice (some ⟨gF, 0, none⟩) x.length x.length] T true) ∧ H.get gF = some (.row (ints x) e true)
end Go.GL
namespace Go.GL
end Go.GL
namespace Go.GL
def Con.z : Con := ⟨0, []⟩
def conV (r : Nat → Option Addr) (cs : List Con) : List Value := (List.range cs.length).flatMap fun i => (cs.getD i .z).cells ⟨r i⟩
structure ConsAt (T e : TypeId) (b0 : Nat) (H : GHeap) (g : Nat) (r : Nat → Option Addr) (cs : List Con) : Prop where
  hd : H.get g = some (.row (conV r cs) T true)
  rows : OwnL b0 H e r (cs.map Con.lg)
structure GathC (T1 T2 Tx e : TypeId) (go gx b0 e0 : Nat) (x : Int) (pre : List Con) (b : Nat) (fs : List (List Int)) (gF : Nat) (H : GHeap) : Prop where
  hd : H.get go = some (.row [.slice (some ⟨gF, 0, none⟩) (pre ++ fs.map fun l => (⟨x, l⟩ : Con)).length (pre ++ fs.map fun l => (⟨x, l⟩ : Con)).length] T1 true)
  ix : H.get gx = some (.row [.int .i64 x] Tx true)
  rows : ∃ r, H.get gF = some (.row (conV r (pre ++ fs.map fun l => (⟨x, l⟩ : Con))) T2 true) ∧ OwnL b0 H e r ((pre ++ fs.map fun l => (⟨x, l⟩ : Con)).map Con.lg) ∧ ∀ i, i < (pre ++ fs.map fun l => (⟨x, l⟩ : Con)).length → ∀ g, r i = some ⟨g, 0, none⟩ → g < e0 ∨ b ≤ g
theorem take_snocZ {l : List (List Int)} {i : Nat} (h : i < l.length) : l.take (i + 1) = l.take i ++ [l.getD i []] := by
  rw [List.take_add_one, List.getElem?_eq_getElem h, List.getD_eq_getElem?_getD, List.getElem?_eq_getElem h]; rfl
end Go.GL
namespace Go.Proofs.Ytfanjkbaemhbmaa
open Go Go.GL Go.RowKit Go.Proofs
theorem ze_24_Hj : zeroT Try.prog 24 = some ([.slice none 0 0], 1) := by kernel_rfl
theorem by_24_Hj : (Try.prog.info? 24).map (·.bytes) = some 24 := by kernel_rfl
theorem bt_27_Hj : buildT Try.prog 27 = some ([.int .i64 0, .slice none 0 0, .slice none 0 0, .slice none 0 0, .slice none 0 0], [(0, 1), (1, 1), (2, 1), (3, 1), (4, 1)]) := by kernel_rfl
theorem bt_40_Hj : buildT Try.prog 40 = some ([.int .i64 0, .slice none 0 0, .slice none 0 0, .slice none 0 0, .slice none 0 0, .int .i64 0, .slice none 0 0, .slice none 0 0, .slice none 0 0, .slice none 0 0, .slice none 0 0, .slice none 0 0], [(0, 5), (5, 5), (10, 1), (11, 1)]) := by kernel_rfl
theorem ze_40_Hj : zeroT Try.prog 40 = some ([.int .i64 0, .slice none 0 0, .slice none 0 0, .slice none 0 0, .slice none 0 0, .int .i64 0, .slice none 0 0, .slice none 0 0, .slice none 0 0, .slice none 0 0, .slice none 0 0, .slice none 0 0], 12) := by kernel_rfl
theorem ag_40_Hj : aggT Try.prog 40 = some 12 := by kernel_rfl
set_option maxHeartbeats 4000000 in
theorem l01Own2Z_c {a : Option Addr} {pss : List (List Int)} {r : Nat → Option Addr} {H : GHeap} (h : Intss H a pss r := by assumption) (hl : pss.length ≤ 1048576 := by omega) (hl2 : ∀ i, (pss.getD i []).length ≤ 1048576) :
    GCalls Try.prog 109 [.slice a pss.length pss.length] H (NewIntss H pss) := by
  refine GCalls.body (N := 21) (rs := [.tmp 2]) Try.func109 rfl rfl rfl rfl (fun Qx u hend => ?_)
  refine .fg [0] rfl ?_
  have o := GHeap.Le.refl H
  have l := h
  refine .seq (fun K1 y => .region (.mv rfl (.nil (y _ _ (.seq (fun K2 a0 => .region ?_))))))
  refine .R rfl (.litA rfl sl_25_B ze_24_Hj rfl rfl rfl rfl) ?_
  rintro _ H5 ⟨g5, rfl, a2, _, a4⟩
  replace o := o.trans a2
  have _ := GHeap.ltg a4
  refine .mv rfl (.nil (a0 _ _ (.seq (fun K3 a1 => .seq (fun K4 a8 => .region (.mv rfl (.nil (a8 _ _ (.block ?_)))))))))
  refine .loopF (σ := Nat × (Nat → Option Addr) × Nat × Nat) [0] (fun (i, rr, f, n) => [(4, some (.int .i64 (i : Int))), (3, some (.slice (some ⟨f, 0, none⟩) n n))]) (fun (i, rr, f, n) H' => St [g5] H5 H' ∧ H'.get f = some (.row ((slsL rr (pss.take i))) 24 true) ∧ (f = g5 ∨ H5.next ≤ f) ∧ n = (slsL rr (pss.take i)).length ∧ i ≤ pss.length ∧ OwnL H.next H' 2 rr (pss.take i)) (fun (i, rr, f, n) => pss.length - i) ((0, fun _ => none, _, _)) rfl (.p rfl) ?_ ?_
  ·
   refine ⟨.refl _ _, by assumption, .inl rfl, by rfl, ?_⟩
   exact ⟨by omega, .nil _ _ _ _⟩
  rintro ⟨i, rr, f, n⟩ HL1 ⟨c, b, _, g, hI⟩ _ w
  dsimp only [cA, nA]
  have _ : H.next ≤ f := by omega
  have _ := c.nx
  replace o := o.st c (fun k hk => ⟨by omega, trivial⟩)
  have _ := GHeap.ltg b
  replace h := l.mono o
  have rk := St.refl [f] HL1
  obtain ⟨_, hR⟩ := hI
  have t := b
  have _ : (pss.take i).length = i := by rw [List.length_take]; omega
  have _ : (slsL rr (pss.take i)).length = (pss.take i).length := length_slsL _ _
  have _ := hl2 i
  refine .seq (fun K5 a7 => .seq (fun K6 a5 => .region (.mv rfl (.mv rfl (.q rfl (.len sl_25_B rfl) (.q rfl (.cmp rfl rfl rfl) (.nil (a5 _ _ ?_))))))))
  refine .cond rfl ?_ ?_ <;> intro h9
  ·
   simp only [sps] at h9
   have u1 := h.2 i (by omega)
   refine .skip (a7 _ _ (.seq (fun K7 a3 => .block (.region (.mv rfl (.mv rfl (.mv rfl ?_)))))))
   refine .q rfl (.idxN sl_25_B (Intss.sl (by assumption)) rfl rfl (by omega)) ?_
   refine .q rfl (.loadR on_24_B (by assumption) rfl (by omega)) ?_
   refine .call rfl rfl rfl rfl @Try.call108 rfl (l01Own_c) ?_
   rintro _ _ ⟨j, z, rfl, d, _⟩
   replace c := c.le j
   replace rk := rk.le j
   replace b := j.2 _ _ b
   have _ := GHeap.ltg d
   clear u1
   refine .R rfl (.litA rfl sl_25_B ze_24_Hj rfl rfl rfl rfl) ?_
   rintro _ _ ⟨_, rfl, e, _, v⟩
   replace c := c.le e
   replace rk := rk.le e
   replace b := e.2 _ _ b
   replace d := e.2 _ _ d
   have _ := GHeap.ltg v
   refine .R rfl (.appendV rfl sl_25_B ze_24_Hj rfl by_24_Hj sl_25_B rfl rfl (by assumption) (by assumption) (by first | omega | (simp <;> omega)) rfl rfl (by omega) (by omega)) ?_
   rintro _ _ ⟨_, rfl, m, _, _⟩
   replace c := c.sA m
   replace rk := rk.sA m
   replace d := m.s d
   refine .mv rfl (.nil (a3 _ _ (.region (.mv rfl (.q rfl (.aD rfl rfl rfl) (.mv rfl (.nil ?_)))))))
   refine w ((i + 1, upd rr (pss.take i).length (some ⟨z, 0, none⟩), _, _)) _ _ ?_ ?_ (.p rfl)
   ·
    refine ⟨c, by (rw [take_snocZ (by omega), slsL_snoc]; assumption), by omega, by (rw [take_snocZ (by omega), slsL_snoc] <;> (first | omega | (simp only [List.length_append, List.length_cons, List.length_nil] <;> omega))), ?_⟩
    exact ⟨by omega, by rw [take_snocZ (by omega)]; exact hR.snoc (x := pss.getD i []) (rk.lasts1 t rfl) (by assumption) (by omega) (by omega)⟩
   (dsimp only; omega)
  try simp only [sps] at h9
  refine .exit (a1 _ _ (.seq (fun K8 a6 => .region (.mv rfl (.mv rfl (.nil (a6 _ _ (.ret (u _ _ (⟨_, rfl, ?_⟩))))))))))
  obtain rfl : i = pss.length := by omega
  rw [List.take_length] at hR b g
  exact ⟨o, _, rr, by rw [g, length_slsL], (hR.done b (by omega)).1.resolve_left (fun h => by cases h.2)⟩
set_option maxHeartbeats 4000000 in
theorem l02Own_c {c : Cat} {p : CatP} {H : GHeap} (hin : c.In H p := by assumption) (hs : c.Small := by assumption) :
    GCalls Try.prog 83 [.agg (c.cells p).toArray] H (NewCat H c) := by
  obtain ⟨_, _, _, _, n5, -⟩ := hs
  refine GCalls.body (N := 18) (rs := [.cell 2 27]) Try.func83 rfl rfl rfl rfl (fun Qx y hend => ?_)
  refine .fg [0] rfl ?_
  have d := GHeap.Le.refl H
  have a := hin
  refine .seq (fun K1 a6 => .region ?_)
  refine .R rfl (.boxR rfl sz_27_D rfl) ?_
  rintro _ _ ⟨g1, rfl, b2, _, e⟩
  replace d := d.trans b2
  have _ := GHeap.ltg e
  replace hin := a.mono d
  have g : Cat.At _ g1 0 c p := ⟨Mem.of_get e, hin⟩
  refine .R rfl (.allocR rfl ze_27_I rfl) ?_
  rintro _ _ ⟨_, rfl, a1, _, u⟩
  replace d := d.trans a1
  replace e := a1.2 _ _ e
  have _ := GHeap.ltg u
  replace hin := a.mono d
  clear g
  have g : Cat.At _ g1 0 c p := ⟨Mem.of_get e, hin⟩
  obtain ⟨a8, a7, a9, b1, b8, b4, -, -, -⟩ := g.get
  refine .nil (a6 _ _ (.seq (fun K2 b0 => ?_)))
  refine .regionD mo_B (.qs [0, 1, 2, 3, 5, 6, 8, 9, 11, 12] (.c 4 1 (.c 7 1 (.c 10 1 (.c 13 1 (.q 14 (.c 15 0 (.done)))))))) (by kernel_rfl) ?_
  refine .q rfl (.fieldAddr fo_27_0_B rfl) (.q rfl (.lA on_2_A rfl) (.q rfl (.fieldAddr fo_27_1_B rfl) (.q rfl (.lA on_24_B rfl) (.q rfl (.fieldAddr fo_27_2_B rfl) (.q rfl (.lA on_24_B rfl) (.q rfl (.fieldAddr fo_27_3_B rfl) (.q rfl (.lA on_24_B rfl) (.q rfl (.fieldAddr fo_27_4_B rfl) (.q rfl (.lA on_25_B rfl) ?_)))))))))
  refine .call1 rfl rfl rfl rfl rfl @Try.call108 rfl (l01Own_c) ?_
  rintro _ _ ⟨x, g7, rfl, t, _⟩
  have o := x
  refine ⟨o, ?_⟩
  replace d := d.trans x
  replace e := x.2 _ _ e
  replace u := x.2 _ _ u
  have _ := GHeap.ltg t
  replace hin := a.mono d
  clear g a8 a7 a9 b1 b8 b4
  have g : Cat.At _ g1 0 c p := ⟨Mem.of_get e, hin⟩
  obtain ⟨-, -, -, -, -, -, b3, -, -⟩ := g.get
  refine .call1 rfl rfl rfl rfl rfl @Try.call108 rfl (l01Own_c) ?_
  rintro _ _ ⟨r, a0, rfl, f, _⟩
  replace o := o.trans r
  refine ⟨o, ?_⟩
  replace d := d.trans r
  replace e := r.2 _ _ e
  replace u := r.2 _ _ u
  replace t := r.2 _ _ t
  have _ := GHeap.ltg f
  replace hin := a.mono d
  clear g b3
  have g : Cat.At _ g1 0 c p := ⟨Mem.of_get e, hin⟩
  obtain ⟨-, -, -, -, -, -, -, b6, -⟩ := g.get
  refine .call1 rfl rfl rfl rfl rfl @Try.call108 rfl (l01Own_c) ?_
  rintro _ b7 ⟨j, a2, rfl, n, _⟩
  replace o := o.trans j
  refine ⟨o, ?_⟩
  have _ := j.1
  replace d := d.trans j
  replace e := j.2 _ _ e
  replace u := j.2 _ _ u
  replace t := j.2 _ _ t
  replace f := j.2 _ _ f
  have _ := GHeap.ltg n
  replace hin := a.mono d
  clear g b6
  have g : Cat.At _ g1 0 c p := ⟨Mem.of_get e, hin⟩
  obtain ⟨-, -, -, -, -, -, -, -, b5⟩ := g.get
  refine .call1 rfl rfl rfl rfl rfl @Try.call109 rfl (l01Own2Z_c (hl2 := n5)) ?_
  rintro _ a3 ⟨i, a5, a4, rfl, z⟩
  replace o := o.trans i
  refine ⟨o, ?_⟩
  replace d := d.trans i
  replace e := i.2 _ _ e
  replace u := i.2 _ _ u
  replace t := i.2 _ _ t
  replace f := i.2 _ _ f
  replace n := i.2 _ _ n
  have w := z
  have l : Keep b7.next a3 a3 := fun _ _ _ h => h
  replace hin := a.mono d
  clear g b5
  have g : Cat.At _ g1 0 c p := ⟨Mem.of_get e, hin⟩
  refine .m rfl rfl rfl rfl o (.build bt_27_Hj rfl rfl rfl) ?_
  refine .r0 rfl rfl rfl (.fillA rfl sz_27_D rfl rfl rfl rfl) ?_
  rintro _ _ ⟨rfl, b, v⟩
  replace d := d.st b (fun k hk => ⟨by omega, trivial⟩)
  replace e := b.s e
  replace t := b.s t
  replace f := b.s f
  replace n := b.s n
  replace l := Keep.st l b (fun k hb hk => ⟨by omega, trivial⟩)
  replace z := w.keep l (Nat.le_refl _)
  replace hin := a.mono d
  clear g
  have g : Cat.At _ g1 0 c p := ⟨Mem.of_get e, hin⟩
  refine .done (b0 _ _ (.ret (y _ _ (⟨_, _, _, _, rfl, ag_27_D, (by rfl), (Mem.of_get v), ?_⟩))))
  exact ⟨d, ⟨some ⟨g7, 0, none⟩, some ⟨a0, 0, none⟩, some ⟨a2, 0, none⟩, a5, a4⟩, rfl, ⟨g7, _, rfl, by omega, t⟩, ⟨a0, _, rfl, by omega, f⟩, ⟨a2, _, rfl, by omega, n⟩, z.keep (.of_le (.refl _)) (by omega)⟩
theorem fu_build {c d : Cat} {p q : CatP} {a b : Option Addr} {n m : Nat} : fillL ([(0, 5), (5, 5), (10, 1), (11, 1)][·]?) [.int .i64 0, .slice none 0 0, .slice none 0 0, .slice none 0 0, .slice none 0 0, .int .i64 0, .slice none 0 0, .slice none 0 0, .slice none 0 0, .slice none 0 0, .slice none 0 0, .slice none 0 0] [(0, .agg (c.cells p).toArray), (1, .agg (d.cells q).toArray), (2, .slice a n n), (3, .slice b m m)] = some (c.cells p ++ (d.cells q ++ [.slice a n n, .slice b m m])) := by kernel_rfl
end Go.Proofs.Ytfanjkbaemhbmaa
namespace Go.GL
open Go.RowKit Go.WideShapes Go.ChangeShapes Go.Deep

structure Imp1 (P : Program) (t : TypeId) (R : GHeap → Value → Prop) : Prop where
  mono : ∀ {H H' : GHeap} {g : Value}, H.Le H' → R H g → R H' g
  imp : ∀ {T : Type} {enc : TypeId × Value → T} {B : Nat} {w0 : World} {ρ : Place} {H : GHeap} {w : World} {held : Bool} {base fuel : Nat} {v : Value} {x : DataW T × List MemPlace}, Sim P B w0 ρ H w → w.heap.size ≤ B →
    DataW.trod enc P w 0 (fun _ => true) held fuel t v.cells.toList = some x → Value.okWide P w .any base t v → ∃ ρ' H' g, Sim P B w0 ρ' H' w ∧ Ext ρ ρ' ∧ H.Le H' ∧ VRel ρ' g v ∧ R H' g

structure ImpAll (P : Program) (ts : List TypeId) (R : GHeap → List Value → Prop) : Prop where
  imp : ∀ {T : Type} {enc : TypeId × Value → T} {B : Nat} {w0 : World} {ρ : Place} {H : GHeap} {w : World} {base : Nat} {vs : List Value} {ds : List (DataW T)} {ps : List MemPlace}, Sim P B w0 ρ H w → w.heap.size ≤ B →
    DataW.TrodAll enc P w 0 (fun _ => true) true ts vs ds ps → (∀ (j : Nat) t v, ts[j]? = some t → vs[j]? = some v → Value.okWide P w .any base t v) → ds.length = ts.length ∧ ∃ ρ' H' gs, Sim P B w0 ρ' H' w ∧ Ext ρ ρ' ∧ H.Le H' ∧ LRel ρ' gs vs ∧ R H' gs
theorem ImpAll.nil {P : Program} : ImpAll P [] (fun _ gs => gs = []) where
  imp := by
    intro T enc B w0 ρ H w base vs ds ps hs hB h hv
    obtain ⟨rfl, rfl, rfl⟩ := trodAll_nil h
    exact ⟨rfl, ρ, H, [], hs, .refl ρ, .refl H, .nil ρ, rfl⟩
theorem ImpAll.cons {P : Program} {t : TypeId} {ts : List TypeId} {R1 : GHeap → Value → Prop} {R : GHeap → List Value → Prop} (h1 : Imp1 P t R1) (h2 : ImpAll P ts R) : ImpAll P (t :: ts) (fun H gs => ∃ g r, gs = g :: r ∧ R1 H g ∧ R H r) where
  imp := by
    intro T enc B w0 ρ H w base vs ds ps hs hB h hv
    obtain ⟨v, vs, d, ds, p, q, rfl, rfl, rfl, ⟨fuel, k1⟩, k2⟩ := trodAll_cons h
    obtain ⟨ρ1, H1, g, s1, e1, l1, v1, r1⟩ := h1.imp hs hB k1 (hv 0 t v rfl rfl)
    obtain ⟨hl, ρ2, H2, gs, s2, e2, l2, v2, r2⟩ := h2.imp s1 hB k2 (fun j t v ht hj => hv (j + 1) t v (by simpa using ht) (by simpa using hj))
    exact ⟨by simp [hl], ρ2, H2, g :: gs, s2, e1.trans e2, l1.trans l2, .cons (v1.mono e2) v2, g, gs, rfl, h1.mono l2 r1, r2⟩

theorem law_calls {P : Program} {f : FuncId} {fn : Func} {ts : List TypeId} {tb : TypeId} {R : GHeap → List Value → Prop} (hI : ImpAll P ts R) (hp : fn.params = ts.toArray)
    (hc : ∀ H gs, R H gs → GCalls P f gs H fun v _ => v = .bool true)
    {T : Type} {enc : TypeId × Value → T} {W : World} {base : Nat} {args : Array Value} {s : ChangeSpec} {apart fresh handsOn again : Bool} {ds gs : List (DataW T)} {before : List MemPlace}
    (hval : ∀ (j : Nat) t v, fn.params[j]? = some t → args[j]? = some v → Value.okWide P W .any base t v)
    (hW : DataW.Whole enc P fn.params.toList s.vars apart W args.toList ds gs before)
    (hl : laidOutB P = true) (hr : readB P fn.params.toList = true) (hv : s.vars = []) (hrt : fn.resultTypes = #[tb]) (htb : P.underlying tb = some .bool)
    (hs : ∀ ds : List (DataW T), ds.length = ts.length → (s.fn T ds).results = [.lit (.bool true)] ∧ (s.fn T ds).args = ds ∧ (s.fn T ds).vars = []) :
    Calls P f args W fun e W' => ∃ v, e = .returned v ∧ s.post enc P fn apart fresh handsOn again W args v W' := by
  have hWW := hW
  obtain ⟨p, q, hA, _⟩ := hW
  rw [hp] at hA
  obtain ⟨hlen, ρ, H, gs', hs', _, _, hrel, hR⟩ := hI.imp (base := base) (Sim.start P W) (Nat.le_refl _) (by simpa using hA) (fun j t v ht hj => hval j t v (by rw [hp]; simpa using ht) (by simpa using hj))
  have := (hc H gs' hR) _ _ ρ args.toList W hs' hrel
  rw [Array.toArray_toList] at this
  refine this.mono fun e W' ⟨v, c, ρ', H', he, hv', _, hsim, hrv⟩ => ?_
  subst hv'
  cases hrv
  exact ⟨_, he, law_post hl hr hv hrt htb hWW (hs ds hlen).1 (hs ds hlen).2.1 (hs ds hlen).2.2 hsim.below⟩
end Go.GL
namespace Go.GL
theorem Lasts.of_le {e : TypeId} {H H' : GHeap} (h : H.Le H') : Lasts e H H' := fun x _ hx => h.2 x _ hx
end Go.GL
namespace Go.GL
def ctPr (y e d : Nat) : List Int := [(y : Int), (e : Int), (d : Int)]
def ctL (p q : Prof) (x z : Int) (y e d : Nat) : List (List Int) := nest3 ctPr (fun y => ((p.sz.getD x.toNat []).getD y 0).toNat) (fun y _ => ((q.sz.getD y []).getD z.toNat 0).toNat) y e d
structure CtOk (p q : Prof) (x z : Int) (n : Nat) : Prop where
  n8 : n ≤ 8
  x0 : 0 ≤ x
  xl : x.toNat < p.sz.length
  z0 : 0 ≤ z
  pn : ((p.sz.getD x.toNat []).length : Int) = n
  qn : (q.sz.length : Int) = n
  pe : ∀ y, y < n → 0 ≤ (p.sz.getD x.toNat []).getD y 0 ∧ (p.sz.getD x.toNat []).getD y 0 ≤ 64
  qe : ∀ y, y < n → z.toNat < (q.sz.getD y []).length ∧ 0 ≤ (q.sz.getD y []).getD z.toNat 0 ∧ (q.sz.getD y []).getD z.toNat 0 ≤ 64
def tcells (xss : List (List Int)) : List Value := xss.flatMap ints
structure TrAt (b : Nat) (H : GHeap) (g : Nat) (xss : List (List Int)) : Prop where
  lo : b ≤ g
  three : ∀ x ∈ xss, x.length = 3
  at' : ∃ e, H.get g = some (.row (tcells xss) e true)
end Go.GL
namespace Go.GL
def idxLL (xss : List (List Int)) (t : List Int) : Int := match firstN xss.length fun i => xss.getD i [] == t with | some i => (i : Int) | none => -1
structure Keys (n : Nat) (xss : List (List Int)) : Prop where
  nd : xss.Nodup
  ok : ∀ t ∈ xss, t.length = n ∧ ∀ i, i < n → 0 ≤ t.getD i 0 ∧ t.getD i 0 ≤ 255
end Go.GL
namespace Go.GL
abbrev rep (xs : List Int) (k : Nat) : Nat := least (kerB xs) k
abbrev Cat.tn (c : Cat) (a b : Nat) : Nat := ((c.comp.getD a []).getD b 0).toNat
theorem Cat.Shape.tn {c : Cat} (h : c.Shape) {a b : Nat} (ha : a < c.src.length) (hb : b < c.src.length) (e : c.tgt.getD a 0 = c.src.getD b 0) :
    c.tn a b < c.src.length ∧ c.src.getD (c.tn a b) 0 = c.src.getD a 0 ∧ c.tgt.getD (c.tn a b) 0 = c.tgt.getD b 0 ∧ (c.comp.getD a []).getD b 0 = (c.tn a b : Int) := by
  have h1 := (Cat.Cell.pos e).1 (h.cell a (by have := h.cl; omega) b hb)
  obtain ⟨h2, h3, h4, h5⟩ := h1
  exact ⟨by unfold Cat.tn; omega, h4, h5, by unfold Cat.tn; omega⟩
def Cat.ParOk (c : Cat) (xs : List Int) : Prop := ∀ k, k < c.src.length → c.src.getD (rep xs k) 0 = c.src.getD k 0 ∧ c.tgt.getD (rep xs k) 0 = c.tgt.getD k 0
def Cat.CmpOk (c : Cat) (xs : List Int) : Prop := ∀ i, i < c.src.length → ∀ j, j < c.src.length → c.tgt.getD i 0 = c.src.getD j 0 → xs.getD (c.tn i j) 0 = xs.getD (c.tn (rep xs i) (rep xs j)) 0
structure Cat.Cong (c : Cat) (xs : List Int) : Prop where
  len : xs.length = c.src.length
  nor : clsL (kerB xs) xs.length = xs
  par : c.ParOk xs
  cmp : c.CmpOk xs

theorem OwnL.low {b b' : Nat} {H : GHeap} {e : TypeId} {r : Nat → Option Addr} {xss : List (List Int)} (h : OwnL b H e r xss) (hb : b' ≤ b) : OwnL b' H e r xss := ⟨fun i hi => by
  obtain ⟨g, h1, h2, h3⟩ := h.row i hi
  exact ⟨g, h1, by omega, h3⟩, h.inj⟩
end Go.GL
namespace Go.GL
def repL (xs : List Int) (n : Nat) : List Nat := (List.range n).filter fun i => rep xs i == i
def Cat.quoX (c : Cat) (xs : List Int) (i j : Nat) : Int := if 0 ≤ (c.comp.getD i []).getD j 0 then xs.getD ((c.comp.getD i []).getD j 0).toNat 0 else (c.comp.getD i []).getD j 0
def Cat.quo (c : Cat) (xs : List Int) : Cat where
  obj := c.obj
  src := (repL xs xs.length).map fun i => c.src.getD i 0
  tgt := (repL xs xs.length).map fun i => c.tgt.getD i 0
  idn := c.idn.map fun a => xs.getD a.toNat 0
  comp := (repL xs xs.length).map fun i => (repL xs xs.length).map fun j => c.quoX xs i j

end Go.GL
namespace Go.GL
end Go.GL
namespace Go.GL
def tabB (n : Nat) (p : Nat → Bool) : List Bool := (List.range n).map p
def slsN (r : Nat → Nat) (L : Nat → Nat) (k : Nat) : List Value := (List.range k).map fun i => .slice (some ⟨r i, 0, none⟩) (L i) (L i)
structure OwnB (b : Nat) (H : GHeap) (e : TypeId) (r : Nat → Nat) (L : Nat → Nat) (M : Nat → Nat → Bool) (k : Nat) : Prop where
  row : ∀ i, i < k → b ≤ r i ∧ H.get (r i) = some (.row (bools (tabB (L i) (M i))) e true)
  inj : ∀ i j, i < k → j < k → r i = r j → i = j
structure BMat (b : Nat) (H : GHeap) (g : Nat) (e1 e2 : TypeId) (r : Nat → Nat) (L : Nat → Nat) (M : Nat → Nat → Bool) (n : Nat) : Prop where
  hd : H.get g = some (.row (slsN r L n) e1 true)
  gb : b ≤ g
  own : OwnB b H e2 r L M n
end Go.GL
namespace Go.GL
def Cat.partO (c : Cat) (xs : List Int) : List Int := filtN c.obj.toNat fun x => xs.contains (c.idn.getD x 0)
def Cat.partR (c : Cat) (xs : List Int) (f : Int) : List Int := xs.map fun g => idxL xs (c.th f g)
def Cat.part (c : Cat) (xs : List Int) : Cat where
  obj := ((c.partO xs).length : Int)
  src := xs.map fun f => idxL (c.partO xs) (c.src.getD f.toNat 0)
  tgt := xs.map fun f => idxL (c.partO xs) (c.tgt.getD f.toNat 0)
  idn := (c.partO xs).map fun x => idxL xs (c.idn.getD x.toNat 0)
  comp := xs.map fun f => c.partR xs f
structure Cat.Closed (c : Cat) (xs : List Int) : Prop where
  filt : ∃ P, xs = filtN c.src.length P
  id : ∀ f ∈ xs, c.idn.getD (c.src.getD f.toNat 0).toNat 0 ∈ xs ∧ c.idn.getD (c.tgt.getD f.toNat 0).toNat 0 ∈ xs
  th : ∀ f ∈ xs, ∀ g ∈ xs, 0 ≤ c.th f g → c.th f g ∈ xs
end Go.GL
namespace Go.GL
open Go.RowKit
structure PL (g g0 n : Nat) : Prop where
  or : g = g0 ∨ n ≤ g
theorem PL.ne {g g0 n x : Nat} (h : PL g g0 n) (h0 : x ≠ g0) (hx : x < n) : x ≠ g := by
  rcases h.or with rfl | h
  · exact h0
  · omega
theorem St.sP {bs cs : List Nat} {H0 H H' : GHeap} (s : St bs H0 H) (h : St cs H H') (hg : ∀ k, k < H0.next → out bs k → out cs k := by intro k hk ho; simp only [out, and_true] at ho ⊢ <;> first | exact ho | exact ho.1 | exact ho.2 | exact ho.2.1 | exact ho.2.2 | exact ho.2.2.1 | exact ho.2.2.2 | exact PL.ne (by assumption) (by first | exact ho | exact ho.1 | exact ho.2 | exact ho.2.1 | exact ho.2.2 | exact ho.2.2.1 | exact ho.2.2.2 | omega) (by omega) | omega) : St bs H0 H' := s.st h hg
theorem St.sQ {bs cs : List Nat} {H0 H H' : GHeap} (s : St bs H0 H) (h : St cs H H') (hg : ∀ k, k < H0.next → out bs k → out cs k := by intro k hk ho; simp only [out, and_true] at ho ⊢ <;> first | exact ho | exact ho.1 | exact ho.2 | exact ho.2.1 | exact ho.2.2 | exact ho.2.2.1 | exact ho.2.2.2 | exact PL.ne (by assumption) (by first | exact ho | exact ho.1 | exact ho.2 | exact ho.2.1 | exact ho.2.2 | exact ho.2.2.1 | exact ho.2.2.2 | exact PL.ne (by assumption) (by first | exact ho | exact ho.1 | exact ho.2 | exact ho.2.1 | exact ho.2.2 | exact ho.2.2.1 | exact ho.2.2.2 | exact PL.ne (by assumption) (by first | exact ho | exact ho.1 | exact ho.2 | exact ho.2.1 | exact ho.2.2 | exact ho.2.2.1 | exact ho.2.2.2 | omega) (by omega) | omega) (by omega) | omega) (by omega) | omega) : St bs H0 H' := s.st h hg
theorem PL.ne' {g g0 n x : Nat} (h : PL g g0 n) (h0 : x ≠ g0) (hx : x < n) : g ≠ x := (h.ne h0 hx).symm
theorem PL.trans {g g1 g0 n n' : Nat} (h : PL g g1 n') (h' : PL g1 g0 n) (hn : n ≤ n') : PL g g0 n := by
  rcases h.or with rfl | h
  · exact h'
  · exact ⟨.inr (by omega)⟩
theorem PL.ge {g g0 n b : Nat} (h : PL g g0 n) (h0 : b ≤ g0) (hn : b ≤ n) : b ≤ g := by
  rcases h.or with rfl | h
  · exact h0
  · omega
structure NO (H : GHeap) (g : Nat) (cs : List Value) (e : TypeId) (k : Nat) : Prop where
  lt : g < H.next
  or : (k = 0 ∧ cs = []) ∨ (0 < k ∧ H.get g = some (.row cs e true))
section
variable {P : Program} {o : Oper} {fr : Slots} {H : GHeap}
end
end Go.GL
namespace Go.GL
end Go.GL
namespace Go.GL
structure LcOk (k : Fun) (f : SFun) : Prop where
  hk : k.Is
  hf : f.Is
  he : f.sh = k.s
structure LcA (k : Fun) (f : SFun) (y : Int) (a : Nat) : Prop where
  s0 : 0 ≤ k.s.src.getD a 0
  s1 : k.s.src.getD a 0 < k.ob.length
  t0 : 0 ≤ k.s.tgt.getD a 0
  t1 : k.s.tgt.getD a 0 < k.ob.length
  al : ((f.ac.getD a []).length : Int) = f.sz.getD (k.s.src.getD a 0).toNat 0
  zs : f.sz.getD (k.s.src.getD a 0).toNat 0 ≤ 16
  ac : ∀ e, e < (f.ac.getD a []).length → 0 ≤ (f.ac.getD a []).getD e 0 ∧ (f.ac.getD a []).getD e 0 < f.sz.getD (k.s.tgt.getD a 0).toNat 0
  r0 : 0 ≤ k.ar.getD a 0
  r1 : k.ar.getD a 0 < k.t.src.length
  th : ∀ h, h ∈ k.t.hom (k.ob.getD (k.s.tgt.getD a 0).toNat 0) y → (0 ≤ h ∧ h < k.t.src.length) ∧ k.t.th (k.ar.getD a 0) h ∈ k.t.hom (k.ob.getD (k.s.src.getD a 0).toNat 0) y
end Go.GL
namespace Go.GL
def ccF (m k : Prof) (x z : Int) (y : Nat) : Int := (m.sz.getD x.toNat []).getD y 0 * (k.sz.getD y []).getD z.toNat 0
def ccSt (m k : Prof) (x z : Int) (n : Nat) : List Int := (List.range n).map (sumN (ccF m k x z))
def ccL (m k : Prof) (x z : Int) : List (List Int) := ctL m k x z m.t.obj.toNat 0 0
def ccT (m : Prof) (x : Int) (b e d : Nat) : List Int := [m.t.tgt.getD b 0, ((m.bh.getD b []).getD x.toNat []).getD e 0, (d : Int)]
def ccU (m k : Prof) (z : Int) (b e d : Nat) : List Int := [m.t.src.getD b 0, (e : Int), ((k.be.getD b []).getD z.toNat []).getD d 0]
def ccRow (m k : Prof) (x z : Int) (b e d : Nat) : List Int := [idxLL (ccL m k x z) (ccT m x b e d), idxLL (ccL m k x z) (ccU m k z b e d)]
structure CcOk (m k : Prof) (x z : Int) : Prop where
  hm : m.Is
  hk : k.Is
  x0 : 0 ≤ x
  x1 : x < m.s.obj
  z0 : 0 ≤ z
  z1 : z < k.t.obj
  he : m.t = k.s
structure CcA (m k : Prof) (x z : Int) (b : Nat) : Prop where
  s0 : 0 ≤ m.t.src.getD b 0
  s1 : m.t.src.getD b 0 < m.t.obj
  t0 : 0 ≤ m.t.tgt.getD b 0
  t1 : m.t.tgt.getD b 0 < m.t.obj
  b1 : x.toNat < (m.bh.getD b []).length
  b2 : (((m.bh.getD b []).getD x.toNat []).length : Int) = (m.sz.getD x.toNat []).getD (m.t.src.getD b 0).toNat 0
  b3 : ∀ e, e < ((m.bh.getD b []).getD x.toNat []).length → 0 ≤ ((m.bh.getD b []).getD x.toNat []).getD e 0 ∧ ((m.bh.getD b []).getD x.toNat []).getD e 0 < (m.sz.getD x.toNat []).getD (m.t.tgt.getD b 0).toNat 0
  k1 : z.toNat < (k.be.getD b []).length
  k2 : (((k.be.getD b []).getD z.toNat []).length : Int) = (k.sz.getD (m.t.tgt.getD b 0).toNat []).getD z.toNat 0
  k3 : ∀ d, d < ((k.be.getD b []).getD z.toNat []).length → 0 ≤ ((k.be.getD b []).getD z.toNat []).getD d 0 ∧ ((k.be.getD b []).getD z.toNat []).getD d 0 < (k.sz.getD (m.t.src.getD b 0).toNat []).getD z.toNat 0
  z1 : 0 ≤ (m.sz.getD x.toNat []).getD (m.t.src.getD b 0).toNat 0 ∧ (m.sz.getD x.toNat []).getD (m.t.src.getD b 0).toNat 0 ≤ 64
  z2 : 0 ≤ (k.sz.getD (m.t.tgt.getD b 0).toNat []).getD z.toNat 0 ∧ (k.sz.getD (m.t.tgt.getD b 0).toNat []).getD z.toNat 0 ≤ 64
structure CcP (m k : Prof) (x z : Int) (b e d : Nat) : Prop where
  mT : ccT m x b e d ∈ ccL m k x z
  mU : ccU m k z b e d ∈ ccL m k x z
  iT : idxLL (ccL m k x z) (ccT m x b e d) = (ccSt m k x z m.t.obj.toNat).getD (m.t.tgt.getD b 0).toNat 0 + ((m.bh.getD b []).getD x.toNat []).getD e 0 * (k.sz.getD (m.t.tgt.getD b 0).toNat []).getD z.toNat 0 + (d : Int)
  iU : idxLL (ccL m k x z) (ccU m k z b e d) = (ccSt m k x z m.t.obj.toNat).getD (m.t.src.getD b 0).toNat 0 + (e : Int) * (k.sz.getD (m.t.src.getD b 0).toNat []).getD z.toNat 0 + ((k.be.getD b []).getD z.toNat []).getD d 0
  lT : idxLL (ccL m k x z) (ccT m x b e d) < (ccL m k x z).length
  lU : idxLL (ccL m k x z) (ccU m k z b e d) < (ccL m k x z).length
  t0 : 0 ≤ (ccSt m k x z m.t.obj.toNat).getD (m.t.tgt.getD b 0).toNat 0
  t1 : 0 ≤ ((m.bh.getD b []).getD x.toNat []).getD e 0 * (k.sz.getD (m.t.tgt.getD b 0).toNat []).getD z.toNat 0
  u0 : 0 ≤ (ccSt m k x z m.t.obj.toNat).getD (m.t.src.getD b 0).toNat 0
  u1 : 0 ≤ (e : Int) * (k.sz.getD (m.t.src.getD b 0).toNat []).getD z.toNat 0
structure CcV (m k : Prof) (x z : Int) (b e d : Nat) : Prop where
  row : ccRow m k x z b e d = [(ccSt m k x z m.t.obj.toNat).getD (m.t.tgt.getD b 0).toNat 0 + ((m.bh.getD b []).getD x.toNat []).getD e 0 * (k.sz.getD (m.t.tgt.getD b 0).toNat []).getD z.toNat 0 + (d : Int), (ccSt m k x z m.t.obj.toNat).getD (m.t.src.getD b 0).toNat 0 + (e : Int) * (k.sz.getD (m.t.src.getD b 0).toNat []).getD z.toNat 0 + ((k.be.getD b []).getD z.toNat []).getD d 0]
  lT : (ccSt m k x z m.t.obj.toNat).getD (m.t.tgt.getD b 0).toNat 0 + ((m.bh.getD b []).getD x.toNat []).getD e 0 * (k.sz.getD (m.t.tgt.getD b 0).toNat []).getD z.toNat 0 + (d : Int) < (ccL m k x z).length
  lU : (ccSt m k x z m.t.obj.toNat).getD (m.t.src.getD b 0).toNat 0 + (e : Int) * (k.sz.getD (m.t.src.getD b 0).toNat []).getD z.toNat 0 + ((k.be.getD b []).getD z.toNat []).getD d 0 < (ccL m k x z).length
end Go.GL
namespace Go.GL
theorem nest3_pre3 {α : Type} {pr : Nat → Nat → Nat → α} {s1 : Nat → Nat} {s2 : Nat → Nat → Nat} {k t u : Nat} : ∀ j, nest3 pr s1 s2 k t u <+: nest3 pr s1 s2 k t (u + j)
  | 0 => List.prefix_refl _
  | j + 1 => by rw [← Nat.add_assoc, nest3_snoc]; exact (nest3_pre3 j).trans (List.prefix_append _ _)
theorem nest3_pre2 {α : Type} {pr : Nat → Nat → Nat → α} {s1 : Nat → Nat} {s2 : Nat → Nat → Nat} {k t : Nat} : ∀ j, nest3 pr s1 s2 k t 0 <+: nest3 pr s1 s2 k (t + j) 0
  | 0 => List.prefix_refl _
  | j + 1 => by
    rw [← Nat.add_assoc, nest3_next2]
    have := nest3_pre3 (pr := pr) (s1 := s1) (s2 := s2) (k := k) (t := t + j) (u := 0) (s2 k (t + j))
    rw [Nat.zero_add] at this
    exact (nest3_pre2 j).trans this
theorem nest3_pre1 {α : Type} {pr : Nat → Nat → Nat → α} {s1 : Nat → Nat} {s2 : Nat → Nat → Nat} {k : Nat} : ∀ j, nest3 pr s1 s2 k 0 0 <+: nest3 pr s1 s2 (k + j) 0 0
  | 0 => List.prefix_refl _
  | j + 1 => by
    rw [← Nat.add_assoc, nest3_next1]
    have := nest3_pre2 (pr := pr) (s1 := s1) (s2 := s2) (k := k + j) (t := 0) (s1 (k + j))
    rw [Nat.zero_add] at this
    exact (nest3_pre1 j).trans this
theorem nest3_preR {α : Type} {pr : Nat → Nat → Nat → α} {s1 : Nat → Nat} {s2 : Nat → Nat → Nat} {n k t : Nat} (hk : k < n) (ht : t ≤ s1 k) : nest3 pr s1 s2 k t 0 <+: nest3 pr s1 s2 n 0 0 := by
  have h2 := nest3_pre2 (pr := pr) (s1 := s1) (s2 := s2) (k := k) (t := t) (s1 k - t)
  rw [show t + (s1 k - t) = s1 k by omega, ← nest3_next1] at h2
  have h3 := nest3_pre1 (pr := pr) (s1 := s1) (s2 := s2) (k := k + 1) (n - (k + 1))
  rw [show k + 1 + (n - (k + 1)) = n by omega] at h3
  exact h2.trans h3
theorem getD_append_l {α : Type} {xs ys : List α} {i : Nat} {d : α} (h : i < xs.length) : (xs ++ ys).getD i d = xs.getD i d := by
  rw [List.getD_eq_getElem?_getD, List.getElem?_append_left h, ← List.getD_eq_getElem?_getD]
theorem getD_append_r {α : Type} {xs ys : List α} {i : Nat} {d : α} (h : xs.length ≤ i) : (xs ++ ys).getD i d = ys.getD (i - xs.length) d := by
  rw [List.getD_eq_getElem?_getD, List.getElem?_append_right h, ← List.getD_eq_getElem?_getD]
theorem getD_map {α β : Type} {f : α → β} {xs : List α} {i : Nat} {d : α} {e : β} (h : i < xs.length) : (xs.map f).getD i e = f (xs.getD i d) := by
  rw [List.getD_eq_getElem?_getD, List.getElem?_map, List.getElem?_eq_getElem h, List.getD_eq_getElem?_getD, List.getElem?_eq_getElem h]; rfl
theorem getD_set2 {xss : List (List Int)} {i j : Nat} {ys : List Int} (h : i < xss.length) : (xss.set i ys).getD j [] = if i = j then ys else xss.getD j [] := by
  rw [List.getD_eq_getElem?_getD, List.getElem?_set]
  by_cases e : i = j
  · subst e; rw [if_pos rfl, if_pos rfl, if_pos h]; rfl
  · rw [if_neg e, if_neg e, ← List.getD_eq_getElem?_getD]
theorem OwnL.app {b gi g' i : Nat} {H H1 : GHeap} {e : TypeId} {r : Nat → Option Addr} {xss : List (List Int)} {ys : List Int} (h : OwnL b H e r xss) (s : St [gi] H H1) (hi : i < xss.length) (hr : r i = some ⟨gi, 0, none⟩) (hg : H1.get g' = some (.row (ints ys) e true)) (hn : H.next ≤ g') (hb : b ≤ g') :
    OwnL b H1 e (upd r i (some ⟨g', 0, none⟩)) (xss.set i ys) := by
  unfold OwnL
  rw [List.length_set]
  have old : ∀ j, j < xss.length → j ≠ i → ∃ x, r j = some ⟨x, 0, none⟩ ∧ b ≤ x ∧ x < H.next ∧ H1.get x = some (.row (ints (xss.getD j [])) e true) := fun j hj hne => by
    obtain ⟨x, h1, h2, h3⟩ := h.row j hj
    exact ⟨x, h1, h2, GHeap.ltg h3, s.same x _ ⟨fun ex => by subst ex; exact hne (h.inj j i hj hi (by rw [hr, h1])), trivial⟩ h3⟩
  refine ⟨fun j hj => ?_, fun j k hj hk hjk => ?_⟩
  · rw [getD_set2 hi]
    by_cases ej : j = i
    · subst ej
      exact ⟨g', upd_eq _ _ _, hb, by rw [if_pos rfl]; exact hg⟩
    · obtain ⟨x, h1, h2, _, h4⟩ := old j hj ej
      exact ⟨x, by rw [upd_ne ej]; exact h1, h2, by rw [if_neg (Ne.symm ej)]; exact h4⟩
  · by_cases ej : j = i
    · by_cases ek : k = i
      · omega
      · obtain ⟨x, h1, _, h3, _⟩ := old k hk ek
        rw [ej, upd_eq, upd_ne ek, h1] at hjk
        cases hjk
        omega
    · obtain ⟨x, h1, _, h3, _⟩ := old j hj ej
      by_cases ek : k = i
      · rw [ek, upd_eq, upd_ne ej, h1] at hjk
        cases hjk
        omega
      · rw [upd_ne ej, upd_ne ek] at hjk
        exact h.inj j k hj hk hjk
theorem slsL_set {r : Nat → Option Addr} {xss : List (List Int)} {i n : Nat} {a : Option Addr} {ys : List Int} (_ : i < xss.length) (hn : n = ys.length) : (slsL r xss).set i (.slice a n n) = slsL (upd r i a) (xss.set i ys) := by
  subst hn
  unfold slsL slsOf
  apply List.ext_getElem (by simp)
  intro j h1 h2
  simp only [List.length_set, List.length_map, List.length_range] at h1
  simp only [List.getElem_set, List.getElem_map, List.getElem_range]
  by_cases e : i = j
  · subst e
    rw [if_pos rfl, upd_eq, getD_set2 h1, if_pos rfl]
  · rw [if_neg e, upd_ne (Ne.symm e), getD_set2 (by omega), if_neg e]
theorem slsL_cell {r : Nat → Option Addr} {xss : List (List Int)} {H : GHeap} {g i : Nat} {e : TypeId} {own : Bool} (h : H.get g = some (.row (slsL r xss) e own)) (hi : i < xss.length) : H.cell g (0 + i) = some (.slice (r i) (xss.getD i []).length (xss.getD i []).length) := by
  rw [GHeap.cell_of h, Nat.zero_add]
  simp [slsL, slsOf, hi]
theorem ne_upd {g g' i n : Nat} {r : Nat → Option Addr} (h : ∀ j, j < n → r j ≠ some ⟨g, 0, none⟩) (hg : g' ≠ g) : ∀ j, j < n → upd r i (some ⟨g', 0, none⟩) j ≠ some ⟨g, 0, none⟩ := fun j hj => by
  by_cases e : j = i
  · subst e
    rw [upd_eq]
    intro e
    cases e
    exact hg rfl
  · rw [upd_ne e]
    exact h j hj
structure OwnCat (eI eS : TypeId) (b : Nat) (H : GHeap) (c : Cat) (g1 g2 g3 g4 : Nat) (rr : Nat → Option Addr) : Prop where
  a1 : H.get g1 = some (.row (ints c.src) eI true)
  a2 : H.get g2 = some (.row (ints c.tgt) eI true)
  a3 : H.get g3 = some (.row (ints c.idn) eI true)
  a4 : H.get g4 = some (.row (slsL rr c.comp) eS true)
  b1 : b ≤ g1
  b2 : b ≤ g2
  b3 : b ≤ g3
  b4 : b ≤ g4
  n12 : g1 ≠ g2
  n13 : g1 ≠ g3
  n23 : g2 ≠ g3
  rows : OwnL b H eI rr c.comp
  r1 : ∀ i, i < c.comp.length → rr i ≠ some ⟨g1, 0, none⟩
  r2 : ∀ i, i < c.comp.length → rr i ≠ some ⟨g2, 0, none⟩
  r3 : ∀ i, i < c.comp.length → rr i ≠ some ⟨g3, 0, none⟩
def ownP (g1 g2 g3 g4 : Nat) (rr : Nat → Option Addr) : CatP := ⟨some ⟨g1, 0, none⟩, some ⟨g2, 0, none⟩, some ⟨g3, 0, none⟩, some ⟨g4, 0, none⟩, rr⟩
theorem OwnCat.catR {eI eS : TypeId} {b : Nat} {H : GHeap} {c : Cat} {g1 g2 g3 g4 : Nat} {rr : Nat → Option Addr} (h : OwnCat eI eS b H c g1 g2 g3 g4 rr) : CatR b H c (ownP g1 g2 g3 g4 rr) :=
  .mk (.of_at h.a1 h.b1) (.of_at h.a2 h.b2) (.of_at h.a3 h.b3) (h.rows.done h.a4 h.b4) (.inr rfl) (.inr rfl) (.inr rfl) h.n12 h.n13 h.n23 (fun i hi => ⟨h.r1 i hi, h.r2 i hi, h.r3 i hi⟩)
def NewCatO (eI eS : TypeId) (H : GHeap) (c : Cat) (v : Value) (H' : GHeap) : Prop := H.Le H' ∧ ∃ g1 g2 g3 g4 rr, v = .agg (c.cells (ownP g1 g2 g3 g4 rr)).toArray ∧ OwnCat eI eS H.next H' c g1 g2 g3 g4 rr
structure Cat.Rect (c : Cat) (N : Nat) : Prop where
  obj : 0 ≤ c.obj ∧ c.obj ≤ N
  n : c.src.length ≤ N
  tl : c.tgt.length = c.src.length
  src : ∀ i, i < c.src.length → 0 ≤ c.src.getD i 0 ∧ c.src.getD i 0 ≤ N
  tgt : ∀ i, i < c.tgt.length → 0 ≤ c.tgt.getD i 0 ∧ c.tgt.getD i 0 ≤ N
  il : (c.idn.length : Int) = c.obj
  idn : ∀ i, i < c.idn.length → 0 ≤ c.idn.getD i 0 ∧ c.idn.getD i 0 ≤ N
  cl : c.comp.length = c.src.length
  row : ∀ f, f < c.comp.length → (c.comp.getD f []).length = c.src.length
  cell : ∀ f, f < c.comp.length → ∀ g, g < c.src.length → -(N : Int) - 1 ≤ (c.comp.getD f []).getD g 0 ∧ (c.comp.getD f []).getD g 0 ≤ N
theorem Cat.Rect.small {c : Cat} {N : Nat} (h : c.Rect N) (hN : N ≤ 1048576) : c.Small := by
  obtain ⟨h1, h2, h3, h4, h5, h6, h7, h8, h9, h10⟩ := h
  refine ⟨by omega, by omega, by omega, by omega, fun i => ?_, by omega, by omega⟩
  by_cases hi : i < c.comp.length
  · have := h9 i hi; omega
  · rw [List.getD_eq_getElem?_getD, List.getElem?_eq_none (by omega)]; simp
def sumRow (n : Nat) (row : List Int) : List Int := List.replicate n (-1) ++ row.map fun h => if 0 ≤ h then h + (n : Int) else h
def Cat.sumL (c d : Cat) : List (List Int) := c.comp.map (· ++ List.replicate d.src.length (-1))
def Cat.sum (c d : Cat) : Cat where
  obj := c.obj + d.obj
  src := c.src ++ d.src.map (· + c.obj)
  tgt := c.tgt ++ d.tgt.map (· + c.obj)
  idn := c.idn ++ d.idn.map (· + (c.src.length : Int))
  comp := c.sumL d ++ d.comp.map (sumRow c.src.length)
def extL (xss : List (List Int)) (k f j : Nat) : List (List Int) := (List.range xss.length).map fun i => xss.getD i [] ++ List.replicate (if i < f then k else if i = f then j else 0) (-1)
@[simp] theorem length_extL (xss : List (List Int)) (k f j : Nat) : (extL xss k f j).length = xss.length := by simp [extL]
theorem extL_get {xss : List (List Int)} {k f j i : Nat} (h : i < xss.length) : (extL xss k f j).getD i [] = xss.getD i [] ++ List.replicate (if i < f then k else if i = f then j else 0) (-1) := by simp [extL, List.getD_eq_getElem?_getD, h]
theorem extL_zero (xss : List (List Int)) (k : Nat) : extL xss k 0 0 = xss := by
  refine eq_of_getD2 (by simp) fun i hi => ?_
  rw [length_extL] at hi
  rw [extL_get hi]
  simp
theorem extL_succ {xss : List (List Int)} {k f j : Nat} (h : f < xss.length) : extL xss k f (j + 1) = (extL xss k f j).set f ((extL xss k f j).getD f [] ++ [-1]) := by
  refine eq_of_getD2 (by simp) fun i hi => ?_
  rw [length_extL] at hi
  rw [getD_set2 (by simpa using h), extL_get hi, extL_get h]
  by_cases e : f = i
  · subst e
    rw [if_pos rfl, if_neg (by omega), if_pos rfl, if_neg (by omega), if_pos rfl, List.replicate_succ', List.append_assoc]
  · rw [if_neg e, extL_get hi]
    by_cases e2 : i < f
    · rw [if_pos e2, if_pos e2]
    · rw [if_neg e2, if_neg e2, if_neg (Ne.symm e), if_neg (Ne.symm e)]
theorem extL_next {xss : List (List Int)} {k f : Nat} : extL xss k f k = extL xss k (f + 1) 0 := by
  refine eq_of_getD2 (by simp) fun i hi => ?_
  rw [length_extL] at hi
  rw [extL_get hi, extL_get hi]
  congr 2
  by_cases e : i < f
  · rw [if_pos e, if_pos (by omega)]
  · rw [if_neg e]
    by_cases e2 : i = f
    · rw [if_pos e2, if_pos (by omega)]
    · rw [if_neg e2, if_neg (by omega)]
      split <;> rfl
theorem Cat.extL_all {c d : Cat} : extL c.comp d.src.length c.comp.length 0 = c.sumL d := by
  refine eq_of_getD2 (by simp [Cat.sumL]) fun i hi => ?_
  rw [length_extL] at hi
  unfold Cat.sumL
  rw [extL_get hi, if_pos hi, getD_map (d := []) hi]
theorem extL_len {xss : List (List Int)} {k f j i : Nat} (hj : j ≤ k) (h : i < xss.length) : ((extL xss k f j).getD i []).length ≤ (xss.getD i []).length + k := by
  rw [extL_get h, List.length_append, List.length_replicate]
  split
  · omega
  · split <;> omega
theorem sumRow_take {n : Nat} {row : List Int} {j : Nat} (h : j < row.length) : sumRow n (row.take (j + 1)) = sumRow n (row.take j) ++ [if 0 ≤ row.getD j 0 then row.getD j 0 + (n : Int) else row.getD j 0] := by
  unfold sumRow
  rw [take_map_snoc (d := 0) h, List.append_assoc]
theorem length_sumRow (n : Nat) (row : List Int) : (sumRow n row).length = n + row.length := by simp [sumRow]
theorem sumRow_nil (n : Nat) : sumRow n [] = List.replicate n (-1) := by simp [sumRow]
structure SumSt (eI eS eT : TypeId) (H0 H : GHeap) (c d : Cat) (q : CatP) (gd gR gS gF gT gI gC : Nat) (zs : List Value) (rr : Nat → Option Addr) (f j : Nat) : Prop where
  hle : H0.Le H
  gc : H0.next ≤ gC
  ad : H.get gd = some (.row (d.cells q) eT true)
  aR : H.get gR = some (.row zs eT true)
  aS : H.get gS = some (.row [.int .i64 (c.obj + d.obj), .slice (some ⟨gF, 0, none⟩) c.src.length c.src.length, .slice (some ⟨gT, 0, none⟩) c.tgt.length c.tgt.length, .slice (some ⟨gI, 0, none⟩) (c.idn.length + d.obj.toNat) (c.idn.length + d.obj.toNat), .slice (some ⟨gC, 0, none⟩) c.comp.length c.comp.length] eT true)
  aF : H.get gF = some (.row (ints c.src) eI true)
  aT : H.get gT = some (.row (ints c.tgt) eI true)
  aI : H.get gI = some (.row (ints (c.sum d).idn) eI true)
  aC : H.get gC = some (.row (slsL rr (extL c.comp d.src.length f j)) eS true)
  rows : OwnL H0.next H eI rr (extL c.comp d.src.length f j)
  r1 : ∀ i, i < c.comp.length → rr i ≠ some ⟨gF, 0, none⟩
  r2 : ∀ i, i < c.comp.length → rr i ≠ some ⟨gT, 0, none⟩
  r3 : ∀ i, i < c.comp.length → rr i ≠ some ⟨gI, 0, none⟩
theorem SumSt.app {eI eS eT : TypeId} {H0 H Ha Hb Hc : GHeap} {c d : Cat} {q : CatP} {gd gR gS gF gT gI gC gi g' n : Nat} {zs : List Value} {rr : Nat → Option Addr} {f j : Nat} (h : SumSt eI eS eT H0 H c d q gd gR gS gF gT gI gC zs rr f j) (t1 : (eI != eS) = true) (t2 : (eI != eT) = true) (t3 : (eS != eT) = true) (hf : f < c.comp.length) (hgi : H.get gi = some (.row (ints ((extL c.comp d.src.length f j).getD f [])) eI true)) (hr : rr f = some ⟨gi, 0, none⟩) (le : H.Le Ha) (s1 : St [gi] Ha Hb) (hn : Ha.next ≤ g') (hg : Hb.get g' = some (.row (ints ((extL c.comp d.src.length f j).getD f [] ++ [-1])) eI true)) (s2 : St [gC] Hb Hc)
    (hC : Hc.get gC = some (.row ((slsL rr (extL c.comp d.src.length f j)).set f (.slice (some ⟨g', 0, none⟩) n n)) eS true)) (hnn : n = ((extL c.comp d.src.length f j).getD f []).length + 1) : SumSt eI eS eT H0 Hc c d q gd gR gS gF gT gI gC zs (upd rr f (some ⟨g', 0, none⟩)) f (j + 1) := by
  have u1 : (eS != eI) = true := by simp only [bne_iff_ne, ne_eq] at t1 ⊢; exact fun e => t1 e.symm
  have u2 : (eT != eI) = true := by simp only [bne_iff_ne, ne_eq] at t2 ⊢; exact fun e => t2 e.symm
  have u3 : (eT != eS) = true := by simp only [bne_iff_ne, ne_eq] at t3 ⊢; exact fun e => t3 e.symm
  obtain ⟨x1, x0, x2, xR, x3, x4, x5, x6, x7, x8, x9, x10, x11⟩ := h
  have hl : f < (extL c.comp d.src.length f j).length := by rw [length_extL]; exact hf
  have hgi0 : H0.next ≤ gi := by
    obtain ⟨x, h1, h2, _⟩ := x8.row f hl
    rw [hr] at h1; cases h1; exact h2
  have ltF := GHeap.ltg x4
  have ltT := GHeap.ltg x5
  have ltI := GHeap.ltg x6
  have lx := le.1
  have ly := x1.1
  have step : ∀ k o, k ≠ gi → k ≠ gC → H.get k = some o → Hc.get k = some o := fun k o h1 h2 h3 => s2.same k o ⟨h2, trivial⟩ (s1.same k o ⟨h1, trivial⟩ (le.2 k o h3))
  have nF : gF ≠ gi := fun e => x9 f hf (by rw [hr, e])
  have nT : gT ≠ gi := fun e => x10 f hf (by rw [hr, e])
  have nI : gI ≠ gi := fun e => x11 f hf (by rw [hr, e])
  have nC : gC ≠ gi := row_ne x7 hgi u1
  refine ⟨((x1.trans le).st s1 (fun k hk => ⟨by omega, trivial⟩)).st s2 (fun k hk => ⟨by omega, trivial⟩), x0, step _ _ (row_ne x2 hgi u2) (row_ne x2 x7 u3) x2, step _ _ (row_ne xR hgi u2) (row_ne xR x7 u3) xR, step _ _ (row_ne x3 hgi u2) (row_ne x3 x7 u3) x3, step _ _ nF (row_ne x4 x7 t1) x4, step _ _ nT (row_ne x5 x7 t1) x5, step _ _ nI (row_ne x6 x7 t1) x6, ?_, ?_, ne_upd x9 (by omega), ne_upd x10 (by omega), ne_upd x11 (by omega)⟩
  · rw [hC, slsL_set (ys := (extL c.comp d.src.length f j).getD f [] ++ [-1]) hl (by rw [hnn, List.length_append]; rfl), ← extL_succ hf]
  · rw [extL_succ hf]
    have hA := OwnL.app (x8.keep (Lasts.of_le le)) s1 hl hr hg hn (by omega)
    refine hA.st s2 (.cons (hA.neT (s1.same _ _ ⟨nC, trivial⟩ (le.2 _ _ x7)) t1) (.nil _ _))
theorem SumSt.next {eI eS eT : TypeId} {H0 H : GHeap} {c d : Cat} {q : CatP} {gd gR gS gF gT gI gC : Nat} {zs : List Value} {rr : Nat → Option Addr} {f : Nat} (h : SumSt eI eS eT H0 H c d q gd gR gS gF gT gI gC zs rr f d.src.length) : SumSt eI eS eT H0 H c d q gd gR gS gF gT gI gC zs rr (f + 1) 0 := by
  obtain ⟨x1, x0, x2, xR, x3, x4, x5, x6, x7, x8, x9, x10, x11⟩ := h
  rw [extL_next] at x7 x8
  exact ⟨x1, x0, x2, xR, x3, x4, x5, x6, x7, x8, x9, x10, x11⟩
def colPr (x y e : Nat) : List Int := [(x : Int), (y : Int), (e : Int)]
def Prof.colS2 (m : Prof) (x y : Nat) : Nat := ((m.sz.getD x []).getD y 0).toNat
def Prof.colP (m : Prof) (x y e : Nat) : List (List Int) := nest3 colPr (fun _ => m.t.obj.toNat) m.colS2 x y e
def Prof.colL (m : Prof) : List (List Int) := m.colP m.s.obj.toNat 0 0
def Prof.colA (m : Prof) (x y : Nat) : Int := (m.colP x y 0).length
theorem Prof.Sized.at {m : Prof} (z : m.Sized) {x y : Nat} (hx : (x : Int) < m.s.obj) (hy : (y : Int) < m.t.obj) : x < m.sz.length ∧ y < (m.sz.getD x []).length ∧ 0 ≤ (m.sz.getD x []).getD y 0 ∧ (m.sz.getD x []).getD y 0 ≤ 64 := by
  have h1 := z.sl
  have h2 := z.row x (by omega)
  exact ⟨by omega, by omega, z.rng x (by omega) y (by omega)⟩
structure Prof.Cok (m : Prof) : Prop where
  z : m.Sized
  s0 : 0 ≤ m.s.obj
  s8 : m.s.obj ≤ 8
  t0 : 0 ≤ m.t.obj
  t8 : m.t.obj ≤ 8
theorem Prof.Cok.s2 {m : Prof} (h : m.Cok) {x y : Nat} (hx : (x : Int) < m.s.obj) (hy : (y : Int) < m.t.obj) : (m.colS2 x y : Int) = (m.sz.getD x []).getD y 0 ∧ m.colS2 x y ≤ 64 := by
  have := h.z.at hx hy
  unfold Prof.colS2
  omega
theorem Prof.Cok.all {m : Prof} (h : m.Cok) : m.colL.length ≤ 4096 := by
  have h1 := h.s8
  have h2 := h.t8
  have := nest3_all (pr := colPr) (s1 := fun _ => m.t.obj.toNat) (s2 := m.colS2) (c := 64) (d := 8) (n := m.s.obj.toNat) (fun a _ => by show m.t.obj.toNat ≤ 8; omega) (fun a ha b hb => (h.s2 (by omega) (by omega)).2)
  unfold Prof.colL Prof.colP
  omega
theorem Prof.Cok.leY {m : Prof} (h : m.Cok) {x y : Nat} (hx : (x : Int) < m.s.obj) (hy : (y : Int) ≤ m.t.obj) : (m.colP x y 0).length ≤ m.colL.length := by
  obtain ⟨r, hr⟩ := nest3_preR (pr := colPr) (s1 := fun _ => m.t.obj.toNat) (s2 := m.colS2) (n := m.s.obj.toNat) (k := x) (t := y) (by omega) (by omega)
  unfold Prof.colL Prof.colP
  rw [← hr, List.length_append]
  omega
def Prof.colQx (m : Prof) (x y : Nat) : List Int := (List.range y).map (m.colA x)
def Prof.colQ (m : Prof) (k : Nat) : List (List Int) := (List.range k).map fun x => m.colQx x (m.sz.getD x []).length
@[simp] theorem Prof.length_colQx (m : Prof) (x y : Nat) : (m.colQx x y).length = y := by simp [Prof.colQx]
@[simp] theorem Prof.length_colQ (m : Prof) (k : Nat) : (m.colQ k).length = k := by simp [Prof.colQ]
theorem Prof.colQx_get {m : Prof} {x y i : Nat} (h : i < y) : (m.colQx x y).getD i 0 = m.colA x i := by simp [Prof.colQx, List.getD_eq_getElem?_getD, h]
theorem Prof.colQ_get {m : Prof} {k x : Nat} (h : x < k) : (m.colQ k).getD x [] = m.colQx x (m.sz.getD x []).length := by simp [Prof.colQ, List.getD_eq_getElem?_getD, h]
theorem Prof.Cok.colA_bd {m : Prof} (h : m.Cok) {x y : Nat} (hx : (x : Int) < m.s.obj) (hy : (y : Int) ≤ m.t.obj) : 0 ≤ m.colA x y ∧ m.colA x y ≤ 4096 := by
  have h1 := h.leY hx hy
  have h2 := h.all
  unfold Prof.colA
  omega
theorem Prof.Cok.q {m : Prof} (h : m.Cok) {x y : Int} (x0 : 0 ≤ x) (x1 : x < m.s.obj) (y0 : 0 ≤ y) (y1 : y < m.t.obj) : x < (m.colQ m.sz.length).length ∧ (((m.colQ m.sz.length).getD x.toNat []).length : Int) = m.t.obj ∧ ((m.colQ m.sz.length).getD x.toNat []).getD y.toNat 0 = m.colA x.toNat y.toNat ∧ 0 ≤ m.colA x.toNat y.toNat ∧ m.colA x.toNat y.toNat ≤ 4096 := by
  have h1 := h.z.sl
  have h2 := h.z.row x.toNat (by omega)
  have h3 := h.colA_bd (x := x.toNat) (y := y.toNat) (by omega) (by omega)
  rw [Prof.length_colQ, Prof.colQ_get (by omega), Prof.length_colQx, Prof.colQx_get (by omega)]
  exact ⟨by omega, h2, rfl, h3⟩
def Prof.colN (m : Prof) : Nat := m.s.src.length + m.t.src.length
def Prof.colS (m : Prof) : List Int := (m.s.sum m.t).src ++ m.colL.map fun t => t.getD 0 0
def Prof.colT (m : Prof) : List Int := (m.s.sum m.t).tgt ++ m.colL.map fun t => m.s.obj + t.getD 1 0
def Prof.colR (m : Prof) (i : Nat) : List Int := m.colL.getD (i - m.colN) []
def Prof.colB (m : Prof) (f g : Nat) : Int := ((m.be.getD f []).getD ((m.colR g).getD 1 0).toNat []).getD ((m.colR g).getD 2 0).toNat 0
def Prof.colH (m : Prof) (f g : Nat) : Int := ((m.bh.getD (g - m.s.src.length) []).getD ((m.colR f).getD 0 0).toNat []).getD ((m.colR f).getD 2 0).toNat 0
def Prof.colK1 (m : Prof) (f g : Nat) : List Int := [m.colS.getD f 0, (m.colR g).getD 1 0, m.colB f g]
def Prof.colK2 (m : Prof) (f g : Nat) : List Int := [(m.colR f).getD 0 0, m.colT.getD g 0 - m.s.obj, m.colH f g]
def Prof.colX (m : Prof) (f g : Nat) : Int :=
  if f < m.colN ∧ g < m.colN then ((m.s.sum m.t).comp.getD f []).getD g 0
  else if f < m.colN then (m.colN : Int) + idxLL m.colL (m.colK1 f g) else (m.colN : Int) + idxLL m.colL (m.colK2 f g)
structure Prof.ColB (m : Prof) (f g : Nat) : Prop where
  fM : f < m.s.src.length
  sf : m.colS.getD f 0 = m.s.src.getD f 0
  tg : m.colT.getD g 0 = m.s.obj + (m.colR g).getD 1 0
  r3 : (m.colR g).length = 3
  y0 : 0 ≤ (m.colR g).getD 1 0
  y1 : (m.colR g).getD 1 0 < m.t.obj
  e0 : 0 ≤ (m.colR g).getD 2 0
  b0 : f < m.be.length
  b1 : ((m.colR g).getD 1 0).toNat < (m.be.getD f []).length
  b2 : ((m.colR g).getD 2 0).toNat < ((m.be.getD f []).getD ((m.colR g).getD 1 0).toNat []).length
  s0 : 0 ≤ m.s.src.getD f 0
  s1 : m.s.src.getD f 0 < m.s.obj
  t0 : 0 ≤ m.s.tgt.getD f 0
  t1 : m.s.tgt.getD f 0 < m.s.obj
  ae : (g : Int) - m.colN - m.colA (m.s.tgt.getD f 0).toNat ((m.colR g).getD 1 0).toNat = (m.colR g).getD 2 0
  ix : idxLL m.colL (m.colK1 f g) = m.colA (m.s.src.getD f 0).toNat ((m.colR g).getD 1 0).toNat + m.colB f g
  lt : idxLL m.colL (m.colK1 f g) < m.colL.length
  ca : 0 ≤ m.colA (m.s.src.getD f 0).toNat ((m.colR g).getD 1 0).toNat
  bb : 0 ≤ m.colB f g
structure Prof.ColH (m : Prof) (f g : Nat) : Prop where
  gM : m.s.src.length ≤ g
  gN : g < m.colN
  sf : m.colS.getD f 0 = (m.colR f).getD 0 0
  tg : m.colT.getD g 0 - m.s.obj = m.t.tgt.getD (g - m.s.src.length) 0
  r3 : (m.colR f).length = 3
  x0 : 0 ≤ (m.colR f).getD 0 0
  x1 : (m.colR f).getD 0 0 < m.s.obj
  e0 : 0 ≤ (m.colR f).getD 2 0
  b0 : g - m.s.src.length < m.bh.length
  b1 : ((m.colR f).getD 0 0).toNat < (m.bh.getD (g - m.s.src.length) []).length
  b2 : ((m.colR f).getD 2 0).toNat < ((m.bh.getD (g - m.s.src.length) []).getD ((m.colR f).getD 0 0).toNat []).length
  s0 : 0 ≤ m.t.src.getD (g - m.s.src.length) 0
  s1 : m.t.src.getD (g - m.s.src.length) 0 < m.t.obj
  t0 : 0 ≤ m.t.tgt.getD (g - m.s.src.length) 0
  t1 : m.t.tgt.getD (g - m.s.src.length) 0 < m.t.obj
  ae : (f : Int) - m.colN - m.colA ((m.colR f).getD 0 0).toNat (m.t.src.getD (g - m.s.src.length) 0).toNat = (m.colR f).getD 2 0
  ix : idxLL m.colL (m.colK2 f g) = m.colA ((m.colR f).getD 0 0).toNat (m.t.tgt.getD (g - m.s.src.length) 0).toNat + m.colH f g
  lt : idxLL m.colL (m.colK2 f g) < m.colL.length
  ca : 0 ≤ m.colA ((m.colR f).getD 0 0).toNat (m.t.tgt.getD (g - m.s.src.length) 0).toNat
  bb : 0 ≤ m.colH f g
def Prof.col (m : Prof) : Cat := ⟨m.s.obj + m.t.obj, m.colS, m.colT, (m.s.sum m.t).idn, tabL m.colS m.colT m.colX m.colS.length⟩
def Prof.colSp (m : Prof) (x y e : Nat) : List Int := (m.s.sum m.t).src ++ (m.colP x y e).map fun t => t.getD 0 0
def Prof.colTp (m : Prof) (x y e : Nat) : List Int := (m.s.sum m.t).tgt ++ (m.colP x y e).map fun t => m.s.obj + t.getD 1 0
structure ColSt (eI eS eT eP : TypeId) (H0 H : GHeap) (m : Prof) (p : ProfP) (g1 g2 g3 g4 g5 gI gC : Nat) (r0 : Nat → Option Addr) (zs : List Value) (x y e : Nat) (r1 : Nat → Option Addr) (gV gF gT : Nat) : Prop where
  hle : H0.Le H
  a1 : H.get g1 = some (.row (m.cells p) eP true)
  a2 : H.get g2 = some (.row zs eT true)
  a3 : H.get g3 = some (.row (m.s.cells p.s) eT true)
  a4 : H.get g4 = some (.row (m.t.cells p.t) eT true)
  a5 : H.get g5 = some (.row [.int .i64 (m.s.obj + m.t.obj), .slice (some ⟨gF, 0, none⟩) (m.colSp x y e).length (m.colSp x y e).length, .slice (some ⟨gT, 0, none⟩) (m.colTp x y e).length (m.colTp x y e).length, .slice (some ⟨gI, 0, none⟩) (m.s.sum m.t).idn.length (m.s.sum m.t).idn.length, .slice (some ⟨gC, 0, none⟩) (m.s.sum m.t).comp.length (m.s.sum m.t).comp.length] eT true)
  aF : H.get gF = some (.row (ints (m.colSp x y e)) eI true)
  aT : H.get gT = some (.row (ints (m.colTp x y e)) eI true)
  aI : H.get gI = some (.row (ints (m.s.sum m.t).idn) eI true)
  aC : H.get gC = some (.row (slsL r0 (m.s.sum m.t).comp) eS true)
  aV : H.get gV = some (.row (slsL r1 (m.colP x y e)) eS true)
  rows0 : OwnL H0.next H eI r0 (m.s.sum m.t).comp
  rows1 : OwnL H0.next H eI r1 (m.colP x y e)
  z1 : ∀ i, i < (m.s.sum m.t).comp.length → r0 i ≠ some ⟨gF, 0, none⟩
  z2 : ∀ i, i < (m.s.sum m.t).comp.length → r0 i ≠ some ⟨gT, 0, none⟩
  z3 : ∀ i, i < (m.s.sum m.t).comp.length → r0 i ≠ some ⟨gI, 0, none⟩
  w1 : ∀ i, i < (m.colP x y e).length → r1 i ≠ some ⟨gF, 0, none⟩
  w2 : ∀ i, i < (m.colP x y e).length → r1 i ≠ some ⟨gT, 0, none⟩
  bF : H0.next ≤ gF
  bT : H0.next ≤ gT
  bI : H0.next ≤ gI
  bC : H0.next ≤ gC
  bV : H0.next ≤ gV
  b5 : H0.next ≤ g5
  n12 : gF ≠ gT
  n13 : gF ≠ gI
  n23 : gT ≠ gI
  nV : gV ≠ gC
  n15 : g1 ≠ g5
  n25 : g2 ≠ g5
  n35 : g3 ≠ g5
  n45 : g4 ≠ g5
end Go.GL
namespace Go.GL
open Go.RowKit Go.WideShapes Go.ChangeShapes Go.Deep
def Bytes (H : GHeap) (a : Option Addr) (xs : List Int) : Prop := (SlA H a xs.length fun i => .int .u8 (xs.getD i 0)) ∧ ∀ i, 0 ≤ xs.getD i 0 ∧ xs.getD i 0 ≤ 255
theorem Bytes.mono {H H' : GHeap} {a : Option Addr} {xs : List Int} (h : Bytes H a xs) (hle : H.Le H') : Bytes H' a xs := ⟨SlA.mono h.1 hle, h.2⟩
def u8T (P : Program) (t : TypeId) : Bool := match P.underlying t with | some (.int .u8) => true | _ => false
def bytesDT (P : Program) (t : TypeId) : Bool := match P.underlying t with | some (.slice e) => u8T P e && (P.cellsOf e == 1) | _ => false
theorem bytesDT_run {P : Program} {t : TypeId} (h : bytesDT P t = true) : ∃ e, P.underlying t = some (.slice e) ∧ P.underlying e = some (.int .u8) ∧ P.cellsOf e = 1 := by
  unfold bytesDT at h
  split at h
  · simp only [Bool.and_eq_true, beq_iff_eq] at h
    refine ⟨_, by assumption, ?_, h.2⟩
    have h1 := h.1
    unfold u8T at h1
    split at h1
    · assumption
    · cases h1
  · cases h
def RBytes (ρ : Place) (H : GHeap) (cs : List Value) : Prop := ∃ a xs c, cs = [c] ∧ VRel ρ (.slice a xs.length xs.length) c ∧ Bytes H a xs ∧ xs.length ≤ 9223372036854775807
theorem import_bytes {P : Program} {t : TypeId} (ht : bytesDT P t = true) : Imports P t RBytes := by
  intro T enc B w0 ρ H w held fuel cs x hs hB h
  obtain ⟨e, h1, h2, h3⟩ := bytesDT_run ht
  rcases open_ints h1 h2 h3 h with ⟨rfl, _⟩ | ⟨a, len, cap, zs, rfl, _, hl, hm, hz, _, hc, hw⟩
  · exact ⟨ρ, H, hs, .refl ρ, .refl H, none, [], _, rfl, .nilSlice, ⟨.inl rfl, fun i => by simp⟩, by simp⟩
  · simp only [if_true] at hz
    have hlen : (zs.take len).length = len := by simp; omega
    obtain ⟨a', ρ', H', k1, k2, k3, k4, k5⟩ := hs.list hB (f := fun i => .int .u8 ((zs.take len).getD i 0)) hl hm (fun i hi => hc i (by omega)) (fun i hi => by rw [take_getD zs hi]; exact .int _ _)
    refine ⟨ρ', H', k1, k2, k3, a', zs.take len, _, rfl, by rw [hlen]; exact k4, ⟨by rw [hlen]; exact k5, fun i => ?_⟩, by rw [hlen]; unfold maxLen at hm; omega⟩
    rw [List.getD_eq_getElem?_getD]
    cases e : (zs.take len)[i]? with
    | none => simp
    | some n =>
      have := hw n (List.mem_of_mem_take (List.mem_of_getElem? e))
      simp [Lit.wf, IntKind.min, IntKind.max, IntKind.signed, IntKind.bits] at this
      simp only [Option.getD_some]
      omega
theorem imp1_bytes {P : Program} {t : TypeId} (ht : bytesDT P t = true) : Imp1 P t (fun H g => ∃ a xs, g = .slice a xs.length xs.length ∧ Bytes H a xs ∧ xs.length ≤ 9223372036854775807) where
  mono h := fun ⟨a, xs, h1, h2, h3⟩ => ⟨a, xs, h1, h2.mono h, h3⟩
  imp := by
    intro T enc B w0 ρ H w held base fuel v x hs hB h hv
    obtain ⟨e, hu, _⟩ := bytesDT_run ht
    obtain ⟨a, l, c, rfl⟩ := okWide_slice hu hv
    obtain ⟨ρ', H', h1, h2, h3, a', xs, c', h4, h5, h6, h7⟩ := import_bytes ht hs hB h
    have : Value.slice a l c = c' := by simpa [Value.cells] using h4
    subst this
    exact ⟨ρ', H', _, h1, h2, h3, h5, a', xs, rfl, h6, h7⟩
def andU (a b : Int) : Int := IntKind.wrap .u64 ((BitVec.ofInt 64 a &&& BitVec.ofInt 64 b).toNat : Nat)
theorem andU_le (a : Int) : 0 ≤ andU a 16777215 ∧ andU a 16777215 ≤ 16777215 := by
  have h : (BitVec.ofInt 64 a &&& BitVec.ofInt 64 16777215).toNat ≤ 16777215 := by
    rw [BitVec.toNat_and]
    exact Nat.le_trans Nat.and_le_right (by decide)
  unfold andU IntKind.wrap
  simp only [IntKind.bits, IntKind.signed, Bool.false_and, Bool.false_eq_true, if_false]
  omega
section
variable {P : Program} {fr : Slots} {H : GHeap}
theorem MStep.shrU {t u : TypeId} {x y : Operand} {j : IntKind} {a : Int} (hx : ev fr x = some (.int .u64 a)) (hy : ev fr y = some (.int j 33)) : MStep P fr H (.binOp .shr t x y u) (.int .u64 (a.fdiv (2 ^ 33))) :=
  .intOp hx hy fun w => by
    show (Op.shift .shr .u64 a j 33).run P w = _
    unfold Op.shift
    rw [if_neg (by decide)]
    rfl
theorem MStep.andU {t u : TypeId} {x y : Operand} {a b : Int} (hx : ev fr x = some (.int .u64 a)) (hy : ev fr y = some (.int .u64 b)) : MStep P fr H (.binOp .and t x y u) (.int .u64 (Go.GL.andU a b)) :=
  .intOp hx hy fun w => rfl
end
theorem cell_same {H H' : GHeap} {b i : Nat} {v : Value} (h : H.cell b i = some v) (s : ∀ o, H.get b = some o → H'.get b = some o) : H'.cell b i = some v := by
  unfold GHeap.cell at h ⊢
  cases e : H.get b with
  | none => rw [e] at h; simp at h
  | some o => rw [s o e]; rw [e] at h; exact h
theorem Bytes.st {H H' : GHeap} {a : Option Addr} {xs : List Int} {bs : List Nat} (h : Bytes H a xs) (s : St bs H H') (ho : ∀ b o t, a = some ⟨b, o, t⟩ → out bs b) : Bytes H' a xs := by
  refine ⟨h.1.imp id fun ⟨g, off, ha, hc⟩ => ⟨g, off, ha, fun i hi => cell_same (hc i hi) fun o hg => s.same g o (ho _ _ _ ha) hg⟩, h.2⟩
def DSrc (T : TypeId) (H : GHeap) (g : Nat) : Prop :=
  ∃ (a : Option Addr) (xs : List Int) (p h : Int), H.get g = some (.row [.slice a xs.length xs.length, .int .i64 p, .int .u64 h] T true) ∧ (0 ≤ p ∧ p ≤ 4096) ∧ xs.length ≤ 4096 ∧ Bytes H a xs ∧ ∀ b o t, a = some ⟨b, o, t⟩ → b < g
theorem DSrc.le {T : TypeId} {H H' : GHeap} {g : Nat} (h : DSrc T H g) (s : H.Le H') : DSrc T H' g := by
  obtain ⟨a, xs, p, hh, h1, h2, h3, h4, h5⟩ := h
  exact ⟨a, xs, p, hh, s.2 _ _ h1, h2, h3, h4.mono s, h5⟩
theorem DSrc.st {T : TypeId} {H H' : GHeap} {g : Nat} {bs : List Nat} (h : DSrc T H g) (s : St bs H H') (f : ∀ k, k < g + 1 → out [] k → out bs k) : DSrc T H' g := by
  obtain ⟨a, xs, p, hh, h1, h2, h3, h4, h5⟩ := h
  exact ⟨a, xs, p, hh, s.same _ _ (f g (by omega) trivial) h1, h2, h3, h4.st s fun b o t ha => f b (by have := h5 b o t ha; omega) trivial, h5⟩
theorem DSrc.sA {T : TypeId} {H H' : GHeap} {g : Nat} {bs : List Nat} (h : DSrc T H g) (s : St bs H H') (f : ∀ k, k < g + 1 → out [] k → out bs k := by intro k hk ho; simp only [out, and_true] at ho ⊢ <;> first | exact ho | exact ho.1 | exact ho.2 | exact ho.2.1 | exact ho.2.2 | exact ho.2.2.1 | exact ho.2.2.2 | omega) : DSrc T H' g := h.st s f
theorem DSrc.sQ {T : TypeId} {H H' : GHeap} {g : Nat} {bs : List Nat} (h : DSrc T H g) (s : St bs H H') (f : ∀ k, k < g + 1 → out [] k → out bs k := by intro k hk ho; simp only [out, and_true] at ho ⊢ <;> first | exact ho | exact ho.1 | exact ho.2 | exact ho.2.1 | exact ho.2.2 | exact ho.2.2.1 | exact ho.2.2.2 | exact PL.ne (by assumption) (by first | exact ho | exact ho.1 | exact ho.2 | exact ho.2.1 | exact ho.2.2 | exact ho.2.2.1 | exact ho.2.2.2 | exact PL.ne (by assumption) (by first | exact ho | exact ho.1 | exact ho.2 | exact ho.2.1 | exact ho.2.2 | exact ho.2.2.1 | exact ho.2.2.2 | exact PL.ne (by assumption) (by first | exact ho | exact ho.1 | exact ho.2 | exact ho.2.1 | exact ho.2.2 | exact ho.2.2.1 | exact ho.2.2.2 | omega) (by omega) | omega) (by omega) | omega) (by omega) | omega) : DSrc T H' g := h.st s f
theorem DSrc.sP {T : TypeId} {H H' : GHeap} {g : Nat} {bs : List Nat} (h : DSrc T H g) (s : St bs H H') (f : ∀ k, k < g + 1 → out [] k → out bs k := by intro k hk ho; simp only [out, and_true] at ho ⊢ <;> first | exact ho | exact ho.1 | exact ho.2 | exact ho.2.1 | exact ho.2.2 | exact ho.2.2.1 | exact ho.2.2.2 | exact PL.ne (by assumption) (by first | exact ho | exact ho.1 | exact ho.2 | exact ho.2.1 | exact ho.2.2 | exact ho.2.2.1 | exact ho.2.2.2 | omega) (by omega) | omega) : DSrc T H' g := h.st s f
theorem DSrc.lt {T : TypeId} {H : GHeap} {g : Nat} (h : DSrc T H g) : g < H.next := by
  obtain ⟨a, xs, p, hh, h1, _⟩ := h
  exact GHeap.ltg h1
theorem tmod_bd {x n : Int} (h0 : 0 ≤ x) (hn : 1 ≤ n) : 0 ≤ x.tmod n ∧ x.tmod n < n := ⟨Int.tmod_nonneg n h0, Int.tmod_lt_of_pos x (by omega)⟩
def Drawn (T : TypeId) (g : Nat) (n : Int) (H : GHeap) (v : Value) (H' : GHeap) : Prop := ∃ k, v = .int .i64 k ∧ 0 ≤ k ∧ (1 ≤ n → k < n) ∧ (n < 1 → k = 0) ∧ St [g] H H' ∧ DSrc T H' g
end Go.GL
namespace Go.GL
theorem rng_snoc {f : Nat → Int} {i : Nat} : (List.range (i + 1)).map f = (List.range i).map f ++ [f i] := by rw [List.range_succ, List.map_append]; rfl
def Cat.opRow (c : Cat) (f g : Nat) : List Int := (List.range g).map fun g => (c.comp.getD g []).getD f 0
def Cat.opTab (c : Cat) (k : Nat) : List (List Int) := (List.range k).map fun f => c.opRow f c.src.length
def Cat.op (c : Cat) : Cat := ⟨c.obj, c.tgt, c.src, c.idn, c.opTab c.src.length⟩
@[simp] theorem Cat.length_opRow (c : Cat) (f g : Nat) : (c.opRow f g).length = g := by simp [opRow]
@[simp] theorem Cat.length_opTab (c : Cat) (k : Nat) : (c.opTab k).length = k := by simp [opTab]
theorem Cat.opRow_snoc {c : Cat} {f g : Nat} : c.opRow f (g + 1) = c.opRow f g ++ [(c.comp.getD g []).getD f 0] := rng_snoc
theorem Cat.opTab_snoc {c : Cat} {k : Nat} : c.opTab (k + 1) = c.opTab k ++ [c.opRow k c.src.length] := by unfold opTab; rw [List.range_succ, List.map_append]; rfl
theorem Cat.opTab_get {c : Cat} {k i : Nat} (h : i < k) : (c.opTab k).getD i [] = c.opRow i c.src.length := by unfold opTab; simp [List.getD_eq_getElem?_getD, h]
theorem Cat.opRow_get {c : Cat} {f g j : Nat} (h : j < g) : (c.opRow f g).getD j 0 = (c.comp.getD j []).getD f 0 := by unfold opRow; simp [List.getD_eq_getElem?_getD, h]
theorem Cat.Rect.op {c : Cat} {N : Nat} (h : c.Rect N) : c.op.Rect N := by
  obtain ⟨h1, h2, h3, h4, h5, h6, h7, h8, h9, h10⟩ := h
  refine ⟨h1, by simp only [Cat.op]; omega, by simp only [Cat.op]; omega, h5, h4, h6, h7, by simp [Cat.op]; omega, fun f hf => ?_, fun f hf g hg => ?_⟩
  · simp only [Cat.op, length_opTab] at hf ⊢
    rw [opTab_get hf, length_opRow]; omega
  · simp only [Cat.op, length_opTab] at hf hg ⊢
    rw [opTab_get hf, opRow_get (by omega)]
    exact h10 g (by omega) f hf
theorem Cat.Rect.mono {c : Cat} {N M : Nat} (h : c.Rect N) (hm : N ≤ M) : c.Rect M := by
  obtain ⟨h1, h2, h3, h4, h5, h6, h7, h8, h9, h10⟩ := h
  exact ⟨⟨h1.1, by omega⟩, by omega, h3, fun i hi => by have := h4 i hi; omega, fun i hi => by have := h5 i hi; omega, h6, fun i hi => by have := h7 i hi; omega, h8, h9, fun f hf g hg => by have := h10 f hf g hg; omega⟩
end Go.GL
namespace Go.GL
def Bd (lo hi : Int) (l : List Int) : Prop := ∀ i, i < l.length → lo ≤ l.getD i 0 ∧ l.getD i 0 ≤ hi
theorem Bd.nil (lo hi : Int) : Bd lo hi [] := fun i h => by simp at h
theorem Bd.snoc {lo hi x : Int} {l : List Int} (h : Bd lo hi l) (h1 : lo ≤ x) (h2 : x ≤ hi) : Bd lo hi (l ++ [x]) := fun i hi => by
  rw [List.length_append, List.length_singleton] at hi
  by_cases e : i = l.length
  · subst e
    simp only [List.getD_eq_getElem?_getD, List.getElem?_concat_length, Option.getD_some]
    omega
  · have : i < l.length := by omega
    have h3 := h i this
    simp only [List.getD_eq_getElem?_getD, List.getElem?_append_left this] at h3 ⊢
    exact h3
theorem Bd.mono {lo hi lo' hi' : Int} {l : List Int} (h : Bd lo hi l) (h1 : lo' ≤ lo) (h2 : hi ≤ hi') : Bd lo' hi' l := fun i hi => by have := h i hi; omega
theorem Bd.rep {lo hi x : Int} (n : Nat) (h1 : lo ≤ x) (h2 : x ≤ hi) : Bd lo hi (List.replicate n x) := fun i hi => by
  rw [List.length_replicate] at hi
  simp [List.getD_eq_getElem?_getD, hi, h1, h2]
def Tb (lo hi : Int) (w : Nat) (T : List (List Int)) : Prop := ∀ i, i < T.length → (T.getD i []).length = w ∧ Bd lo hi (T.getD i [])
theorem Tb.nil (lo hi : Int) (w : Nat) : Tb lo hi w [] := fun i h => by simp at h
theorem Tb.snoc {lo hi : Int} {w : Nat} {x : List Int} {l : List (List Int)} (h : Tb lo hi w l) (h1 : x.length = w) (h2 : Bd lo hi x) : Tb lo hi w (l ++ [x]) := fun i hi => by
  rw [List.length_append, List.length_singleton] at hi
  by_cases e : i = l.length
  · subst e
    simp only [List.getD_eq_getElem?_getD, List.getElem?_concat_length, Option.getD_some]
    exact ⟨h1, h2⟩
  · have : i < l.length := by omega
    have h3 := h i this
    simp only [List.getD_eq_getElem?_getD, List.getElem?_append_left this] at h3 ⊢
    exact h3
theorem Tb.mono {lo hi lo' hi' : Int} {w : Nat} {l : List (List Int)} (h : Tb lo hi w l) (h1 : lo' ≤ lo) (h2 : hi ≤ hi') : Tb lo' hi' w l := fun i hi => ⟨(h i hi).1, (h i hi).2.mono h1 h2⟩
theorem Tb.at {lo hi : Int} {w i j : Nat} {T : List (List Int)} (h : Tb lo hi w T) (h1 : i < T.length) (hj : j < w) : lo ≤ (T.getD i []).getD j 0 ∧ (T.getD i []).getD j 0 ≤ hi := (h i h1).2 j (by rw [(h i h1).1]; exact hj)
theorem rect_mk {n : Int} {N : Nat} {ss ts is : List Int} {cs : List (List Int)} (h0 : 0 ≤ n ∧ n ≤ N) (h1 : ss.length ≤ N) (h2 : ts.length = ss.length) (h3 : Bd 0 N ss) (h4 : Bd 0 N ts) (h5 : (is.length : Int) = n) (h6 : Bd 0 N is) (h7 : cs.length = ss.length) (h8 : Tb (-(N : Int) - 1) N ss.length cs) : Cat.Rect ⟨n, ss, ts, is, cs⟩ N :=
  ⟨h0, h1, h2, h3, h4, h5, h6, h7, fun f hf => (h8 f hf).1, fun f hf g hg => h8.at hf hg⟩
theorem bd_iff {lo hi : Int} {l : List Int} : Bd lo hi l ↔ ∀ x ∈ l, lo ≤ x ∧ x ≤ hi := by
  constructor
  · intro h x hx
    obtain ⟨i, h1, rfl⟩ := List.getElem_of_mem hx
    have := h i h1
    rwa [List.getD_eq_getElem?_getD, List.getElem?_eq_getElem h1] at this
  · intro h i hi
    rw [List.getD_eq_getElem?_getD, List.getElem?_eq_getElem hi]
    exact h _ (List.getElem_mem hi)
theorem tb_iff {lo hi : Int} {w : Nat} {T : List (List Int)} : Tb lo hi w T ↔ ∀ r ∈ T, r.length = w ∧ ∀ x ∈ r, lo ≤ x ∧ x ≤ hi := by
  constructor
  · intro h r hr
    obtain ⟨i, h1, rfl⟩ := List.getElem_of_mem hr
    have := h i h1
    rw [List.getD_eq_getElem?_getD, List.getElem?_eq_getElem h1] at this
    exact ⟨this.1, bd_iff.1 this.2⟩
  · intro h i hi
    rw [List.getD_eq_getElem?_getD, List.getElem?_eq_getElem hi]
    have := h _ (List.getElem_mem hi)
    exact ⟨this.1, bd_iff.2 this.2⟩
theorem Cat.Rect.sum {c d : Cat} {N M : Nat} (h : c.Rect N) (h' : d.Rect M) : (c.sum d).Rect (N + M) := by
  obtain ⟨a1, a2, a3, a4, a5, a6, a7, a8, a9, a10⟩ := h
  obtain ⟨b1, b2, b3, b4, b5, b6, b7, b8, b9, b10⟩ := h'
  have s1 := bd_iff.1 (show Bd 0 N c.src from a4)
  have s2 := bd_iff.1 (show Bd 0 N c.tgt from a5)
  have s3 := bd_iff.1 (show Bd 0 N c.idn from a7)
  have t1 := bd_iff.1 (show Bd 0 M d.src from b4)
  have t2 := bd_iff.1 (show Bd 0 M d.tgt from b5)
  have t3 := bd_iff.1 (show Bd 0 M d.idn from b7)
  have s4 := tb_iff.1 (show Tb (-(N : Int) - 1) N c.src.length c.comp from fun i hi => ⟨a9 i hi, fun j hj => a10 i hi j (by rw [← a9 i hi]; exact hj)⟩)
  have t4 := tb_iff.1 (show Tb (-(M : Int) - 1) M d.src.length d.comp from fun i hi => ⟨b9 i hi, fun j hj => b10 i hi j (by rw [← b9 i hi]; exact hj)⟩)
  refine rect_mk (by omega) (by simp [Cat.sum]; omega) (by simp [Cat.sum]; omega) (bd_iff.2 ?_) (bd_iff.2 ?_) (by simp [Cat.sum]; omega) (bd_iff.2 ?_) (by simp [Cat.sum, Cat.sumL]; omega) (tb_iff.2 ?_)
  · intro x hx
    simp only [Cat.sum, List.mem_append, List.mem_map] at hx
    rcases hx with h | ⟨y, h, rfl⟩
    · have := s1 x h; omega
    · have := t1 y h; omega
  · intro x hx
    simp only [Cat.sum, List.mem_append, List.mem_map] at hx
    rcases hx with h | ⟨y, h, rfl⟩
    · have := s2 x h; omega
    · have := t2 y h; omega
  · intro x hx
    simp only [Cat.sum, List.mem_append, List.mem_map] at hx
    rcases hx with h | ⟨y, h, rfl⟩
    · have := s3 x h; omega
    · have := t3 y h; omega
  · intro r hr
    simp only [Cat.sum, Cat.sumL, List.mem_append, List.mem_map] at hr
    rcases hr with ⟨y, h, rfl⟩ | ⟨y, h, rfl⟩
    · have := s4 y h
      refine ⟨by simp [Cat.sum]; omega, fun x hx => ?_⟩
      rcases List.mem_append.1 hx with h | h
      · have := this.2 x h; omega
      · have := (List.mem_replicate.1 h).2; omega
    · have := t4 y h
      refine ⟨by simp [Cat.sum, sumRow]; omega, fun x hx => ?_⟩
      rcases List.mem_append.1 hx with h | h
      · have := (List.mem_replicate.1 h).2; omega
      · obtain ⟨z, h1, rfl⟩ := List.mem_map.1 h
        have := this.2 z h1
        split <;> omega
end Go.GL
namespace Go.GL
def LitAt (b : Nat) (H : GHeap) (e : TypeId) : List Nat → List (List Int) → Prop
  | [], [] => True
  | g :: gs, x :: T => (b ≤ g ∧ H.get g = some (.row (ints x) e true)) ∧ LitAt b H e gs T
  | _, _ => False
theorem LitAt.get {b : Nat} {H : GHeap} {e : TypeId} : ∀ {gs : List Nat} {T : List (List Int)}, LitAt b H e gs T → gs.length = T.length ∧ ∀ i, i < T.length → b ≤ gs.getD i 0 ∧ H.get (gs.getD i 0) = some (.row (ints (T.getD i [])) e true)
  | [], [], _ => ⟨rfl, fun i h => by simp at h⟩
  | g :: gs, x :: T, h => by
    obtain ⟨h1, h2⟩ := h.2.get
    refine ⟨by simp [h1], fun i hi => ?_⟩
    cases i with
    | zero => exact h.1
    | succ i => exact h2 i (by simpa using hi)
  | [], _ :: _, h => h.elim
  | _ :: _, [], h => h.elim
theorem lit_own {b : Nat} {H : GHeap} {e : TypeId} {gs : List Nat} {T : List (List Int)} (h : LitAt b H e gs T) (hd : gs.Nodup) : OwnL b H e (fun i => some ⟨gs.getD i 0, 0, none⟩) T := by
  obtain ⟨h1, h2⟩ := h.get
  refine ⟨fun i hi => ⟨_, rfl, h2 i hi⟩, fun i j hi hj e => ?_⟩
  have e' : gs.getD i 0 = gs.getD j 0 := by simpa using e
  simp only [List.getD_eq_getElem?_getD, List.getElem?_eq_getElem (show i < gs.length by omega), List.getElem?_eq_getElem (show j < gs.length by omega), Option.getD_some] at e'
  exact (List.getElem_inj hd).1 e'
theorem row_nes {gs : List Nat} {g n : Nat} (h : g ∉ gs) (hn : n ≤ gs.length := by exact Nat.le_refl _) : ∀ i, i < n → (fun i => some (⟨gs.getD i 0, 0, none⟩ : Addr)) i ≠ some ⟨g, 0, none⟩ := fun i hi e => h (by
  have e' : gs.getD i 0 = g := by simpa using e
  rw [List.getD_eq_getElem?_getD, List.getElem?_eq_getElem (by omega)] at e'
  exact e' ▸ List.getElem_mem (by omega))
theorem OwnCat.low {eI eS : TypeId} {b b' : Nat} {H : GHeap} {c : Cat} {g1 g2 g3 g4 : Nat} {rr : Nat → Option Addr} (h : OwnCat eI eS b H c g1 g2 g3 g4 rr) (hb : b' ≤ b) : OwnCat eI eS b' H c g1 g2 g3 g4 rr :=
  ⟨h.a1, h.a2, h.a3, h.a4, Nat.le_trans hb h.b1, Nat.le_trans hb h.b2, Nat.le_trans hb h.b3, Nat.le_trans hb h.b4, h.n12, h.n13, h.n23, h.rows.low hb, h.r1, h.r2, h.r3⟩
theorem mul_bdg {a b A B : Int} (h : 0 ≤ a ∧ a ≤ A) (h' : 0 ≤ b ∧ b ≤ B) : 0 ≤ a * b ∧ a * b ≤ A * B := ⟨Int.mul_nonneg h.1 h'.1, Int.mul_le_mul h.2 h'.2 h'.1 (by omega)⟩
theorem mul_bd {a b : Int} (h : 0 ≤ a ∧ a ≤ 256) (h' : 0 ≤ b ∧ b ≤ 128) : 0 ≤ a * b ∧ a * b ≤ 32768 := ⟨Int.mul_nonneg h.1 h'.1, by have := Int.mul_le_mul h.2 h'.2 h'.1 (by omega : (0 : Int) ≤ 256); omega⟩
theorem mulN_bd {a b : Nat} (h : a ≤ 256) (h' : b ≤ 128) : a * b ≤ 32768 := Nat.mul_le_mul h h'
theorem sm (a m : Nat) : (a + 1) * m = a * m + m := Nat.succ_mul a m
theorem smz (x : Nat) (z : Int) : ((x + 1 : Nat) : Int) * z = x * z + z := by rw [Int.natCast_add, Int.add_mul]; simp
end Go.GL
namespace Go.GL
theorem slsL_lens {r : Nat → Option Addr} {X Y : List (List Int)} (hl : X.length = Y.length) (h : ∀ i, (X.getD i []).length = (Y.getD i []).length) : slsL r X = slsL r Y := by
  unfold slsL slsOf
  rw [hl]
  exact List.map_congr_left fun i _ => by rw [h i]
theorem getD_set_len {T : List (List Int)} {i : Nat} {ys : List Int} (h : ys.length = (T.getD i []).length) (j : Nat) : ((T.set i ys).getD j []).length = (T.getD j []).length := by
  rw [List.getD_eq_getElem?_getD, List.getElem?_set, List.getD_eq_getElem?_getD]
  by_cases e : i = j
  · subst e
    rw [if_pos rfl]
    split
    · simpa [List.getD_eq_getElem?_getD] using h
    · rw [List.getElem?_eq_none (by omega)]
  · rw [if_neg e]
theorem OwnL.setR {b gi i : Nat} {H H' : GHeap} {e : TypeId} {r : Nat → Option Addr} {xss : List (List Int)} {ys : List Int} (h : OwnL b H e r xss) (s : St [gi] H H') (hi : i < xss.length) (hr : r i = some ⟨gi, 0, none⟩) (hg : H'.get gi = some (.row (ints ys) e true)) : OwnL b H' e r (xss.set i ys) := by
  unfold OwnL
  rw [List.length_set]
  refine ⟨fun j hj => ?_, h.inj⟩
  obtain ⟨x, h1, h2, h3⟩ := h.row j hj
  rw [List.getD_eq_getElem?_getD, List.getElem?_set]
  by_cases ej : i = j
  · subst ej
    rw [hr] at h1; cases h1
    exact ⟨gi, hr, h2, by rw [if_pos rfl, if_pos hi]; exact hg⟩
  · refine ⟨x, h1, h2, ?_⟩
    rw [if_neg ej, ← List.getD_eq_getElem?_getD]
    exact s.same x _ ⟨fun ex => by
      subst ex
      exact ej (h.inj i j hi hj (by rw [hr, h1])), trivial⟩ h3
structure RelSt (TS eI eS : TypeId) (H H' : GHeap) (gS g5 n k : Nat) (rr : Nat → Option Addr) (T : List (List Int)) : Prop where
  st : St [gS] H H'
  a5 : H'.get g5 = some (.row (slsL rr T) eS true)
  b5 : H.next ≤ g5
  own : OwnL H.next H' eI rr T
  len : T.length = k
  row : ∀ i, i < T.length → (T.getD i []).length = n
  hs : DSrc TS H' gS
theorem RelSt.set1 {TS eI eS : TypeId} {H H1 H2 : GHeap} {gS g5 n k gi i : Nat} {rr : Nat → Option Addr} {T : List (List Int)} {ys : List Int} (h : RelSt TS eI eS H H1 gS g5 n k rr T) (hi : i < T.length) (hg : rr i = some ⟨gi, 0, none⟩) (hb : H.next ≤ gi) (s : St [gi] H1 H2) (hat : H2.get gi = some (.row (ints ys) eI true)) (hl : ys.length = n) (h5 : g5 ≠ gi) (hS : gS < H.next) : RelSt TS eI eS H H2 gS g5 n k rr (T.set i ys) := by
  have hl' : ys.length = (T.getD i []).length := by rw [hl, h.row i hi]
  refine ⟨h.st.st s (fun k hk ho => ⟨by omega, trivial⟩), ?_, h.b5, h.own.setR s hi hg hat, by rw [List.length_set]; exact h.len, fun j hj => ?_, h.hs.st s (fun k hk ho => ⟨by omega, trivial⟩)⟩
  · rw [slsL_lens (Y := T) (by simp) (getD_set_len hl')]
    exact s.same _ _ ⟨h5, trivial⟩ h.a5
  · rw [List.length_set] at hj
    rw [getD_set_len hl']
    exact h.row j hj
theorem rows_snoc {n : Nat} {T : List (List Int)} {x : List Int} (h : ∀ i, i < T.length → (T.getD i []).length = n) (hx : x.length = n) : ∀ i, i < (T ++ [x]).length → ((T ++ [x]).getD i []).length = n := fun i hi => by
  rw [List.length_append, List.length_singleton] at hi
  rw [getD_snoc]
  split
  · exact h i (by assumption)
  · rw [if_pos (by omega)]; exact hx
end Go.GL
namespace Go.GL
structure Pth where
  f : Int
  t : Int
  e : List Int
  g : Nat
def Pth.cs (p : Pth) : List Value := [.int .i64 p.f, .int .i64 p.t, .slice (some ⟨p.g, 0, none⟩) p.e.length p.e.length]
def pz : Pth := ⟨0, 0, [], 0⟩
def pcells (ps : List Pth) : List Value := ps.flatMap Pth.cs
theorem pcells_append (l r : List Pth) : pcells (l ++ r) = pcells l ++ pcells r := by simp [pcells]
theorem pcells_snoc (ps : List Pth) (p : Pth) : pcells (ps ++ [p]) = pcells ps ++ p.cs := by simp [pcells]
theorem pcells_len (ps : List Pth) : (pcells ps).length = ps.length * 3 := by
  induction ps with
  | nil => rfl
  | cons x r ih =>
    unfold pcells at ih ⊢
    simp only [List.flatMap_cons, List.length_append, Pth.cs, List.length_cons, List.length_nil] at ih ⊢
    omega
theorem split_at {ps : List Pth} {i : Nat} (hi : i < ps.length) : ∃ l r, ps = l ++ (ps.getD i pz :: r) ∧ l.length = i := by
  refine ⟨ps.take i, ps.drop (i + 1), ?_, by simp; omega⟩
  rw [List.getD_eq_getElem?_getD, List.getElem?_eq_getElem hi, Option.getD_some, ← List.drop_eq_getElem_cons hi, List.take_append_drop]
theorem pcells_get {ps : List Pth} {i j : Nat} (hi : i < ps.length) (hj : j < 3) : (pcells ps)[i * 3 + j]? = (ps.getD i pz).cs[j]? := by
  obtain ⟨l, r, e, hl⟩ := split_at hi
  have h1 := pcells_len l
  have h2 : pcells (ps.getD i pz :: r) = (ps.getD i pz).cs ++ pcells r := by simp [pcells]
  have h3 : (ps.getD i pz).cs.length = 3 := rfl
  conv => lhs; rw [e]
  rw [pcells_append, h2, List.getElem?_append_right (by omega), show i * 3 + j - (pcells l).length = j by omega, List.getElem?_append_left (by omega)]
theorem pcells_slA {H : GHeap} {g : Nat} {e : TypeId} {own : Bool} {ps : List Pth} (hg : H.get g = some (.row (pcells ps) e own)) : SlA H (some ⟨g, 0, none⟩) (ps.length * 3) (fun i => (pcells ps).getD i undef) :=
  .inr ⟨g, 0, rfl, fun i hi => by
    rw [GHeap.cell_of hg, Nat.zero_add]
    show _ = some ((pcells ps).getD i undef)
    rw [List.getD_eq_getElem?_getD, List.getElem?_eq_getElem (by rw [pcells_len]; exact hi)]; rfl⟩
theorem pcells_mem {H : GHeap} {g : Nat} {e : TypeId} {own : Bool} {ps : List Pth} (hg : H.get g = some (.row (pcells ps) e own)) {i : Nat} (hi : i < ps.length) : MemN H g (0 + (i : Int).toNat * 3) 3 (ps.getD i pz).cs := by
  refine ⟨rfl, fun j v hv => ?_⟩
  have hj : j < 3 := by
    have := (List.getElem?_eq_some_iff.1 hv).1
    exact this
  rw [GHeap.cell_of hg, Int.toNat_natCast, Nat.zero_add, pcells_get hi hj]
  exact hv
theorem pcells_set {ps : List Pth} {i : Nat} (q : Pth) (hi : i < ps.length) : setAll (pcells ps) (i * 3) q.cs = pcells (ps.set i q) := by
  obtain ⟨l, r, e, hl⟩ := split_at hi
  have h1 := pcells_len l
  have h2 : pcells ps = pcells l ++ ((ps.getD i pz).cs ++ pcells r) := by
    conv => lhs; rw [e]
    rw [pcells_append]
    simp [pcells]
  have h3 : ps.set i q = l ++ q :: r := by
    conv => lhs; rw [e]
    rw [← hl, List.set_append_right _ _ (Nat.le_refl _)]
    simp
  rw [h2, h3, show i * 3 = (pcells l).length by omega, setAll_gen q.cs (pcells l) (ps.getD i pz).cs (pcells r) rfl, pcells_append]
  simp [pcells]
def PthOk (b : Nat) (eI : TypeId) (N : Int) (H : GHeap) (ps : List Pth) : Prop := ∀ p ∈ ps, (0 ≤ p.f ∧ p.f ≤ N) ∧ (0 ≤ p.t ∧ p.t ≤ N) ∧ p.e.length ≤ ps.length ∧ b ≤ p.g ∧ H.get p.g = some (.row (ints p.e) eI true)
theorem PthOk.nil (b : Nat) (eI : TypeId) (N : Int) (H : GHeap) : PthOk b eI N H [] := fun p hp => by simp at hp
theorem PthOk.keep {b : Nat} {eI : TypeId} {N : Int} {H H' : GHeap} {ps : List Pth} (h : PthOk b eI N H ps) (s : Lasts eI H H') : PthOk b eI N H' ps := fun p hp => by
  obtain ⟨h1, h2, h3, h4, h5⟩ := h p hp
  exact ⟨h1, h2, h3, h4, s _ _ h5⟩
theorem PthOk.at {b : Nat} {eI : TypeId} {N : Int} {H : GHeap} {ps : List Pth} (h : PthOk b eI N H ps) {i : Nat} (hi : i < ps.length) : (0 ≤ (ps.getD i pz).f ∧ (ps.getD i pz).f ≤ N) ∧ (0 ≤ (ps.getD i pz).t ∧ (ps.getD i pz).t ≤ N) ∧ (ps.getD i pz).e.length ≤ ps.length ∧ b ≤ (ps.getD i pz).g ∧ H.get (ps.getD i pz).g = some (.row (ints (ps.getD i pz).e) eI true) :=
  h _ (by rw [List.getD_eq_getElem?_getD, List.getElem?_eq_getElem hi]; exact List.getElem_mem hi)
theorem PthOk.snoc {b : Nat} {eI : TypeId} {N : Int} {H : GHeap} {ps : List Pth} (h : PthOk b eI N H ps) {p : Pth} (h1 : 0 ≤ p.f ∧ p.f ≤ N) (h2 : 0 ≤ p.t ∧ p.t ≤ N) (h3 : p.e.length ≤ ps.length + 1) (h4 : b ≤ p.g) (h5 : H.get p.g = some (.row (ints p.e) eI true)) : PthOk b eI N H (ps ++ [p]) := fun q hq => by
  rw [List.length_append, List.length_singleton]
  rcases List.mem_append.1 hq with hq | hq
  · obtain ⟨a1, a2, a3, a4, a5⟩ := h q hq
    exact ⟨a1, a2, by omega, a4, a5⟩
  · obtain rfl := List.mem_singleton.1 hq
    exact ⟨h1, h2, h3, h4, h5⟩
theorem PthOk.set {b : Nat} {eI : TypeId} {N : Int} {H : GHeap} {ps : List Pth} (h : PthOk b eI N H ps) {i j : Nat} (hj : j < ps.length) : PthOk b eI N H (ps.set i (ps.getD j pz)) := fun q hq => by
  rw [List.length_set]
  rcases List.mem_or_eq_of_mem_set hq with hq | rfl
  · exact h q hq
  · exact h.at hj
def pw (t : Int) : Nat := if t ≤ 0 then 13 else if t ≤ 1 then 4 else 1
def pws (ps : List Pth) : Nat := (ps.map fun p => pw p.t).sum
def pwn (x : Nat) : Nat := if x = 0 then 0 else if x = 1 then 13 else if x = 2 then 17 else 18
theorem pw_pos (t : Int) : 1 ≤ pw t := by
  unfold pw
  repeat' split
  all_goals omega
theorem pw_up {t u : Int} (h0 : 0 ≤ t) (h : t < u) (h2 : u ≤ 2) : 3 * pw u + 1 ≤ pw t := by
  unfold pw
  rw [if_neg (show ¬ u ≤ 0 by omega)]
  by_cases e : t ≤ 0
  · rw [if_pos e]
    split <;> omega
  · rw [if_neg e, if_pos (show t ≤ 1 by omega), if_neg (show ¬ u ≤ 1 by omega)]
    omega
theorem pwn_succ {x : Nat} (h : x ≤ 2) : pwn x + pw (x : Int) = pwn (x + 1) := by
  have : x = 0 ∨ x = 1 ∨ x = 2 := by omega
  rcases this with rfl | rfl | rfl <;> rfl
theorem pwn_le (x : Nat) : pwn x ≤ 18 := by
  unfold pwn
  repeat' split
  all_goals omega
theorem pws_snoc (ps : List Pth) (p : Pth) : pws (ps ++ [p]) = pws ps + pw p.t := by simp [pws]
theorem pws_ge (ps : List Pth) : ps.length ≤ pws ps := by
  induction ps with
  | nil => exact Nat.le_refl _
  | cons p r ih =>
    have := pw_pos p.t
    simp only [pws, List.map_cons, List.sum_cons, List.length_cons] at ih ⊢
    omega
theorem pws_drop {ps : List Pth} {k : Nat} (h : k < ps.length) : pws (ps.drop k) = pw (ps.getD k pz).t + pws (ps.drop (k + 1)) := by
  rw [List.drop_eq_getElem_cons h, List.getD_eq_getElem?_getD, List.getElem?_eq_getElem h]
  rfl
theorem pws_drop_snoc {ps : List Pth} {p : Pth} {k : Nat} (h : k ≤ ps.length) : pws ((ps ++ [p]).drop k) = pws (ps.drop k) + pw p.t := by
  rw [List.drop_append_of_le_length h, pws_snoc]
theorem pws_len {ps : List Pth} {k : Nat} (h : k ≤ ps.length) (h' : k + pws (ps.drop k) ≤ 18) : ps.length ≤ 18 := by
  have := pws_ge (ps.drop k)
  rw [List.length_drop] at this
  omega
end Go.GL
namespace Go.GL
structure PthK (b : Nat) (eI : TypeId) (N : Int) (H : GHeap) (ps : List Pth) : Prop where
  ok : PthOk b eI N H ps
theorem PthK.keep {b b' : Nat} {eI : TypeId} {N : Int} {H H' : GHeap} {ps : List Pth} (h : PthK b eI N H ps) (k : Keep b' H H') (hb : b' ≤ b) : PthK b eI N H' ps := ⟨fun p hp => by
  obtain ⟨h1, h2, h3, h4, h5⟩ := h.ok p hp
  exact ⟨h1, h2, h3, h4, k _ _ (Nat.le_trans hb h4) h5⟩⟩
theorem up_snoc {xs ys : List Int} {x y : Int} (hl : ys.length = xs.length) (h : ∀ e, e < xs.length → xs.getD e 0 < ys.getD e 0) (hxy : x < y) : ∀ e, e < (xs ++ [x]).length → (xs ++ [x]).getD e 0 < (ys ++ [y]).getD e 0 := fun e he => by
  rw [List.length_append, List.length_singleton] at he
  rw [getD_snoc, getD_snoc]
  by_cases e1 : e < xs.length
  · rw [if_pos e1, if_pos (by omega)]; exact h e e1
  · rw [if_neg e1, if_pos (by omega), if_neg (by omega), if_pos (by omega)]; exact hxy
theorem Keep.mono {b b' : Nat} {H H' : GHeap} (k : Keep b' H H') (h : b' ≤ b) : Keep b H H' := fun g o hb hg => k g o (Nat.le_trans h hb) hg
theorem Keep.trans {b : Nat} {A B C : GHeap} (k : Keep b A B) (k' : Keep b B C) : Keep b A C := fun g o hb hg => k' g o hb (k g o hb hg)
structure KIn (b : Nat) (H : GHeap) (c : Cat) (p : CatP) : Prop where
  all : ∀ H', Keep b H H' → c.In H' p
theorem KIn.keep {b b' : Nat} {H H1 : GHeap} {c : Cat} {p : CatP} (h : KIn b H c p) (k : Keep b' H H1) (hb : b' ≤ b) : KIn b' H1 c p := ⟨fun H' k' => h.all H' ((k.trans k').mono hb)⟩
theorem KIn.parts {eI eS : TypeId} {b : Nat} {H : GHeap} {c : Cat} {g1 g2 g3 g4 : Nat} {rr : Nat → Option Addr} (a1 : H.get g1 = some (.row (ints c.src) eI true)) (b1 : b ≤ g1) (a2 : H.get g2 = some (.row (ints c.tgt) eI true)) (b2 : b ≤ g2) (a3 : H.get g3 = some (.row (ints c.idn) eI true)) (b3 : b ≤ g3) (a4 : H.get g4 = some (.row (slsL rr c.comp) eS true)) (b4 : b ≤ g4)
    (hr : ∀ i, i < c.comp.length → ∀ H', Keep b H H' → Ints H' (rr i) (c.comp.getD i [])) : KIn b H c (ownP g1 g2 g3 g4 rr) :=
  ⟨fun H' k => ⟨Ints.of_get (k _ _ b1 a1), Ints.of_get (k _ _ b2 a2), Ints.of_get (k _ _ b3 a3), .inr ⟨g4, 0, rfl, fun i hi => slsL_cell (k _ _ b4 a4) hi⟩, fun i hi => hr i hi H' k⟩⟩
theorem KIn.own {eI eS : TypeId} {b : Nat} {H : GHeap} {c : Cat} {g1 g2 g3 g4 : Nat} {rr : Nat → Option Addr} (a1 : H.get g1 = some (.row (ints c.src) eI true)) (b1 : b ≤ g1) (a2 : H.get g2 = some (.row (ints c.tgt) eI true)) (b2 : b ≤ g2) (a3 : H.get g3 = some (.row (ints c.idn) eI true)) (b3 : b ≤ g3) (a4 : H.get g4 = some (.row (slsL rr c.comp) eS true)) (b4 : b ≤ g4) (hR : OwnL b H eI rr c.comp) : KIn b H c (ownP g1 g2 g3 g4 rr) :=
  .parts a1 b1 a2 b2 a3 b3 a4 b4 fun i hi H' k => by
    obtain ⟨x, h1, h2, h3⟩ := hR.row i hi
    rw [h1]
    exact Ints.of_get (k _ _ h2 h3)
def DrawnK (TS : TypeId) (gS : Nat) (H : GHeap) (v : Value) (H' : GHeap) : Prop := ∃ c p, v = .agg (c.cells p).toArray ∧ c.Small ∧ KIn H.next H' c p ∧ St [gS] H H' ∧ DSrc TS H' gS
theorem getD_set_le {T : List (List Int)} {i N : Nat} {ys : List Int} (h : ∀ j, (T.getD j []).length ≤ N) (hy : ys.length ≤ N) (j : Nat) : ((T.set i ys).getD j []).length ≤ N := by
  rw [List.getD_eq_getElem?_getD, List.getElem?_set]
  by_cases e : i = j
  · subst e
    rw [if_pos rfl]
    split
    · exact hy
    · exact Nat.zero_le _
  · rw [if_neg e, ← List.getD_eq_getElem?_getD]
    exact h j
theorem Ints.tail {H : GHeap} {g : Nat} {xs : List Int} {e : TypeId} {own : Bool} (h : H.get g = some (.row (ints xs) e own)) : Ints H (some ⟨g, 1, none⟩) xs.tail := .inr ⟨g, 1, rfl, fun i hi => by
  rw [List.length_tail] at hi
  rw [GHeap.cell_of h, ints_get (by omega)]
  simp only [List.getD_eq_getElem?_getD, List.getElem?_tail, Nat.add_comm]⟩
theorem bend_set {eI : TypeId} {b gi f : Nat} {H H1 : GHeap} {T : List (List Int)} {rr : Nat → Option Addr} {ys : List Int} (hR : OwnL b H eI rr T) (s : St [gi] H H1) (hf : f < T.length) (hg : rr f = some ⟨gi, 0, none⟩) (hat : H1.get gi = some (.row (ints ys) eI true)) (hl : ys.length = (T.getD f []).length) :
    ∃ T', slsL rr T' = slsL rr T ∧ T'.length = T.length ∧ (∀ j, (T'.getD j []).length = (T.getD j []).length) ∧ OwnL b H1 eI rr T' :=
  ⟨T.set f ys, slsL_lens (by simp) (getD_set_len hl), by simp, getD_set_len hl, hR.setR s hf hg hat⟩
theorem bend_cut {eI : TypeId} {b gi f : Nat} {H : GHeap} {T : List (List Int)} {rr : Nat → Option Addr} (hR : OwnL b H eI rr T) (hf : f < T.length) (hg : rr f = some ⟨gi, 0, none⟩) {n : Nat} (hn : n = (T.getD f []).length - 1) :
    ∃ rr' T', (slsL rr T).set f (.slice (some ⟨gi, 1, none⟩) n n) = slsL rr' T' ∧ T'.length = T.length ∧ (∀ N, (∀ j, (T.getD j []).length ≤ N) → ∀ j, (T'.getD j []).length ≤ N) ∧ ∀ i, i < T'.length → ∀ H', Keep b H H' → Ints H' (rr' i) (T'.getD i []) := by
  refine ⟨upd rr f (some ⟨gi, 1, none⟩), T.set f (T.getD f []).tail, slsL_set hf (by rw [hn, List.length_tail]), by simp, fun N h => getD_set_le h (by rw [List.length_tail]; have := h f; omega), fun i hi H' k => ?_⟩
  rw [List.length_set] at hi
  obtain ⟨x, h1, h2, h3⟩ := hR.row i hi
  rw [getD_set2 hf]
  by_cases e : f = i
  · subst e
    rw [hg] at h1
    cases h1
    rw [upd_eq, if_pos rfl]
    exact Ints.tail (k _ _ h2 h3)
  · rw [upd_ne (Ne.symm e), if_neg e, h1]
    exact Ints.of_get (k _ _ h2 h3)
theorem vrel_place {ρ : Place} {a : Addr} {n : Nat} {c : Value} (h : VRel ρ (.slice (some a) n n) c) : ∃ s, ρ a.block = some s := by
  generalize hv : Value.slice (some a) n n = v at h
  cases h with
  | slice h' _ _ _ => cases hv; exact ⟨_, h'⟩
  | empty h' => cases hv; exact ⟨_, h'⟩
  | _ => cases hv
theorem imp1_code {P : Program} {t : TypeId} (ht : bytesDT P t = true) : Imp1 P t (fun H g => ∃ a xs, g = .slice a xs.length xs.length ∧ Bytes H a xs ∧ xs.length ≤ 9223372036854775807 ∧ ∀ b o t, a = some ⟨b, o, t⟩ → b < H.next) where
  mono h := fun ⟨a, xs, h1, h2, h3, h4⟩ => ⟨a, xs, h1, h2.mono h, h3, fun b o t e => Nat.lt_of_lt_of_le (h4 b o t e) h.1⟩
  imp := by
    intro T enc B w0 ρ H w held base fuel v x hs hB h hv
    obtain ⟨ρ', H', g, h1, h2, h3, h4, a, xs, rfl, h5, h6⟩ := (imp1_bytes ht).imp hs hB h hv
    refine ⟨ρ', H', _, h1, h2, h3, h4, a, xs, rfl, h5, h6, fun b o t e => ?_⟩
    subst e
    refine Nat.lt_of_not_le fun hb => ?_
    obtain ⟨s, hs'⟩ := vrel_place h4
    rw [h1.dom b hb] at hs'
    cases hs'
end Go.GL
namespace Go.GL
def CellV (ss ts : List Int) (f g : Nat) (h : Int) : Prop :=
  (ts.getD f 0 = ss.getD g 0 → 0 ≤ h ∧ h < ss.length ∧ ss.getD h.toNat 0 = ss.getD f 0 ∧ ts.getD h.toNat 0 = ts.getD g 0) ∧ (¬ ts.getD f 0 = ss.getD g 0 → h = -1)
theorem CellV.pos {ss ts : List Int} {f g : Nat} {h : Int} (e : ts.getD f 0 = ss.getD g 0) (h1 : 0 ≤ h ∧ h < ss.length) (h2 : ss.getD h.toNat 0 = ss.getD f 0) (h3 : ts.getD h.toNat 0 = ts.getD g 0) : CellV ss ts f g h := ⟨fun _ => ⟨h1.1, h1.2, h2, h3⟩, fun n => absurd e n⟩
theorem CellV.neg {ss ts : List Int} {f g : Nat} {h : Int} (e : ¬ ts.getD f 0 = ss.getD g 0) (h1 : h = -1) : CellV ss ts f g h := ⟨fun n => absurd n e, fun _ => h1⟩
def CellsR (ss ts : List Int) (f : Nat) (row : List Int) : Prop := ∀ g, g < row.length → CellV ss ts f g (row.getD g 0)
theorem CellsR.nil (ss ts : List Int) (f : Nat) : CellsR ss ts f [] := fun g h => by simp at h
theorem CellsR.snoc {ss ts row : List Int} {f : Nat} {x : Int} (h : CellsR ss ts f row) (hx : CellV ss ts f row.length x) : CellsR ss ts f (row ++ [x]) := fun g hg => by
  rw [List.length_append, List.length_singleton] at hg
  rw [getD_snoc]
  by_cases e : g < row.length
  · rw [if_pos e]; exact h g e
  · obtain rfl : g = row.length := by omega
    rw [if_neg e, if_pos rfl]; exact hx
def CellsT (ss ts : List Int) (cs : List (List Int)) : Prop := ∀ f, f < cs.length → CellsR ss ts f (cs.getD f [])
theorem CellsT.nil (ss ts : List Int) : CellsT ss ts [] := fun f h => by simp at h
theorem CellsT.snoc {ss ts row : List Int} {cs : List (List Int)} (h : CellsT ss ts cs) (hx : CellsR ss ts cs.length row) : CellsT ss ts (cs ++ [row]) := fun f hf => by
  rw [List.length_append, List.length_singleton] at hf
  rw [getD_snoc]
  by_cases e : f < cs.length
  · rw [if_pos e]; exact h f e
  · obtain rfl : f = cs.length := by omega
    rw [if_neg e, if_pos rfl]; exact hx
def IdsL (ss ts is : List Int) : Prop := ∀ x, x < is.length → (0 ≤ is.getD x 0 ∧ is.getD x 0 < ss.length) ∧ ss.getD (is.getD x 0).toNat 0 = x ∧ ts.getD (is.getD x 0).toNat 0 = x
theorem IdsL.nil (ss ts : List Int) : IdsL ss ts [] := fun x h => by simp at h
theorem IdsL.snoc {ss ts is : List Int} {k : Int} (h : IdsL ss ts is) (h1 : 0 ≤ k ∧ k < ss.length) (h2 : ss.getD k.toNat 0 = is.length) (h3 : ts.getD k.toNat 0 = is.length) : IdsL ss ts (is ++ [k]) := fun x hx => by
  rw [List.length_append, List.length_singleton] at hx
  rw [getD_snoc]
  by_cases e : x < is.length
  · rw [if_pos e]; exact h x e
  · obtain rfl : x = is.length := by omega
    rw [if_neg e, if_pos rfl]; exact ⟨h1, h2, h3⟩
structure Cat.Shp (c : Cat) : Prop where
  tl : c.tgt.length = c.src.length
  src : Bd 0 (c.obj - 1) c.src
  tgt : Bd 0 (c.obj - 1) c.tgt
  il : (c.idn.length : Int) = c.obj
  ids : IdsL c.src c.tgt c.idn
  cl : c.comp.length = c.src.length
  row : ∀ f, f < c.src.length → (c.comp.getD f []).length = c.src.length
  cell : ∀ f, f < c.src.length → ∀ g, g < c.src.length → CellV c.src c.tgt f g ((c.comp.getD f []).getD g 0)
theorem Cat.Shp.mk' {n : Int} {ss ts is : List Int} {cs : List (List Int)} (h1 : ts.length = ss.length) (h2 : Bd 0 (n - 1) ss) (h3 : Bd 0 (n - 1) ts) (h4 : (is.length : Int) = n) (h5 : IdsL ss ts is) (h6 : cs.length = ss.length) (h7 : ∀ f, f < cs.length → (cs.getD f []).length = ss.length) (h8 : CellsT ss ts cs) : (Cat.mk n ss ts is cs).Shp :=
  ⟨h1, h2, h3, h4, h5, h6, fun f hf => h7 f (by rw [h6]; exact hf), fun f hf g hg => h8 f (by rw [h6]; exact hf) g (by rw [h7 f (by rw [h6]; exact hf)]; exact hg)⟩
structure Cat.Good (c : Cat) (N : Nat) : Prop where
  r : c.Rect N
  s : c.Shp
theorem Cat.Good.mono {c : Cat} {N M : Nat} (h : c.Good N) (hm : N ≤ M) : c.Good M := ⟨h.r.mono hm, h.s⟩
theorem Cat.Good.small {c : Cat} {N : Nat} (h : c.Good N) (hN : N ≤ 1048576) : c.Small := h.r.small hN
theorem Cat.Shp.op {c : Cat} (h : c.Shp) : c.op.Shp := by
  obtain ⟨h1, h2, h3, h4, h5, h6, h7, h8⟩ := h
  refine ⟨h1.symm, h3, h2, h4, fun x hx => ?_, by simp only [Cat.op, Cat.length_opTab]; omega, fun f hf => ?_, fun f hf g hg => ?_⟩
  · have := h5 x hx
    exact ⟨⟨this.1.1, by show c.idn.getD x 0 < (c.tgt.length : Int); have := this.1.2; omega⟩, this.2.2, this.2.1⟩
  · have hf' : f < c.tgt.length := hf
    simp only [Cat.op]
    rw [Cat.opTab_get (by omega), Cat.length_opRow]
    omega
  · have hf' : f < c.tgt.length := hf
    have hg' : g < c.tgt.length := hg
    simp only [Cat.op]
    rw [Cat.opTab_get (by omega), Cat.opRow_get (by omega)]
    have hc := h8 g (by omega) f (by omega)
    exact ⟨fun e => by have := hc.1 e.symm; exact ⟨this.1, by omega, this.2.2.2, this.2.2.1⟩, fun e => hc.2 fun e' => e e'.symm⟩
theorem Cat.Good.op {c : Cat} {N : Nat} (h : c.Good N) : c.op.Good N := ⟨h.r.op, h.s.op⟩
theorem sum_S1 {c d : Cat} {i : Nat} (h : i < c.src.length) : (c.sum d).src.getD i 0 = c.src.getD i 0 := getD_append_l h
theorem sum_S2 {c d : Cat} {i : Nat} (h : i < d.src.length) : (c.sum d).src.getD (c.src.length + i) 0 = d.src.getD i 0 + c.obj := by
  show (c.src ++ d.src.map (· + c.obj)).getD _ 0 = _
  rw [getD_append_r (by omega), Nat.add_sub_cancel_left, getD_map (d := 0) h]
theorem sum_T1 {c d : Cat} {i : Nat} (h : i < c.tgt.length) : (c.sum d).tgt.getD i 0 = c.tgt.getD i 0 := getD_append_l h
theorem sum_T2 {c d : Cat} {i : Nat} (hl : c.tgt.length = c.src.length) (h : i < d.tgt.length) : (c.sum d).tgt.getD (c.src.length + i) 0 = d.tgt.getD i 0 + c.obj := by
  show (c.tgt ++ d.tgt.map (· + c.obj)).getD _ 0 = _
  rw [getD_append_r (by omega), show c.src.length + i - c.tgt.length = i by omega, getD_map (d := 0) h]
theorem sum_len {c d : Cat} : (c.sum d).src.length = c.src.length + d.src.length := by simp [Cat.sum]
theorem sum_lenT {c d : Cat} : (c.sum d).tgt.length = c.tgt.length + d.tgt.length := by simp [Cat.sum]
theorem parts2 {P : Nat → Prop} {m n : Nat} (h1 : ∀ i, i < m → P i) (h2 : ∀ i, i < n → P (m + i)) : ∀ i, i < m + n → P i := fun i hi => by
  by_cases e : i < m
  · exact h1 i e
  · have := h2 (i - m) (by omega)
    rwa [show m + (i - m) = i by omega] at this
theorem Cat.Shp.sum {c d : Cat} (h : c.Shp) (h' : d.Shp) : (c.sum d).Shp := by
  obtain ⟨a1, a2, a3, a4, a5, a6, a7, a8⟩ := h
  obtain ⟨b1, b2, b3, b4, b5, b6, b7, b8⟩ := h'
  have row1 : ∀ f, f < c.src.length → (c.sum d).comp.getD f [] = c.comp.getD f [] ++ List.replicate d.src.length (-1) := fun f hf => by
    show (c.sumL d ++ d.comp.map (sumRow c.src.length)).getD f [] = _
    rw [getD_append_l (by simp [Cat.sumL]; omega)]
    unfold Cat.sumL
    rw [getD_map (d := []) (by omega)]
  have row2 : ∀ f, f < d.src.length → (c.sum d).comp.getD (c.src.length + f) [] = sumRow c.src.length (d.comp.getD f []) := fun f hf => by
    show (c.sumL d ++ d.comp.map (sumRow c.src.length)).getD _ [] = _
    have hl : (c.sumL d).length = c.src.length := by simp [Cat.sumL]; omega
    rw [getD_append_r (by omega), hl, Nat.add_sub_cancel_left, getD_map (d := []) (by omega)]
  refine ⟨by rw [sum_len, sum_lenT]; omega, ?_, ?_, by simp [Cat.sum]; omega, ?_, by simp [Cat.sum, Cat.sumL]; omega, ?_, ?_⟩
  · show ∀ i, _ → _
    rw [sum_len]
    show ∀ i, _ → 0 ≤ _ ∧ _ ≤ c.obj + d.obj - 1
    refine parts2 (fun i hi => ?_) fun i hi => ?_
    · rw [sum_S1 hi]; have := a2 i hi; omega
    · rw [sum_S2 hi]; have := b2 i hi; omega
  · show ∀ i, _ → _
    rw [sum_lenT, a1, b1]
    show ∀ i, _ → 0 ≤ _ ∧ _ ≤ c.obj + d.obj - 1
    refine parts2 (fun i hi => ?_) fun i hi => ?_
    · rw [sum_T1 (by omega)]; have := a3 i (by omega); omega
    · rw [sum_T2 a1 (by omega)]; have := b3 i (by omega); omega
  · show ∀ i, i < (c.idn ++ d.idn.map (· + (c.src.length : Int))).length → _
    rw [List.length_append, List.length_map]
    refine parts2 (fun i hi => ?_) fun i hi => ?_
    · have h0 : (c.sum d).idn.getD i 0 = c.idn.getD i 0 := getD_append_l hi
      have h1 := a5 i hi
      rw [h0, sum_S1 (by omega), sum_T1 (by omega), sum_len]
      exact ⟨by omega, h1.2⟩
    · have h0 : (c.sum d).idn.getD (c.idn.length + i) 0 = d.idn.getD i 0 + c.src.length := by
        show (c.idn ++ d.idn.map (· + (c.src.length : Int))).getD _ 0 = _
        rw [getD_append_r (by omega), Nat.add_sub_cancel_left, getD_map (d := 0) hi]
      have h1 := b5 i hi
      rw [h0, show (d.idn.getD i 0 + (c.src.length : Int)).toNat = c.src.length + (d.idn.getD i 0).toNat by omega, sum_S2 (by omega), sum_T2 a1 (by omega), sum_len, h1.2.1, h1.2.2]
      omega
  · rw [sum_len]
    refine parts2 (fun f hf => ?_) fun f hf => ?_
    · rw [row1 f hf, List.length_append, List.length_replicate, a7 f hf]
    · rw [row2 f hf, length_sumRow, b7 f hf]
  · rw [sum_len]
    have far : ∀ i j : Nat, i < c.src.length → j < d.src.length → (¬ c.tgt.getD i 0 = d.src.getD j 0 + c.obj) ∧ ¬ d.tgt.getD j 0 + c.obj = c.src.getD i 0 := fun i j hi hj => by
      have x1 := a2 i hi
      have x2 := a3 i (by omega)
      have x3 := b2 j hj
      have x4 := b3 j (by omega)
      omega
    refine parts2 (fun f hf => ?_) fun f hf => ?_
    · rw [row1 f hf]
      refine parts2 (fun g hg => ?_) fun g hg => ?_
      · rw [getD_append_l (by rw [a7 f hf]; exact hg)]
        have hc := a8 f hf g hg
        unfold CellV
        rw [sum_T1 (i := f) (by omega), sum_S1 hg, sum_S1 hf, sum_T1 (i := g) (by omega), sum_len]
        refine ⟨fun e => ?_, hc.2⟩
        obtain ⟨w1, w2, w3, w4⟩ := hc.1 e
        rw [sum_S1 (by omega), sum_T1 (by omega)]
        exact ⟨w1, by omega, w3, w4⟩
      · rw [getD_append_r (by rw [a7 f hf]; omega), a7 f hf, Nat.add_sub_cancel_left]
        refine .neg ?_ (by simp [List.getD_eq_getElem?_getD, hg])
        rw [sum_T1 (by omega), sum_S2 hg]
        exact (far f g hf hg).1
    · rw [row2 f hf]
      refine parts2 (fun g hg => ?_) fun g hg => ?_
      · unfold sumRow
        rw [getD_append_l (by simpa using hg)]
        refine .neg ?_ (by simp [List.getD_eq_getElem?_getD, hg])
        rw [sum_T2 a1 (by omega), sum_S1 hg]
        exact (far g f hg hf).2
      · unfold sumRow
        rw [getD_append_r (by simp), List.length_replicate, Nat.add_sub_cancel_left, getD_map (d := 0) (by rw [b7 f hf]; exact hg)]
        have hc := b8 f hf g hg
        unfold CellV
        rw [sum_T2 (i := f) a1 (by omega), sum_S2 hg, sum_S2 hf, sum_T2 (i := g) a1 (by omega), sum_len]
        refine ⟨fun e => ?_, fun e => ?_⟩
        · obtain ⟨w1, w2, w3, w4⟩ := hc.1 (by omega)
          rw [if_pos w1, show ((d.comp.getD f []).getD g 0 + (c.src.length : Int)).toNat = c.src.length + ((d.comp.getD f []).getD g 0).toNat by omega, sum_S2 (by omega), sum_T2 a1 (by omega), w3, w4]
          exact ⟨by omega, by omega, rfl, rfl⟩
        · have h1 := hc.2 (by omega)
          rw [h1, if_neg (by omega)]
theorem Cat.Good.sum {c d : Cat} {N M : Nat} (h : c.Good N) (h' : d.Good M) : (c.sum d).Good (N + M) := ⟨h.r.sum h'.r, h.s.sum h'.s⟩
def NewGd (eI eS : TypeId) (N : Nat) (n : Int) (H : GHeap) (v : Value) (H' : GHeap) : Prop := ∃ c, (c.Good N ∧ c.obj = n) ∧ NewCatO eI eS H c v H'
def DrawnG (TS : TypeId) (N : Nat) (gS : Nat) (H : GHeap) (v : Value) (H' : GHeap) : Prop := ∃ c p, v = .agg (c.cells p).toArray ∧ c.Good N ∧ CatR H.next H' c p ∧ St [gS] H H' ∧ DSrc TS H' gS
end Go.GL
namespace Go.GL
noncomputable def Cat.code (c : Cat) (xs : List Int) : Int := if B c.Is = true then (if allIn xs c.src.length = true then 0 else 2) else 1
theorem Cat.code_ok {c : Cat} {xs : List Int} : c.code xs = 0 ↔ c.Is ∧ allIn xs c.src.length = true := by
  unfold Cat.code
  by_cases h : c.Is
  · rw [if_pos (B_iff.2 h)]
    split
    · exact ⟨fun _ => ⟨h, by assumption⟩, fun _ => rfl⟩
    · exact ⟨fun e => by omega, fun e => absurd e.2 (by assumption)⟩
  · rw [if_neg (fun e => h (B_iff.1 e))]
    exact ⟨fun e => by omega, fun e => absurd e.1 h⟩
theorem Cat.code_not {c : Cat} {xs : List Int} (h : ¬ c.Is) : c.code xs = 1 := by
  unfold Cat.code
  rw [if_neg (fun e => h (B_iff.1 e))]
def Cat.ext (c : Cat) (f g : Int) : List Int := (c.hom (c.T g) (c.T f)).filter fun h => decide (c.th g h = f)
def Cat.lif (c : Cat) (f g : Int) : List Int := (c.hom (c.S f) (c.S g)).filter fun h => decide (c.th h g = f)
theorem filter_filtN (n : Nat) (p : Nat → Bool) (q : Int → Bool) : (filtN n p).filter q = filtN n fun i => p i && q i := by
  unfold filtN
  rw [List.filter_map, List.filter_filter]
  congr 1
  exact List.filter_congr fun i _ => by simp only [Function.comp, Bool.and_comm]
theorem filt_T {l : List Int} {P : Int → Bool} {k : Nat} (hk : k < l.length) (h : P (l.getD k 0) = true) : (l.take (k + 1)).filter P = (l.take k).filter P ++ [l.getD k 0] := by
  rw [List.take_add_one, List.getElem?_eq_getElem hk, List.filter_append]
  rw [List.getD_eq_getElem?_getD, List.getElem?_eq_getElem hk] at h ⊢
  simp only [Option.getD_some, Option.toList_some] at h ⊢
  rw [List.filter_cons, if_pos h, List.filter_nil]
theorem filt_F {l : List Int} {P : Int → Bool} {k : Nat} (hk : k < l.length) (h : P (l.getD k 0) = false) : (l.take (k + 1)).filter P = (l.take k).filter P := by
  rw [List.take_add_one, List.getElem?_eq_getElem hk, List.filter_append]
  rw [List.getD_eq_getElem?_getD, List.getElem?_eq_getElem hk] at h
  simp only [Option.getD_some, Option.toList_some] at h ⊢
  rw [List.filter_cons, if_neg (by rw [h]; simp), List.filter_nil, List.append_nil]
theorem filt_le (l : List Int) (P : Int → Bool) (k : Nat) : ((l.take k).filter P).length ≤ l.length := Nat.le_trans (List.length_filter_le _ _) (by rw [List.length_take]; omega)
theorem Cat.ext_retr {c : Cat} (hS : c.Shape) {f : Int} (h0 : 0 ≤ f) (h1 : f < c.src.length) : c.ext (c.I (c.S f)) f = c.retr f := by
  unfold Cat.ext Cat.hom Cat.retr
  rw [filter_filtN]
  have q := hS.src f.toNat (by omega)
  have hid : c.T (c.I (c.S f)) = c.S f := by
    have := (hS.ids (c.S f).toNat (by have := hS.il; unfold Cat.S; omega)).2
    rw [Int.toNat_of_nonneg (by unfold Cat.S; omega)] at this
    exact this
  rw [hid]
theorem Cat.lif_sect {c : Cat} (hS : c.Shape) {f : Int} (h0 : 0 ≤ f) (h1 : f < c.src.length) : c.lif (c.I (c.T f)) f = c.sect f := by
  unfold Cat.lif Cat.hom Cat.sect
  rw [filter_filtN]
  have q := hS.tgt f.toNat (by have := hS.tl; omega)
  have hid : c.S (c.I (c.T f)) = c.T f := by
    have := (hS.ids (c.T f).toNat (by have := hS.il; unfold Cat.T; omega)).1
    rw [Int.toNat_of_nonneg (by unfold Cat.T; omega)] at this
    exact this
  rw [hid]
theorem Cat.mem_retr {c : Cat} {f g : Int} : g ∈ c.retr f ↔ ∃ k : Nat, k < c.src.length ∧ c.src.getD k 0 = c.T f ∧ c.tgt.getD k 0 = c.S f ∧ c.th f k = c.I (c.S f) ∧ g = k := by
  unfold Cat.retr
  rw [mem_filtN]
  simp only [sps]
  exact ⟨fun ⟨f, h1, h2, h3⟩ => ⟨f, h1, h2.1.1, h2.1.2, h2.2, h3⟩, fun ⟨f, h1, h2, h3, h4, h5⟩ => ⟨f, h1, ⟨⟨h2, h3⟩, h4⟩, h5⟩⟩
theorem filtN_nd (n : Nat) (P : Nat → Bool) : (filtN n P).Nodup := by
  unfold filtN
  exact List.pairwise_map.2 ((List.nodup_range.sublist List.filter_sublist).imp fun h e => h (by omega))
theorem Cat.inv_some {c : Cat} {f : Int} : 0 ≤ c.inv f ↔ ∃ g ∈ c.retr f, g ∈ c.sect f := by
  rw [← Cat.inv_retr, firstIn_ge (fun x hx => by obtain ⟨k, _, _, _, _, rfl⟩ := Cat.mem_retr.1 hx; omega)]
  simp only [List.contains_iff_mem]
noncomputable def codeL (k : Int) (xs : List Int) : List Int := if k = 0 then xs else []
theorem codeL_ok {k : Int} {xs : List Int} (h : k = 0) : codeL k xs = xs := by unfold codeL; rw [if_pos h]
theorem codeL_err {k : Int} {xs : List Int} (h : k ≠ 0) : codeL k xs = [] := by unfold codeL; rw [if_neg h]
def NewLC (k : Int) (xs : List Int) (H : GHeap) (v : Value) (H' : GHeap) : Prop := H.Le H' ∧ ∃ a, v = .tuple #[.slice a xs.length xs.length, .int .i64 k] ∧ IntsR H.next H' a xs
end Go.GL
namespace Go.GL
def Cat.pw (c : Cat) (f : Int) : Nat → Int
  | 0 => f
  | k + 1 => c.th (c.pw f k) f
structure Cat.Cyc (c : Cat) (f : Int) (k a : Nat) : Prop where
  lt : a < k
  eq : c.pw f k = c.pw f a
  ne : ∀ i j, i < j → j < k → c.pw f i ≠ c.pw f j
inductive Cat.Pw (c : Cat) (f i p e : Int) : Prop
  | err (h : c.code [f] ≠ 0) (hi : i = 0) (hp : p = 0) (he : e = c.code [f])
  | ends (h : c.code [f] = 0) (hn : ¬ c.S f = c.T f) (hi : i = 0) (hp : p = 0) (he : e = 5)
  | yes (h : c.code [f] = 0) (hn : c.S f = c.T f) (k a : Nat) (hc : c.Cyc f k a) (hi : i = (a : Int) + 1) (hp : p = (k : Int) - a) (he : e = 0)
end Go.GL
namespace Go.GL
structure Cat.Chain (c : Cat) (xs : List Int) : Prop where
  all : ∀ i : Nat, i + 1 < xs.length → c.T (xs.getD i 0) = c.S (xs.getD (i + 1) 0)
structure Cat.Ch (c : Cat) (xs : List Int) : Prop where
  rg : ∀ i, i < xs.length → 0 ≤ xs.getD i 0 ∧ xs.getD i 0 < c.src.length
  ch : c.Chain xs
theorem Cat.th_two {c : Cat} (hS : c.Shape) {f g : Int} (hf : 0 ≤ f ∧ f < c.src.length) (hg : 0 ≤ g ∧ g < c.src.length) (e : c.T f = c.S g) : (0 ≤ c.th f g ∧ c.th f g < c.src.length) ∧ c.S (c.th f g) = c.S f ∧ c.T (c.th f g) = c.T g := by
  obtain ⟨F, rfl⟩ : ∃ F : Nat, f = (F : Int) := ⟨f.toNat, by omega⟩
  obtain ⟨G, rfl⟩ : ∃ G : Nat, g = (G : Int) := ⟨g.toNat, by omega⟩
  obtain ⟨p1, p2, p3, p4⟩ := hS.tn (a := F) (b := G) (by omega) (by omega) e
  have a1 : c.th (F : Int) G = (c.tn F G : Int) := by rw [Cat.th_nat]; exact p4
  rw [a1]
  exact ⟨⟨by omega, by omega⟩, p2, p3⟩
theorem Cat.th_assoc {c : Cat} (hI : c.Is) {f g h : Int} (hf : 0 ≤ f ∧ f < c.src.length) (hg : 0 ≤ g ∧ g < c.src.length) (hh : 0 ≤ h ∧ h < c.src.length) (e1 : c.T f = c.S g) (e2 : c.T g = c.S h) : c.th (c.th f g) h = c.th f (c.th g h) := by
  obtain ⟨F, rfl⟩ : ∃ F : Nat, f = (F : Int) := ⟨f.toNat, by omega⟩
  obtain ⟨G, rfl⟩ : ∃ G : Nat, g = (G : Int) := ⟨g.toNat, by omega⟩
  obtain ⟨K, rfl⟩ : ∃ K : Nat, h = (K : Int) := ⟨h.toNat, by omega⟩
  exact hI.2.as F (by omega) G (by omega) e1 K (by omega) e2
theorem Cat.id_two {c : Cat} (hI : c.Is) {f : Int} (hf : 0 ≤ f ∧ f < c.src.length) : c.th (c.I (c.S f)) f = f ∧ c.th f (c.I (c.T f)) = f := by
  obtain ⟨F, rfl⟩ : ∃ F : Nat, f = (F : Int) := ⟨f.toNat, by omega⟩
  exact hI.2.ids F (by omega)
theorem Cat.id_in {c : Cat} (hS : c.Shape) {x : Int} (h0 : 0 ≤ x) (h1 : x < c.obj) : (0 ≤ c.I x ∧ c.I x < c.src.length) ∧ c.S (c.I x) = x ∧ c.T (c.I x) = x := by
  have h2 := hS.idn_lt h0 h1
  have h3 := hS.ids x.toNat (by have := hS.il; omega)
  rw [Int.toNat_of_nonneg h0] at h3
  exact ⟨h2, h3.1, h3.2⟩
end Go.GL
namespace Go.GL
open Go.RowKit
def negs (xs : List Int) : Nat := xs.countP fun x => decide (x < 0)
theorem negs_set {xs : List Int} {i : Nat} {v : Int} (h : i < xs.length) (hv : 0 ≤ v) : negs (xs.set i v) ≤ negs xs ∧ (xs.getD i 0 < 0 → negs (xs.set i v) < negs xs) := by
  have e : xs.getD i 0 = xs[i] := by simp [List.getD_eq_getElem?_getD, h]
  unfold negs
  rw [List.countP_set h, e, show decide (v < 0) = false from decide_eq_false (by omega)]
  simp only [Bool.false_eq_true, if_false, Nat.add_zero]
  refine ⟨Nat.sub_le _ _, fun hn => ?_⟩
  rw [show decide (xs[i] < 0) = true from decide_eq_true hn]
  have : 0 < xs.countP fun x => decide (x < 0) := List.countP_pos_iff.2 ⟨xs[i], List.getElem_mem h, by simpa using hn⟩
  simp only [if_true]
  omega
structure Typd (c d : Cat) (ob xs : List Int) : Prop where
  len : xs.length = c.src.length
  im : ∀ a, a < c.src.length → xs.getD a 0 < 0 ∨ ((0 ≤ xs.getD a 0 ∧ xs.getD a 0 < d.src.length) ∧ d.src.getD (xs.getD a 0).toNat 0 = ob.getD (c.src.getD a 0).toNat 0 ∧ d.tgt.getD (xs.getD a 0).toNat 0 = ob.getD (c.tgt.getD a 0).toNat 0)
theorem Typd.set {c d : Cat} {ob xs : List Int} {k : Nat} {v : Int} (h : Typd c d ob xs) (hk : k < c.src.length) (hv : 0 ≤ v ∧ v < d.src.length) (h1 : d.src.getD v.toNat 0 = ob.getD (c.src.getD k 0).toNat 0) (h2 : d.tgt.getD v.toNat 0 = ob.getD (c.tgt.getD k 0).toNat 0) : Typd c d ob (xs.set k v) := by
  have hl := h.len
  refine ⟨by rw [List.length_set]; exact hl, fun a ha => ?_⟩
  rw [getD_set (by omega)]
  by_cases e : a = k
  · subst e; rw [if_pos rfl]; exact .inr ⟨hv, h1, h2⟩
  · rw [if_neg e]; exact h.im a ha
theorem Typd.start {c d : Cat} {ob : List Int} : Typd c d ob (List.replicate c.src.length (-1)) := ⟨List.length_replicate, fun a ha => .inl (by rw [List.getD_eq_getElem?_getD, List.getElem?_replicate_of_lt ha]; decide)⟩
theorem Typd.img {c d : Cat} {ob xs : List Int} {a b : Nat} (h : Typd c d ob xs) (hc : c.Shp) (hd : d.Shp) (ha : a < c.src.length) (hb : b < c.src.length) (h0 : 0 ≤ (c.comp.getD a []).getD b 0) (h1 : 0 ≤ xs.getD a 0) (h2 : 0 ≤ xs.getD b 0) :
    (c.comp.getD a []).getD b 0 < c.src.length ∧ (xs.getD a 0 < d.src.length ∧ xs.getD b 0 < d.src.length) ∧ (0 ≤ (d.comp.getD (xs.getD a 0).toNat []).getD (xs.getD b 0).toNat 0 ∧ (d.comp.getD (xs.getD a 0).toNat []).getD (xs.getD b 0).toNat 0 < d.src.length) ∧
    d.src.getD ((d.comp.getD (xs.getD a 0).toNat []).getD (xs.getD b 0).toNat 0).toNat 0 = ob.getD (c.src.getD ((c.comp.getD a []).getD b 0).toNat 0).toNat 0 ∧ d.tgt.getD ((d.comp.getD (xs.getD a 0).toNat []).getD (xs.getD b 0).toNat 0).toNat 0 = ob.getD (c.tgt.getD ((c.comp.getD a []).getD b 0).toNat 0).toNat 0 := by
  have q := hc.cell a ha b hb
  by_cases e : c.tgt.getD a 0 = c.src.getD b 0
  · obtain ⟨q1, q2, q3, q4⟩ := q.1 e
    rcases h.im a ha with r | ⟨r1, r2, r3⟩
    · omega
    rcases h.im b hb with s | ⟨s1, s2, s3⟩
    · omega
    have t := (hd.cell (xs.getD a 0).toNat (by omega) (xs.getD b 0).toNat (by omega)).1 (by rw [r3, s2, e])
    exact ⟨q2, ⟨r1.2, s1.2⟩, ⟨t.1, t.2.1⟩, by rw [t.2.2.1, q3, r2], by rw [t.2.2.2, q4, s3]⟩
  · have := q.2 e; omega
theorem GHeap.Le.erase {H H' : GHeap} (h : H.Le H') (g : Nat) : (H.set g none).Le (H'.set g none) := ⟨by rw [GHeap.next_set, GHeap.next_set]; exact h.1, fun k o hk => GHeap.get_erase_of (h.2 k o (GHeap.get_erase hk).2) (GHeap.get_erase hk).1⟩
theorem St.erase {H H' : GHeap} {g g' : Nat} (h : St [g] H H') (hg : g' = g ∨ H.next ≤ g') : (H.set g none).Le (H'.set g' none) := ⟨by rw [GHeap.next_set, GHeap.next_set]; exact h.nx, fun k o hk => by
  obtain ⟨h1, h2⟩ := GHeap.get_erase hk
  have hl := GHeap.ltg h2
  exact GHeap.get_erase_of (h.same k o ⟨h1, trivial⟩ h2) (by rcases hg with rfl | hg <;> omega)⟩
theorem GHeap.Le.hi {H H' : GHeap} {g : Nat} (h : H.Le H') (hg : H.next ≤ g) : H.Le (H'.set g none) := ⟨by rw [GHeap.next_set]; exact h.1, fun k o hk => GHeap.get_erase_of (h.2 k o hk) (by have := GHeap.ltg hk; omega)⟩
theorem St.low {H H' : GHeap} {g : Nat} (h : St [g] H H') : (H.set g none).Le H' := (GHeap.le_erase H g).erase_st h
def LLc (e : TypeId) (N B : Nat) (H : GHeap) (cs : List Value) (n : Nat) : Prop := cs.length = n ∧ ∀ i, i < n → ∃ g xs, cs[i]? = some (.slice (some ⟨g, 0, none⟩) xs.length xs.length) ∧ xs.length ≤ N ∧ B ≤ g ∧ H.get g = some (.row (ints xs) e true)
theorem LLc.nil (e : TypeId) (N B : Nat) (H : GHeap) : LLc e N B H [] 0 := ⟨rfl, fun i h => by omega⟩
theorem LLc.le {e : TypeId} {N B n : Nat} {H H' : GHeap} {cs : List Value} (h : LLc e N B H cs n) (s : H.Le H') : LLc e N B H' cs n := ⟨h.1, fun i hi => by
  obtain ⟨g, xs, h1, h2, h3, h4⟩ := h.2 i hi
  exact ⟨g, xs, h1, h2, h3, s.2 _ _ h4⟩⟩
theorem LLc.snoc {e : TypeId} {N B n g : Nat} {H : GHeap} {cs : List Value} {xs : List Int} (h : LLc e N B H cs n) (hx : xs.length ≤ N) (hb : B ≤ g) (hg : H.get g = some (.row (ints xs) e true)) : LLc e N B H (cs ++ [.slice (some ⟨g, 0, none⟩) xs.length xs.length]) (n + 1) := ⟨by rw [List.length_append, h.1]; rfl, fun i hi => by
  by_cases hq : i < n
  · obtain ⟨g', ys, h1, h2, h3, h4⟩ := h.2 i hq
    exact ⟨g', ys, by rw [List.getElem?_append_left (by rw [h.1]; exact hq)]; exact h1, h2, h3, h4⟩
  · obtain rfl : i = n := by omega
    exact ⟨g, xs, by rw [List.getElem?_append_right (by rw [h.1]; exact Nat.le_refl _), h.1, Nat.sub_self]; rfl, hx, hb, hg⟩⟩
def FunO (e : TypeId) (B : Nat) (H : GHeap) (f : Fun) (p : FunP) : Prop := ∃ gO gA, p.b1 = some ⟨gO, 0, none⟩ ∧ p.b2 = some ⟨gA, 0, none⟩ ∧ B ≤ gO ∧ gO < gA ∧ H.get gO = some (.row (ints f.ob) e true) ∧ H.get gA = some (.row (ints f.ar) e true) ∧ CatAt B ((H.set gO none).set gA none) f.s p.s ∧ CatAt B ((H.set gO none).set gA none) f.t p.t
theorem FunO.le {e : TypeId} {B B' : Nat} {H H' : GHeap} {f : Fun} {p : FunP} (h : FunO e B H f p) (s : H.Le H') (hb : B' ≤ B) : FunO e B' H' f p := by
  obtain ⟨gO, gA, h1, h2, h3, h4, h5, h6, h7, h8⟩ := h
  exact ⟨gO, gA, h1, h2, by omega, h4, s.2 _ _ h5, s.2 _ _ h6, h7.keep (.of_le ((s.erase gO).erase gA)) hb, h8.keep (.of_le ((s.erase gO).erase gA)) hb⟩
theorem Keep.erase {b : Nat} {H H' : GHeap} (h : Keep b H H') (g : Nat) : Keep b (H.set g none) (H'.set g none) := fun k o hb hk => GHeap.get_erase_of (h k o hb (GHeap.get_erase hk).2) (GHeap.get_erase hk).1
theorem FunO.keep {e : TypeId} {b b' : Nat} {H H' : GHeap} {f : Fun} {p : FunP} (h : FunO e b H f p) (k : Keep b' H H') (hb : b' ≤ b) : FunO e b' H' f p := by
  obtain ⟨gO, gA, h1, h2, h3, h4, h5, h6, h7, h8⟩ := h
  exact ⟨gO, gA, h1, h2, by omega, h4, k _ _ (by omega) h5, k _ _ (by omega) h6, h7.keep ((k.erase gO).erase gA) hb, h8.keep ((k.erase gO).erase gA) hb⟩
theorem Keep.erase_hi {b g : Nat} {H H' : GHeap} (h : Keep b H H') (hg : H.next ≤ g) : Keep b H (H'.set g none) := fun k o hb hk => GHeap.get_erase_of (h k o hb hk) (by have := GHeap.ltg hk; omega)
def NewFO (e : TypeId) (H : GHeap) (f : Fun) (v : Value) (H' : GHeap) : Prop := H.Le H' ∧ ∃ p, v = .agg (f.cells p).toArray ∧ FunO e H.next H' f p
def FOk (N : Nat) (f : Fun) : Prop := f.s.Rect N ∧ f.Small ∧ f.ob.length ≤ N
def FLc (e : TypeId) (N B : Nat) (H : GHeap) (cs : List Value) (n : Nat) : Prop := cs.length = n * 12 ∧ ∀ i, i < n → ∃ f p, (∀ k v, (Fun.cells f p)[k]? = some v → cs[i * 12 + k]? = some v) ∧ FOk N f ∧ FunO e B H f p
theorem Fun.length_cells (f : Fun) (p : FunP) : (f.cells p).length = 12 := rfl
theorem FLc.nil (e : TypeId) (N B : Nat) (H : GHeap) : FLc e N B H [] 0 := ⟨rfl, fun i h => by omega⟩
theorem FLc.le {e : TypeId} {N B n : Nat} {H H' : GHeap} {cs : List Value} (h : FLc e N B H cs n) (s : H.Le H') : FLc e N B H' cs n := ⟨h.1, fun i hi => by
  obtain ⟨f, p, h1, h2, h3⟩ := h.2 i hi
  exact ⟨f, p, h1, h2, h3.le s (Nat.le_refl _)⟩⟩
theorem FLc.snoc {e : TypeId} {N B n : Nat} {H : GHeap} {cs : List Value} {f : Fun} {p : FunP} (h : FLc e N B H cs n) (hf : FOk N f) (ho : FunO e B H f p) : FLc e N B H (cs ++ f.cells p) (n + 1) := ⟨by rw [List.length_append, h.1, Fun.length_cells]; omega, fun i hi => by
  by_cases hq : i < n
  · obtain ⟨f', p', h1, h2, h3⟩ := h.2 i hq
    refine ⟨f', p', fun k v hk => ?_, h2, h3⟩
    have hl : k < 12 := by have := (List.getElem?_eq_some_iff.1 hk).1; rwa [Fun.length_cells] at this
    rw [List.getElem?_append_left (by rw [h.1]; omega)]
    exact h1 k v hk
  · obtain rfl : i = n := by omega
    refine ⟨f, p, fun k v hk => ?_, hf, ho⟩
    rw [List.getElem?_append_right (by rw [h.1]; omega), h.1, Nat.add_sub_cancel_left]
    exact hk⟩
theorem FLc.slA {T : TypeId} {e : TypeId} {N B n g : Nat} {Hx H : GHeap} {cs : List Value} (h : FLc e N B Hx cs n) (hg : H.get g = some (.row cs T true)) : SlA H (some ⟨g, 0, none⟩) (n * 12) (fun i => cs.getD i (.bool false)) := SlA.of_row hg h.1
theorem FLc.mem {T : TypeId} {e : TypeId} {N B n g i : Nat} {Hx H : GHeap} {cs : List Value} (h : FLc e N B Hx cs n) (hg : H.get g = some (.row cs T true)) (hi : i < n) : ∃ f p, MemN H g (0 + (i : Int).toNat * 12) 12 (f.cells p) ∧ FOk N f ∧ FunO e B Hx f p := by
  obtain ⟨f, p, h1, h2, h3⟩ := h.2 i hi
  refine ⟨f, p, ⟨rfl, fun k v hk => ?_⟩, h2, h3⟩
  rw [GHeap.cell_of hg, Int.toNat_natCast, Nat.zero_add]
  exact h1 k v hk
theorem FLc.memI {T : TypeId} {e : TypeId} {N B n g : Nat} {k : Int} {Hx H : GHeap} {cs : List Value} (h : FLc e N B Hx cs n) (hg : H.get g = some (.row cs T true)) (h0 : 0 ≤ k) (hi : k < n) : ∃ f p, MemN H g (0 + k.toNat * 12) 12 (f.cells p) ∧ FOk N f ∧ FunO e B Hx f p := by
  obtain ⟨f, p, h1, h2⟩ := h.mem hg (i := k.toNat) (by omega)
  exact ⟨f, p, by rw [Int.toNat_natCast] at h1; exact h1, h2⟩
theorem FLc.keep {e : TypeId} {N B n : Nat} {H H' : GHeap} {cs : List Value} (h : FLc e N B H cs n) (k : Keep B H H') : FLc e N B H' cs n := ⟨h.1, fun i hi => by
  obtain ⟨f, p, h1, h2, h3⟩ := h.2 i hi
  exact ⟨f, p, h1, h2, h3.keep k (Nat.le_refl _)⟩⟩
theorem St.keep2 {H H' : GHeap} {gO gA b : Nat} {bs : List Nat} (s : St (gO :: gA :: bs) H H') (hb : ∀ k, b ≤ k → out bs k) : Keep b ((H.set gO none).set gA none) H' := fun k o hk hg => by
  obtain ⟨n1, h1⟩ := GHeap.get_erase hg
  obtain ⟨n2, h2⟩ := GHeap.get_erase h1
  exact s.same k o ⟨n2, n1, hb k hk⟩ h2
def FKIn (b : Nat) (H : GHeap) (f : Fun) (p : FunP) : Prop := ∀ H', Keep b H H' → f.In H' p
theorem FKIn.inn {b : Nat} {H : GHeap} {f : Fun} {p : FunP} (h : FKIn b H f p) : f.In H p := h _ fun _ _ _ x => x
theorem FKIn.keep {b b' : Nat} {H H1 : GHeap} {f : Fun} {p : FunP} (h : FKIn b H f p) (k : Keep b' H H1) (hb : b' ≤ b) : FKIn b' H1 f p := fun H' k' => h H' ((k.trans k').mono hb)
def DrawnV (TS : TypeId) (gS : Nat) (H : GHeap) (v : Value) (H' : GHeap) : Prop := ∃ f p, v = .agg (f.cells p).toArray ∧ f.Small ∧ FKIn H.next H' f p ∧ St [gS] H H' ∧ DSrc TS H' gS
def NewV (H : GHeap) (v : Value) (H' : GHeap) : Prop := H.Le H' ∧ ∃ f p, v = .agg (f.cells p).toArray ∧ f.Small ∧ FKIn H.next H' f p
def DrawnF (TS e : TypeId) (N : Nat) (gS : Nat) (H : GHeap) (v : Value) (H' : GHeap) : Prop := ∃ f p, v = .agg (f.cells p).toArray ∧ FOk N f ∧ FunO e H.next H' f p ∧ St [gS] H H' ∧ DSrc TS H' gS
end Go.GL
namespace Go.Proofs.Ytfanjkbaemhbmaa
open Go Go.GL Go.RowKit Go.Proofs
set_option maxHeartbeats 4000000 in
theorem l06MakeO_c {c d : Cat} {p q : CatP} {a b : Option Addr} {xs ys : List Int} {H : GHeap} (hin : c.In H p) (hin1 : d.In H q) (hx : Ints H a xs) (hy : Ints H b ys) (hs : c.Small) (hs1 : d.Small) (hl : xs.length ≤ 1048576) (hl2 : ys.length ≤ 1048576) :
    GCalls Try.prog 129 [.agg (c.cells p).toArray, .agg (d.cells q).toArray, .slice a xs.length xs.length, .slice b ys.length ys.length] H (NewFO 2 H ⟨c, d, xs, ys⟩) := by
  refine GCalls.body (N := 18) (rs := [.cell 8 40]) Try.func129 rfl rfl rfl rfl (fun Qx a7 hend => ?_)
  refine .fg [0, 1, 2, 3] rfl ?_
  have i := GHeap.Le.refl H
  have f := hin
  have e := hin1
  have a0 := hx
  have y := hy
  refine .seq (fun K1 b4 => .region ?_)
  refine .R rfl (.boxR rfl sz_27_D rfl) ?_
  rintro _ _ ⟨g4, rfl, b5, _, m⟩
  replace i := i.trans b5
  have _ := GHeap.ltg m
  replace hin := f.mono i
  have r : Cat.At _ g4 0 c p := ⟨Mem.of_get m, hin⟩
  refine .R rfl (.boxR rfl sz_27_D rfl) ?_
  rintro _ _ ⟨g5, rfl, b0, _, n⟩
  replace i := i.trans b0
  replace m := b0.2 _ _ m
  have _ := GHeap.ltg n
  replace hin := f.mono i
  replace hin1 := e.mono i
  clear r
  have r : Cat.At _ g4 0 c p := ⟨Mem.of_get m, hin⟩
  have v : Cat.At _ g5 0 d q := ⟨Mem.of_get n, hin1⟩
  refine .R rfl (.allocR rfl ze_40_Hj rfl) ?_
  rintro _ H8 ⟨_, rfl, a6, _, z⟩
  have _ := a6.1
  replace i := i.trans a6
  replace m := a6.2 _ _ m
  replace n := a6.2 _ _ n
  have _ := GHeap.ltg z
  replace hin := f.mono i
  replace hin1 := e.mono i
  clear r
  have r : Cat.At _ g4 0 c p := ⟨Mem.of_get m, hin⟩
  have c1 := r.2
  clear v
  have v : Cat.At _ g5 0 d q := ⟨Mem.of_get n, hin1⟩
  refine .nil (b4 _ _ (.seq (fun K2 b6 => ?_)))
  refine .regionD mo_B (.qs [0, 2, 4, 6] (.c 1 1 (.c 3 1 (.c 5 1 (.c 7 0 (.q 8 (.c 9 0 (.done)))))))) (by kernel_rfl) ?_
  refine .q rfl (.loadM ag_27_D rfl ⟨rfl, Mem.of_get m⟩) ?_
  refine .q rfl (.loadM ag_27_D rfl ⟨rfl, Mem.of_get n⟩) ?_
  refine .mv rfl rfl (.mv rfl rfl ?_)
  refine .call1 rfl rfl rfl rfl rfl @Try.call83 rfl (l02Own_c (c := c)) ?_
  rintro _ a8 ⟨w, b8, rfl, b7⟩
  have a1 := w
  refine ⟨a1, ?_⟩
  have _ := w.1
  replace i := i.trans w
  replace m := w.2 _ _ m
  replace n := w.2 _ _ n
  replace z := w.2 _ _ z
  have a3 := b7
  have g : Keep H8.next a8 a8 := fun _ _ _ h => h
  replace hin := f.mono i
  replace hin1 := e.mono i
  clear r c1
  have r : Cat.At _ g4 0 c p := ⟨Mem.of_get m, hin⟩
  clear v
  have v : Cat.At _ g5 0 d q := ⟨Mem.of_get n, hin1⟩
  have b3 := v.2
  refine .call1 rfl rfl rfl rfl rfl @Try.call83 rfl (l02Own_c (c := d)) ?_
  rintro _ a9 ⟨t, b9, rfl, c0⟩
  replace a1 := a1.trans t
  refine ⟨a1, ?_⟩
  have _ := t.1
  replace i := i.trans t
  replace m := t.2 _ _ m
  replace n := t.2 _ _ n
  replace z := t.2 _ _ z
  replace g := Keep.le g t
  have a2 := c0
  have l : Keep a8.next a9 a9 := fun _ _ _ h => h
  replace hin := f.mono i
  replace hin1 := e.mono i
  replace hx := a0.mono i
  clear r
  have r : Cat.At _ g4 0 c p := ⟨Mem.of_get m, hin⟩
  clear v b3
  have v : Cat.At _ g5 0 d q := ⟨Mem.of_get n, hin1⟩
  refine .call1 rfl rfl rfl rfl rfl @Try.call108 rfl (l01Own_c hx) ?_
  rintro _ _ ⟨u, b1, rfl, x, _⟩
  replace a1 := a1.trans u
  refine ⟨a1, ?_⟩
  replace i := i.trans u
  replace m := u.2 _ _ m
  replace n := u.2 _ _ n
  replace z := u.2 _ _ z
  replace g := Keep.le g u
  replace l := Keep.le l u
  have _ := GHeap.ltg x
  replace hin := f.mono i
  replace hin1 := e.mono i
  replace hy := y.mono i
  clear r
  have r : Cat.At _ g4 0 c p := ⟨Mem.of_get m, hin⟩
  clear v
  have v : Cat.At _ g5 0 d q := ⟨Mem.of_get n, hin1⟩
  refine .call0 rfl rfl rfl rfl rfl @Try.call108 rfl (l01Own_c hy) ?_
  rintro _ _ ⟨o, b2, rfl, a5, _⟩
  replace i := i.trans o
  replace m := o.2 _ _ m
  replace n := o.2 _ _ n
  replace z := o.2 _ _ z
  replace x := o.2 _ _ x
  replace g := Keep.le g o
  replace l := Keep.le l o
  replace hin := f.mono i
  replace hin1 := e.mono i
  clear r
  have r : Cat.At _ g4 0 c p := ⟨Mem.of_get m, hin⟩
  clear v
  have v : Cat.At _ g5 0 d q := ⟨Mem.of_get n, hin1⟩
  refine .q rfl (.build bt_40_Hj rfl rfl fu_build) ?_
  refine .r0 rfl rfl rfl (.fillA rfl sz_40_I rfl rfl rfl rfl) ?_
  rintro _ _ ⟨rfl, j, a4⟩
  replace i := i.st j (fun k hk => ⟨by omega, trivial⟩)
  replace m := j.s m
  replace n := j.s n
  replace x := j.s x
  replace a5 := j.s a5
  replace g := Keep.st g j (fun k hb hk => ⟨by omega, trivial⟩)
  replace l := Keep.st l j (fun k hb hk => ⟨by omega, trivial⟩)
  replace hin := f.mono i
  replace hin1 := e.mono i
  clear r
  have r : Cat.At _ g4 0 c p := ⟨Mem.of_get m, hin⟩
  clear v
  have v : Cat.At _ g5 0 d q := ⟨Mem.of_get n, hin1⟩
  refine .done (b6 _ _ (.ret (a7 _ _ (⟨_, _, _, _, rfl, ag_40_Hj, (by rfl), (Mem.of_get a4), ?_⟩))))
  exact ⟨i, ⟨b8, b9, some ⟨b1, 0, none⟩, some ⟨b2, 0, none⟩⟩, rfl, b1, b2, rfl, rfl, by omega, by omega, x, a5, (a3.keep ((g.erase_hi (by omega)).erase_hi (by omega)) (Nat.le_refl _)).keep (.of_le (.refl _)) (by omega), (a2.keep ((l.erase_hi (by omega)).erase_hi (by omega)) (Nat.le_refl _)).keep (.of_le (.refl _)) (by omega)⟩
set_option maxHeartbeats 4000000 in
theorem l06SelfO_c {N : Nat} {c : Cat} {p : CatP} {H : GHeap} (hin : c.In H p := by assumption) (gc : c.Good N := by assumption) (hN : N ≤ 100000 := by omega) :
    GCalls Try.prog 113 [.agg (c.cells p).toArray] H (NewFO 2 H ⟨c, c, (List.range c.obj.toNat).map (fun i : Nat => (i : Int)), (List.range c.src.length).map (fun i : Nat => (i : Int))⟩) := by
  have _ := gc.r.obj
  have _ := gc.r.n
  have s1 := gc.small (by omega)
  refine GCalls.body (N := 35) (rs := [.cell 2 40]) Try.func113 rfl rfl rfl rfl (fun Qx b3 hend => ?_)
  refine .fg [0] rfl ?_
  have e := GHeap.Le.refl H
  have b := hin
  refine .seq (fun K1 c7 => .region ?_)
  refine .R rfl (.boxR rfl sz_27_D rfl) ?_
  rintro _ _ ⟨g1, rfl, d2, _, d⟩
  replace e := e.trans d2
  have _ := GHeap.ltg d
  replace hin := b.mono e
  have f : Cat.At _ g1 0 c p := ⟨Mem.of_get d, hin⟩
  refine .R rfl (.allocR rfl ze_40_Hj rfl) ?_
  rintro _ _ ⟨_, rfl, c5, _, t⟩
  replace e := e.trans c5
  replace d := c5.2 _ _ d
  have _ := GHeap.ltg t
  replace hin := b.mono e
  clear f
  have f : Cat.At _ g1 0 c p := ⟨Mem.of_get d, hin⟩
  refine .nil (c7 _ _ (.seq (fun K2 d0 => .region ?_)))
  refine .R rfl (.litA rfl sl_24_A ze_2_L rfl rfl rfl rfl) ?_
  rintro _ H7 ⟨g7, rfl, b7, _, a8⟩
  replace e := e.trans b7
  replace d := b7.2 _ _ d
  replace t := b7.2 _ _ t
  have _ := GHeap.ltg a8
  replace hin := b.mono e
  clear f
  have f : Cat.At _ g1 0 c p := ⟨Mem.of_get d, hin⟩
  replace a8 : GHeap.get H7 g7 = some (.row (ints []) 2 true) := a8
  refine .R rfl (.litA rfl sl_24_A ze_2_L rfl rfl rfl rfl) ?_
  rintro _ H8 ⟨g8, rfl, b1, _, a9⟩
  replace e := e.trans b1
  replace d := b1.2 _ _ d
  replace t := b1.2 _ _ t
  replace a8 := b1.2 _ _ a8
  have _ := GHeap.ltg a9
  replace hin := b.mono e
  clear f
  have f : Cat.At _ g1 0 c p := ⟨Mem.of_get d, hin⟩
  replace a9 : GHeap.get H8 g8 = some (.row (ints []) 2 true) := a9
  refine .mv rfl (.mv rfl (.nil (d0 _ _ (.seq (fun K3 d1 => .seq (fun K4 d8 => .region (.mv rfl (.nil (d8 _ _ (.block ?_))))))))))
  refine .loopF (σ := Nat × Nat × Nat) [1, 2, 4] (fun (x, a0, a6) => [(5, some (.int .i64 (x : Int))), (3, some (.slice (some ⟨a0, 0, none⟩) a6 a6))]) (fun (x, a0, a6) H' => St [g7] H8 H' ∧ H'.get a0 = some (.row (ints ((List.range x).map (fun i : Nat => (i : Int)))) 2 true) ∧ (a0 = g7 ∨ H8.next ≤ a0) ∧ a6 = ((List.range x).map (fun i : Nat => (i : Int))).length ∧ x ≤ c.obj.toNat) (fun (x, a0, a6) => c.obj.toNat - x) ((0, _, _)) rfl (.p rfl) ?_ ?_
  ·
   refine ⟨.refl _ _, by assumption, .inl rfl, by rfl, ?_⟩
   omega
  rintro ⟨x, a0, a6⟩ HL1 ⟨j, m, _, a7, hI⟩ _ b9
  dsimp only [cA, nA]
  have _ : H.next ≤ a0 := by omega
  have _ := j.nx
  replace e := e.st j (fun k hk => ⟨by omega, trivial⟩)
  replace d := j.s d
  replace t := j.s t
  replace a9 := j.s a9
  replace hin := b.mono e
  clear f
  have f : Cat.At _ g1 0 c p := ⟨Mem.of_get d, hin⟩
  obtain ⟨c9, -, -, -, -, -, -, -, -⟩ := f.get
  have _ : ((List.range x).map (fun i : Nat => (i : Int))).length = x := by simp
  refine .seq (fun K5 d7 => .seq (fun K6 d5 => .region (.mv rfl (.q rfl (.fieldAddr fo_27_0_B rfl) (.q rfl (.lA on_2_A rfl) (.q rfl (.cmp rfl rfl rfl) (.nil (d5 _ _ ?_))))))))
  refine .cond rfl ?_ ?_ <;> intro c6
  ·
   try simp only [sps] at c6
   refine .skip (d7 _ _ (.seq (fun K7 d3 => .block (.region (.mv rfl (.mv rfl ?_))))))
   refine .R rfl (.litA rfl sl_24_A ze_2_L rfl rfl rfl rfl) ?_
   rintro _ _ ⟨_, rfl, v, _, b5⟩
   replace e := e.trans v
   replace j := j.le v
   replace d := v.2 _ _ d
   replace m := v.2 _ _ m
   have _ := GHeap.ltg b5
   replace hin := b.mono e
   clear f c9
   have f : Cat.At _ g1 0 c p := ⟨Mem.of_get d, hin⟩
   refine .R rfl (.apI rfl sl_24_A ze_2_L rfl by_2_L sl_24_A rfl rfl) ?_
   rintro _ _ ⟨_, rfl, a4, _, _⟩
   replace e := e.st a4 (fun k hk => ⟨by omega, trivial⟩)
   replace j := j.sA a4
   replace d := a4.s d
   replace hin := b.mono e
   clear f
   have f : Cat.At _ g1 0 c p := ⟨Mem.of_get d, hin⟩
   refine .mv rfl (.nil (d3 _ _ (.region (.mv rfl (.q rfl (.aD rfl rfl rfl) (.mv rfl (.nil ?_)))))))
   refine b9 ((x + 1, _, _)) _ _ ?_ ?_ (.p rfl)
   ·
    refine ⟨j, by (rw [rng_snoc]; assumption), by omega, by (rw [rng_snoc] <;> (first | omega | (simp only [List.length_append, List.length_cons, List.length_nil] <;> omega))), ?_⟩
    omega
   (dsimp only; omega)
  try simp only [sps] at c6
  refine .exit (d1 _ _ (.seq (fun K8 d4 => .seq (fun K9 d6 => .region (.mv rfl (.nil (d6 _ _ (.block ?_))))))))
  refine .loopF (σ := Nat × Nat × Nat) [1, 2, 3] (fun (a, z, a5) => [(6, some (.int .i64 (a : Int))), (4, some (.slice (some ⟨z, 0, none⟩) a5 a5))]) (fun (a, z, a5) H' => St [g8] HL1 H' ∧ H'.get z = some (.row (ints ((List.range a).map (fun i : Nat => (i : Int)))) 2 true) ∧ (z = g8 ∨ HL1.next ≤ z) ∧ a5 = ((List.range a).map (fun i : Nat => (i : Int))).length ∧ a ≤ c.src.length) (fun (a, z, a5) => c.src.length - a) ((0, _, _)) rfl (.p rfl) ?_ ?_
  ·
   refine ⟨.refl _ _, by assumption, .inl rfl, by rfl, ?_⟩
   omega
  rintro ⟨a, z, a5⟩ HL2 ⟨g, u, _, b0, hI⟩ _ b8
  dsimp only [cA, nA]
  have _ : H.next ≤ z := by omega
  have _ := g.nx
  replace e := e.st g (fun k hk => ⟨by omega, trivial⟩)
  replace d := g.s d
  replace t := g.s t
  replace m := g.s m
  replace hin := b.mono e
  have f : Cat.At _ g1 0 c p := ⟨Mem.of_get d, hin⟩
  obtain ⟨-, c8, -, -, -, -, -, -, -⟩ := f.get
  have _ : ((List.range a).map (fun i : Nat => (i : Int))).length = a := by simp
  refine .seq (fun K10 b4 => .seq (fun K11 c1 => .region (.mv rfl (.q rfl (.fieldAddr fo_27_1_B rfl) (.q rfl (.lA on_24_B rfl) (.q rfl (.len sl_24_A rfl) (.q rfl (.cmp rfl rfl rfl) (.nil (c1 _ _ ?_)))))))))
  refine .cond rfl ?_ ?_ <;> intro c4
  ·
   try simp only [sps] at c4
   refine .skip (b4 _ _ (.seq (fun K12 b6 => .block (.region (.mv rfl (.mv rfl ?_))))))
   refine .R rfl (.litA rfl sl_24_A ze_2_L rfl rfl rfl rfl) ?_
   rintro _ _ ⟨_, rfl, w, _, b2⟩
   replace e := e.trans w
   replace g := g.le w
   replace d := w.2 _ _ d
   replace u := w.2 _ _ u
   have _ := GHeap.ltg b2
   replace hin := b.mono e
   clear f c8
   have f : Cat.At _ g1 0 c p := ⟨Mem.of_get d, hin⟩
   refine .R rfl (.apI rfl sl_24_A ze_2_L rfl by_2_L sl_24_A rfl rfl) ?_
   rintro _ _ ⟨_, rfl, a3, _, _⟩
   replace e := e.st a3 (fun k hk => ⟨by omega, trivial⟩)
   replace g := g.sA a3
   replace d := a3.s d
   replace hin := b.mono e
   clear f
   have f : Cat.At _ g1 0 c p := ⟨Mem.of_get d, hin⟩
   refine .mv rfl (.nil (b6 _ _ (.region (.mv rfl (.q rfl (.aD rfl rfl rfl) (.mv rfl (.nil ?_)))))))
   refine b8 ((a + 1, _, _)) _ _ ?_ ?_ (.p rfl)
   ·
    refine ⟨g, by (rw [rng_snoc]; assumption), by omega, by (rw [rng_snoc] <;> (first | omega | (simp only [List.length_append, List.length_cons, List.length_nil] <;> omega))), ?_⟩
    omega
   (dsimp only; omega)
  try simp only [sps] at c4
  refine .exit (d4 _ _ (.seq (fun K13 c0 => .region ?_)))
  obtain rfl : x = c.obj.toNat := by omega
  obtain rfl : a = c.src.length := by omega
  obtain rfl := a7
  obtain rfl := b0
  refine .q rfl (.loadM ag_27_D rfl ⟨rfl, Mem.of_get d⟩) ?_
  refine .q rfl (.loadM ag_27_D rfl ⟨rfl, Mem.of_get d⟩) ?_
  refine .mv rfl (.mv rfl ?_)
  refine .call rfl rfl rfl rfl @Try.call129 rfl (l06MakeO_c hin hin (Ints.of_get m) (Ints.of_get u) s1 s1 (by simp; omega) (by simp; omega)) ?_
  rintro _ c3 ⟨a2, _, rfl, c2⟩
  replace e := e.trans a2
  replace d := a2.2 _ _ d
  replace t := a2.2 _ _ t
  have a1 := c2
  have o : Keep HL2.next c3 c3 := fun _ _ _ h => h
  replace hin := b.mono e
  have f : Cat.At _ g1 0 c p := ⟨Mem.of_get d, hin⟩
  refine .r0 rfl rfl (.fillA rfl sz_40_I rfl rfl rfl rfl) ?_
  rintro _ _ ⟨rfl, l, y⟩
  replace e := e.st l (fun k hk => ⟨by omega, trivial⟩)
  replace d := l.s d
  replace o := Keep.st o l (fun k hb hk => ⟨by omega, trivial⟩)
  replace c2 := a1.keep o (Nat.le_refl _)
  replace hin := b.mono e
  clear f
  have f : Cat.At _ g1 0 c p := ⟨Mem.of_get d, hin⟩
  refine .nil (c0 _ _ (.ret (b3 _ _ (⟨_, _, _, _, rfl, ag_40_Hj, (by rfl), (Mem.of_get y), ?_⟩))))
  exact ⟨e, _, rfl, (by assumption : FunO _ _ _ _ _).keep (.of_le (.refl _)) (by omega)⟩
set_option maxHeartbeats 4000000 in
theorem l06ConstantO_c {N M : Nat} {c d : Cat} {p q : CatP} {y : Int} {H : GHeap} (hin : c.In H p := by assumption) (hin1 : d.In H q := by assumption) (gc : c.Good N := by assumption) (gd : d.Good M := by assumption) (hN : N ≤ 100000 := by omega) (hM : M ≤ 100000 := by omega) (hy : 0 ≤ y ∧ y < d.obj := by omega) :
    GCalls Try.prog 112 [.agg (c.cells p).toArray, .agg (d.cells q).toArray, .int .i64 y] H (NewFO 2 H ⟨c, d, List.replicate c.obj.toNat y, List.replicate c.src.length (d.idn.getD y.toNat 0)⟩) := by
  have _ := gc.r.obj
  have _ := gc.r.n
  have _ := gd.r.il
  have s1 := gc.small (by omega)
  have s2 := gd.small (by omega)
  refine GCalls.body (N := 43) (rs := [.cell 6 40]) Try.func112 rfl rfl rfl rfl (fun Qx c0 hend => ?_)
  refine .fg [0, 1, 2] rfl ?_
  have f := GHeap.Le.refl H
  have e := hin
  have b := hin1
  refine .seq (fun K1 d7 => .region ?_)
  refine .R rfl (.boxR rfl sz_27_D rfl) ?_
  rintro _ _ ⟨g3, rfl, d8, _, g⟩
  replace f := f.trans d8
  have _ := GHeap.ltg g
  replace hin := e.mono f
  have l : Cat.At _ g3 0 c p := ⟨Mem.of_get g, hin⟩
  refine .R rfl (.boxR rfl sz_27_D rfl) ?_
  rintro _ _ ⟨g4, rfl, d1, _, i⟩
  replace f := f.trans d1
  replace g := d1.2 _ _ g
  have _ := GHeap.ltg i
  replace hin := e.mono f
  replace hin1 := b.mono f
  clear l
  have l : Cat.At _ g3 0 c p := ⟨Mem.of_get g, hin⟩
  have t : Cat.At _ g4 0 d q := ⟨Mem.of_get i, hin1⟩
  refine .R rfl (.allocR rfl ze_40_Hj rfl) ?_
  rintro _ _ ⟨_, rfl, c2, _, a2⟩
  replace f := f.trans c2
  replace g := c2.2 _ _ g
  replace i := c2.2 _ _ i
  have _ := GHeap.ltg a2
  replace hin := e.mono f
  replace hin1 := b.mono f
  clear l
  have l : Cat.At _ g3 0 c p := ⟨Mem.of_get g, hin⟩
  clear t
  have t : Cat.At _ g4 0 d q := ⟨Mem.of_get i, hin1⟩
  refine .nil (d7 _ _ (.seq (fun K2 d9 => .region ?_)))
  refine .R rfl (.litA rfl sl_24_A ze_2_L rfl rfl rfl rfl) ?_
  rintro _ e1 ⟨c4, rfl, a7, _, a0⟩
  replace f := f.trans a7
  replace g := a7.2 _ _ g
  replace i := a7.2 _ _ i
  replace a2 := a7.2 _ _ a2
  have _ := GHeap.ltg a0
  replace hin := e.mono f
  replace hin1 := b.mono f
  clear l
  have l : Cat.At _ g3 0 c p := ⟨Mem.of_get g, hin⟩
  clear t
  have t : Cat.At _ g4 0 d q := ⟨Mem.of_get i, hin1⟩
  replace a0 : GHeap.get e1 c4 = some (.row (ints []) 2 true) := a0
  refine .R rfl (.litA rfl sl_24_A ze_2_L rfl rfl rfl rfl) ?_
  rintro _ c3 ⟨b7, rfl, z, _, a3⟩
  replace f := f.trans z
  replace g := z.2 _ _ g
  replace i := z.2 _ _ i
  replace a2 := z.2 _ _ a2
  replace a0 := z.2 _ _ a0
  have _ := GHeap.ltg a3
  replace hin := e.mono f
  replace hin1 := b.mono f
  clear l
  have l : Cat.At _ g3 0 c p := ⟨Mem.of_get g, hin⟩
  clear t
  have t : Cat.At _ g4 0 d q := ⟨Mem.of_get i, hin1⟩
  replace a3 : GHeap.get c3 b7 = some (.row (ints []) 2 true) := a3
  refine .mv rfl (.mv rfl (.nil (d9 _ _ (.seq (fun K3 e0 => .seq (fun K4 e9 => .region (.mv rfl (.nil (e9 _ _ (.block ?_))))))))))
  refine .loopF (σ := Nat × Nat × Nat) [2, 3, 4, 6, 8] (fun (x, b1, b4) => [(9, some (.int .i64 (x : Int))), (7, some (.slice (some ⟨b1, 0, none⟩) b4 b4))]) (fun (x, b1, b4) H' => St [c4] c3 H' ∧ H'.get b1 = some (.row (ints (List.replicate x y)) 2 true) ∧ (b1 = c4 ∨ c3.next ≤ b1) ∧ b4 = (List.replicate x y).length ∧ x ≤ c.obj.toNat) (fun (x, b1, b4) => c.obj.toNat - x) ((0, _, _)) rfl (.p rfl) ?_ ?_
  ·
   refine ⟨.refl _ _, by assumption, .inl rfl, by rfl, ?_⟩
   omega
  rintro ⟨x, b1, b4⟩ HL1 ⟨o, u, _, b6, hI⟩ _ c7
  dsimp only [cA, nA]
  have _ : H.next ≤ b1 := by omega
  have _ := o.nx
  replace f := f.st o (fun k hk => ⟨by omega, trivial⟩)
  replace g := o.s g
  replace i := o.s i
  replace a2 := o.s a2
  replace a3 := o.s a3
  replace hin := e.mono f
  replace hin1 := b.mono f
  clear l
  have l : Cat.At _ g3 0 c p := ⟨Mem.of_get g, hin⟩
  obtain ⟨d6, -, -, -, -, -, -, -, -⟩ := l.get
  clear t
  have t : Cat.At _ g4 0 d q := ⟨Mem.of_get i, hin1⟩
  have _ : (List.replicate x y).length = x := List.length_replicate
  refine .seq (fun K5 e8 => .seq (fun K6 e5 => .region (.mv rfl (.q rfl (.fieldAddr fo_27_0_B rfl) (.q rfl (.lA on_2_A rfl) (.q rfl (.cmp rfl rfl rfl) (.nil (e5 _ _ ?_))))))))
  refine .cond rfl ?_ ?_ <;> intro d3
  ·
   try simp only [sps] at d3
   refine .skip (e8 _ _ (.seq (fun K7 e2 => .block (.region (.mv rfl (.mv rfl ?_))))))
   refine .R rfl (.litA rfl sl_24_A ze_2_L rfl rfl rfl rfl) ?_
   rintro _ _ ⟨_, rfl, a4, _, c5⟩
   replace f := f.trans a4
   replace o := o.le a4
   replace g := a4.2 _ _ g
   replace i := a4.2 _ _ i
   replace u := a4.2 _ _ u
   have _ := GHeap.ltg c5
   replace hin := e.mono f
   replace hin1 := b.mono f
   clear l d6
   have l : Cat.At _ g3 0 c p := ⟨Mem.of_get g, hin⟩
   clear t
   have t : Cat.At _ g4 0 d q := ⟨Mem.of_get i, hin1⟩
   refine .R rfl (.apI rfl sl_24_A ze_2_L rfl by_2_L sl_24_A rfl rfl) ?_
   rintro _ _ ⟨_, rfl, a5, _, _⟩
   replace f := f.st a5 (fun k hk => ⟨by omega, trivial⟩)
   replace o := o.sA a5
   replace g := a5.s g
   replace i := a5.s i
   replace hin := e.mono f
   replace hin1 := b.mono f
   clear l
   have l : Cat.At _ g3 0 c p := ⟨Mem.of_get g, hin⟩
   clear t
   have t : Cat.At _ g4 0 d q := ⟨Mem.of_get i, hin1⟩
   refine .mv rfl (.nil (e2 _ _ (.region (.mv rfl (.q rfl (.aD rfl rfl rfl) (.mv rfl (.nil ?_)))))))
   refine c7 ((x + 1, _, _)) _ _ ?_ ?_ (.p rfl)
   ·
    refine ⟨o, by (rw [List.replicate_succ']; assumption), by omega, by (rw [List.replicate_succ'] <;> (first | omega | (simp only [List.length_append, List.length_cons, List.length_nil] <;> omega))), ?_⟩
    omega
   (dsimp only; omega)
  try simp only [sps] at d3
  refine .exit (e0 _ _ (.seq (fun K8 e4 => .seq (fun K9 e6 => .region (.mv rfl (.nil (e6 _ _ (.block ?_))))))))
  refine .loopF (σ := Nat × Nat × Nat) [2, 3, 4, 6, 7] (fun (a, b0, b3) => [(10, some (.int .i64 (a : Int))), (8, some (.slice (some ⟨b0, 0, none⟩) b3 b3))]) (fun (a, b0, b3) H' => St [b7] HL1 H' ∧ H'.get b0 = some (.row (ints (List.replicate a (d.idn.getD y.toNat 0))) 2 true) ∧ (b0 = b7 ∨ HL1.next ≤ b0) ∧ b3 = (List.replicate a (d.idn.getD y.toNat 0)).length ∧ a ≤ c.src.length) (fun (a, b0, b3) => c.src.length - a) ((0, _, _)) rfl (.p rfl) ?_ ?_
  ·
   refine ⟨.refl _ _, by assumption, .inl rfl, by rfl, ?_⟩
   omega
  rintro ⟨a, b0, b3⟩ HL2 ⟨m, w, _, b5, hI⟩ _ c6
  dsimp only [cA, nA]
  have _ : H.next ≤ b0 := by omega
  have _ := m.nx
  replace f := f.st m (fun k hk => ⟨by omega, trivial⟩)
  replace g := m.s g
  replace i := m.s i
  replace a2 := m.s a2
  replace u := m.s u
  replace hin := e.mono f
  replace hin1 := b.mono f
  have l : Cat.At _ g3 0 c p := ⟨Mem.of_get g, hin⟩
  obtain ⟨-, d5, -, -, -, -, -, -, -⟩ := l.get
  have t : Cat.At _ g4 0 d q := ⟨Mem.of_get i, hin1⟩
  obtain ⟨-, -, -, e3, -, -, -, e7, -⟩ := t.get
  have _ : (List.replicate a (d.idn.getD y.toNat 0)).length = a := List.length_replicate
  refine .seq (fun K10 b9 => .seq (fun K11 c9 => .region (.mv rfl (.q rfl (.fieldAddr fo_27_1_B rfl) (.q rfl (.lA on_24_B rfl) (.q rfl (.len sl_24_A rfl) (.q rfl (.cmp rfl rfl rfl) (.nil (c9 _ _ ?_)))))))))
  refine .cond rfl ?_ ?_ <;> intro d2
  ·
   try simp only [sps] at d2
   refine .skip (b9 _ _ (.seq (fun K12 c1 => .block (.region (.mv rfl (.q rfl (.fieldAddr fo_27_3_B rfl) (.q rfl (.lA on_24_B rfl) (.mv rfl (.q rfl (.i1 sl_24_A rfl rfl) (.q rfl (.lI on_2_A rfl) ?_))))))))))
   refine .R rfl (.litA rfl sl_24_A ze_2_L rfl rfl rfl rfl) ?_
   rintro _ _ ⟨_, rfl, a1, _, b8⟩
   replace f := f.trans a1
   replace m := m.le a1
   replace g := a1.2 _ _ g
   replace i := a1.2 _ _ i
   replace w := a1.2 _ _ w
   have _ := GHeap.ltg b8
   replace hin := e.mono f
   replace hin1 := b.mono f
   clear l d5
   have l : Cat.At _ g3 0 c p := ⟨Mem.of_get g, hin⟩
   clear t e3 e7
   have t : Cat.At _ g4 0 d q := ⟨Mem.of_get i, hin1⟩
   refine .R rfl (.apI rfl sl_24_A ze_2_L rfl by_2_L sl_24_A rfl rfl) ?_
   rintro _ _ ⟨_, rfl, a9, _, _⟩
   replace f := f.st a9 (fun k hk => ⟨by omega, trivial⟩)
   replace m := m.sA a9
   replace g := a9.s g
   replace i := a9.s i
   replace hin := e.mono f
   replace hin1 := b.mono f
   clear l
   have l : Cat.At _ g3 0 c p := ⟨Mem.of_get g, hin⟩
   clear t
   have t : Cat.At _ g4 0 d q := ⟨Mem.of_get i, hin1⟩
   refine .mv rfl (.nil (c1 _ _ (.region (.mv rfl (.q rfl (.aD rfl rfl rfl) (.mv rfl (.nil ?_)))))))
   refine c6 ((a + 1, _, _)) _ _ ?_ ?_ (.p rfl)
   ·
    refine ⟨m, by (rw [List.replicate_succ']; assumption), by omega, by (rw [List.replicate_succ'] <;> (first | omega | (simp only [List.length_append, List.length_cons, List.length_nil] <;> omega))), ?_⟩
    omega
   (dsimp only; omega)
  try simp only [sps] at d2
  refine .exit (e4 _ _ (.seq (fun K13 c8 => .region ?_)))
  obtain rfl : x = c.obj.toNat := by omega
  obtain rfl : a = c.src.length := by omega
  obtain rfl := b6
  obtain rfl := b5
  refine .q rfl (.loadM ag_27_D rfl ⟨rfl, Mem.of_get g⟩) ?_
  refine .q rfl (.loadM ag_27_D rfl ⟨rfl, Mem.of_get i⟩) ?_
  refine .mv rfl (.mv rfl ?_)
  refine .call rfl rfl rfl rfl @Try.call129 rfl (l06MakeO_c hin hin1 (Ints.of_get u) (Ints.of_get w) s1 s2 (by simp; omega) (by simp; omega)) ?_
  rintro _ d0 ⟨a6, _, rfl, d4⟩
  replace f := f.trans a6
  replace g := a6.2 _ _ g
  replace i := a6.2 _ _ i
  replace a2 := a6.2 _ _ a2
  have b2 := d4
  have v : Keep HL2.next d0 d0 := fun _ _ _ h => h
  replace hin := e.mono f
  replace hin1 := b.mono f
  have l : Cat.At _ g3 0 c p := ⟨Mem.of_get g, hin⟩
  have t : Cat.At _ g4 0 d q := ⟨Mem.of_get i, hin1⟩
  refine .r0 rfl rfl (.fillA rfl sz_40_I rfl rfl rfl rfl) ?_
  rintro _ _ ⟨rfl, j, a8⟩
  replace f := f.st j (fun k hk => ⟨by omega, trivial⟩)
  replace g := j.s g
  replace i := j.s i
  replace v := Keep.st v j (fun k hb hk => ⟨by omega, trivial⟩)
  replace d4 := b2.keep v (Nat.le_refl _)
  replace hin := e.mono f
  replace hin1 := b.mono f
  clear l
  have l : Cat.At _ g3 0 c p := ⟨Mem.of_get g, hin⟩
  clear t
  have t : Cat.At _ g4 0 d q := ⟨Mem.of_get i, hin1⟩
  refine .nil (c8 _ _ (.ret (c0 _ _ (⟨_, _, _, _, rfl, ag_40_Hj, (by rfl), (Mem.of_get a8), ?_⟩))))
  exact ⟨f, _, rfl, (by assumption : FunO _ _ _ _ _).keep (.of_le (.refl _)) (by omega)⟩
end Go.Proofs.Ytfanjkbaemhbmaa
namespace Go.Proofs.Ytfanjkbaemhbmaa
open Go Go.GL Go.RowKit Go.Proofs
end Go.Proofs.Ytfanjkbaemhbmaa
namespace Go.Proofs.Ytfanjkbaemhbmaa
open Go Go.GL Go.RowKit Go.Proofs
theorem l02Fits_c {c : Cat} {p : CatP} {H : GHeap} (hin : c.In H p := by assumption) :
    GCalls Try.prog 105 [.agg (c.cells p).toArray] H (Ret (.bool (B (c.obj ≤ 8 ∧ c.src.length ≤ 40))) H) := by
  refine GCalls.ret rfl ?_
  refine GCalls.body (N := 12) (rs := [.tmp 2]) Try.func105 rfl rfl rfl rfl (fun Qx d hend => ?_)
  refine .fg [0] rfl ?_
  have b := GHeap.Le.refl H
  have a := hin
  refine .seq (fun K1 g => .region ?_)
  refine .R rfl (.boxR rfl sz_27_D rfl) ?_
  rintro _ _ ⟨g1, rfl, f, _, i⟩
  replace b := b.trans f
  replace hin := a.mono b
  have h : Cat.At _ g1 0 c p := ⟨Mem.of_get i, hin⟩
  obtain ⟨_, _, -, -, -, -, -, -, -⟩ := h.get
  refine .mv rfl (.nil (g _ _ (.seq (fun K2 e => .region (.q rfl (.fieldAddr fo_27_0_B rfl) (.q rfl (.lA on_2_A rfl) (.q rfl (.cmp rfl rfl rfl) (.mv rfl ?_))))))))
  refine .split (fun h6 => ?_) (fun h6 => ?_)
  ·
   try simp only [sps] at h6
   refine .qg rfl (.fieldAddr fo_27_1_B rfl) (.qg rfl (.lA on_24_B rfl) (.qg rfl (.len sl_24_A rfl) (.qg rfl (.cmp rfl rfl rfl) (.q rfl (.pickT rfl rfl) (.mv rfl (.nil (e _ _ (.ret (d _ _ (⟨_, rfl, ?_⟩))))))))))
   exact ⟨congrArg _ (by unfold B; first | (rw [decide_eq_decide]; omega) | (rw [decide_eq_false_iff_not]; omega)), b⟩
  try simp only [sps] at h6
  refine .z rfl (.z rfl (.z rfl (.z rfl (.q rfl (.pickF rfl rfl) (.mv rfl (.nil (e _ _ (.ret (d _ _ (⟨_, rfl, ?_⟩))))))))))
  exact ⟨congrArg _ (by unfold B; first | (rw [decide_eq_decide]; omega) | (rw [decide_eq_false_iff_not]; omega)), b⟩
set_option maxHeartbeats 4000000 in
theorem l01Own2O_c {a : Option Addr} {pss : List (List Int)} {r : Nat → Option Addr} {H : GHeap} (h : Intss H a pss r := by assumption) (hl : pss.length ≤ 1048576 := by omega) (hl2 : ∀ i, (pss.getD i []).length ≤ 1048576) :
    GCalls Try.prog 109 [.slice a pss.length pss.length] H (fun v H' => H.Le H' ∧ ∃ g rr, v = .slice (some ⟨g, 0, none⟩) pss.length pss.length ∧ H'.get g = some (.row (slsL rr pss) 24 true) ∧ H.next ≤ g ∧ OwnL H.next H' 2 rr pss) := by
  refine GCalls.body (N := 21) (rs := [.tmp 2]) Try.func109 rfl rfl rfl rfl (fun Qx w hend => ?_)
  refine .fg [0] rfl ?_
  have t := GHeap.Le.refl H
  have m := h
  refine .seq (fun K1 a1 => .region (.mv rfl (.nil (a1 _ _ (.seq (fun K2 a3 => .region ?_))))))
  refine .R rfl (.litA rfl sl_25_B ze_24_Hj rfl rfl rfl rfl) ?_
  rintro _ H5 ⟨g5, rfl, a5, _, z⟩
  replace t := t.trans a5
  have _ := GHeap.ltg z
  refine .mv rfl (.nil (a3 _ _ (.seq (fun K3 a4 => .seq (fun K4 b0 => .region (.mv rfl (.nil (b0 _ _ (.block ?_)))))))))
  refine .loopF (σ := Nat × (Nat → Option Addr) × Nat × Nat) [0] (fun (i, rr, e, o) => [(4, some (.int .i64 (i : Int))), (3, some (.slice (some ⟨e, 0, none⟩) o o))]) (fun (i, rr, e, o) H' => St [g5] H5 H' ∧ H'.get e = some (.row ((slsL rr (pss.take i))) 24 true) ∧ (e = g5 ∨ H5.next ≤ e) ∧ o = (slsL rr (pss.take i)).length ∧ i ≤ pss.length ∧ OwnL H.next H' 2 rr (pss.take i)) (fun (i, rr, e, o) => pss.length - i) ((0, fun _ => none, _, _)) rfl (.p rfl) ?_ ?_
  ·
   refine ⟨.refl _ _, by first | assumption | exact z | simpa using z, .inl rfl, by first | rfl | assumption | simp | omega, ?_⟩
   exact ⟨by omega, .nil _ _ _ _⟩
  rintro ⟨i, rr, e, o⟩ HL1 ⟨c, b, _, j, hI⟩ _ a0
  dsimp only [cA, nA]
  have _ : H.next ≤ e := by omega
  have _ := c.nx
  replace t := t.st c (fun k hk => ⟨by omega, trivial⟩)
  have _ := GHeap.ltg b
  replace h := m.mono t
  have rk := St.refl [e] HL1
  obtain ⟨_, hR⟩ := hI
  have u := b
  have _ : (pss.take i).length = i := by rw [List.length_take]; omega
  have _ : (slsL rr (pss.take i)).length = (pss.take i).length := length_slsL _ _
  have _ := hl2 i
  refine .seq (fun K5 a9 => .seq (fun K6 a7 => .region (.mv rfl (.mv rfl (.q rfl (.len sl_25_B rfl) (.q rfl (.cmp rfl rfl rfl) (.nil (a7 _ _ ?_))))))))
  refine .cond rfl ?_ ?_ <;> intro h9
  ·
   simp only [sps] at h9
   have u1 := h.2 i (by omega)
   refine .skip (a9 _ _ (.seq (fun K7 a6 => .block (.region (.mv rfl (.mv rfl (.mv rfl ?_)))))))
   refine .q rfl (.idxN sl_25_B (Intss.sl (by assumption)) rfl rfl (by omega)) ?_
   refine .q rfl (.loadR on_24_B (by assumption) rfl (by omega)) ?_
   refine .call rfl rfl rfl rfl @Try.call108 rfl (l01Own_c) ?_
   rintro _ _ ⟨l, a2, rfl, d, _⟩
   replace c := c.le l
   replace rk := rk.le l
   replace b := l.2 _ _ b
   have _ := GHeap.ltg d
   clear u1
   refine .R rfl (.litA rfl sl_25_B ze_24_Hj rfl rfl rfl rfl) ?_
   rintro _ _ ⟨_, rfl, f, _, y⟩
   replace c := c.le f
   replace rk := rk.le f
   replace b := f.2 _ _ b
   replace d := f.2 _ _ d
   have _ := GHeap.ltg y
   refine .R rfl (.appendV rfl sl_25_B ze_24_Hj rfl by_24_Hj sl_25_B rfl rfl (by assumption) (by assumption) (by first | omega | (simp <;> omega)) rfl rfl (by omega) (by omega)) ?_
   rintro _ _ ⟨_, rfl, n, _, _⟩
   replace c := c.sA n
   replace rk := rk.sA n
   replace d := n.s d
   refine .mv rfl (.nil (a6 _ _ (.region (.mv rfl (.q rfl (.aD rfl rfl rfl) (.mv rfl (.nil ?_)))))))
   refine a0 ((i + 1, upd rr (pss.take i).length (some ⟨a2, 0, none⟩), _, _)) _ _ ?_ ?_ (.p rfl)
   ·
    refine ⟨c, by first | assumption | (rw [take_snocZ (by omega), slsL_snoc]; assumption), by omega, by first | omega | (simp only [List.length_append, List.length_cons, List.length_nil] <;> omega) | (rw [take_snocZ (by omega), slsL_snoc] <;> (first | omega | (simp only [List.length_append, List.length_cons, List.length_nil] <;> omega))), ?_⟩
    exact ⟨by omega, by rw [take_snocZ (by omega)]; exact hR.snoc (x := pss.getD i []) (rk.lasts1 u rfl) (by assumption) (by omega) (by omega)⟩
   (dsimp only; omega)
  try simp only [sps] at h9
  refine .exit (a4 _ _ (.seq (fun K8 a8 => .region (.mv rfl (.mv rfl (.nil (a8 _ _ (.ret (w _ _ (⟨_, rfl, ?_⟩))))))))))
  obtain rfl : i = pss.length := by omega
  rw [List.take_length] at hR b j
  exact ⟨t, e, rr, by rw [j, length_slsL], b, by omega, hR⟩
set_option maxHeartbeats 4000000 in
theorem l02OwnO_c {c : Cat} {p : CatP} {H : GHeap} (hin : c.In H p := by assumption) (hs : c.Small := by assumption) :
    GCalls Try.prog 83 [.agg (c.cells p).toArray] H (NewCatO 2 24 H c) := by
  obtain ⟨_, _, _, _, n5, -⟩ := hs
  refine GCalls.body (N := 18) (rs := [.cell 2 27]) Try.func83 rfl rfl rfl rfl (fun Qx x hend => ?_)
  refine .fg [0] rfl ?_
  have d := GHeap.Le.refl H
  have a := hin
  refine .seq (fun K1 a2 => .region ?_)
  refine .R rfl (.boxR rfl sz_27_D rfl) ?_
  rintro _ _ ⟨g1, rfl, a8, _, e⟩
  replace d := d.trans a8
  have _ := GHeap.ltg e
  replace hin := a.mono d
  have g : Cat.At _ g1 0 c p := ⟨Mem.of_get e, hin⟩
  refine .R rfl (.allocR rfl ze_27_I rfl) ?_
  rintro _ _ ⟨_, rfl, a0, _, o⟩
  replace d := d.trans a0
  replace e := a0.2 _ _ e
  have _ := GHeap.ltg o
  replace hin := a.mono d
  clear g
  have g : Cat.At _ g1 0 c p := ⟨Mem.of_get e, hin⟩
  obtain ⟨a4, a3, a5, a7, b5, b0, -, -, -⟩ := g.get
  refine .nil (a2 _ _ (.seq (fun K2 a6 => ?_)))
  refine .regionD mo_B (.qs [0, 1, 2, 3, 5, 6, 8, 9, 11, 12] (.c 4 1 (.c 7 1 (.c 10 1 (.c 13 1 (.q 14 (.c 15 0 (.done)))))))) (by kernel_rfl) ?_
  refine .q rfl (.fieldAddr fo_27_0_B rfl) (.q rfl (.lA on_2_A rfl) (.q rfl (.fieldAddr fo_27_1_B rfl) (.q rfl (.lA on_24_B rfl) (.q rfl (.fieldAddr fo_27_2_B rfl) (.q rfl (.lA on_24_B rfl) (.q rfl (.fieldAddr fo_27_3_B rfl) (.q rfl (.lA on_24_B rfl) (.q rfl (.fieldAddr fo_27_4_B rfl) (.q rfl (.lA on_25_B rfl) ?_)))))))))
  refine .call1 rfl rfl rfl rfl rfl @Try.call108 rfl (l01Own_c) ?_
  rintro _ _ ⟨w, g7, rfl, r, _⟩
  have l := w
  refine ⟨l, ?_⟩
  replace d := d.trans w
  replace e := w.2 _ _ e
  replace o := w.2 _ _ o
  have _ := GHeap.ltg r
  replace hin := a.mono d
  clear g a4 a3 a5 a7 b5 b0
  have g : Cat.At _ g1 0 c p := ⟨Mem.of_get e, hin⟩
  obtain ⟨-, -, -, -, -, -, a9, -, -⟩ := g.get
  refine .call1 rfl rfl rfl rfl rfl @Try.call108 rfl (l01Own_c) ?_
  rintro _ _ ⟨n, a1, rfl, f, _⟩
  replace l := l.trans n
  refine ⟨l, ?_⟩
  replace d := d.trans n
  replace e := n.2 _ _ e
  replace o := n.2 _ _ o
  replace r := n.2 _ _ r
  have _ := GHeap.ltg f
  replace hin := a.mono d
  clear g a9
  have g : Cat.At _ g1 0 c p := ⟨Mem.of_get e, hin⟩
  obtain ⟨-, -, -, -, -, -, -, b3, -⟩ := g.get
  refine .call1 rfl rfl rfl rfl rfl @Try.call108 rfl (l01Own_c) ?_
  rintro _ _ ⟨i, b4, rfl, j, _⟩
  replace l := l.trans i
  refine ⟨l, ?_⟩
  have _ := i.1
  replace d := d.trans i
  replace e := i.2 _ _ e
  replace o := i.2 _ _ o
  replace r := i.2 _ _ r
  replace f := i.2 _ _ f
  have _ := GHeap.ltg j
  replace hin := a.mono d
  clear g b3
  have g : Cat.At _ g1 0 c p := ⟨Mem.of_get e, hin⟩
  obtain ⟨-, -, -, -, -, -, -, -, b2⟩ := g.get
  refine .call1 rfl rfl rfl rfl rfl @Try.call109 rfl (l01Own2O_c (hl2 := n5)) ?_
  rintro _ _ ⟨h, b1, y, rfl, u, _, v⟩
  replace l := l.trans h
  refine ⟨l, ?_⟩
  replace d := d.trans h
  replace e := h.2 _ _ e
  replace o := h.2 _ _ o
  replace r := h.2 _ _ r
  replace f := h.2 _ _ f
  replace j := h.2 _ _ j
  replace hin := a.mono d
  clear g b2
  have g : Cat.At _ g1 0 c p := ⟨Mem.of_get e, hin⟩
  refine .m rfl rfl rfl rfl l (.build bt_27_Hj rfl rfl rfl) ?_
  have z := o
  refine .r0 rfl rfl rfl (.fillA rfl sz_27_D rfl rfl rfl rfl) ?_
  rintro _ _ ⟨rfl, b, t⟩
  replace d := d.st b (fun k hk => ⟨by omega, trivial⟩)
  replace e := b.s e
  replace r := b.s r
  replace f := b.s f
  replace j := b.s j
  replace u := b.s u
  replace hin := a.mono d
  clear g
  have g : Cat.At _ g1 0 c p := ⟨Mem.of_get e, hin⟩
  refine .done (a6 _ _ (.ret (x _ _ (⟨_, _, _, _, rfl, ag_27_D, (by rfl), (Mem.of_get t), ?_⟩))))
  exact ⟨d, g7, a1, b4, b1, y, rfl, r, f, j, u, by omega, by omega, by omega, by omega, by omega, by omega, by omega, (v.st b (.cons (v.neT z rfl) (.nil _ _))).low (by omega), v.lowNe (by omega), v.lowNe (by omega), v.lowNe (by omega)⟩
end Go.Proofs.Ytfanjkbaemhbmaa
