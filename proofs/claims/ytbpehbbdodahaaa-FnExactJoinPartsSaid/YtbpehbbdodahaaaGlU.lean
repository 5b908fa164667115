/- Lists that are written over: what marking leaves, and what it finds again. No condition. -/
import Derived.Test.YtbpehbbdodahaaaGlV
import Derived.Test.YtbpehbbdodahaaaGlQ
namespace Go.GL

/-- A row may have turned only into another one of as many numbers, and only among the rows lo .. hi - 1. -/
structure StM (lo hi : Nat) (H H' : GHeap) : Prop where
  nx : H.next ≤ H'.next
  same : ∀ k o, ¬ (lo ≤ k ∧ k < hi) → H.get k = some o → H'.get k = some o
  ins : ∀ k o, H.get k = some o → ∃ o', H'.get k = some o' ∧ (o' = o ∨ ∃ xs ys e, o = .row (ints xs) e true ∧ o' = .row (ints ys) e true ∧ ys.length = xs.length)
theorem StM.refl (lo hi : Nat) (H : GHeap) : StM lo hi H H := ⟨Nat.le_refl _, fun _ _ _ h => h, fun _ o h => ⟨o, h, .inl rfl⟩⟩
theorem StM.of_le {lo hi : Nat} {H H' : GHeap} (h : H.Le H') : StM lo hi H H' := ⟨h.1, fun k o _ ho => h.2 k o ho, fun _ o ho => ⟨o, h.2 _ _ ho, .inl rfl⟩⟩
theorem ints_inj {xs ys : List Int} (h : ints xs = ints ys) : xs = ys := by
  unfold ints at h
  exact (List.map_inj_right (fun a b hab => by cases hab; rfl)).1 h
theorem StM.trans {lo hi : Nat} {A B C : GHeap} (h : StM lo hi A B) (k : StM lo hi B C) : StM lo hi A C where
  nx := Nat.le_trans h.nx k.nx
  same g o hg ho := k.same g o hg (h.same g o hg ho)
  ins g o ho := by
    obtain ⟨o1, h1, h2⟩ := h.ins g o ho
    obtain ⟨o2, k1, k2⟩ := k.ins g o1 h1
    refine ⟨o2, k1, ?_⟩
    rcases h2 with rfl | ⟨xs, ys, e, rfl, rfl, hl⟩
    · exact k2
    · rcases k2 with rfl | ⟨us, vs, e', h3, rfl, hl'⟩
      · exact .inr ⟨xs, ys, e, rfl, rfl, hl⟩
      · injection h3 with h3 h4 h5
        have := ints_inj h3
        subst this
        subst h4
        exact .inr ⟨xs, vs, _, rfl, rfl, by rw [hl', hl]⟩
theorem StM.le_left {lo hi : Nat} {A B C : GHeap} (h : A.Le B) (k : StM lo hi B C) (hA : A.next ≤ lo) : A.Le C :=
  ⟨Nat.le_trans h.1 k.nx, fun g o ho => k.same g o (by have := GHeap.lt_of_get ho; omega) (h.2 g o ho)⟩
theorem Keep.stM {b lo hi : Nat} {H0 H H' : GHeap} (k : Keep b H0 H) (h : StM lo hi H H') (hg : ∀ k, b ≤ k → k < H0.next → ¬ (lo ≤ k ∧ k < hi)) : Keep b H0 H' := fun g o hb h1 => h.same g o (hg g hb (GHeap.lt_of_get h1)) (k g o hb h1)

/-- A list that may be written over: its row lies among lo .. hi - 1. -/
def IntsW (lo hi : Nat) (H : GHeap) (a : Option Addr) (n : Nat) : Prop := n = 0 ∨ ∃ g e xs, a = some ⟨g, 0, none⟩ ∧ lo ≤ g ∧ g < hi ∧ H.get g = some (.row (ints xs) e true) ∧ xs.length = n
theorem IntsW.stm {lo hi : Nat} {H H' : GHeap} {a : Option Addr} {n : Nat} (h : IntsW lo hi H a n) (s : StM lo hi H H') : IntsW lo hi H' a n := by
  rcases h with h | ⟨g, e, xs, h1, h2, h3, h4, h5⟩
  · exact .inl h
  · obtain ⟨o', k1, k2⟩ := s.ins g _ h4
    rcases k2 with rfl | ⟨us, vs, e', h6, rfl, hl⟩
    · exact .inr ⟨g, e, xs, h1, h2, h3, k1, h5⟩
    · injection h6 with h6 h7 h8
      have := ints_inj h6
      subst this
      exact .inr ⟨g, e', vs, h1, h2, h3, k1, by rw [hl, h5]⟩
theorem IntsW.of_at {b : Nat} {H0 H : GHeap} {a : Option Addr} {xs : List Int} (h : IntsAt b H0 a xs) (k : Keep b H0 H) : IntsW b H0.next H a xs.length := by
  obtain ⟨g, e, h1, h2, h3⟩ := h
  exact .inr ⟨g, e, xs, h1, h2, GHeap.lt_of_get h3, k g _ h2 h3, rfl⟩
/-- A list's row, if it has one, is not below b. -/
def HdGe (b : Nat) (a : Option Addr) (n : Nat) : Prop := n = 0 ∨ ∃ g o, a = some ⟨g, o, none⟩ ∧ b ≤ g
theorem HdGe.le {b b' : Nat} {a : Option Addr} {n : Nat} (h : HdGe b a n) (hb : b' ≤ b) : HdGe b' a n := h.imp id fun ⟨g, o, h1, h2⟩ => ⟨g, o, h1, Nat.le_trans hb h2⟩
theorem SlA.keep {b b' : Nat} {H H' : GHeap} {a : Option Addr} {n : Nat} {f : Nat → Value} (h : SlA H a n f) (hd : HdGe b a n) (k : Keep b' H H') (hb : b' ≤ b) : SlA H' a n f := by
  rcases hd with h0 | ⟨g, o, rfl, hg⟩
  · exact .inl h0
  · rcases h with h0 | ⟨g', o', e, hc⟩
    · exact .inl h0
    · cases e
      refine .inr ⟨g, o, rfl, fun i hi => ?_⟩
      have h1 := hc i hi
      unfold GHeap.cell at h1 ⊢
      cases hx : H.get g with
      | none => rw [hx] at h1; cases h1
      | some x => rw [hx] at h1; rw [k g x (by omega) hx]; exact h1
def IntssW (lo hi : Nat) (H : GHeap) (a : Option Addr) (xss : List (List Int)) (r : Nat → Option Addr) : Prop :=
  SlA H a xss.length (fun i => .slice (r i) (xss.getD i []).length (xss.getD i []).length) ∧ (∀ i, i < xss.length → IntsW lo hi H (r i) (xss.getD i []).length) ∧ HdGe lo a xss.length
theorem SlA.stm {lo hi : Nat} {H H' : GHeap} {a : Option Addr} {n : Nat} {f : Nat → Value} (h : SlA H a n f) (s : StM lo hi H H') (hf : ∀ i m, f i ≠ .int .i64 m) : SlA H' a n f := by
  rcases h with h | ⟨g, o, e, h⟩
  · exact .inl h
  · refine .inr ⟨g, o, e, fun i hi => ?_⟩
    have hc := h i hi
    unfold GHeap.cell at hc ⊢
    split at hc
    · rename_i cs el own hg
      obtain ⟨o', k1, k2⟩ := s.ins g _ hg
      rw [k1]
      rcases k2 with rfl | ⟨us, vs, e', h6, rfl, hl⟩
      · exact hc
      · injection h6 with h6 h7 h8
        subst h6
        exfalso
        simp only [ints, List.getElem?_map, Option.map_eq_some_iff] at hc
        obtain ⟨m, _, hm⟩ := hc
        exact hf i m hm.symm
    · cases hc
theorem IntssW.stm {lo hi : Nat} {H H' : GHeap} {a : Option Addr} {xss : List (List Int)} {r : Nat → Option Addr} (h : IntssW lo hi H a xss r) (s : StM lo hi H H') : IntssW lo hi H' a xss r :=
  ⟨h.1.stm s fun i m e => (by cases e), fun i hi => (h.2.1 i hi).stm s, h.2.2⟩
theorem IntssW.of_at {b : Nat} {H0 H : GHeap} {a : Option Addr} {xss : List (List Int)} {r : Nat → Option Addr} (h : IntssAt b H0 a xss r) (k : Keep b H0 H) : IntssW b H0.next H a xss r :=
  ⟨(h.keep k (Nat.le_refl _)).intss.1, fun i hi => by obtain ⟨g, e, cs, _, _, _, _, _, h6⟩ := h; exact .of_at (h6 i hi) k, by obtain ⟨g, e, cs, h1, h2, _⟩ := h; exact .inr ⟨g, 0, h1, h2⟩⟩
def sumL : List (List Int) → Nat
  | [] => 0
  | xs :: r => xs.length + sumL r
theorem sumL_take_succ {xss : List (List Int)} {k : Nat} (h : k < xss.length) : sumL (xss.take (k + 1)) = sumL (xss.take k) + (xss.getD k []).length := by
  induction xss generalizing k with
  | nil => simp at h
  | cons x r ih =>
    cases k with
    | zero => simp [sumL]
    | succ k =>
      have := ih (k := k) (by simpa using h)
      simp only [List.take_succ_cons, sumL, List.getD_cons_succ]
      omega
theorem sumL_le {m : Nat} : ∀ {xss : List (List Int)}, (∀ i, (xss.getD i []).length ≤ m) → sumL xss ≤ xss.length * m
  | [], _ => by simp [sumL]
  | x :: r, h => by
    have h0 := h 0
    have := sumL_le (xss := r) fun i => by simpa using h (i + 1)
    simp only [sumL, List.length_cons, Nat.add_mul]
    simp at h0
    omega
theorem sumL_take_le {xss : List (List Int)} {k : Nat} : sumL (xss.take k) ≤ sumL xss := by
  induction xss generalizing k with
  | nil => simp
  | cons x r ih =>
    cases k with
    | zero => simp [sumL]
    | succ k => simp only [List.take_succ_cons, sumL]; have := ih (k := k); omega
def Cat.total (c : Cat) : Nat := c.src.length + (c.tgt.length + (c.idn.length + sumL c.comp))
def CatW (lo hi : Nat) (H : GHeap) (c : Cat) (p : CatP) : Prop := IntsW lo hi H p.a1 c.src.length ∧ IntsW lo hi H p.a2 c.tgt.length ∧ IntsW lo hi H p.a3 c.idn.length ∧ IntssW lo hi H p.a4 c.comp p.r
theorem CatW.stm {lo hi : Nat} {H H' : GHeap} {c : Cat} {p : CatP} (h : CatW lo hi H c p) (s : StM lo hi H H') : CatW lo hi H' c p := ⟨h.1.stm s, h.2.1.stm s, h.2.2.1.stm s, h.2.2.2.stm s⟩
theorem CatW.of_at {b : Nat} {H0 H : GHeap} {c : Cat} {p : CatP} (h : CatAt b H0 c p) (k : Keep b H0 H) : CatW b H0.next H c p := ⟨.of_at h.1 k, .of_at h.2.1 k, .of_at h.2.2.1 k, .of_at h.2.2.2 k⟩
def Fun.total (f : Fun) : Nat := f.s.total + (f.t.total + (f.ob.length + f.ar.length))
def FunW (lo hi : Nat) (H : GHeap) (f : Fun) (p : FunP) : Prop := CatW lo hi H f.s p.s ∧ CatW lo hi H f.t p.t ∧ IntsW lo hi H p.b1 f.ob.length ∧ IntsW lo hi H p.b2 f.ar.length
theorem FunW.stm {lo hi : Nat} {H H' : GHeap} {c : Fun} {p : FunP} (h : FunW lo hi H c p) (s : StM lo hi H H') : FunW lo hi H' c p := ⟨h.1.stm s, h.2.1.stm s, h.2.2.1.stm s, h.2.2.2.stm s⟩
theorem FunW.of_at {b : Nat} {H0 H : GHeap} {c : Fun} {p : FunP} (h : FunAt b H0 c p) (k : Keep b H0 H) : FunW b H0.next H c p := ⟨.of_at h.1 k, .of_at h.2.1 k, .of_at h.2.2.1 k, .of_at h.2.2.2 k⟩
def Con.total (c : Con) : Nat := c.lg.length
def ConW (lo hi : Nat) (H : GHeap) (c : Con) (p : ConP) : Prop := IntsW lo hi H p.a1 c.lg.length
theorem ConW.stm {lo hi : Nat} {H H' : GHeap} {c : Con} {p : ConP} (h : ConW lo hi H c p) (s : StM lo hi H H') : ConW lo hi H' c p := IntsW.stm h s
theorem ConW.of_at {b : Nat} {H0 H : GHeap} {c : Con} {p : ConP} (h : ConAt b H0 c p) (k : Keep b H0 H) : ConW b H0.next H c p := IntsW.of_at h k

/-! ### Results: their own rows, no two alike. -/
def seqL (k : Int) (n : Nat) : List Int := (List.range n).map fun (i : Nat) => k + (i : Int)
@[simp] theorem length_seqL (k : Int) (n : Nat) : (seqL k n).length = n := by simp [seqL]
theorem seqL_get {k : Int} {n i : Nat} (h : i < n) : (seqL k n).getD i 0 = k + i := by simp [seqL, List.getD_eq_getElem?_getD, h]
/-- A leaf: where a list of n numbers lies, and its length. -/
abbrev Leaf := Option Addr × Nat
def lvBlk : Leaf → List Nat
  | (some a, _ + 1) => [a.block]
  | _ => []
def lvBlks (ls : List Leaf) : List Nat := ls.flatMap lvBlk
def lvSum : List Leaf → Nat
  | [] => 0
  | l :: r => l.2 + lvSum r
/-- All leaves are live, from row b on. -/
def Live1 (b : Nat) (H : GHeap) (l : Leaf) : Prop := l.2 = 0 ∨ ∃ g e xs, l.1 = some ⟨g, 0, none⟩ ∧ b ≤ g ∧ H.get g = some (.row (ints xs) e true) ∧ xs.length = l.2
def Lives (b : Nat) (H : GHeap) (ls : List Leaf) : Prop := ∀ l ∈ ls, Live1 b H l
/-- The leaves hold k, k + 1, .. in order. -/
def Held (b : Nat) (H : GHeap) : List Leaf → Int → Prop
  | [], _ => True
  | l :: r, k => (l.2 = 0 ∨ ∃ g e, l.1 = some ⟨g, 0, none⟩ ∧ b ≤ g ∧ H.get g = some (.row (ints (seqL k l.2)) e true)) ∧ Held b H r (k + l.2)
theorem Held.keep0 {b : Nat} {H H' : GHeap} : ∀ {ls : List Leaf} {k : Int}, Held b H ls k → Keep b H H' → Held b H' ls k
  | [], _, _, _ => trivial
  | _ :: _, _, h, hk => ⟨h.1.imp id fun ⟨g, e, h1, h2, h3⟩ => ⟨g, e, h1, h2, hk g _ h2 h3⟩, Held.keep0 h.2 hk⟩
theorem Held.append {b : Nat} {H : GHeap} : ∀ {ls ms : List Leaf} {k : Int}, Held b H ls k → Held b H ms (k + lvSum ls) → Held b H (ls ++ ms) k
  | [], _, _, _, h => by simpa [lvSum] using h
  | l :: r, ms, k, h, h' => ⟨h.1, Held.append h.2 (by rw [show k + (l.2 : Int) + (lvSum r : Int) = k + (lvSum (l :: r) : Int) by simp [lvSum]; omega]; exact h')⟩
/-- Only rows of bs have turned. -/
structure StB (bs : List Nat) (H H' : GHeap) : Prop where
  nx : H.next ≤ H'.next
  same : ∀ k o, ¬ k ∈ bs → H.get k = some o → H'.get k = some o
theorem StB.refl (bs : List Nat) (H : GHeap) : StB bs H H := ⟨Nat.le_refl _, fun _ _ _ h => h⟩
theorem StB.trans {bs cs : List Nat} {A B C : GHeap} (h : StB bs A B) (k : StB cs B C) : StB (bs ++ cs) A C :=
  ⟨Nat.le_trans h.nx k.nx, fun g o hg ho => k.same g o (fun hc => hg (List.mem_append_right _ hc)) (h.same g o (fun hc => hg (List.mem_append_left _ hc)) ho)⟩
theorem Live1.blk {b : Nat} {H : GHeap} {l : Leaf} (h : Live1 b H l) {g : Nat} {e : TypeId} {xs : List Int} (h1 : l.1 = some ⟨g, 0, none⟩) (hn : l.2 ≠ 0) : g ∈ lvBlk l := by
  obtain ⟨a, n⟩ := l
  simp only at h1 hn
  subst h1
  cases n with
  | zero => exact absurd rfl hn
  | succ n => simp [lvBlk]
theorem Lives.stB {b : Nat} {H H' : GHeap} {ls : List Leaf} {bs : List Nat} (h : Lives b H ls) (s : StB bs H H') (hd : ∀ g ∈ lvBlks ls, ¬ g ∈ bs) : Lives b H' ls := fun l hl => by
  by_cases hn : l.2 = 0
  · exact .inl hn
  · rcases h l hl with h0 | ⟨g, e, xs, h1, h2, h3, h4⟩
    · exact .inl h0
    · exact .inr ⟨g, e, xs, h1, h2, s.same g _ (hd g (List.mem_flatMap.2 ⟨l, hl, (h l hl).blk (e := e) (xs := xs) h1 hn⟩)) h3, h4⟩
theorem Live1.keep {b : Nat} {H H' : GHeap} {l : Leaf} (h : Live1 b H l) (k : Keep b H H') : Live1 b H' l := h.imp id fun ⟨g, e, xs, h1, h2, h3, h4⟩ => ⟨g, e, xs, h1, h2, k g _ h2 h3, h4⟩
theorem Lives.keep {b : Nat} {H H' : GHeap} {ls : List Leaf} (h : Lives b H ls) (k : Keep b H H') : Lives b H' ls := fun l hl => (h l hl).keep k
theorem Held.stB {b : Nat} {H H' : GHeap} {bs : List Nat} (s : StB bs H H') : ∀ {ls : List Leaf} {k : Int}, Held b H ls k → (∀ g ∈ lvBlks ls, ¬ g ∈ bs) → Held b H' ls k
  | [], _, _, _ => trivial
  | l :: r, k, h, hd => by
    refine ⟨?_, Held.stB s h.2 fun g hg => hd g (by simp only [lvBlks, List.flatMap_cons, List.mem_append]; exact .inr hg)⟩
    by_cases hn : l.2 = 0
    · exact .inl hn
    · rcases h.1 with h0 | ⟨g, e, h1, h2, h3⟩
      · exact .inl h0
      · have hl : Live1 b H l := .inr ⟨g, e, _, h1, h2, h3, by simp⟩
        exact .inr ⟨g, e, h1, h2, s.same g _ (hd g (by simp only [lvBlks, List.flatMap_cons, List.mem_append]; exact .inl (hl.blk (e := e) (xs := seqL k l.2) h1 hn))) h3⟩
theorem Lives.app {b : Nat} {H : GHeap} {ls ms : List Leaf} (h : Lives b H ls) (h' : Lives b H ms) : Lives b H (ls ++ ms) := fun l hl => (List.mem_append.1 hl).elim (h l) (h' l)
theorem lvBlks_append (ls ms : List Leaf) : lvBlks (ls ++ ms) = lvBlks ls ++ lvBlks ms := by simp [lvBlks]
theorem lvSum_append : ∀ (ls ms : List Leaf), lvSum (ls ++ ms) = lvSum ls + lvSum ms
  | [], ms => by simp [lvSum]
  | l :: r, ms => by simp only [List.cons_append, lvSum, lvSum_append r ms]; omega

/-- A result's list: none, or a row of its own. -/
def IntsR (b : Nat) (H : GHeap) (a : Option Addr) (xs : List Int) : Prop := (xs = [] ∧ a = none) ∨ IntsAt b H a xs
theorem IntsR.keep {b b' : Nat} {H H' : GHeap} {a : Option Addr} {xs : List Int} (h : IntsR b H a xs) (k : Keep b' H H') (hb : b' ≤ b) : IntsR b' H' a xs := h.imp id fun h => h.keep k hb
theorem IntsR.ints {b : Nat} {H : GHeap} {a : Option Addr} {xs : List Int} (h : IntsR b H a xs) : Ints H a xs := by
  rcases h with ⟨rfl, _⟩ | h
  · exact .inl rfl
  · exact h.ints
theorem IntsR.live {b : Nat} {H : GHeap} {a : Option Addr} {xs : List Int} (h : IntsR b H a xs) : Live1 b H (a, xs.length) := by
  rcases h with ⟨rfl, _⟩ | ⟨g, e, h1, h2, h3⟩
  · exact .inl rfl
  · exact .inr ⟨g, e, xs, h1, h2, h3, rfl⟩
def Con.leaves (c : Con) (p : ConP) : List Leaf := [(p.a1, c.lg.length)]
def ConR (b : Nat) (H : GHeap) (c : Con) (p : ConP) : Prop := IntsR b H p.a1 c.lg
theorem ConR.keep {b b' : Nat} {H H' : GHeap} {c : Con} {p : ConP} (h : ConR b H c p) (k : Keep b' H H') (hb : b' ≤ b) : ConR b' H' c p := IntsR.keep h k hb
theorem ConR.inn {b : Nat} {H : GHeap} {c : Con} {p : ConP} (h : ConR b H c p) : c.In H p := IntsR.ints h
theorem ConR.lives {b : Nat} {H : GHeap} {c : Con} {p : ConP} (h : ConR b H c p) : Lives b H (c.leaves p) := fun l hl => by
  simp only [Con.leaves, List.mem_singleton] at hl
  subst hl
  exact h.live
theorem Con.nodup (c : Con) (p : ConP) : (lvBlks (c.leaves p)).Nodup := by
  simp only [Con.leaves, lvBlks, List.flatMap_cons, List.flatMap_nil, List.append_nil]
  unfold lvBlk
  split <;> simp
theorem Held.keep {b b' : Nat} {H H' : GHeap} {ls : List Leaf} {k : Int} (h : Held b H ls k) (hk : Keep b' H H') (hb : b' ≤ b) : Held b H' ls k := h.keep0 fun g o hg ho => hk g o (by omega) ho
theorem Held.app {b : Nat} {H : GHeap} : ∀ {ls ms : List Leaf} {k : Int}, Held b H (ls ++ ms) k → Held b H ls k ∧ Held b H ms (k + lvSum ls)
  | [], ms, k, h => ⟨trivial, by simpa [lvSum] using h⟩
  | l :: r, ms, k, h => by
    obtain ⟨h1, h2⟩ := Held.app (ls := r) h.2
    exact ⟨⟨h.1, h1⟩, by rw [show k + (lvSum (l :: r) : Int) = k + (l.2 : Int) + (lvSum r : Int) by simp [lvSum]; omega]; exact h2⟩
theorem Held.ints {b : Nat} {H : GHeap} {a : Option Addr} {n : Nat} {k : Int} (h : Held b H [(a, n)] k) : Ints H a (seqL k n) := by
  rcases h.1 with h0 | ⟨g, e, h1, h2, h3⟩
  · simp only at h0; subst h0; exact .inl (by simp)
  · simp only at h1 h3; subst h1; exact Ints.of_get h3

/-- What marking leaves. -/
structure Marked (lo hi : Nat) (H H' : GHeap) (ls : List Leaf) (k : Int) : Prop where
  stm : StM lo hi H H'
  stb : StB (lvBlks ls) H H'
  held : (lvBlks ls).Nodup → Held lo H' ls k
theorem Marked.nil (lo hi : Nat) (H : GHeap) (k : Int) : Marked lo hi H H [] k := ⟨.refl _ _ _, .refl _ _, fun _ => trivial⟩
theorem Marked.app {lo hi : Nat} {A B C : GHeap} {ls ms : List Leaf} {k : Int} (h : Marked lo hi A B ls k) (h' : Marked lo hi B C ms (k + lvSum ls)) : Marked lo hi A C (ls ++ ms) k where
  stm := h.stm.trans h'.stm
  stb := by rw [lvBlks_append]; exact h.stb.trans h'.stb
  held := fun nd => by
    rw [lvBlks_append, List.nodup_append] at nd
    exact ((h.held nd.1).stB h'.stb fun g hg hg' => nd.2.2 g hg g hg' rfl).append (h'.held nd.2.1)
theorem Marked.le_left {lo hi : Nat} {A B C : GHeap} {ls : List Leaf} {k : Int} (h : A.Le B) (m : Marked lo hi B C ls k) : Marked lo hi A C ls k :=
  ⟨⟨Nat.le_trans h.1 m.stm.nx, fun g o hg ho => m.stm.same g o hg (h.2 g o ho), fun g o ho => m.stm.ins g o (h.2 g o ho)⟩, ⟨Nat.le_trans h.1 m.stb.nx, fun g o hg ho => m.stb.same g o hg (h.2 g o ho)⟩, m.held⟩
theorem Marked.one {lo hi g : Nat} {H H' : GHeap} {e : TypeId} {xs : List Int} {k : Int} (hlo : lo ≤ g) (hhi : g < hi) (h0 : H.get g = some (.row (ints xs) e true)) (s : St [g] H H') (h1 : H'.get g = some (.row (ints (seqL k xs.length)) e true)) (hn : xs.length ≠ 0) :
    Marked lo hi H H' [(some ⟨g, 0, none⟩, xs.length)] k where
  stm := ⟨s.nx, fun i o hi ho => s.same i o ⟨by omega, trivial⟩ ho, fun i o ho => by
    by_cases hi : i = g
    · subst hi
      rw [h0] at ho; cases ho
      exact ⟨_, h1, .inr ⟨xs, seqL k xs.length, e, rfl, rfl, by simp⟩⟩
    · exact ⟨o, s.same i o ⟨hi, trivial⟩ ho, .inl rfl⟩⟩
  stb := ⟨s.nx, fun i o hi ho => s.same i o ⟨fun e' => hi (by
    subst e'
    cases hx : xs.length with
    | zero => exact absurd hx hn
    | succ m => simp [lvBlks, lvBlk]), trivial⟩ ho⟩
  held := fun _ => ⟨.inr ⟨g, e, rfl, hlo, h1⟩, trivial⟩
def rowsL (r : Nat → Option Addr) (xss : List (List Int)) (n : Nat) : List Leaf := (List.range n).map fun i => (r i, (xss.getD i []).length)
theorem rowsL_succ (r : Nat → Option Addr) (xss : List (List Int)) (n : Nat) : rowsL r xss (n + 1) = rowsL r xss n ++ [(r n, (xss.getD n []).length)] := by simp [rowsL, List.range_succ]
theorem lvSum_rowsL (r : Nat → Option Addr) (xss : List (List Int)) : ∀ n, n ≤ xss.length → lvSum (rowsL r xss n) = sumL (xss.take n)
  | 0, _ => by simp [rowsL, lvSum, sumL]
  | n + 1, h => by rw [rowsL_succ, lvSum_append, lvSum_rowsL r xss n (by omega), sumL_take_succ (by omega)]; simp [lvSum]
def Cat.leaves (c : Cat) (p : CatP) : List Leaf := [(p.a1, c.src.length)] ++ ([(p.a2, c.tgt.length)] ++ ([(p.a3, c.idn.length)] ++ rowsL p.r c.comp c.comp.length))
theorem Cat.lvSum_leaves (c : Cat) (p : CatP) : lvSum (c.leaves p) = c.total := by
  simp only [Cat.leaves, lvSum_append, lvSum, lvSum_rowsL p.r c.comp _ (Nat.le_refl _), List.take_length, Cat.total, Nat.add_zero]
def Fun.leaves (f : Fun) (p : FunP) : List Leaf := f.s.leaves p.s ++ (f.t.leaves p.t ++ ([(p.b1, f.ob.length)] ++ [(p.b2, f.ar.length)]))
theorem Fun.lvSum_leaves (c : Fun) (p : FunP) : lvSum (c.leaves p) = c.total := by
  simp only [Fun.leaves, lvSum_append, lvSum, Cat.lvSum_leaves, Fun.total, Nat.add_zero]
theorem Con.lvSum_leaves (c : Con) (p : ConP) : lvSum (c.leaves p) = c.total := by simp [Con.leaves, lvSum, Con.total]
theorem Cat.total_le {c : Cat} (h : c.Small) : c.total ≤ 3 * 1048576 + 1048576 * 1048576 := by
  obtain ⟨h1, h2, h3, h4, h5, _⟩ := h
  have := sumL_le (m := 1048576) h5
  have h6 : c.comp.length * 1048576 ≤ 1048576 * 1048576 := Nat.mul_le_mul_right _ h4
  unfold Cat.total
  omega
theorem Marked.app' {lo hi : Nat} {A B C : GHeap} {ls ms : List Leaf} {k k' : Int} (h : Marked lo hi A B ls k) (h' : Marked lo hi B C ms k') (e : k' = k + lvSum ls) : Marked lo hi A C (ls ++ ms) k := by subst e; exact h.app h'
theorem IntsW.of_r {b : Nat} {H0 H : GHeap} {a : Option Addr} {xs : List Int} (h : IntsR b H0 a xs) (k : Keep b H0 H) : IntsW b H0.next H a xs.length := by
  rcases h with ⟨rfl, _⟩ | h
  · exact .inl rfl
  · exact .of_at h k
theorem ConW.of_r {b : Nat} {H0 H : GHeap} {c : Con} {p : ConP} (h : ConR b H0 c p) (k : Keep b H0 H) : ConW b H0.next H c p := IntsW.of_r h k
theorem IntsW.keep {lo lo' hi : Nat} {H H' : GHeap} {a : Option Addr} {n : Nat} (h : IntsW lo hi H a n) (k : Keep lo' H H') (hb : lo' ≤ lo) : IntsW lo hi H' a n := h.imp id fun ⟨g, e, xs, h1, h2, h3, h4, h5⟩ => ⟨g, e, xs, h1, h2, h3, k g _ (by omega) h4, h5⟩
theorem IntssW.keep {lo lo' hi : Nat} {H H' : GHeap} {a : Option Addr} {xss : List (List Int)} {r : Nat → Option Addr} (h : IntssW lo hi H a xss r) (k : Keep lo' H H') (hb : lo' ≤ lo) : IntssW lo hi H' a xss r := ⟨h.1.keep h.2.2 k hb, fun i hi => (h.2.1 i hi).keep k hb, h.2.2⟩
theorem CatW.keep {lo lo' hi : Nat} {H H' : GHeap} {c : Cat} {p : CatP} (h : CatW lo hi H c p) (k : Keep lo' H H') (hb : lo' ≤ lo) : CatW lo hi H' c p := ⟨h.1.keep k hb, h.2.1.keep k hb, h.2.2.1.keep k hb, h.2.2.2.keep k hb⟩
theorem FunW.keep {lo lo' hi : Nat} {H H' : GHeap} {c : Fun} {p : FunP} (h : FunW lo hi H c p) (k : Keep lo' H H') (hb : lo' ≤ lo) : FunW lo hi H' c p := ⟨h.1.keep k hb, h.2.1.keep k hb, h.2.2.1.keep k hb, h.2.2.2.keep k hb⟩
theorem ConW.keep {lo lo' hi : Nat} {H H' : GHeap} {c : Con} {p : ConP} (h : ConW lo hi H c p) (k : Keep lo' H H') (hb : lo' ≤ lo) : ConW lo hi H' c p := IntsW.keep h k hb
theorem Cat.Small.tot {c : Cat} (h : c.Small) : c.total ≤ 3 * 1048576 + 1048576 * 1048576 := Cat.total_le h
theorem Fun.Small.tot {c : Fun} (h : c.Small) : c.total ≤ 8 * 1048576 + 2 * 1048576 * 1048576 := by
  obtain ⟨h1, h2, h3, h4⟩ := h
  have := h1.tot
  have := h2.tot
  unfold Fun.total
  omega
theorem Con.Small.tot {c : Con} (h : c.Small) : c.total ≤ 1048576 := by
  obtain ⟨_, h2⟩ := h
  unfold Con.total
  omega
end Go.GL
