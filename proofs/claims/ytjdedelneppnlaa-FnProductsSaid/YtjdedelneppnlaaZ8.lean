/- Lists of paths: structs of two numbers and a list. No condition. -/
import Derived.Test.YtjdedelneppnlaaZ7
namespace Go.GL
structure Pth where
  f : Int
  t : Int
  e : List Int
  g : Nat
def Pth.cs (p : Pth) : List Value := [.int .i64 p.f, .int .i64 p.t, .slice (some ⟨p.g, 0, none⟩) p.e.length p.e.length]
def pz : Pth := ⟨0, 0, [], 0⟩
def pcells (ps : List Pth) : List Value := ps.flatMap Pth.cs
theorem pcells_append (l r : List Pth) : pcells (l ++ r) = pcells l ++ pcells r := by simp [pcells]
theorem pcells_snoc (ps : List Pth) (p : Pth) : pcells (ps ++ [p]) = pcells ps ++ p.cs := by simp [pcells]
theorem pcells_len (ps : List Pth) : (pcells ps).length = ps.length * 3 := by
  induction ps with
  | nil => rfl
  | cons x r ih =>
    unfold pcells at ih ⊢
    simp only [List.flatMap_cons, List.length_append, Pth.cs, List.length_cons, List.length_nil] at ih ⊢
    omega
theorem split_at {ps : List Pth} {i : Nat} (hi : i < ps.length) : ∃ l r, ps = l ++ (ps.getD i pz :: r) ∧ l.length = i := by
  refine ⟨ps.take i, ps.drop (i + 1), ?_, by simp; omega⟩
  rw [List.getD_eq_getElem?_getD, List.getElem?_eq_getElem hi, Option.getD_some, ← List.drop_eq_getElem_cons hi, List.take_append_drop]
theorem pcells_get {ps : List Pth} {i j : Nat} (hi : i < ps.length) (hj : j < 3) : (pcells ps)[i * 3 + j]? = (ps.getD i pz).cs[j]? := by
  obtain ⟨l, r, e, hl⟩ := split_at hi
  have h1 := pcells_len l
  have h2 : pcells (ps.getD i pz :: r) = (ps.getD i pz).cs ++ pcells r := by simp [pcells]
  have h3 : (ps.getD i pz).cs.length = 3 := rfl
  conv => lhs; rw [e]
  rw [pcells_append, h2, List.getElem?_append_right (by omega), show i * 3 + j - (pcells l).length = j by omega, List.getElem?_append_left (by omega)]
theorem pcells_slA {H : GHeap} {g : Nat} {e : TypeId} {own : Bool} {ps : List Pth} (hg : H.get g = some (.row (pcells ps) e own)) : SlA H (some ⟨g, 0, none⟩) (ps.length * 3) (fun i => (pcells ps).getD i undef) :=
  .inr ⟨g, 0, rfl, fun i hi => by
    rw [GHeap.cell_of hg, Nat.zero_add]
    show _ = some ((pcells ps).getD i undef)
    rw [List.getD_eq_getElem?_getD, List.getElem?_eq_getElem (by rw [pcells_len]; exact hi)]; rfl⟩
theorem pcells_mem {H : GHeap} {g : Nat} {e : TypeId} {own : Bool} {ps : List Pth} (hg : H.get g = some (.row (pcells ps) e own)) {i : Nat} (hi : i < ps.length) : MemN H g (0 + (i : Int).toNat * 3) 3 (ps.getD i pz).cs := by
  refine ⟨rfl, fun j v hv => ?_⟩
  have hj : j < 3 := by
    have := (List.getElem?_eq_some_iff.1 hv).1
    exact this
  rw [GHeap.cell_of hg, Int.toNat_natCast, Nat.zero_add, pcells_get hi hj]
  exact hv
theorem pcells_set {ps : List Pth} {i : Nat} (q : Pth) (hi : i < ps.length) : setAll (pcells ps) (i * 3) q.cs = pcells (ps.set i q) := by
  obtain ⟨l, r, e, hl⟩ := split_at hi
  have h1 := pcells_len l
  have h2 : pcells ps = pcells l ++ ((ps.getD i pz).cs ++ pcells r) := by
    conv => lhs; rw [e]
    rw [pcells_append]
    simp [pcells]
  have h3 : ps.set i q = l ++ q :: r := by
    conv => lhs; rw [e]
    rw [← hl, List.set_append_right _ _ (Nat.le_refl _)]
    simp
  rw [h2, h3, show i * 3 = (pcells l).length by omega, setAll_gen q.cs (pcells l) (ps.getD i pz).cs (pcells r) rfl, pcells_append]
  simp [pcells]
def PthOk (b : Nat) (eI : TypeId) (N : Int) (H : GHeap) (ps : List Pth) : Prop := ∀ p ∈ ps, (0 ≤ p.f ∧ p.f ≤ N) ∧ (0 ≤ p.t ∧ p.t ≤ N) ∧ p.e.length ≤ ps.length ∧ b ≤ p.g ∧ H.get p.g = some (.row (ints p.e) eI true)
theorem PthOk.nil (b : Nat) (eI : TypeId) (N : Int) (H : GHeap) : PthOk b eI N H [] := fun p hp => by simp at hp
theorem PthOk.keep {b : Nat} {eI : TypeId} {N : Int} {H H' : GHeap} {ps : List Pth} (h : PthOk b eI N H ps) (s : Lasts eI H H') : PthOk b eI N H' ps := fun p hp => by
  obtain ⟨h1, h2, h3, h4, h5⟩ := h p hp
  exact ⟨h1, h2, h3, h4, s _ _ h5⟩
theorem PthOk.at {b : Nat} {eI : TypeId} {N : Int} {H : GHeap} {ps : List Pth} (h : PthOk b eI N H ps) {i : Nat} (hi : i < ps.length) : (0 ≤ (ps.getD i pz).f ∧ (ps.getD i pz).f ≤ N) ∧ (0 ≤ (ps.getD i pz).t ∧ (ps.getD i pz).t ≤ N) ∧ (ps.getD i pz).e.length ≤ ps.length ∧ b ≤ (ps.getD i pz).g ∧ H.get (ps.getD i pz).g = some (.row (ints (ps.getD i pz).e) eI true) :=
  h _ (by rw [List.getD_eq_getElem?_getD, List.getElem?_eq_getElem hi]; exact List.getElem_mem hi)
theorem PthOk.snoc {b : Nat} {eI : TypeId} {N : Int} {H : GHeap} {ps : List Pth} (h : PthOk b eI N H ps) {p : Pth} (h1 : 0 ≤ p.f ∧ p.f ≤ N) (h2 : 0 ≤ p.t ∧ p.t ≤ N) (h3 : p.e.length ≤ ps.length + 1) (h4 : b ≤ p.g) (h5 : H.get p.g = some (.row (ints p.e) eI true)) : PthOk b eI N H (ps ++ [p]) := fun q hq => by
  rw [List.length_append, List.length_singleton]
  rcases List.mem_append.1 hq with hq | hq
  · obtain ⟨a1, a2, a3, a4, a5⟩ := h q hq
    exact ⟨a1, a2, by omega, a4, a5⟩
  · obtain rfl := List.mem_singleton.1 hq
    exact ⟨h1, h2, h3, h4, h5⟩
theorem PthOk.set {b : Nat} {eI : TypeId} {N : Int} {H : GHeap} {ps : List Pth} (h : PthOk b eI N H ps) {i j : Nat} (hj : j < ps.length) : PthOk b eI N H (ps.set i (ps.getD j pz)) := fun q hq => by
  rw [List.length_set]
  rcases List.mem_or_eq_of_mem_set hq with hq | rfl
  · exact h q hq
  · exact h.at hj
def pw (t : Int) : Nat := if t ≤ 0 then 13 else if t ≤ 1 then 4 else 1
def pws (ps : List Pth) : Nat := (ps.map fun p => pw p.t).sum
def pwn (x : Nat) : Nat := if x = 0 then 0 else if x = 1 then 13 else if x = 2 then 17 else 18
theorem pw_pos (t : Int) : 1 ≤ pw t := by
  unfold pw
  repeat' split
  all_goals omega
theorem pw_up {t u : Int} (h0 : 0 ≤ t) (h : t < u) (h2 : u ≤ 2) : 3 * pw u + 1 ≤ pw t := by
  unfold pw
  rw [if_neg (show ¬ u ≤ 0 by omega)]
  by_cases e : t ≤ 0
  · rw [if_pos e]
    split <;> omega
  · rw [if_neg e, if_pos (show t ≤ 1 by omega), if_neg (show ¬ u ≤ 1 by omega)]
    omega
theorem pwn_succ {x : Nat} (h : x ≤ 2) : pwn x + pw (x : Int) = pwn (x + 1) := by
  have : x = 0 ∨ x = 1 ∨ x = 2 := by omega
  rcases this with rfl | rfl | rfl <;> rfl
theorem pwn_le (x : Nat) : pwn x ≤ 18 := by
  unfold pwn
  repeat' split
  all_goals omega
theorem pws_snoc (ps : List Pth) (p : Pth) : pws (ps ++ [p]) = pws ps + pw p.t := by simp [pws]
theorem pws_ge (ps : List Pth) : ps.length ≤ pws ps := by
  induction ps with
  | nil => exact Nat.le_refl _
  | cons p r ih =>
    have := pw_pos p.t
    simp only [pws, List.map_cons, List.sum_cons, List.length_cons] at ih ⊢
    omega
theorem pws_drop {ps : List Pth} {k : Nat} (h : k < ps.length) : pws (ps.drop k) = pw (ps.getD k pz).t + pws (ps.drop (k + 1)) := by
  rw [List.drop_eq_getElem_cons h, List.getD_eq_getElem?_getD, List.getElem?_eq_getElem h]
  rfl
theorem pws_drop_snoc {ps : List Pth} {p : Pth} {k : Nat} (h : k ≤ ps.length) : pws ((ps ++ [p]).drop k) = pws (ps.drop k) + pw p.t := by
  rw [List.drop_append_of_le_length h, pws_snoc]
theorem pws_len {ps : List Pth} {k : Nat} (h : k ≤ ps.length) (h' : k + pws (ps.drop k) ≤ 18) : ps.length ≤ 18 := by
  have := pws_ge (ps.drop k)
  rw [List.length_drop] at this
  omega
def NewPaths (eI eP : TypeId) (N : Int) (H : GHeap) (v : Value) (H' : GHeap) : Prop := H.Le H' ∧ ∃ g ps, v = .slice (some ⟨g, 0, none⟩) ps.length ps.length ∧ H.next ≤ g ∧ H'.get g = some (.row (pcells ps) eP true) ∧ PthOk H.next eI N H' ps ∧ ps.length ≤ 18
end Go.GL
namespace Go.GL
structure PthK (b : Nat) (eI : TypeId) (N : Int) (H : GHeap) (ps : List Pth) : Prop where
  ok : PthOk b eI N H ps
theorem PthK.keep {b b' : Nat} {eI : TypeId} {N : Int} {H H' : GHeap} {ps : List Pth} (h : PthK b eI N H ps) (k : Keep b' H H') (hb : b' ≤ b) : PthK b eI N H' ps := ⟨fun p hp => by
  obtain ⟨h1, h2, h3, h4, h5⟩ := h.ok p hp
  exact ⟨h1, h2, h3, h4, k _ _ (Nat.le_trans hb h4) h5⟩⟩
theorem up_snoc {xs ys : List Int} {x y : Int} (hl : ys.length = xs.length) (h : ∀ e, e < xs.length → xs.getD e 0 < ys.getD e 0) (hxy : x < y) : ∀ e, e < (xs ++ [x]).length → (xs ++ [x]).getD e 0 < (ys ++ [y]).getD e 0 := fun e he => by
  rw [List.length_append, List.length_singleton] at he
  rw [getD_snoc, getD_snoc]
  by_cases e1 : e < xs.length
  · rw [if_pos e1, if_pos (by omega)]; exact h e e1
  · rw [if_neg e1, if_pos (by omega), if_neg (by omega), if_pos (by omega)]; exact hxy
def DrawnCat (TS : TypeId) (N : Nat) (gS : Nat) (H : GHeap) (v : Value) (H' : GHeap) : Prop := ∃ c p, v = .agg (c.cells p).toArray ∧ c.Rect N ∧ CatR H.next H' c p ∧ St [gS] H H' ∧ DSrc TS H' gS
theorem Keep.mono {b b' : Nat} {H H' : GHeap} (k : Keep b' H H') (h : b' ≤ b) : Keep b H H' := fun g o hb hg => k g o (Nat.le_trans h hb) hg
theorem Keep.trans {b : Nat} {A B C : GHeap} (k : Keep b A B) (k' : Keep b B C) : Keep b A C := fun g o hb hg => k' g o hb (k g o hb hg)
structure KIn (b : Nat) (H : GHeap) (c : Cat) (p : CatP) : Prop where
  all : ∀ H', Keep b H H' → c.In H' p
theorem KIn.inn {b : Nat} {H : GHeap} {c : Cat} {p : CatP} (h : KIn b H c p) : c.In H p := h.all _ (fun _ _ _ x => x)
theorem KIn.keep {b b' : Nat} {H H1 : GHeap} {c : Cat} {p : CatP} (h : KIn b H c p) (k : Keep b' H H1) (hb : b' ≤ b) : KIn b' H1 c p := ⟨fun H' k' => h.all H' ((k.trans k').mono hb)⟩
theorem CatR.kin {b : Nat} {H : GHeap} {c : Cat} {p : CatP} (h : CatR b H c p) : KIn b H c p := ⟨fun _ k => (h.keep k (Nat.le_refl _)).inn⟩
theorem KIn.parts {eI eS : TypeId} {b : Nat} {H : GHeap} {c : Cat} {g1 g2 g3 g4 : Nat} {rr : Nat → Option Addr} (a1 : H.get g1 = some (.row (ints c.src) eI true)) (b1 : b ≤ g1) (a2 : H.get g2 = some (.row (ints c.tgt) eI true)) (b2 : b ≤ g2) (a3 : H.get g3 = some (.row (ints c.idn) eI true)) (b3 : b ≤ g3) (a4 : H.get g4 = some (.row (slsL rr c.comp) eS true)) (b4 : b ≤ g4)
    (hr : ∀ i, i < c.comp.length → ∀ H', Keep b H H' → Ints H' (rr i) (c.comp.getD i [])) : KIn b H c (ownP g1 g2 g3 g4 rr) :=
  ⟨fun H' k => ⟨Ints.of_get (k _ _ b1 a1), Ints.of_get (k _ _ b2 a2), Ints.of_get (k _ _ b3 a3), .inr ⟨g4, 0, rfl, fun i hi => slsL_cell (k _ _ b4 a4) hi⟩, fun i hi => hr i hi H' k⟩⟩
theorem KIn.own {eI eS : TypeId} {b : Nat} {H : GHeap} {c : Cat} {g1 g2 g3 g4 : Nat} {rr : Nat → Option Addr} (a1 : H.get g1 = some (.row (ints c.src) eI true)) (b1 : b ≤ g1) (a2 : H.get g2 = some (.row (ints c.tgt) eI true)) (b2 : b ≤ g2) (a3 : H.get g3 = some (.row (ints c.idn) eI true)) (b3 : b ≤ g3) (a4 : H.get g4 = some (.row (slsL rr c.comp) eS true)) (b4 : b ≤ g4) (hR : OwnL b H eI rr c.comp) : KIn b H c (ownP g1 g2 g3 g4 rr) :=
  .parts a1 b1 a2 b2 a3 b3 a4 b4 fun i hi H' k => by
    obtain ⟨x, h1, h2, h3⟩ := hR.row i hi
    rw [h1]
    exact Ints.of_get (k _ _ h2 h3)
def DrawnK (TS : TypeId) (gS : Nat) (H : GHeap) (v : Value) (H' : GHeap) : Prop := ∃ c p, v = .agg (c.cells p).toArray ∧ c.Small ∧ KIn H.next H' c p ∧ St [gS] H H' ∧ DSrc TS H' gS
theorem getD_set_le {T : List (List Int)} {i N : Nat} {ys : List Int} (h : ∀ j, (T.getD j []).length ≤ N) (hy : ys.length ≤ N) (j : Nat) : ((T.set i ys).getD j []).length ≤ N := by
  rw [List.getD_eq_getElem?_getD, List.getElem?_set]
  by_cases e : i = j
  · subst e
    rw [if_pos rfl]
    split
    · exact hy
    · exact Nat.zero_le _
  · rw [if_neg e, ← List.getD_eq_getElem?_getD]
    exact h j
theorem Ints.tail {H : GHeap} {g : Nat} {xs : List Int} {e : TypeId} {own : Bool} (h : H.get g = some (.row (ints xs) e own)) : Ints H (some ⟨g, 1, none⟩) xs.tail := .inr ⟨g, 1, rfl, fun i hi => by
  rw [List.length_tail] at hi
  rw [GHeap.cell_of h, ints_get (by omega)]
  simp only [List.getD_eq_getElem?_getD, List.getElem?_tail, Nat.add_comm]⟩
theorem bend_set {eI : TypeId} {b gi f : Nat} {H H1 : GHeap} {T : List (List Int)} {rr : Nat → Option Addr} {ys : List Int} (hR : OwnL b H eI rr T) (s : St [gi] H H1) (hf : f < T.length) (hg : rr f = some ⟨gi, 0, none⟩) (hat : H1.get gi = some (.row (ints ys) eI true)) (hl : ys.length = (T.getD f []).length) :
    ∃ T', slsL rr T' = slsL rr T ∧ T'.length = T.length ∧ (∀ j, (T'.getD j []).length = (T.getD j []).length) ∧ OwnL b H1 eI rr T' :=
  ⟨T.set f ys, slsL_lens (by simp) (getD_set_len hl), by simp, getD_set_len hl, hR.setR s hf hg hat⟩
theorem bend_cut {eI : TypeId} {b gi f : Nat} {H : GHeap} {T : List (List Int)} {rr : Nat → Option Addr} (hR : OwnL b H eI rr T) (hf : f < T.length) (hg : rr f = some ⟨gi, 0, none⟩) {n : Nat} (hn : n = (T.getD f []).length - 1) :
    ∃ rr' T', (slsL rr T).set f (.slice (some ⟨gi, 1, none⟩) n n) = slsL rr' T' ∧ T'.length = T.length ∧ (∀ N, (∀ j, (T.getD j []).length ≤ N) → ∀ j, (T'.getD j []).length ≤ N) ∧ ∀ i, i < T'.length → ∀ H', Keep b H H' → Ints H' (rr' i) (T'.getD i []) := by
  refine ⟨upd rr f (some ⟨gi, 1, none⟩), T.set f (T.getD f []).tail, slsL_set hf (by rw [hn, List.length_tail]), by simp, fun N h => getD_set_le h (by rw [List.length_tail]; have := h f; omega), fun i hi H' k => ?_⟩
  rw [List.length_set] at hi
  obtain ⟨x, h1, h2, h3⟩ := hR.row i hi
  rw [getD_set2 hf]
  by_cases e : f = i
  · subst e
    rw [hg] at h1
    cases h1
    rw [upd_eq, if_pos rfl]
    exact Ints.tail (k _ _ h2 h3)
  · rw [upd_ne (Ne.symm e), if_neg e, h1]
    exact Ints.of_get (k _ _ h2 h3)
theorem vrel_place {ρ : Place} {a : Addr} {n : Nat} {c : Value} (h : VRel ρ (.slice (some a) n n) c) : ∃ s, ρ a.block = some s := by
  generalize hv : Value.slice (some a) n n = v at h
  cases h with
  | slice h' _ _ _ => cases hv; exact ⟨_, h'⟩
  | empty h' => cases hv; exact ⟨_, h'⟩
  | _ => cases hv
theorem imp1_code {P : Program} {t : TypeId} (ht : bytesDT P t = true) : Imp1 P t (fun H g => ∃ a xs, g = .slice a xs.length xs.length ∧ Bytes H a xs ∧ xs.length ≤ 9223372036854775807 ∧ ∀ b o t, a = some ⟨b, o, t⟩ → b < H.next) where
  mono h := fun ⟨a, xs, h1, h2, h3, h4⟩ => ⟨a, xs, h1, h2.mono h, h3, fun b o t e => Nat.lt_of_lt_of_le (h4 b o t e) h.1⟩
  imp := by
    intro T enc B w0 ρ H w held base fuel v x hs hB h hv
    obtain ⟨ρ', H', g, h1, h2, h3, h4, a, xs, rfl, h5, h6⟩ := (imp1_bytes ht).imp hs hB h hv
    refine ⟨ρ', H', _, h1, h2, h3, h4, a, xs, rfl, h5, h6, fun b o t e => ?_⟩
    subst e
    refine Nat.lt_of_not_le fun hb => ?_
    obtain ⟨s, hs'⟩ := vrel_place h4
    rw [h1.dom b hb] at hs'
    cases hs'
end Go.GL
namespace Go.GL
noncomputable def Cat.code (c : Cat) (xs : List Int) : Int := if B c.Is = true then (if allIn xs c.src.length = true then 0 else 2) else 1
theorem Cat.code_ok {c : Cat} {xs : List Int} : c.code xs = 0 ↔ c.Is ∧ allIn xs c.src.length = true := by
  unfold Cat.code
  by_cases h : c.Is
  · rw [if_pos (B_iff.2 h)]
    split
    · exact ⟨fun _ => ⟨h, by assumption⟩, fun _ => rfl⟩
    · exact ⟨fun e => by omega, fun e => absurd e.2 (by assumption)⟩
  · rw [if_neg (fun e => h (B_iff.1 e))]
    exact ⟨fun e => by omega, fun e => absurd e.1 h⟩
theorem Cat.code_not {c : Cat} {xs : List Int} (h : ¬ c.Is) : c.code xs = 1 := by
  unfold Cat.code
  rw [if_neg (fun e => h (B_iff.1 e))]
theorem Cat.code_out {c : Cat} {xs : List Int} (h : c.Is) (h' : ¬ allIn xs c.src.length = true) : c.code xs = 2 := by
  unfold Cat.code
  rw [if_pos (B_iff.2 h), if_neg h']
def Cat.ext (c : Cat) (f g : Int) : List Int := (c.hom (c.T g) (c.T f)).filter fun h => decide (c.th g h = f)
theorem filt_T {l : List Int} {P : Int → Bool} {k : Nat} (hk : k < l.length) (h : P (l.getD k 0) = true) : (l.take (k + 1)).filter P = (l.take k).filter P ++ [l.getD k 0] := by
  rw [List.take_add_one, List.getElem?_eq_getElem hk, List.filter_append]
  rw [List.getD_eq_getElem?_getD, List.getElem?_eq_getElem hk] at h ⊢
  simp only [Option.getD_some, Option.toList_some] at h ⊢
  rw [List.filter_cons, if_pos h, List.filter_nil]
theorem filt_F {l : List Int} {P : Int → Bool} {k : Nat} (hk : k < l.length) (h : P (l.getD k 0) = false) : (l.take (k + 1)).filter P = (l.take k).filter P := by
  rw [List.take_add_one, List.getElem?_eq_getElem hk, List.filter_append]
  rw [List.getD_eq_getElem?_getD, List.getElem?_eq_getElem hk] at h
  simp only [Option.getD_some, Option.toList_some] at h ⊢
  rw [List.filter_cons, if_neg (by rw [h]; simp), List.filter_nil, List.append_nil]
theorem filt_le (l : List Int) (P : Int → Bool) (k : Nat) : ((l.take k).filter P).length ≤ l.length := Nat.le_trans (List.length_filter_le _ _) (by rw [List.length_take]; omega)
theorem filtN_nd (n : Nat) (P : Nat → Bool) : (filtN n P).Nodup := by
  unfold filtN
  exact List.pairwise_map.2 ((List.nodup_range.sublist List.filter_sublist).imp fun h e => h (by omega))
end Go.GL
namespace Go.Proofs.Ytjdedelneppnlaa
open Go Go.GL Go.RowKit Go.Proofs
theorem sl_36_Fa : sliceT Try.prog 36 = some (5, 1) := by kernel_rfl
theorem big_c {a : Option Addr} {xs : List Int} {H : GHeap} : GCalls Try.prog 16 [.slice a xs.length xs.length] H (Ret (.bool (decide (4096 < (xs.length : Int)))) H) := by
  refine GCalls.body (N := 6) (rs := [.tmp 2]) Try.func16 rfl rfl rfl rfl (fun Qx b hend => ?_)
  refine .fg [0] rfl ?_
  refine .seq (fun K1 d => .region (.mv rfl (.nil (d _ _ (.seq (fun K2 c => .region (.mv rfl (.q rfl (.len sl_36_Fa rfl) (.q rfl (.cmp rfl rfl rfl) (.mv rfl (.nil (c _ _ ?_))))))))))))
  refine .ret ?_
  refine b _ _ ?_
  refine ⟨_, rfl, ?_⟩
  exact .mk
theorem likeInts_c {a b : Option Addr} {xs ys : List Int} {H : GHeap} (h : Ints H a xs := by assumption) (h' : Ints H b ys := by assumption) (hx : xs.length ≤ 1048576 := by omega) (hy : ys.length ≤ 1048576 := by omega) :
    GCalls Try.prog 22 [.slice a xs.length xs.length, .slice b ys.length ys.length] H (Ret (.bool (decide (xs = ys))) H) := by
  refine GCalls.body (N := 26) (rs := [.tmp 4]) Try.func22 rfl rfl rfl rfl (fun Qx c hend => ?_)
  refine .fg [0, 1] rfl ?_
  refine .seq (fun K1 x => .region (.mv rfl (.nil (x _ _ (.seq (fun K2 u => .seq (fun K3 s => .region (.mv rfl (.q rfl (.len sl_22_A rfl) (.mv rfl (.q rfl (.len sl_22_A rfl) (.q rfl (.cmp rfl rfl rfl) (.nil (s _ _ ?_))))))))))))))
  refine .cond rfl (fun m => ?_) (fun m => ?_)
  ·
   try simp only [sps] at m
   refine .seq (fun K4 p => .region (.mv rfl (.nil (p _ _ ?_))))
   refine .ret ?_
   refine c _ _ ?_
   refine ⟨_, rfl, ?_⟩
   exact .of (congrArg _ (decide_eq_false fun e => by subst e; first | omega | simp_all))
  try simp only [sps] at m
  refine .skip ?_
  refine u _ _ (.seq (fun K5 y => .seq (fun K6 w => .region (.mv rfl (.nil (w _ _ ?_))))))
  refine .block ?_
  refine .loopR (σ := Nat) [(0, some _), (1, some _)] (fun k => [(5, some (.int .i64 (k : Int)))]) (fun k H' => H = H' ∧ k ≤ xs.length ∧ ∀ i, i < k → xs.getD i 0 = ys.getD i 0) (fun k => xs.length - k) (0) ⟨rfl, rfl, trivial⟩ ⟨rfl, trivial⟩ ?_ ?_
  ·
   refine ⟨rfl, ?_⟩
   exact ⟨by omega, fun i hi => by omega⟩
  rintro k _ ⟨rfl, hI⟩ KL1 l
  refine .forget (fr' := [(5, some (.int .i64 (k : Int))), (0, some _), (1, some _)]) ⟨rfl, rfl, rfl, trivial⟩ ?_
  obtain ⟨hk, d⟩ := hI
  refine .seq (fun K7 t => .seq (fun K8 v => .region (.mv rfl (.mv rfl (.q rfl (.len sl_22_A rfl) (.q rfl (.cmp rfl rfl rfl) (.nil (v _ _ ?_))))))))
  refine .cond rfl (fun n => ?_) (fun n => ?_)
  ·
   try simp only [sps] at n
   refine .skip ?_
   refine t _ _ (.seq (fun K9 r => ?_))
   refine .block ?_
   refine .seq (fun K10 j => ?_)
   refine .regionD mo_B (.q 0 (.q 1 (.q 2 (.q 3 (.q 4 (.q 5 (.q 6 (.q 7 (.q 8 (.done)))))))))) (by kernel_rfl) ?_
   refine .mv rfl rfl (.mv rfl rfl ?_)
   refine .q rfl (.idxN sl_22_A (by assumption) rfl rfl (by omega)) ?_
   refine .q rfl (.loadI on_2_A (by assumption) rfl (by omega)) ?_
   refine .mv rfl rfl (.mv rfl rfl ?_)
   refine .q rfl (.idxN sl_22_A (by assumption) rfl rfl (by omega)) ?_
   refine .q rfl (.loadI on_2_A (by assumption) rfl (by omega)) ?_
   refine .q rfl (.cmp rfl rfl rfl) ?_
   refine .done ?_
   refine j _ _ ?_
   refine .cond rfl (fun g => ?_) (fun g => ?_)
   ·
    try simp only [sps] at g
    refine .seq (fun K11 o => .region (.mv rfl (.nil (o _ _ ?_))))
    refine .ret ?_
    refine c _ _ ?_
    refine ⟨_, rfl, ?_⟩
    exact .of (congrArg _ (decide_eq_false fun e => by subst e; first | omega | simp_all))
   try simp only [sps] at g
   refine .skip ?_
   refine r _ _ (.region (.mv rfl ?_))
   refine .q rfl (.add rfl rfl rfl (by omega) (by omega)) ?_
   refine .mv rfl (.nil ?_)
   refine l (k + 1) _ _ ?_ ?_ ⟨rfl, rfl, rfl, trivial⟩
   ·
    refine ⟨rfl, ?_⟩
    refine ⟨by omega, fun i hi => ?_⟩
    by_cases e : i < k
    · exact d i e
    · obtain rfl : i = k := by omega
      assumption
   omega
  try simp only [sps] at n
  refine .exit ?_
  refine y _ _ (.seq (fun K12 f => .region (.mv rfl (.nil (f _ _ ?_)))))
  refine .ret ?_
  refine c _ _ ?_
  refine ⟨_, rfl, ?_⟩
  exact .of (congrArg _ (decide_eq_true (eq_of_getD (by omega) fun i hi => d i (by omega))))
theorem arrowCode_c {g o : Nat} {c : Cat} {p : CatP} {a : Option Addr} {xs : List Int} {H : GHeap} (h : Cat.At H g o c p := by assumption) (hs : c.Small := by assumption) (hx : Ints H a xs := by assumption) (hl : xs.length ≤ 1048576 := by omega) :
    GCalls Try.prog 62 [.pointer (some ⟨g, o, none⟩), .slice a xs.length xs.length] H (Ret (.int .i64 (c.code xs)) H) := by
  obtain ⟨n1, n2, n3, n4, n5, n6⟩ := id hs
  refine GCalls.body (N := 13) (rs := [.tmp 4]) Try.func62 rfl rfl rfl rfl (fun Qx b hend => ?_)
  refine .fg [0, 1] rfl ?_
  refine .seq (fun K1 m => .region (.mv rfl (.nil (m _ _ (.seq (fun K2 j => .seq (fun K3 f => .region (.mv rfl ?_))))))))
  refine .callQ rfl rfl rfl rfl @Try.call46 rfl (isCategory_c) ?_
  refine .q rfl (.not rfl) (.nil (f _ _ ?_))
  refine .cond rfl (fun h7 => ?_) (fun h7 => ?_)
  ·
   try simp only [sps] at h7
   refine .seq (fun K4 e => .region (.mv rfl (.nil (e _ _ ?_))))
   refine .ret ?_
   refine b _ _ ?_
   refine ⟨_, rfl, ?_⟩
   exact .of (congrArg _ (Cat.code_not h7))
  try simp only [sps] at h7
  refine .skip ?_
  refine j _ _ (.seq (fun K5 n => .seq (fun K6 l => .region (.mv rfl (.mv rfl ?_)))))
  refine .callQ rfl rfl rfl rfl @Try.call110 rfl (arrows_c) ?_
  refine .callQ rfl rfl rfl rfl @Try.call103 rfl (within_c) ?_
  refine .q rfl (.not rfl) (.nil (l _ _ ?_))
  refine .cond rfl (fun d => ?_) (fun d => ?_)
  ·
   try simp only [sps] at d
   refine .seq (fun K7 i => .region (.mv rfl (.nil (i _ _ ?_))))
   refine .ret ?_
   refine b _ _ ?_
   refine ⟨_, rfl, ?_⟩
   exact .of (congrArg _ (Cat.code_out h7 (by rw [d]; simp)))
  try simp only [sps] at d
  refine .skip ?_
  refine n _ _ (.seq (fun K8 k => .region (.mv rfl (.nil (k _ _ ?_)))))
  refine .ret ?_
  refine b _ _ ?_
  refine ⟨_, rfl, ?_⟩
  exact .of (congrArg _ (Cat.code_ok.2 ⟨h7, allIn_iff.2 d⟩))
end Go.Proofs.Ytjdedelneppnlaa
namespace Go.Proofs.Ytjdedelneppnlaa
open Go Go.GL Go.RowKit Go.Proofs
end Go.Proofs.Ytjdedelneppnlaa
namespace Go.Proofs.Ytjdedelneppnlaa
open Go Go.GL Go.RowKit Go.Proofs
theorem l02Hom_c {c : Cat} {p : CatP} {x y : Int} {H : GHeap} (hin : c.In H p := by assumption) (hS : c.Shape := by assumption) :
    GCalls Try.prog 127 [.agg (c.cells p).toArray, .int .i64 x, .int .i64 y] H (NewInts 2 H (c.hom x y)) := by
  refine GCalls.body (N := 38) (rs := [.tmp 6]) Try.func127 rfl rfl rfl rfl (fun Qx t hend => ?_)
  refine .fg [0, 1, 2] rfl ?_
  have e := GHeap.Le.refl H
  have a := hin
  have q1 := hS.tl
  have q2 := hS.n40
  refine .seq (fun K1 b5 => .region ?_)
  refine .R rfl (.boxR rfl sz_29_D rfl) ?_
  rintro _ H3 ⟨g3, rfl, b6, ge3, d⟩
  replace e := e.trans b6
  have lt_at3 := GHeap.ltg d
  replace hin := a.mono e
  have j : Cat.At _ g3 0 c p := ⟨Mem.of_get d, hin⟩
  refine .mv rfl (.nil (b5 _ _ (.seq (fun K2 b0 => .region ?_))))
  refine .R rfl (.litA rfl sl_22_A ze_2_L rfl rfl rfl rfl) ?_
  rintro _ H9 ⟨g9, rfl, a4, ge9, a0⟩
  replace e := e.trans a4
  replace d := a4.2 _ _ d
  have lt_at9 := GHeap.ltg a0
  replace hin := a.mono e
  clear j
  have j : Cat.At _ g3 0 c p := ⟨Mem.of_get d, hin⟩
  replace a0 : GHeap.get H9 g9 = some (.row (ints []) 2 true) := a0
  refine .mv rfl (.nil (b0 _ _ (.seq (fun K3 b3 => .seq (fun K4 a7 => .region (.mv rfl (.nil (a7 _ _ ?_))))))))
  refine .block ?_
  refine .loopR (σ := Nat × Nat × Nat) [(1, some _), (2, some _), (3, some _)] (fun (k, h, l) => [(8, some (.int .i64 (k : Int))), (7, some (.slice (some ⟨h, 0, none⟩) l l))]) (fun (k, h, l) H' => St [g9] H9 H' ∧ H'.get h = some (.row (ints (filtN k fun f => decide (c.src.getD f 0 = x) && decide (c.tgt.getD f 0 = y))) 2 true) ∧ (h = g9 ∨ H9.next ≤ h) ∧ l = (filtN k fun f => decide (c.src.getD f 0 = x) && decide (c.tgt.getD f 0 = y)).length ∧ k ≤ c.src.length) (fun (k, h, l) => c.src.length - k) ((0, _, _)) ⟨rfl, rfl, rfl, trivial⟩ ⟨rfl, rfl, trivial⟩ ?_ ?_
  ·
   refine ⟨.refl _ _, by assumption, .inl rfl, by rfl, ?_⟩
   omega
  rintro ⟨k, h, l⟩ HL1 ⟨b, g, pl_L7, o, hI⟩ KL1 m
  refine .forget (fr' := [(8, some (.int .i64 (k : Int))), (7, some (.slice (some ⟨h, 0, none⟩) l l)), (1, some _), (2, some _), (3, some _)]) ⟨rfl, rfl, rfl, rfl, rfl, trivial⟩ ?_
  have r : H.next ≤ h := by omega
  have nx_HL1 := b.nx
  replace e := e.st b (fun k hk => ⟨by omega, trivial⟩)
  replace d := b.s d
  replace hin := a.mono e
  clear j
  have j : Cat.At _ g3 0 c p := ⟨Mem.of_get d, hin⟩
  obtain ⟨-, a9, a5, -, -, b1, a8, -, -⟩ := j.get
  have hfl := filtN_le k fun f => decide (c.src.getD f 0 = x) && decide (c.tgt.getD f 0 = y)
  refine .seq (fun K5 a6 => .seq (fun K6 b4 => .region (.mv rfl (.q rfl (.fieldAddr fo_29_1_B rfl) ?_))))
  refine .q rfl (.load on_22_B rfl (by first | assumption | exact Mem.of_get d 1 _ rfl)) ?_
  refine .q rfl (.len sl_22_A rfl) (.q rfl (.cmp rfl rfl rfl) (.nil (b4 _ _ ?_)))
  refine .cond rfl (fun w => ?_) (fun w => ?_)
  ·
   try simp only [sps] at w
   refine .skip ?_
   refine a6 _ _ (.seq (fun K7 u => ?_))
   refine .block ?_
   refine .seq (fun K8 a3 => .region (.q rfl (.fieldAddr fo_29_1_B rfl) ?_))
   refine .q rfl (.load on_22_B rfl (by first | assumption | exact Mem.of_get d 1 _ rfl)) ?_
   refine .mv rfl ?_
   refine .q rfl (.idxN sl_22_A (by assumption) rfl rfl (by omega)) ?_
   refine .q rfl (.loadI on_2_A (by assumption) rfl (by omega)) ?_
   refine .mv rfl (.q rfl (.cmp rfl rfl rfl) (.mv rfl ?_))
   refine .split (fun a2 => ?_) (fun a2 => ?_)
   ·
    try simp only [sps] at a2
    refine .qg rfl (.fieldAddr fo_29_2_B rfl) ?_
    refine .qg rfl (.load on_22_B rfl (by first | assumption | exact Mem.of_get d 2 _ rfl)) ?_
    refine .qg rfl (.move rfl) ?_
    refine .qg rfl (.idxN sl_22_A (by assumption) rfl rfl (by omega)) ?_
    refine .qg rfl (.loadI on_2_A (by assumption) rfl (by omega)) ?_
    refine .qg rfl (.move rfl) (.qg rfl (.cmp rfl rfl rfl) (.q rfl (.pickT rfl rfl) (.nil (a3 _ _ ?_))))
    refine .cond rfl (fun a1 => ?_) (fun a1 => ?_)
    ·
     try simp only [sps] at a1
     refine .region (.mv rfl (.mv rfl ?_))
     refine .R rfl (.litA rfl sl_22_A ze_2_L rfl rfl rfl rfl) ?_
     rintro _ H35 ⟨g35, rfl, i, ge35, v⟩
     replace e := e.trans i
     replace b := b.le i
     replace d := i.2 _ _ d
     replace g := i.2 _ _ g
     have lt_at35 := GHeap.ltg v
     replace hin := a.mono e
     clear j a9 a5 b1 a8
     have j : Cat.At _ g3 0 c p := ⟨Mem.of_get d, hin⟩
     refine .R rfl (.appendI rfl sl_22_A ze_2_L rfl by_2_L sl_22_A rfl rfl (by assumption) (by assumption) (by first | omega | (simp <;> omega)) (by omega) (by omega)) ?_
     rintro _ H36 ⟨g36, rfl, n, ge36, at36⟩
     replace e := e.st n (fun k hk => ⟨by omega, trivial⟩)
     replace b := b.sA n
     replace d := n.s d
     replace hin := a.mono e
     clear j
     have j : Cat.At _ g3 0 c p := ⟨Mem.of_get d, hin⟩
     refine .mv rfl (.nil (u _ _ (.region (.mv rfl ?_))))
     refine .q rfl (.add rfl rfl rfl (by omega) (by omega)) ?_
     refine .mv rfl (.nil ?_)
     refine m ((k + 1, _, _)) _ _ ?_ ?_ ⟨rfl, rfl, rfl, rfl, rfl, trivial⟩
     ·
      refine ⟨b, by (rw [filtN_T (by simp only [sps]; omega)]; assumption), by omega, by (rw [filtN_T (by simp only [sps]; omega)] <;> (first | omega | (simp only [List.length_append, List.length_cons, List.length_nil] <;> omega))), ?_⟩
      omega
     (dsimp only; omega)
    try simp only [sps] at a1
    refine .skip ?_
    refine u _ _ (.region (.mv rfl ?_))
    refine .q rfl (.add rfl rfl rfl (by omega) (by omega)) ?_
    refine .mv rfl (.nil ?_)
    refine m ((k + 1, _, _)) _ _ ?_ ?_ ⟨rfl, rfl, rfl, rfl, rfl, trivial⟩
    ·
     refine ⟨b, by (rw [filtN_F (by simp only [sps]; omega)]; assumption), by omega, by (rw [filtN_F (by simp only [sps]; omega)] <;> (first | omega | (simp only [List.length_append, List.length_cons, List.length_nil] <;> omega))), ?_⟩
     omega
    (dsimp only; omega)
   try simp only [sps] at a2
   refine .z rfl (.z rfl (.z rfl (.z rfl (.z rfl (.z rfl (.z rfl (.q rfl (.pickF rfl rfl) (.nil (a3 _ _ ?_)))))))))
   refine .condF rfl ?_
   refine .skip ?_
   refine u _ _ (.region (.mv rfl ?_))
   refine .q rfl (.add rfl rfl rfl (by omega) (by omega)) ?_
   refine .mv rfl (.nil ?_)
   refine m ((k + 1, _, _)) _ _ ?_ ?_ ⟨rfl, rfl, rfl, rfl, rfl, trivial⟩
   ·
    refine ⟨b, by (rw [filtN_F (by simp only [sps]; omega)]; assumption), by omega, by (rw [filtN_F (by simp only [sps]; omega)] <;> (first | omega | (simp only [List.length_append, List.length_cons, List.length_nil] <;> omega))), ?_⟩
    omega
   (dsimp only; omega)
  try simp only [sps] at w
  refine .exit ?_
  refine b3 _ _ (.seq (fun K9 b2 => .region (.mv rfl (.mv rfl (.nil (b2 _ _ ?_))))))
  refine .ret ?_
  refine t _ _ ?_
  refine ⟨_, rfl, ?_⟩
  obtain rfl : k = c.src.length := by omega
  exact ⟨e, _, by rw [o]; rfl, g, r⟩
theorem l02Then_c {c : Cat} {p : CatP} {f k : Int} {H : GHeap} (hin : c.In H p := by assumption) (hS : c.Shape := by assumption) (h0 : 0 ≤ f := by omega) (h1 : f < c.src.length := by omega) (h2 : 0 ≤ k := by omega) (h3 : k < c.src.length := by omega) :
    GCalls Try.prog 129 [.agg (c.cells p).toArray, .int .i64 f, .int .i64 k] H (Ret (.int .i64 (c.th f k)) H) := by
  refine GCalls.ret rfl ?_
  refine GCalls.body (N := 15) (rs := [.tmp 6]) Try.func129 rfl rfl rfl rfl (fun Qx d hend => ?_)
  refine .fg [0, 1, 2] rfl ?_
  have b := GHeap.Le.refl H
  have a := hin
  have q6 := hS.cl
  have q7 := hS.row f.toNat (by omega)
  refine .seq (fun K1 j => .region ?_)
  refine .R rfl (.boxR rfl sz_29_D rfl) ?_
  rintro _ H3 ⟨g3, rfl, l, ge3, e⟩
  replace b := b.trans l
  replace hin := a.mono b
  have i : Cat.At _ g3 0 c p := ⟨Mem.of_get e, hin⟩
  obtain ⟨-, -, -, -, c43, -, -, -, g⟩ := i.get
  refine .mv rfl (.nil (j _ _ (.seq (fun K2 h => .region ?_))))
  have q8 := g.2 f.toNat (by omega)
  refine .q rfl (.fieldAddr fo_29_4_B rfl) ?_
  refine .q rfl (.load on_23_B rfl (by first | assumption | exact Mem.of_get e 4 _ rfl)) ?_
  refine .mv rfl ?_
  refine .q rfl (.idx1 sl_23_B (Intss.sl (by assumption)) rfl rfl (by omega) (by omega)) ?_
  refine .q rfl (.loadR on_22_B (by assumption) rfl (by omega)) ?_
  refine .mv rfl ?_
  refine .q rfl (.idx1 sl_22_A (by assumption) rfl rfl (by omega) (by omega)) ?_
  refine .q rfl (.loadI on_2_A (by assumption) rfl (by omega)) ?_
  refine .mv rfl (.nil (h _ _ ?_))
  refine .ret ?_
  refine d _ _ ?_
  refine ⟨_, rfl, ?_⟩
  exact ⟨rfl, b⟩
end Go.Proofs.Ytjdedelneppnlaa
namespace Go.Proofs.Ytjdedelneppnlaa
open Go Go.GL Go.RowKit Go.Proofs
end Go.Proofs.Ytjdedelneppnlaa
namespace Go.Proofs.Ytjdedelneppnlaa
open Go Go.GL Go.RowKit Go.Proofs
end Go.Proofs.Ytjdedelneppnlaa
namespace Go.Proofs.Ytjdedelneppnlaa
open Go Go.GL Go.RowKit Go.Proofs
end Go.Proofs.Ytjdedelneppnlaa
namespace Go.Proofs.Ytjdedelneppnlaa
open Go Go.GL Go.RowKit Go.Proofs
end Go.Proofs.Ytjdedelneppnlaa
namespace Go.Proofs.Ytjdedelneppnlaa
open Go Go.GL Go.RowKit Go.Proofs
theorem l01Own_c {a : Option Addr} {xs : List Int} {H : GHeap} (h : Ints H a xs := by assumption) (hl : xs.length ≤ 1048576 := by omega) :
    GCalls Try.prog 92 [.slice a xs.length xs.length] H (NewInts 2 H xs) := by
  refine GCalls.body (N := 6) (rs := [.tmp 2]) Try.func92 rfl rfl rfl rfl (fun Qx e hend => ?_)
  refine .fg [0] rfl ?_
  have c := GHeap.Le.refl H
  have b := h
  refine .seq (fun K1 i => .region (.mv rfl (.nil (i _ _ (.seq (fun K2 g => .region ?_))))))
  refine .R rfl (.litA rfl sl_22_A ze_2_L rfl rfl rfl rfl) ?_
  rintro _ H3 ⟨g3, rfl, j, ge3, d⟩
  replace c := c.trans j
  have lt_at3 := GHeap.ltg d
  replace h := b.mono c
  replace d : GHeap.get H3 g3 = some (.row (ints []) 2 true) := d
  refine .mv rfl ?_
  refine .R rfl (.appendL rfl sl_22_A ze_2_L rfl by_2_L sl_22_A rfl rfl (by assumption) (by first | assumption | exact Ints.of_get (by assumption)) (by first | omega | (simp <;> omega)) (by omega) (by omega)) ?_
  rintro _ H5 ⟨g5, rfl, l, ge5, f⟩
  replace c := c.st l (fun k hk => ⟨by omega, trivial⟩)
  refine .mv rfl (.nil (g _ _ ?_))
  refine .ret ?_
  refine e _ _ ?_
  refine ⟨_, rfl, ?_⟩
  exact ⟨c, _, by rw [Nat.zero_add], by simpa using f, by omega⟩
theorem clone_c {a : Option Addr} {xs : List Int} {H : GHeap} (h : Ints H a xs := by assumption) (hl : xs.length ≤ 1048576 := by omega) :
    GCalls Try.prog 95 [.slice a xs.length xs.length] H (NewInts 2 H xs) := by
  refine GCalls.body (N := 6) (rs := [.tmp 2]) Try.func95 rfl rfl rfl rfl (fun Qx e hend => ?_)
  refine .fg [0] rfl ?_
  have c := GHeap.Le.refl H
  have b := h
  refine .seq (fun K1 i => .region (.mv rfl (.nil (i _ _ (.seq (fun K2 g => .region ?_))))))
  refine .R rfl (.litA rfl sl_22_A ze_2_L rfl rfl rfl rfl) ?_
  rintro _ H3 ⟨g3, rfl, j, ge3, d⟩
  replace c := c.trans j
  have lt_at3 := GHeap.ltg d
  replace h := b.mono c
  replace d : GHeap.get H3 g3 = some (.row (ints []) 2 true) := d
  refine .mv rfl ?_
  refine .R rfl (.appendL rfl sl_22_A ze_2_L rfl by_2_L sl_22_A rfl rfl (by assumption) (by first | assumption | exact Ints.of_get (by assumption)) (by first | omega | (simp <;> omega)) (by omega) (by omega)) ?_
  rintro _ H5 ⟨g5, rfl, l, ge5, f⟩
  replace c := c.st l (fun k hk => ⟨by omega, trivial⟩)
  refine .mv rfl (.nil (g _ _ ?_))
  refine .ret ?_
  refine e _ _ ?_
  refine ⟨_, rfl, ?_⟩
  exact ⟨c, _, by rw [Nat.zero_add], by simpa using f, by omega⟩
end Go.Proofs.Ytjdedelneppnlaa
namespace Go.GL
structure Cans (xs : List Int) (n : Nat) (X : Int → Nat → Int) : Prop where
  all : ∀ i j, i < j → j < xs.length → ∃ w, w < n ∧ X (xs.getD i 0) w ≠ X (xs.getD j 0) w
structure Cat.Jm (c : Cat) (x : Int) (fs : List Int) : Prop where
  all : ∀ g h : Nat, g < c.src.length → h < c.src.length → c.src.getD g 0 = c.src.getD h 0 → c.tgt.getD g 0 = x → c.tgt.getD h 0 = x → (∀ w, w < fs.length → c.th g (fs.getD w 0) = c.th h (fs.getD w 0)) → g = h
structure Cat.Je (c : Cat) (x : Int) (fs : List Int) : Prop where
  all : ∀ g h : Nat, g < c.src.length → h < c.src.length → c.tgt.getD g 0 = c.tgt.getD h 0 → c.src.getD g 0 = x → c.src.getD h 0 = x → (∀ w, w < fs.length → c.th (fs.getD w 0) g = c.th (fs.getD w 0) h) → g = h
structure Cat.Mono (c : Cat) (f : Int) : Prop where
  all : ∀ g h : Nat, g < c.src.length → h < c.src.length → c.src.getD g 0 = c.src.getD h 0 → c.tgt.getD g 0 = c.S f → c.tgt.getD h 0 = c.S f → c.th g f = c.th h f → g = h
structure Cat.Epi (c : Cat) (f : Int) : Prop where
  all : ∀ g h : Nat, g < c.src.length → h < c.src.length → c.tgt.getD g 0 = c.tgt.getD h 0 → c.src.getD g 0 = c.T f → c.src.getD h 0 = c.T f → c.th f g = c.th f h → g = h
theorem Cat.hom_nd (c : Cat) (x y : Int) : (c.hom x y).Nodup := filtN_nd _ _
theorem Cat.Shape.small {c : Cat} (h : c.Shape) : c.Small := by
  have h1 := h.n40
  have h2 := h.tl
  have h3 := h.cl
  have h4 := h.il
  have h5 := h.obj
  refine ⟨by omega, by omega, by omega, by omega, fun i => ?_, by omega, by omega⟩
  by_cases hi : i < c.comp.length
  · have := h.row i hi; omega
  · rw [List.getD_eq_getElem?_getD, List.getElem?_eq_none (by omega)]; simp
end Go.GL
namespace Go.Proofs.Ytjdedelneppnlaa
open Go Go.GL Go.RowKit Go.Proofs
end Go.Proofs.Ytjdedelneppnlaa
namespace Go.Proofs.Ytjdedelneppnlaa
open Go Go.GL Go.RowKit Go.Proofs
end Go.Proofs.Ytjdedelneppnlaa
namespace Go.GL
def Fun.cnet (d : Fun) (w : Int) : Net where
  cand j := d.t.hom w (d.ob.getD j 0)
  A := d.ar.length
  sr a := (d.s.src.getD a 0).toNat
  tg a := (d.s.tgt.getD a 0).toNat
  sq a u v := decide (d.t.th u (d.ar.getD a 0) = v)
theorem cnet_ne {d : Fun} {w : Int} {a : Nat} {q q' : List Int} (h1 : q.getD (d.s.src.getD a 0).toNat 0 = q'.getD (d.s.src.getD a 0).toNat 0) (h2 : q.getD (d.s.tgt.getD a 0).toNat 0 = q'.getD (d.s.tgt.getD a 0).toNat 0) :
    (!decide (d.t.th (q.getD (d.s.src.getD a 0).toNat 0) (d.ar.getD a 0) = q.getD (d.s.tgt.getD a 0).toNat 0)) = !((d.cnet w).sq a (q'.getD ((d.cnet w).sr a) 0) (q'.getD ((d.cnet w).tg a) 0)) := by
  rw [h1, h2]; rfl
end Go.GL
namespace Go.GL
def Con.z : Con := ⟨0, []⟩
def conV (r : Nat → Option Addr) (cs : List Con) : List Value := (List.range cs.length).flatMap fun i => (cs.getD i .z).cells ⟨r i⟩
theorem conV_snoc {r : Nat → Option Addr} {cs : List Con} {c : Con} {a : Option Addr} : conV (upd r cs.length a) (cs ++ [c]) = conV r cs ++ c.cells ⟨a⟩ := by
  unfold conV
  rw [List.length_append, List.length_singleton, List.range_succ, List.flatMap_append]
  congr 1
  · refine flatMap_congr' fun i hi => ?_
    have := List.mem_range.1 hi
    rw [getD_snoc, if_pos this, upd_ne (by omega)]
  · simp only [List.flatMap_cons, List.flatMap_nil, List.append_nil]
    rw [getD_snoc, if_neg (by omega), if_pos rfl, upd_eq]
@[simp] theorem length_conV (r : Nat → Option Addr) (cs : List Con) : (conV r cs).length = cs.length * 2 := by
  unfold conV
  generalize cs.length = n
  induction n with
  | zero => rfl
  | succ n ih => rw [List.range_succ, List.flatMap_append, List.length_append, ih]; simp [Con.cells]; omega
structure ConsAt (T e : TypeId) (b0 : Nat) (H : GHeap) (g : Nat) (r : Nat → Option Addr) (cs : List Con) : Prop where
  hd : H.get g = some (.row (conV r cs) T true)
  rows : OwnL b0 H e r (cs.map Con.lg)
structure GathC (T1 T2 Tx e : TypeId) (go gx b0 e0 : Nat) (x : Int) (pre : List Con) (b : Nat) (fs : List (List Int)) (gF : Nat) (H : GHeap) : Prop where
  hd : H.get go = some (.row [.slice (some ⟨gF, 0, none⟩) (pre ++ fs.map fun l => (⟨x, l⟩ : Con)).length (pre ++ fs.map fun l => (⟨x, l⟩ : Con)).length] T1 true)
  ix : H.get gx = some (.row [.int .i64 x] Tx true)
  rows : ∃ r, H.get gF = some (.row (conV r (pre ++ fs.map fun l => (⟨x, l⟩ : Con))) T2 true) ∧ OwnL b0 H e r ((pre ++ fs.map fun l => (⟨x, l⟩ : Con)).map Con.lg) ∧ ∀ i, i < (pre ++ fs.map fun l => (⟨x, l⟩ : Con)).length → ∀ g, r i = some ⟨g, 0, none⟩ → g < e0 ∨ b ≤ g
theorem GathC.le {T1 T2 Tx e : TypeId} {go gx b0 e0 : Nat} {x : Int} {pre : List Con} {b : Nat} {fs : List (List Int)} {gF : Nat} {H H' : GHeap} (h : GathC T1 T2 Tx e go gx b0 e0 x pre b fs gF H) (s : H.Le H') : GathC T1 T2 Tx e go gx b0 e0 x pre b fs gF H' := by
  obtain ⟨r, h1, h2, h3⟩ := h.rows
  exact ⟨s.2 _ _ h.hd, s.2 _ _ h.ix, r, s.2 _ _ h1, h2.mono s, h3⟩
theorem GathC.st {T1 T2 Tx e : TypeId} {go gx b0 e0 : Nat} {x : Int} {pre : List Con} {b : Nat} {fs : List (List Int)} {gF gc : Nat} {H H' : GHeap} (h : GathC T1 T2 Tx e go gx b0 e0 x pre b fs gF H) (s : St [gc] H H') (h1 : go ≠ gc) (h2 : gx ≠ gc) (h3 : gc ≠ gF) (h4 : e0 ≤ gc) (h5 : gc < b) : GathC T1 T2 Tx e go gx b0 e0 x pre b fs gF H' := by
  obtain ⟨r, k1, k2, k3⟩ := h.rows
  refine ⟨s.same _ _ ⟨h1, trivial⟩ h.hd, s.same _ _ ⟨h2, trivial⟩ h.ix, r, s.same _ _ ⟨Ne.symm h3, trivial⟩ k1, k2.st s (.cons (fun i hi ei => ?_) (.nil _ _)), k3⟩
  rw [List.length_map] at hi
  have := k3 i hi gc ei
  omega
def Fun.coneL (d : Fun) (n : Nat) : List Con := (List.range n).flatMap fun (w : Nat) => ((d.cnet (w : Int)).sols d.ob.length).map fun l => (⟨(w : Int), l⟩ : Con)
theorem Fun.coneL_succ {d : Fun} {n : Nat} : d.coneL (n + 1) = d.coneL n ++ ((d.cnet (n : Int)).sols d.ob.length).map fun l => (⟨(n : Int), l⟩ : Con) := by
  unfold coneL; rw [List.range_succ, List.flatMap_append]; simp
theorem Fun.coneL_mono {d : Fun} {n m : Nat} (h : n ≤ m) : (d.coneL n).length ≤ (d.coneL m).length := by
  obtain ⟨k, rfl⟩ := Nat.le.dest h
  clear h
  induction k with
  | zero => exact Nat.le_refl _
  | succ k ih => rw [← Nat.add_assoc, Fun.coneL_succ, List.length_append]; omega
theorem Fun.coneL_big {d : Fun} {x n : Nat} (h : x < n) (hb : ¬ ((d.cnet (x : Int)).sols d.ob.length).length ≤ 400 - (d.coneL x).length) (hs : (d.coneL x).length ≤ 400) : 400 < (d.coneL n).length := by
  have h1 := Fun.coneL_mono (d := d) (n := x + 1) (m := n) h
  rw [Fun.coneL_succ, List.length_append, List.length_map] at h1
  omega
theorem Fun.coneL_next {d : Fun} {x : Nat} (hb : ((d.cnet (x : Int)).sols d.ob.length).length ≤ 400 - (d.coneL x).length) : d.coneL x ++ (([] ++ (d.cnet (x : Int)).sols d.ob.length).take (400 - (d.coneL x).length + 1)).map (fun l => (⟨(x : Int), l⟩ : Con)) = d.coneL (x + 1) := by
  rw [List.nil_append, List.take_of_length_le (by omega), Fun.coneL_succ]
theorem OwnL.side {b : Nat} {H : GHeap} {e : TypeId} {r : Nat → Option Addr} {cs : List Con} (h : OwnL b H e r (cs.map Con.lg)) : ∀ i, i < cs.length → ∀ g, r i = some ⟨g, 0, none⟩ → g < H.next := fun i hi g hg => by
  obtain ⟨x, h1, _, h3⟩ := h.row i (by rw [List.length_map]; exact hi)
  rw [h1] at hg
  cases hg
  exact GHeap.ltg h3
theorem take_snocZ {l : List (List Int)} {i : Nat} (h : i < l.length) : l.take (i + 1) = l.take i ++ [l.getD i []] := by
  rw [List.take_add_one, List.getElem?_eq_getElem h, List.getD_eq_getElem?_getD, List.getElem?_eq_getElem h]; rfl
end Go.GL
namespace Go.Proofs.Ytjdedelneppnlaa
open Go Go.GL Go.RowKit Go.Proofs
theorem ze_22_Hj : zeroT Try.prog 22 = some ([.slice none 0 0], 1) := by kernel_rfl
theorem by_22_Hj : (Try.prog.info? 22).map (·.bytes) = some 24 := by kernel_rfl
theorem ze_29_Hj : zeroT Try.prog 29 = some ([.int .i64 0, .slice none 0 0, .slice none 0 0, .slice none 0 0, .slice none 0 0], 5) := by kernel_rfl
theorem bt_29_Hj : buildT Try.prog 29 = some ([.int .i64 0, .slice none 0 0, .slice none 0 0, .slice none 0 0, .slice none 0 0], [(0, 1), (1, 1), (2, 1), (3, 1), (4, 1)]) := by kernel_rfl
end Go.Proofs.Ytjdedelneppnlaa
namespace Go.Proofs.Ytjdedelneppnlaa
open Go Go.GL Go.RowKit Go.Proofs
end Go.Proofs.Ytjdedelneppnlaa
namespace Go.Proofs.Ytjdedelneppnlaa
open Go Go.GL Go.RowKit Go.Proofs
theorem l02Fits_c {c : Cat} {p : CatP} {H : GHeap} (hin : c.In H p := by assumption) :
    GCalls Try.prog 141 [.agg (c.cells p).toArray] H (Ret (.bool (B (c.obj ≤ 8 ∧ c.src.length ≤ 40))) H) := by
  refine GCalls.ret rfl ?_
  refine GCalls.body (N := 12) (rs := [.tmp 2]) Try.func141 rfl rfl rfl rfl (fun Qx b hend => ?_)
  refine .fg [0] rfl ?_
  have d := GHeap.Le.refl H
  have a := hin
  refine .seq (fun K1 h => .region ?_)
  refine .R rfl (.boxR rfl sz_29_D rfl) ?_
  rintro _ H1 ⟨g1, rfl, i, ge1, e⟩
  replace d := d.trans i
  replace hin := a.mono d
  have g : Cat.At _ g1 0 c p := ⟨Mem.of_get e, hin⟩
  obtain ⟨c01, c11, -, -, -, -, -, -, -⟩ := g.get
  refine .mv rfl (.nil (h _ _ (.seq (fun K2 f => .region (.q rfl (.fieldAddr fo_29_0_B rfl) ?_)))))
  refine .q rfl (.load on_2_A rfl (by first | assumption | exact Mem.of_get e 0 _ rfl)) ?_
  refine .q rfl (.cmp rfl rfl rfl) (.mv rfl ?_)
  refine .split (fun h6 => ?_) (fun h6 => ?_)
  ·
   try simp only [sps] at h6
   refine .qg rfl (.fieldAddr fo_29_1_B rfl) ?_
   refine .qg rfl (.load on_22_B rfl (by first | assumption | exact Mem.of_get e 1 _ rfl)) ?_
   refine .qg rfl (.len sl_22_A rfl) (.qg rfl (.cmp rfl rfl rfl) (.q rfl (.pickT rfl rfl) (.mv rfl (.nil (f _ _ ?_)))))
   refine .ret ?_
   refine b _ _ ?_
   refine ⟨_, rfl, ?_⟩
   exact ⟨congrArg _ (by unfold B; first | (rw [decide_eq_decide]; omega) | (rw [decide_eq_false_iff_not]; omega)), d⟩
  try simp only [sps] at h6
  refine .z rfl (.z rfl (.z rfl (.z rfl (.q rfl (.pickF rfl rfl) (.mv rfl (.nil (f _ _ ?_)))))))
  refine .ret ?_
  refine b _ _ ?_
  refine ⟨_, rfl, ?_⟩
  exact ⟨congrArg _ (by unfold B; first | (rw [decide_eq_decide]; omega) | (rw [decide_eq_false_iff_not]; omega)), d⟩
set_option maxHeartbeats 4000000 in
theorem l01Own2O_c {a : Option Addr} {pss : List (List Int)} {r : Nat → Option Addr} {H : GHeap} (h : Intss H a pss r := by assumption) (hl : pss.length ≤ 1048576 := by omega) (hl2 : ∀ i, (pss.getD i []).length ≤ 1048576) :
    GCalls Try.prog 151 [.slice a pss.length pss.length] H (fun v H' => H.Le H' ∧ ∃ g rr, v = .slice (some ⟨g, 0, none⟩) pss.length pss.length ∧ H'.get g = some (.row (slsL rr pss) 22 true) ∧ H.next ≤ g ∧ OwnL H.next H' 2 rr pss) := by
  refine GCalls.body (N := 21) (rs := [.tmp 2]) Try.func151 rfl rfl rfl rfl (fun Qx t hend => ?_)
  refine .fg [0] rfl ?_
  have p := GHeap.Le.refl H
  have m := h
  refine .seq (fun K1 a9 => .region (.mv rfl (.nil (a9 _ _ (.seq (fun K2 a4 => .region ?_))))))
  refine .R rfl (.litA rfl sl_23_B ze_22_Hj rfl rfl rfl rfl) ?_
  rintro _ H5 ⟨g5, rfl, a5, ge5, w⟩
  replace p := p.trans a5
  have lt_at5 := GHeap.ltg w
  refine .mv rfl (.nil (a4 _ _ (.seq (fun K3 a7 => .seq (fun K4 a3 => .region (.mv rfl (.nil (a3 _ _ ?_))))))))
  refine .block ?_
  refine .loopR (σ := Nat × (Nat → Option Addr) × Nat × Nat) [(0, some _)] (fun (i, rr, e, j) => [(4, some (.int .i64 (i : Int))), (3, some (.slice (some ⟨e, 0, none⟩) j j))]) (fun (i, rr, e, j) H' => St [g5] H5 H' ∧ H'.get e = some (.row ((slsL rr (pss.take i))) 22 true) ∧ (e = g5 ∨ H5.next ≤ e) ∧ j = (slsL rr (pss.take i)).length ∧ i ≤ pss.length ∧ OwnL H.next H' 2 rr (pss.take i)) (fun (i, rr, e, j) => pss.length - i) ((0, fun _ => none, _, _)) ⟨rfl, trivial⟩ ⟨rfl, rfl, trivial⟩ ?_ ?_
  ·
   refine ⟨.refl _ _, by first | assumption | exact w | simpa using w, .inl rfl, by first | rfl | assumption | simp | omega, ?_⟩
   exact ⟨by omega, .nil _ _ _ _⟩
  rintro ⟨i, rr, e, j⟩ HL1 ⟨c, b, pl_L3, l, hI⟩ KL1 y
  refine .forget (fr' := [(4, some (.int .i64 (i : Int))), (3, some (.slice (some ⟨e, 0, none⟩) j j)), (0, some _)]) ⟨rfl, rfl, rfl, trivial⟩ ?_
  have ge_L3 : H.next ≤ e := by omega
  have nx_HL1 := c.nx
  replace p := p.st c (fun k hk => ⟨by omega, trivial⟩)
  have lt_at_L3 := GHeap.ltg b
  replace h := m.mono p
  have rk := St.refl [e] HL1
  obtain ⟨hi, hR⟩ := hI
  have u := b
  have htk : (pss.take i).length = i := by rw [List.length_take]; omega
  have hfl : (slsL rr (pss.take i)).length = (pss.take i).length := length_slsL _ _
  have hli := hl2 i
  refine .seq (fun K5 a2 => .seq (fun K6 a8 => .region (.mv rfl (.mv rfl (.q rfl (.len sl_23_B rfl) (.q rfl (.cmp rfl rfl rfl) (.nil (a8 _ _ ?_))))))))
  refine .cond rfl (fun h9 => ?_) (fun h9 => ?_)
  ·
   simp only [sps] at h9
   have u1 := h.2 i (by omega)
   refine .skip ?_
   refine a2 _ _ (.seq (fun K7 a0 => ?_))
   refine .block ?_
   refine .region (.mv rfl (.mv rfl (.mv rfl ?_)))
   refine .q rfl (.idxN sl_23_B (Intss.sl (by assumption)) rfl rfl (by omega)) ?_
   refine .q rfl (.loadR on_22_B (by assumption) rfl (by omega)) ?_
   refine .call rfl rfl rfl rfl @Try.call92 rfl (l01Own_c) ?_
   rintro _ H17 ⟨o, a6, rfl, d, ge17⟩
   replace c := c.le o
   replace rk := rk.le o
   replace b := o.2 _ _ b
   have lt_at17 := GHeap.ltg d
   clear u1
   refine .R rfl (.litA rfl sl_23_B ze_22_Hj rfl rfl rfl rfl) ?_
   rintro _ H18 ⟨g18, rfl, f, ge18, z⟩
   replace c := c.le f
   replace rk := rk.le f
   replace b := f.2 _ _ b
   replace d := f.2 _ _ d
   have lt_at18 := GHeap.ltg z
   refine .R rfl (.appendV rfl sl_23_B ze_22_Hj rfl by_22_Hj sl_23_B rfl rfl (by assumption) (by assumption) (by first | omega | (simp <;> omega)) rfl rfl (by omega) (by omega)) ?_
   rintro _ H19 ⟨g19, rfl, n, ge19, at19⟩
   replace c := c.sA n
   replace rk := rk.sA n
   replace d := n.s d
   refine .mv rfl (.nil (a0 _ _ (.region (.mv rfl ?_))))
   refine .q rfl (.add rfl rfl rfl (by omega) (by omega)) ?_
   refine .mv rfl (.nil ?_)
   refine y ((i + 1, upd rr (pss.take i).length (some ⟨a6, 0, none⟩), _, _)) _ _ ?_ ?_ ⟨rfl, rfl, rfl, trivial⟩
   ·
    refine ⟨c, by first | assumption | (rw [take_snocZ (by omega), slsL_snoc]; assumption), by omega, by first | omega | (simp only [List.length_append, List.length_cons, List.length_nil] <;> omega) | (rw [take_snocZ (by omega), slsL_snoc] <;> (first | omega | (simp only [List.length_append, List.length_cons, List.length_nil] <;> omega))), ?_⟩
    exact ⟨by omega, by rw [take_snocZ (by omega)]; exact hR.snoc (x := pss.getD i []) (rk.lasts1 u rfl) (by assumption) (by omega) (by omega)⟩
   (dsimp only; omega)
  try simp only [sps] at h9
  refine .exit ?_
  refine a7 _ _ (.seq (fun K8 a1 => .region (.mv rfl (.mv rfl (.nil (a1 _ _ ?_))))))
  refine .ret ?_
  refine t _ _ ?_
  refine ⟨_, rfl, ?_⟩
  obtain rfl : i = pss.length := by omega
  rw [List.take_length] at hR b l
  exact ⟨p, e, rr, by rw [l, length_slsL], b, by omega, hR⟩
set_option maxHeartbeats 4000000 in
theorem l02OwnO_c {c : Cat} {p : CatP} {H : GHeap} (hin : c.In H p := by assumption) (hs : c.Small := by assumption) :
    GCalls Try.prog 142 [.agg (c.cells p).toArray] H (NewCatO 2 22 H c) := by
  obtain ⟨n1, n2, n3, n4, n5, -⟩ := hs
  refine GCalls.body (N := 18) (rs := [.cell 2 29]) Try.func142 rfl rfl rfl rfl (fun Qx x hend => ?_)
  refine .fg [0] rfl ?_
  have e := GHeap.Le.refl H
  have a := hin
  refine .seq (fun K1 b4 => .region ?_)
  refine .R rfl (.boxR rfl sz_29_D rfl) ?_
  rintro _ H1 ⟨g1, rfl, a8, ge1, d⟩
  replace e := e.trans a8
  have lt_at1 := GHeap.ltg d
  replace hin := a.mono e
  have g : Cat.At _ g1 0 c p := ⟨Mem.of_get d, hin⟩
  refine .R rfl (.allocR rfl ze_29_Hj rfl) ?_
  rintro _ H2 ⟨g2, rfl, a0, ge2, o⟩
  replace e := e.trans a0
  replace d := a0.2 _ _ d
  have lt_at2 := GHeap.ltg o
  replace hin := a.mono e
  clear g
  have g : Cat.At _ g1 0 c p := ⟨Mem.of_get d, hin⟩
  obtain ⟨a2, a6, b5, a9, a1, a7, -, -, -⟩ := g.get
  refine .nil (b4 _ _ (.seq (fun K2 a3 => ?_)))
  refine .regionD mo_B (.q 0 (.q 1 (.q 2 (.q 3 (.q 5 (.q 6 (.q 8 (.q 9 (.q 11 (.q 12 (.c 4 1 (.c 7 1 (.c 10 1 (.c 13 1 (.q 14 (.c 15 0 (.done))))))))))))))))) (by kernel_rfl) ?_
  refine .q rfl (.fieldAddr fo_29_0_B rfl) ?_
  refine .q rfl (.load on_2_A rfl (by first | assumption | exact Mem.of_get d 0 _ rfl)) ?_
  refine .q rfl (.fieldAddr fo_29_1_B rfl) ?_
  refine .q rfl (.load on_22_B rfl (by first | assumption | exact Mem.of_get d 1 _ rfl)) ?_
  refine .q rfl (.fieldAddr fo_29_2_B rfl) ?_
  refine .q rfl (.load on_22_B rfl (by first | assumption | exact Mem.of_get d 2 _ rfl)) ?_
  refine .q rfl (.fieldAddr fo_29_3_B rfl) ?_
  refine .q rfl (.load on_22_B rfl (by first | assumption | exact Mem.of_get d 3 _ rfl)) ?_
  refine .q rfl (.fieldAddr fo_29_4_B rfl) ?_
  refine .q rfl (.load on_23_B rfl (by first | assumption | exact Mem.of_get d 4 _ rfl)) ?_
  refine .call1 rfl rfl rfl rfl rfl @Try.call92 rfl (l01Own_c) ?_
  rintro _ H7 ⟨w, g7, rfl, r, ge7⟩
  have n := w
  refine ⟨n, ?_⟩
  replace e := e.trans w
  replace d := w.2 _ _ d
  replace o := w.2 _ _ o
  have lt_at7 := GHeap.ltg r
  replace hin := a.mono e
  clear g a2 a6 b5 a9 a1 a7
  have g : Cat.At _ g1 0 c p := ⟨Mem.of_get d, hin⟩
  obtain ⟨-, -, -, -, -, -, a4, -, -⟩ := g.get
  refine .call1 rfl rfl rfl rfl rfl @Try.call92 rfl (l01Own_c) ?_
  rintro _ H10 ⟨l, b3, rfl, f, ge10⟩
  replace n := n.trans l
  refine ⟨n, ?_⟩
  replace e := e.trans l
  replace d := l.2 _ _ d
  replace o := l.2 _ _ o
  replace r := l.2 _ _ r
  have lt_at10 := GHeap.ltg f
  replace hin := a.mono e
  clear g a4
  have g : Cat.At _ g1 0 c p := ⟨Mem.of_get d, hin⟩
  obtain ⟨-, -, -, -, -, -, -, a5, -⟩ := g.get
  refine .call1 rfl rfl rfl rfl rfl @Try.call92 rfl (l01Own_c) ?_
  rintro _ H13 ⟨i, b1, rfl, j, ge13⟩
  replace n := n.trans i
  refine ⟨n, ?_⟩
  have nx_H13 := i.1
  replace e := e.trans i
  replace d := i.2 _ _ d
  replace o := i.2 _ _ o
  replace r := i.2 _ _ r
  replace f := i.2 _ _ f
  have lt_at13 := GHeap.ltg j
  replace hin := a.mono e
  clear g a5
  have g : Cat.At _ g1 0 c p := ⟨Mem.of_get d, hin⟩
  obtain ⟨-, -, -, -, -, -, -, -, b2⟩ := g.get
  refine .call1 rfl rfl rfl rfl rfl @Try.call151 rfl (l01Own2O_c (hl2 := n5)) ?_
  rintro _ H16 ⟨h, b0, z, rfl, t, ge16, v⟩
  replace n := n.trans h
  refine ⟨n, ?_⟩
  replace e := e.trans h
  replace d := h.2 _ _ d
  replace o := h.2 _ _ o
  replace r := h.2 _ _ r
  replace f := h.2 _ _ f
  replace j := h.2 _ _ j
  replace hin := a.mono e
  clear g b2
  have g : Cat.At _ g1 0 c p := ⟨Mem.of_get d, hin⟩
  refine .m rfl rfl rfl rfl n (.build bt_29_Hj rfl rfl rfl) ?_
  have y := o
  refine .r0 rfl rfl rfl (.fillA rfl sz_29_D rfl rfl rfl rfl) ?_
  rintro _ H1015 ⟨rfl, b, u⟩
  replace e := e.st b (fun k hk => ⟨by omega, trivial⟩)
  replace d := b.s d
  replace r := b.s r
  replace f := b.s f
  replace j := b.s j
  replace t := b.s t
  replace hin := a.mono e
  clear g
  have g : Cat.At _ g1 0 c p := ⟨Mem.of_get d, hin⟩
  refine .done ?_
  refine a3 _ _ ?_
  refine .ret ?_
  refine x _ _ ?_
  refine ⟨_, _, _, _, rfl, ag_29_D, (by rfl), (Mem.of_get u), ?_⟩
  exact ⟨e, g7, b3, b1, b0, z, rfl, r, f, j, t, by omega, by omega, by omega, by omega, by omega, by omega, by omega, (v.st b (.cons (v.neT y rfl) (.nil _ _))).low (by omega), v.lowNe (by omega), v.lowNe (by omega), v.lowNe (by omega)⟩
end Go.Proofs.Ytjdedelneppnlaa
namespace Go.Proofs.Ytjdedelneppnlaa
open Go Go.GL Go.RowKit Go.Proofs
theorem sz_2_Ch : (Try.prog.info? 2).map (·.size) = some 1 := by kernel_rfl
theorem sz_22_Ch : (Try.prog.info? 22).map (·.size) = some 1 := by kernel_rfl
theorem sz_23_Ch : (Try.prog.info? 23).map (·.size) = some 1 := by kernel_rfl
set_option maxHeartbeats 8000000 in
theorem l03Sum_c {c d : Cat} {p q : CatP} {N : Nat} {H : GHeap} (hin : c.In H p := by assumption) (hin1 : d.In H q := by assumption) (hc : c.Rect N) (hd : d.Rect N) (hN : N ≤ 100000) :
    GCalls Try.prog 139 [.agg (c.cells p).toArray, .agg (d.cells q).toArray] H (NewCatO 2 22 H (c.sum d)) := by
  obtain ⟨a1, a2, a3, -, -, a6, -, a8, a9, -⟩ := id hc
  obtain ⟨b1, b2, b3, b4, b5, b6, b7, b8, b9, x3⟩ := id hd
  refine GCalls.body (N := 142) (rs := [.cell 4 29]) Try.func139 rfl rfl rfl rfl (fun Qx t8 hend => ?_)
  refine .fg [0, 1] rfl ?_
  have h := GHeap.Le.refl H
  have l := hin
  have b := hin1
  refine .seq (fun K1 y5 => .region ?_)
  refine .R rfl (.boxR rfl sz_29_D rfl) ?_
  rintro _ H2 ⟨g2, rfl, y8, ge2, d3⟩
  replace h := h.trans y8
  have lt_at2 := GHeap.ltg d3
  replace hin := l.mono h
  have h7 : Cat.At _ g2 0 c p := ⟨Mem.of_get d3, hin⟩
  refine .R rfl (.boxR rfl sz_29_D rfl) ?_
  rintro _ H3 ⟨g3, rfl, w5, ge3, d6⟩
  replace h := h.trans w5
  replace d3 := w5.2 _ _ d3
  have lt_at3 := GHeap.ltg d6
  replace hin := l.mono h
  replace hin1 := b.mono h
  clear h7
  have h7 : Cat.At _ g2 0 c p := ⟨Mem.of_get d3, hin⟩
  have r : Cat.At _ g3 0 d q := ⟨Mem.of_get d6, hin1⟩
  refine .R rfl (.allocR rfl ze_29_Hj rfl) ?_
  rintro _ H4 ⟨g4, rfl, r6, ge4, k6⟩
  have nx_H4 := r6.1
  replace h := h.trans r6
  replace d3 := r6.2 _ _ d3
  replace d6 := r6.2 _ _ d6
  have lt_at4 := GHeap.ltg k6
  replace hin := l.mono h
  replace hin1 := b.mono h
  clear h7
  have h7 : Cat.At _ g2 0 c p := ⟨Mem.of_get d3, hin⟩
  obtain ⟨y6, z1, -, -, -, -, -, -, -⟩ := h7.get
  have x9 := h7.2
  clear r
  have r : Cat.At _ g3 0 d q := ⟨Mem.of_get d6, hin1⟩
  refine .nil (y5 _ _ (.seq (fun K2 x2 => ?_)))
  refine .regionD mo_B (.q 0 (.q 1 (.q 2 (.q 3 (.q 4 (.q 5 (.q 6 (.done)))))))) (by kernel_rfl) ?_
  refine .q rfl (.fieldAddr fo_29_0_B rfl) ?_
  refine .q rfl (.load on_2_A rfl (by first | assumption | exact Mem.of_get d3 0 _ rfl)) ?_
  refine .q rfl (.fieldAddr fo_29_1_B rfl) ?_
  refine .q rfl (.load on_22_B rfl (by first | assumption | exact Mem.of_get d3 1 _ rfl)) ?_
  refine .q rfl (.len sl_22_A rfl) (.mv rfl rfl (.mv rfl rfl ?_))
  refine .done ?_
  refine x2 _ _ (.seq (fun K3 y4 => .region ?_))
  refine .q rfl (.loadM ag_29_D rfl ⟨rfl, Mem.of_get d3⟩) ?_
  refine .call rfl rfl rfl rfl @Try.call142 rfl (l02OwnO_c (hs := hc.small (by omega))) ?_
  rintro _ y9 ⟨l9, gF, gT, gI, gC, rr, rfl, j1⟩
  have aF := j1.a1
  have aT := j1.a2
  have aI := j1.a3
  have aC := j1.a4
  have bF := j1.b1
  have bT := j1.b2
  have bI := j1.b3
  have bC := j1.b4
  have n12 := j1.n12
  have y1 := j1.n13
  have w6 := j1.n23
  have n4 := row_ne aC aF rfl
  have n5 := row_ne aC aT rfl
  have n6 := row_ne aC aI rfl
  have rk := St.refl [gI] y9
  replace h := h.trans l9
  replace d3 := l9.2 _ _ d3
  replace d6 := l9.2 _ _ d6
  replace k6 := l9.2 _ _ k6
  have p6 := GHeap.ltg aF
  have lt_aT := GHeap.ltg aT
  have p8 := GHeap.ltg aI
  have lt_aC := GHeap.ltg aC
  replace hin := l.mono h
  replace hin1 := b.mono h
  clear h7 y6 z1 x9
  have h7 : Cat.At _ g2 0 c p := ⟨Mem.of_get d3, hin⟩
  clear r
  have r : Cat.At _ g3 0 d q := ⟨Mem.of_get d6, hin1⟩
  refine .R rfl (.allocR rfl ze_29_Hj rfl) ?_
  rintro _ H7 ⟨g7, rfl, l4, ge7, at7⟩
  have nx_H7 := l4.1
  replace h := h.trans l4
  replace rk := rk.le l4
  replace d3 := l4.2 _ _ d3
  replace d6 := l4.2 _ _ d6
  replace k6 := l4.2 _ _ k6
  replace aF := l4.2 _ _ aF
  replace aT := l4.2 _ _ aT
  replace aI := l4.2 _ _ aI
  replace aC := l4.2 _ _ aC
  replace hin := l.mono h
  replace hin1 := b.mono h
  clear h7
  have h7 : Cat.At _ g2 0 c p := ⟨Mem.of_get d3, hin⟩
  clear r
  have r : Cat.At _ g3 0 d q := ⟨Mem.of_get d6, hin1⟩
  refine .r0 rfl rfl (.fillA rfl sz_29_D rfl rfl rfl rfl) ?_
  rintro _ H2003 ⟨rfl, c4, at2003⟩
  have nx_H2003 := c4.nx
  replace h := h.st c4 (fun k hk => ⟨by omega, trivial⟩)
  replace rk := rk.sA c4
  have e3 : NE g2 g7 := .a
  replace d3 := c4.s d3 e3.ne
  have w : NE g3 g7 := .a
  replace d6 := c4.s d6 w.ne
  have c5 : NE g4 g7 := .a
  replace k6 := c4.s k6 c5.ne
  have h4 : NE gF g7 := .a
  replace aF := c4.s aF h4.ne
  have g0 : NE gT g7 := .a
  replace aT := c4.s aT g0.ne
  have j3 : NE gI g7 := .a
  replace aI := c4.s aI j3.ne
  have g1 : NE gC g7 := .a
  replace aC := c4.s aC g1.ne
  replace hin := l.mono h
  replace hin1 := b.mono h
  clear h7
  have h7 : Cat.At _ g2 0 c p := ⟨Mem.of_get d3, hin⟩
  clear r
  have r : Cat.At _ g3 0 d q := ⟨Mem.of_get d6, hin1⟩
  obtain ⟨l5, -, -, -, -, -, -, -, -⟩ := r.get
  refine .nil (y4 _ _ (.seq (fun K4 w8 => .region (.mv rfl (.q rfl (.fieldAddr fo_29_0_B rfl) ?_)))))
  refine .q rfl (.load on_2_A rfl (by first | assumption | exact Mem.of_get d6 0 _ rfl)) ?_
  refine .q rfl (.add rfl rfl rfl (by omega) (by omega)) ?_
  refine .q rfl (.fieldAddr fo_29_0_B rfl) ?_
  refine .r0 rfl rfl (.storeR rfl sz_2_Ch rfl rfl rfl (by assumption) (by first | exact Nat.le_of_ble_eq_true rfl | (simp; done) | (simp <;> omega))) ?_
  rintro _ n0 ⟨rfl, c2, l3⟩
  have nx_H3005 := c2.nx
  replace h := h.st c2 (fun k hk => ⟨by omega, trivial⟩)
  replace rk := rk.sA c2
  replace d3 := c2.s d3 e3.ne
  replace d6 := c2.s d6 w.ne
  replace k6 := c2.s k6 c5.ne
  replace aF := c2.s aF h4.ne
  replace aT := c2.s aT g0.ne
  replace aI := c2.s aI j3.ne
  replace aC := c2.s aC g1.ne
  have lt_at3005 := GHeap.ltg l3
  replace hin := l.mono h
  replace hin1 := b.mono h
  clear h7
  have h7 : Cat.At _ g2 0 c p := ⟨Mem.of_get d3, hin⟩
  clear r l5
  have r : Cat.At _ g3 0 d q := ⟨Mem.of_get d6, hin1⟩
  try simp only [Nat.zero_add, List.set_cons_succ, List.set_cons_zero] at l3
  refine .nil (w8 _ _ (.seq (fun K5 w7 => .seq (fun K6 x5 => .region (.mv rfl (.nil (x5 _ _ ?_)))))))
  refine .block ?_
  refine .loopR (σ := Nat × Nat) [(3, some _), (4, some _), (5, some _), (6, some _), (7, some _)] (fun (y, gLI) => [(8, some (.int .i64 (y : Int)))]) (fun (y, gLI) H' => St [gI, g7] n0 H' ∧ H'.get gLI = some (.row (ints (c.idn ++ (d.idn.take y).map (· + (c.src.length : Int)))) 2 true) ∧ PL gLI gI n0.next ∧ H'.get g7 = some (.row ([.int .i64 (c.obj + d.obj), .slice (some ⟨gF, 0, none⟩) c.src.length c.src.length, .slice (some ⟨gT, 0, none⟩) c.tgt.length c.tgt.length, .slice (some ⟨gLI, 0, none⟩) (c.idn.length + y) (c.idn.length + y), .slice (some ⟨gC, 0, none⟩) c.comp.length c.comp.length]) 29 true) ∧ gLI ≠ g7 ∧ (y : Int) ≤ d.obj) (fun (y, gLI) => (d.obj - y : Int).toNat) ((0, gI)) ⟨rfl, rfl, rfl, rfl, rfl, trivial⟩ ⟨rfl, trivial⟩ ?_ ?_
  ·
   refine ⟨.refl _ _, by simpa using aI, ⟨.inl rfl⟩, by assumption, by omega, ?_⟩
   omega
  rintro ⟨y, gLI⟩ HL1 ⟨d5, j4, i2, t, r5, hI⟩ KL1 u4
  refine .forget (fr' := [(8, some (.int .i64 (y : Int))), (3, some _), (4, some _), (5, some _), (6, some _), (7, some _)]) ⟨rfl, rfl, rfl, rfl, rfl, rfl, trivial⟩ ?_
  have p7 : H.next ≤ gLI := i2.ge (by omega) (by omega)
  have nx_HL1 := d5.nx
  replace h := h.st d5 (fun k hk => ⟨by omega, by omega, trivial⟩)
  replace rk := rk.st d5 (fun k hk ho => by simp only [out, and_true] at ho ⊢ <;> exact ⟨by first | exact ho | exact ho.1 | exact ho.2 | exact ho.2.1 | exact ho.2.2 | exact ho.2.2.1 | exact ho.2.2.2 | omega, by first | exact ho | exact ho.1 | exact ho.2 | exact ho.2.1 | exact ho.2.2 | exact ho.2.2.1 | exact ho.2.2.2 | omega⟩)
  have i9 : NE g2 gI := .a
  replace d3 := d5.same _ _ ⟨i9.ne, e3.ne, trivial⟩ d3
  have j0 : NE g3 gI := .a
  replace d6 := d5.same _ _ ⟨j0.ne, w.ne, trivial⟩ d6
  replace k6 := d5.same _ _ ⟨(by first | assumption | omega), c5.ne, trivial⟩ k6
  replace aF := d5.same _ _ ⟨(by first | assumption | omega), h4.ne, trivial⟩ aF
  replace aT := d5.same _ _ ⟨(by first | assumption | omega), g0.ne, trivial⟩ aT
  replace aC := d5.same _ _ ⟨(by first | assumption | omega), g1.ne, trivial⟩ aC
  have k5 := GHeap.ltg t
  replace hin := l.mono h
  replace hin1 := b.mono h
  clear h7
  have h7 : Cat.At _ g2 0 c p := ⟨Mem.of_get d3, hin⟩
  clear r
  have r : Cat.At _ g3 0 d q := ⟨Mem.of_get d6, hin1⟩
  obtain ⟨l5, -, -, n2, -, -, -, o3, -⟩ := r.get
  have hfl : (c.idn ++ (d.idn.take y).map (· + (c.src.length : Int))).length = c.idn.length + y := by simp; omega
  refine .seq (fun K7 y7 => .seq (fun K8 x8 => .region (.mv rfl (.q rfl (.fieldAddr fo_29_0_B rfl) ?_))))
  refine .q rfl (.load on_2_A rfl (by first | assumption | exact Mem.of_get d6 0 _ rfl)) ?_
  refine .q rfl (.cmp rfl rfl rfl) (.nil (x8 _ _ ?_))
  refine .cond rfl (fun t9 => ?_) (fun t9 => ?_)
  ·
   simp only [sps] at t9
   have r1 := b7 y (by omega)
   refine .skip ?_
   refine y7 _ _ (.seq (fun K9 y2 => ?_))
   refine .block ?_
   refine .regionD mo_B (.q 0 (.q 1 (.q 2 (.q 3 (.q 4 (.q 5 (.q 6 (.q 7 (.q 8 (.c 9 1 (.c 10 0 (.q 11 (.c 12 0 (.done)))))))))))))) (by kernel_rfl) ?_
   refine .q rfl (.fieldAddr fo_29_3_B rfl) ?_
   refine .q rfl (.load on_22_B rfl (by first | assumption | exact Mem.of_get t 3 _ rfl)) ?_
   refine .q rfl (.fieldAddr fo_29_3_B rfl) ?_
   refine .q rfl (.load on_22_B rfl (by first | assumption | exact Mem.of_get d6 3 _ rfl)) ?_
   refine .mv rfl rfl ?_
   refine .q rfl (.idxN sl_22_A (by assumption) rfl rfl (by omega)) ?_
   refine .q rfl (.loadI on_2_A (by assumption) rfl (by omega)) ?_
   refine .mv rfl rfl ?_
   refine .q rfl (.add rfl rfl rfl (by omega) (by omega)) ?_
   refine .c1 rfl rfl rfl rfl (.litA rfl sl_22_A ze_2_L rfl rfl rfl rfl) ?_
   rintro _ H43 ⟨g43, rfl, j7, ge43, s0⟩
   have i0 := j7
   refine ⟨i0, ?_⟩
   replace h := h.trans j7
   replace d5 := d5.le j7
   replace d3 := j7.2 _ _ d3
   replace d6 := j7.2 _ _ d6
   replace j4 := j7.2 _ _ j4
   replace t := j7.2 _ _ t
   have lt_at43 := GHeap.ltg s0
   replace hin := l.mono h
   replace hin1 := b.mono h
   clear h7
   have h7 : Cat.At _ g2 0 c p := ⟨Mem.of_get d3, hin⟩
   clear r l5 n2 o3
   have r : Cat.At _ g3 0 d q := ⟨Mem.of_get d6, hin1⟩
   refine .c0 rfl rfl rfl rfl (.appendI rfl sl_22_A ze_2_L rfl by_2_L sl_22_A rfl rfl (by assumption) (by assumption) (by first | omega | (simp <;> omega)) (by omega) (by omega)) ?_
   rintro _ H44 ⟨w9, rfl, l1, ge44, o7⟩
   replace h := h.st l1 (fun k hk => ⟨by omega, trivial⟩)
   replace d5 := d5.sP l1
   replace d3 := l1.same _ _ ⟨(i2.ne i9.ne (by omega)), trivial⟩ d3
   replace d6 := l1.same _ _ ⟨(i2.ne j0.ne (by omega)), trivial⟩ d6
   replace t := l1.same _ _ ⟨(Ne.symm r5), trivial⟩ t
   replace hin := l.mono h
   replace hin1 := b.mono h
   clear h7
   have h7 : Cat.At _ g2 0 c p := ⟨Mem.of_get d3, hin⟩
   clear r
   have r : Cat.At _ g3 0 d q := ⟨Mem.of_get d6, hin1⟩
   refine .q rfl (.fieldAddr fo_29_3_B rfl) ?_
   refine .r0 rfl rfl rfl (.storeR rfl sz_22_Ch rfl rfl rfl (by assumption) (by first | exact Nat.le_of_ble_eq_true rfl | (simp; done) | (simp <;> omega))) ?_
   rintro _ H7012 ⟨rfl, h6, n3⟩
   replace h := h.st h6 (fun k hk => ⟨by omega, trivial⟩)
   replace d5 := d5.sA h6
   replace d3 := h6.s d3 e3.ne
   replace d6 := h6.s d6 w.ne
   replace o7 := h6.s o7
   replace hin := l.mono h
   replace hin1 := b.mono h
   clear h7
   have h7 : Cat.At _ g2 0 c p := ⟨Mem.of_get d3, hin⟩
   clear r
   have r : Cat.At _ g3 0 d q := ⟨Mem.of_get d6, hin1⟩
   try simp only [Nat.zero_add, List.set_cons_succ, List.set_cons_zero] at n3
   refine .done ?_
   refine y2 _ _ (.region (.mv rfl ?_))
   refine .q rfl (.add rfl rfl rfl (by omega) (by omega)) ?_
   refine .mv rfl (.nil ?_)
   refine u4 ((y + 1, w9)) _ _ ?_ ?_ ⟨rfl, rfl, rfl, rfl, rfl, rfl, trivial⟩
   ·
    refine ⟨d5, by (rw [take_map_snoc (d := 0) (by omega), ← List.append_assoc]; assumption), by exact ⟨.inr (by omega)⟩, by assumption, by omega, ?_⟩
    omega
   (dsimp only; omega)
  try simp only [sps] at t9
  refine .exit ?_
  refine w7 _ _ (.seq (fun K10 t7 => .seq (fun K11 u9 => .region ?_)))
  obtain rfl : y = d.obj.toNat := by omega
  have x6 : (d.idn.take d.obj.toNat) = d.idn := List.take_of_length_le (by omega)
  rw [x6] at j4
  have k1 := row_ne aC j4 rfl
  have k3 : gF ≠ gLI := i2.ne y1 (by omega)
  have k4 : gT ≠ gLI := i2.ne w6 (by omega)
  refine .mv rfl (.nil (u9 _ _ ?_))
  refine .block ?_
  refine .loopR (σ := Nat × (Nat → Option Addr)) [(3, some _), (4, some _), (5, some _), (6, some _), (7, some _)] (fun (f, rr) => [(9, some (.int .i64 (f : Int)))]) (fun (f, rr) H' => f ≤ c.comp.length ∧ SumSt 2 22 29 H H' c d q g3 g4 g7 gF gT gLI gC [.int .i64 0, .slice none 0 0, .slice none 0 0, .slice none 0 0, .slice none 0 0] rr f 0) (fun (f, rr) => c.comp.length - f) ((0, rr)) ⟨rfl, rfl, rfl, rfl, rfl, trivial⟩ ⟨rfl, trivial⟩ ?_ ?_
  ·
   refine ⟨by omega, h, by omega, ?_, k6, t, aF, aT, j4, by rw [extL_zero]; exact aC, by rw [extL_zero]; exact (j1.rows.st rk (.cons j1.r3 (.nil _ _))).low (by omega), j1.r1, j1.r2, ?_⟩
   · assumption
   · exact fun i hi e => by
       obtain ⟨x, h1, h2, h3⟩ := j1.rows.row i hi
       rw [h1] at e
       cases e
       have := GHeap.ltg h3
       exact i2.ne (fun e => j1.r3 i hi (by rw [h1, e])) (by omega) rfl
  rintro ⟨f, rr⟩ HL2 hI KL2 v3
  refine .forget (fr' := [(9, some (.int .i64 (f : Int))), (3, some _), (4, some _), (5, some _), (6, some _), (7, some _)]) ⟨rfl, rfl, rfl, rfl, rfl, rfl, trivial⟩ ?_
  obtain ⟨hf, hS⟩ := hI
  obtain ⟨h, bC, aD, aR, aS, aF, aT, aI, aC, hR, y0, x4, x0⟩ := id hS
  have nx_HL2 := h.1
  have lt_aD := GHeap.ltg aD
  have lt_aR := GHeap.ltg aR
  have p6 := GHeap.ltg aF
  have p8 := GHeap.ltg aI
  replace hin1 := b.mono h
  have r : Cat.At _ g3 0 d q := ⟨Mem.of_get aD, hin1⟩
  refine .seq (fun K12 t3 => .seq (fun K13 s7 => .region (.mv rfl (.q rfl (.fieldAddr fo_29_4_B rfl) ?_))))
  refine .q rfl (.load on_23_B rfl (by first | assumption | exact Mem.of_get aS 4 _ rfl)) ?_
  refine .q rfl (.len sl_23_B rfl) (.q rfl (.cmp rfl rfl rfl) (.nil (s7 _ _ ?_)))
  refine .cond rfl (fun t6 => ?_) (fun t6 => ?_)
  ·
   simp only [sps] at t6
   refine .skip ?_
   refine t3 _ _ (.seq (fun K14 v5 => ?_))
   refine .block ?_
   refine .seq (fun K15 u0 => .region (.mv rfl (.nil (u0 _ _ ?_))))
   refine .block ?_
   refine .loopR (σ := Nat × (Nat → Option Addr)) [(3, some _), (4, some _), (5, some _), (6, some _), (7, some _), (9, some _)] (fun (j, r2) => [(10, some (.int .i64 (j : Int)))]) (fun (j, r2) H' => j ≤ d.src.length ∧ SumSt 2 22 29 H H' c d q g3 g4 g7 gF gT gLI gC [.int .i64 0, .slice none 0 0, .slice none 0 0, .slice none 0 0, .slice none 0 0] r2 f j) (fun (j, r2) => d.src.length - j) ((0, rr)) ⟨rfl, rfl, rfl, rfl, rfl, rfl, trivial⟩ ⟨rfl, trivial⟩ ?_ ?_
   ·
    exact ⟨by omega, hS⟩
   rintro ⟨j, r2⟩ HL3 hI KL3 w4
   refine .forget (fr' := [(10, some (.int .i64 (j : Int))), (3, some _), (4, some _), (5, some _), (6, some _), (7, some _), (9, some _)]) ⟨rfl, rfl, rfl, rfl, rfl, rfl, rfl, trivial⟩ ?_
   obtain ⟨hj, hS⟩ := hI
   obtain ⟨-, -, aD, aR, aS, -, -, aI, aC, hR, -, -, -⟩ := id hS
   have hel := extL_len (xss := c.comp) (k := d.src.length) (f := f) (j := j) (i := f) hj (by omega)
   have hrow := a9 f (by omega)
   refine .seq (fun K16 w2 => .seq (fun K17 v1 => .region (.mv rfl (.q rfl (.fieldAddr fo_29_1_B rfl) ?_))))
   refine .q rfl (.load on_22_B rfl (by first | assumption | exact Mem.of_get aD 1 _ rfl)) ?_
   refine .q rfl (.len sl_22_A rfl) (.q rfl (.cmp rfl rfl rfl) (.nil (v1 _ _ ?_)))
   refine .cond rfl (fun u6 => ?_) (fun u6 => ?_)
   ·
    simp only [sps] at u6
    obtain ⟨gi, hgi, -, m9⟩ := hR.row f (by rw [length_extL]; omega)
    have hati := m9
    have m1 := row_ne aS hati rfl
    have m3 := row_ne aC hati rfl
    refine .skip ?_
    refine w2 _ _ (.seq (fun K18 u5 => ?_))
    refine .block ?_
    refine .regionDB mo_B (.q 0 (.q 1 (.q 2 (.q 3 (.q 4 (.q 5 (.q 6 (.q 7 (.c 8 1 (.c 9 1 (.q 10 (.c 11 0 (.done))))))))))))) (by kernel_rfl) (GHeap.le_erase HL3 gi) ?_
    have i0 := GHeap.le_erase HL3 gi
    have aSB := GHeap.get_erase_of aS m1
    have aCB := GHeap.get_erase_of aC m3
    have cC := slsL_cell aCB (i := f) (by rw [length_extL]; omega)
    rw [hgi] at cC
    refine .qB rfl i0 (.fieldAddr fo_29_4_B rfl) (.qB rfl i0 (.load on_23_B rfl (Mem.of_get aSB 4 _ rfl)) (.qB rfl i0 (.move rfl) (.qB rfl i0 (.fieldAddr fo_29_4_B rfl) (.qB rfl i0 (.load on_23_B rfl (Mem.of_get aSB 4 _ rfl)) (.qB rfl i0 (.move rfl) ?_)))))
    refine .qB rfl i0 (.idxN sl_23_B (SlA.of_row aCB (by simp)) rfl rfl (by omega)) ?_
    refine .qB rfl i0 (.load on_22_B rfl cC) ?_
    refine .c1 rfl rfl rfl rfl (.litA rfl sl_22_A ze_2_L rfl rfl rfl rfl) ?_
    rintro _ H68 ⟨g68, rfl, l6, ge68, at68⟩
    replace i0 := i0.trans l6
    refine ⟨i0, ?_⟩
    replace aC := l6.2 _ _ aC
    replace hati := l6.2 _ _ hati
    refine .c1 rfl rfl rfl rfl (.appendI rfl sl_22_A ze_2_L rfl by_2_L sl_22_A rfl rfl (by assumption) (by assumption) (by first | omega | (simp <;> omega)) (by omega) (by omega)) ?_
    rintro _ H69 ⟨z0, rfl, l8, v0, s8⟩
    refine ⟨(i0.erase_st l8), ?_⟩
    replace aC := l8.s aC
    replace i0 := i0.erase_st l8
    refine .qB rfl i0 (.idxN sl_23_B (SlA.of_row aCB (by simp)) rfl rfl (by omega)) ?_
    have q9 := s8
    refine .r0 rfl rfl rfl (.storeR rfl sz_22_Ch rfl rfl rfl (by assumption) (by first | exact Nat.le_of_ble_eq_true rfl | (simp; done) | (simp <;> omega))) ?_
    rintro _ H14011 ⟨rfl, m6, k0⟩
    rw [Nat.zero_add] at k0
    refine .done ?_
    refine u5 _ _ (.region (.mv rfl ?_))
    refine .q rfl (.add rfl rfl rfl (by omega) (by omega)) ?_
    refine .mv rfl (.nil ?_)
    refine w4 ((j + 1, upd r2 f (some ⟨z0, 0, none⟩))) _ _ ?_ ?_ ⟨rfl, rfl, rfl, rfl, rfl, rfl, rfl, trivial⟩
    ·
     exact ⟨by omega, hS.app rfl rfl rfl (by omega) m9 hgi l6 l8 v0 q9 m6 k0 rfl⟩
    (dsimp only; omega)
   try simp only [sps] at u6
   refine .exit ?_
   refine v5 _ _ (.region (.mv rfl ?_))
   refine .q rfl (.add rfl rfl rfl (by omega) (by omega)) ?_
   refine .mv rfl (.nil ?_)
   refine v3 ((f + 1, r2)) _ _ ?_ ?_ ⟨rfl, rfl, rfl, rfl, rfl, rfl, trivial⟩
   ·
    obtain rfl : j = d.src.length := by omega
    exact ⟨by omega, hS.next⟩
   (dsimp only; omega)
  try simp only [sps] at t6
  refine .exit ?_
  refine t7 _ _ (.seq (fun K19 s5 => .seq (fun K20 u8 => .region ?_)))
  obtain rfl : f = c.comp.length := by omega
  rw [Cat.extL_all] at aC hR
  have g6 := row_ne aD aF rfl
  have f5 := row_ne aD aT rfl
  have f6 := row_ne aD aC rfl
  have e5 := row_ne aR aF rfl
  have i5 := row_ne aI aR rfl
  have g5 := row_ne aR aT rfl
  have h5 := row_ne aR aC rfl
  have ne_g7_gF := row_ne aS aF rfl
  have ne_g7_gT := row_ne aS aT rfl
  have ne_g7_gC := row_ne aS aC rfl
  refine .mv rfl (.nil (u8 _ _ ?_))
  refine .block ?_
  refine .loopR (σ := Nat × (Nat → Option Addr) × Nat × Nat × Nat) [(3, some _), (4, some _), (5, some _), (6, some _), (7, some _)] (fun (i, r3, gLF, gLT, gLC) => [(11, some (.int .i64 (i : Int)))]) (fun (i, r3, gLF, gLT, gLC) H' => St [gF, gT, gC, g7] HL2 H' ∧ H'.get gLF = some (.row (ints (c.src ++ (d.src.take i).map (· + c.obj))) 2 true) ∧ PL gLF gF HL2.next ∧ H'.get gLT = some (.row (ints (c.tgt ++ (d.tgt.take i).map (· + c.obj))) 2 true) ∧ PL gLT gT HL2.next ∧ H'.get gLC = some (.row ((slsL r3 (c.sumL d ++ (d.comp.take i).map (sumRow c.src.length)))) 22 true) ∧ PL gLC gC HL2.next ∧ H'.get g7 = some (.row ([.int .i64 (c.obj + d.obj), .slice (some ⟨gLF, 0, none⟩) (c.src.length + i) (c.src.length + i), .slice (some ⟨gLT, 0, none⟩) (c.tgt.length + i) (c.tgt.length + i), .slice (some ⟨gLI, 0, none⟩) (c.idn.length + d.obj.toNat) (c.idn.length + d.obj.toNat), .slice (some ⟨gLC, 0, none⟩) (c.comp.length + i) (c.comp.length + i)]) 29 true) ∧ gLF ≠ gLT ∧ gLF ≠ gLC ∧ gLF ≠ g7 ∧ gLT ≠ gLC ∧ gLT ≠ g7 ∧ gLC ≠ g7 ∧ i ≤ d.src.length ∧ OwnL H.next H' 2 r3 (c.sumL d ++ (d.comp.take i).map (sumRow c.src.length)) ∧ (∀ j, j < (c.sumL d ++ (d.comp.take i).map (sumRow c.src.length)).length → r3 j ≠ some ⟨gLF, 0, none⟩) ∧ (∀ j, j < (c.sumL d ++ (d.comp.take i).map (sumRow c.src.length)).length → r3 j ≠ some ⟨gLT, 0, none⟩) ∧ ∀ j, j < (c.sumL d ++ (d.comp.take i).map (sumRow c.src.length)).length → r3 j ≠ some ⟨gLI, 0, none⟩) (fun (i, r3, gLF, gLT, gLC) => d.src.length - i) ((0, rr, gF, gT, gC)) ⟨rfl, rfl, rfl, rfl, rfl, trivial⟩ ⟨rfl, trivial⟩ ?_ ?_
  ·
   refine ⟨.refl _ _, by simpa using aF, ⟨.inl rfl⟩, by simpa using aT, ⟨.inl rfl⟩, by simpa using aC, ⟨.inl rfl⟩, by assumption, by omega, by omega, by omega, by omega, by omega, by omega, ?_⟩
   have e0 : c.sumL d ++ (d.comp.take 0).map (sumRow c.src.length) = c.sumL d := by simp
   rw [e0]
   have e1 : (c.sumL d).length = c.comp.length := by simp [Cat.sumL]
   exact ⟨by omega, hR, fun j hj => y0 j (by omega), fun j hj => x4 j (by omega), fun j hj => x0 j (by omega)⟩
  rintro ⟨i, r3, gLF, gLT, gLC⟩ HL4 ⟨u, f8, i1, c7, k2, m, k8, t, p0, o6, q6, o8, n1, k7, hI⟩ KL4 t5
  refine .forget (fr' := [(11, some (.int .i64 (i : Int))), (3, some _), (4, some _), (5, some _), (6, some _), (7, some _)]) ⟨rfl, rfl, rfl, rfl, rfl, rfl, trivial⟩ ?_
  have q7 : H.next ≤ gLF := i1.ge (by omega) (by omega)
  have p9 : H.next ≤ gLT := k2.ge (by omega) (by omega)
  have p1 : H.next ≤ gLC := k8.ge (by omega) (by omega)
  have nx_HL4 := u.nx
  replace h := h.st u (fun k hk => ⟨by omega, by omega, by omega, by omega, trivial⟩)
  have g6 : NE g3 gF := .a
  have f5 : NE g3 gT := .a
  have f6 : NE g3 gC := .a
  have w : NE g3 g7 := .a
  replace aD := u.same _ _ ⟨g6.ne, f5.ne, f6.ne, w.ne, trivial⟩ aD
  have e5 : NE g4 gF := .a
  have g5 : NE g4 gT := .a
  have h5 : NE g4 gC := .a
  have c5 : NE g4 g7 := .a
  replace aR := u.same _ _ ⟨e5.ne, g5.ne, h5.ne, c5.ne, trivial⟩ aR
  have i3 : NE gLI gF := .a
  have i4 : NE gLI g7 := .a
  replace aI := u.same _ _ ⟨i3.ne, (by first | assumption | omega), (by first | assumption | omega), i4.ne, trivial⟩ aI
  have lt_at_LF := GHeap.ltg f8
  have lt_at_LT := GHeap.ltg c7
  have lt_at_LC := GHeap.ltg m
  have k5 := GHeap.ltg t
  replace hin1 := b.mono h
  clear r
  have r : Cat.At _ g3 0 d q := ⟨Mem.of_get aD, hin1⟩
  obtain ⟨-, l7, -, -, -, o1, -, -, -⟩ := r.get
  have rk := St.refl [gLF, gLT, gLC, g7] HL4
  obtain ⟨hi, hR, hF, hT, hId⟩ := hI
  have hatC := m
  have nFI : gLI ≠ gLF := i1.ne (Ne.symm k3) (by omega)
  have nTI : gLI ≠ gLT := k2.ne (Ne.symm k4) (by omega)
  have s6 := t
  have hql : (c.sumL d ++ (d.comp.take i).map (sumRow c.src.length)).length = c.comp.length + i := by simp [Cat.sumL]; omega
  have hl1 : (c.src ++ (d.src.take i).map (· + c.obj)).length = c.src.length + i := by simp; omega
  have hl2 : (c.tgt ++ (d.tgt.take i).map (· + c.obj)).length = c.tgt.length + i := by simp; omega
  have hfl : (slsL r3 (c.sumL d ++ (d.comp.take i).map (sumRow c.src.length))).length = c.comp.length + i := by rw [length_slsL, hql]
  refine .seq (fun K21 t0 => .seq (fun K22 w1 => .region (.mv rfl (.q rfl (.fieldAddr fo_29_1_B rfl) ?_))))
  refine .q rfl (.load on_22_B rfl (by first | assumption | exact Mem.of_get aD 1 _ rfl)) ?_
  refine .q rfl (.len sl_22_A rfl) (.q rfl (.cmp rfl rfl rfl) (.nil (w1 _ _ ?_)))
  refine .cond rfl (fun r9 => ?_) (fun r9 => ?_)
  ·
   simp only [sps] at r9
   have q1 := b4 i (by omega)
   have q2 := b5 i (by omega)
   have q3 := b9 i (by omega)
   refine .skip ?_
   refine t0 _ _ (.seq (fun K23 t1 => ?_))
   refine .block ?_
   refine .seq (fun K24 s1 => ?_)
   refine .regionD mo_B (.q 0 (.q 1 (.q 2 (.q 3 (.q 4 (.q 5 (.q 6 (.q 7 (.q 8 (.c 9 1 (.c 10 0 (.q 11 (.c 12 0 (.done)))))))))))))) (by kernel_rfl) ?_
   refine .q rfl (.fieldAddr fo_29_1_B rfl) ?_
   refine .q rfl (.load on_22_B rfl (by first | assumption | exact Mem.of_get t 1 _ rfl)) ?_
   refine .q rfl (.fieldAddr fo_29_1_B rfl) ?_
   refine .q rfl (.load on_22_B rfl (by first | assumption | exact Mem.of_get aD 1 _ rfl)) ?_
   refine .mv rfl rfl ?_
   refine .q rfl (.idxN sl_22_A (by assumption) rfl rfl (by omega)) ?_
   refine .q rfl (.loadI on_2_A (by assumption) rfl (by omega)) ?_
   refine .mv rfl rfl ?_
   refine .q rfl (.add rfl rfl rfl (by omega) (by omega)) ?_
   refine .c1 rfl rfl rfl rfl (.litA rfl sl_22_A ze_2_L rfl rfl rfl rfl) ?_
   rintro _ H87 ⟨g87, rfl, f9, ge87, j6⟩
   have i0 := f9
   refine ⟨i0, ?_⟩
   replace h := h.trans f9
   replace u := u.le f9
   replace rk := rk.le f9
   replace aD := f9.2 _ _ aD
   replace aR := f9.2 _ _ aR
   replace aI := f9.2 _ _ aI
   replace f8 := f9.2 _ _ f8
   replace c7 := f9.2 _ _ c7
   replace m := f9.2 _ _ m
   replace t := f9.2 _ _ t
   have lt_at87 := GHeap.ltg j6
   replace hin1 := b.mono h
   clear r l7 o1
   have r : Cat.At _ g3 0 d q := ⟨Mem.of_get aD, hin1⟩
   refine .c0 rfl rfl rfl rfl (.appendI rfl sl_22_A ze_2_L rfl by_2_L sl_22_A rfl rfl (by assumption) (by assumption) (by first | omega | (simp <;> omega)) (by omega) (by omega)) ?_
   rintro _ H88 ⟨r7, rfl, h8, ge88, c3⟩
   replace h := h.st h8 (fun k hk => ⟨by omega, trivial⟩)
   replace u := u.sP h8
   replace rk := rk.sP h8
   replace aD := h8.same _ _ ⟨(i1.ne g6.ne (by omega)), trivial⟩ aD
   have e6 : NE g4 gLF := ⟨i1.ne e5.ne (by omega)⟩
   replace aR := h8.s aR e6.ne
   replace aI := h8.same _ _ ⟨(i1.ne i3.ne (by omega)), trivial⟩ aI
   replace c7 := h8.same _ _ ⟨(Ne.symm p0), trivial⟩ c7
   replace m := h8.same _ _ ⟨(Ne.symm o6), trivial⟩ m
   replace t := h8.same _ _ ⟨(Ne.symm q6), trivial⟩ t
   replace j6 := h8.s j6
   have lt_at88 := GHeap.ltg c3
   replace hin := l.mono h
   replace hin1 := b.mono h
   clear r
   have r : Cat.At _ g3 0 d q := ⟨Mem.of_get aD, hin1⟩
   obtain ⟨l5, l7, o5, n2, o4, o1, q5, o3, m7⟩ := r.get
   have q8 : MemN _ _ _ _ _ := ⟨rfl, r.1⟩
   have p4 := r.2
   refine .q rfl (.fieldAddr fo_29_1_B rfl) ?_
   refine .r0 rfl rfl rfl (.storeR rfl sz_22_Ch rfl rfl rfl (by assumption) (by first | exact Nat.le_of_ble_eq_true rfl | (simp; done) | (simp <;> omega))) ?_
   rintro _ H18012 ⟨rfl, v, d1⟩
   have nx_H18012 := v.nx
   replace h := h.st v (fun k hk => ⟨by omega, trivial⟩)
   replace u := u.sA v
   replace rk := rk.sA v
   replace aD := v.s aD w.ne
   replace aR := v.s aR c5.ne
   replace aI := v.s aI i4.ne
   replace c7 := v.same _ _ ⟨n1, trivial⟩ c7
   replace m := v.same _ _ ⟨k7, trivial⟩ m
   replace j6 := v.s j6
   have e7 : NE r7 g7 := .a
   replace c3 := v.s c3 e7.ne
   have lt_at18012 := GHeap.ltg d1
   replace hin := l.mono h
   replace hin1 := b.mono h
   clear r l5 l7 o5 n2 o4 o1 q5 o3 m7 q8 p4
   have r : Cat.At _ g3 0 d q := ⟨Mem.of_get aD, hin1⟩
   obtain ⟨l5, l7, o5, n2, o4, o1, q5, o3, m7⟩ := r.get
   have q8 : MemN _ _ _ _ _ := ⟨rfl, r.1⟩
   have p4 := r.2
   try simp only [Nat.zero_add, List.set_cons_succ, List.set_cons_zero] at d1
   refine .done ?_
   refine s1 _ _ (.seq (fun K25 v4 => ?_))
   refine .regionD mo_B (.q 0 (.q 1 (.q 2 (.q 3 (.q 4 (.q 5 (.q 6 (.q 7 (.q 8 (.c 9 1 (.c 10 0 (.q 11 (.c 12 0 (.done)))))))))))))) (by kernel_rfl) ?_
   refine .q rfl (.fieldAddr fo_29_2_B rfl) ?_
   refine .q rfl (.load on_22_B rfl (by first | assumption | exact Mem.of_get d1 2 _ rfl)) ?_
   refine .q rfl (.fieldAddr fo_29_2_B rfl) ?_
   refine .q rfl (.load on_22_B rfl (by first | assumption | exact Mem.of_get aD 2 _ rfl)) ?_
   refine .mv rfl rfl ?_
   refine .q rfl (.idxN sl_22_A (by assumption) rfl rfl (by omega)) ?_
   refine .q rfl (.loadI on_2_A (by assumption) rfl (by omega)) ?_
   refine .mv rfl rfl ?_
   refine .q rfl (.add rfl rfl rfl (by omega) (by omega)) ?_
   refine .c1 rfl rfl rfl rfl (.litA rfl sl_22_A ze_2_L rfl rfl rfl rfl) ?_
   rintro _ H99 ⟨g99, rfl, e8, ge99, v9⟩
   have i0 := e8
   refine ⟨i0, ?_⟩
   have nx_H99 := e8.1
   replace h := h.trans e8
   replace u := u.le e8
   replace rk := rk.le e8
   replace aD := e8.2 _ _ aD
   replace aR := e8.2 _ _ aR
   replace aI := e8.2 _ _ aI
   replace c7 := e8.2 _ _ c7
   replace m := e8.2 _ _ m
   replace j6 := e8.2 _ _ j6
   replace c3 := e8.2 _ _ c3
   replace d1 := e8.2 _ _ d1
   have lt_at99 := GHeap.ltg v9
   replace hin := l.mono h
   replace hin1 := b.mono h
   clear r l5 l7 o5 n2 o4 o1 q5 o3 m7 q8 p4
   have r : Cat.At _ g3 0 d q := ⟨Mem.of_get aD, hin1⟩
   obtain ⟨l5, l7, o5, n2, o4, o1, q5, o3, m7⟩ := r.get
   have q8 : MemN _ _ _ _ _ := ⟨rfl, r.1⟩
   have p4 := r.2
   refine .c0 rfl rfl rfl rfl (.appendI rfl sl_22_A ze_2_L rfl by_2_L sl_22_A rfl rfl (by assumption) (by assumption) (by first | omega | (simp <;> omega)) (by omega) (by omega)) ?_
   rintro _ H100 ⟨m0, rfl, g9, ge100, a5⟩
   replace h := h.st g9 (fun k hk => ⟨by omega, trivial⟩)
   replace u := u.sP g9
   replace rk := rk.sP g9
   replace aD := g9.same _ _ ⟨(k2.ne f5.ne (by omega)), trivial⟩ aD
   replace m := g9.same _ _ ⟨(Ne.symm o8), trivial⟩ m
   replace c3 := g9.s c3
   replace d1 := g9.same _ _ ⟨(Ne.symm n1), trivial⟩ d1
   have lt_at100 := GHeap.ltg a5
   replace hin1 := b.mono h
   clear r l5 l7 o5 n2 o4 o1 q5 o3 m7 q8 p4
   have r : Cat.At _ g3 0 d q := ⟨Mem.of_get aD, hin1⟩
   refine .q rfl (.fieldAddr fo_29_2_B rfl) ?_
   refine .r0 rfl rfl rfl (.storeR rfl sz_22_Ch rfl rfl rfl (by assumption) (by first | exact Nat.le_of_ble_eq_true rfl | (simp; done) | (simp <;> omega))) ?_
   rintro _ H19012 ⟨rfl, b0, o⟩
   have nx_H19012 := b0.nx
   replace h := h.st b0 (fun k hk => ⟨by omega, trivial⟩)
   replace u := u.sA b0
   replace rk := rk.sA b0
   replace aD := b0.s aD w.ne
   replace m := b0.same _ _ ⟨k7, trivial⟩ m
   replace c3 := b0.s c3 e7.ne
   have g8 : NE m0 g7 := .a
   replace a5 := b0.s a5 g8.ne
   have lt_at19012 := GHeap.ltg o
   replace hin1 := b.mono h
   clear r
   have r : Cat.At _ g3 0 d q := ⟨Mem.of_get aD, hin1⟩
   try simp only [Nat.zero_add, List.set_cons_succ, List.set_cons_zero] at o
   refine .done ?_
   refine v4 _ _ (.seq (fun K26 w3 => .region ?_))
   refine .R rfl (.litA rfl sl_22_A ze_2_L rfl rfl rfl rfl) ?_
   rintro _ n8 ⟨i7, rfl, f0, ge102, l0⟩
   replace h := h.trans f0
   replace u := u.le f0
   replace rk := rk.le f0
   replace aD := f0.2 _ _ aD
   replace m := f0.2 _ _ m
   replace c3 := f0.2 _ _ c3
   replace a5 := f0.2 _ _ a5
   replace o := f0.2 _ _ o
   have lt_at102 := GHeap.ltg l0
   replace hin1 := b.mono h
   clear r
   have r : Cat.At _ g3 0 d q := ⟨Mem.of_get aD, hin1⟩
   replace l0 : GHeap.get n8 i7 = some (.row (ints []) 2 true) := l0
   refine .mv rfl (.nil (w3 _ _ (.seq (fun K27 v7 => .seq (fun K28 s3 => .region (.mv rfl (.nil (s3 _ _ ?_))))))))
   refine .block ?_
   refine .loopR (σ := Nat × Nat × Nat) [(3, some _), (4, some _), (5, some _), (6, some _), (7, some _), (11, some _)] (fun (j, d8, i6) => [(13, some (.int .i64 (j : Int))), (12, some (.slice (some ⟨d8, 0, none⟩) i6 i6))]) (fun (j, d8, i6) H' => St [i7] n8 H' ∧ H'.get d8 = some (.row (ints (List.replicate j (-1))) 2 true) ∧ PL d8 i7 n8.next ∧ i6 = (List.replicate j (-1)).length ∧ j ≤ c.src.length) (fun (j, d8, i6) => c.src.length - j) ((0, _, _)) ⟨rfl, rfl, rfl, rfl, rfl, rfl, trivial⟩ ⟨rfl, rfl, trivial⟩ ?_ ?_
   ·
    refine ⟨.refl _ _, by assumption, ⟨.inl rfl⟩, by rfl, ?_⟩
    omega
   rintro ⟨j, d8, i6⟩ HL5 ⟨e2, j5, d2, n7, hI⟩ KL5 s4
   refine .forget (fr' := [(13, some (.int .i64 (j : Int))), (12, some (.slice (some ⟨d8, 0, none⟩) i6 i6)), (3, some _), (4, some _), (5, some _), (6, some _), (7, some _), (11, some _)]) ⟨rfl, rfl, rfl, rfl, rfl, rfl, rfl, rfl, trivial⟩ ?_
   have ge_L12 : H.next ≤ d8 := d2.ge (by omega) (by omega)
   have nx_HL5 := e2.nx
   replace h := h.st e2 (fun k hk => ⟨by omega, trivial⟩)
   replace u := u.sA e2
   replace rk := rk.sA e2
   have d7 : NE g3 i7 := .a
   replace aD := e2.s aD d7.ne
   have f3 : NE gLC i7 := .a
   replace m := e2.s m f3.ne
   have f2 : NE r7 i7 := .a
   replace c3 := e2.s c3 f2.ne
   have e4 : NE m0 i7 := .a
   replace a5 := e2.s a5 e4.ne
   have h0 : NE g7 i7 := .a
   replace o := e2.s o h0.ne
   have lt_at_L12 := GHeap.ltg j5
   replace hin1 := b.mono h
   clear r
   have r : Cat.At _ g3 0 d q := ⟨Mem.of_get aD, hin1⟩
   have hz : (List.replicate j (-1 : Int)).length = j := List.length_replicate
   refine .seq (fun K29 v2 => .seq (fun K30 u7 => .region (.mv rfl (.mv rfl (.q rfl (.cmp rfl rfl rfl) (.nil (u7 _ _ ?_)))))))
   refine .cond rfl (fun o0 => ?_) (fun o0 => ?_)
   ·
    simp only [sps] at o0
    refine .skip ?_
    refine v2 _ _ (.seq (fun K31 v8 => ?_))
    refine .block ?_
    refine .region (.mv rfl ?_)
    refine .R rfl (.litA rfl sl_22_A ze_2_L rfl rfl rfl rfl) ?_
    rintro _ H109 ⟨g109, rfl, j9, ge109, o9⟩
    replace h := h.trans j9
    replace e2 := e2.le j9
    replace aD := j9.2 _ _ aD
    replace j5 := j9.2 _ _ j5
    have lt_at109 := GHeap.ltg o9
    replace hin1 := b.mono h
    clear r
    have r : Cat.At _ g3 0 d q := ⟨Mem.of_get aD, hin1⟩
    refine .R rfl (.appendI rfl sl_22_A ze_2_L rfl by_2_L sl_22_A rfl rfl (by assumption) (by assumption) (by first | omega | (simp <;> omega)) (by omega) (by omega)) ?_
    rintro _ H110 ⟨g110, rfl, k9, ge110, at110⟩
    replace h := h.st k9 (fun k hk => ⟨by omega, trivial⟩)
    replace e2 := e2.sP k9
    have a0 : NE g3 d8 := ⟨d2.ne d7.ne (by omega)⟩
    replace aD := k9.s aD a0.ne
    replace hin1 := b.mono h
    clear r
    have r : Cat.At _ g3 0 d q := ⟨Mem.of_get aD, hin1⟩
    refine .mv rfl (.nil (v8 _ _ (.region (.mv rfl ?_))))
    refine .q rfl (.add rfl rfl rfl (by omega) (by omega)) ?_
    refine .mv rfl (.nil ?_)
    refine s4 ((j + 1, _, _)) _ _ ?_ ?_ ⟨rfl, rfl, rfl, rfl, rfl, rfl, rfl, rfl, trivial⟩
    ·
     refine ⟨e2, by (rw [List.replicate_succ']; assumption), by exact ⟨.inr (by omega)⟩, by (rw [List.replicate_succ'] <;> (first | omega | (simp only [List.length_append, List.length_cons, List.length_nil] <;> omega))), ?_⟩
     omega
    (dsimp only; omega)
   try simp only [sps] at o0
   refine .exit ?_
   refine v7 _ _ (.seq (fun K32 t2 => .seq (fun K33 v6 => .region ?_)))
   obtain rfl : j = c.src.length := by omega
   have h9 : i6 = (sumRow c.src.length ((d.comp.getD i []).take 0)).length := by rw [length_sumRow, n7]; simp
   refine .mv rfl (.nil (v6 _ _ ?_))
   refine .block ?_
   refine .loopR (σ := Nat × Nat × Nat) [(3, some _), (4, some _), (5, some _), (6, some _), (7, some _), (11, some _)] (fun (j, z, d4) => [(14, some (.int .i64 (j : Int))), (12, some (.slice (some ⟨z, 0, none⟩) d4 d4))]) (fun (j, z, d4) H' => St [d8] HL5 H' ∧ H'.get z = some (.row (ints (sumRow c.src.length ((d.comp.getD i []).take j))) 2 true) ∧ PL z d8 HL5.next ∧ d4 = (sumRow c.src.length ((d.comp.getD i []).take j)).length ∧ j ≤ d.src.length) (fun (j, z, d4) => d.src.length - j) ((0, _, _)) ⟨rfl, rfl, rfl, rfl, rfl, rfl, trivial⟩ ⟨rfl, rfl, trivial⟩ ?_ ?_
   ·
    refine ⟨.refl _ _, by (rw [List.take_zero, sumRow_nil]; assumption), ⟨.inl rfl⟩, by assumption, ?_⟩
    omega
   rintro ⟨j, z, d4⟩ HL6 ⟨c8, n, c6, j2, hI⟩ KL6 p2
   refine .forget (fr' := [(14, some (.int .i64 (j : Int))), (12, some (.slice (some ⟨z, 0, none⟩) d4 d4)), (3, some _), (4, some _), (5, some _), (6, some _), (7, some _), (11, some _)]) ⟨rfl, rfl, rfl, rfl, rfl, rfl, rfl, rfl, trivial⟩ ?_
   have ge_L12v6 : H.next ≤ z := c6.ge (by omega) (by omega)
   have nx_HL6 := c8.nx
   replace h := h.st c8 (fun k hk => ⟨by omega, trivial⟩)
   replace u := u.sP c8
   replace rk := rk.sP c8
   have a0 : NE g3 d8 := ⟨d2.ne d7.ne (by omega)⟩
   replace aD := c8.s aD a0.ne
   have f1 : NE gLC d8 := ⟨d2.ne f3.ne (by omega)⟩
   replace m := c8.s m f1.ne
   replace c3 := c8.same _ _ ⟨(d2.ne f2.ne (by omega)), trivial⟩ c3
   replace a5 := c8.same _ _ ⟨(d2.ne e4.ne (by omega)), trivial⟩ a5
   have f7 : NE g7 d8 := ⟨d2.ne h0.ne (by omega)⟩
   replace o := c8.s o f7.ne
   replace hin1 := b.mono h
   have r : Cat.At _ g3 0 d q := ⟨Mem.of_get aD, hin1⟩
   obtain ⟨-, l7, -, -, o4, -, -, -, m7⟩ := r.get
   have hz : (sumRow c.src.length ((d.comp.getD i []).take j)).length = c.src.length + j := by rw [length_sumRow, List.length_take]; omega
   refine .seq (fun K34 t4 => .seq (fun K35 s9 => .region (.mv rfl (.q rfl (.fieldAddr fo_29_1_B rfl) ?_))))
   refine .q rfl (.load on_22_B rfl (by first | assumption | exact Mem.of_get aD 1 _ rfl)) ?_
   refine .q rfl (.len sl_22_A rfl) (.q rfl (.cmp rfl rfl rfl) (.nil (s9 _ _ ?_)))
   refine .cond rfl (fun o2 => ?_) (fun o2 => ?_)
   ·
    simp only [sps] at o2
    have q4 := x3 i (by omega) j (by omega)
    have hz2 : (sumRow c.src.length ((d.comp.getD i []).take (j + 1))).length = c.src.length + (j + 1) := by rw [length_sumRow, List.length_take]; omega
    have u1 := m7.2 i (by omega)
    refine .skip ?_
    refine t4 _ _ (.seq (fun K36 p3 => ?_))
    refine .block ?_
    refine .seq (fun K37 s2 => .region (.q rfl (.fieldAddr fo_29_4_B rfl) ?_))
    refine .q rfl (.load on_23_B rfl (by first | assumption | exact Mem.of_get aD 4 _ rfl)) ?_
    refine .mv rfl ?_
    refine .q rfl (.idxN sl_23_B (Intss.sl (by assumption)) rfl rfl (by omega)) ?_
    refine .q rfl (.loadR on_22_B (by assumption) rfl (by omega)) ?_
    refine .mv rfl ?_
    refine .q rfl (.idxN sl_22_A (by assumption) rfl rfl (by omega)) ?_
    refine .q rfl (.loadI on_2_A (by assumption) rfl (by omega)) ?_
    refine .mv rfl (.nil (s2 _ _ (.seq (fun K38 r4 => .seq (fun K39 u3 => .region (.mv rfl (.q rfl (.cmp rfl rfl rfl) (.nil (u3 _ _ ?_)))))))))
    refine .cond rfl (fun n9 => ?_) (fun n9 => ?_)
    ·
     simp only [sps] at n9
     refine .region (.mv rfl (.mv rfl ?_))
     refine .q rfl (.add rfl rfl rfl (by omega) (by omega)) ?_
     refine .mv rfl (.nil (r4 _ _ (.region (.mv rfl (.mv rfl ?_)))))
     refine .R rfl (.litA rfl sl_22_A ze_2_L rfl rfl rfl rfl) ?_
     rintro _ H133 ⟨g133, rfl, j8, ge133, p5⟩
     replace h := h.trans j8
     replace c8 := c8.le j8
     replace aD := j8.2 _ _ aD
     replace n := j8.2 _ _ n
     have lt_at133 := GHeap.ltg p5
     replace hin1 := b.mono h
     clear r l7 o4 m7
     have r : Cat.At _ g3 0 d q := ⟨Mem.of_get aD, hin1⟩
     clear u1
     refine .R rfl (.appendI rfl sl_22_A ze_2_L rfl by_2_L sl_22_A rfl rfl (by assumption) (by assumption) (by first | omega | (simp <;> omega)) (by omega) (by omega)) ?_
     rintro _ H134 ⟨g134, rfl, l2, ge134, at134⟩
     replace h := h.st l2 (fun k hk => ⟨by omega, trivial⟩)
     replace c8 := c8.sQ l2
     have d0 : NE g3 z := ⟨c6.ne a0.ne (by omega)⟩
     replace aD := l2.s aD d0.ne
     replace hin1 := b.mono h
     clear r
     have r : Cat.At _ g3 0 d q := ⟨Mem.of_get aD, hin1⟩
     refine .mv rfl (.nil (p3 _ _ (.region (.mv rfl ?_))))
     refine .q rfl (.add rfl rfl rfl (by omega) (by omega)) ?_
     refine .mv rfl (.nil ?_)
     refine p2 ((j + 1, _, _)) _ _ ?_ ?_ ⟨rfl, rfl, rfl, rfl, rfl, rfl, rfl, rfl, trivial⟩
     ·
      refine ⟨c8, by (rw [sumRow_take (by omega), if_pos (by omega)]; assumption), by exact ⟨.inr (by omega)⟩, by omega, ?_⟩
      omega
     (dsimp only; omega)
    simp only [sps] at n9
    refine .skip ?_
    refine r4 _ _ (.region (.mv rfl (.mv rfl ?_)))
    refine .R rfl (.litA rfl sl_22_A ze_2_L rfl rfl rfl rfl) ?_
    rintro _ H133x2 ⟨g133x2, rfl, f4, ge133x2, m2⟩
    replace h := h.trans f4
    replace c8 := c8.le f4
    replace aD := f4.2 _ _ aD
    replace n := f4.2 _ _ n
    have lt_at133x2 := GHeap.ltg m2
    replace hin1 := b.mono h
    have r : Cat.At _ g3 0 d q := ⟨Mem.of_get aD, hin1⟩
    refine .R rfl (.appendI rfl sl_22_A ze_2_L rfl by_2_L sl_22_A rfl rfl (by assumption) (by assumption) (by first | omega | (simp <;> omega)) (by omega) (by omega)) ?_
    rintro _ H134x2 ⟨g134x2, rfl, i8, ge134x2, at134x2⟩
    replace h := h.st i8 (fun k hk => ⟨by omega, trivial⟩)
    replace c8 := c8.sQ i8
    have d0 : NE g3 z := ⟨c6.ne a0.ne (by omega)⟩
    replace aD := i8.s aD d0.ne
    replace hin1 := b.mono h
    clear r
    have r : Cat.At _ g3 0 d q := ⟨Mem.of_get aD, hin1⟩
    refine .mv rfl (.nil (p3 _ _ (.region (.mv rfl ?_))))
    refine .q rfl (.add rfl rfl rfl (by omega) (by omega)) ?_
    refine .mv rfl (.nil ?_)
    refine p2 ((j + 1, _, _)) _ _ ?_ ?_ ⟨rfl, rfl, rfl, rfl, rfl, rfl, rfl, rfl, trivial⟩
    ·
     refine ⟨c8, by (rw [sumRow_take (by omega), if_neg (by omega)]; assumption), by exact ⟨.inr (by omega)⟩, by omega, ?_⟩
     omega
    (dsimp only; omega)
   try simp only [sps] at o2
   refine .exit ?_
   refine t2 _ _ (.region ?_)
   obtain rfl : j = d.src.length := by omega
   rw [show (d.comp.getD i []).take d.src.length = d.comp.getD i [] from List.take_of_length_le (by omega)] at n j2
   obtain rfl := j2
   refine .q rfl (.fieldAddr fo_29_4_B rfl) ?_
   refine .q rfl (.load on_23_B rfl (by first | assumption | exact Mem.of_get o 4 _ rfl)) ?_
   refine .mv rfl ?_
   refine .R rfl (.litA rfl sl_23_B ze_22_Hj rfl rfl rfl rfl) ?_
   rintro _ H138 ⟨g138, rfl, d9, ge138, q0⟩
   replace h := h.trans d9
   replace u := u.le d9
   replace rk := rk.le d9
   replace aD := d9.2 _ _ aD
   replace m := d9.2 _ _ m
   replace c3 := d9.2 _ _ c3
   replace a5 := d9.2 _ _ a5
   replace o := d9.2 _ _ o
   replace n := d9.2 _ _ n
   have lt_at138 := GHeap.ltg q0
   replace hin1 := b.mono h
   have r : Cat.At _ g3 0 d q := ⟨Mem.of_get aD, hin1⟩
   refine .R rfl (.appendV rfl sl_23_B ze_22_Hj rfl by_22_Hj sl_23_B rfl rfl (by assumption) (by assumption) (by first | omega | (simp <;> omega)) rfl rfl (by omega) (by omega)) ?_
   rintro _ H139 ⟨r8, rfl, e9, ge139, m8⟩
   replace h := h.st e9 (fun k hk => ⟨by omega, trivial⟩)
   replace u := u.sP e9
   replace rk := rk.sP e9
   replace aD := e9.same _ _ ⟨(k8.ne f6.ne (by omega)), trivial⟩ aD
   replace c3 := e9.s c3
   replace a5 := e9.s a5
   replace o := e9.same _ _ ⟨(Ne.symm k7), trivial⟩ o
   replace n := e9.same _ _ ⟨(Ne.symm (c6.ne f1.ne (by omega))), trivial⟩ n
   replace hin1 := b.mono h
   clear r
   have r : Cat.At _ g3 0 d q := ⟨Mem.of_get aD, hin1⟩
   refine .q rfl (.fieldAddr fo_29_4_B rfl) ?_
   refine .r0 rfl rfl (.storeR rfl sz_23_Ch rfl rfl rfl (by assumption) (by first | exact Nat.le_of_ble_eq_true rfl | (simp; done) | (simp <;> omega))) ?_
   rintro _ H32006 ⟨rfl, a7, m5⟩
   replace h := h.st a7 (fun k hk => ⟨by omega, trivial⟩)
   replace u := u.sA a7
   replace rk := rk.sA a7
   replace aD := a7.s aD w.ne
   replace c3 := a7.s c3 e7.ne
   replace a5 := a7.s a5 g8.ne
   replace n := a7.same _ _ ⟨(Ne.symm (c6.ne f7.ne (by omega))), trivial⟩ n
   replace m8 := a7.s m8
   replace hin1 := b.mono h
   clear r
   have r : Cat.At _ g3 0 d q := ⟨Mem.of_get aD, hin1⟩
   try simp only [Nat.zero_add, List.set_cons_succ, List.set_cons_zero] at m5
   refine .nil (t1 _ _ (.region (.mv rfl ?_)))
   refine .q rfl (.add rfl rfl rfl (by omega) (by omega)) ?_
   refine .mv rfl (.nil ?_)
   refine t5 ((i + 1, upd r3 (c.sumL d ++ (d.comp.take i).map (sumRow c.src.length)).length (some ⟨z, 0, none⟩), r7, m0, r8)) _ _ ?_ ?_ ⟨rfl, rfl, rfl, rfl, rfl, rfl, trivial⟩
   ·
    refine ⟨u, by (rw [take_map_snoc (d := 0) (by omega), ← List.append_assoc]; assumption), by exact ⟨.inr (by omega)⟩, by (rw [take_map_snoc (d := 0) (by omega), ← List.append_assoc]; assumption), by exact ⟨.inr (by omega)⟩, by (rw [take_map_snoc (d := []) (by omega), ← List.append_assoc, slsL_snoc]; assumption), by exact ⟨.inr (by omega)⟩, by assumption, by omega, by omega, by omega, by omega, by omega, by omega, ?_⟩
    have hg9 : i7 ≤ z := c6.ge (d2.ge (Nat.le_refl _) (by omega)) (by omega)
    have hR' := hR.st rk (.cons hF (.cons hT (.cons (hR.neT hatC rfl) (.cons (hR.neT s6 rfl) (.nil _ _)))))
    have x1 := hR.ne (g := z) (by omega)
    have y3 := hR.ne (g := r7) (by omega)
    have x7 := hR.ne (g := m0) (by omega)
    have hrow := n
    rw [take_map_snoc (d := []) (by omega), ← List.append_assoc]
    exact ⟨by omega, hR'.snoc2 hrow x1 (by omega), ne_snoc y3 (by omega), ne_snoc x7 (by omega), ne_snoc hId (by omega)⟩
   (dsimp only; omega)
  try simp only [sps] at r9
  refine .exit ?_
  refine s5 _ _ (.seq (fun K40 u2 => .region ?_))
  obtain rfl : i = d.src.length := by omega
  rw [List.take_length] at f8
  rw [show d.tgt.take d.src.length = d.tgt from List.take_of_length_le (by omega)] at c7
  rw [show d.comp.take d.src.length = d.comp from List.take_of_length_le (by omega)] at m hR hF hT hId
  refine .q rfl (.loadM ag_29_D rfl ⟨rfl, Mem.of_get t⟩) ?_
  have w0 := aR
  refine .r0 rfl rfl (.fillA rfl sz_29_D rfl rfl rfl rfl) ?_
  rintro _ H33001 ⟨rfl, c9, m4⟩
  replace h := h.st c9 (fun k hk => ⟨by omega, trivial⟩)
  replace aD := c9.s aD
  have i5 : NE gLI g4 := .a
  replace aI := c9.s aI i5.ne
  have e6 : NE g4 gLF := ⟨i1.ne e5.ne (by omega)⟩
  replace f8 := c9.s f8 (Ne.symm e6.ne)
  replace c7 := c9.same _ _ ⟨(Ne.symm (k2.ne g5.ne (by omega))), trivial⟩ c7
  replace m := c9.same _ _ ⟨(Ne.symm (k8.ne h5.ne (by omega))), trivial⟩ m
  replace hin1 := b.mono h
  have r : Cat.At _ g3 0 d q := ⟨Mem.of_get aD, hin1⟩
  refine .nil (u2 _ _ ?_)
  refine .ret ?_
  refine t8 _ _ ?_
  refine ⟨_, _, _, _, rfl, ag_29_D, (by rfl), (Mem.of_get m4), ?_⟩
  exact ⟨h, gLF, gLT, gLI, gLC, r3, by simp [Cat.cells, Cat.sum, ownP, Cat.sumL, b3, b8, show d.idn.length = d.obj.toNat by omega], ⟨f8, c7, aI, m, q7, p9, p7, p1, by assumption, Ne.symm nFI, Ne.symm nTI, hR.st c9 (.cons (hR.neT w0 rfl) (.nil _ _)), hF, hT, hId⟩⟩
end Go.Proofs.Ytjdedelneppnlaa
namespace Go.Proofs.Ytjdedelneppnlaa
open Go Go.GL Go.RowKit Go.Proofs
theorem us_118_Da : (Try.prog.underlying 118).isSome = true := by kernel_rfl
theorem it_2_Da : intT Try.prog 2 = some .i64 := by kernel_rfl
theorem fo_120_2_Da : fieldOff Try.prog 120 2 = some 2 := by kernel_rfl
theorem on_118_Da : oneT Try.prog 118 = true := by kernel_rfl
theorem sz_118_Da : (Try.prog.info? 118).map (·.size) = some 1 := by kernel_rfl
theorem fo_120_1_Da : fieldOff Try.prog 120 1 = some 1 := by kernel_rfl
theorem on_3_Da : oneT Try.prog 3 = true := by kernel_rfl
theorem fo_120_0_Da : fieldOff Try.prog 120 0 = some 0 := by kernel_rfl
theorem on_36_Da : oneT Try.prog 36 = true := by kernel_rfl
theorem sl_36_Da : sliceT Try.prog 36 = some (5, 1) := by kernel_rfl
theorem on_5_Da : oneT Try.prog 5 = true := by kernel_rfl
theorem us_5_Da : (Try.prog.underlying 5).isSome = true := by kernel_rfl
theorem sz_3_Da : (Try.prog.info? 3).map (·.size) = some 1 := by kernel_rfl
theorem us_3_Da : (Try.prog.underlying 3).isSome = true := by kernel_rfl
theorem it_118_Da : intT Try.prog 118 = some .u64 := by kernel_rfl
theorem bt_120_Da : buildT Try.prog 120 = some ([.slice none 0 0, .int .i64 0, .int .u64 0], [(0, 1), (1, 1), (2, 1)]) := by kernel_rfl
theorem sz_120_Da : (Try.prog.info? 120).map (·.size) = some 3 := by kernel_rfl
theorem l01Next_c {gS : Nat} {n : Int} {H : GHeap} (hs : DSrc 120 H gS := by assumption) :
    GCalls Try.prog 70 [.pointer (some ⟨gS, 0, none⟩), .int .i64 n] H (Drawn 120 gS n H) := by
  obtain ⟨a, xs, p, hh, hg, ⟨p0, p1⟩, hx, hb, hlt⟩ := hs
  have hx0 := andU_le ((IntKind.wrap .u64 (IntKind.wrap .u64 (hh * 6364136223846793005) + 1442695040888963407)).fdiv (2 ^ 33))
  have hlo : ∀ b o t, a = some ⟨b, o, t⟩ → out [gS] b := fun b o t ha => ⟨by have := hlt b o t ha; omega, trivial⟩
  refine GCalls.body (N := 58) (rs := [.tmp 4]) Try.func70 rfl rfl rfl rfl (fun Qx g hend => ?_)
  refine .fg [0, 1] rfl ?_
  have f := St.refl [gS] H
  have hbs := hb.st f hlo
  refine .seq (fun K1 a0 => .region (.mv rfl (.nil (a0 _ _ (.seq (fun K2 w => .seq (fun K3 v => .region (.mv rfl (.q rfl (.cmp rfl rfl rfl) (.nil (v _ _ ?_)))))))))))
  refine .cond rfl (fun h7 => ?_) (fun h7 => ?_)
  ·
   try simp only [sps] at h7
   refine .seq (fun K4 s => .region (.mv rfl (.nil (s _ _ ?_))))
   refine .ret ?_
   refine g _ _ ?_
   refine ⟨_, rfl, ?_⟩
   exact ⟨0, rfl, by omega, fun h => by omega, fun _ => rfl, f, a, xs, p, hh, hg, ⟨p0, p1⟩, hx, hbs, hlt⟩
  try simp only [sps] at h7
  refine .skip ?_
  refine w _ _ (.seq (fun K5 a1 => .region (.mv rfl (.mv rfl (.q rfl (.nilCheck rfl) (.q rfl (.fieldAddr fo_120_2_Da rfl) ?_))))))
  refine .q rfl (.load on_118_Da rfl (by first | assumption | exact Mem.of_get hg 2 _ rfl)) ?_
  refine .q rfl (.arith rfl rfl rfl) (.q rfl (.arith rfl rfl rfl) (.q rfl (.nilCheck rfl) (.q rfl (.fieldAddr fo_120_2_Da rfl) ?_)))
  refine .r0 rfl rfl (.storeR rfl sz_118_Da rfl rfl rfl (by assumption) (by first | exact Nat.le_of_ble_eq_true rfl | (simp; done) | (simp <;> omega))) ?_
  rintro _ H3009 ⟨rfl, i, d⟩
  replace f := f.sA i
  clear hbs
  have hbs := hb.st f hlo
  have c0 := hbs.1
  have c1 := hbs.2 p.toNat
  try simp only [Nat.zero_add, List.set_cons_succ, List.set_cons_zero] at d
  refine .nil (a1 _ _ (.seq (fun K6 z => .region (.mv rfl (.q rfl (.nilCheck rfl) (.q rfl (.fieldAddr fo_120_2_Da rfl) ?_))))))
  refine .q rfl (.load on_118_Da rfl (by first | assumption | exact Mem.of_get d 2 _ rfl)) ?_
  refine .q rfl (.shrU rfl rfl) (.q rfl (.andU rfl rfl) ?_)
  refine .q rfl (.conv64 us_118_Da it_2_Da rfl (Int.le_trans (by decide) (andU_le _).1) (Int.le_trans (andU_le _).2 (by decide))) ?_
  refine .mv rfl (.nil (z _ _ (.seq (fun K7 r => .seq (fun K8 y => ?_)))))
  refine .regionD mo_B (.q 0 (.q 1 (.q 2 (.q 3 (.q 4 (.q 5 (.q 6 (.q 7 (.q 8 (.q 9 (.done))))))))))) (by kernel_rfl) ?_
  refine .mv rfl rfl (.q rfl (.nilCheck rfl) (.q rfl (.fieldAddr fo_120_1_Da rfl) ?_))
  refine .q rfl (.load on_3_Da rfl (by first | assumption | exact Mem.of_get d 1 _ rfl)) ?_
  refine .mv rfl rfl (.q rfl (.nilCheck rfl) (.q rfl (.fieldAddr fo_120_0_Da rfl) ?_))
  refine .q rfl (.load on_36_Da rfl (by first | assumption | exact Mem.of_get d 0 _ rfl)) ?_
  refine .q rfl (.len sl_36_Da rfl) (.q rfl (.cmp rfl rfl rfl) ?_)
  refine .done ?_
  refine y _ _ ?_
  refine .cond rfl (fun k => ?_) (fun k => ?_)
  ·
   try simp only [sps] at k
   refine .seq (fun K9 u => ?_)
   refine .regionD mo_B (.q 0 (.q 1 (.q 2 (.q 3 (.q 4 (.q 5 (.q 6 (.q 7 (.q 8 (.q 9 (.q 10 (.q 11 (.q 12 (.c 13 0 (.done))))))))))))))) (by kernel_rfl) ?_
   refine .mv rfl rfl (.mv rfl rfl (.q rfl (.nilCheck rfl) (.q rfl (.fieldAddr fo_120_0_Da rfl) ?_)))
   refine .q rfl (.load on_36_Da rfl (by first | assumption | exact Mem.of_get d 0 _ rfl)) ?_
   refine .mv rfl rfl (.q rfl (.nilCheck rfl) (.q rfl (.fieldAddr fo_120_1_Da rfl) ?_))
   refine .q rfl (.load on_3_Da rfl (by first | assumption | exact Mem.of_get d 1 _ rfl)) ?_
   refine .q rfl (.idx1 sl_36_Da (by assumption) rfl rfl (by omega) (by omega)) ?_
   refine .q rfl (.loadE on_5_Da (by assumption) rfl (by omega)) ?_
   refine .q rfl (.conv64 us_5_Da it_2_Da rfl (by omega) (by omega)) ?_
   refine .q rfl (.add rfl rfl rfl (by omega) (by omega)) ?_
   refine .d0 rfl rfl rfl rfl (.quiet (.assign rfl) CIs.mk) ?_
   refine .done ?_
   refine u _ _ (.region (.mv rfl (.mv rfl (.q rfl (.nilCheck rfl) (.q rfl (.fieldAddr fo_120_1_Da rfl) ?_)))))
   refine .q rfl (.load on_3_Da rfl (by first | assumption | exact Mem.of_get d 1 _ rfl)) ?_
   refine .q rfl (.add rfl rfl rfl (by omega) (by omega)) ?_
   refine .q rfl (.nilCheck rfl) (.q rfl (.fieldAddr fo_120_1_Da rfl) ?_)
   refine .r0 rfl rfl (.storeR rfl sz_3_Da rfl rfl rfl (by assumption) (by first | exact Nat.le_of_ble_eq_true rfl | (simp; done) | (simp <;> omega))) ?_
   rintro _ H7008 ⟨rfl, j, e⟩
   replace f := f.sA j
   clear hbs c0 c1
   have hbs := hb.st f hlo
   have c1 := hbs.2 p.toNat
   try simp only [Nat.zero_add, List.set_cons_succ, List.set_cons_zero] at e
   refine .nil (r _ _ (.seq (fun K10 l => .region (.mv rfl (.mv rfl ?_)))))
   refine .q rfl (.rem rfl rfl (by omega)) ?_
   refine .mv rfl (.nil (l _ _ ?_))
   refine .ret ?_
   refine g _ _ ?_
   refine ⟨_, rfl, ?_⟩
   have hm := tmod_bd (x := Go.GL.andU ((IntKind.wrap .u64 (IntKind.wrap .u64 (hh * 6364136223846793005) + 1442695040888963407)).fdiv (2 ^ 33)) 16777215 + xs.getD p.toNat 0) (n := n) (by omega) (by omega)
   exact ⟨_, rfl, hm.1, fun _ => hm.2, fun h => by omega, f, a, xs, p + 1, _, e, ⟨by omega, by omega⟩, hx, hbs, hlt⟩
  try simp only [sps] at k
  refine .skip ?_
  refine r _ _ (.seq (fun K11 m => .region (.mv rfl (.mv rfl ?_))))
  refine .q rfl (.rem rfl rfl (by omega)) ?_
  refine .mv rfl (.nil (m _ _ ?_))
  refine .ret ?_
  refine g _ _ ?_
  refine ⟨_, rfl, ?_⟩
  have hm := tmod_bd (x := Go.GL.andU ((IntKind.wrap .u64 (IntKind.wrap .u64 (hh * 6364136223846793005) + 1442695040888963407)).fdiv (2 ^ 33)) 16777215) (n := n) (by omega) (by omega)
  exact ⟨_, rfl, hm.1, fun _ => hm.2, fun h => by omega, f, a, xs, p, _, d, ⟨p0, p1⟩, hx, hbs, hlt⟩
theorem l01From_c {a : Option Addr} {xs : List Int} {H : GHeap} (hb : Bytes H a xs := by assumption) (hlt : ∀ b o t, a = some ⟨b, o, t⟩ → b < H.next) (hx : xs.length ≤ 4096 := by omega) :
    GCalls Try.prog 51 [.slice a xs.length xs.length] H (fun v H' => H.Le H' ∧ ∃ g, v = .pointer (some ⟨g, 0, none⟩) ∧ H.next ≤ g ∧ DSrc 120 H' g) := by
  refine GCalls.body (N := 38) (rs := [.tmp 2]) Try.func51 rfl rfl rfl rfl (fun Qx l hend => ?_)
  refine .fg [0] rfl ?_
  have h := GHeap.Le.refl H
  have f := hb
  refine .seq (fun K1 a6 => .region (.mv rfl (.nil (a6 _ _ (.seq (fun K2 a3 => .region (.mv rfl (.mv rfl (.q rfl (.len sl_36_Da rfl) (.q rfl (.conv us_3_Da it_118_Da rfl) (.q rfl (.arith rfl rfl rfl) (.q rfl (.build bt_120_Da rfl rfl rfl) ?_))))))))))))
  refine .R rfl (.boxR rfl sz_120_Da rfl) ?_
  rintro _ a5 ⟨n, rfl, p, ge11, m⟩
  replace h := h.trans p
  refine .mv rfl (.nil (a3 _ _ (.seq (fun K3 w => .seq (fun K4 a2 => .region (.mv rfl (.nil (a2 _ _ ?_))))))))
  refine .block ?_
  refine .loopR (σ := Nat × Int) [(0, some _), (3, some _)] (fun (k, hh) => [(4, some (.int .i64 (k : Int)))]) (fun (k, hh) H' => St [n] a5 H' ∧ H'.get n = some (.row ([.slice a xs.length xs.length, .int .i64 0, .int .u64 hh]) 120 true) ∧ k ≤ xs.length) (fun (k, hh) => xs.length - k) ((0, IntKind.wrap .u64 (7019 + IntKind.wrap .u64 (xs.length : Int)))) ⟨rfl, rfl, trivial⟩ ⟨rfl, trivial⟩ ?_ ?_
  ·
   refine ⟨.refl _ _, by first | assumption | exact m | simpa using m, ?_⟩
   omega
  rintro ⟨k, hh⟩ HL1 ⟨e, d, hI⟩ KL1 u
  refine .forget (fr' := [(4, some (.int .i64 (k : Int))), (0, some _), (3, some _)]) ⟨rfl, rfl, rfl, trivial⟩ ?_
  replace h := h.st e (fun k hk => ⟨by omega, trivial⟩)
  replace hb := f.mono h
  refine .seq (fun K5 a1 => .seq (fun K6 x => .region (.mv rfl (.mv rfl (.q rfl (.len sl_36_Da rfl) (.q rfl (.cmp rfl rfl rfl) (.mv rfl ?_)))))))
  refine .split (fun r => ?_) (fun r => ?_)
  ·
   try simp only [sps] at r
   refine .qg rfl (.move rfl) (.qg rfl (.cmp rfl rfl rfl) (.q rfl (.pickT rfl rfl) (.nil (x _ _ ?_))))
   refine .cond rfl (fun s => ?_) (fun s => ?_)
   ·
    simp only [sps] at s
    refine .skip ?_
    refine a1 _ _ (.seq (fun K7 y => ?_))
    refine .block ?_
    refine .regionD mo_B (.q 0 (.q 1 (.q 2 (.q 3 (.q 4 (.q 5 (.q 6 (.q 7 (.q 8 (.q 9 (.q 10 (.q 11 (.q 12 (.q 13 (.q 14 (.c 15 0 (.done))))))))))))))))) (by kernel_rfl) ?_
    have c0 := hb.1
    refine .mv rfl rfl (.mv rfl rfl (.q rfl (.nilCheck rfl) (.q rfl (.fieldAddr fo_120_2_Da rfl) ?_)))
    refine .q rfl (.load on_118_Da rfl (by first | assumption | exact Mem.of_get d 2 _ rfl)) ?_
    refine .q rfl (.arith rfl rfl rfl) (.mv rfl rfl (.mv rfl rfl ?_))
    refine .q rfl (.idxN sl_36_Da (by assumption) rfl rfl (by omega)) ?_
    refine .q rfl (.loadE on_5_Da (by assumption) rfl (by omega)) ?_
    refine .q rfl (.conv us_5_Da it_118_Da rfl) (.q rfl (.arith rfl rfl rfl) (.q rfl (.arith rfl rfl rfl) (.q rfl (.nilCheck rfl) (.q rfl (.fieldAddr fo_120_2_Da rfl) ?_))))
    refine .r0 rfl rfl rfl (.storeR rfl sz_118_Da rfl rfl rfl (by assumption) (by first | exact Nat.le_of_ble_eq_true rfl | (simp; done) | (simp <;> omega))) ?_
    rintro _ H5015 ⟨rfl, j, i⟩
    replace e := e.sA j
    try simp only [Nat.zero_add, List.set_cons_succ, List.set_cons_zero] at i
    refine .done ?_
    refine y _ _ (.region (.mv rfl ?_))
    refine .q rfl (.add rfl rfl rfl (by omega) (by omega)) ?_
    refine .mv rfl (.nil ?_)
    refine u ((k + 1, IntKind.wrap .u64 (IntKind.wrap .u64 (IntKind.wrap .u64 (hh * 1099511628211) + IntKind.wrap .u64 (xs.getD k 0)) + 7))) _ _ ?_ ?_ ⟨rfl, rfl, rfl, trivial⟩
    ·
     refine ⟨e, by assumption, ?_⟩
     omega
    (dsimp only; omega)
   simp only [sps] at s
   refine .exit ?_
   refine w _ _ (.seq (fun K8 a0 => .region (.mv rfl (.mv rfl (.nil (a0 _ _ ?_))))))
   refine .ret ?_
   refine l _ _ ?_
   refine ⟨_, rfl, ?_⟩
   exact ⟨h, n, rfl, by omega, a, xs, 0, hh, d, ⟨by omega, by omega⟩, hx, hb, fun b o t ha => by have := hlt b o t ha; omega⟩
  try simp only [sps] at r
  refine .z rfl (.z rfl (.q rfl (.pickF rfl rfl) (.nil (x _ _ ?_))))
  refine .condF rfl ?_
  refine .exit ?_
  refine w _ _ (.seq (fun K9 a4 => .region (.mv rfl (.mv rfl (.nil (a4 _ _ ?_))))))
  refine .ret ?_
  refine l _ _ ?_
  refine ⟨_, rfl, ?_⟩
  exact ⟨h, n, rfl, by omega, a, xs, 0, hh, d, ⟨by omega, by omega⟩, hx, hb, fun b o t ha => by have := hlt b o t ha; omega⟩
theorem l01Pick_c {gS : Nat} {a : Option Addr} {xs : List Int} {H : GHeap} (hs : DSrc 120 H gS := by assumption) (hl : ∀ H', St [gS] H H' → Ints H' a xs) (h0 : 0 < xs.length) :
    GCalls Try.prog 102 [.pointer (some ⟨gS, 0, none⟩), .slice a xs.length xs.length] H (fun v H' => ∃ i, i < xs.length ∧ v = .int .i64 (xs.getD i 0) ∧ St [gS] H H' ∧ DSrc 120 H' gS) := by
  refine GCalls.body (N := 12) (rs := [.tmp 4]) Try.func102 rfl rfl rfl rfl (fun Qx c hend => ?_)
  refine .fg [0, 1] rfl ?_
  have b := St.refl [gS] H
  refine .seq (fun K1 f => .region (.mv rfl (.nil (f _ _ (.seq (fun K2 e => .region (.mv rfl (.mv rfl (.mv rfl (.q rfl (.len sl_22_A rfl) ?_))))))))))
  refine .call rfl rfl rfl rfl @Try.call70 rfl (l01Next_c) ?_
  rintro _ H9 ⟨k9, rfl, ka9, kb9, kc9, d, hs⟩
  replace b := b.sA d
  have i0 := hl _ b
  refine .q rfl (.idx1 sl_22_A (by assumption) rfl rfl (by omega) (by omega)) ?_
  refine .q rfl (.loadI on_2_A (by assumption) rfl (by omega)) ?_
  refine .mv rfl (.nil (e _ _ ?_))
  refine .ret ?_
  refine c _ _ ?_
  refine ⟨_, rfl, ?_⟩
  exact ⟨_, by omega, rfl, b, hs⟩
end Go.Proofs.Ytjdedelneppnlaa
namespace Go.Proofs.Ytjdedelneppnlaa
open Go Go.GL Go.RowKit Go.Proofs
set_option maxHeartbeats 8000000 in
theorem l03Op_c {c : Cat} {p : CatP} {N : Nat} {H : GHeap} (hin : c.In H p := by assumption) (hr : c.Rect N) (hN : N ≤ 100000) :
    GCalls Try.prog 43 [.agg (c.cells p).toArray] H (NewCatO 2 22 H c.op) := by
  obtain ⟨b1, b2, b3, -, -, b6, -, b8, b9, -⟩ := id hr
  refine GCalls.body (N := 53) (rs := [.cell 2 29]) Try.func43 rfl rfl rfl rfl (fun Qx aM hend => ?_)
  refine .fg [0] rfl ?_
  have m := GHeap.Le.refl H
  have d := hin
  refine .seq (fun K1 bR => .region ?_)
  refine .R rfl (.boxR rfl sz_29_D rfl) ?_
  rintro _ H1 ⟨g1, rfl, bQ, ge1, l⟩
  replace m := m.trans bQ
  have lt_at1 := GHeap.ltg l
  replace hin := d.mono m
  have u : Cat.At _ g1 0 c p := ⟨Mem.of_get l, hin⟩
  refine .R rfl (.allocR rfl ze_29_Hj rfl) ?_
  rintro _ H2 ⟨g2, rfl, aY, ge2, x0⟩
  replace m := m.trans aY
  replace l := aY.2 _ _ l
  have lt_at2 := GHeap.ltg x0
  replace hin := d.mono m
  clear u
  have u : Cat.At _ g1 0 c p := ⟨Mem.of_get l, hin⟩
  obtain ⟨bK, x9, bN, bE, -, -, u0, -, -⟩ := u.get
  refine .nil (bR _ _ (.seq (fun K2 bC => ?_)))
  refine .regionD mo_B (.q 0 (.q 1 (.q 2 (.q 3 (.q 5 (.q 6 (.q 8 (.q 9 (.or (.c 4 1 (.or (.c 7 1 (.or (.c 10 1 (.or (.c 11 1 (.q 12 (.c 13 1 (.c 14 1 (.done))))) (.c 13 1 (.c 11 1 (.q 12 (.c 14 1 (.done))))))) (.or (.c 11 1 (.or (.c 10 1 (.q 12 (.c 13 1 (.c 14 1 (.done))))) (.c 13 1 (.c 10 1 (.q 12 (.c 14 1 (.done))))))) (.c 13 1 (.or (.c 10 1 (.c 11 1 (.q 12 (.c 14 1 (.done))))) (.c 11 1 (.c 10 1 (.q 12 (.c 14 1 (.done)))))))))) (.or (.c 11 1 (.or (.c 7 1 (.or (.c 10 1 (.q 12 (.c 13 1 (.c 14 1 (.done))))) (.c 13 1 (.c 10 1 (.q 12 (.c 14 1 (.done))))))) (.c 13 1 (.c 7 1 (.c 10 1 (.q 12 (.c 14 1 (.done)))))))) (.c 13 1 (.or (.c 7 1 (.or (.c 10 1 (.c 11 1 (.q 12 (.c 14 1 (.done))))) (.c 11 1 (.c 10 1 (.q 12 (.c 14 1 (.done))))))) (.c 11 1 (.c 7 1 (.c 10 1 (.q 12 (.c 14 1 (.done))))))))))) (.or (.c 11 1 (.or (.c 4 1 (.or (.c 7 1 (.or (.c 10 1 (.q 12 (.c 13 1 (.c 14 1 (.done))))) (.c 13 1 (.c 10 1 (.q 12 (.c 14 1 (.done))))))) (.c 13 1 (.c 7 1 (.c 10 1 (.q 12 (.c 14 1 (.done)))))))) (.c 13 1 (.c 4 1 (.c 7 1 (.c 10 1 (.q 12 (.c 14 1 (.done))))))))) (.c 13 1 (.or (.c 4 1 (.or (.c 7 1 (.or (.c 10 1 (.c 11 1 (.q 12 (.c 14 1 (.done))))) (.c 11 1 (.c 10 1 (.q 12 (.c 14 1 (.done))))))) (.c 11 1 (.c 7 1 (.c 10 1 (.q 12 (.c 14 1 (.done)))))))) (.c 11 1 (.c 4 1 (.c 7 1 (.c 10 1 (.q 12 (.c 14 1 (.done))))))))))))))))))) (by kernel_rfl) ?_
  refine .cut [(0, some _), (1, some _), (2, some _)] ⟨rfl, rfl, rfl, trivial⟩ (fun rest fr' H' => ∃ s3 t3 t1 s1 g3, Sub ((11, some (.slice (some ⟨s3, 0, none⟩) c.tgt.length c.tgt.length)) :: (14, some (.slice (some ⟨t3, 0, none⟩) c.src.length c.src.length)) :: (17, some (.slice (some ⟨t1, 0, none⟩) c.idn.length c.idn.length)) :: (18, some (.slice (some ⟨s1, 0, none⟩) 0 0)) :: (3, some (.pointer (some ⟨g3, 0, none⟩))) :: rest) fr' ∧ H2.Le H' ∧ H2.next ≤ s3 ∧ H2.next ≤ t3 ∧ H2.next ≤ t1 ∧ H2.next ≤ s1 ∧ H2.next ≤ g3 ∧ H'.get s3 = some (.row (ints c.tgt) 2 true) ∧ H'.get t3 = some (.row (ints c.src) 2 true) ∧ H'.get t1 = some (.row (ints c.idn) 2 true) ∧ H'.get s1 = some (.row ([]) 22 true) ∧ H'.get g3 = some (.row ([.int .i64 c.obj, .slice (some ⟨s3, 0, none⟩) c.tgt.length c.tgt.length, .slice (some ⟨t3, 0, none⟩) c.src.length c.src.length, .slice (some ⟨t1, 0, none⟩) c.idn.length c.idn.length, .slice (some ⟨s1, 0, none⟩) 0 0]) 29 true) ∧ s3 ≠ t3 ∧ s3 ≠ t1 ∧ s3 ≠ s1 ∧ s3 ≠ g3 ∧ t3 ≠ t1 ∧ t3 ≠ s1 ∧ t3 ≠ g3 ∧ t1 ≠ s1 ∧ t1 ≠ g3 ∧ s1 ≠ g3) ?_ ?_
  ·
   have j := GHeap.Le.refl H2
   refine .qB rfl (.refl _) (.fieldAddr fo_29_0_B rfl) ?_
   refine .q rfl (.load on_2_A rfl (by first | assumption | exact Mem.of_get l 0 _ rfl)) ?_
   refine .qB rfl (.refl _) (.fieldAddr fo_29_2_B rfl) ?_
   refine .q rfl (.load on_22_B rfl (by first | assumption | exact Mem.of_get l 2 _ rfl)) ?_
   refine .qB rfl (.refl _) (.fieldAddr fo_29_1_B rfl) ?_
   refine .q rfl (.load on_22_B rfl (by first | assumption | exact Mem.of_get l 1 _ rfl)) ?_
   refine .qB rfl (.refl _) (.fieldAddr fo_29_3_B rfl) ?_
   refine .q rfl (.load on_22_B rfl (by first | assumption | exact Mem.of_get l 3 _ rfl)) ?_
   refine .orI ?_ ?_
   ·
    refine .call1 rfl rfl rfl rfl rfl @Try.call92 rfl (l01Own_c) ?_
    rintro _ H11x2 ⟨o2, a5, rfl, b, ge11x2⟩
    have e := o2
    refine ⟨e, ?_⟩
    replace m := m.trans o2
    replace l := o2.2 _ _ l
    have lt_at11x2 := GHeap.ltg b
    replace j := j.trans o2
    refine .orI ?_ ?_
    ·
     replace hin := d.mono m
     clear u bK x9 bN bE u0
     have u : Cat.At _ g1 0 c p := ⟨Mem.of_get l, hin⟩
     obtain ⟨-, -, -, -, -, m7, -, -, -⟩ := u.get
     refine .call1 rfl rfl rfl rfl rfl @Try.call92 rfl (l01Own_c) ?_
     rintro _ H14x2 ⟨l8, l0, rfl, h, ge14x2⟩
     replace e := e.trans l8
     refine ⟨e, ?_⟩
     replace m := m.trans l8
     replace l := l8.2 _ _ l
     replace b := l8.2 _ _ b
     have lt_at14x2 := GHeap.ltg h
     replace j := j.trans l8
     refine .orI ?_ ?_
     ·
      replace hin := d.mono m
      clear u m7
      have u : Cat.At _ g1 0 c p := ⟨Mem.of_get l, hin⟩
      obtain ⟨-, -, -, -, -, -, -, o8, -⟩ := u.get
      refine .call1 rfl rfl rfl rfl rfl @Try.call92 rfl (l01Own_c) ?_
      rintro _ H17x2 ⟨n5, u6, rfl, z, ge17x2⟩
      replace e := e.trans n5
      refine ⟨e, ?_⟩
      replace b := n5.2 _ _ b
      replace h := n5.2 _ _ h
      have lt_at17x2 := GHeap.ltg z
      replace j := j.trans n5
      refine .orI ?_ ?_
      ·
       refine .c1 rfl rfl rfl rfl (.litA rfl sl_23_B ze_22_Hj rfl rfl rfl rfl) ?_
       rintro _ H18x2 ⟨z2, rfl, l6, ge18x2, j2⟩
       replace e := e.trans l6
       refine ⟨e, ?_⟩
       replace b := l6.2 _ _ b
       replace h := l6.2 _ _ h
       replace z := l6.2 _ _ z
       have lt_at18x2 := GHeap.ltg j2
       replace j := j.trans l6
       refine .qB rfl e (.build bt_29_Hj rfl rfl rfl) ?_
       refine .c1 rfl rfl rfl rfl (.allocR rfl ze_29_Hj rfl) ?_
       rintro _ H3x2 ⟨aO, rfl, n1, ge3x2, at3x2⟩
       replace e := e.trans n1
       refine ⟨e, ?_⟩
       replace b := n1.2 _ _ b
       replace h := n1.2 _ _ h
       replace z := n1.2 _ _ z
       replace j2 := n1.2 _ _ j2
       replace j := j.trans n1
       refine .r1 rfl rfl rfl (.fillA rfl sz_29_D rfl rfl rfl rfl) ?_
       rintro _ H1014 ⟨rfl, k1, w4⟩
       replace e := e.st k1 (fun k hk => ⟨by omega, trivial⟩)
       refine ⟨e, ?_⟩
       replace b := k1.s b
       replace h := k1.s h
       replace z := k1.s z
       replace j2 := k1.s j2
       replace j := j.st k1 (fun k hk => ⟨by omega, trivial⟩)
       refine .done ?_
       exact ⟨a5, l0, u6, z2, aO, ⟨rfl, rfl, rfl, rfl, rfl, rfl, rfl, rfl, trivial⟩, j, by omega, by omega, by omega, by omega, by omega, by first | assumption | simpa using b, by first | assumption | simpa using h, by first | assumption | simpa using z, by first | assumption | simpa using j2, by first | assumption | simpa using w4, by omega, by omega, by omega, by omega, by omega, by omega, by omega, by omega, by omega, by omega⟩
      refine .c1 rfl rfl rfl rfl (.allocR rfl ze_29_Hj rfl) ?_
      rintro _ H3x3 ⟨aL, rfl, o9, ge3x3, s4⟩
      replace e := e.trans o9
      refine ⟨e, ?_⟩
      replace b := o9.2 _ _ b
      replace h := o9.2 _ _ h
      replace z := o9.2 _ _ z
      have lt_at3x3 := GHeap.ltg s4
      replace j := j.trans o9
      refine .c1 rfl rfl rfl rfl (.litA rfl sl_23_B ze_22_Hj rfl rfl rfl rfl) ?_
      rintro _ H18x3 ⟨x4, rfl, k0, ge18x3, p7⟩
      replace e := e.trans k0
      refine ⟨e, ?_⟩
      replace b := k0.2 _ _ b
      replace h := k0.2 _ _ h
      replace z := k0.2 _ _ z
      replace s4 := k0.2 _ _ s4
      replace j := j.trans k0
      refine .qB rfl e (.build bt_29_Hj rfl rfl rfl) ?_
      refine .r1 rfl rfl rfl (.fillA rfl sz_29_D rfl rfl rfl rfl) ?_
      rintro _ H1014x2 ⟨rfl, d7, t0⟩
      replace e := e.st d7 (fun k hk => ⟨by omega, trivial⟩)
      refine ⟨e, ?_⟩
      replace b := d7.s b
      replace h := d7.s h
      replace z := d7.s z
      replace p7 := d7.s p7
      replace j := j.st d7 (fun k hk => ⟨by omega, trivial⟩)
      refine .done ?_
      exact ⟨a5, l0, u6, x4, aL, ⟨rfl, rfl, rfl, rfl, rfl, rfl, rfl, rfl, trivial⟩, j, by omega, by omega, by omega, by omega, by omega, by first | assumption | simpa using b, by first | assumption | simpa using h, by first | assumption | simpa using z, by first | assumption | simpa using p7, by first | assumption | simpa using t0, by omega, by omega, by omega, by omega, by omega, by omega, by omega, by omega, by omega, by omega⟩
     refine .orI ?_ ?_
     ·
      refine .c1 rfl rfl rfl rfl (.litA rfl sl_23_B ze_22_Hj rfl rfl rfl rfl) ?_
      rintro _ H18x4 ⟨u5, rfl, k4, ge18x4, a1⟩
      replace e := e.trans k4
      refine ⟨e, ?_⟩
      replace m := m.trans k4
      replace l := k4.2 _ _ l
      replace b := k4.2 _ _ b
      replace h := k4.2 _ _ h
      have lt_at18x4 := GHeap.ltg a1
      replace j := j.trans k4
      refine .orI ?_ ?_
      ·
       replace hin := d.mono m
       have u : Cat.At _ g1 0 c p := ⟨Mem.of_get l, hin⟩
       obtain ⟨-, -, -, -, -, -, -, o8, -⟩ := u.get
       refine .call1 rfl rfl rfl rfl rfl @Try.call92 rfl (l01Own_c) ?_
       rintro _ H17x3 ⟨l5, z8, rfl, j4, ge17x3⟩
       replace e := e.trans l5
       refine ⟨e, ?_⟩
       replace b := l5.2 _ _ b
       replace h := l5.2 _ _ h
       replace a1 := l5.2 _ _ a1
       have lt_at17x3 := GHeap.ltg j4
       replace j := j.trans l5
       refine .qB rfl e (.build bt_29_Hj rfl rfl rfl) ?_
       refine .c1 rfl rfl rfl rfl (.allocR rfl ze_29_Hj rfl) ?_
       rintro _ H3x4 ⟨aG, rfl, n3, ge3x4, at3x4⟩
       replace e := e.trans n3
       refine ⟨e, ?_⟩
       replace b := n3.2 _ _ b
       replace h := n3.2 _ _ h
       replace a1 := n3.2 _ _ a1
       replace j4 := n3.2 _ _ j4
       replace j := j.trans n3
       refine .r1 rfl rfl rfl (.fillA rfl sz_29_D rfl rfl rfl rfl) ?_
       rintro _ H1014x3 ⟨rfl, d1, s6⟩
       replace e := e.st d1 (fun k hk => ⟨by omega, trivial⟩)
       refine ⟨e, ?_⟩
       replace b := d1.s b
       replace h := d1.s h
       replace a1 := d1.s a1
       replace j4 := d1.s j4
       replace j := j.st d1 (fun k hk => ⟨by omega, trivial⟩)
       refine .done ?_
       exact ⟨a5, l0, z8, u5, aG, ⟨rfl, rfl, rfl, rfl, rfl, rfl, rfl, rfl, trivial⟩, j, by omega, by omega, by omega, by omega, by omega, by first | assumption | simpa using b, by first | assumption | simpa using h, by first | assumption | simpa using j4, by first | assumption | simpa using a1, by first | assumption | simpa using s6, by omega, by omega, by omega, by omega, by omega, by omega, by omega, by omega, by omega, by omega⟩
      refine .c1 rfl rfl rfl rfl (.allocR rfl ze_29_Hj rfl) ?_
      rintro _ H3x5 ⟨aJ, rfl, l7, ge3x5, t5⟩
      replace e := e.trans l7
      refine ⟨e, ?_⟩
      replace m := m.trans l7
      replace l := l7.2 _ _ l
      replace b := l7.2 _ _ b
      replace h := l7.2 _ _ h
      replace a1 := l7.2 _ _ a1
      have lt_at3x5 := GHeap.ltg t5
      replace j := j.trans l7
      replace hin := d.mono m
      have u : Cat.At _ g1 0 c p := ⟨Mem.of_get l, hin⟩
      obtain ⟨-, -, -, -, -, -, -, o8, -⟩ := u.get
      refine .call1 rfl rfl rfl rfl rfl @Try.call92 rfl (l01Own_c) ?_
      rintro _ H17x4 ⟨j1, z4, rfl, p6, ge17x4⟩
      replace e := e.trans j1
      refine ⟨e, ?_⟩
      replace b := j1.2 _ _ b
      replace h := j1.2 _ _ h
      replace a1 := j1.2 _ _ a1
      replace t5 := j1.2 _ _ t5
      replace j := j.trans j1
      refine .qB rfl e (.build bt_29_Hj rfl rfl rfl) ?_
      refine .r1 rfl rfl rfl (.fillA rfl sz_29_D rfl rfl rfl rfl) ?_
      rintro _ H1014x4 ⟨rfl, d6, t7⟩
      replace e := e.st d6 (fun k hk => ⟨by omega, trivial⟩)
      refine ⟨e, ?_⟩
      replace b := d6.s b
      replace h := d6.s h
      replace a1 := d6.s a1
      replace p6 := d6.s p6
      replace j := j.st d6 (fun k hk => ⟨by omega, trivial⟩)
      refine .done ?_
      exact ⟨a5, l0, z4, u5, aJ, ⟨rfl, rfl, rfl, rfl, rfl, rfl, rfl, rfl, trivial⟩, j, by omega, by omega, by omega, by omega, by omega, by first | assumption | simpa using b, by first | assumption | simpa using h, by first | assumption | simpa using p6, by first | assumption | simpa using a1, by first | assumption | simpa using t7, by omega, by omega, by omega, by omega, by omega, by omega, by omega, by omega, by omega, by omega⟩
     refine .c1 rfl rfl rfl rfl (.allocR rfl ze_29_Hj rfl) ?_
     rintro _ H3x6 ⟨r2, rfl, n2, ge3x6, h9⟩
     replace e := e.trans n2
     refine ⟨e, ?_⟩
     replace m := m.trans n2
     replace l := n2.2 _ _ l
     replace b := n2.2 _ _ b
     replace h := n2.2 _ _ h
     have lt_at3x6 := GHeap.ltg h9
     replace j := j.trans n2
     refine .orI ?_ ?_
     ·
      replace hin := d.mono m
      have u : Cat.At _ g1 0 c p := ⟨Mem.of_get l, hin⟩
      obtain ⟨-, -, -, -, -, -, -, o8, -⟩ := u.get
      refine .call1 rfl rfl rfl rfl rfl @Try.call92 rfl (l01Own_c) ?_
      rintro _ H17x5 ⟨m3, y5, rfl, k2, ge17x5⟩
      replace e := e.trans m3
      refine ⟨e, ?_⟩
      replace b := m3.2 _ _ b
      replace h := m3.2 _ _ h
      replace h9 := m3.2 _ _ h9
      have lt_at17x5 := GHeap.ltg k2
      replace j := j.trans m3
      refine .c1 rfl rfl rfl rfl (.litA rfl sl_23_B ze_22_Hj rfl rfl rfl rfl) ?_
      rintro _ H18x5 ⟨z0, rfl, k7, ge18x5, p3⟩
      replace e := e.trans k7
      refine ⟨e, ?_⟩
      replace b := k7.2 _ _ b
      replace h := k7.2 _ _ h
      replace h9 := k7.2 _ _ h9
      replace k2 := k7.2 _ _ k2
      replace j := j.trans k7
      refine .qB rfl e (.build bt_29_Hj rfl rfl rfl) ?_
      refine .r1 rfl rfl rfl (.fillA rfl sz_29_D rfl rfl rfl rfl) ?_
      rintro _ H1014x5 ⟨rfl, d5, t4⟩
      replace e := e.st d5 (fun k hk => ⟨by omega, trivial⟩)
      refine ⟨e, ?_⟩
      have c9 : NE a5 r2 := .a
      replace b := d5.s b c9.ne
      have d0 : NE l0 r2 := .a
      replace h := d5.s h d0.ne
      replace k2 := d5.s k2
      replace p3 := d5.s p3
      replace j := j.st d5 (fun k hk => ⟨by omega, trivial⟩)
      refine .done ?_
      exact ⟨a5, l0, y5, z0, r2, ⟨rfl, rfl, rfl, rfl, rfl, rfl, rfl, rfl, trivial⟩, j, by omega, by omega, by omega, by omega, by omega, by first | assumption | simpa using b, by first | assumption | simpa using h, by first | assumption | simpa using k2, by first | assumption | simpa using p3, by first | assumption | simpa using t4, by omega, by omega, by omega, by omega, by omega, by omega, by omega, by omega, by omega, by omega⟩
     refine .c1 rfl rfl rfl rfl (.litA rfl sl_23_B ze_22_Hj rfl rfl rfl rfl) ?_
     rintro _ H18x6 ⟨x8, rfl, h2, ge18x6, k5⟩
     replace e := e.trans h2
     refine ⟨e, ?_⟩
     replace m := m.trans h2
     replace l := h2.2 _ _ l
     replace b := h2.2 _ _ b
     replace h := h2.2 _ _ h
     replace h9 := h2.2 _ _ h9
     have lt_at18x6 := GHeap.ltg k5
     replace j := j.trans h2
     replace hin := d.mono m
     have u : Cat.At _ g1 0 c p := ⟨Mem.of_get l, hin⟩
     obtain ⟨-, -, -, -, -, -, -, o8, -⟩ := u.get
     refine .call1 rfl rfl rfl rfl rfl @Try.call92 rfl (l01Own_c) ?_
     rintro _ H17x6 ⟨k9, x7, rfl, p4, ge17x6⟩
     replace e := e.trans k9
     refine ⟨e, ?_⟩
     replace b := k9.2 _ _ b
     replace h := k9.2 _ _ h
     replace h9 := k9.2 _ _ h9
     replace k5 := k9.2 _ _ k5
     replace j := j.trans k9
     refine .qB rfl e (.build bt_29_Hj rfl rfl rfl) ?_
     refine .r1 rfl rfl rfl (.fillA rfl sz_29_D rfl rfl rfl rfl) ?_
     rintro _ H1014x6 ⟨rfl, d3, s5⟩
     replace e := e.st d3 (fun k hk => ⟨by omega, trivial⟩)
     refine ⟨e, ?_⟩
     have c9 : NE a5 r2 := .a
     replace b := d3.s b c9.ne
     have d0 : NE l0 r2 := .a
     replace h := d3.s h d0.ne
     replace k5 := d3.s k5
     replace p4 := d3.s p4
     replace j := j.st d3 (fun k hk => ⟨by omega, trivial⟩)
     refine .done ?_
     exact ⟨a5, l0, x7, x8, r2, ⟨rfl, rfl, rfl, rfl, rfl, rfl, rfl, rfl, trivial⟩, j, by omega, by omega, by omega, by omega, by omega, by first | assumption | simpa using b, by first | assumption | simpa using h, by first | assumption | simpa using p4, by first | assumption | simpa using k5, by first | assumption | simpa using s5, by omega, by omega, by omega, by omega, by omega, by omega, by omega, by omega, by omega, by omega⟩
    refine .orI ?_ ?_
    ·
     refine .c1 rfl rfl rfl rfl (.litA rfl sl_23_B ze_22_Hj rfl rfl rfl rfl) ?_
     rintro _ H18x7 ⟨t6, rfl, l4, ge18x7, o⟩
     replace e := e.trans l4
     refine ⟨e, ?_⟩
     replace m := m.trans l4
     replace l := l4.2 _ _ l
     replace b := l4.2 _ _ b
     have lt_at18x7 := GHeap.ltg o
     replace j := j.trans l4
     refine .orI ?_ ?_
     ·
      replace hin := d.mono m
      have u : Cat.At _ g1 0 c p := ⟨Mem.of_get l, hin⟩
      obtain ⟨-, -, -, -, -, m7, -, -, -⟩ := u.get
      refine .call1 rfl rfl rfl rfl rfl @Try.call92 rfl (l01Own_c) ?_
      rintro _ H14x3 ⟨j8, u8, rfl, a3, ge14x3⟩
      replace e := e.trans j8
      refine ⟨e, ?_⟩
      replace m := m.trans j8
      replace l := j8.2 _ _ l
      replace b := j8.2 _ _ b
      replace o := j8.2 _ _ o
      have lt_at14x3 := GHeap.ltg a3
      replace j := j.trans j8
      refine .orI ?_ ?_
      ·
       replace hin := d.mono m
       clear u m7
       have u : Cat.At _ g1 0 c p := ⟨Mem.of_get l, hin⟩
       obtain ⟨-, -, -, -, -, -, -, o8, -⟩ := u.get
       refine .call1 rfl rfl rfl rfl rfl @Try.call92 rfl (l01Own_c) ?_
       rintro _ H17x7 ⟨m2, x1, rfl, k3, ge17x7⟩
       replace e := e.trans m2
       refine ⟨e, ?_⟩
       replace b := m2.2 _ _ b
       replace o := m2.2 _ _ o
       replace a3 := m2.2 _ _ a3
       have lt_at17x7 := GHeap.ltg k3
       replace j := j.trans m2
       refine .qB rfl e (.build bt_29_Hj rfl rfl rfl) ?_
       refine .c1 rfl rfl rfl rfl (.allocR rfl ze_29_Hj rfl) ?_
       rintro _ H3x7 ⟨aD, rfl, m8, ge3x7, at3x7⟩
       replace e := e.trans m8
       refine ⟨e, ?_⟩
       replace b := m8.2 _ _ b
       replace o := m8.2 _ _ o
       replace a3 := m8.2 _ _ a3
       replace k3 := m8.2 _ _ k3
       replace j := j.trans m8
       refine .r1 rfl rfl rfl (.fillA rfl sz_29_D rfl rfl rfl rfl) ?_
       rintro _ H1014x7 ⟨rfl, d8, s7⟩
       replace e := e.st d8 (fun k hk => ⟨by omega, trivial⟩)
       refine ⟨e, ?_⟩
       replace b := d8.s b
       replace o := d8.s o
       replace a3 := d8.s a3
       replace k3 := d8.s k3
       replace j := j.st d8 (fun k hk => ⟨by omega, trivial⟩)
       refine .done ?_
       exact ⟨a5, u8, x1, t6, aD, ⟨rfl, rfl, rfl, rfl, rfl, rfl, rfl, rfl, trivial⟩, j, by omega, by omega, by omega, by omega, by omega, by first | assumption | simpa using b, by first | assumption | simpa using a3, by first | assumption | simpa using k3, by first | assumption | simpa using o, by first | assumption | simpa using s7, by omega, by omega, by omega, by omega, by omega, by omega, by omega, by omega, by omega, by omega⟩
      refine .c1 rfl rfl rfl rfl (.allocR rfl ze_29_Hj rfl) ?_
      rintro _ H3x8 ⟨aT, rfl, m1, ge3x8, t2⟩
      replace e := e.trans m1
      refine ⟨e, ?_⟩
      replace m := m.trans m1
      replace l := m1.2 _ _ l
      replace b := m1.2 _ _ b
      replace o := m1.2 _ _ o
      replace a3 := m1.2 _ _ a3
      have lt_at3x8 := GHeap.ltg t2
      replace j := j.trans m1
      replace hin := d.mono m
      have u : Cat.At _ g1 0 c p := ⟨Mem.of_get l, hin⟩
      obtain ⟨-, -, -, -, -, -, -, o8, -⟩ := u.get
      refine .call1 rfl rfl rfl rfl rfl @Try.call92 rfl (l01Own_c) ?_
      rintro _ H17x8 ⟨j6, y6, rfl, p2, ge17x8⟩
      replace e := e.trans j6
      refine ⟨e, ?_⟩
      replace b := j6.2 _ _ b
      replace o := j6.2 _ _ o
      replace a3 := j6.2 _ _ a3
      replace t2 := j6.2 _ _ t2
      replace j := j.trans j6
      refine .qB rfl e (.build bt_29_Hj rfl rfl rfl) ?_
      refine .r1 rfl rfl rfl (.fillA rfl sz_29_D rfl rfl rfl rfl) ?_
      rintro _ H1014x8 ⟨rfl, d4, s8⟩
      replace e := e.st d4 (fun k hk => ⟨by omega, trivial⟩)
      refine ⟨e, ?_⟩
      replace b := d4.s b
      replace o := d4.s o
      replace a3 := d4.s a3
      replace p2 := d4.s p2
      replace j := j.st d4 (fun k hk => ⟨by omega, trivial⟩)
      refine .done ?_
      exact ⟨a5, u8, y6, t6, aT, ⟨rfl, rfl, rfl, rfl, rfl, rfl, rfl, rfl, trivial⟩, j, by omega, by omega, by omega, by omega, by omega, by first | assumption | simpa using b, by first | assumption | simpa using a3, by first | assumption | simpa using p2, by first | assumption | simpa using o, by first | assumption | simpa using s8, by omega, by omega, by omega, by omega, by omega, by omega, by omega, by omega, by omega, by omega⟩
     refine .c1 rfl rfl rfl rfl (.allocR rfl ze_29_Hj rfl) ?_
     rintro _ H3x9 ⟨aN, rfl, n0, ge3x9, p0⟩
     replace e := e.trans n0
     refine ⟨e, ?_⟩
     replace m := m.trans n0
     replace l := n0.2 _ _ l
     replace b := n0.2 _ _ b
     replace o := n0.2 _ _ o
     have lt_at3x9 := GHeap.ltg p0
     replace j := j.trans n0
     replace hin := d.mono m
     have u : Cat.At _ g1 0 c p := ⟨Mem.of_get l, hin⟩
     obtain ⟨-, -, -, -, -, m7, -, -, -⟩ := u.get
     refine .call1 rfl rfl rfl rfl rfl @Try.call92 rfl (l01Own_c) ?_
     rintro _ H14x4 ⟨h1, y9, rfl, k6, ge14x4⟩
     replace e := e.trans h1
     refine ⟨e, ?_⟩
     replace m := m.trans h1
     replace l := h1.2 _ _ l
     replace b := h1.2 _ _ b
     replace o := h1.2 _ _ o
     replace p0 := h1.2 _ _ p0
     have lt_at14x4 := GHeap.ltg k6
     replace j := j.trans h1
     replace hin := d.mono m
     clear u m7
     have u : Cat.At _ g1 0 c p := ⟨Mem.of_get l, hin⟩
     obtain ⟨-, -, -, -, -, -, -, o8, -⟩ := u.get
     refine .call1 rfl rfl rfl rfl rfl @Try.call92 rfl (l01Own_c) ?_
     rintro _ H17x9 ⟨i5, y4, rfl, p5, ge17x9⟩
     replace e := e.trans i5
     refine ⟨e, ?_⟩
     replace b := i5.2 _ _ b
     replace o := i5.2 _ _ o
     replace p0 := i5.2 _ _ p0
     replace k6 := i5.2 _ _ k6
     replace j := j.trans i5
     refine .qB rfl e (.build bt_29_Hj rfl rfl rfl) ?_
     refine .r1 rfl rfl rfl (.fillA rfl sz_29_D rfl rfl rfl rfl) ?_
     rintro _ H1014x9 ⟨rfl, d2, s9⟩
     replace e := e.st d2 (fun k hk => ⟨by omega, trivial⟩)
     refine ⟨e, ?_⟩
     replace b := d2.s b
     replace o := d2.s o
     replace k6 := d2.s k6
     replace p5 := d2.s p5
     replace j := j.st d2 (fun k hk => ⟨by omega, trivial⟩)
     refine .done ?_
     exact ⟨a5, y9, y4, t6, aN, ⟨rfl, rfl, rfl, rfl, rfl, rfl, rfl, rfl, trivial⟩, j, by omega, by omega, by omega, by omega, by omega, by first | assumption | simpa using b, by first | assumption | simpa using k6, by first | assumption | simpa using p5, by first | assumption | simpa using o, by first | assumption | simpa using s9, by omega, by omega, by omega, by omega, by omega, by omega, by omega, by omega, by omega, by omega⟩
    refine .c1 rfl rfl rfl rfl (.allocR rfl ze_29_Hj rfl) ?_
    rintro _ H3x10 ⟨l1, rfl, m5, ge3x10, x⟩
    replace e := e.trans m5
    refine ⟨e, ?_⟩
    replace m := m.trans m5
    replace l := m5.2 _ _ l
    replace b := m5.2 _ _ b
    have lt_at3x10 := GHeap.ltg x
    replace j := j.trans m5
    refine .orI ?_ ?_
    ·
     replace hin := d.mono m
     have u : Cat.At _ g1 0 c p := ⟨Mem.of_get l, hin⟩
     obtain ⟨-, -, -, -, -, m7, -, -, -⟩ := u.get
     refine .call1 rfl rfl rfl rfl rfl @Try.call92 rfl (l01Own_c) ?_
     rintro _ H14x5 ⟨i6, q1, rfl, a0, ge14x5⟩
     replace e := e.trans i6
     refine ⟨e, ?_⟩
     replace m := m.trans i6
     replace l := i6.2 _ _ l
     replace b := i6.2 _ _ b
     replace x := i6.2 _ _ x
     have lt_at14x5 := GHeap.ltg a0
     replace j := j.trans i6
     refine .orI ?_ ?_
     ·
      replace hin := d.mono m
      clear u m7
      have u : Cat.At _ g1 0 c p := ⟨Mem.of_get l, hin⟩
      obtain ⟨-, -, -, -, -, -, -, o8, -⟩ := u.get
      refine .call1 rfl rfl rfl rfl rfl @Try.call92 rfl (l01Own_c) ?_
      rintro _ H17x10 ⟨i0, v7, rfl, f0, ge17x10⟩
      replace e := e.trans i0
      refine ⟨e, ?_⟩
      replace b := i0.2 _ _ b
      replace x := i0.2 _ _ x
      replace a0 := i0.2 _ _ a0
      have lt_at17x10 := GHeap.ltg f0
      replace j := j.trans i0
      refine .c1 rfl rfl rfl rfl (.litA rfl sl_23_B ze_22_Hj rfl rfl rfl rfl) ?_
      rintro _ H18x8 ⟨y0, rfl, j7, ge18x8, p8⟩
      replace e := e.trans j7
      refine ⟨e, ?_⟩
      replace b := j7.2 _ _ b
      replace x := j7.2 _ _ x
      replace a0 := j7.2 _ _ a0
      replace f0 := j7.2 _ _ f0
      replace j := j.trans j7
      refine .qB rfl e (.build bt_29_Hj rfl rfl rfl) ?_
      refine .r1 rfl rfl rfl (.fillA rfl sz_29_D rfl rfl rfl rfl) ?_
      rintro _ H1014x10 ⟨rfl, b4, q7⟩
      replace e := e.st b4 (fun k hk => ⟨by omega, trivial⟩)
      refine ⟨e, ?_⟩
      have w : NE a5 l1 := .a
      replace b := b4.s b w.ne
      have c6 : NE q1 l1 := .a
      replace a0 := b4.s a0 c6.ne
      replace f0 := b4.s f0
      replace p8 := b4.s p8
      replace j := j.st b4 (fun k hk => ⟨by omega, trivial⟩)
      refine .done ?_
      exact ⟨a5, q1, v7, y0, l1, ⟨rfl, rfl, rfl, rfl, rfl, rfl, rfl, rfl, trivial⟩, j, by omega, by omega, by omega, by omega, by omega, by first | assumption | simpa using b, by first | assumption | simpa using a0, by first | assumption | simpa using f0, by first | assumption | simpa using p8, by first | assumption | simpa using q7, by omega, by omega, by omega, by omega, by omega, by omega, by omega, by omega, by omega, by omega⟩
     refine .c1 rfl rfl rfl rfl (.litA rfl sl_23_B ze_22_Hj rfl rfl rfl rfl) ?_
     rintro _ H18x9 ⟨z7, rfl, h0, ge18x9, k8⟩
     replace e := e.trans h0
     refine ⟨e, ?_⟩
     replace m := m.trans h0
     replace l := h0.2 _ _ l
     replace b := h0.2 _ _ b
     replace x := h0.2 _ _ x
     replace a0 := h0.2 _ _ a0
     have lt_at18x9 := GHeap.ltg k8
     replace j := j.trans h0
     replace hin := d.mono m
     have u : Cat.At _ g1 0 c p := ⟨Mem.of_get l, hin⟩
     obtain ⟨-, -, -, -, -, -, -, o8, -⟩ := u.get
     refine .call1 rfl rfl rfl rfl rfl @Try.call92 rfl (l01Own_c) ?_
     rintro _ H17x11 ⟨g5, w2, rfl, o4, ge17x11⟩
     replace e := e.trans g5
     refine ⟨e, ?_⟩
     replace b := g5.2 _ _ b
     replace x := g5.2 _ _ x
     replace a0 := g5.2 _ _ a0
     replace k8 := g5.2 _ _ k8
     replace j := j.trans g5
     refine .qB rfl e (.build bt_29_Hj rfl rfl rfl) ?_
     refine .r1 rfl rfl rfl (.fillA rfl sz_29_D rfl rfl rfl rfl) ?_
     rintro _ H1014x11 ⟨rfl, a9, r6⟩
     replace e := e.st a9 (fun k hk => ⟨by omega, trivial⟩)
     refine ⟨e, ?_⟩
     have w : NE a5 l1 := .a
     replace b := a9.s b w.ne
     have c6 : NE q1 l1 := .a
     replace a0 := a9.s a0 c6.ne
     replace k8 := a9.s k8
     replace o4 := a9.s o4
     replace j := j.st a9 (fun k hk => ⟨by omega, trivial⟩)
     refine .done ?_
     exact ⟨a5, q1, w2, z7, l1, ⟨rfl, rfl, rfl, rfl, rfl, rfl, rfl, rfl, trivial⟩, j, by omega, by omega, by omega, by omega, by omega, by first | assumption | simpa using b, by first | assumption | simpa using a0, by first | assumption | simpa using o4, by first | assumption | simpa using k8, by first | assumption | simpa using r6, by omega, by omega, by omega, by omega, by omega, by omega, by omega, by omega, by omega, by omega⟩
    refine .c1 rfl rfl rfl rfl (.litA rfl sl_23_B ze_22_Hj rfl rfl rfl rfl) ?_
    rintro _ H18x10 ⟨v1, rfl, f5, ge18x10, c7⟩
    replace e := e.trans f5
    refine ⟨e, ?_⟩
    replace m := m.trans f5
    replace l := f5.2 _ _ l
    replace b := f5.2 _ _ b
    replace x := f5.2 _ _ x
    have lt_at18x10 := GHeap.ltg c7
    replace j := j.trans f5
    replace hin := d.mono m
    have u : Cat.At _ g1 0 c p := ⟨Mem.of_get l, hin⟩
    obtain ⟨-, -, -, -, -, m7, -, -, -⟩ := u.get
    refine .call1 rfl rfl rfl rfl rfl @Try.call92 rfl (l01Own_c) ?_
    rintro _ H14x6 ⟨h4, x5, rfl, j3, ge14x6⟩
    replace e := e.trans h4
    refine ⟨e, ?_⟩
    replace m := m.trans h4
    replace l := h4.2 _ _ l
    replace b := h4.2 _ _ b
    replace x := h4.2 _ _ x
    replace c7 := h4.2 _ _ c7
    have lt_at14x6 := GHeap.ltg j3
    replace j := j.trans h4
    replace hin := d.mono m
    clear u m7
    have u : Cat.At _ g1 0 c p := ⟨Mem.of_get l, hin⟩
    obtain ⟨-, -, -, -, -, -, -, o8, -⟩ := u.get
    refine .call1 rfl rfl rfl rfl rfl @Try.call92 rfl (l01Own_c) ?_
    rintro _ H17x12 ⟨g6, v8, rfl, o3, ge17x12⟩
    replace e := e.trans g6
    refine ⟨e, ?_⟩
    replace b := g6.2 _ _ b
    replace x := g6.2 _ _ x
    replace c7 := g6.2 _ _ c7
    replace j3 := g6.2 _ _ j3
    replace j := j.trans g6
    refine .qB rfl e (.build bt_29_Hj rfl rfl rfl) ?_
    refine .r1 rfl rfl rfl (.fillA rfl sz_29_D rfl rfl rfl rfl) ?_
    rintro _ H1014x12 ⟨rfl, b7, r9⟩
    replace e := e.st b7 (fun k hk => ⟨by omega, trivial⟩)
    refine ⟨e, ?_⟩
    have w : NE a5 l1 := .a
    replace b := b7.s b w.ne
    replace c7 := b7.s c7
    replace j3 := b7.s j3
    replace o3 := b7.s o3
    replace j := j.st b7 (fun k hk => ⟨by omega, trivial⟩)
    refine .done ?_
    exact ⟨a5, x5, v8, v1, l1, ⟨rfl, rfl, rfl, rfl, rfl, rfl, rfl, rfl, trivial⟩, j, by omega, by omega, by omega, by omega, by omega, by first | assumption | simpa using b, by first | assumption | simpa using j3, by first | assumption | simpa using o3, by first | assumption | simpa using c7, by first | assumption | simpa using r9, by omega, by omega, by omega, by omega, by omega, by omega, by omega, by omega, by omega, by omega⟩
   refine .orI ?_ ?_
   ·
    refine .c1 rfl rfl rfl rfl (.litA rfl sl_23_B ze_22_Hj rfl rfl rfl rfl) ?_
    rintro _ H18x11 ⟨o1, rfl, l3, ge18x11, i⟩
    have e := l3
    refine ⟨e, ?_⟩
    replace m := m.trans l3
    replace l := l3.2 _ _ l
    have lt_at18x11 := GHeap.ltg i
    replace j := j.trans l3
    refine .orI ?_ ?_
    ·
     replace hin := d.mono m
     have u : Cat.At _ g1 0 c p := ⟨Mem.of_get l, hin⟩
     obtain ⟨-, -, -, -, -, -, u0, -, -⟩ := u.get
     refine .call1 rfl rfl rfl rfl rfl @Try.call92 rfl (l01Own_c) ?_
     rintro _ H11x3 ⟨m0, t8, rfl, t, ge11x3⟩
     replace e := e.trans m0
     refine ⟨e, ?_⟩
     replace m := m.trans m0
     replace l := m0.2 _ _ l
     replace i := m0.2 _ _ i
     have lt_at11x3 := GHeap.ltg t
     replace j := j.trans m0
     refine .orI ?_ ?_
     ·
      replace hin := d.mono m
      clear u u0
      have u : Cat.At _ g1 0 c p := ⟨Mem.of_get l, hin⟩
      obtain ⟨-, -, -, -, -, m7, -, -, -⟩ := u.get
      refine .call1 rfl rfl rfl rfl rfl @Try.call92 rfl (l01Own_c) ?_
      rintro _ H14x7 ⟨i9, u4, rfl, a2, ge14x7⟩
      replace e := e.trans i9
      refine ⟨e, ?_⟩
      replace m := m.trans i9
      replace l := i9.2 _ _ l
      replace i := i9.2 _ _ i
      replace t := i9.2 _ _ t
      have lt_at14x7 := GHeap.ltg a2
      replace j := j.trans i9
      refine .orI ?_ ?_
      ·
       replace hin := d.mono m
       clear u m7
       have u : Cat.At _ g1 0 c p := ⟨Mem.of_get l, hin⟩
       obtain ⟨-, -, -, -, -, -, -, o8, -⟩ := u.get
       refine .call1 rfl rfl rfl rfl rfl @Try.call92 rfl (l01Own_c) ?_
       rintro _ H17x13 ⟨i2, v0, rfl, f7, ge17x13⟩
       replace e := e.trans i2
       refine ⟨e, ?_⟩
       replace i := i2.2 _ _ i
       replace t := i2.2 _ _ t
       replace a2 := i2.2 _ _ a2
       have lt_at17x13 := GHeap.ltg f7
       replace j := j.trans i2
       refine .qB rfl e (.build bt_29_Hj rfl rfl rfl) ?_
       refine .c1 rfl rfl rfl rfl (.allocR rfl ze_29_Hj rfl) ?_
       rintro _ H3x11 ⟨z1, rfl, i4, ge3x11, at3x11⟩
       replace e := e.trans i4
       refine ⟨e, ?_⟩
       replace i := i4.2 _ _ i
       replace t := i4.2 _ _ t
       replace a2 := i4.2 _ _ a2
       replace f7 := i4.2 _ _ f7
       replace j := j.trans i4
       refine .r1 rfl rfl rfl (.fillA rfl sz_29_D rfl rfl rfl rfl) ?_
       rintro _ H1014x13 ⟨rfl, c0, r7⟩
       replace e := e.st c0 (fun k hk => ⟨by omega, trivial⟩)
       refine ⟨e, ?_⟩
       replace i := c0.s i
       replace t := c0.s t
       replace a2 := c0.s a2
       replace f7 := c0.s f7
       replace j := j.st c0 (fun k hk => ⟨by omega, trivial⟩)
       refine .done ?_
       exact ⟨t8, u4, v0, o1, z1, ⟨rfl, rfl, rfl, rfl, rfl, rfl, rfl, rfl, trivial⟩, j, by omega, by omega, by omega, by omega, by omega, by first | assumption | simpa using t, by first | assumption | simpa using a2, by first | assumption | simpa using f7, by first | assumption | simpa using i, by first | assumption | simpa using r7, by omega, by omega, by omega, by omega, by omega, by omega, by omega, by omega, by omega, by omega⟩
      refine .c1 rfl rfl rfl rfl (.allocR rfl ze_29_Hj rfl) ?_
      rintro _ H3x12 ⟨z3, rfl, h5, ge3x12, p9⟩
      replace e := e.trans h5
      refine ⟨e, ?_⟩
      replace m := m.trans h5
      replace l := h5.2 _ _ l
      replace i := h5.2 _ _ i
      replace t := h5.2 _ _ t
      replace a2 := h5.2 _ _ a2
      have lt_at3x12 := GHeap.ltg p9
      replace j := j.trans h5
      replace hin := d.mono m
      have u : Cat.At _ g1 0 c p := ⟨Mem.of_get l, hin⟩
      obtain ⟨-, -, -, -, -, -, -, o8, -⟩ := u.get
      refine .call1 rfl rfl rfl rfl rfl @Try.call92 rfl (l01Own_c) ?_
      rintro _ H17x14 ⟨f6, v6, rfl, o5, ge17x14⟩
      replace e := e.trans f6
      refine ⟨e, ?_⟩
      replace i := f6.2 _ _ i
      replace t := f6.2 _ _ t
      replace a2 := f6.2 _ _ a2
      replace p9 := f6.2 _ _ p9
      replace j := j.trans f6
      refine .qB rfl e (.build bt_29_Hj rfl rfl rfl) ?_
      refine .r1 rfl rfl rfl (.fillA rfl sz_29_D rfl rfl rfl rfl) ?_
      rintro _ H1014x14 ⟨rfl, c5, q9⟩
      replace e := e.st c5 (fun k hk => ⟨by omega, trivial⟩)
      refine ⟨e, ?_⟩
      replace i := c5.s i
      replace t := c5.s t
      replace a2 := c5.s a2
      replace o5 := c5.s o5
      replace j := j.st c5 (fun k hk => ⟨by omega, trivial⟩)
      refine .done ?_
      exact ⟨t8, u4, v6, o1, z3, ⟨rfl, rfl, rfl, rfl, rfl, rfl, rfl, rfl, trivial⟩, j, by omega, by omega, by omega, by omega, by omega, by first | assumption | simpa using t, by first | assumption | simpa using a2, by first | assumption | simpa using o5, by first | assumption | simpa using i, by first | assumption | simpa using q9, by omega, by omega, by omega, by omega, by omega, by omega, by omega, by omega, by omega, by omega⟩
     refine .c1 rfl rfl rfl rfl (.allocR rfl ze_29_Hj rfl) ?_
     rintro _ H3x13 ⟨y7, rfl, j9, ge3x13, l9⟩
     replace e := e.trans j9
     refine ⟨e, ?_⟩
     replace m := m.trans j9
     replace l := j9.2 _ _ l
     replace i := j9.2 _ _ i
     replace t := j9.2 _ _ t
     have lt_at3x13 := GHeap.ltg l9
     replace j := j.trans j9
     replace hin := d.mono m
     have u : Cat.At _ g1 0 c p := ⟨Mem.of_get l, hin⟩
     obtain ⟨-, -, -, -, -, m7, -, -, -⟩ := u.get
     refine .call1 rfl rfl rfl rfl rfl @Try.call92 rfl (l01Own_c) ?_
     rintro _ H14x8 ⟨h3, z6, rfl, j0, ge14x8⟩
     replace e := e.trans h3
     refine ⟨e, ?_⟩
     replace m := m.trans h3
     replace l := h3.2 _ _ l
     replace i := h3.2 _ _ i
     replace t := h3.2 _ _ t
     replace l9 := h3.2 _ _ l9
     have lt_at14x8 := GHeap.ltg j0
     replace j := j.trans h3
     replace hin := d.mono m
     clear u m7
     have u : Cat.At _ g1 0 c p := ⟨Mem.of_get l, hin⟩
     obtain ⟨-, -, -, -, -, -, -, o8, -⟩ := u.get
     refine .call1 rfl rfl rfl rfl rfl @Try.call92 rfl (l01Own_c) ?_
     rintro _ H17x15 ⟨f1, w1, rfl, n6, ge17x15⟩
     replace e := e.trans f1
     refine ⟨e, ?_⟩
     replace i := f1.2 _ _ i
     replace t := f1.2 _ _ t
     replace l9 := f1.2 _ _ l9
     replace j0 := f1.2 _ _ j0
     replace j := j.trans f1
     refine .qB rfl e (.build bt_29_Hj rfl rfl rfl) ?_
     refine .r1 rfl rfl rfl (.fillA rfl sz_29_D rfl rfl rfl rfl) ?_
     rintro _ H1014x15 ⟨rfl, c3, q4⟩
     replace e := e.st c3 (fun k hk => ⟨by omega, trivial⟩)
     refine ⟨e, ?_⟩
     replace i := c3.s i
     replace t := c3.s t
     replace j0 := c3.s j0
     replace n6 := c3.s n6
     replace j := j.st c3 (fun k hk => ⟨by omega, trivial⟩)
     refine .done ?_
     exact ⟨t8, z6, w1, o1, y7, ⟨rfl, rfl, rfl, rfl, rfl, rfl, rfl, rfl, trivial⟩, j, by omega, by omega, by omega, by omega, by omega, by first | assumption | simpa using t, by first | assumption | simpa using j0, by first | assumption | simpa using n6, by first | assumption | simpa using i, by first | assumption | simpa using q4, by omega, by omega, by omega, by omega, by omega, by omega, by omega, by omega, by omega, by omega⟩
    refine .c1 rfl rfl rfl rfl (.allocR rfl ze_29_Hj rfl) ?_
    rintro _ H3x14 ⟨z5, rfl, m4, ge3x14, h6⟩
    replace e := e.trans m4
    refine ⟨e, ?_⟩
    replace m := m.trans m4
    replace l := m4.2 _ _ l
    replace i := m4.2 _ _ i
    have lt_at3x14 := GHeap.ltg h6
    replace j := j.trans m4
    replace hin := d.mono m
    have u : Cat.At _ g1 0 c p := ⟨Mem.of_get l, hin⟩
    obtain ⟨-, -, -, -, -, -, u0, -, -⟩ := u.get
    refine .call1 rfl rfl rfl rfl rfl @Try.call92 rfl (l01Own_c) ?_
    rintro _ H11x4 ⟨j5, x3, rfl, e6, ge11x4⟩
    replace e := e.trans j5
    refine ⟨e, ?_⟩
    replace m := m.trans j5
    replace l := j5.2 _ _ l
    replace i := j5.2 _ _ i
    replace h6 := j5.2 _ _ h6
    have lt_at11x4 := GHeap.ltg e6
    replace j := j.trans j5
    replace hin := d.mono m
    clear u u0
    have u : Cat.At _ g1 0 c p := ⟨Mem.of_get l, hin⟩
    obtain ⟨-, -, -, -, -, m7, -, -, -⟩ := u.get
    refine .call1 rfl rfl rfl rfl rfl @Try.call92 rfl (l01Own_c) ?_
    rintro _ H14x9 ⟨g9, x2, rfl, i8, ge14x9⟩
    replace e := e.trans g9
    refine ⟨e, ?_⟩
    replace m := m.trans g9
    replace l := g9.2 _ _ l
    replace i := g9.2 _ _ i
    replace h6 := g9.2 _ _ h6
    replace e6 := g9.2 _ _ e6
    have lt_at14x9 := GHeap.ltg i8
    replace j := j.trans g9
    replace hin := d.mono m
    clear u m7
    have u : Cat.At _ g1 0 c p := ⟨Mem.of_get l, hin⟩
    obtain ⟨-, -, -, -, -, -, -, o8, -⟩ := u.get
    refine .call1 rfl rfl rfl rfl rfl @Try.call92 rfl (l01Own_c) ?_
    rintro _ H17x16 ⟨e9, w8, rfl, o7, ge17x16⟩
    replace e := e.trans e9
    refine ⟨e, ?_⟩
    replace i := e9.2 _ _ i
    replace h6 := e9.2 _ _ h6
    replace e6 := e9.2 _ _ e6
    replace i8 := e9.2 _ _ i8
    replace j := j.trans e9
    refine .qB rfl e (.build bt_29_Hj rfl rfl rfl) ?_
    refine .r1 rfl rfl rfl (.fillA rfl sz_29_D rfl rfl rfl rfl) ?_
    rintro _ H1014x16 ⟨rfl, c2, r4⟩
    replace e := e.st c2 (fun k hk => ⟨by omega, trivial⟩)
    refine ⟨e, ?_⟩
    replace i := c2.s i
    replace e6 := c2.s e6
    replace i8 := c2.s i8
    replace o7 := c2.s o7
    replace j := j.st c2 (fun k hk => ⟨by omega, trivial⟩)
    refine .done ?_
    exact ⟨x3, x2, w8, o1, z5, ⟨rfl, rfl, rfl, rfl, rfl, rfl, rfl, rfl, trivial⟩, j, by omega, by omega, by omega, by omega, by omega, by first | assumption | simpa using e6, by first | assumption | simpa using i8, by first | assumption | simpa using o7, by first | assumption | simpa using i, by first | assumption | simpa using r4, by omega, by omega, by omega, by omega, by omega, by omega, by omega, by omega, by omega, by omega⟩
   refine .c1 rfl rfl rfl rfl (.allocR rfl ze_29_Hj rfl) ?_
   rintro _ H3x15 ⟨i3, rfl, n9, ge3x15, n⟩
   have e := n9
   refine ⟨e, ?_⟩
   replace m := m.trans n9
   replace l := n9.2 _ _ l
   have lt_at3x15 := GHeap.ltg n
   replace j := j.trans n9
   refine .orI ?_ ?_
   ·
    replace hin := d.mono m
    have u : Cat.At _ g1 0 c p := ⟨Mem.of_get l, hin⟩
    obtain ⟨-, -, -, -, -, -, u0, -, -⟩ := u.get
    refine .call1 rfl rfl rfl rfl rfl @Try.call92 rfl (l01Own_c) ?_
    rintro _ H11x5 ⟨m6, m9, rfl, r, ge11x5⟩
    replace e := e.trans m6
    refine ⟨e, ?_⟩
    replace m := m.trans m6
    replace l := m6.2 _ _ l
    replace n := m6.2 _ _ n
    have lt_at11x5 := GHeap.ltg r
    replace j := j.trans m6
    refine .orI ?_ ?_
    ·
     replace hin := d.mono m
     clear u u0
     have u : Cat.At _ g1 0 c p := ⟨Mem.of_get l, hin⟩
     obtain ⟨-, -, -, -, -, m7, -, -, -⟩ := u.get
     refine .call1 rfl rfl rfl rfl rfl @Try.call92 rfl (l01Own_c) ?_
     rintro _ H14x10 ⟨e8, o6, rfl, v, ge14x10⟩
     replace e := e.trans e8
     refine ⟨e, ?_⟩
     replace m := m.trans e8
     replace l := e8.2 _ _ l
     replace n := e8.2 _ _ n
     replace r := e8.2 _ _ r
     have lt_at14x10 := GHeap.ltg v
     replace j := j.trans e8
     refine .orI ?_ ?_
     ·
      replace hin := d.mono m
      clear u m7
      have u : Cat.At _ g1 0 c p := ⟨Mem.of_get l, hin⟩
      obtain ⟨-, -, -, -, -, -, -, o8, -⟩ := u.get
      refine .call1 rfl rfl rfl rfl rfl @Try.call92 rfl (l01Own_c) ?_
      rintro _ H17x17 ⟨i1, v2, rfl, g8, ge17x17⟩
      replace e := e.trans i1
      refine ⟨e, ?_⟩
      replace n := i1.2 _ _ n
      replace r := i1.2 _ _ r
      replace v := i1.2 _ _ v
      have lt_at17x17 := GHeap.ltg g8
      replace j := j.trans i1
      refine .c1 rfl rfl rfl rfl (.litA rfl sl_23_B ze_22_Hj rfl rfl rfl rfl) ?_
      rintro _ H18x12 ⟨u9, rfl, f3, ge18x12, o0⟩
      replace e := e.trans f3
      refine ⟨e, ?_⟩
      replace n := f3.2 _ _ n
      replace r := f3.2 _ _ r
      replace v := f3.2 _ _ v
      replace g8 := f3.2 _ _ g8
      replace j := j.trans f3
      refine .qB rfl e (.build bt_29_Hj rfl rfl rfl) ?_
      refine .r1 rfl rfl rfl (.fillA rfl sz_29_D rfl rfl rfl rfl) ?_
      rintro _ H1014x17 ⟨rfl, c4, q6⟩
      replace e := e.st c4 (fun k hk => ⟨by omega, trivial⟩)
      refine ⟨e, ?_⟩
      have y : NE m9 i3 := .a
      replace r := c4.s r y.ne
      have a7 : NE o6 i3 := .a
      replace v := c4.s v a7.ne
      replace g8 := c4.s g8
      replace o0 := c4.s o0
      replace j := j.st c4 (fun k hk => ⟨by omega, trivial⟩)
      refine .done ?_
      exact ⟨m9, o6, v2, u9, i3, ⟨rfl, rfl, rfl, rfl, rfl, rfl, rfl, rfl, trivial⟩, j, by omega, by omega, by omega, by omega, by omega, by first | assumption | simpa using r, by first | assumption | simpa using v, by first | assumption | simpa using g8, by first | assumption | simpa using o0, by first | assumption | simpa using q6, by omega, by omega, by omega, by omega, by omega, by omega, by omega, by omega, by omega, by omega⟩
     refine .c1 rfl rfl rfl rfl (.litA rfl sl_23_B ze_22_Hj rfl rfl rfl rfl) ?_
     rintro _ H18x13 ⟨w0, rfl, e2, ge18x13, f2⟩
     replace e := e.trans e2
     refine ⟨e, ?_⟩
     replace m := m.trans e2
     replace l := e2.2 _ _ l
     replace n := e2.2 _ _ n
     replace r := e2.2 _ _ r
     replace v := e2.2 _ _ v
     have lt_at18x13 := GHeap.ltg f2
     replace j := j.trans e2
     replace hin := d.mono m
     have u : Cat.At _ g1 0 c p := ⟨Mem.of_get l, hin⟩
     obtain ⟨-, -, -, -, -, -, -, o8, -⟩ := u.get
     refine .call1 rfl rfl rfl rfl rfl @Try.call92 rfl (l01Own_c) ?_
     rintro _ H17x18 ⟨f9, v9, rfl, n7, ge17x18⟩
     replace e := e.trans f9
     refine ⟨e, ?_⟩
     replace n := f9.2 _ _ n
     replace r := f9.2 _ _ r
     replace v := f9.2 _ _ v
     replace f2 := f9.2 _ _ f2
     replace j := j.trans f9
     refine .qB rfl e (.build bt_29_Hj rfl rfl rfl) ?_
     refine .r1 rfl rfl rfl (.fillA rfl sz_29_D rfl rfl rfl rfl) ?_
     rintro _ H1014x18 ⟨rfl, b0, q2⟩
     replace e := e.st b0 (fun k hk => ⟨by omega, trivial⟩)
     refine ⟨e, ?_⟩
     have y : NE m9 i3 := .a
     replace r := b0.s r y.ne
     have a7 : NE o6 i3 := .a
     replace v := b0.s v a7.ne
     replace f2 := b0.s f2
     replace n7 := b0.s n7
     replace j := j.st b0 (fun k hk => ⟨by omega, trivial⟩)
     refine .done ?_
     exact ⟨m9, o6, v9, w0, i3, ⟨rfl, rfl, rfl, rfl, rfl, rfl, rfl, rfl, trivial⟩, j, by omega, by omega, by omega, by omega, by omega, by first | assumption | simpa using r, by first | assumption | simpa using v, by first | assumption | simpa using n7, by first | assumption | simpa using f2, by first | assumption | simpa using q2, by omega, by omega, by omega, by omega, by omega, by omega, by omega, by omega, by omega, by omega⟩
    refine .c1 rfl rfl rfl rfl (.litA rfl sl_23_B ze_22_Hj rfl rfl rfl rfl) ?_
    rintro _ H18x14 ⟨v4, rfl, e7, ge18x14, c8⟩
    replace e := e.trans e7
    refine ⟨e, ?_⟩
    replace m := m.trans e7
    replace l := e7.2 _ _ l
    replace n := e7.2 _ _ n
    replace r := e7.2 _ _ r
    have lt_at18x14 := GHeap.ltg c8
    replace j := j.trans e7
    replace hin := d.mono m
    have u : Cat.At _ g1 0 c p := ⟨Mem.of_get l, hin⟩
    obtain ⟨-, -, -, -, -, m7, -, -, -⟩ := u.get
    refine .call1 rfl rfl rfl rfl rfl @Try.call92 rfl (l01Own_c) ?_
    rintro _ H14x11 ⟨e1, w3, rfl, f8, ge14x11⟩
    replace e := e.trans e1
    refine ⟨e, ?_⟩
    replace m := m.trans e1
    replace l := e1.2 _ _ l
    replace n := e1.2 _ _ n
    replace r := e1.2 _ _ r
    replace c8 := e1.2 _ _ c8
    have lt_at14x11 := GHeap.ltg f8
    replace j := j.trans e1
    replace hin := d.mono m
    clear u m7
    have u : Cat.At _ g1 0 c p := ⟨Mem.of_get l, hin⟩
    obtain ⟨-, -, -, -, -, -, -, o8, -⟩ := u.get
    refine .call1 rfl rfl rfl rfl rfl @Try.call92 rfl (l01Own_c) ?_
    rintro _ H17x19 ⟨g7, w7, rfl, n4, ge17x19⟩
    replace e := e.trans g7
    refine ⟨e, ?_⟩
    replace n := g7.2 _ _ n
    replace r := g7.2 _ _ r
    replace c8 := g7.2 _ _ c8
    replace f8 := g7.2 _ _ f8
    replace j := j.trans g7
    refine .qB rfl e (.build bt_29_Hj rfl rfl rfl) ?_
    refine .r1 rfl rfl rfl (.fillA rfl sz_29_D rfl rfl rfl rfl) ?_
    rintro _ H1014x19 ⟨rfl, a8, q5⟩
    replace e := e.st a8 (fun k hk => ⟨by omega, trivial⟩)
    refine ⟨e, ?_⟩
    have y : NE m9 i3 := .a
    replace r := a8.s r y.ne
    replace c8 := a8.s c8
    replace f8 := a8.s f8
    replace n4 := a8.s n4
    replace j := j.st a8 (fun k hk => ⟨by omega, trivial⟩)
    refine .done ?_
    exact ⟨m9, w3, w7, v4, i3, ⟨rfl, rfl, rfl, rfl, rfl, rfl, rfl, rfl, trivial⟩, j, by omega, by omega, by omega, by omega, by omega, by first | assumption | simpa using r, by first | assumption | simpa using f8, by first | assumption | simpa using n4, by first | assumption | simpa using c8, by first | assumption | simpa using q5, by omega, by omega, by omega, by omega, by omega, by omega, by omega, by omega, by omega, by omega⟩
   refine .c1 rfl rfl rfl rfl (.litA rfl sl_23_B ze_22_Hj rfl rfl rfl rfl) ?_
   rintro _ H18x15 ⟨w5, rfl, h8, ge18x15, a4⟩
   replace e := e.trans h8
   refine ⟨e, ?_⟩
   replace m := m.trans h8
   replace l := h8.2 _ _ l
   replace n := h8.2 _ _ n
   have lt_at18x15 := GHeap.ltg a4
   replace j := j.trans h8
   replace hin := d.mono m
   have u : Cat.At _ g1 0 c p := ⟨Mem.of_get l, hin⟩
   obtain ⟨-, -, -, -, -, -, u0, -, -⟩ := u.get
   refine .call1 rfl rfl rfl rfl rfl @Try.call92 rfl (l01Own_c) ?_
   rintro _ H11x6 ⟨i7, y1, rfl, e4, ge11x6⟩
   replace e := e.trans i7
   refine ⟨e, ?_⟩
   replace m := m.trans i7
   replace l := i7.2 _ _ l
   replace n := i7.2 _ _ n
   replace a4 := i7.2 _ _ a4
   have lt_at11x6 := GHeap.ltg e4
   replace j := j.trans i7
   replace hin := d.mono m
   clear u u0
   have u : Cat.At _ g1 0 c p := ⟨Mem.of_get l, hin⟩
   obtain ⟨-, -, -, -, -, m7, -, -, -⟩ := u.get
   refine .call1 rfl rfl rfl rfl rfl @Try.call92 rfl (l01Own_c) ?_
   rintro _ H14x12 ⟨e0, v5, rfl, g4, ge14x12⟩
   replace e := e.trans e0
   refine ⟨e, ?_⟩
   replace m := m.trans e0
   replace l := e0.2 _ _ l
   replace n := e0.2 _ _ n
   replace a4 := e0.2 _ _ a4
   replace e4 := e0.2 _ _ e4
   have lt_at14x12 := GHeap.ltg g4
   replace j := j.trans e0
   replace hin := d.mono m
   clear u m7
   have u : Cat.At _ g1 0 c p := ⟨Mem.of_get l, hin⟩
   obtain ⟨-, -, -, -, -, -, -, o8, -⟩ := u.get
   refine .call1 rfl rfl rfl rfl rfl @Try.call92 rfl (l01Own_c) ?_
   rintro _ H17x20 ⟨g0, w9, rfl, n8, ge17x20⟩
   replace e := e.trans g0
   refine ⟨e, ?_⟩
   replace n := g0.2 _ _ n
   replace a4 := g0.2 _ _ a4
   replace e4 := g0.2 _ _ e4
   replace g4 := g0.2 _ _ g4
   replace j := j.trans g0
   refine .qB rfl e (.build bt_29_Hj rfl rfl rfl) ?_
   refine .r1 rfl rfl rfl (.fillA rfl sz_29_D rfl rfl rfl rfl) ?_
   rintro _ H1014x20 ⟨rfl, b5, q8⟩
   replace e := e.st b5 (fun k hk => ⟨by omega, trivial⟩)
   refine ⟨e, ?_⟩
   replace a4 := b5.s a4
   replace e4 := b5.s e4
   replace g4 := b5.s g4
   replace n8 := b5.s n8
   replace j := j.st b5 (fun k hk => ⟨by omega, trivial⟩)
   refine .done ?_
   exact ⟨y1, v5, w9, w5, i3, ⟨rfl, rfl, rfl, rfl, rfl, rfl, rfl, rfl, trivial⟩, j, by omega, by omega, by omega, by omega, by omega, by first | assumption | simpa using e4, by first | assumption | simpa using g4, by first | assumption | simpa using n8, by first | assumption | simpa using a4, by first | assumption | simpa using q8, by omega, by omega, by omega, by omega, by omega, by omega, by omega, by omega, by omega, by omega⟩
  rintro fr3 H3 ⟨s3, t3, t1, s1, g3, y3, z9, ge11, ge14, ge17, ge18, ge3, s0, q3, r8, at18, bP, ne3_0, ne3_1, ne3_2, ne3_3, ne3_4, ne3_5, ne3_6, ne3_7, ne3_8, ne3_9⟩
  have nx_H3 := z9.1
  replace m := m.trans z9
  replace l := z9.2 _ _ l
  replace x0 := z9.2 _ _ x0
  have lt_at11 := GHeap.ltg s0
  have lt_at14 := GHeap.ltg q3
  have lt_at17 := GHeap.ltg r8
  have lt_at3 := GHeap.ltg bP
  replace hin := d.mono m
  have u : Cat.At _ g1 0 c p := ⟨Mem.of_get l, hin⟩
  refine bC _ _ ?_
  refine .forget y3 ?_
  refine .seq (fun K3 bL => .seq (fun K4 bJ => .region (.mv rfl (.nil (bJ _ _ ?_)))))
  refine .block ?_
  refine .loopR (σ := Nat × (Nat → Option Addr) × Nat) [(1, some _), (2, some _), (3, some _)] (fun (f, rc, gLC) => [(4, some (.int .i64 (f : Int)))]) (fun (f, rc, gLC) H' => St [s1, g3] H3 H' ∧ H'.get gLC = some (.row ((slsL rc (c.opTab f))) 22 true) ∧ (gLC = s1 ∨ H3.next ≤ gLC) ∧ H'.get g3 = some (.row ([.int .i64 c.obj, .slice (some ⟨s3, 0, none⟩) c.tgt.length c.tgt.length, .slice (some ⟨t3, 0, none⟩) c.src.length c.src.length, .slice (some ⟨t1, 0, none⟩) c.idn.length c.idn.length, .slice (some ⟨gLC, 0, none⟩) f f]) 29 true) ∧ gLC ≠ g3 ∧ f ≤ c.src.length ∧ OwnL H3.next H' 2 rc (c.opTab f)) (fun (f, rc, gLC) => c.src.length - f) ((0, fun _ => none, s1)) ⟨rfl, rfl, rfl, trivial⟩ ⟨rfl, trivial⟩ ?_ ?_
  ·
   refine ⟨.refl _ _, by assumption, .inl rfl, by assumption, by omega, ?_⟩
   exact ⟨by omega, .nil _ _ _ _⟩
  rintro ⟨f, rc, gLC⟩ HL1 ⟨e3, e5, pl_LC, a6, x6, hI⟩ KL1 aW
  refine .forget (fr' := [(4, some (.int .i64 (f : Int))), (1, some _), (2, some _), (3, some _)]) ⟨rfl, rfl, rfl, rfl, trivial⟩ ?_
  have ge_LC : H.next ≤ gLC := by omega
  have nx_HL1 := e3.nx
  replace m := m.st e3 (fun k hk => ⟨by omega, by omega, trivial⟩)
  have p1 : NE g1 g3 := .a
  replace l := e3.same _ _ ⟨(by first | assumption | omega), p1.ne, trivial⟩ l
  replace x0 := e3.same _ _ ⟨(by first | assumption | omega), (by first | assumption | omega), trivial⟩ x0
  replace s0 := e3.same _ _ ⟨(by first | assumption | omega), (by first | assumption | omega), trivial⟩ s0
  replace q3 := e3.same _ _ ⟨(by first | assumption | omega), (by first | assumption | omega), trivial⟩ q3
  replace r8 := e3.same _ _ ⟨(by first | assumption | omega), (by first | assumption | omega), trivial⟩ r8
  have lt_at_LC := GHeap.ltg e5
  have lt_at_Lg3 := GHeap.ltg a6
  replace hin := d.mono m
  clear u
  have u : Cat.At _ g1 0 c p := ⟨Mem.of_get l, hin⟩
  obtain ⟨-, x9, -, -, -, -, -, -, -⟩ := u.get
  have rk := St.refl [gLC, g3] HL1
  obtain ⟨hf, hR⟩ := hI
  have hatC := e5
  have aU := a6
  have hql := c.length_opTab f
  have hfl : (slsL rc (c.opTab f)).length = (c.opTab f).length := length_slsL _ _
  refine .seq (fun K5 bO => .seq (fun K6 bF => .region (.mv rfl (.q rfl (.fieldAddr fo_29_1_B rfl) ?_))))
  refine .q rfl (.load on_22_B rfl (by first | assumption | exact Mem.of_get l 1 _ rfl)) ?_
  refine .q rfl (.len sl_22_A rfl) (.q rfl (.cmp rfl rfl rfl) (.nil (bF _ _ ?_)))
  refine .cond rfl (fun aV => ?_) (fun aV => ?_)
  ·
   simp only [sps] at aV
   refine .skip ?_
   refine bO _ _ (.seq (fun K7 bI => ?_))
   refine .block ?_
   refine .seq (fun K8 bG => .region ?_)
   refine .R rfl (.litA rfl sl_22_A ze_2_L rfl rfl rfl rfl) ?_
   rintro _ aA ⟨aI, rfl, r5, ge27, v3⟩
   replace m := m.trans r5
   replace e3 := e3.le r5
   replace rk := rk.le r5
   replace l := r5.2 _ _ l
   replace e5 := r5.2 _ _ e5
   replace a6 := r5.2 _ _ a6
   have lt_at27 := GHeap.ltg v3
   replace hin := d.mono m
   clear u x9
   have u : Cat.At _ g1 0 c p := ⟨Mem.of_get l, hin⟩
   replace v3 : GHeap.get aA aI = some (.row (ints []) 2 true) := v3
   refine .mv rfl (.nil (bG _ _ (.seq (fun K9 bD => .seq (fun K10 aC => .region (.mv rfl (.nil (aC _ _ ?_))))))))
   refine .block ?_
   refine .loopR (σ := Nat × Nat × Nat) [(1, some _), (2, some _), (3, some _), (4, some _)] (fun (g, s2, u7) => [(6, some (.int .i64 (g : Int))), (5, some (.slice (some ⟨s2, 0, none⟩) u7 u7))]) (fun (g, s2, u7) H' => St [aI] aA H' ∧ H'.get s2 = some (.row (ints (c.opRow f g)) 2 true) ∧ (s2 = aI ∨ aA.next ≤ s2) ∧ u7 = (c.opRow f g).length ∧ g ≤ c.src.length) (fun (g, s2, u7) => c.src.length - g) ((0, _, _)) ⟨rfl, rfl, rfl, rfl, trivial⟩ ⟨rfl, rfl, trivial⟩ ?_ ?_
   ·
    refine ⟨.refl _ _, by assumption, .inl rfl, by rfl, ?_⟩
    omega
   rintro ⟨g, s2, u7⟩ HL2 ⟨l2, h7, pl_L5, y2, hI⟩ KL2 aF
   refine .forget (fr' := [(6, some (.int .i64 (g : Int))), (5, some (.slice (some ⟨s2, 0, none⟩) u7 u7)), (1, some _), (2, some _), (3, some _), (4, some _)]) ⟨rfl, rfl, rfl, rfl, rfl, rfl, trivial⟩ ?_
   have ge_L5 : H.next ≤ s2 := by omega
   have nx_HL2 := l2.nx
   replace m := m.st l2 (fun k hk => ⟨by omega, trivial⟩)
   replace e3 := e3.sA l2
   replace rk := rk.sA l2
   replace l := l2.s l
   replace e5 := l2.s e5
   replace a6 := l2.s a6
   replace hin := d.mono m
   clear u
   have u : Cat.At _ g1 0 c p := ⟨Mem.of_get l, hin⟩
   obtain ⟨-, x9, -, -, bA, -, -, -, aZ⟩ := u.get
   have hrl := c.length_opRow f g
   refine .seq (fun K11 aP => .seq (fun K12 aK => .region (.mv rfl (.q rfl (.fieldAddr fo_29_1_B rfl) ?_))))
   refine .q rfl (.load on_22_B rfl (by first | assumption | exact Mem.of_get l 1 _ rfl)) ?_
   refine .q rfl (.len sl_22_A rfl) (.q rfl (.cmp rfl rfl rfl) (.nil (aK _ _ ?_)))
   refine .cond rfl (fun aE => ?_) (fun aE => ?_)
   ·
    simp only [sps] at aE
    have b9g := b9 g (by omega)
    have u1 := aZ.2 g (by omega)
    refine .skip ?_
    refine aP _ _ (.seq (fun K13 aB => ?_))
    refine .block ?_
    refine .region (.mv rfl (.q rfl (.fieldAddr fo_29_4_B rfl) ?_))
    refine .q rfl (.load on_23_B rfl (by first | assumption | exact Mem.of_get l 4 _ rfl)) ?_
    refine .mv rfl ?_
    refine .q rfl (.idxN sl_23_B (Intss.sl (by assumption)) rfl rfl (by omega)) ?_
    refine .q rfl (.loadR on_22_B (by assumption) rfl (by omega)) ?_
    refine .mv rfl ?_
    refine .q rfl (.idxN sl_22_A (by assumption) rfl rfl (by omega)) ?_
    refine .q rfl (.loadI on_2_A (by assumption) rfl (by omega)) ?_
    refine .R rfl (.litA rfl sl_22_A ze_2_L rfl rfl rfl rfl) ?_
    rintro _ H44 ⟨g44, rfl, u3, ge44, aQ⟩
    replace m := m.trans u3
    replace l2 := l2.le u3
    replace l := u3.2 _ _ l
    replace h7 := u3.2 _ _ h7
    have lt_at44 := GHeap.ltg aQ
    replace hin := d.mono m
    clear u x9 bA aZ
    have u : Cat.At _ g1 0 c p := ⟨Mem.of_get l, hin⟩
    clear u1
    refine .R rfl (.appendI rfl sl_22_A ze_2_L rfl by_2_L sl_22_A rfl rfl (by assumption) (by assumption) (by first | omega | (simp <;> omega)) (by omega) (by omega)) ?_
    rintro _ H45 ⟨g45, rfl, w6, ge45, at45⟩
    replace m := m.st w6 (fun k hk => ⟨by omega, trivial⟩)
    replace l2 := l2.sA w6
    replace l := w6.s l
    replace hin := d.mono m
    clear u
    have u : Cat.At _ g1 0 c p := ⟨Mem.of_get l, hin⟩
    refine .mv rfl (.nil (aB _ _ (.region (.mv rfl ?_))))
    refine .q rfl (.add rfl rfl rfl (by omega) (by omega)) ?_
    refine .mv rfl (.nil ?_)
    refine aF ((g + 1, _, _)) _ _ ?_ ?_ ⟨rfl, rfl, rfl, rfl, rfl, rfl, trivial⟩
    ·
     refine ⟨l2, by (rw [Cat.opRow_snoc]; assumption), by omega, by (rw [Cat.opRow_snoc] <;> (first | omega | (simp only [List.length_append, List.length_cons, List.length_nil] <;> omega))), ?_⟩
     omega
    (dsimp only; omega)
   try simp only [sps] at aE
   refine .exit ?_
   refine bD _ _ (.region ?_)
   obtain rfl : g = c.src.length := by omega
   have aX := y2.symm
   refine .q rfl (.fieldAddr fo_29_4_B rfl) ?_
   refine .q rfl (.load on_23_B rfl (by first | assumption | exact Mem.of_get a6 4 _ rfl)) ?_
   refine .mv rfl ?_
   refine .R rfl (.litA rfl sl_23_B ze_22_Hj rfl rfl rfl rfl) ?_
   rintro _ H49 ⟨g49, rfl, q0, ge49, aR⟩
   replace m := m.trans q0
   replace e3 := e3.le q0
   replace rk := rk.le q0
   replace l := q0.2 _ _ l
   replace e5 := q0.2 _ _ e5
   replace a6 := q0.2 _ _ a6
   replace h7 := q0.2 _ _ h7
   have lt_at49 := GHeap.ltg aR
   replace hin := d.mono m
   have u : Cat.At _ g1 0 c p := ⟨Mem.of_get l, hin⟩
   refine .R rfl (.appendV rfl sl_23_B ze_22_Hj rfl by_22_Hj sl_23_B rfl rfl (by assumption) (by assumption) (by first | omega | (simp <;> omega)) rfl rfl (by omega) (by omega)) ?_
   rintro _ H50 ⟨bM, rfl, r3, ge50, y8⟩
   replace m := m.st r3 (fun k hk => ⟨by omega, trivial⟩)
   replace e3 := e3.sA r3
   replace rk := rk.sA r3
   replace l := r3.s l
   replace a6 := r3.same _ _ ⟨(Ne.symm x6), trivial⟩ a6
   replace h7 := r3.s h7
   replace hin := d.mono m
   clear u
   have u : Cat.At _ g1 0 c p := ⟨Mem.of_get l, hin⟩
   refine .q rfl (.fieldAddr fo_29_4_B rfl) ?_
   refine .r0 rfl rfl (.storeR rfl sz_23_Ch rfl rfl rfl (by assumption) (by first | exact Nat.le_of_ble_eq_true rfl | (simp; done) | (simp <;> omega))) ?_
   rintro _ H10006 ⟨rfl, f4, t9⟩
   replace m := m.st f4 (fun k hk => ⟨by omega, trivial⟩)
   replace e3 := e3.sA f4
   replace rk := rk.sA f4
   replace l := f4.s l p1.ne
   replace h7 := f4.s h7
   replace y8 := f4.s y8
   replace hin := d.mono m
   clear u
   have u : Cat.At _ g1 0 c p := ⟨Mem.of_get l, hin⟩
   try simp only [Nat.zero_add, List.set_cons_succ, List.set_cons_zero] at t9
   refine .nil (bI _ _ (.region (.mv rfl ?_)))
   refine .q rfl (.add rfl rfl rfl (by omega) (by omega)) ?_
   refine .mv rfl (.nil ?_)
   refine aW ((f + 1, upd rc (c.opTab f).length (some ⟨s2, 0, none⟩), bM)) _ _ ?_ ?_ ⟨rfl, rfl, rfl, rfl, trivial⟩
   ·
    refine ⟨e3, by (rw [Cat.opTab_snoc, slsL_snoc, aX]; assumption), by omega, by assumption, by omega, ?_⟩
    have hR' := hR.st rk (.cons (hR.neT hatC rfl) (.cons (hR.neT aU rfl) (.nil _ _)))
    have bH : HL1.next ≤ s2 := by omega
    have bB := hR.ne (g := s2) bH
    have hrow := h7
    rw [Cat.opTab_snoc]
    exact ⟨by omega, hR'.snoc2 hrow bB (by omega)⟩
   (dsimp only; omega)
  try simp only [sps] at aV
  refine .exit ?_
  refine bL _ _ (.seq (fun K14 aS => .region ?_))
  refine .q rfl (.loadM ag_29_D rfl ⟨rfl, Mem.of_get a6⟩) ?_
  obtain rfl : f = c.src.length := by omega
  have aH := x0
  refine .r0 rfl rfl (.fillA rfl sz_29_D rfl rfl rfl rfl) ?_
  rintro _ H11001 ⟨rfl, d9, u2⟩
  replace m := m.st d9 (fun k hk => ⟨by omega, trivial⟩)
  replace l := d9.s l
  replace s0 := d9.s s0
  replace q3 := d9.s q3
  replace r8 := d9.s r8
  replace e5 := d9.s e5
  replace hin := d.mono m
  have u : Cat.At _ g1 0 c p := ⟨Mem.of_get l, hin⟩
  refine .nil (aS _ _ ?_)
  refine .ret ?_
  refine aM _ _ ?_
  refine ⟨_, _, _, _, rfl, ag_29_D, (by rfl), (Mem.of_get u2), ?_⟩
  have hrc := (hR.st d9 (.cons (hR.neT aH rfl) (.nil _ _)))
  exact ⟨m, s3, t3, t1, gLC, rc, by simp [Cat.cells, Cat.op, ownP, b3], ⟨s0, q3, r8, e5, by omega, by omega, by omega, by omega, by omega, by omega, by omega, hrc.low (by omega), hR.lowNe (by omega), hR.lowNe (by omega), hR.lowNe (by omega)⟩⟩
end Go.Proofs.Ytjdedelneppnlaa
namespace Go.Proofs.Ytjdedelneppnlaa
open Go Go.GL Go.RowKit Go.Proofs
end Go.Proofs.Ytjdedelneppnlaa
namespace Go.GL
def Cat.pw (c : Cat) (f : Int) : Nat → Int
  | 0 => f
  | k + 1 => c.th (c.pw f k) f
structure Cat.Cyc (c : Cat) (f : Int) (k a : Nat) : Prop where
  lt : a < k
  eq : c.pw f k = c.pw f a
  ne : ∀ i j, i < j → j < k → c.pw f i ≠ c.pw f j
inductive Cat.Pw (c : Cat) (f i p e : Int) : Prop
  | err (h : c.code [f] ≠ 0) (hi : i = 0) (hp : p = 0) (he : e = c.code [f])
  | ends (h : c.code [f] = 0) (hn : ¬ c.S f = c.T f) (hi : i = 0) (hp : p = 0) (he : e = 5)
  | yes (h : c.code [f] = 0) (hn : c.S f = c.T f) (k a : Nat) (hc : c.Cyc f k a) (hi : i = (a : Int) + 1) (hp : p = (k : Int) - a) (he : e = 0)
theorem allIn_two {f g n : Int} : allIn [f, g] n = true ↔ (0 ≤ f ∧ f < n) ∧ 0 ≤ g ∧ g < n := by
  rw [allIn_iff]
  exact ⟨fun h => ⟨h 0 (by simp), h 1 (by simp)⟩, fun h i hi => by
    obtain rfl | rfl : i = 0 ∨ i = 1 := by simp at hi; omega
    · exact h.1
    · exact h.2⟩
theorem Cat.code_two {c : Cat} {f g : Int} : c.code [f, g] = 0 ↔ c.Is ∧ (0 ≤ f ∧ f < c.src.length) ∧ 0 ≤ g ∧ g < c.src.length := by rw [Cat.code_ok, allIn_two]
end Go.GL
namespace Go.GL
structure Cat.Chain (c : Cat) (xs : List Int) : Prop where
  all : ∀ i : Nat, i + 1 < xs.length → c.T (xs.getD i 0) = c.S (xs.getD (i + 1) 0)
structure Cat.Ch (c : Cat) (xs : List Int) : Prop where
  rg : ∀ i, i < xs.length → 0 ≤ xs.getD i 0 ∧ xs.getD i 0 < c.src.length
  ch : c.Chain xs
end Go.GL
namespace Go.GL
theorem mem_of_full {α : Type} [DecidableEq α] : ∀ {l s : List α}, l.Nodup → (∀ x ∈ l, x ∈ s) → s.length ≤ l.length → ∀ x ∈ s, x ∈ l
  | [], s, _, _, hl, x, hx => by
    have : s = [] := List.length_eq_zero_iff.1 (by simpa using hl)
    rw [this] at hx; cases hx
  | a :: l, s, hn, hs, hl, x, hx => by
    have ha : a ∈ s := hs a (List.mem_cons_self ..)
    obtain ⟨h1, h2⟩ := List.nodup_cons.1 hn
    by_cases e : x = a
    · rw [e]; exact List.mem_cons_self ..
    · have hlen : (s.erase a).length = s.length - 1 := List.length_erase_of_mem ha
      have hpos : 0 < s.length := List.length_pos_of_mem ha
      refine List.mem_cons_of_mem _ (mem_of_full (s := s.erase a) h2 (fun y hy => ?_) ?_ x ((List.mem_erase_of_ne e).2 hx))
      · exact (List.mem_erase_of_ne (fun q => h1 (by rw [← q]; exact hy))).2 (hs y (List.mem_cons_of_mem _ hy))
      · rw [List.length_cons] at hl; omega
theorem length_le_of_sub {α : Type} [DecidableEq α] : ∀ {l s : List α}, l.Nodup → (∀ x ∈ l, x ∈ s) → l.length ≤ s.length
  | [], _, _, _ => Nat.zero_le _
  | a :: l, s, hn, hs => by
    have ha : a ∈ s := hs a (List.mem_cons_self ..)
    obtain ⟨h1, h2⟩ := List.nodup_cons.1 hn
    have hlen : (s.erase a).length = s.length - 1 := List.length_erase_of_mem ha
    have hpos : 0 < s.length := List.length_pos_of_mem ha
    have := length_le_of_sub (l := l) (s := s.erase a) h2 (fun y hy => (List.mem_erase_of_ne (fun q => h1 (by rw [← q]; exact hy))).2 (hs y (List.mem_cons_of_mem _ hy)))
    rw [List.length_cons]; omega
theorem onto_iff {α β : Type} [DecidableEq α] [DecidableEq β] {l : List α} {s : List β} {φ : α → β} (hl : l.Nodup) (hs : s.Nodup) (hm : ∀ u ∈ l, φ u ∈ s) :
    (l.length = s.length ∧ (l.map φ).Nodup) ↔ ∀ y ∈ s, (l.filter fun u => decide (φ u = y)).length = 1 := by
  have hc : ∀ y, (l.filter fun u => decide (φ u = y)).length = (l.map φ).count y := fun y => by
    rw [List.count, List.countP_map, List.countP_eq_length_filter]
    congr 1
  constructor
  · rintro ⟨h1, h2⟩ y hy
    rw [hc]
    have hy' : y ∈ l.map φ := mem_of_full h2 (fun z hz => by obtain ⟨u, hu, rfl⟩ := List.mem_map.1 hz; exact hm u hu) (by rw [List.length_map]; omega) y hy
    have a1 := List.nodup_iff_count.1 h2 y
    have a2 := List.count_pos_iff.2 hy'
    omega
  · intro h
    have h2 : (l.map φ).Nodup := List.nodup_iff_count.2 fun y => by
      by_cases hy : y ∈ l.map φ
      · obtain ⟨u, hu, rfl⟩ := List.mem_map.1 hy
        have := h (φ u) (hm u hu)
        rw [hc] at this; omega
      · rw [List.count_eq_zero_of_not_mem hy]; omega
    refine ⟨?_, h2⟩
    have a1 := length_le_of_sub (l := l.map φ) (s := s) h2 (fun z hz => by obtain ⟨u, hu, rfl⟩ := List.mem_map.1 hz; exact hm u hu)
    have a2 := length_le_of_sub (l := s) (s := l.map φ) hs (fun y hy => by
      have := h y hy
      rw [hc] at this
      exact List.count_pos_iff.1 (by omega))
    rw [List.length_map] at a1 a2
    omega
structure Spn where
  x : Int
  y : Int
  fits : Int → Int → Bool
  alone : Bool
def Cat.spL (c : Cat) (s : Spn) (w : Int) : List (Int × Int) := if s.alone = true then ((c.hom w s.x).filter fun a => s.fits a a).map fun a => (a, a) else (c.hom w s.x).flatMap fun a => ((c.hom w s.y).filter fun b => s.fits a b).map fun b => (a, b)
theorem Cat.mem_spL {c : Cat} {s : Spn} {w : Int} {p : Int × Int} : p ∈ c.spL s w ↔ p.1 ∈ c.hom w s.x ∧ s.fits p.1 p.2 = true ∧ if s.alone = true then p.2 = p.1 else p.2 ∈ c.hom w s.y := by
  unfold Cat.spL
  by_cases h : s.alone = true
  · rw [if_pos h, if_pos h, List.mem_map]
    constructor
    · rintro ⟨a, ha, rfl⟩
      obtain ⟨h1, h2⟩ := List.mem_filter.1 ha
      exact ⟨h1, h2, rfl⟩
    · rintro ⟨h1, h2, h3⟩
      refine ⟨p.1, List.mem_filter.2 ⟨h1, ?_⟩, ?_⟩
      · rw [h3] at h2; exact h2
      · obtain ⟨a, b⟩ := p; simp only at h3; rw [h3]
  · rw [if_neg h, if_neg h, List.mem_flatMap]
    constructor
    · rintro ⟨a, ha, hb⟩
      obtain ⟨b, hb2, rfl⟩ := List.mem_map.1 hb
      obtain ⟨h1, h2⟩ := List.mem_filter.1 hb2
      exact ⟨ha, h2, h1⟩
    · rintro ⟨h1, h2, h3⟩
      exact ⟨p.1, h1, List.mem_map.2 ⟨p.2, List.mem_filter.2 ⟨h3, h2⟩, rfl⟩⟩
theorem Cat.spL_nd (c : Cat) (s : Spn) (w : Int) : (c.spL s w).Nodup := by
  unfold Cat.spL
  split
  · exact List.Pairwise.map _ (fun a b h e => h (Prod.mk.inj e).1) ((c.hom_nd _ _).filter _)
  · refine List.pairwise_flatMap.2 ⟨fun a _ => List.Pairwise.map _ (fun a b h e => h (Prod.mk.inj e).2) ((c.hom_nd _ _).filter _), ?_⟩
    refine List.Pairwise.imp (R := (· ≠ ·)) (fun {a b} hab => ?_) (c.hom_nd w s.x)
    intro q h1 q2 h2 e
    obtain ⟨_, _, rfl⟩ := List.mem_map.1 h1
    obtain ⟨_, _, rfl⟩ := List.mem_map.1 h2
    exact hab (Prod.mk.inj e).1
def Cat.spM (c : Cat) (p : Int × Int) (u : Int) : Int × Int := (c.th u p.1, c.th u p.2)
def Cat.spN (c : Cat) (z : Int) (p : Int × Int) (w : Int) (q : Int × Int) : Nat := ((c.hom w z).filter fun u => decide (c.spM p u = q)).length
structure Cat.SpU (c : Cat) (s : Spn) (z : Int) (p : Int × Int) : Prop where
  all : ∀ w : Nat, (w : Int) < c.obj → ∀ q ∈ c.spL s w, c.spN z p w q = 1
structure Cat.SpV (c : Cat) (s : Spn) (z : Int) (p : Int × Int) : Prop where
  all : ∀ w : Nat, (w : Int) < c.obj → (c.hom w z).length = (c.spL s w).length ∧ ((c.hom w z).map (c.spM p)).Nodup
structure Cat.SpC (c : Cat) (s : Spn) : Prop where
  go : ∀ (w z : Nat) (p : Int × Int) (u : Int), p ∈ c.spL s z → u ∈ c.hom w z → c.spM p u ∈ c.spL s w
theorem Cat.spV_iff {c : Cat} {s : Spn} (hc : c.SpC s) {z : Nat} {p : Int × Int} (hp : p ∈ c.spL s z) : c.SpV s z p ↔ c.SpU s z p := by
  constructor
  · intro h
    exact ⟨fun w hw => (onto_iff (φ := c.spM p) (c.hom_nd _ _) (c.spL_nd s w) (fun u hu => hc.go w z p u hp hu)).1 (h.all w hw)⟩
  · intro h
    exact ⟨fun w hw => (onto_iff (φ := c.spM p) (c.hom_nd _ _) (c.spL_nd s w) (fun u hu => hc.go w z p u hp hu)).2 (h.all w hw)⟩
theorem Cat.hom_th {c : Cat} (hS : c.Shape) {w z x u a : Int} (hu : u ∈ c.hom w z) (ha : a ∈ c.hom z x) : c.th u a ∈ c.hom w x := by
  obtain ⟨U, u1, u2, u3, rfl⟩ := Cat.mem_hom.1 hu
  obtain ⟨A, a1, a2, a3, rfl⟩ := Cat.mem_hom.1 ha
  obtain ⟨p1, p2, p3, p4⟩ := hS.tn u1 a1 (by rw [u3, a2])
  rw [Cat.th_nat, p4]
  exact Cat.mem_hom.2 ⟨_, p1, by rw [p2, u2], by rw [p3, a3], rfl⟩
def Spn.prod (x y : Int) : Spn := ⟨x, y, fun _ _ => true, false⟩
def Cat.pull (c : Cat) (f g : Int) : Spn := ⟨c.S f, c.S g, fun a b => decide (c.th a f = c.th b g), false⟩
def Cat.fork (c : Cat) (f g : Int) : Spn := ⟨c.S f, c.S f, fun a b => decide (c.th a f = c.th b g), true⟩
theorem Cat.prod_go {c : Cat} (hS : c.Shape) (x y : Int) : c.SpC (.prod x y) := ⟨fun w z p u hp hu => by
  obtain ⟨h1, _, h3⟩ := Cat.mem_spL.1 hp
  exact Cat.mem_spL.2 ⟨Cat.hom_th hS hu h1, rfl, Cat.hom_th hS hu h3⟩⟩
structure Cat.SpE (c : Cat) (s : Spn) : Prop where
  ex : ∃ z : Nat, (z : Int) < c.obj ∧ ∃ p ∈ c.spL s z, c.SpU s z p
noncomputable def Cat.mapsL (c : Cat) (s t : List Int) : List Int := (c.hom (s.getD 0 0) (t.getD 0 0)).filter fun u => B (∀ i : Nat, 1 ≤ i → i < s.length → c.th u (t.getD i 0) = s.getD i 0)
noncomputable def Cat.okL (c : Cat) (L : List (List Int)) (t : List Int) : Bool := B (∀ s ∈ L, (c.mapsL s t).length = 1)
noncomputable def Cat.firstL (c : Cat) (L : List (List Int)) : List Int := (L.find? (c.okL L)).getD []
def objsL (c : Cat) (F : Nat → List (List Int)) : List (List Int) := (List.range c.obj.toNat).flatMap F
def Cat.sqL (c : Cat) (s : Spn) : List (List Int) := objsL c fun z => (c.spL s z).map fun p => [(z : Int), p.1, p.2]
theorem mem_objsL {c : Cat} {F : Nat → List (List Int)} {t : List Int} : t ∈ objsL c F ↔ ∃ z : Nat, (z : Int) < c.obj ∧ t ∈ F z := by
  unfold objsL
  rw [List.mem_flatMap]
  exact ⟨fun ⟨z, h1, h2⟩ => ⟨z, by have := List.mem_range.1 h1; omega, h2⟩, fun ⟨z, h1, h2⟩ => ⟨z, List.mem_range.2 (by omega), h2⟩⟩
theorem Cat.maps3 {c : Cat} {w z : Nat} {p q : Int × Int} : (c.mapsL [(w : Int), q.1, q.2] [(z : Int), p.1, p.2]).length = c.spN z p w q := by
  unfold Cat.mapsL Cat.spN
  congr 1
  refine List.filter_congr fun u _ => ?_
  by_cases h : c.spM p u = q
  · rw [decide_eq_true h]
    refine B_true fun i h1 h2 => ?_
    simp only [List.length_cons, List.length_nil] at h2
    rcases (by omega : i = 1 ∨ i = 2) with rfl | rfl
    · exact congrArg Prod.fst h
    · exact congrArg Prod.snd h
  · rw [decide_eq_false h]
    exact B_false fun q' => h (Prod.ext (q' 1 (by omega) (by simp)) (q' 2 (by omega) (by simp)))
def Cat.fitB (c : Cat) (s t : List Int) (u : Int) : Bool := allN (s.length - 1) fun i => decide (c.th u (t.getD (i + 1) 0) = s.getD (i + 1) 0)
theorem Cat.mapsL_eq {c : Cat} {s t : List Int} : c.mapsL s t = (c.hom (s.getD 0 0) (t.getD 0 0)).filter (c.fitB s t) := by
  unfold Cat.mapsL Cat.fitB
  refine List.filter_congr fun u _ => ?_
  rw [Bool.eq_iff_iff, B_iff, allN_iff]
  constructor
  · intro h i hi
    exact decide_eq_true (h (i + 1) (by omega) (by omega))
  · intro h i h1 h2
    obtain ⟨k, rfl⟩ : ∃ k, i = k + 1 := ⟨i - 1, by omega⟩
    exact of_decide_eq_true (h k (by omega))
theorem mem_iff_getD {L : List (List Int)} {t : List Int} : t ∈ L ↔ ∃ k, k < L.length ∧ L.getD k [] = t := by
  rw [List.mem_iff_getElem]
  exact ⟨fun ⟨k, h, e⟩ => ⟨k, h, by simp [List.getD_eq_getElem?_getD, h, e]⟩, fun ⟨k, h, e⟩ => ⟨k, h, by simpa [List.getD_eq_getElem?_getD, h] using e⟩⟩
theorem Cat.okL_eq {c : Cat} {L : List (List Int)} {t : List Int} : c.okL L t = allN L.length fun k => decide ((c.mapsL (L.getD k []) t).length = 1) := by
  rw [Bool.eq_iff_iff, allN_iff]
  unfold Cat.okL
  rw [B_iff]
  exact ⟨fun h k hk => decide_eq_true (h _ (mem_iff_getD.2 ⟨k, hk, rfl⟩)), fun h s hs => by
    obtain ⟨k, hk, rfl⟩ := mem_iff_getD.1 hs
    exact of_decide_eq_true (h k hk)⟩
theorem find_getD {p : List Int → Bool} : ∀ {L : List (List Int)} {i : Nat}, i < L.length → (∀ j, j < i → p (L.getD j []) = false) → p (L.getD i []) = true → (L.find? p).getD [] = L.getD i []
  | [], _, h, _, _ => absurd h (Nat.not_lt_zero _)
  | a :: L, 0, _, _, hp => by
    have : p a = true := hp
    rw [List.find?_cons, this]; rfl
  | a :: L, i + 1, h, hb, hp => by
    have : p a = false := hb 0 (by omega)
    rw [List.find?_cons, this]
    exact find_getD (L := L) (i := i) (by simpa using h) (fun j hj => hb (j + 1) (by omega)) hp
theorem find_getD0 {p : List Int → Bool} {L : List (List Int)} (hb : ∀ j, j < L.length → p (L.getD j []) = false) : (L.find? p).getD [] = [] := by
  rw [List.find?_eq_none.2 fun t ht => by
    obtain ⟨k, hk, rfl⟩ := mem_iff_getD.1 ht
    rw [hb k hk]; exact Bool.false_ne_true]
  rfl
end Go.GL
