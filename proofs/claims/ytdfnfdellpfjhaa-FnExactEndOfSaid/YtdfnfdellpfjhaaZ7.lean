/- What a caller hands in, brought into a ghost heap; the last step of a row that says 'true, and the arguments read as they did'. No condition. -/
import Derived.Test.YtdfnfdellpfjhaaZ6
import Derived.Below
import Derived.ChangeSame
import Derived.ChangeSlices
import Derived.Deep.Slices
import Derived.Deep.Matrix
import Derived.WideKeyArgs
namespace Go.GL
open Go.RowKit Go.WideShapes Go.ChangeShapes Go.Deep

def GHeap.gap (H : GHeap) : GHeap := ⟨H.objs ++ [none]⟩
@[simp] theorem GHeap.next_gap (H : GHeap) : H.gap.next = H.next + 1 := by simp [GHeap.next, GHeap.gap]
theorem GHeap.get_gap (H : GHeap) (g : Nat) : H.gap.get g = H.get g := by
  unfold GHeap.get GHeap.gap
  simp only
  rcases Nat.lt_or_ge g H.objs.length with hl | hl
  · rw [List.getElem?_append_left hl]
  · rw [List.getElem?_append_right hl, List.getElem?_eq_none hl]
    rcases Nat.eq_zero_or_pos (g - H.objs.length) with e | e
    · rw [e]; rfl
    · rw [List.getElem?_eq_none (by simp; omega)]
theorem GHeap.le_gap (H : GHeap) : H.Le H.gap := ⟨by simp, fun g o h => by rw [GHeap.get_gap]; exact h⟩

section
variable {P : Program} {B : Nat} {w0 : World} {ρ : Place} {H : GHeap} {w : World}

theorem Sim.start (P : Program) (W : World) : Sim P W.heap.size W (fun _ => none) ⟨[]⟩ W :=
  ⟨fun _ _ => rfl, fun g o h => by simp [GHeap.get] at h, fun g g' o o' s s' h => by simp [GHeap.get] at h, Nat.le_refl _, .refl _ _⟩

theorem Sim.gap (hs : Sim P B w0 ρ H w) (s : Spot) : Sim P B w0 (place ρ H.next s) H.gap w ∧ Ext ρ (place ρ H.next s) := by
  have hext : Ext ρ (place ρ H.next s) := place_ext (hs.dom _ (Nat.le_refl _))
  refine ⟨⟨fun g hg => ?_, fun g o hg => ?_, fun g g' o o' t t' h1 h2 h3 h4 h5 h6 h7 => ?_, hs.base, hs.below⟩, hext⟩
  · simp at hg
    unfold place
    rw [if_neg (by omega)]
    exact hs.dom g (by omega)
  · rw [GHeap.get_gap] at hg
    exact (hs.live g o hg).keep hext fun _ _ => rfl
  · rw [GHeap.get_gap] at h1 h2
    have e1 := GHeap.ltg h1
    have e2 := GHeap.ltg h2
    unfold place at h6 h7
    rw [if_neg (by omega)] at h6 h7
    exact hs.apart g g' o o' t t' h1 h2 h3 h4 h5 h6 h7

theorem Sim.look (hs : Sim P B w0 ρ H w) {b : Nat} {C : Array Value} {e : TypeId} {fz : Nat × Nat} (hb : b < B) (hw : w.heap[b]? = some (.cells C e fz)) {off k : Nat} {vs : List Value} (hl : off + vs.length ≤ C.size)
    (hv : ∀ (i : Nat) (v : Value), vs[i]? = some v → ∃ c, C[off + i]? = some c ∧ VRel ρ v c) :
    Sim P B w0 (place ρ H.next ⟨b, off, C.size, k⟩) (H.push (.row vs e false)) w ∧ Ext ρ (place ρ H.next ⟨b, off, C.size, k⟩) := by
  have hext : Ext ρ (place ρ H.next ⟨b, off, C.size, k⟩) := place_ext (hs.dom _ (Nat.le_refl _))
  refine ⟨⟨fun g hg => ?_, fun g o hg => ?_, fun g g' o o' t t' h1 h2 h3 h4 h5 h6 h7 => ?_, hs.base, hs.below⟩, hext⟩
  · simp at hg
    unfold place
    rw [if_neg (by omega)]
    exact hs.dom g (by omega)
  · rcases Nat.lt_or_ge g H.next with hlt | hge
    · rw [GHeap.get_push_lt hlt] at hg
      exact (hs.live g o hg).keep hext fun _ _ => rfl
    · have hg' : g = H.next := by have := GHeap.ltg hg; simp at this; omega
      subst hg'
      rw [GHeap.get_push_new] at hg
      cases hg
      exact ⟨_, C, fz, place_self, hw, rfl, hl, fun i v h => let ⟨c, h1, h2⟩ := hv i v h; ⟨c, h1, h2.mono hext⟩, fun h => (by cases h), fun _ => hb, fun h => (by cases h)⟩
  · have old : ∀ {k' : Nat} {x : GObj}, (H.push (.row vs e false)).get k' = some x → x.isOwn = true → k' < H.next ∧ H.get k' = some x := by
      intro k' x hx ho
      have hk := GHeap.ltg hx
      simp at hk
      rcases Nat.lt_or_ge k' H.next with hlt | hge
      · rw [GHeap.get_push_lt hlt] at hx; exact ⟨hlt, hx⟩
      · obtain rfl : k' = H.next := by omega
        rw [GHeap.get_push_new] at hx
        cases hx
        cases ho
    obtain ⟨a1, a2⟩ := old h1 h3
    obtain ⟨b1, b2⟩ := old h2 h4
    unfold place at h6 h7
    rw [if_neg (by omega)] at h6 h7
    exact hs.apart g g' o o' t t' a2 b2 h3 h4 h5 h6 h7

theorem Sim.list (hs : Sim P B w0 ρ H w) (hB : w.heap.size ≤ B) {a : Addr} {len cap : Nat} {V : Nat → Value} (hl : len ≤ cap) (hm : cap ≤ maxLen) (hcell : ∀ i, i < cap → w.cell? (a.add i) = some (V i)) {f : Nat → Value}
    (hf : ∀ i, i < len → VRel ρ (f i) (V i)) :
    ∃ a' ρ' H', Sim P B w0 ρ' H' w ∧ Ext ρ ρ' ∧ H.Le H' ∧ VRel ρ' (.slice a' len len) (.slice (some a) len cap) ∧ SlA H' a' len f := by
  rcases Nat.eq_zero_or_pos cap with e | hp
  · subst e
    obtain rfl : len = 0 := by omega
    obtain ⟨h1, h2⟩ := hs.gap ⟨0, 0, 0, 0⟩
    exact ⟨some ⟨H.next, 0, none⟩, _, _, h1, h2, H.le_gap, .empty place_self, .inl rfl⟩
  · have h0 := hcell 0 hp
    have hsp := World.cell?_spot h0
    obtain ⟨b, off, sp⟩ := a
    have hadd : ∀ i, (Addr.mk b off none).add i = ⟨b, off + i, none⟩ := fun i => by
      unfold Addr.add
      split
      · rename_i h; subst h; rfl
      · rfl
    obtain rfl : sp = none := by simpa [Addr.add] using hsp
    rw [hadd] at h0
    have hblk : ∃ C e fz, w.heap[b]? = some (.cells C e fz) := by
      unfold World.cell? at h0
      split at h0
      · exact ⟨_, _, _, by assumption⟩
      · cases h0
    obtain ⟨C, e, fz, hC⟩ := hblk
    have hc : ∀ i, i < cap → C[off + i]? = some (V i) := fun i hi => by
      have := hcell i hi
      rw [hadd] at this
      simpa [World.cell?, hC] using this
    have hsz : off + cap ≤ C.size := by
      have := (Array.getElem?_eq_some_iff.1 (hc (cap - 1) (by omega))).1
      omega
    have hbl : b < B := by
      have : b < w.heap.size := (Array.getElem?_eq_some_iff.1 hC).1
      omega
    obtain ⟨h1, h2⟩ := hs.look hbl hC (off := off) (k := 1) (vs := (List.range len).map f) (by simp; omega) (fun i v hv => by
      simp only [List.getElem?_map, Option.map_eq_some_iff] at hv
      obtain ⟨j, hj, rfl⟩ := hv
      have hj' := List.getElem?_eq_some_iff.1 hj
      simp at hj'
      obtain ⟨hi, rfl⟩ := hj'
      exact ⟨_, hc i (by omega), hf i hi⟩)
    refine ⟨some ⟨H.next, 0, none⟩, _, _, h1, h2, GHeap.le_push _ _, ?_, .inr ⟨H.next, 0, rfl, fun i hi => ?_⟩⟩
    · have := VRel.slice (ρ := place ρ H.next ⟨b, off, C.size, 1⟩) (g := H.next) (o := 0) (n := len) (cap := cap) place_self hl (by simp only; omega) hm
      simpa using this
    · rw [GHeap.cell_of (GHeap.get_push_new _ _)]
      simp [hi]
end

def i64T (P : Program) (t : TypeId) : Bool := match P.underlying t with | some (.int .i64) => true | _ => false
def intsT (P : Program) (t : TypeId) : Bool := match P.underlying t with | some (.slice e) => i64T P e && (P.cellsOf e == 1) | _ => false
def intssT (P : Program) (t : TypeId) : Bool := match P.underlying t with | some (.slice e) => intsT P e && (P.cellsOf e == 1) | _ => false
theorem i64T_run {P : Program} {t : TypeId} (h : i64T P t = true) : P.underlying t = some (.int .i64) := by
  unfold i64T at h
  split at h
  · assumption
  · cases h
theorem intsT_run {P : Program} {t : TypeId} (h : intsT P t = true) : ∃ e, P.underlying t = some (.slice e) ∧ P.underlying e = some (.int .i64) ∧ P.cellsOf e = 1 := by
  unfold intsT at h
  split at h
  · simp only [Bool.and_eq_true, beq_iff_eq] at h
    exact ⟨_, by assumption, i64T_run h.1, h.2⟩
  · cases h
theorem intssT_run {P : Program} {t : TypeId} (h : intssT P t = true) : ∃ e, P.underlying t = some (.slice e) ∧ intsT P e = true ∧ P.cellsOf e = 1 := by
  unfold intssT at h
  split at h
  · simp only [Bool.and_eq_true, beq_iff_eq] at h
    exact ⟨_, by assumption, h.1, h.2⟩
  · cases h

def Imports (P : Program) (t : TypeId) (R : Place → GHeap → List Value → Prop) : Prop :=
  ∀ {T : Type} {enc : TypeId × Value → T} {B : Nat} {w0 : World} {ρ : Place} {H : GHeap} {w : World} {held : Bool} {fuel : Nat} {cs : List Value} {x : DataW T × List MemPlace}, Sim P B w0 ρ H w → w.heap.size ≤ B →
    DataW.trod enc P w 0 (fun _ => true) held fuel t cs = some x → ∃ ρ' H', Sim P B w0 ρ' H' w ∧ Ext ρ ρ' ∧ H.Le H' ∧ R ρ' H' cs

def I64 (n : Int) : Prop := -9223372036854775808 ≤ n ∧ n ≤ 9223372036854775807
theorem I64.of_wf {n : Int} (h : (Lit.int .i64 n).wf = true) : I64 n := by
  simp [Lit.wf, IntKind.min, IntKind.max, IntKind.signed, IntKind.bits] at h
  exact ⟨by omega, by omega⟩
def I64s (xs : List Int) : Prop := xs.length ≤ 9223372036854775807 ∧ ∀ i, I64 (xs.getD i 0)

def RInt (_ : Place) (_ : GHeap) (cs : List Value) : Prop := ∃ n, cs = [.int .i64 n] ∧ I64 n
def RInts (ρ : Place) (H : GHeap) (cs : List Value) : Prop := ∃ a xs c, cs = [c] ∧ VRel ρ (.slice a xs.length xs.length) c ∧ Ints H a xs ∧ I64s xs
def RIntss (ρ : Place) (H : GHeap) (cs : List Value) : Prop := ∃ a xss r c, cs = [c] ∧ VRel ρ (.slice a xss.length xss.length) c ∧ Intss H a xss r ∧ xss.length ≤ 9223372036854775807 ∧ ∀ i, I64s (xss.getD i [])

theorem import_int {P : Program} {t : TypeId} (ht : i64T P t = true) : Imports P t RInt := by
  intro T enc B w0 ρ H w held fuel cs x hs hB h
  obtain ⟨n, h1, _, h3⟩ := DataW.trod_int (i64T_run ht) h
  exact ⟨ρ, H, hs, .refl ρ, .refl H, n, h1, .of_wf h3⟩

theorem take_getD (zs : List Int) {n i : Nat} (hi : i < n) : (zs.take n).getD i 0 = zs.getD i 0 := by
  simp [List.getD_eq_getElem?_getD, List.getElem?_take, hi]
theorem I64s.take {zs : List Int} (h : ∀ n ∈ zs, (Lit.int .i64 n).wf = true) {len : Nat} (hl : (zs.take len).length ≤ 9223372036854775807) : I64s (zs.take len) := by
  refine ⟨hl, fun i => ?_⟩
  rw [List.getD_eq_getElem?_getD]
  cases e : (zs.take len)[i]? with
  | none => simp [I64]
  | some n => exact .of_wf (h n (List.mem_of_mem_take (List.mem_of_getElem? e)))

theorem import_ints {P : Program} {t : TypeId} (ht : intsT P t = true) : Imports P t RInts := by
  intro T enc B w0 ρ H w held fuel cs x hs hB h
  obtain ⟨e, h1, h2, h3⟩ := intsT_run ht
  rcases open_ints h1 h2 h3 h with ⟨rfl, _⟩ | ⟨a, len, cap, zs, rfl, _, hl, hm, hz, _, hc, hw⟩
  · exact ⟨ρ, H, hs, .refl ρ, .refl H, none, [], _, rfl, .nilSlice, .inl rfl, by simp, fun i => by simp [I64]⟩
  · simp only [if_true] at hz
    have hlen : (zs.take len).length = len := by simp; omega
    obtain ⟨a', ρ', H', k1, k2, k3, k4, k5⟩ := hs.list hB (f := fun i => .int .i64 ((zs.take len).getD i 0)) hl hm (fun i hi => hc i (by omega)) (fun i hi => by rw [take_getD zs hi]; exact .int _ _)
    refine ⟨ρ', H', k1, k2, k3, a', zs.take len, _, rfl, by rw [hlen]; exact k4, ?_, .take hw (by rw [hlen]; unfold maxLen at hm; omega)⟩
    unfold Ints
    rw [hlen]
    exact k5

theorem import_intss {P : Program} {t : TypeId} (ht : intssT P t = true) : Imports P t RIntss := by
  intro T enc B w0 ρ H w held fuel cs x hs hB h
  obtain ⟨e, h1, h2, h3⟩ := intssT_run ht
  obtain ⟨q, g1, g2, g3⟩ := intsT_run h2
  rcases open_int_rows h1 g1 g2 h3 g3 h with ⟨rfl, _⟩ | ⟨a, len, cap, A, L, C, Z, rfl, _, hl, hm, _, hr⟩
  · exact ⟨ρ, H, hs, .refl ρ, .refl H, none, [], fun _ => none, _, rfl, .nilSlice, ⟨.inl rfl, fun i hi => by simp at hi⟩, by simp, fun i => by simp [I64s, I64]⟩
  · have hlen : ∀ r, r < cap → ((Z r).take (L r)).length = L r := fun r hi => by
      obtain ⟨_, k2, _, k4, _⟩ := hr r hi
      simp; omega
    have rows : ∀ k, k ≤ len → ∃ ρ' H', Sim P B w0 ρ' H' w ∧ Ext ρ ρ' ∧ H.Le H' ∧ ∃ rr : Nat → Option Addr, ∀ r, r < k → VRel ρ' (.slice (rr r) (L r) (L r)) (.slice (A r) (L r) (C r)) ∧ Ints H' (rr r) ((Z r).take (L r)) := by
      intro k
      induction k with
      | zero => exact fun _ => ⟨ρ, H, hs, .refl ρ, .refl H, fun _ => none, fun r hr => by omega⟩
      | succ k ih =>
        intro hk
        obtain ⟨ρ1, H1, s1, e1, l1, rr, hrr⟩ := ih (by omega)
        obtain ⟨c1, c2, c3, c4, c5, c6, c7⟩ := hr k (by omega)
        have one : ∃ a' ρ2 H2, Sim P B w0 ρ2 H2 w ∧ Ext ρ1 ρ2 ∧ H1.Le H2 ∧ VRel ρ2 (.slice a' (L k) (L k)) (.slice (A k) (L k) (C k)) ∧ Ints H2 a' ((Z k).take (L k)) := by
          cases hA : A k with
          | none =>
            have e0 := c6 hA
            have e2 : L k = 0 := by omega
            rw [e0, e2]
            exact ⟨none, ρ1, H1, s1, .refl _, .refl _, .nilSlice, .inl (by simp)⟩
          | some a' =>
            obtain ⟨_, hc⟩ := c7 a' hA
            obtain ⟨a2, ρ2, H2, k1, k2, k3, k4, k5⟩ := s1.list hB (f := fun i => .int .i64 (((Z k).take (L k)).getD i 0)) c2 c3 hc (fun i hi => by rw [take_getD (Z k) hi]; exact .int _ _)
            refine ⟨a2, ρ2, H2, k1, k2, k3, k4, ?_⟩
            unfold Ints
            rw [hlen k (by omega)]
            exact k5
        obtain ⟨a', ρ2, H2, s2, e2, l2, v2, i2⟩ := one
        refine ⟨ρ2, H2, s2, e1.trans e2, l1.trans l2, fun r => if r = k then a' else rr r, fun r hr' => ?_⟩
        by_cases ek : r = k
        · subst ek; simp only [if_true]; exact ⟨v2, i2⟩
        · simp only [ek, if_false]
          obtain ⟨v1, i1⟩ := hrr r (by omega)
          exact ⟨v1.mono e2, i1.mono l2⟩
    obtain ⟨ρ1, H1, s1, e1, l1, rr, hrr⟩ := rows len (Nat.le_refl _)
    obtain ⟨a', ρ2, H2, k1, k2, k3, k4, k5⟩ := s1.list hB (f := fun r => .slice (rr r) (L r) (L r)) hl hm (fun r hi => (hr r hi).1) (fun r hi => (hrr r hi).1)
    have hx : ((List.range len).map fun r => (Z r).take (L r)).length = len := by simp
    have hg : ∀ r, r < len → ((List.range len).map fun r => (Z r).take (L r)).getD r [] = (Z r).take (L r) := fun r hi => by simp [List.getD_eq_getElem?_getD, hi]
    refine ⟨ρ2, H2, k1, e1.trans k2, l1.trans k3, a', (List.range len).map fun r => (Z r).take (L r), rr, _, rfl, by rw [hx]; exact k4, ⟨?_, fun r hi => ?_⟩, by rw [hx]; unfold maxLen at hm; omega, fun r => ?_⟩
    · rw [hx]
      refine k5.imp id fun ⟨g, off, hga, hc⟩ => ⟨g, off, hga, fun i hi => ?_⟩
      show _ = some (Value.slice (rr i) (((List.range len).map fun r => (Z r).take (L r)).getD i []).length (((List.range len).map fun r => (Z r).take (L r)).getD i []).length)
      rw [hg i hi, hlen i (by omega)]
      exact hc i hi
    · rw [hx] at hi
      rw [hg r hi]
      exact (hrr r hi).2.mono k3
    · by_cases hi : r < len
      · rw [hg r hi]
        obtain ⟨_, c2, c3, c4, c5, _⟩ := hr r (by omega)
        exact .take c5 (by rw [hlen r (by omega)]; unfold maxLen at c3; omega)
      · rw [List.getD_eq_getElem?_getD, List.getElem?_eq_none (by rw [hx]; omega)]
        simp [I64s, I64]

def fieldIs (P : Program) (fs : Array Field) (i off n : Nat) (chk : Program → TypeId → Bool) : Bool :=
  match fs[i]? with
  | some f => (f.offset == off) && (P.cellsOf f.type == n) && chk P f.type
  | none => false
def structIs (P : Program) (t : TypeId) (n m : Nat) (chk : Array Field → Bool) : Bool :=
  match P.underlying t with
  | some (.struct fs) => (P.cellsOf t == n) && (fs.size == m) && chk fs
  | _ => false
theorem structIs_run {P : Program} {t : TypeId} {n m : Nat} {chk : Array Field → Bool} (h : structIs P t n m chk = true) : ∃ fs, P.underlying t = some (.struct fs) ∧ P.cellsOf t = n ∧ fs.size = m ∧ chk fs = true := by
  unfold structIs at h
  split at h
  · simp only [Bool.and_eq_true, beq_iff_eq] at h
    exact ⟨_, by assumption, h.1.1, h.1.2, h.2⟩
  · cases h

section
variable {P : Program} {T : Type} {enc : TypeId × Value → T} {B : Nat} {w0 : World} {ρ : Place} {H : GHeap} {w : World} {held : Bool} {n : Nat} {cs : List Value} {fs : Array Field} {xs : List (DataW T × List MemPlace)}
theorem import_field {i off k : Nat} {chk : Program → TypeId → Bool} {R : Place → GHeap → List Value → Prop} (hI : ∀ t, chk P t = true → Imports P t R) (hfd : fieldIs P fs i off k chk = true) (hx : xs.length = fs.size)
    (hf : ∀ (i : Nat) (f : Field), fs[i]? = some f → DataW.trod enc P w 0 (fun _ => true) held n f.type ((cs.drop f.offset).take (P.cellsOf f.type)) = xs[i]?) (hs : Sim P B w0 ρ H w) (hB : w.heap.size ≤ B) :
    ∃ ρ' H', Sim P B w0 ρ' H' w ∧ Ext ρ ρ' ∧ H.Le H' ∧ R ρ' H' ((cs.drop off).take k) := by
  unfold fieldIs at hfd
  split at hfd
  · rename_i f hfi
    simp only [Bool.and_eq_true, beq_iff_eq] at hfd
    obtain ⟨⟨h1, h2⟩, h3⟩ := hfd
    have hi : i < xs.length := by rw [hx]; exact (Array.getElem?_eq_some_iff.1 hfi).1
    have := hf i f hfi
    rw [List.getElem?_eq_getElem hi, h1, h2] at this
    exact hI _ h3 hs hB this
  · cases hfd
end

def Cat.Wide (c : Cat) : Prop := I64 c.obj ∧ I64s c.src ∧ I64s c.tgt ∧ I64s c.idn ∧ c.comp.length ≤ 9223372036854775807 ∧ ∀ i, I64s (c.comp.getD i [])
def Fun.Wide (f : Fun) : Prop := f.s.Wide ∧ f.t.Wide ∧ I64s f.ob ∧ I64s f.ar
def Tra.Wide (m : Tra) : Prop := m.s.Wide ∧ m.t.Wide ∧ I64s m.co

def catT (P : Program) (t : TypeId) : Bool := structIs P t 5 5 fun fs => fieldIs P fs 0 0 1 i64T && fieldIs P fs 1 1 1 intsT && fieldIs P fs 2 2 1 intsT && fieldIs P fs 3 3 1 intsT && fieldIs P fs 4 4 1 intssT
def RCat (ρ : Place) (H : GHeap) (cs : List Value) : Prop := ∃ (c : Cat) (p : CatP), LRel ρ (c.cells p) cs ∧ c.In H p ∧ c.Wide
theorem split5 {cs : List Value} {a b c d e : Value} (h0 : (cs.drop 0).take 1 = [a]) (h1 : (cs.drop 1).take 1 = [b]) (h2 : (cs.drop 2).take 1 = [c]) (h3 : (cs.drop 3).take 1 = [d]) (h4 : (cs.drop 4).take 1 = [e]) (hl : cs.length = 5) : cs = [a, b, c, d, e] := by
  match cs, hl with
  | [v0, v1, v2, v3, v4], _ => simp at h0 h1 h2 h3 h4; subst h0; subst h1; subst h2; subst h3; subst h4; rfl

theorem import_cat {P : Program} {t : TypeId} (ht : catT P t = true) : Imports P t RCat := by
  intro T enc B w0 ρ H w held fuel cs x hs hB h
  obtain ⟨fs, g1, g2, g3, g4⟩ := structIs_run ht
  simp only [Bool.and_eq_true] at g4
  obtain ⟨⟨⟨⟨q0, q1⟩, q2⟩, q3⟩, q4⟩ := g4
  obtain ⟨xs, n, _, _, hl, hx, hf⟩ := DataW.trod_struct g1 h
  obtain ⟨ρ0, H0, s0, e0, l0, nobj, r0, w0'⟩ := import_field (fun _ h => import_int h) q0 hx hf hs hB
  obtain ⟨ρ1, H1, s1, e1, l1, a1, x1, c1, r1, v1, i1, w1⟩ := import_field (fun _ h => import_ints h) q1 hx hf s0 hB
  obtain ⟨ρ2, H2, s2, e2, l2, a2, x2, c2, r2, v2, i2, w2⟩ := import_field (fun _ h => import_ints h) q2 hx hf s1 hB
  obtain ⟨ρ3, H3, s3, e3, l3, a3, x3, c3, r3, v3, i3, w3⟩ := import_field (fun _ h => import_ints h) q3 hx hf s2 hB
  obtain ⟨ρ4, H4, s4, e4, l4, a4, x4, rr, c4, r4, v4, i4, w4, w5⟩ := import_field (fun _ h => import_intss h) q4 hx hf s3 hB
  refine ⟨ρ4, H4, s4, e0.trans (e1.trans (e2.trans (e3.trans e4))), l0.trans (l1.trans (l2.trans (l3.trans l4))), ⟨nobj, x1, x2, x3, x4⟩, ⟨a1, a2, a3, a4, rr⟩, ?_, ⟨i1.mono (l2.trans (l3.trans l4)), i2.mono (l3.trans l4), i3.mono l4, i4⟩, ⟨w0', w1, w2, w3, w4, w5⟩⟩
  rw [split5 r0 r1 r2 r3 r4 (by rw [hl, g2])]
  exact .cons (.int _ _) (.cons (v1.mono (e2.trans (e3.trans e4))) (.cons (v2.mono (e3.trans e4)) (.cons (v3.mono e4) (.cons v4 (.nil _)))))

def readB (P : Program) (ts : List TypeId) : Bool := ts.all fun t => P.readableRec t && decide (t < P.types.size)

section
variable {T : Type} {enc : TypeId × Value → T} {P : Program}
theorem args_again (hl : laidOutB P = true) {W W' : World} (hb : Below W.heap.size W W') {sp : Nat → Bool} : ∀ {ts : List TypeId} {vs : List Value} {ds : List (DataW T)} {ps : List MemPlace}, readB P ts = true →
    DataW.TrodAll enc P W 0 (fun _ => true) true ts vs ds ps → (∀ p ∈ ps, p.block < W.heap.size) → (∀ p ∈ ps, sp p.block = true) → DataW.TrodAll enc P W' 0 sp true ts vs ds ps
  | [], _, _, _, _, h, _, _ => by
    obtain ⟨rfl, rfl, rfl⟩ := trodAll_nil h
    exact trodAll_mk0
  | t :: ts, _, _, _, hr, h, hlt, hsp => by
    obtain ⟨v, vs, d, ds, p, q, rfl, rfl, rfl, h1, h2⟩ := trodAll_cons h
    simp only [readB, List.all_cons, Bool.and_eq_true, decide_eq_true_eq] at hr
    exact ⟨p, q, WideElems.Trod_stays hl hr.1.1 hr.1.2 h1 (fun x hx => hb.same (hlt x (by simp [hx]))) (fun x hx => hsp x (by simp [hx])),
      args_again hl hb (by simpa only [readB, Bool.and_eq_true] using hr.2) h2 (fun x hx => hlt x (by simp [hx])) (fun x hx => hsp x (by simp [hx])), rfl⟩

theorem law_post {f : Func} {s : ChangeSpec} {apart fresh handsOn again : Bool} {W W' : World} {args : Array Value} {ds gs : List (DataW T)} {before : List MemPlace} {tb : TypeId}
    (hl : laidOutB P = true) (hr : readB P f.params.toList = true) (hv : s.vars = []) (hrt : f.resultTypes = #[tb]) (htb : P.underlying tb = some .bool)
    (hW : DataW.Whole enc P f.params.toList s.vars apart W args.toList ds gs before)
    (hsr : (s.fn T ds).results = [.lit (.bool true)]) (hsa : (s.fn T ds).args = ds) (hsv : (s.fn T ds).vars = []) (hb : Below W.heap.size W W') :
    s.post enc P f apart fresh handsOn again W args (.bool true) W' := by
  have hlt := hW.lt
  have hWW := hW
  obtain ⟨p, q, hA, hV, hpq, hfz, hnd⟩ := hW
  rw [hv] at hV
  obtain ⟨rfl, rfl⟩ := trodVars_none hV
  rw [List.append_nil] at hpq
  obtain rfl := hpq.symm
  have hres : ∀ (b : Nat) (sp : Nat → Bool) (hd : Bool), DataW.TrodAll enc P W' b sp hd f.resultTypes.toList ((Value.bool true).resultList f.resultTypes.size) (s.fn T (ds ++ [])).results [] := fun b sp hd => by
    rw [List.append_nil, hsr, hrt]
    exact trodAll_mk1 (shut_bool htb true)
  have hargs : ∀ sp : Nat → Bool, (∀ x ∈ p, sp x.block = true) → DataW.TrodAll enc P W' 0 sp true f.params.toList args.toList (s.fn T (ds ++ [])).args p := fun sp hsp => by
    rw [List.append_nil, hsa]
    exact args_again hl hb hr hA hlt hsp
  have hvars : ∀ sp : Nat → Bool, DataW.TrodVars enc P W' sp s.vars (s.fn T (ds ++ [])).vars [] := fun sp => by
    rw [List.append_nil, hsv, hv]
    rfl
  have hok : ∀ (j : Nat) (t : TypeId) (r : Value), f.resultTypes[j]? = some t → ((Value.bool true).resultList f.resultTypes.size)[j]? = some r → Value.okWide P W' .any 0 t r := ok_one hrt rfl (okWide_bool_mk htb true)
  refine ⟨ds, [], p, [], p, [], hWW, hres _ _ _, hargs _ fun x hx => by simpa using hlt x hx, hvars _, hb.frame _, fun _ => ⟨hok, _, _, ([] ++ p) ++ [], ⟨[] ++ p, [], trodAll_append (hargs (fun _ => true) fun _ _ => rfl) (hres _ _ _), hvars (fun _ => true), rfl, ?_, ?_⟩, ?_⟩⟩
  · intro b off hp
    have hin : MemPlace.cell b off ∈ p := by simpa using hp
    rw [hb.frozen (hlt _ hin)]
    exact hfz b off hin
  · intro ha
    simpa using hnd ha
  · intro x hx _
    simpa using hx
end

def SzR (left : Int) (p : Prop) (H : GHeap) : Value → GHeap → Prop := fun v H' => H' = H ∧ ∃ l, v = .int .i64 l ∧ -1 ≤ l ∧ l ≤ left ∧ (0 ≤ l → p)
theorem SzR.of {P : Program} {f : FuncId} {args : List Value} {H : GHeap} {left : Int} {p : Prop} (h : GCalls P f args H fun v H' => H.Le H' ∧ ∃ l, v = .int .i64 l ∧ -1 ≤ l ∧ l ≤ left ∧ (0 ≤ l → p)) : GCalls P f args H (SzR left p H) :=
  (GCalls.quiet (φ := fun v => ∃ l, v = .int .i64 l ∧ -1 ≤ l ∧ l ≤ left ∧ (0 ≤ l → p)) (h.mono fun _ _ ⟨h1, l, h2, h3⟩ => ⟨⟨l, h2, h3⟩, by rw [h2]; rfl, h1⟩)).mono fun _ _ ⟨h1, h2⟩ => ⟨h2, h1⟩

theorem eq_of_getD {xs ys : List Int} (hl : ys.length = xs.length) (h : ∀ i, i < xs.length → ys.getD i 0 = xs.getD i 0) : ys = xs := by
  apply List.ext_getElem hl
  intro i h1 h2
  have := h i h2
  simpa [List.getD_eq_getElem?_getD, h1, h2] using this
theorem ints_set (ys : List Int) (i : Nat) (v : Int) : (ints ys).set i (.int .i64 v) = ints (ys.set i v) := by simp [ints, List.map_set]
theorem getD_set {ys : List Int} {k i : Nat} {v : Int} (hk : k < ys.length) : (ys.set k v).getD i 0 = if i = k then v else ys.getD i 0 := by
  simp only [List.getD_eq_getElem?_getD, List.getElem?_set]
  by_cases e : k = i
  · subst e; simp [hk]
  · simp [e, Ne.symm e]
theorem SlA.of_ints {H : GHeap} {g : Nat} {ys : List Int} {e : TypeId} {own : Bool} {n : Nat} (h : H.get g = some (.row (ints ys) e own)) (hn : ys.length = n) : SlA H (some ⟨g, 0, none⟩) n (fun i => .int .i64 (ys.getD i 0)) := by
  subst hn; exact Ints.of_get h

theorem SlA.of_row {H : GHeap} {g n : Nat} {cs : List Value} {e : TypeId} {own : Bool} (h : H.get g = some (.row cs e own)) (hn : cs.length = n) : SlA H (some ⟨g, 0, none⟩) n (fun i => cs.getD i (.bool false)) := by
  subst hn
  exact .inr ⟨g, 0, rfl, fun i hi => by rw [GHeap.cell_of h, Nat.zero_add]; simp [List.getD_eq_getElem?_getD, hi]⟩

def Keep (b : Nat) (H H' : GHeap) : Prop := ∀ g o, b ≤ g → H.get g = some o → H'.get g = some o
theorem Keep.of_le {b : Nat} {H H' : GHeap} (h : H.Le H') : Keep b H H' := fun g o _ => h.2 g o
theorem Keep.set {b g : Nat} {H : GHeap} {o : Option GObj} (h : g < b) : Keep b H (H.set g o) := fun k x hk hx => by
  rw [GHeap.get_set_ne (by omega)]; exact hx
def IntsAt (b : Nat) (H : GHeap) (a : Option Addr) (xs : List Int) : Prop := ∃ g e, a = some ⟨g, 0, none⟩ ∧ b ≤ g ∧ H.get g = some (.row (ints xs) e true)
def IntssAt (b : Nat) (H : GHeap) (a : Option Addr) (xss : List (List Int)) (r : Nat → Option Addr) : Prop :=
  ∃ g e cs, a = some ⟨g, 0, none⟩ ∧ b ≤ g ∧ H.get g = some (.row cs e true) ∧ cs.length = xss.length ∧ (∀ i, i < xss.length → cs[i]? = some (.slice (r i) (xss.getD i []).length (xss.getD i []).length)) ∧ ∀ i, i < xss.length → IntsAt b H (r i) (xss.getD i [])
theorem IntsAt.keep {b b' : Nat} {H H' : GHeap} {a : Option Addr} {xs : List Int} (h : IntsAt b H a xs) (hk : Keep b' H H') (hb : b' ≤ b) : IntsAt b' H' a xs :=
  let ⟨g, e, h1, h2, h3⟩ := h; ⟨g, e, h1, by omega, hk g _ (by omega) h3⟩
theorem IntssAt.keep {b b' : Nat} {H H' : GHeap} {a : Option Addr} {xss : List (List Int)} {r : Nat → Option Addr} (h : IntssAt b H a xss r) (hk : Keep b' H H') (hb : b' ≤ b) : IntssAt b' H' a xss r :=
  let ⟨g, e, cs, h1, h2, h3, h4, h5, h6⟩ := h; ⟨g, e, cs, h1, by omega, hk g _ (by omega) h3, h4, h5, fun i hi => (h6 i hi).keep hk hb⟩
theorem IntsAt.ints {b : Nat} {H : GHeap} {a : Option Addr} {xs : List Int} (h : IntsAt b H a xs) : Ints H a xs := by
  obtain ⟨g, e, rfl, _, h3⟩ := h
  exact Ints.of_get h3
theorem IntssAt.intss {b : Nat} {H : GHeap} {a : Option Addr} {xss : List (List Int)} {r : Nat → Option Addr} (h : IntssAt b H a xss r) : Intss H a xss r := by
  obtain ⟨g, e, cs, rfl, _, h3, h4, h5, h6⟩ := h
  exact ⟨.inr ⟨g, 0, rfl, fun i hi => by rw [GHeap.cell_of h3, Nat.zero_add]; exact h5 i hi⟩, fun i hi => (h6 i hi).ints⟩
def NewIntss (H : GHeap) (xss : List (List Int)) (v : Value) (H' : GHeap) : Prop := H.Le H' ∧ ∃ a r, v = .slice a xss.length xss.length ∧ IntssAt H.next H' a xss r
def CatAt (b : Nat) (H : GHeap) (c : Cat) (p : CatP) : Prop := IntsAt b H p.a1 c.src ∧ IntsAt b H p.a2 c.tgt ∧ IntsAt b H p.a3 c.idn ∧ IntssAt b H p.a4 c.comp p.r
theorem CatAt.keep {b b' : Nat} {H H' : GHeap} {c : Cat} {p : CatP} (h : CatAt b H c p) (hk : Keep b' H H') (hb : b' ≤ b) : CatAt b' H' c p := ⟨h.1.keep hk hb, h.2.1.keep hk hb, h.2.2.1.keep hk hb, h.2.2.2.keep hk hb⟩
theorem CatAt.inn {b : Nat} {H : GHeap} {c : Cat} {p : CatP} (h : CatAt b H c p) : c.In H p := ⟨h.1.ints, h.2.1.ints, h.2.2.1.ints, h.2.2.2.intss⟩
def NewCat (H : GHeap) (c : Cat) (v : Value) (H' : GHeap) : Prop := H.Le H' ∧ ∃ p, v = .agg (c.cells p).toArray ∧ CatAt H.next H' c p
structure Bld (H0 : GHeap) (b g2 g3 : Nat) (t : TypeId) (z cs : List Value) (H : GHeap) : Prop where
  le : H0.Le H
  a2 : H0.next ≤ g2
  l2 : g2 < b
  a3 : H0.next ≤ g3
  l3 : g3 < b
  ne : g2 ≠ g3
  res : H.get g2 = some (.row z t true)
  own : H.get g3 = some (.row cs t true)
  bn : b ≤ H.next
theorem Bld.start (H0 : GHeap) (t : TypeId) (z : List Value) : Bld H0 ((H0.push (.row z t true)).next + 1) H0.next (H0.push (.row z t true)).next t z z ((H0.push (.row z t true)).push (.row z t true)) where
  le := (GHeap.le_push _ _).trans (GHeap.le_push _ _)
  a2 := Nat.le_refl _
  l2 := by simp; omega
  a3 := by simp
  l3 := by omega
  ne := by simp
  res := (GHeap.le_push _ _).2 _ _ (GHeap.get_push_new _ _)
  own := GHeap.get_push_new _ _
  bn := by simp
theorem Bld.call {H0 H H' : GHeap} {b g2 g3 : Nat} {t : TypeId} {z cs : List Value} (B : Bld H0 b g2 g3 t z cs H) (h : H.Le H') : Bld H0 b g2 g3 t z cs H' :=
  ⟨B.le.trans h, B.a2, B.l2, B.a3, B.l3, B.ne, h.2 _ _ B.res, h.2 _ _ B.own, Nat.le_trans B.bn h.1⟩
theorem Bld.store {H0 H : GHeap} {b g2 g3 : Nat} {t : TypeId} {z cs : List Value} (B : Bld H0 b g2 g3 t z cs H) (cs' : List Value) : Bld H0 b g2 g3 t z cs' (H.set g3 (some (.row cs' t true))) ∧ Keep b H (H.set g3 (some (.row cs' t true))) :=
  ⟨⟨B.le.set_new B.a3, B.a2, B.l2, B.a3, B.l3, B.ne, by rw [GHeap.get_set_ne (Ne.symm B.ne)]; exact B.res, GHeap.get_set_eq (GHeap.ltg B.own), by rw [GHeap.next_set]; exact B.bn⟩, .set B.l3⟩
theorem Bld.done {H0 H : GHeap} {b g2 g3 : Nat} {t : TypeId} {z cs : List Value} (B : Bld H0 b g2 g3 t z cs H) (o : Option GObj) : H0.Le (H.set g2 o) ∧ Keep b H (H.set g2 o) := ⟨B.le.set_new B.a2, .set B.l2⟩
theorem setAll_gen (vs : List Value) : ∀ (pre a rest : List Value), a.length = vs.length → setAll (pre ++ (a ++ rest)) pre.length vs = pre ++ (vs ++ rest) := by
  induction vs with
  | nil => intro pre a rest h; obtain rfl := List.length_eq_zero_iff.1 (by simpa using h); rfl
  | cons v vs ih =>
    intro pre a rest h
    match a, h with
    | x :: a, h =>
      have e : (pre ++ (x :: a ++ rest)).set pre.length v = (pre ++ [v]) ++ (a ++ rest) := by simp [List.set_append]
      have := ih (pre ++ [v]) a rest (by simpa using h)
      rw [List.length_append] at this
      unfold setAll
      rw [e]
      simpa using this
theorem setAll_all (a vs : List Value) (h : a.length = vs.length) : setAll a 0 vs = vs := by
  have := setAll_gen vs [] a [] h
  simpa using this

end Go.GL
namespace Go.Proofs.Ytdfnfdellpfjhaa
open Go Go.GL Go.RowKit Go.Proofs
theorem sz_25_E : (Try.prog.info? 25).map (·.size) = some 5 := by kernel_rfl
theorem fo_25_1_E : fieldOff Try.prog 25 1 = some 1 := by kernel_rfl
theorem fo_25_2_E : fieldOff Try.prog 25 2 = some 2 := by kernel_rfl
theorem fo_25_3_E : fieldOff Try.prog 25 3 = some 3 := by kernel_rfl
theorem fo_25_4_E : fieldOff Try.prog 25 4 = some 4 := by kernel_rfl
theorem sz_2_E : (Try.prog.info? 2).map (·.size) = some 1 := by kernel_rfl
theorem ze_2_E : zeroT Try.prog 2 = some ([.int .i64 0], 1) := by kernel_rfl
theorem by_2_E : (Try.prog.info? 2).map (·.bytes) = some 8 := by kernel_rfl
theorem sz_22_E : (Try.prog.info? 22).map (·.size) = some 1 := by kernel_rfl
theorem ze_22_E : zeroT Try.prog 22 = some ([.slice none 0 0], 1) := by kernel_rfl
theorem by_22_E : (Try.prog.info? 22).map (·.bytes) = some 24 := by kernel_rfl
theorem sz_23_E : (Try.prog.info? 23).map (·.size) = some 1 := by kernel_rfl
theorem ze_32_E : zeroT Try.prog 32 = some ([.int .i64 0, .slice none 0 0, .slice none 0 0, .slice none 0 0, .slice none 0 0], 5) := by kernel_rfl
theorem fo_25_0_E : fieldOff Try.prog 25 0 = some 0 := by kernel_rfl
theorem szInt64S_c {a : Option Addr} {xs : List Int} {left : Int} {H : GHeap} (hx : xs.length ≤ 9223372036854775807 := by omega) (h0 : 0 ≤ left := by omega) (h1 : left ≤ 1048576 := by omega) :
    GCalls Try.prog 49 [.slice a xs.length xs.length, .int .i64 left] H (SzR left (xs.length ≤ left) H) := by
  refine GCalls.body (N := 12) (rs := [.tmp 4]) Try.func49 rfl rfl rfl rfl (fun Qx b hend => ?_)
  refine .fg [0, 1] rfl ?_
  refine .seq (fun K1 g => .region (.mv rfl (.nil (g _ _ (.seq (fun K2 f => .region (.mv rfl (.mv rfl (.q rfl (.len sl_22_A rfl) ?_)))))))))
  refine .q rfl (.sub rfl rfl rfl (by omega) (by omega)) ?_
  refine .mv rfl (.nil (f _ _ (.seq (fun K3 j => .seq (fun K4 i => .region (.mv rfl (.q rfl (.cmp rfl rfl rfl) (.nil (i _ _ ?_)))))))))
  refine .cond rfl (fun c => ?_) (fun c => ?_)
  ·
   try simp only [sps] at c
   refine .seq (fun K5 e => .region (.mv rfl (.nil (e _ _ ?_))))
   refine .ret ?_
   refine b _ _ ?_
   refine ⟨_, rfl, ?_⟩
   exact ⟨rfl, _, rfl, by omega, by omega, fun h => by omega⟩
  try simp only [sps] at c
  refine .skip ?_
  refine j _ _ (.seq (fun K6 d => .region (.mv rfl (.mv rfl (.nil (d _ _ ?_))))))
  refine .ret ?_
  refine b _ _ ?_
  refine ⟨_, rfl, ?_⟩
  exact ⟨rfl, _, rfl, by omega, by omega, fun h => by omega⟩
theorem szInt64SS_c {a : Option Addr} {xss : List (List Int)} {r : Nat → Option Addr} {left : Int} {H : GHeap} (h : Intss H a xss r := by assumption) (hx : xss.length ≤ 9223372036854775807 := by omega) (hy : ∀ i, I64s (xss.getD i []) := by assumption) (h0 : 0 ≤ left := by omega) (h1 : left ≤ 1048576 := by omega) :
    GCalls Try.prog 20 [.slice a xss.length xss.length, .int .i64 left] H (SzR left (xss.length ≤ left ∧ ∀ i, ((xss.getD i []).length : Int) ≤ left) H) := by
  refine GCalls.body (N := 27) (rs := [.tmp 4]) Try.func20 rfl rfl rfl rfl (fun Qx b hend => ?_)
  refine .fg [0, 1] rfl ?_
  have hh := h
  obtain ⟨i1, i2⟩ := hh
  refine .seq (fun K1 s => .region (.mv rfl (.nil (s _ _ (.seq (fun K2 w => .region (.mv rfl (.mv rfl (.q rfl (.len sl_23_B rfl) ?_)))))))))
  refine .q rfl (.sub rfl rfl rfl (by omega) (by omega)) ?_
  refine .mv rfl (.nil (w _ _ (.seq (fun K3 x => .seq (fun K4 t => .region (.mv rfl (.q rfl (.cmp rfl rfl rfl) (.nil (t _ _ ?_)))))))))
  refine .cond rfl (fun f => ?_) (fun f => ?_)
  ·
   try simp only [sps] at f
   refine .seq (fun K5 y => .region (.mv rfl (.nil (y _ _ ?_))))
   refine .ret ?_
   refine b _ _ ?_
   refine ⟨_, rfl, ?_⟩
   exact ⟨rfl, _, rfl, by omega, by omega, fun h => by omega⟩
  try simp only [sps] at f
  refine .skip ?_
  refine x _ _ (.seq (fun K6 v => .seq (fun K7 a0 => .region (.mv rfl (.nil (a0 _ _ ?_))))))
  refine .block ?_
  refine .loopR (σ := Nat × Int) [(0, some _)] (fun (k, lf) => [(5, some (.int .i64 (k : Int))), (1, some (.int .i64 lf))]) (fun (k, lf) H' => H = H' ∧ k ≤ xss.length ∧ 0 ≤ lf ∧ lf ≤ left - xss.length ∧ ∀ i, i < k → ((xss.getD i []).length : Int) ≤ left) (fun (k, lf) => xss.length - k) ((0, left - xss.length)) ⟨rfl, trivial⟩ ⟨rfl, rfl, trivial⟩ ?_ ?_
  ·
   refine ⟨rfl, ?_⟩
   exact ⟨by omega, by omega, by omega, fun i hi => by omega⟩
  rintro ⟨k, lf⟩ _ ⟨rfl, hI⟩ KL1 l
  refine .forget (fr' := [(5, some (.int .i64 (k : Int))), (1, some (.int .i64 lf)), (0, some _)]) ⟨rfl, rfl, rfl, trivial⟩ ?_
  obtain ⟨hk, hl0, hl1, c⟩ := hI
  refine .seq (fun K8 z => .seq (fun K9 u => .region (.mv rfl (.mv rfl (.q rfl (.len sl_23_B rfl) (.q rfl (.cmp rfl rfl rfl) (.nil (u _ _ ?_))))))))
  refine .cond rfl (fun o => ?_) (fun o => ?_)
  ·
   try simp only [sps] at o
   refine .skip ?_
   refine z _ _ (.seq (fun K10 n => ?_))
   refine .block ?_
   refine .seq (fun K11 p => .region (.mv rfl (.mv rfl ?_)))
   refine .q rfl (.idxN sl_23_B (Intss.sl (by assumption)) rfl rfl (by omega)) ?_
   refine .q rfl (.loadR on_22_B (by assumption) rfl (by omega)) ?_
   refine .mv rfl ?_
   have hyk := (hy k).1
   refine .call rfl rfl rfl rfl @Try.call49 rfl (szInt64S_c) ?_
   rintro _ _ ⟨rfl, lf, rfl, z1, z2, z3⟩
   refine .mv rfl (.nil (p _ _ (.seq (fun K12 d => .region (.mv rfl (.q rfl (.cmp rfl rfl rfl) (.nil (d _ _ ?_))))))))
   refine .cond rfl (fun j => ?_) (fun j => ?_)
   ·
    try simp only [sps] at j
    refine .seq (fun K13 m => .region (.mv rfl (.nil (m _ _ ?_))))
    refine .ret ?_
    refine b _ _ ?_
    refine ⟨_, rfl, ?_⟩
    exact ⟨rfl, _, rfl, by omega, by omega, fun h => by omega⟩
   try simp only [sps] at j
   refine .skip ?_
   refine n _ _ (.region (.mv rfl ?_))
   refine .q rfl (.add rfl rfl rfl (by omega) (by omega)) ?_
   refine .mv rfl (.nil ?_)
   refine l ((k + 1, _)) _ _ ?_ ?_ ⟨rfl, rfl, rfl, trivial⟩
   ·
    refine ⟨rfl, ?_⟩
    refine ⟨by omega, by omega, by omega, fun i hi => ?_⟩
    by_cases e : i < k
    · exact c i e
    · obtain rfl : i = k := by omega
      omega
   show xss.length - (k + 1) < xss.length - k; omega
  try simp only [sps] at o
  refine .exit ?_
  refine v _ _ (.seq (fun K14 g => .region (.mv rfl (.mv rfl (.nil (g _ _ ?_))))))
  refine .ret ?_
  refine b _ _ ?_
  refine ⟨_, rfl, ?_⟩
  exact ⟨rfl, _, rfl, by omega, by omega, fun _ => ⟨by omega, fun i => by
    by_cases e : i < xss.length
    · exact c i (by omega)
    · rw [List.getD_eq_getElem?_getD, List.getElem?_eq_none (by omega)]; simp; omega⟩⟩
theorem szCategory_c {c : Cat} {p : CatP} {left : Int} {H : GHeap} (hin : c.In H p := by assumption) (hw : c.Wide := by assumption) (h0 : 0 ≤ left := by omega) (h1 : left ≤ 1048576 := by omega) :
    GCalls Try.prog 19 [.agg (c.cells p).toArray, .int .i64 left] H (SzR left c.Small H) := by
  refine SzR.of ?_
  obtain ⟨⟨x, a6⟩, ⟨w2, _⟩, ⟨w3, _⟩, ⟨w4, _⟩, w5, w6⟩ := hw
  refine GCalls.body (N := 30) (rs := [.tmp 4]) Try.func19 rfl rfl rfl rfl (fun Qx a hend => ?_)
  refine .fg [0, 1] rfl ?_
  refine .seq (fun K1 a5 => .region (.d rfl rfl rfl (.box rfl sz_25_E rfl CIs.mk) ?_))
  show GRun _ _ _ _ _ _ (H.push (.row (c.cells p) 25 true))
  have b := GHeap.le_push H (.row (c.cells p) 25 true)
  have hb : Cat.At (H.push (.row (c.cells p) 25 true)) H.next 0 c p := ⟨Mem.new _ _ _ _, hin.mono b⟩
  generalize H.push (.row (c.cells p) 25 true) = H1 at *
  generalize H.next = g at *
  obtain ⟨c0, c1, c2, c3, c4, i1, i2, i3, i4⟩ := hb.get
  have hm : MemN _ _ _ _ _ := ⟨rfl, hb.1⟩
  refine .mv rfl (.nil (a5 _ _ (.seq (fun K2 a0 => .region (.q rfl (.fieldAddr fo_25_1_E rfl) ?_)))))
  refine .q rfl (.load on_22_B rfl (by assumption)) ?_
  refine .mv rfl ?_
  refine .call rfl rfl rfl rfl @Try.call49 rfl (szInt64S_c) ?_
  rintro _ _ ⟨rfl, lf, rfl, z1, z2, z3⟩
  refine .mv rfl (.nil (a0 _ _ (.seq (fun K3 a1 => .seq (fun K4 w => .region (.mv rfl (.q rfl (.cmp rfl rfl rfl) (.nil (w _ _ ?_)))))))))
  refine .cond rfl (fun n => ?_) (fun n => ?_)
  ·
   try simp only [sps] at n
   refine .seq (fun K5 a2 => .region (.mv rfl (.nil (a2 _ _ ?_))))
   refine .ret ?_
   refine a _ _ ?_
   refine ⟨_, rfl, ?_⟩
   exact ⟨b, _, rfl, by omega, by omega, fun h => by omega⟩
  try simp only [sps] at n
  refine .skip ?_
  refine a1 _ _ (.seq (fun K6 z => .region (.q rfl (.fieldAddr fo_25_2_E rfl) ?_)))
  refine .q rfl (.load on_22_B rfl (by assumption)) ?_
  refine .mv rfl ?_
  refine .call rfl rfl rfl rfl @Try.call49 rfl (szInt64S_c) ?_
  rintro _ _ ⟨rfl, lf, rfl, z1, z2, z3⟩
  refine .mv rfl (.nil (z _ _ (.seq (fun K7 a4 => .seq (fun K8 a3 => .region (.mv rfl (.q rfl (.cmp rfl rfl rfl) (.nil (a3 _ _ ?_)))))))))
  refine .cond rfl (fun o => ?_) (fun o => ?_)
  ·
   try simp only [sps] at o
   refine .seq (fun K9 y => .region (.mv rfl (.nil (y _ _ ?_))))
   refine .ret ?_
   refine a _ _ ?_
   refine ⟨_, rfl, ?_⟩
   exact ⟨b, _, rfl, by omega, by omega, fun h => by omega⟩
  try simp only [sps] at o
  refine .skip ?_
  refine a4 _ _ (.seq (fun K10 v => .region (.q rfl (.fieldAddr fo_25_3_E rfl) ?_)))
  refine .q rfl (.load on_22_B rfl (by assumption)) ?_
  refine .mv rfl ?_
  refine .call rfl rfl rfl rfl @Try.call49 rfl (szInt64S_c) ?_
  rintro _ _ ⟨rfl, lf, rfl, z1, z2, z3⟩
  refine .mv rfl (.nil (v _ _ (.seq (fun K11 e => .seq (fun K12 f => .region (.mv rfl (.q rfl (.cmp rfl rfl rfl) (.nil (f _ _ ?_)))))))))
  refine .cond rfl (fun m => ?_) (fun m => ?_)
  ·
   try simp only [sps] at m
   refine .seq (fun K13 u => .region (.mv rfl (.nil (u _ _ ?_))))
   refine .ret ?_
   refine a _ _ ?_
   refine ⟨_, rfl, ?_⟩
   exact ⟨b, _, rfl, by omega, by omega, fun h => by omega⟩
  try simp only [sps] at m
  refine .skip ?_
  refine e _ _ (.seq (fun K14 r => .region (.q rfl (.fieldAddr fo_25_4_E rfl) ?_)))
  refine .q rfl (.load on_23_B rfl (by assumption)) ?_
  refine .mv rfl ?_
  refine .call rfl rfl rfl rfl @Try.call20 rfl (szInt64SS_c) ?_
  rintro _ _ ⟨rfl, lf, rfl, z1, z2, z3⟩
  refine .mv rfl (.nil (r _ _ (.seq (fun K15 j => .seq (fun K16 t => .region (.mv rfl (.q rfl (.cmp rfl rfl rfl) (.nil (t _ _ ?_)))))))))
  refine .cond rfl (fun l => ?_) (fun l => ?_)
  ·
   try simp only [sps] at l
   refine .seq (fun K17 k => .region (.mv rfl (.nil (k _ _ ?_))))
   refine .ret ?_
   refine a _ _ ?_
   refine ⟨_, rfl, ?_⟩
   exact ⟨b, _, rfl, by omega, by omega, fun h => by omega⟩
  try simp only [sps] at l
  refine .skip ?_
  refine j _ _ (.seq (fun K18 s => .region (.mv rfl (.mv rfl (.nil (s _ _ ?_))))))
  refine .ret ?_
  refine a _ _ ?_
  refine ⟨_, rfl, ?_⟩
  exact ⟨b, _, rfl, by omega, by omega, fun h => ⟨by omega, by omega, by omega, by omega, fun i => by have := (z3 (by omega)).2 i; omega, ⟨x, a6⟩⟩⟩
theorem toInt64S_c {a : Option Addr} {xs : List Int} {H : GHeap} (h : Ints H a xs := by assumption) (hx : xs.length ≤ 1048576 := by omega) :
    GCalls Try.prog 52 [.slice a xs.length xs.length] H (NewInts 2 H xs) := by
  refine GCalls.body (N := 22) (rs := [.tmp 2]) Try.func52 rfl rfl rfl rfl (fun Qx f hend => ?_)
  refine .fg [0] rfl ?_
  refine .seq (fun K1 r => .region (.mv rfl (.nil (r _ _ (.seq (fun K2 n => .region (.mv rfl (.q rfl (.len sl_22_A rfl) ?_))))))))
  refine .d rfl rfl rfl (.makeSlice rfl sl_22_A ze_2_E by_2_E rfl rfl (by omega) rfl rfl (by omega) (by omega) (by omega) CIs.mk) ?_
  show GRun _ _ _ _ _ _ (H.push (.row (madeL [.int .i64 0] (xs.length * 1)) 2 true))
  rw [madeL_one, Nat.mul_one]
  have hrep : List.replicate xs.length (Value.int .i64 0) = ints (List.replicate xs.length 0) := by simp [ints]
  rw [hrep]
  have s := GHeap.le_push H (.row (ints (List.replicate xs.length 0)) 2 true)
  have hn := GHeap.get_push_new H (.row (ints (List.replicate xs.length 0)) 2 true)
  generalize H.push (.row (ints (List.replicate xs.length 0)) 2 true) = H1 at *
  obtain ⟨g0, b⟩ : ∃ g0, g0 = H.next := ⟨_, rfl⟩
  rw [← b] at hn ⊢
  have hnx : H.next ≤ g0 := by omega
  clear b
  refine .mv rfl (.nil (n _ _ (.seq (fun K3 u => .seq (fun K4 t => .region (.mv rfl (.nil (t _ _ ?_))))))))
  refine .block ?_
  refine .loopR (σ := Nat) [(0, some _), (3, some _)] (fun k => [(4, some (.int .i64 (k : Int)))]) (fun k H' => k ≤ xs.length ∧ H.Le H' ∧ H.next ≤ g0 ∧ ∃ ys : List Int, ys.length = xs.length ∧ (∀ i, i < k → ys.getD i 0 = xs.getD i 0) ∧ H'.get g0 = some (.row (ints ys) 2 true)) (fun k => xs.length - k) (0) ⟨rfl, rfl, trivial⟩ ⟨rfl, trivial⟩ ?_ ?_
  ·
   exact ⟨by omega, s, hnx, _, by simp, fun i hi => by omega, hn⟩
  rintro k H' hI KL1 j
  refine .forget (fr' := [(4, some (.int .i64 (k : Int))), (0, some _), (3, some _)]) ⟨rfl, rfl, rfl, trivial⟩ ?_
  obtain ⟨hk, hle', b, ys, hys, c, hget⟩ := hI
  have hsl := SlA.of_ints hget hys
  have hxs := h.mono hle'
  refine .seq (fun K5 m => .seq (fun K6 l => .region (.mv rfl (.mv rfl (.q rfl (.len sl_22_A rfl) (.q rfl (.cmp rfl rfl rfl) (.nil (l _ _ ?_))))))))
  refine .cond rfl (fun g => ?_) (fun g => ?_)
  ·
   try simp only [sps] at g
   refine .skip ?_
   refine m _ _ (.seq (fun K7 p => ?_))
   refine .block ?_
   refine .region (.mv rfl (.mv rfl (.mv rfl (.mv rfl ?_))))
   refine .q rfl (.idxN sl_22_A (by assumption) rfl rfl (by omega)) ?_
   refine .q rfl (.loadI on_2_A (by assumption) rfl (by omega)) ?_
   refine .q rfl (.idxN sl_22_A (by assumption) rfl rfl (by omega)) ?_
   refine .d0 rfl rfl (.store rfl sz_2_E rfl rfl rfl hget (by simp; omega) CIs.mk) ?_
   refine .nil (p _ _ (.region (.mv rfl ?_)))
   refine .q rfl (.add rfl rfl rfl (by omega) (by omega)) ?_
   refine .mv rfl (.nil ?_)
   refine j (k + 1) _ _ ?_ ?_ ⟨rfl, rfl, rfl, trivial⟩
   ·
    rw [Nat.zero_add, ints_set]
    refine ⟨by omega, hle'.set_new b, b, _, by simpa using hys, fun i hi => ?_, GHeap.get_set_eq (GHeap.ltg hget)⟩
    rw [getD_set (by omega)]
    split
    · rename_i e; rw [e]
    · exact c i (by omega)
   omega
  try simp only [sps] at g
  refine .exit ?_
  refine u _ _ (.seq (fun K8 o => .region (.mv rfl (.mv rfl (.nil (o _ _ ?_))))))
  refine .ret ?_
  refine f _ _ ?_
  refine ⟨_, rfl, ?_⟩
  obtain rfl : ys = xs := eq_of_getD hys fun i hi => c i (by omega)
  exact ⟨hle', _, rfl, hget, b⟩
theorem toInt64SS_c {a : Option Addr} {xss : List (List Int)} {r : Nat → Option Addr} {H : GHeap} (h : Intss H a xss r := by assumption) (hx : xss.length ≤ 1048576 := by omega) (hy : ∀ i, (xss.getD i []).length ≤ 1048576 := by assumption) :
    GCalls Try.prog 25 [.slice a xss.length xss.length] H (NewIntss H xss) := by
  refine GCalls.body (N := 23) (rs := [.tmp 2]) Try.func25 rfl rfl rfl rfl (fun Qx j hend => ?_)
  refine .fg [0] rfl ?_
  refine .seq (fun K1 w => .region (.mv rfl (.nil (w _ _ (.seq (fun K2 t => .region (.mv rfl (.q rfl (.len sl_23_B rfl) ?_))))))))
  refine .d rfl rfl rfl (.makeSlice rfl sl_23_B ze_22_E by_22_E rfl rfl (by omega) rfl rfl (by omega) (by omega) (by omega) CIs.mk) ?_
  show GRun _ _ _ _ _ _ (H.push (.row (madeL [.slice none 0 0] (xss.length * 1)) 22 true))
  have hlen := length_madeL [Value.slice none 0 0] (xss.length * 1)
  rw [Nat.mul_one] at hlen ⊢
  have x := GHeap.le_push H (.row (madeL [.slice none 0 0] xss.length) 22 true)
  have hn := GHeap.get_push_new H (.row (madeL [.slice none 0 0] xss.length) 22 true)
  generalize H.push (.row (madeL [.slice none 0 0] xss.length) 22 true) = H1 at *
  obtain ⟨g0, b⟩ : ∃ g0, g0 = H.next := ⟨_, rfl⟩
  rw [← b] at hn ⊢
  have hnx : H.next ≤ g0 := by omega
  clear b
  refine .mv rfl (.nil (t _ _ (.seq (fun K3 z => .seq (fun K4 y => .region (.mv rfl (.nil (y _ _ ?_))))))))
  refine .block ?_
  refine .loopR (σ := Nat) [(0, some _), (3, some _)] (fun k => [(4, some (.int .i64 (k : Int)))]) (fun k H' => k ≤ xss.length ∧ H.Le H' ∧ H.next ≤ g0 ∧ ∃ (cs : List Value) (q : Nat → Option Addr), H'.get g0 = some (.row cs 22 true) ∧ cs.length = xss.length ∧ (∀ i, i < k → cs[i]? = some (.slice (q i) (xss.getD i []).length (xss.getD i []).length)) ∧ ∀ i, i < k → IntsAt (g0 + 1) H' (q i) (xss.getD i [])) (fun k => xss.length - k) (0) ⟨rfl, rfl, trivial⟩ ⟨rfl, trivial⟩ ?_ ?_
  ·
   exact ⟨by omega, x, hnx, _, fun _ => none, hn, hlen, fun i hi => by omega, fun i hi => by omega⟩
  rintro k H' hI KL1 m
  refine .forget (fr' := [(4, some (.int .i64 (k : Int))), (0, some _), (3, some _)]) ⟨rfl, rfl, rfl, trivial⟩ ?_
  obtain ⟨hk, hle', b, cs, q, hget, hcs, c, hats⟩ := hI
  have hlt := GHeap.ltg hget
  have hss := h.mono hle'
  have i2 := hss.2
  refine .seq (fun K5 s => .seq (fun K6 p => .region (.mv rfl (.mv rfl (.q rfl (.len sl_23_B rfl) (.q rfl (.cmp rfl rfl rfl) (.nil (p _ _ ?_))))))))
  refine .cond rfl (fun l => ?_) (fun l => ?_)
  ·
   try simp only [sps] at l
   refine .skip ?_
   refine s _ _ (.seq (fun K7 v => ?_))
   refine .block ?_
   refine .region (.mv rfl (.mv rfl (.mv rfl (.mv rfl ?_))))
   refine .q rfl (.idxN sl_23_B (Intss.sl (by assumption)) rfl rfl (by omega)) ?_
   refine .q rfl (.loadR on_22_B (by assumption) rfl (by omega)) ?_
   have i2k := i2 k (by omega)
   have hyk := hy k
   refine .call rfl rfl rfl rfl @Try.call52 rfl (toInt64S_c) ?_
   rintro _ H2 ⟨n, g2, rfl, f, hg2⟩
   have hget' := n.2 _ _ hget
   have hsl := SlA.of_row hget' hcs
   refine .q rfl (.idxN sl_23_B hsl rfl rfl (by omega)) ?_
   refine .d0 rfl rfl (.store rfl sz_22_E rfl rfl rfl hget' (by simp; omega) CIs.mk) ?_
   refine .nil (v _ _ (.region (.mv rfl ?_)))
   refine .q rfl (.add rfl rfl rfl (by omega) (by omega)) ?_
   refine .mv rfl (.nil ?_)
   refine m (k + 1) _ _ ?_ ?_ ⟨rfl, rfl, rfl, trivial⟩
   ·
    rw [Nat.zero_add]
    refine ⟨by omega, (hle'.trans n).set_new b, b, _, fun i => if i = k then some ⟨g2, 0, none⟩ else q i, GHeap.get_set_eq (GHeap.ltg hget'), by simpa using hcs, fun i hi => ?_, fun i hi => ?_⟩
    · by_cases e : i = k
      · subst e; simp [List.getElem?_set, hcs]; omega
      · simp only [e, if_false]
        rw [List.getElem?_set_ne (Ne.symm e)]
        exact c i (by omega)
    · by_cases e : i = k
      · subst e
        simp only [if_true]
        exact ⟨g2, _, rfl, by omega, by rw [GHeap.get_set_ne (by omega)]; exact f⟩
      · simp only [e, if_false]
        exact (hats i (by omega)).keep (fun g o hg ho => by rw [GHeap.get_set_ne (by omega)]; exact n.2 _ _ ho) (Nat.le_refl _)
   omega
  try simp only [sps] at l
  refine .exit ?_
  refine z _ _ (.seq (fun K8 u => .region (.mv rfl (.mv rfl (.nil (u _ _ ?_))))))
  refine .ret ?_
  refine j _ _ ?_
  refine ⟨_, rfl, ?_⟩
  exact ⟨hle', _, q, rfl, g0, _, cs, rfl, b, hget, hcs, fun i hi => c i (by omega), fun i hi => (hats i (by omega)).keep (.of_le (.refl _)) (by omega)⟩
theorem toCategory_c {c : Cat} {p : CatP} {H : GHeap} (hin : c.In H p := by assumption) (hs : c.Small := by assumption) : GCalls Try.prog 24 [.agg (c.cells p).toArray] H (NewCat H c) := by
  obtain ⟨w1, w2, w3, w4, w5, -⟩ := hs
  refine GCalls.body (N := 24) (rs := [.cell 2 32]) Try.func24 rfl rfl rfl rfl (fun Qx m hend => ?_)
  refine .fg [0] rfl ?_
  refine .seq (fun K1 z => .region (.d rfl rfl rfl (.box rfl sz_25_E rfl CIs.mk) ?_))
  show GRun _ _ _ _ _ _ (H.push (.row (c.cells p) 25 true))
  have n := GHeap.le_push H (.row (c.cells p) 25 true)
  have hb : Cat.At (H.push (.row (c.cells p) 25 true)) H.next 0 c p := ⟨Mem.new _ _ _ _, hin.mono n⟩
  generalize H.push (.row (c.cells p) 25 true) = H1 at *
  refine .d rfl rfl rfl (.alloc rfl ze_32_E rfl CIs.mk) (.nil (z _ _ (.seq (fun K2 t => .region (.d rfl rfl rfl (.alloc rfl ze_32_E rfl CIs.mk) ?_)))))
  show GRun _ _ _ _ _ _ ((H1.push (.row [(.int .i64 0 : Value), (.slice none 0 0 : Value), (.slice none 0 0 : Value), (.slice none 0 0 : Value), (.slice none 0 0 : Value)] 32 true)).push (.row [(.int .i64 0 : Value), (.slice none 0 0 : Value), (.slice none 0 0 : Value), (.slice none 0 0 : Value), (.slice none 0 0 : Value)] 32 true))
  have B := Bld.start H1 32 [(.int .i64 0 : Value), (.slice none 0 0 : Value), (.slice none 0 0 : Value), (.slice none 0 0 : Value), (.slice none 0 0 : Value)]
  generalize (H1.push (.row [(.int .i64 0 : Value), (.slice none 0 0 : Value), (.slice none 0 0 : Value), (.slice none 0 0 : Value), (.slice none 0 0 : Value)] 32 true)).next = g3 at *
  generalize (H1.push (.row [(.int .i64 0 : Value), (.slice none 0 0 : Value), (.slice none 0 0 : Value), (.slice none 0 0 : Value), (.slice none 0 0 : Value)] 32 true)).push (.row [(.int .i64 0 : Value), (.slice none 0 0 : Value), (.slice none 0 0 : Value), (.slice none 0 0 : Value), (.slice none 0 0 : Value)] 32 true) = H3 at *
  generalize g3 + 1 = b at *
  obtain ⟨c0, -, -, -, -, -, -, -, -⟩ := (hb.mono B.le).get
  refine .nil (t _ _ (.seq (fun K3 u => .region (.q rfl (.fieldAddr fo_25_0_E rfl) ?_))))
  refine .q rfl (.load on_2_A rfl (by assumption)) ?_
  refine .q rfl (.fieldAddr fo_32_0_B rfl) (.d0 rfl rfl (.store rfl sz_2_E rfl rfl rfl B.own (Nat.le_of_ble_eq_true rfl) CIs.mk) ?_)
  show GRun _ _ _ _ _ _ (H3.set g3 (some (.row ([.int .i64 c.obj] ++ ([(.slice none 0 0 : Value)] ++ ([(.slice none 0 0 : Value)] ++ ([(.slice none 0 0 : Value)] ++ ([(.slice none 0 0 : Value)]))))) 32 true)))
  have ⟨B, hk⟩ := B.store ([.int .i64 c.obj] ++ ([(.slice none 0 0 : Value)] ++ ([(.slice none 0 0 : Value)] ++ ([(.slice none 0 0 : Value)] ++ ([(.slice none 0 0 : Value)])))))
  generalize H3.set g3 (some (.row ([.int .i64 c.obj] ++ ([(.slice none 0 0 : Value)] ++ ([(.slice none 0 0 : Value)] ++ ([(.slice none 0 0 : Value)] ++ ([(.slice none 0 0 : Value)]))))) 32 true)) = H10 at *
  obtain ⟨-, c1, -, -, -, i1, -, -, -⟩ := (hb.mono B.le).get
  refine .nil (u _ _ (.seq (fun K4 r => .region (.q rfl (.fieldAddr fo_25_1_E rfl) ?_))))
  refine .q rfl (.load on_22_B rfl (by assumption)) ?_
  have i := B.bn
  refine .call rfl rfl rfl rfl @Try.call52 rfl (toInt64S_c) ?_
  rintro _ H2 ⟨f, g2, rfl, a, k⟩
  have B := B.call f
  obtain ⟨e, hga⟩ : ∃ x, x = g2 := ⟨_, rfl⟩
  rw [← hga] at a k ⊢
  clear hga
  have v1 : IntsAt b H2 (some ⟨e, 0, none⟩) c.src := ⟨_, _, rfl, by have := i; omega, a⟩
  refine .q rfl (.fieldAddr fo_32_1_B rfl) (.d0 rfl rfl (.store rfl sz_22_E rfl rfl rfl B.own (Nat.le_of_ble_eq_true rfl) CIs.mk) ?_)
  show GRun _ _ _ _ _ _ (H2.set g3 (some (.row ([.int .i64 c.obj] ++ ([.slice (some ⟨e, 0, none⟩) c.src.length c.src.length] ++ ([(.slice none 0 0 : Value)] ++ ([(.slice none 0 0 : Value)] ++ ([(.slice none 0 0 : Value)]))))) 32 true)))
  have ⟨B, hk⟩ := B.store ([.int .i64 c.obj] ++ ([.slice (some ⟨e, 0, none⟩) c.src.length c.src.length] ++ ([(.slice none 0 0 : Value)] ++ ([(.slice none 0 0 : Value)] ++ ([(.slice none 0 0 : Value)])))))
  replace v1 := v1.keep hk (Nat.le_refl _)
  generalize H2.set g3 (some (.row ([.int .i64 c.obj] ++ ([.slice (some ⟨e, 0, none⟩) c.src.length c.src.length] ++ ([(.slice none 0 0 : Value)] ++ ([(.slice none 0 0 : Value)] ++ ([(.slice none 0 0 : Value)]))))) 32 true)) = H11 at *
  obtain ⟨-, -, c2, -, -, -, i2, -, -⟩ := (hb.mono B.le).get
  refine .nil (r _ _ (.seq (fun K5 v => .region (.q rfl (.fieldAddr fo_25_2_E rfl) ?_))))
  refine .q rfl (.load on_22_B rfl (by assumption)) ?_
  have i := B.bn
  refine .call rfl rfl rfl rfl @Try.call52 rfl (toInt64S_c) ?_
  rintro _ H2 ⟨f, g2, rfl, a, k⟩
  have B := B.call f
  obtain ⟨g, hga⟩ : ∃ x, x = g2 := ⟨_, rfl⟩
  rw [← hga] at a k ⊢
  clear hga
  have v2 : IntsAt b H2 (some ⟨g, 0, none⟩) c.tgt := ⟨_, _, rfl, by have := i; omega, a⟩
  replace v1 := v1.keep (.of_le f) (Nat.le_refl _)
  refine .q rfl (.fieldAddr fo_32_2_B rfl) (.d0 rfl rfl (.store rfl sz_22_E rfl rfl rfl B.own (Nat.le_of_ble_eq_true rfl) CIs.mk) ?_)
  show GRun _ _ _ _ _ _ (H2.set g3 (some (.row ([.int .i64 c.obj] ++ ([.slice (some ⟨e, 0, none⟩) c.src.length c.src.length] ++ ([.slice (some ⟨g, 0, none⟩) c.tgt.length c.tgt.length] ++ ([(.slice none 0 0 : Value)] ++ ([(.slice none 0 0 : Value)]))))) 32 true)))
  have ⟨B, hk⟩ := B.store ([.int .i64 c.obj] ++ ([.slice (some ⟨e, 0, none⟩) c.src.length c.src.length] ++ ([.slice (some ⟨g, 0, none⟩) c.tgt.length c.tgt.length] ++ ([(.slice none 0 0 : Value)] ++ ([(.slice none 0 0 : Value)])))))
  replace v1 := v1.keep hk (Nat.le_refl _)
  replace v2 := v2.keep hk (Nat.le_refl _)
  generalize H2.set g3 (some (.row ([.int .i64 c.obj] ++ ([.slice (some ⟨e, 0, none⟩) c.src.length c.src.length] ++ ([.slice (some ⟨g, 0, none⟩) c.tgt.length c.tgt.length] ++ ([(.slice none 0 0 : Value)] ++ ([(.slice none 0 0 : Value)]))))) 32 true)) = H12 at *
  obtain ⟨-, -, -, c3, -, -, -, i3, -⟩ := (hb.mono B.le).get
  refine .nil (v _ _ (.seq (fun K6 s => .region (.q rfl (.fieldAddr fo_25_3_E rfl) ?_))))
  refine .q rfl (.load on_22_B rfl (by assumption)) ?_
  have i := B.bn
  refine .call rfl rfl rfl rfl @Try.call52 rfl (toInt64S_c) ?_
  rintro _ H2 ⟨f, g2, rfl, a, k⟩
  have B := B.call f
  obtain ⟨h, hga⟩ : ∃ x, x = g2 := ⟨_, rfl⟩
  rw [← hga] at a k ⊢
  clear hga
  have v3 : IntsAt b H2 (some ⟨h, 0, none⟩) c.idn := ⟨_, _, rfl, by have := i; omega, a⟩
  replace v1 := v1.keep (.of_le f) (Nat.le_refl _)
  replace v2 := v2.keep (.of_le f) (Nat.le_refl _)
  refine .q rfl (.fieldAddr fo_32_3_B rfl) (.d0 rfl rfl (.store rfl sz_22_E rfl rfl rfl B.own (Nat.le_of_ble_eq_true rfl) CIs.mk) ?_)
  show GRun _ _ _ _ _ _ (H2.set g3 (some (.row ([.int .i64 c.obj] ++ ([.slice (some ⟨e, 0, none⟩) c.src.length c.src.length] ++ ([.slice (some ⟨g, 0, none⟩) c.tgt.length c.tgt.length] ++ ([.slice (some ⟨h, 0, none⟩) c.idn.length c.idn.length] ++ ([(.slice none 0 0 : Value)]))))) 32 true)))
  have ⟨B, hk⟩ := B.store ([.int .i64 c.obj] ++ ([.slice (some ⟨e, 0, none⟩) c.src.length c.src.length] ++ ([.slice (some ⟨g, 0, none⟩) c.tgt.length c.tgt.length] ++ ([.slice (some ⟨h, 0, none⟩) c.idn.length c.idn.length] ++ ([(.slice none 0 0 : Value)])))))
  replace v1 := v1.keep hk (Nat.le_refl _)
  replace v2 := v2.keep hk (Nat.le_refl _)
  replace v3 := v3.keep hk (Nat.le_refl _)
  generalize H2.set g3 (some (.row ([.int .i64 c.obj] ++ ([.slice (some ⟨e, 0, none⟩) c.src.length c.src.length] ++ ([.slice (some ⟨g, 0, none⟩) c.tgt.length c.tgt.length] ++ ([.slice (some ⟨h, 0, none⟩) c.idn.length c.idn.length] ++ ([(.slice none 0 0 : Value)]))))) 32 true)) = H13 at *
  obtain ⟨-, -, -, -, c4, -, -, -, i4⟩ := (hb.mono B.le).get
  refine .nil (s _ _ (.seq (fun K7 y => .region (.q rfl (.fieldAddr fo_25_4_E rfl) ?_))))
  refine .q rfl (.load on_23_B rfl (by assumption)) ?_
  have i := B.bn
  refine .call rfl rfl rfl rfl @Try.call25 rfl (toInt64SS_c) ?_
  rintro _ H2 ⟨f, a2, r2, rfl, j⟩
  have B := B.call f
  obtain ⟨l, hga⟩ : ∃ x, x = a2 := ⟨_, rfl⟩
  rw [← hga] at j ⊢
  clear hga
  obtain ⟨o, hga⟩ : ∃ x, x = r2 := ⟨_, rfl⟩
  rw [← hga] at j
  clear hga
  have v4 := j.keep (.of_le (.refl _)) i
  replace v1 := v1.keep (.of_le f) (Nat.le_refl _)
  replace v2 := v2.keep (.of_le f) (Nat.le_refl _)
  replace v3 := v3.keep (.of_le f) (Nat.le_refl _)
  refine .q rfl (.fieldAddr fo_32_4_B rfl) (.d0 rfl rfl (.store rfl sz_23_E rfl rfl rfl B.own (Nat.le_of_ble_eq_true rfl) CIs.mk) ?_)
  show GRun _ _ _ _ _ _ (H2.set g3 (some (.row ([.int .i64 c.obj] ++ ([.slice (some ⟨e, 0, none⟩) c.src.length c.src.length] ++ ([.slice (some ⟨g, 0, none⟩) c.tgt.length c.tgt.length] ++ ([.slice (some ⟨h, 0, none⟩) c.idn.length c.idn.length] ++ ([.slice l c.comp.length c.comp.length]))))) 32 true)))
  have ⟨B, hk⟩ := B.store ([.int .i64 c.obj] ++ ([.slice (some ⟨e, 0, none⟩) c.src.length c.src.length] ++ ([.slice (some ⟨g, 0, none⟩) c.tgt.length c.tgt.length] ++ ([.slice (some ⟨h, 0, none⟩) c.idn.length c.idn.length] ++ ([.slice l c.comp.length c.comp.length])))))
  replace v1 := v1.keep hk (Nat.le_refl _)
  replace v2 := v2.keep hk (Nat.le_refl _)
  replace v3 := v3.keep hk (Nat.le_refl _)
  replace v4 := v4.keep hk (Nat.le_refl _)
  generalize H2.set g3 (some (.row ([.int .i64 c.obj] ++ ([.slice (some ⟨e, 0, none⟩) c.src.length c.src.length] ++ ([.slice (some ⟨g, 0, none⟩) c.tgt.length c.tgt.length] ++ ([.slice (some ⟨h, 0, none⟩) c.idn.length c.idn.length] ++ ([.slice l c.comp.length c.comp.length]))))) 32 true)) = H14 at *
  refine .nil (y _ _ (.seq (fun K8 w => .region ?_)))
  refine .q rfl (.loadM ag_32_D rfl ⟨rfl, Mem.of_get B.own⟩) ?_
  refine .d0 rfl rfl (.storeN rfl sz_32_D rfl rfl rfl rfl B.res (Nat.le_of_ble_eq_true rfl) CIs.mk) ?_
  rw [setAll_all _ _ (by rfl)]
  refine .nil (w _ _ ?_)
  refine .ret ?_
  refine m _ _ ?_
  refine ⟨_, _, _, _, rfl, ag_32_D, (by rfl), (Mem.of_get (GHeap.get_set_eq (GHeap.ltg B.res))), ?_⟩
  exact ⟨n.trans (B.done _).1, ⟨some ⟨e, 0, none⟩, some ⟨g, 0, none⟩, some ⟨h, 0, none⟩, l, o⟩, rfl, (CatAt.keep (b := b) (b' := b) ⟨v1, v2, v3, v4⟩ (B.done _).2 (Nat.le_refl _)).keep (.of_le (.refl _)) (by have := B.l2; have := n.1; omega)⟩
theorem eqInt64S_c {a b : Option Addr} {xs : List Int} {H : GHeap} (h : Ints H a xs := by assumption) (h' : Ints H b xs := by assumption) (hx : xs.length ≤ 1048576 := by omega) :
    GCalls Try.prog 31 [.slice a xs.length xs.length, .slice b xs.length xs.length] H (Ret (.bool true) H) := by
  refine GCalls.body (N := 26) (rs := [.tmp 4]) Try.func31 rfl rfl rfl rfl (fun Qx c hend => ?_)
  refine .fg [0, 1] rfl ?_
  refine .seq (fun K1 r => .region (.mv rfl (.nil (r _ _ (.seq (fun K2 o => .seq (fun K3 v => .region (.mv rfl (.q rfl (.len sl_22_A rfl) (.mv rfl (.q rfl (.len sl_22_A rfl) (.q rfl (.cmp rfl rfl rfl) (.nil (v _ _ ?_))))))))))))))
  refine .cond rfl (fun g => ?_) (fun g => ?_)
  ·
   try simp only [sps] at g
   refine .seq (fun K4 t => .region (.mv rfl (.nil (t _ _ ?_))))
   refine .ret ?_
   refine c _ _ ?_
   refine ⟨_, rfl, ?_⟩
   (exfalso; simp_all)
  try simp only [sps] at g
  refine .skip ?_
  refine o _ _ (.seq (fun K5 n => .seq (fun K6 m => .region (.mv rfl (.nil (m _ _ ?_))))))
  refine .block ?_
  refine .loopR (σ := Nat) [(0, some _), (1, some _)] (fun k => [(5, some (.int .i64 (k : Int)))]) (fun k H' => H = H' ∧ k ≤ xs.length) (fun k => xs.length - k) (0) ⟨rfl, rfl, trivial⟩ ⟨rfl, trivial⟩ ?_ ?_
  ·
   refine ⟨rfl, ?_⟩
   omega
  rintro k _ ⟨rfl, hI⟩ KL1 j
  refine .forget (fr' := [(5, some (.int .i64 (k : Int))), (0, some _), (1, some _)]) ⟨rfl, rfl, rfl, trivial⟩ ?_
  refine .seq (fun K7 s => .seq (fun K8 p => .region (.mv rfl (.mv rfl (.q rfl (.len sl_22_A rfl) (.q rfl (.cmp rfl rfl rfl) (.nil (p _ _ ?_))))))))
  refine .cond rfl (fun i => ?_) (fun i => ?_)
  ·
   try simp only [sps] at i
   refine .skip ?_
   refine s _ _ (.seq (fun K9 u => ?_))
   refine .block ?_
   refine .seq (fun K10 f => ?_)
   refine .regionD mo_B (.q 0 (.q 1 (.q 2 (.q 3 (.q 4 (.q 5 (.q 6 (.q 7 (.q 8 (.done)))))))))) (by kernel_rfl) ?_
   refine .mv rfl rfl (.mv rfl rfl ?_)
   refine .q rfl (.idxN sl_22_A (by assumption) rfl rfl (by omega)) ?_
   refine .q rfl (.loadI on_2_A (by assumption) rfl (by omega)) ?_
   refine .mv rfl rfl (.mv rfl rfl ?_)
   refine .q rfl (.idxN sl_22_A (by assumption) rfl rfl (by omega)) ?_
   refine .q rfl (.loadI on_2_A (by assumption) rfl (by omega)) ?_
   refine .q rfl (.cmp rfl rfl rfl) ?_
   refine .done ?_
   refine f _ _ ?_
   refine .cond rfl (fun d => ?_) (fun d => ?_)
   ·
    try simp only [sps] at d
    refine .seq (fun K11 l => .region (.mv rfl (.nil (l _ _ ?_))))
    refine .ret ?_
    refine c _ _ ?_
    refine ⟨_, rfl, ?_⟩
    (exfalso; simp_all)
   try simp only [sps] at d
   refine .skip ?_
   refine u _ _ (.region (.mv rfl ?_))
   refine .q rfl (.add rfl rfl rfl (by omega) (by omega)) ?_
   refine .mv rfl (.nil ?_)
   refine j (k + 1) _ _ ?_ ?_ ⟨rfl, rfl, rfl, trivial⟩
   ·
    refine ⟨rfl, ?_⟩
    omega
   omega
  try simp only [sps] at i
  refine .exit ?_
  refine n _ _ (.seq (fun K12 e => .region (.mv rfl (.nil (e _ _ ?_)))))
  refine .ret ?_
  refine c _ _ ?_
  refine ⟨_, rfl, ?_⟩
  exact .of rfl
theorem eqInt64SS_c {a b : Option Addr} {xss : List (List Int)} {r r' : Nat → Option Addr} {H : GHeap} (h : Intss H a xss r := by assumption) (h' : Intss H b xss r' := by assumption) (hx : xss.length ≤ 1048576 := by omega) (hy : ∀ i, (xss.getD i []).length ≤ 1048576 := by assumption) :
    GCalls Try.prog 9 [.slice a xss.length xss.length, .slice b xss.length xss.length] H (Ret (.bool true) H) := by
  refine GCalls.body (N := 27) (rs := [.tmp 4]) Try.func9 rfl rfl rfl rfl (fun Qx d hend => ?_)
  refine .fg [0, 1] rfl ?_
  refine .seq (fun K1 v => .region (.mv rfl (.nil (v _ _ (.seq (fun K2 s => .seq (fun K3 y => .region (.mv rfl (.q rfl (.len sl_23_B rfl) (.mv rfl (.q rfl (.len sl_23_B rfl) (.q rfl (.cmp rfl rfl rfl) (.nil (y _ _ ?_))))))))))))))
  refine .cond rfl (fun j => ?_) (fun j => ?_)
  ·
   try simp only [sps] at j
   refine .seq (fun K4 w => .region (.mv rfl (.nil (w _ _ ?_))))
   refine .ret ?_
   refine d _ _ ?_
   refine ⟨_, rfl, ?_⟩
   (exfalso; simp_all)
  try simp only [sps] at j
  refine .skip ?_
  refine s _ _ (.seq (fun K5 p => .seq (fun K6 o => .region (.mv rfl (.nil (o _ _ ?_))))))
  refine .block ?_
  refine .loopR (σ := Nat) [(0, some _), (1, some _)] (fun k => [(5, some (.int .i64 (k : Int)))]) (fun k H' => H = H' ∧ k ≤ xss.length) (fun k => xss.length - k) (0) ⟨rfl, rfl, trivial⟩ ⟨rfl, trivial⟩ ?_ ?_
  ·
   refine ⟨rfl, ?_⟩
   omega
  rintro k _ ⟨rfl, hI⟩ KL1 n
  refine .forget (fr' := [(5, some (.int .i64 (k : Int))), (0, some _), (1, some _)]) ⟨rfl, rfl, rfl, trivial⟩ ?_
  refine .seq (fun K7 u => .seq (fun K8 t => .region (.mv rfl (.mv rfl (.q rfl (.len sl_23_B rfl) (.q rfl (.cmp rfl rfl rfl) (.nil (t _ _ ?_))))))))
  refine .cond rfl (fun l => ?_) (fun l => ?_)
  ·
   try simp only [sps] at l
   refine .skip ?_
   refine u _ _ (.seq (fun K9 x => ?_))
   refine .block ?_
   refine .seq (fun K10 m => ?_)
   refine .regionD mo_B (.q 0 (.q 1 (.q 2 (.q 3 (.q 4 (.q 5 (.q 6 (.q 7 (.c 8 0 (.q 9 (.done))))))))))) (by kernel_rfl) ?_
   have hyk := hy k
   have ir := h.2 k (by omega)
   have ir' := h'.2 k (by omega)
   refine .mv rfl rfl (.mv rfl rfl ?_)
   refine .q rfl (.idxN sl_23_B (Intss.sl (by assumption)) rfl rfl (by omega)) ?_
   refine .q rfl (.loadR on_22_B (by assumption) rfl (by omega)) ?_
   refine .mv rfl rfl (.mv rfl rfl ?_)
   refine .q rfl (.idxN sl_23_B (Intss.sl (by assumption)) rfl rfl (by omega)) ?_
   refine .q rfl (.loadR on_22_B (by assumption) rfl (by omega)) ?_
   refine .callQ0 rfl rfl rfl rfl rfl @Try.call31 rfl (eqInt64S_c) ?_
   refine .q rfl (.not rfl) ?_
   refine .done ?_
   refine m _ _ ?_
   refine .cond rfl (fun g => ?_) (fun g => ?_)
   ·
    try simp only [sps] at g
    refine .seq (fun K11 e => .region (.mv rfl (.nil (e _ _ ?_))))
    refine .ret ?_
    refine d _ _ ?_
    refine ⟨_, rfl, ?_⟩
    (exfalso; simp_all)
   try simp only [sps] at g
   refine .skip ?_
   refine x _ _ (.region (.mv rfl ?_))
   refine .q rfl (.add rfl rfl rfl (by omega) (by omega)) ?_
   refine .mv rfl (.nil ?_)
   refine n (k + 1) _ _ ?_ ?_ ⟨rfl, rfl, rfl, trivial⟩
   ·
    refine ⟨rfl, ?_⟩
    omega
   omega
  try simp only [sps] at l
  refine .exit ?_
  refine p _ _ (.seq (fun K12 f => .region (.mv rfl (.nil (f _ _ ?_)))))
  refine .ret ?_
  refine d _ _ ?_
  refine ⟨_, rfl, ?_⟩
  exact .of rfl
theorem eqCategory_c {c : Cat} {p p' : CatP} {H : GHeap} (hin : c.In H p := by assumption) (hin' : c.In H p' := by assumption) (hs : c.Small := by assumption) : GCalls Try.prog 32 [.agg (c.cells p).toArray, .agg (c.cells p').toArray] H (Ret (.bool true) H) := by
  refine GCalls.ret rfl ?_
  obtain ⟨w1, w2, w3, w4, w5, -⟩ := hs
  refine GCalls.body (N := 34) (rs := [.tmp 4]) Try.func32 rfl rfl rfl rfl (fun Qx a hend => ?_)
  refine .fg [0, 1] rfl ?_
  refine .seq (fun K1 t => .region (.d rfl rfl rfl (.box rfl sz_32_D rfl CIs.mk) ?_))
  show GRun _ _ _ _ _ _ (H.push (.row (c.cells p) 32 true))
  have e := GHeap.le_push H (.row (c.cells p) 32 true)
  have hb : Cat.At (H.push (.row (c.cells p) 32 true)) H.next 0 c p := ⟨Mem.new _ _ _ _, hin.mono e⟩
  generalize H.push (.row (c.cells p) 32 true) = H1 at *
  refine .d rfl rfl rfl (.box rfl sz_32_D rfl CIs.mk) ?_
  show GRun _ _ _ _ _ _ (H1.push (.row (c.cells p') 32 true))
  have b := GHeap.le_push H1 (.row (c.cells p') 32 true)
  have hb' : Cat.At (H1.push (.row (c.cells p') 32 true)) H1.next 0 c p' := ⟨Mem.new _ _ _ _, (hin'.mono e).mono b⟩
  replace hb := hb.mono b
  replace e := e.trans b
  generalize H1.push (.row (c.cells p') 32 true) = H2 at *
  obtain ⟨c0, c1, c2, c3, c4, i1, i2, i3, i4⟩ := hb.get
  obtain ⟨c0y, c1y, c2y, c3y, c4y, i1y, i2y, i3y, i4y⟩ := hb'.get
  refine .mv rfl (.nil (t _ _ (.seq (fun K2 x => .seq (fun K3 y => .region (.q rfl (.fieldAddr fo_32_0_B rfl) ?_))))))
  refine .q rfl (.load on_2_A rfl (by assumption)) ?_
  refine .q rfl (.fieldAddr fo_32_0_B rfl) ?_
  refine .q rfl (.load on_2_A rfl (by assumption)) ?_
  refine .q rfl (.cmp rfl rfl rfl) (.nil (y _ _ ?_))
  refine .cond rfl (fun h9 => ?_) (fun h9 => ?_)
  ·
   try simp only [sps] at h9
   refine .seq (fun K4 u => .region (.mv rfl (.nil (u _ _ ?_))))
   refine .ret ?_
   refine a _ _ ?_
   refine ⟨_, rfl, ?_⟩
   (exfalso; simp_all)
  try simp only [sps] at h9
  refine .skip ?_
  refine x _ _ (.seq (fun K5 z => .seq (fun K6 w => .region (.q rfl (.fieldAddr fo_32_1_B rfl) ?_))))
  refine .q rfl (.load on_22_B rfl (by assumption)) ?_
  refine .q rfl (.fieldAddr fo_32_1_B rfl) ?_
  refine .q rfl (.load on_22_B rfl (by assumption)) ?_
  refine .callQ rfl rfl rfl rfl @Try.call31 rfl (eqInt64S_c) ?_
  refine .q rfl (.not rfl) (.nil (w _ _ ?_))
  refine .cond rfl (fun r => ?_) (fun r => ?_)
  ·
   try simp only [sps] at r
   refine .seq (fun K7 a1 => .region (.mv rfl (.nil (a1 _ _ ?_))))
   refine .ret ?_
   refine a _ _ ?_
   refine ⟨_, rfl, ?_⟩
   (exfalso; simp_all)
  try simp only [sps] at r
  refine .skip ?_
  refine z _ _ (.seq (fun K8 a0 => .seq (fun K9 v => .region (.q rfl (.fieldAddr fo_32_2_B rfl) ?_))))
  refine .q rfl (.load on_22_B rfl (by assumption)) ?_
  refine .q rfl (.fieldAddr fo_32_2_B rfl) ?_
  refine .q rfl (.load on_22_B rfl (by assumption)) ?_
  refine .callQ rfl rfl rfl rfl @Try.call31 rfl (eqInt64S_c) ?_
  refine .q rfl (.not rfl) (.nil (v _ _ ?_))
  refine .cond rfl (fun k => ?_) (fun k => ?_)
  ·
   try simp only [sps] at k
   refine .seq (fun K10 m => .region (.mv rfl (.nil (m _ _ ?_))))
   refine .ret ?_
   refine a _ _ ?_
   refine ⟨_, rfl, ?_⟩
   (exfalso; simp_all)
  try simp only [sps] at k
  refine .skip ?_
  refine a0 _ _ (.seq (fun K11 s => .seq (fun K12 f => .region (.q rfl (.fieldAddr fo_32_3_B rfl) ?_))))
  refine .q rfl (.load on_22_B rfl (by assumption)) ?_
  refine .q rfl (.fieldAddr fo_32_3_B rfl) ?_
  refine .q rfl (.load on_22_B rfl (by assumption)) ?_
  refine .callQ rfl rfl rfl rfl @Try.call31 rfl (eqInt64S_c) ?_
  refine .q rfl (.not rfl) (.nil (f _ _ ?_))
  refine .cond rfl (fun o => ?_) (fun o => ?_)
  ·
   try simp only [sps] at o
   refine .seq (fun K13 l => .region (.mv rfl (.nil (l _ _ ?_))))
   refine .ret ?_
   refine a _ _ ?_
   refine ⟨_, rfl, ?_⟩
   (exfalso; simp_all)
  try simp only [sps] at o
  refine .skip ?_
  refine s _ _ (.seq (fun K14 i => .seq (fun K15 g => .region (.q rfl (.fieldAddr fo_32_4_B rfl) ?_))))
  refine .q rfl (.load on_23_B rfl (by assumption)) ?_
  refine .q rfl (.fieldAddr fo_32_4_B rfl) ?_
  refine .q rfl (.load on_23_B rfl (by assumption)) ?_
  refine .callQ rfl rfl rfl rfl @Try.call9 rfl (eqInt64SS_c) ?_
  refine .q rfl (.not rfl) (.nil (g _ _ ?_))
  refine .cond rfl (fun n => ?_) (fun n => ?_)
  ·
   try simp only [sps] at n
   refine .seq (fun K16 j => .region (.mv rfl (.nil (j _ _ ?_))))
   refine .ret ?_
   refine a _ _ ?_
   refine ⟨_, rfl, ?_⟩
   (exfalso; simp_all)
  try simp only [sps] at n
  refine .skip ?_
  refine i _ _ (.seq (fun K17 h => .region (.mv rfl (.nil (h _ _ ?_)))))
  refine .ret ?_
  refine a _ _ ?_
  refine ⟨_, rfl, ?_⟩
  exact ⟨rfl, e⟩
end Go.Proofs.Ytdfnfdellpfjhaa
namespace Go.Proofs.Ytdfnfdellpfjhaa
open Go Go.GL Go.RowKit Go.Proofs
theorem sl_139_F : sliceT Try.prog 139 = some (91, 1) := by kernel_rfl
theorem on_91_F : oneT Try.prog 91 = true := by kernel_rfl
theorem eqss_of_getD {xs ys : List (List Int)} (hl : xs.length = ys.length) (h : ∀ i, i < xs.length → xs.getD i [] = ys.getD i []) : xs = ys := by
  apply List.ext_getElem hl
  intro i h1 h2
  have := h i h1
  simpa [List.getD_eq_getElem?_getD, h1, h2] using this
theorem Cat.eq_iff {c d : Cat} : c = d ↔ c.obj = d.obj ∧ c.src = d.src ∧ c.tgt = d.tgt ∧ c.idn = d.idn ∧ c.comp = d.comp := by
  cases c; cases d; simp
theorem compare_c {a b : Option Addr} {xs ys : List Int} {H : GHeap} (h : Ints H a xs := by assumption) (h' : Ints H b ys := by assumption) (hx : xs.length ≤ 1048576 := by omega) (hy : ys.length ≤ 1048576 := by omega) :
    GCalls Try.prog 109 [.slice a xs.length xs.length, .slice b ys.length ys.length] H (fun v H' => H' = H ∧ ∃ n, v = .int .i64 n ∧ (n = 0 ↔ xs = ys)) := by
  refine GCalls.body (N := 39) (rs := [.tmp 4]) Try.func109 rfl rfl rfl rfl (fun Qx c hend => ?_)
  refine .fg [0, 1] rfl ?_
  refine .seq (fun K1 a8 => .region (.mv rfl (.nil (a8 _ _ (.seq (fun K2 a3 => .seq (fun K3 a4 => .region (.mv rfl (.q rfl (.len sl_22_A rfl) (.mv rfl (.nil (a4 _ _ ?_))))))))))))
  refine .block ?_
  refine .loopR (σ := Nat) [(0, some _), (1, some _), (7, some _)] (fun k => [(8, some (.int .i64 (k : Int)))]) (fun k H' => H = H' ∧ k ≤ xs.length ∧ k ≤ ys.length ∧ ∀ i, i < k → xs.getD i 0 = ys.getD i 0) (fun k => xs.length - k) (0) ⟨rfl, rfl, rfl, trivial⟩ ⟨rfl, trivial⟩ ?_ ?_
  ·
   refine ⟨rfl, ?_⟩
   exact ⟨by omega, by omega, fun i hi => by omega⟩
  rintro k _ ⟨rfl, hI⟩ KL1 t
  refine .forget (fr' := [(8, some (.int .i64 (k : Int))), (0, some _), (1, some _), (7, some _)]) ⟨rfl, rfl, rfl, rfl, trivial⟩ ?_
  obtain ⟨hk, hk', d⟩ := hI
  refine .seq (fun K4 a0 => .region (.q rfl (.cmp rfl rfl rfl) (.nil (a0 _ _ (.seq (fun K5 a5 => ?_))))))
  refine .cond rfl (fun h9 => ?_) (fun h9 => ?_)
  ·
   try simp only [sps] at h9
   refine .skip ?_
   refine a5 _ _ (.seq (fun K6 a2 => ?_))
   refine .block ?_
   refine .seq (fun K7 a7 => .region (.mv rfl (.mv rfl (.nil (a7 _ _ (.seq (fun K8 a6 => .seq (fun K9 a1 => .region (.mv rfl (.mv rfl (.q rfl (.len sl_22_A rfl) (.q rfl (.cmp rfl rfl rfl) (.nil (a1 _ _ ?_))))))))))))))
   refine .cond rfl (fun r => ?_) (fun r => ?_)
   ·
    try simp only [sps] at r
    refine .seq (fun K10 y => .region (.mv rfl (.nil (y _ _ ?_))))
    refine .ret ?_
    refine c _ _ ?_
    refine ⟨_, rfl, ?_⟩
    exact ⟨rfl, _, rfl, fun e => by omega, fun e => by subst e; first | omega | simp_all⟩
   try simp only [sps] at r
   refine .skip ?_
   refine a6 _ _ (.seq (fun K11 f => ?_))
   refine .regionD mo_B (.q 0 (.q 1 (.q 2 (.q 3 (.q 4 (.q 5 (.q 6 (.q 7 (.q 8 (.done)))))))))) (by kernel_rfl) ?_
   refine .mv rfl rfl (.mv rfl rfl ?_)
   refine .q rfl (.idxN sl_22_A (by assumption) rfl rfl (by omega)) ?_
   refine .q rfl (.loadI on_2_A (by assumption) rfl (by omega)) ?_
   refine .mv rfl rfl (.mv rfl rfl ?_)
   refine .q rfl (.idxN sl_22_A (by assumption) rfl rfl (by omega)) ?_
   refine .q rfl (.loadI on_2_A (by assumption) rfl (by omega)) ?_
   refine .q rfl (.cmp rfl rfl rfl) ?_
   refine .done ?_
   refine f _ _ ?_
   refine .cond rfl (fun x => ?_) (fun x => ?_)
   ·
    try simp only [sps] at x
    refine .seq (fun K12 g => .seq (fun K13 w => ?_))
    refine .regionD mo_B (.q 0 (.q 1 (.q 2 (.q 3 (.q 4 (.q 5 (.q 6 (.q 7 (.q 8 (.done)))))))))) (by kernel_rfl) ?_
    refine .mv rfl rfl (.mv rfl rfl ?_)
    refine .q rfl (.idxN sl_22_A (by assumption) rfl rfl (by omega)) ?_
    refine .q rfl (.loadI on_2_A (by assumption) rfl (by omega)) ?_
    refine .mv rfl rfl (.mv rfl rfl ?_)
    refine .q rfl (.idxN sl_22_A (by assumption) rfl rfl (by omega)) ?_
    refine .q rfl (.loadI on_2_A (by assumption) rfl (by omega)) ?_
    refine .q rfl (.cmp rfl rfl rfl) ?_
    refine .done ?_
    refine w _ _ ?_
    refine .cond rfl (fun p => ?_) (fun p => ?_)
    ·
     try simp only [sps] at p
     refine .seq (fun K14 m => .region (.mv rfl (.nil (m _ _ ?_))))
     refine .ret ?_
     refine c _ _ ?_
     refine ⟨_, rfl, ?_⟩
     exact ⟨rfl, _, rfl, fun e => by omega, fun e => by subst e; first | omega | simp_all⟩
    try simp only [sps] at p
    refine .skip ?_
    refine g _ _ (.seq (fun K15 j => .region (.mv rfl (.nil (j _ _ ?_)))))
    refine .ret ?_
    refine c _ _ ?_
    refine ⟨_, rfl, ?_⟩
    exact ⟨rfl, _, rfl, fun e => by omega, fun e => by subst e; first | omega | simp_all⟩
   try simp only [sps] at x
   refine .skip ?_
   refine a2 _ _ (.region ?_)
   refine .q rfl (.add rfl rfl rfl (by omega) (by omega)) ?_
   refine .mv rfl (.nil ?_)
   refine t (k + 1) _ _ ?_ ?_ ⟨rfl, rfl, rfl, rfl, trivial⟩
   ·
    refine ⟨rfl, ?_⟩
    refine ⟨by omega, by omega, fun i hi => ?_⟩
    by_cases e : i < k
    · exact d i e
    · obtain rfl : i = k := by omega
      assumption
   omega
  try simp only [sps] at h9
  refine .exit ?_
  refine a3 _ _ (.seq (fun K16 s => .seq (fun K17 l => .region (.mv rfl (.q rfl (.len sl_22_A rfl) (.mv rfl (.q rfl (.len sl_22_A rfl) (.q rfl (.cmp rfl rfl rfl) (.nil (l _ _ ?_))))))))))
  refine .cond rfl (fun u => ?_) (fun u => ?_)
  ·
   try simp only [sps] at u
   refine .seq (fun K18 o => .region (.mv rfl (.nil (o _ _ ?_))))
   refine .ret ?_
   refine c _ _ ?_
   refine ⟨_, rfl, ?_⟩
   exact ⟨rfl, _, rfl, fun e => by omega, fun e => by subst e; first | omega | simp_all⟩
  try simp only [sps] at u
  refine .skip ?_
  refine s _ _ (.seq (fun K19 z => .region (.mv rfl (.nil (z _ _ ?_)))))
  refine .ret ?_
  refine c _ _ ?_
  refine ⟨_, rfl, ?_⟩
  exact ⟨rfl, _, rfl, fun _ => eq_of_getD (by omega) fun i hi => d i (by omega), fun _ => rfl⟩
theorem same_c {a b : Option Addr} {xs ys : List Int} {H : GHeap} (h : Ints H a xs := by assumption) (h' : Ints H b ys := by assumption) (hx : xs.length ≤ 1048576 := by omega) (hy : ys.length ≤ 1048576 := by omega) :
    GCalls Try.prog 85 [.slice a xs.length xs.length, .slice b ys.length ys.length] H (Ret (.bool (decide (xs = ys))) H) := by
  refine GCalls.body (N := 9) (rs := [.tmp 4]) Try.func85 rfl rfl rfl rfl (fun Qx c hend => ?_)
  refine .fg [0, 1] rfl ?_
  refine .seq (fun K1 d => .region (.mv rfl (.nil (d _ _ (.seq (fun K2 e => .region (.mv rfl (.mv rfl ?_))))))))
  refine .call rfl rfl rfl rfl @Try.call109 rfl (compare_c) ?_
  rintro _ _ ⟨rfl, n, rfl, hn⟩
  refine .q rfl (.cmp rfl rfl rfl) (.mv rfl (.nil (e _ _ ?_)))
  refine .ret ?_
  refine c _ _ ?_
  refine ⟨_, rfl, ?_⟩
  exact .of (congrArg _ (by rw [Bool.eq_iff_iff]; simp [hn]))
theorem l01Same_c {a b : Option Addr} {xs ys : List Int} {H : GHeap} (h : Ints H a xs := by assumption) (h' : Ints H b ys := by assumption) (hx : xs.length ≤ 1048576 := by omega) (hy : ys.length ≤ 1048576 := by omega) :
    GCalls Try.prog 60 [.slice a xs.length xs.length, .slice b ys.length ys.length] H (Ret (.bool (decide (xs = ys))) H) := by
  refine GCalls.body (N := 26) (rs := [.tmp 4]) Try.func60 rfl rfl rfl rfl (fun Qx c hend => ?_)
  refine .fg [0, 1] rfl ?_
  refine .seq (fun K1 v => .region (.mv rfl (.nil (v _ _ (.seq (fun K2 s => .seq (fun K3 y => .region (.mv rfl (.q rfl (.len sl_22_A rfl) (.mv rfl (.q rfl (.len sl_22_A rfl) (.q rfl (.cmp rfl rfl rfl) (.nil (y _ _ ?_))))))))))))))
  refine .cond rfl (fun m => ?_) (fun m => ?_)
  ·
   try simp only [sps] at m
   refine .seq (fun K4 w => .region (.mv rfl (.nil (w _ _ ?_))))
   refine .ret ?_
   refine c _ _ ?_
   refine ⟨_, rfl, ?_⟩
   exact .of (congrArg _ (decide_eq_false fun e => by subst e; first | omega | simp_all))
  try simp only [sps] at m
  refine .skip ?_
  refine s _ _ (.seq (fun K5 r => .seq (fun K6 p => .region (.mv rfl (.nil (p _ _ ?_))))))
  refine .block ?_
  refine .loopR (σ := Nat) [(0, some _), (1, some _)] (fun k => [(5, some (.int .i64 (k : Int)))]) (fun k H' => H = H' ∧ k ≤ xs.length ∧ ∀ i, i < k → xs.getD i 0 = ys.getD i 0) (fun k => xs.length - k) (0) ⟨rfl, rfl, trivial⟩ ⟨rfl, trivial⟩ ?_ ?_
  ·
   refine ⟨rfl, ?_⟩
   exact ⟨by omega, fun i hi => by omega⟩
  rintro k _ ⟨rfl, hI⟩ KL1 o
  refine .forget (fr' := [(5, some (.int .i64 (k : Int))), (0, some _), (1, some _)]) ⟨rfl, rfl, rfl, trivial⟩ ?_
  obtain ⟨hk, d⟩ := hI
  refine .seq (fun K7 u => .seq (fun K8 t => .region (.mv rfl (.mv rfl (.q rfl (.len sl_22_A rfl) (.q rfl (.cmp rfl rfl rfl) (.nil (t _ _ ?_))))))))
  refine .cond rfl (fun n => ?_) (fun n => ?_)
  ·
   try simp only [sps] at n
   refine .skip ?_
   refine u _ _ (.seq (fun K9 x => ?_))
   refine .block ?_
   refine .seq (fun K10 l => ?_)
   refine .regionD mo_B (.q 0 (.q 1 (.q 2 (.q 3 (.q 4 (.q 5 (.q 6 (.q 7 (.q 8 (.done)))))))))) (by kernel_rfl) ?_
   refine .mv rfl rfl (.mv rfl rfl ?_)
   refine .q rfl (.idxN sl_22_A (by assumption) rfl rfl (by omega)) ?_
   refine .q rfl (.loadI on_2_A (by assumption) rfl (by omega)) ?_
   refine .mv rfl rfl (.mv rfl rfl ?_)
   refine .q rfl (.idxN sl_22_A (by assumption) rfl rfl (by omega)) ?_
   refine .q rfl (.loadI on_2_A (by assumption) rfl (by omega)) ?_
   refine .q rfl (.cmp rfl rfl rfl) ?_
   refine .done ?_
   refine l _ _ ?_
   refine .cond rfl (fun g => ?_) (fun g => ?_)
   ·
    try simp only [sps] at g
    refine .seq (fun K11 f => .region (.mv rfl (.nil (f _ _ ?_))))
    refine .ret ?_
    refine c _ _ ?_
    refine ⟨_, rfl, ?_⟩
    exact .of (congrArg _ (decide_eq_false fun e => by subst e; first | omega | simp_all))
   try simp only [sps] at g
   refine .skip ?_
   refine x _ _ (.region (.mv rfl ?_))
   refine .q rfl (.add rfl rfl rfl (by omega) (by omega)) ?_
   refine .mv rfl (.nil ?_)
   refine o (k + 1) _ _ ?_ ?_ ⟨rfl, rfl, rfl, trivial⟩
   ·
    refine ⟨rfl, ?_⟩
    refine ⟨by omega, fun i hi => ?_⟩
    by_cases e : i < k
    · exact d i e
    · obtain rfl : i = k := by omega
      assumption
   omega
  try simp only [sps] at n
  refine .exit ?_
  refine r _ _ (.seq (fun K12 j => .region (.mv rfl (.nil (j _ _ ?_)))))
  refine .ret ?_
  refine c _ _ ?_
  refine ⟨_, rfl, ?_⟩
  exact .of (congrArg _ (decide_eq_true (eq_of_getD (by omega) fun i hi => d i (by omega))))
theorem l01Same2_c {a b : Option Addr} {xs ys : List (List Int)} {r r' : Nat → Option Addr} {H : GHeap} (h : Intss H a xs r := by assumption) (h' : Intss H b ys r' := by assumption) (hx : xs.length ≤ 1048576 := by omega) (hy : ys.length ≤ 1048576 := by omega) (hxs : ∀ i, (xs.getD i []).length ≤ 1048576 := by assumption) (hys : ∀ i, (ys.getD i []).length ≤ 1048576 := by assumption) :
    GCalls Try.prog 61 [.slice a xs.length xs.length, .slice b ys.length ys.length] H (Ret (.bool (decide (xs = ys))) H) := by
  refine GCalls.body (N := 27) (rs := [.tmp 4]) Try.func61 rfl rfl rfl rfl (fun Qx d hend => ?_)
  refine .fg [0, 1] rfl ?_
  refine .seq (fun K1 x => .region (.mv rfl (.nil (x _ _ (.seq (fun K2 u => .seq (fun K3 a0 => .region (.mv rfl (.q rfl (.len sl_23_B rfl) (.mv rfl (.q rfl (.len sl_23_B rfl) (.q rfl (.cmp rfl rfl rfl) (.nil (a0 _ _ ?_))))))))))))))
  refine .cond rfl (fun m => ?_) (fun m => ?_)
  ·
   try simp only [sps] at m
   refine .seq (fun K4 y => .region (.mv rfl (.nil (y _ _ ?_))))
   refine .ret ?_
   refine d _ _ ?_
   refine ⟨_, rfl, ?_⟩
   exact .of (congrArg _ (decide_eq_false fun e => by subst e; first | omega | simp_all))
  try simp only [sps] at m
  refine .skip ?_
  refine u _ _ (.seq (fun K5 t => .seq (fun K6 s => .region (.mv rfl (.nil (s _ _ ?_))))))
  refine .block ?_
  refine .loopR (σ := Nat) [(0, some _), (1, some _)] (fun k => [(5, some (.int .i64 (k : Int)))]) (fun k H' => H = H' ∧ k ≤ xs.length ∧ ∀ i, i < k → xs.getD i [] = ys.getD i []) (fun k => xs.length - k) (0) ⟨rfl, rfl, trivial⟩ ⟨rfl, trivial⟩ ?_ ?_
  ·
   refine ⟨rfl, ?_⟩
   exact ⟨by omega, fun i hi => by omega⟩
  rintro k _ ⟨rfl, hI⟩ KL1 p
  refine .forget (fr' := [(5, some (.int .i64 (k : Int))), (0, some _), (1, some _)]) ⟨rfl, rfl, rfl, trivial⟩ ?_
  obtain ⟨hk, f⟩ := hI
  refine .seq (fun K7 w => .seq (fun K8 v => .region (.mv rfl (.mv rfl (.q rfl (.len sl_23_B rfl) (.q rfl (.cmp rfl rfl rfl) (.nil (v _ _ ?_))))))))
  refine .cond rfl (fun n => ?_) (fun n => ?_)
  ·
   try simp only [sps] at n
   refine .skip ?_
   refine w _ _ (.seq (fun K9 z => ?_))
   refine .block ?_
   refine .seq (fun K10 o => ?_)
   refine .regionD mo_B (.q 0 (.q 1 (.q 2 (.q 3 (.q 4 (.q 5 (.q 6 (.q 7 (.c 8 0 (.q 9 (.done))))))))))) (by kernel_rfl) ?_
   have q1 := hxs k
   have q2 := hys k
   have q3 := h.2 k (by omega)
   have q4 := h'.2 k (by omega)
   refine .mv rfl rfl (.mv rfl rfl ?_)
   refine .q rfl (.idxN sl_23_B (Intss.sl (by assumption)) rfl rfl (by omega)) ?_
   refine .q rfl (.loadR on_22_B (by assumption) rfl (by omega)) ?_
   refine .mv rfl rfl (.mv rfl rfl ?_)
   refine .q rfl (.idxN sl_23_B (Intss.sl (by assumption)) rfl rfl (by omega)) ?_
   refine .q rfl (.loadR on_22_B (by assumption) rfl (by omega)) ?_
   refine .callQ0 rfl rfl rfl rfl rfl @Try.call60 rfl (l01Same_c) ?_
   refine .q rfl (.not rfl) ?_
   refine .done ?_
   refine o _ _ ?_
   refine .cond rfl (fun l => ?_) (fun l => ?_)
   ·
    try simp only [sps] at l
    refine .seq (fun K11 g => .region (.mv rfl (.nil (g _ _ ?_))))
    refine .ret ?_
    refine d _ _ ?_
    refine ⟨_, rfl, ?_⟩
    exact .of (congrArg _ (decide_eq_false fun e => by subst e; first | omega | simp_all))
   try simp only [sps] at l
   refine .skip ?_
   refine z _ _ (.region (.mv rfl ?_))
   refine .q rfl (.add rfl rfl rfl (by omega) (by omega)) ?_
   refine .mv rfl (.nil ?_)
   refine p (k + 1) _ _ ?_ ?_ ⟨rfl, rfl, rfl, trivial⟩
   ·
    refine ⟨rfl, ?_⟩
    refine ⟨by omega, fun i hi => ?_⟩
    by_cases e : i < k
    · exact f i e
    · obtain rfl : i = k := by omega
      assumption
   omega
  try simp only [sps] at n
  refine .exit ?_
  refine t _ _ (.seq (fun K12 j => .region (.mv rfl (.nil (j _ _ ?_)))))
  refine .ret ?_
  refine d _ _ ?_
  refine ⟨_, rfl, ?_⟩
  exact .of (congrArg _ (decide_eq_true (eqss_of_getD (by omega) fun i hi => f i (by omega))))
theorem sameCategory_c {g o g' o' : Nat} {c d : Cat} {p q : CatP} {H : GHeap} (h : Cat.At H g o c p := by assumption) (h' : Cat.At H g' o' d q := by assumption) (hs : c.Small := by assumption) (hs' : d.Small := by assumption) :
    GCalls Try.prog 54 [.pointer (some ⟨g, o, none⟩), .pointer (some ⟨g', o', none⟩)] H (Ret (.bool (B (c = d))) H) := by
  refine GCalls.body (N := 89) (rs := [.tmp 4]) Try.func54 rfl rfl rfl rfl (fun Qx a hend => ?_)
  refine .fg [0, 1] rfl ?_
  obtain ⟨c0, c1, c2, c3, c4, i1, i2, i3, i4⟩ := h.get
  obtain ⟨d0, d1, d2, d3, d4, j1, j2, j3, j4⟩ := h'.get
  obtain ⟨s1, s2, s3, s4, s5, s6⟩ := hs
  obtain ⟨t1, t2, t3, t4, t5, t6⟩ := hs'
  refine .seq (fun K1 b1 => .region (.mv rfl (.nil (b1 _ _ (.seq (fun K2 a7 => .seq (fun K3 b => ?_)))))))
  refine .regionD mo_B (.q 0 (.q 1 (.q 2 (.q 3 (.q 4 (.q 5 (.q 6 (.q 7 (.q 8 (.q 9 (.q 10 (.q 11 (.q 12 (.q 13 (.q 14 (.q 15 (.q 16 (.q 17 (.c 18 0 (.q 19 (.q 20 (.q 21 (.q 22 (.q 23 (.q 24 (.q 25 (.q 26 (.q 27 (.q 28 (.q 29 (.c 30 0 (.q 31 (.q 32 (.q 33 (.q 34 (.q 35 (.q 36 (.q 37 (.q 38 (.q 39 (.q 40 (.q 41 (.c 42 0 (.q 43 (.q 44 (.q 45 (.q 46 (.q 47 (.q 48 (.q 49 (.q 50 (.q 51 (.q 52 (.q 53 (.q 54 (.q 55 (.q 56 (.q 57 (.done))))))))))))))))))))))))))))))))))))))))))))))))))))))))))) (by kernel_rfl) ?_
  refine .mv rfl rfl (.q rfl (.nilCheck rfl) (.q rfl (.fieldAddr fo_32_0_B rfl) ?_))
  refine .q rfl (.load on_2_A rfl (by assumption)) ?_
  refine .mv rfl rfl (.q rfl (.nilCheck rfl) (.q rfl (.fieldAddr fo_32_0_B rfl) ?_))
  refine .q rfl (.load on_2_A rfl (by assumption)) ?_
  refine .q rfl (.cmp rfl rfl rfl) (.mv rfl rfl ?_)
  refine .split (fun a3 => ?_) (fun a3 => ?_)
  ·
   try simp only [sps] at a3
   refine .z rfl (.z rfl (.z rfl (.z rfl (.z rfl (.z rfl (.z rfl (.z rfl (.sgc rfl rfl rfl rfl rfl rfl (.z rfl (.q rfl (.pickT rfl rfl) (.mv rfl rfl (.z rfl (.z rfl (.z rfl (.z rfl ?_)))))))))))))))
   refine .z rfl (.z rfl (.z rfl (.z rfl (.sgc rfl rfl rfl rfl rfl rfl (.z rfl (.q rfl (.pickT rfl rfl) (.mv rfl rfl (.z rfl (.z rfl (.z rfl (.z rfl (.z rfl (.z rfl (.z rfl (.z rfl ?_)))))))))))))))
   refine .sgc rfl rfl rfl rfl rfl rfl (.z rfl (.q rfl (.pickT rfl rfl) (.mv rfl rfl (.z rfl (.z rfl (.z rfl (.z rfl (.z rfl (.z rfl (.z rfl (.z rfl (.z rfl (.z rfl (.z rfl (.q rfl (.pickT rfl rfl) ?_)))))))))))))))
   refine .done ?_
   refine b _ _ ?_
   refine .condT rfl ?_
   refine .seq (fun K4 a4 => .region (.mv rfl (.nil (a4 _ _ ?_))))
   refine .ret ?_
   refine a _ _ ?_
   refine ⟨_, rfl, ?_⟩
   exact .of (congrArg _ (B_false fun e => by subst e; first | omega | simp_all))
  try simp only [sps] at a3
  refine .qg rfl (.move rfl) (.qg rfl (.nilCheck rfl) (.qg rfl (.fieldAddr fo_32_1_B rfl) ?_))
  refine .qg rfl (.load on_22_B rfl (by assumption)) ?_
  refine .qg rfl (.move rfl) (.qg rfl (.nilCheck rfl) (.qg rfl (.fieldAddr fo_32_1_B rfl) ?_))
  refine .qg rfl (.load on_22_B rfl (by assumption)) ?_
  refine .callQ0g rfl rfl rfl rfl rfl rfl rfl @Try.call85 rfl (same_c) ?_
  refine .qg rfl (.not rfl) (.q rfl (.pickF rfl rfl) (.mv rfl rfl ?_))
  refine .split (fun a2 => ?_) (fun a2 => ?_)
  ·
   try simp only [sps] at a2
   refine .z rfl (.z rfl (.z rfl (.z rfl (.z rfl (.z rfl (.z rfl (.z rfl (.sgc rfl rfl rfl rfl rfl rfl (.z rfl (.q rfl (.pickT rfl rfl) (.mv rfl rfl (.z rfl (.z rfl (.z rfl (.z rfl ?_)))))))))))))))
   refine .z rfl (.z rfl (.z rfl (.z rfl (.sgc rfl rfl rfl rfl rfl rfl (.z rfl (.q rfl (.pickT rfl rfl) (.mv rfl rfl (.z rfl (.z rfl (.z rfl (.z rfl (.z rfl (.z rfl (.z rfl (.z rfl ?_)))))))))))))))
   refine .z rfl (.z rfl (.z rfl (.q rfl (.pickT rfl rfl) ?_)))
   refine .done ?_
   refine b _ _ ?_
   refine .condT rfl ?_
   refine .seq (fun K5 a8 => .region (.mv rfl (.nil (a8 _ _ ?_))))
   refine .ret ?_
   refine a _ _ ?_
   refine ⟨_, rfl, ?_⟩
   exact .of (congrArg _ (B_false fun e => by subst e; first | omega | simp_all))
  try simp only [sps] at a2
  refine .qg rfl (.move rfl) (.qg rfl (.nilCheck rfl) (.qg rfl (.fieldAddr fo_32_2_B rfl) ?_))
  refine .qg rfl (.load on_22_B rfl (by assumption)) ?_
  refine .qg rfl (.move rfl) (.qg rfl (.nilCheck rfl) (.qg rfl (.fieldAddr fo_32_2_B rfl) ?_))
  refine .qg rfl (.load on_22_B rfl (by assumption)) ?_
  refine .callQ0g rfl rfl rfl rfl rfl rfl rfl @Try.call85 rfl (same_c) ?_
  refine .qg rfl (.not rfl) (.q rfl (.pickF rfl rfl) (.mv rfl rfl ?_))
  refine .split (fun a1 => ?_) (fun a1 => ?_)
  ·
   try simp only [sps] at a1
   refine .z rfl (.z rfl (.z rfl (.z rfl (.z rfl (.z rfl (.z rfl (.z rfl (.sgc rfl rfl rfl rfl rfl rfl (.z rfl (.q rfl (.pickT rfl rfl) (.mv rfl rfl (.z rfl (.z rfl (.z rfl (.z rfl ?_)))))))))))))))
   refine .z rfl (.z rfl (.z rfl (.z rfl (.z rfl (.z rfl (.z rfl (.q rfl (.pickT rfl rfl) ?_)))))))
   refine .done ?_
   refine b _ _ ?_
   refine .condT rfl ?_
   refine .seq (fun K6 a6 => .region (.mv rfl (.nil (a6 _ _ ?_))))
   refine .ret ?_
   refine a _ _ ?_
   refine ⟨_, rfl, ?_⟩
   exact .of (congrArg _ (B_false fun e => by subst e; first | omega | simp_all))
  try simp only [sps] at a1
  refine .qg rfl (.move rfl) (.qg rfl (.nilCheck rfl) (.qg rfl (.fieldAddr fo_32_3_B rfl) ?_))
  refine .qg rfl (.load on_22_B rfl (by assumption)) ?_
  refine .qg rfl (.move rfl) (.qg rfl (.nilCheck rfl) (.qg rfl (.fieldAddr fo_32_3_B rfl) ?_))
  refine .qg rfl (.load on_22_B rfl (by assumption)) ?_
  refine .callQ0g rfl rfl rfl rfl rfl rfl rfl @Try.call85 rfl (same_c) ?_
  refine .qg rfl (.not rfl) (.q rfl (.pickF rfl rfl) (.mv rfl rfl ?_))
  refine .split (fun w => ?_) (fun w => ?_)
  ·
   try simp only [sps] at w
   refine .z rfl (.z rfl (.z rfl (.z rfl (.z rfl (.z rfl (.z rfl (.z rfl (.z rfl (.z rfl (.z rfl (.q rfl (.pickT rfl rfl) ?_)))))))))))
   refine .done ?_
   refine b _ _ ?_
   refine .condT rfl ?_
   refine .seq (fun K7 b0 => .region (.mv rfl (.nil (b0 _ _ ?_))))
   refine .ret ?_
   refine a _ _ ?_
   refine ⟨_, rfl, ?_⟩
   exact .of (congrArg _ (B_false fun e => by subst e; first | omega | simp_all))
  try simp only [sps] at w
  refine .qg rfl (.move rfl) (.qg rfl (.nilCheck rfl) (.qg rfl (.fieldAddr fo_32_4_B rfl) ?_))
  refine .qg rfl (.load on_23_B rfl (by assumption)) ?_
  refine .qg rfl (.len sl_23_B rfl) (.qg rfl (.move rfl) (.qg rfl (.nilCheck rfl) (.qg rfl (.fieldAddr fo_32_4_B rfl) ?_)))
  refine .qg rfl (.load on_23_B rfl (by assumption)) ?_
  refine .qg rfl (.len sl_23_B rfl) (.qg rfl (.cmp rfl rfl rfl) (.q rfl (.pickF rfl rfl) ?_))
  refine .done ?_
  refine b _ _ ?_
  refine .cond rfl (fun s => ?_) (fun s => ?_)
  ·
   try simp only [sps] at s
   refine .seq (fun K8 a9 => .region (.mv rfl (.nil (a9 _ _ ?_))))
   refine .ret ?_
   refine a _ _ ?_
   refine ⟨_, rfl, ?_⟩
   exact .of (congrArg _ (B_false fun e => by subst e; first | omega | simp_all))
  try simp only [sps] at s
  refine .skip ?_
  refine a7 _ _ (.seq (fun K9 a5 => .seq (fun K10 a0 => .region (.mv rfl (.q rfl (.nilCheck rfl) (.q rfl (.fieldAddr fo_32_4_B rfl) ?_))))))
  refine .q rfl (.load on_23_B rfl (by assumption)) ?_
  refine .q rfl (.len sl_23_B rfl) (.mv rfl (.nil (a0 _ _ ?_)))
  refine .block ?_
  refine .loopR (σ := Nat) [(0, some _), (1, some _), (68, some _)] (fun k => [(69, some (.int .i64 (k : Int)))]) (fun k H' => H = H' ∧ k ≤ c.comp.length ∧ ∀ i, i < k → c.comp.getD i [] = d.comp.getD i []) (fun k => c.comp.length - k) (0) ⟨rfl, rfl, rfl, trivial⟩ ⟨rfl, trivial⟩ ?_ ?_
  ·
   refine ⟨rfl, ?_⟩
   exact ⟨by omega, fun i hi => by omega⟩
  rintro k _ ⟨rfl, hI⟩ KL1 v
  refine .forget (fr' := [(69, some (.int .i64 (k : Int))), (0, some _), (1, some _), (68, some _)]) ⟨rfl, rfl, rfl, rfl, trivial⟩ ?_
  obtain ⟨hk, f⟩ := hI
  refine .seq (fun K11 j => .region (.q rfl (.cmp rfl rfl rfl) (.nil (j _ _ (.seq (fun K12 l => ?_))))))
  refine .cond rfl (fun x => ?_) (fun x => ?_)
  ·
   try simp only [sps] at x
   refine .skip ?_
   refine l _ _ (.seq (fun K13 y => ?_))
   refine .block ?_
   refine .seq (fun K14 t => .region (.mv rfl (.mv rfl (.nil (t _ _ (.seq (fun K15 m => ?_)))))))
   refine .regionD mo_B (.q 0 (.q 1 (.q 2 (.q 3 (.q 4 (.q 5 (.q 6 (.q 7 (.q 8 (.q 9 (.q 10 (.q 11 (.q 12 (.q 13 (.c 14 0 (.q 15 (.done))))))))))))))))) (by kernel_rfl) ?_
   have q1 := s5 k
   have q2 := t5 k
   have q3 := i4.2 k (by omega)
   have q4 := j4.2 k (by omega)
   refine .mv rfl rfl (.q rfl (.nilCheck rfl) (.q rfl (.fieldAddr fo_32_4_B rfl) ?_))
   refine .q rfl (.load on_23_B rfl (by assumption)) ?_
   refine .mv rfl rfl ?_
   refine .q rfl (.idxN sl_23_B (Intss.sl (by assumption)) rfl rfl (by omega)) ?_
   refine .q rfl (.loadR on_22_B (by assumption) rfl (by omega)) ?_
   refine .mv rfl rfl (.q rfl (.nilCheck rfl) (.q rfl (.fieldAddr fo_32_4_B rfl) ?_))
   refine .q rfl (.load on_23_B rfl (by assumption)) ?_
   refine .mv rfl rfl ?_
   refine .q rfl (.idxN sl_23_B (Intss.sl (by assumption)) rfl rfl (by omega)) ?_
   refine .q rfl (.loadR on_22_B (by assumption) rfl (by omega)) ?_
   refine .callQ0 rfl rfl rfl rfl rfl @Try.call85 rfl (same_c) ?_
   refine .q rfl (.not rfl) ?_
   refine .done ?_
   refine m _ _ ?_
   refine .cond rfl (fun r => ?_) (fun r => ?_)
   ·
    try simp only [sps] at r
    refine .seq (fun K16 u => .region (.mv rfl (.nil (u _ _ ?_))))
    refine .ret ?_
    refine a _ _ ?_
    refine ⟨_, rfl, ?_⟩
    exact .of (congrArg _ (B_false fun e => by subst e; first | omega | simp_all))
   try simp only [sps] at r
   refine .skip ?_
   refine y _ _ (.region ?_)
   refine .q rfl (.add rfl rfl rfl (by omega) (by omega)) ?_
   refine .mv rfl (.nil ?_)
   refine v (k + 1) _ _ ?_ ?_ ⟨rfl, rfl, rfl, rfl, trivial⟩
   ·
    refine ⟨rfl, ?_⟩
    refine ⟨by omega, fun i hi => ?_⟩
    by_cases e : i < k
    · exact f i e
    · obtain rfl : i = k := by omega
      assumption
   omega
  try simp only [sps] at x
  refine .exit ?_
  refine a5 _ _ (.seq (fun K17 n => .region (.mv rfl (.nil (n _ _ ?_)))))
  refine .ret ?_
  refine a _ _ ?_
  refine ⟨_, rfl, ?_⟩
  exact .of (congrArg _ (B_true (Cat.eq_iff.2 ⟨by assumption, by assumption, by assumption, by assumption, eqss_of_getD (by omega) fun i hi => f i (by omega)⟩)))
theorem l02Same_c {c d : Cat} {p p' : CatP} {H : GHeap} (hin : c.In H p := by assumption) (hin' : d.In H p' := by assumption) (hs : c.Small := by assumption) (hs' : d.Small := by assumption) :
    GCalls Try.prog 42 [.agg (c.cells p).toArray, .agg (d.cells p').toArray] H (Ret (.bool (B (c = d))) H) := by
  refine GCalls.ret rfl ?_
  obtain ⟨s1, s2, s3, s4, s5, s6⟩ := hs
  obtain ⟨t1, t2, t3, t4, t5, t6⟩ := hs'
  refine GCalls.body (N := 38) (rs := [.tmp 4]) Try.func42 rfl rfl rfl rfl (fun Qx a hend => ?_)
  refine .fg [0, 1] rfl ?_
  refine .seq (fun K1 l => .region (.d rfl rfl rfl (.box rfl sz_32_D rfl CIs.mk) ?_))
  show GRun _ _ _ _ _ _ (H.push (.row (c.cells p) 32 true))
  have b := GHeap.le_push H (.row (c.cells p) 32 true)
  have hb : Cat.At (H.push (.row (c.cells p) 32 true)) H.next 0 c p := ⟨Mem.new _ _ _ _, hin.mono b⟩
  generalize H.push (.row (c.cells p) 32 true) = H1 at *
  refine .d rfl rfl rfl (.box rfl sz_32_D rfl CIs.mk) ?_
  show GRun _ _ _ _ _ _ (H1.push (.row (d.cells p') 32 true))
  have f := GHeap.le_push H1 (.row (d.cells p') 32 true)
  have hb' : Cat.At (H1.push (.row (d.cells p') 32 true)) H1.next 0 d p' := ⟨Mem.new _ _ _ _, (hin'.mono b).mono f⟩
  replace hb := hb.mono f
  replace b := b.trans f
  generalize H1.push (.row (d.cells p') 32 true) = H2 at *
  obtain ⟨c0, c1, c2, c3, c4, i1, i2, i3, i4⟩ := hb.get
  obtain ⟨d0, d1, d2, d3, d4, j1, j2, j3, j4⟩ := hb'.get
  refine .mv rfl (.nil (l _ _ (.seq (fun K2 g => .region (.q rfl (.fieldAddr fo_32_0_B rfl) ?_)))))
  refine .q rfl (.load on_2_A rfl (by assumption)) ?_
  refine .q rfl (.fieldAddr fo_32_0_B rfl) ?_
  refine .q rfl (.load on_2_A rfl (by assumption)) ?_
  refine .q rfl (.cmp rfl rfl rfl) (.mv rfl ?_)
  refine .split (fun h => ?_) (fun h => ?_)
  ·
   try simp only [sps] at h
   refine .qg rfl (.fieldAddr fo_32_1_B rfl) ?_
   refine .qg rfl (.load on_22_B rfl (by assumption)) ?_
   refine .qg rfl (.fieldAddr fo_32_1_B rfl) ?_
   refine .qg rfl (.load on_22_B rfl (by assumption)) ?_
   refine .callQg rfl rfl rfl rfl rfl rfl @Try.call60 rfl (l01Same_c) ?_
   refine .q rfl (.pickT rfl rfl) (.mv rfl ?_)
   refine .split (fun j => ?_) (fun j => ?_)
   ·
    try simp only [sps] at j
    refine .qg rfl (.fieldAddr fo_32_2_B rfl) ?_
    refine .qg rfl (.load on_22_B rfl (by assumption)) ?_
    refine .qg rfl (.fieldAddr fo_32_2_B rfl) ?_
    refine .qg rfl (.load on_22_B rfl (by assumption)) ?_
    refine .callQg rfl rfl rfl rfl rfl rfl @Try.call60 rfl (l01Same_c) ?_
    refine .q rfl (.pickT rfl rfl) (.mv rfl ?_)
    refine .split (fun k => ?_) (fun k => ?_)
    ·
     try simp only [sps] at k
     refine .qg rfl (.fieldAddr fo_32_3_B rfl) ?_
     refine .qg rfl (.load on_22_B rfl (by assumption)) ?_
     refine .qg rfl (.fieldAddr fo_32_3_B rfl) ?_
     refine .qg rfl (.load on_22_B rfl (by assumption)) ?_
     refine .callQg rfl rfl rfl rfl rfl rfl @Try.call60 rfl (l01Same_c) ?_
     refine .q rfl (.pickT rfl rfl) (.mv rfl ?_)
     refine .split (fun i => ?_) (fun i => ?_)
     ·
      try simp only [sps] at i
      refine .qg rfl (.fieldAddr fo_32_4_B rfl) ?_
      refine .qg rfl (.load on_23_B rfl (by assumption)) ?_
      refine .qg rfl (.fieldAddr fo_32_4_B rfl) ?_
      refine .qg rfl (.load on_23_B rfl (by assumption)) ?_
      refine .callQg rfl rfl rfl rfl rfl rfl @Try.call61 rfl (l01Same2_c) ?_
      refine .q rfl (.pickT rfl rfl) (.mv rfl (.nil (g _ _ ?_)))
      refine .ret ?_
      refine a _ _ ?_
      refine ⟨_, rfl, ?_⟩
      exact ⟨congrArg _ (by rw [Bool.eq_iff_iff, B_iff, Cat.eq_iff]; simp_all), b⟩
     try simp only [sps] at i
     refine .z rfl (.z rfl (.z rfl (.z rfl (.z rfl (.q rfl (.pickF rfl rfl) (.mv rfl (.nil (g _ _ ?_))))))))
     refine .ret ?_
     refine a _ _ ?_
     refine ⟨_, rfl, ?_⟩
     exact ⟨congrArg _ (B_false fun e => by subst e; first | omega | simp_all), b⟩
    try simp only [sps] at k
    refine .z rfl (.z rfl (.z rfl (.z rfl (.z rfl (.q rfl (.pickF rfl rfl) (.mv rfl (.z rfl (.z rfl (.z rfl (.z rfl (.z rfl (.q rfl (.pickF rfl rfl) (.mv rfl (.nil (g _ _ ?_)))))))))))))))
    refine .ret ?_
    refine a _ _ ?_
    refine ⟨_, rfl, ?_⟩
    exact ⟨congrArg _ (B_false fun e => by subst e; first | omega | simp_all), b⟩
   try simp only [sps] at j
   refine .z rfl (.z rfl (.z rfl (.z rfl (.z rfl (.q rfl (.pickF rfl rfl) (.mv rfl (.z rfl (.z rfl (.z rfl (.z rfl (.z rfl (.q rfl (.pickF rfl rfl) (.mv rfl (.z rfl (.z rfl ?_)))))))))))))))
   refine .z rfl (.z rfl (.z rfl (.q rfl (.pickF rfl rfl) (.mv rfl (.nil (g _ _ ?_))))))
   refine .ret ?_
   refine a _ _ ?_
   refine ⟨_, rfl, ?_⟩
   exact ⟨congrArg _ (B_false fun e => by subst e; first | omega | simp_all), b⟩
  try simp only [sps] at h
  refine .z rfl (.z rfl (.z rfl (.z rfl (.z rfl (.q rfl (.pickF rfl rfl) (.mv rfl (.z rfl (.z rfl (.z rfl (.z rfl (.z rfl (.q rfl (.pickF rfl rfl) (.mv rfl (.z rfl (.z rfl ?_)))))))))))))))
  refine .z rfl (.z rfl (.z rfl (.q rfl (.pickF rfl rfl) (.mv rfl (.z rfl (.z rfl (.z rfl (.z rfl (.z rfl (.q rfl (.pickF rfl rfl) (.mv rfl (.nil (g _ _ ?_)))))))))))))
  refine .ret ?_
  refine a _ _ ?_
  refine ⟨_, rfl, ?_⟩
  exact ⟨congrArg _ (B_false fun e => by subst e; first | omega | simp_all), b⟩
theorem areCategories_c {a : Option Addr} {n : Nat} {G O : Nat → Nat} {C : Nat → Cat} {P : Nat → CatP} {H : GHeap} (h : SlA H a n (fun i => .pointer (some ⟨G i, O i, none⟩)) := by assumption) (hn : n ≤ 1048576 := by omega) (hc : ∀ i, i < n → Cat.At H (G i) (O i) (C i) (P i) := by assumption) (hs : ∀ i, i < n → (C i).Small := by assumption) :
    GCalls Try.prog 105 [.slice a n n] H (Ret (.bool (B (∀ i, i < n → (C i).Is))) H) := by
  refine GCalls.body (N := 15) (rs := [.tmp 2]) Try.func105 rfl rfl rfl rfl (fun Qx b hend => ?_)
  refine .fg [0] rfl ?_
  refine .seq (fun K1 r => .region (.mv rfl (.nil (r _ _ (.seq (fun K2 m => .seq (fun K3 u => .region (.mv rfl (.q rfl (.len sl_139_F rfl) (.mv rfl (.nil (u _ _ ?_))))))))))))
  refine .block ?_
  refine .loopR (σ := Nat) [(5, some _), (6, some _)] (fun k => [(7, some (.int .i64 (k : Int)))]) (fun k H' => H = H' ∧ k ≤ n ∧ ∀ i, i < k → (C i).Is) (fun k => n - k) (0) ⟨rfl, rfl, trivial⟩ ⟨rfl, trivial⟩ ?_ ?_
  ·
   refine ⟨rfl, ?_⟩
   exact ⟨by omega, fun i hi => by omega⟩
  rintro k _ ⟨rfl, hI⟩ KL1 g
  refine .forget (fr' := [(7, some (.int .i64 (k : Int))), (5, some _), (6, some _)]) ⟨rfl, rfl, rfl, trivial⟩ ?_
  obtain ⟨hk, c⟩ := hI
  refine .seq (fun K4 s => .region (.q rfl (.cmp rfl rfl rfl) (.nil (s _ _ (.seq (fun K5 l => ?_))))))
  refine .cond rfl (fun h8 => ?_) (fun h8 => ?_)
  ·
   try simp only [sps] at h8
   refine .skip ?_
   refine l _ _ (.seq (fun K6 j => ?_))
   refine .block ?_
   refine .seq (fun K7 p => .region ?_)
   have q1 := hc k (by omega)
   have q2 := hs k (by omega)
   refine .q rfl (.idxN sl_139_F h rfl rfl (by omega)) ?_
   refine .q rfl (.loadE on_91_F h rfl (by omega)) ?_
   refine .mv rfl (.nil (p _ _ (.seq (fun K8 o => .region (.mv rfl ?_)))))
   refine .callQ rfl rfl rfl rfl @Try.call110 rfl (isCategory_c) ?_
   refine .q rfl (.not rfl) (.nil (o _ _ ?_))
   refine .cond rfl (fun f => ?_) (fun f => ?_)
   ·
    try simp only [sps] at f
    refine .seq (fun K9 t => .region (.mv rfl (.nil (t _ _ ?_))))
    refine .ret ?_
    refine b _ _ ?_
    refine ⟨_, rfl, ?_⟩
    exact .of (congrArg _ (B_false fun e => by have := e k (by omega); simp_all))
   try simp only [sps] at f
   refine .skip ?_
   refine j _ _ (.region ?_)
   refine .q rfl (.add rfl rfl rfl (by omega) (by omega)) ?_
   refine .mv rfl (.nil ?_)
   refine g (k + 1) _ _ ?_ ?_ ⟨rfl, rfl, rfl, trivial⟩
   ·
    refine ⟨rfl, ?_⟩
    refine ⟨by omega, fun i hi => ?_⟩
    by_cases e : i < k
    · exact c i e
    · obtain rfl : i = k := by omega
      assumption
   omega
  try simp only [sps] at h8
  refine .exit ?_
  refine m _ _ (.seq (fun K10 d => .region (.mv rfl (.nil (d _ _ ?_)))))
  refine .ret ?_
  refine b _ _ ?_
  refine ⟨_, rfl, ?_⟩
  exact .of (congrArg _ (B_true fun i hi => c i (by omega)))
end Go.Proofs.Ytdfnfdellpfjhaa
namespace Go.GL

abbrev Fun.O (f : Fun) (x : Int) : Int := f.ob.getD x.toNat 0
abbrev Fun.A (f : Fun) (a : Int) : Int := f.ar.getD a.toNat 0
structure Fun.Fits (f : Fun) : Prop where
  ol : (f.ob.length : Int) = f.s.obj
  al : f.ar.length = f.s.src.length
  ob : ∀ i, i < f.ob.length → 0 ≤ f.ob.getD i 0 ∧ f.ob.getD i 0 < f.t.obj
  ar : ∀ i, i < f.ar.length → 0 ≤ f.ar.getD i 0 ∧ f.ar.getD i 0 < f.t.src.length
  ends : ∀ a, a < f.ar.length → f.t.src.getD (f.ar.getD a 0).toNat 0 = f.ob.getD (f.s.src.getD a 0).toNat 0 ∧ f.t.tgt.getD (f.ar.getD a 0).toNat 0 = f.ob.getD (f.s.tgt.getD a 0).toNat 0
  ids : ∀ x, x < f.s.idn.length → f.ar.getD (f.s.idn.getD x 0).toNat 0 = f.t.idn.getD (f.ob.getD x 0).toNat 0
  th : ∀ a, a < f.s.src.length → ∀ b, b < f.s.src.length → f.s.tgt.getD a 0 = f.s.src.getD b 0 → f.A (f.s.th a b) = f.t.th (f.ar.getD a 0) (f.ar.getD b 0)
def Fun.Is (f : Fun) : Prop := f.s.Is ∧ f.t.Is ∧ f.Fits

def Tra.Sq (m : Tra) (a : Nat) : Prop := m.s.t.th (m.s.ar.getD a 0) (m.co.getD (m.s.s.tgt.getD a 0).toNat 0) = m.s.t.th (m.co.getD (m.s.s.src.getD a 0).toNat 0) (m.t.ar.getD a 0)
structure Tra.Shape (m : Tra) : Prop where
  s : m.s.Is
  t : m.t.Is
  ps : m.s.s = m.t.s
  pt : m.s.t = m.t.t
  cl : (m.co.length : Int) = m.s.s.obj
  co : ∀ i, i < m.co.length → 0 ≤ m.co.getD i 0 ∧ m.co.getD i 0 < m.s.t.src.length
  ends : ∀ x, x < m.co.length → m.s.t.src.getD (m.co.getD x 0).toNat 0 = m.s.ob.getD x 0 ∧ m.s.t.tgt.getD (m.co.getD x 0).toNat 0 = m.t.ob.getD x 0
def Tra.Is (m : Tra) : Prop := m.Shape ∧ ∀ a, a < m.s.ar.length → m.Sq a
noncomputable def Tra.first (m : Tra) : Int := match firstN m.s.ar.length (fun a => !B (m.Sq a)) with | some a => (a : Int) | none => -1
theorem Sub.over {k : Nat} {v : Option Value} : ∀ {rest fr : Slots}, Sub rest fr → rest.all (fun p => p.1 != k) = true → Sub rest ((k, v) :: fr)
  | [], _, _, _ => trivial
  | (t, some u) :: r, fr, h, hk => by
    simp only [List.all_cons, Bool.and_eq_true, bne_iff_ne, ne_eq] at hk
    exact ⟨by rw [get_cons, if_neg (Ne.symm hk.1)]; exact h.1, h.2.over hk.2⟩
  | (t, none) :: r, fr, h, hk => by
    simp only [List.all_cons, Bool.and_eq_true] at hk
    exact Sub.over (rest := r) h hk.2

section
variable {P : Program} {N : Nat} {ops : Array Oper} {Q : Slots → GHeap → Prop} {fr : Slots} {H Hb : GHeap}
theorem GTree.two {a b s u : Nat} {oa ob os ou : Oper} {da db tx ty : Tmp} {e : TypeId} {z : List Value} {n : Nat} {vs ws : Array Value} (rest : Slots)
    (ha : ops[a]? = some oa) (hb : ops[b]? = some ob) (hs : ops[s]? = some os) (hu : ops[u]? = some ou) (hda : oa.dst = some da) (hdb : ob.dst = some db) (hNa : Nat.blt da N = true) (hNb : Nat.blt db N = true)
    (ga : oa.guard = none) (gb : ob.guard = none) (gs : os.guard = none) (gu : ou.guard = none) (hds : os.dst = none) (hdu : ou.dst = none)
    (oa' : oa.op = .alloc e) (ob' : ob.op = .alloc e) (os' : os.op = .store e (.tmp da) (.tmp tx)) (ou' : ou.op = .store e (.tmp db) (.tmp ty))
    (hz : zeroT P e = some (z, n)) (hfl : z.all flat1 = true) (hsz : (P.info? e).map (·.size) = some n) (hzl : z.length = n)
    (hx : fr.get tx = some (.agg vs)) (hy : fr.get ty = some (.agg ws)) (hvn : vs.size = n) (hwn : ws.size = n) (hv1 : vs.toList.all (·.oneCell') = true) (hw1 : ws.toList.all (·.oneCell') = true)
    (hne : (da != db) = true) (hxa : (tx != da) = true) (hxb : (tx != db) = true) (hya : (ty != da) = true) (hyb : (ty != db) = true)
    (hr : Sub rest fr) (hra : rest.all (fun p => p.1 != da) = true) (hrb : rest.all (fun p => p.1 != db) = true)
    (hle0 : Hb.Le H) (h : ∀ g g' H' fr', H.Le H' → H.next ≤ g → H.next ≤ g' → H'.get g = some (.row vs.toList e true) → H'.get g' = some (.row ws.toList e true) →
      Sub ((da, some (.pointer (some ⟨g, 0, none⟩))) :: (db, some (.pointer (some ⟨g', 0, none⟩))) :: rest) fr' → Q fr' H') :
    GTree P N ops Q (.or (.c a 1 (.c b 1 (.c s 1 (.c u 0 .done)))) (.c b 1 (.c a 1 (.c s 1 (.c u 0 .done))))) fr Hb H := by
  simp only [bne_iff_ne, ne_eq] at hne hxa hxb hya hyb
  have n1 := GHeap.next_push H (.row z e true)
  have l1 := GHeap.le_push H (.row z e true)
  have p1 := GHeap.get_push_new H (.row z e true)
  have n2 := GHeap.next_push (H.push (.row z e true)) (.row z e true)
  have l2 := GHeap.le_push (H.push (.row z e true)) (.row z e true)
  have p2 := GHeap.get_push_new (H.push (.row z e true)) (.row z e true)
  have p1' := l2.2 _ _ p1
  have sv : setAll z 0 vs.toList = vs.toList := setAll_all _ _ (by simp [hzl, hvn])
  have sw : setAll z 0 ws.toList = ws.toList := setAll_all _ _ (by simp [hzl, hwn])
  have le := l1.trans l2
  generalize hK : H.push (.row z e true) = H1 at *
  generalize hK2 : H1.push (.row z e true) = H2 at *
  have q1 := GHeap.ltg p1'
  have q2 := GHeap.ltg p2
  unfold GTree
  refine ⟨?_, ?_⟩
  · refine .d1 ha hda hNa ga (.alloc oa' hz hfl CIs.mk) (by rw [hK]; exact hle0.trans l1) ?_
    rw [hK]
    refine .d1 hb hdb hNb gb (.alloc ob' hz hfl CIs.mk) (by rw [hK2]; exact hle0.trans le) ?_
    rw [hK2]
    refine .s1 hs hds gs (.storeN (g := H.next) (off := 0) os' hsz (by show Slots.get _ da = _; rw [get_cons, if_neg (Ne.symm hne), get_cons, if_pos rfl]) (by show Slots.get _ tx = _; rw [get_cons, if_neg (Ne.symm hxb), get_cons, if_neg (Ne.symm hxa)]; exact hx) hvn hv1 p1' (by omega) CIs.mk) ((hle0.trans le).set_new hle0.1) ?_
    rw [sv]
    refine .s0 hu hdu gu (.storeN (g := H1.next) (off := 0) ou' hsz (by show Slots.get _ db = _; rw [get_cons, if_pos rfl]) (by show Slots.get _ ty = _; rw [get_cons, if_neg (Ne.symm hyb), get_cons, if_neg (Ne.symm hya)]; exact hy) hwn hw1 (by rw [GHeap.get_set_ne (by omega)]; exact p2) (by omega) CIs.mk) ?_
    rw [sw]
    refine GTree.done (h _ _ _ _ ((le.set_new (Nat.le_refl _)).set_new (by omega)) (Nat.le_refl _) (by omega) (by rw [GHeap.get_set_ne (by omega)]; exact GHeap.get_set_eq q1) (GHeap.get_set_eq (by simpa using q2)) ⟨?_, ?_, ?_⟩)
    · rw [get_cons, if_neg (Ne.symm hne), get_cons, if_pos rfl]
    · rw [get_cons, if_pos rfl]
    · exact (hr.over hra).over hrb
  · refine .d1 hb hdb hNb gb (.alloc ob' hz hfl CIs.mk) (by rw [hK]; exact hle0.trans l1) ?_
    rw [hK]
    refine .d1 ha hda hNa ga (.alloc oa' hz hfl CIs.mk) (by rw [hK2]; exact hle0.trans le) ?_
    rw [hK2]
    refine .s1 hs hds gs (.storeN (g := H1.next) (off := 0) os' hsz (by show Slots.get _ da = _; rw [get_cons, if_pos rfl]) (by show Slots.get _ tx = _; rw [get_cons, if_neg (Ne.symm hxa), get_cons, if_neg (Ne.symm hxb)]; exact hx) hvn hv1 p2 (by omega) CIs.mk) ((hle0.trans le).set_new (by have := hle0.1; omega)) ?_
    rw [sv]
    refine .s0 hu hdu gu (.storeN (g := H.next) (off := 0) ou' hsz (by show Slots.get _ db = _; rw [get_cons, if_neg hne, get_cons, if_pos rfl]) (by show Slots.get _ ty = _; rw [get_cons, if_neg (Ne.symm hya), get_cons, if_neg (Ne.symm hyb)]; exact hy) hwn hw1 (by rw [GHeap.get_set_ne (by omega)]; exact p1') (by omega) CIs.mk) ?_
    rw [sw]
    refine GTree.done (h H1.next H.next _ _ ((le.set_new (by omega)).set_new (Nat.le_refl _)) (by omega) (Nat.le_refl _) (by rw [GHeap.get_set_ne (by omega)]; exact GHeap.get_set_eq q2) (GHeap.get_set_eq (by simpa using q1)) ⟨?_, ?_, ?_⟩)
    · rw [get_cons, if_pos rfl]
    · rw [get_cons, if_neg hne, get_cons, if_pos rfl]
    · exact (hr.over hrb).over hra
end
end Go.GL
namespace Go.Proofs.Ytdfnfdellpfjhaa
open Go Go.GL Go.RowKit Go.Proofs
theorem two_sl {H : GHeap} {e : TypeId} {own : Bool} {g1 o1 g2 o2 k : Nat} (h : H.get k = some (.row [.pointer (some ⟨g1, o1, none⟩), .pointer (some ⟨g2, o2, none⟩)] e own)) :
    SlA H (some ⟨k, 0, none⟩) 2 (fun i => .pointer (some ⟨(if i = 0 then g1 else g2), (if i = 0 then o1 else o2), none⟩)) := by
  refine .inr ⟨k, 0, rfl, fun i hi => ?_⟩
  rw [GHeap.cell_of h, Nat.zero_add]
  match i, hi with
  | 0, _ => rfl
  | 1, _ => rfl
theorem areCategories2_c {k g1 o1 g2 o2 : Nat} {e : TypeId} {c1 c2 : Cat} {p1 p2 : CatP} {H : GHeap} (h : H.get k = some (.row [.pointer (some ⟨g1, o1, none⟩), .pointer (some ⟨g2, o2, none⟩)] e true) := by assumption)
    (h1 : Cat.At H g1 o1 c1 p1 := by assumption) (h2 : Cat.At H g2 o2 c2 p2 := by assumption) (hs1 : c1.Small := by assumption) (hs2 : c2.Small := by assumption) :
    GCalls Try.prog 105 [.slice (some ⟨k, 0, none⟩) 2 2] H (Ret (.bool (B (c1.Is ∧ c2.Is))) H) := by
  have := areCategories_c (two_sl h) (by omega) (C := fun i => if i = 0 then c1 else c2) (P := fun i => if i = 0 then p1 else p2)
    (fun i hi => by match i, hi with | 0, _ => exact h1 | 1, _ => exact h2) (fun i hi => by match i, hi with | 0, _ => exact hs1 | 1, _ => exact hs2)
  rw [B_congr (q := c1.Is ∧ c2.Is)] at this
  · exact this
  · exact ⟨fun h => ⟨h 0 (by omega), h 1 (by omega)⟩, fun h i hi => by match i, hi with | 0, _ => exact h.1 | 1, _ => exact h.2⟩
end Go.Proofs.Ytdfnfdellpfjhaa
namespace Go.GL
open Go.RowKit Go.WideShapes Go.ChangeShapes Go.Deep

def Intsss (H : GHeap) (a : Option Addr) (x : List (List (List Int))) (r : Nat → Option Addr) (s : Nat → Nat → Option Addr) : Prop :=
  SlA H a x.length (fun i => .slice (r i) (x.getD i []).length (x.getD i []).length) ∧ ∀ i, i < x.length → Intss H (r i) (x.getD i []) (s i)
theorem Intsss.mono {H H' : GHeap} {a : Option Addr} {x : List (List (List Int))} {r : Nat → Option Addr} {s : Nat → Nat → Option Addr} (h : Intsss H a x r s) (hle : H.Le H') : Intsss H' a x r s := ⟨SlA.mono h.1 hle, fun i hi => (h.2 i hi).mono hle⟩
theorem Intsss.sl {H : GHeap} {a : Option Addr} {x : List (List (List Int))} {r : Nat → Option Addr} {s : Nat → Nat → Option Addr} (h : Intsss H a x r s) : SlA H a x.length (fun i => .slice (r i) (x.getD i []).length (x.getD i []).length) := h.1
theorem MStep.loadRR {P : Program} {fr : Slots} {H : GHeap} {a : Option Addr} {t : TypeId} {y : Operand} {k : Nat} {x : List (List (List Int))} {r : Nat → Option Addr} {s : Nat → Nat → Option Addr} (ht : oneT P t = true) (h : Intsss H a x r s) (hx : ev fr y = some (elemPtr a k)) (hk : k < x.length) :
    MStep P fr H (.load t y) (.slice (r k) (x.getD k []).length (x.getD k []).length) := .loadE (f := fun i => .slice (r i) (x.getD i []).length (x.getD i []).length) ht h.1 hx hk
def IntsssAt (b : Nat) (H : GHeap) (a : Option Addr) (x : List (List (List Int))) (r : Nat → Option Addr) (s : Nat → Nat → Option Addr) : Prop :=
  ∃ g e cs, a = some ⟨g, 0, none⟩ ∧ b ≤ g ∧ H.get g = some (.row cs e true) ∧ cs.length = x.length ∧ (∀ i, i < x.length → cs[i]? = some (.slice (r i) (x.getD i []).length (x.getD i []).length)) ∧ ∀ i, i < x.length → IntssAt b H (r i) (x.getD i []) (s i)
theorem IntsssAt.keep {b b' : Nat} {H H' : GHeap} {a : Option Addr} {x : List (List (List Int))} {r : Nat → Option Addr} {s : Nat → Nat → Option Addr} (h : IntsssAt b H a x r s) (hk : Keep b' H H') (hb : b' ≤ b) : IntsssAt b' H' a x r s :=
  let ⟨g, e, cs, h1, h2, h3, h4, h5, h6⟩ := h; ⟨g, e, cs, h1, by omega, hk g _ (by omega) h3, h4, h5, fun i hi => (h6 i hi).keep hk hb⟩
theorem IntsssAt.intsss {b : Nat} {H : GHeap} {a : Option Addr} {x : List (List (List Int))} {r : Nat → Option Addr} {s : Nat → Nat → Option Addr} (h : IntsssAt b H a x r s) : Intsss H a x r s := by
  obtain ⟨g, e, cs, rfl, _, h3, h4, h5, h6⟩ := h
  exact ⟨.inr ⟨g, 0, rfl, fun i hi => by rw [GHeap.cell_of h3, Nat.zero_add]; exact h5 i hi⟩, fun i hi => (h6 i hi).intss⟩
def NewIntsss (H : GHeap) (x : List (List (List Int))) (v : Value) (H' : GHeap) : Prop := H.Le H' ∧ ∃ a r s, v = .slice a x.length x.length ∧ IntsssAt H.next H' a x r s

def intsssT (P : Program) (t : TypeId) : Bool := match P.underlying t with | some (.slice e) => intssT P e && (P.cellsOf e == 1) | _ => false
theorem intsssT_run {P : Program} {t : TypeId} (h : intsssT P t = true) : ∃ e, P.underlying t = some (.slice e) ∧ intssT P e = true ∧ P.cellsOf e = 1 := by
  unfold intsssT at h
  split at h
  · simp only [Bool.and_eq_true, beq_iff_eq] at h
    exact ⟨_, by assumption, h.1, h.2⟩
  · cases h
def Wd2 (xss : List (List Int)) : Prop := xss.length ≤ 9223372036854775807 ∧ ∀ i, I64s (xss.getD i [])
def Wd3 (x : List (List (List Int))) : Prop := x.length ≤ 9223372036854775807 ∧ ∀ i, Wd2 (x.getD i [])
def Sm3 (x : List (List (List Int))) : Prop := x.length ≤ 1048576 ∧ ∀ i, (x.getD i []).length ≤ 1048576 ∧ ∀ j, ((x.getD i []).getD j []).length ≤ 1048576
def RIntsss (ρ : Place) (H : GHeap) (cs : List Value) : Prop := ∃ a x r s c, cs = [c] ∧ VRel ρ (.slice a x.length x.length) c ∧ Intsss H a x r s ∧ Wd3 x
theorem Wd2.nil : Wd2 [] := ⟨by simp, fun i => by simp [I64s, I64]⟩
theorem import_intsss {P : Program} {t : TypeId} (ht : intsssT P t = true) : Imports P t RIntsss := by
  intro T enc B w0 ρ H w held fuel cs x hs hB h
  obtain ⟨e, h1, h2, h3⟩ := intsssT_run ht
  rcases open_slice1 h1 h3 h with ⟨rfl, _⟩ | ⟨a, len, cap, m, n, V, D, Pl, rfl, _, hl, hm, hmm, _, hx⟩
  · exact ⟨ρ, H, hs, .refl ρ, .refl H, none, [], fun _ => none, fun _ _ => none, _, rfl, .nilSlice, ⟨.inl rfl, fun i hi => by simp at hi⟩, by simp, fun i => by simpa using Wd2.nil⟩
  · simp only [if_true] at hmm
    subst hmm
    have rows : ∀ k, k ≤ len → ∃ ρ' H', Sim P B w0 ρ' H' w ∧ Ext ρ ρ' ∧ H.Le H' ∧ ∃ (X : Nat → List (List Int)) (rr : Nat → Option Addr) (ss : Nat → Nat → Option Addr), ∀ i, i < k → VRel ρ' (.slice (rr i) (X i).length (X i).length) (V i) ∧ Intss H' (rr i) (X i) (ss i) ∧ Wd2 (X i) := by
      intro k
      induction k with
      | zero => exact fun _ => ⟨ρ, H, hs, .refl ρ, .refl H, fun _ => [], fun _ => none, fun _ _ => none, fun i hi => by omega⟩
      | succ k ih =>
        intro hk
        obtain ⟨ρ1, H1, s1, e1, l1, X, rr, ss, hrr⟩ := ih (by omega)
        obtain ⟨ρ2, H2, s2, e2, l2, a', xs, r, c, hc, hv, hi', hw1, hw2⟩ := import_intss h2 s1 hB (hx k (by omega)).2
        have hc' : V k = c := by simpa using hc
        subst hc'
        refine ⟨ρ2, H2, s2, e1.trans e2, l1.trans l2, fun i => if i = k then xs else X i, fun i => if i = k then a' else rr i, fun i => if i = k then r else ss i, fun i hi => ?_⟩
        by_cases ek : i = k
        · subst ek; simp only [if_true]; exact ⟨hv, hi', hw1, hw2⟩
        · simp only [ek, if_false]
          obtain ⟨v1, i1, w1⟩ := hrr i (by omega)
          exact ⟨v1.mono e2, i1.mono l2, w1⟩
    obtain ⟨ρ1, H1, s1, e1, l1, X, rr, ss, hrr⟩ := rows len (Nat.le_refl _)
    obtain ⟨a', ρ2, H2, k1, k2, k3, k4, k5⟩ := s1.list hB (f := fun i => .slice (rr i) (X i).length (X i).length) hl hm (fun i hi => (hx i hi).1) (fun i hi => (hrr i hi).1)
    have hlen : ((List.range len).map X).length = len := by simp
    have hg : ∀ i, i < len → ((List.range len).map X).getD i [] = X i := fun i hi => by simp [List.getD_eq_getElem?_getD, hi]
    refine ⟨ρ2, H2, k1, e1.trans k2, l1.trans k3, a', (List.range len).map X, rr, ss, _, rfl, by rw [hlen]; exact k4, ⟨?_, fun i hi => ?_⟩, by rw [hlen]; unfold maxLen at hm; omega, fun i => ?_⟩
    · rw [hlen]
      refine k5.imp id fun ⟨g, off, hga, hc⟩ => ⟨g, off, hga, fun i hi => ?_⟩
      show _ = some (Value.slice (rr i) (((List.range len).map X).getD i []).length (((List.range len).map X).getD i []).length)
      rw [hg i hi]
      exact hc i hi
    · rw [hlen] at hi
      rw [hg i hi]
      exact (hrr i hi).2.1.mono k3
    · by_cases hi : i < len
      · rw [hg i hi]; exact (hrr i hi).2.2
      · rw [List.getD_eq_getElem?_getD, List.getElem?_eq_none (by rw [hlen]; omega)]
        exact Wd2.nil
end Go.GL
namespace Go.GL
open Go.RowKit
structure SFun where
  sh : Cat
  sz : List Int
  ac : List (List Int)
structure SFunP where
  sh : CatP
  a1 : Option Addr
  a2 : Option Addr
  r2 : Nat → Option Addr
def SFun.cells (c : SFun) (p : SFunP) : List Value := c.sh.cells p.sh ++ ([.slice p.a1 c.sz.length c.sz.length] ++ ([.slice p.a2 c.ac.length c.ac.length]))
def SFun.In (H : GHeap) (c : SFun) (p : SFunP) : Prop := c.sh.In H p.sh ∧ Ints H p.a1 c.sz ∧ Intss H p.a2 c.ac p.r2
def SFun.At (H : GHeap) (g o : Nat) (c : SFun) (p : SFunP) : Prop := Mem H g o (c.cells p) ∧ c.In H p
def SFun.Small (c : SFun) : Prop := c.sh.Small ∧ c.sz.length ≤ 1048576 ∧ (c.ac.length ≤ 1048576 ∧ ∀ i, (c.ac.getD i []).length ≤ 1048576)
def SFun.Wide (c : SFun) : Prop := c.sh.Wide ∧ I64s c.sz ∧ (c.ac.length ≤ 9223372036854775807 ∧ ∀ i, I64s (c.ac.getD i []))
structure SMap where
  s : SFun
  t : SFun
  pa : List (List Int)
structure SMapP where
  s : SFunP
  t : SFunP
  a2 : Option Addr
  r2 : Nat → Option Addr
def SMap.cells (c : SMap) (p : SMapP) : List Value := c.s.cells p.s ++ (c.t.cells p.t ++ ([.slice p.a2 c.pa.length c.pa.length]))
def SMap.In (H : GHeap) (c : SMap) (p : SMapP) : Prop := c.s.In H p.s ∧ c.t.In H p.t ∧ Intss H p.a2 c.pa p.r2
def SMap.At (H : GHeap) (g o : Nat) (c : SMap) (p : SMapP) : Prop := Mem H g o (c.cells p) ∧ c.In H p
def SMap.Small (c : SMap) : Prop := c.s.Small ∧ c.t.Small ∧ (c.pa.length ≤ 1048576 ∧ ∀ i, (c.pa.getD i []).length ≤ 1048576)
def SMap.Wide (c : SMap) : Prop := c.s.Wide ∧ c.t.Wide ∧ (c.pa.length ≤ 9223372036854775807 ∧ ∀ i, I64s (c.pa.getD i []))
structure Con where
  ap : Int
  lg : List Int
structure ConP where
  a1 : Option Addr
def Con.cells (c : Con) (p : ConP) : List Value := [.int .i64 c.ap] ++ ([.slice p.a1 c.lg.length c.lg.length])
def Con.In (H : GHeap) (c : Con) (p : ConP) : Prop := Ints H p.a1 c.lg
def Con.At (H : GHeap) (g o : Nat) (c : Con) (p : ConP) : Prop := Mem H g o (c.cells p) ∧ c.In H p
def Con.Small (c : Con) : Prop := (-9223372036854775808 ≤ c.ap ∧ c.ap ≤ 9223372036854775807) ∧ c.lg.length ≤ 1048576
def Con.Wide (c : Con) : Prop := I64 c.ap ∧ I64s c.lg
structure Prt where
  me : List (List Int)
structure PrtP where
  a0 : Option Addr
  r0 : Nat → Option Addr
def Prt.cells (c : Prt) (p : PrtP) : List Value := [.slice p.a0 c.me.length c.me.length]
def Prt.In (H : GHeap) (c : Prt) (p : PrtP) : Prop := Intss H p.a0 c.me p.r0
def Prt.At (H : GHeap) (g o : Nat) (c : Prt) (p : PrtP) : Prop := Mem H g o (c.cells p) ∧ c.In H p
def Prt.Small (c : Prt) : Prop := (c.me.length ≤ 1048576 ∧ ∀ i, (c.me.getD i []).length ≤ 1048576)
def Prt.Wide (c : Prt) : Prop := (c.me.length ≤ 9223372036854775807 ∧ ∀ i, I64s (c.me.getD i []))
structure Prof where
  s : Cat
  t : Cat
  sz : List (List Int)
  be : List (List (List Int))
  bh : List (List (List Int))
structure ProfP where
  s : CatP
  t : CatP
  a2 : Option Addr
  r2 : Nat → Option Addr
  a3 : Option Addr
  r3 : Nat → Option Addr
  s3 : Nat → Nat → Option Addr
  a4 : Option Addr
  r4 : Nat → Option Addr
  s4 : Nat → Nat → Option Addr
def Prof.cells (c : Prof) (p : ProfP) : List Value := c.s.cells p.s ++ (c.t.cells p.t ++ ([.slice p.a2 c.sz.length c.sz.length] ++ ([.slice p.a3 c.be.length c.be.length] ++ ([.slice p.a4 c.bh.length c.bh.length]))))
def Prof.In (H : GHeap) (c : Prof) (p : ProfP) : Prop := c.s.In H p.s ∧ c.t.In H p.t ∧ Intss H p.a2 c.sz p.r2 ∧ Intsss H p.a3 c.be p.r3 p.s3 ∧ Intsss H p.a4 c.bh p.r4 p.s4
theorem Prof.In.mono {H H' : GHeap} {c : Prof} {p : ProfP} (h : c.In H p) (hle : H.Le H') : c.In H' p := ⟨Cat.In.mono (h.1) hle, Cat.In.mono (h.2.1) hle, Intss.mono (h.2.2.1) hle, Intsss.mono (h.2.2.2.1) hle, Intsss.mono (h.2.2.2.2) hle⟩
def Prof.At (H : GHeap) (g o : Nat) (c : Prof) (p : ProfP) : Prop := Mem H g o (c.cells p) ∧ c.In H p
theorem Prof.At.mono {H H' : GHeap} {g o : Nat} {c : Prof} {p : ProfP} (h : Prof.At H g o c p) (hle : H.Le H') : Prof.At H' g o c p := ⟨h.1.mono hle, Prof.In.mono h.2 hle⟩
theorem Prof.At.get {H : GHeap} {g o : Nat} {c : Prof} {p : ProfP} (h : Prof.At H g o c p) : Cat.At H g (o + 0) c.s p.s ∧ Cat.At H g (o + 5) c.t p.t ∧ H.cell g (o + 10) = some (.slice p.a2 c.sz.length c.sz.length) ∧ H.cell g (o + 11) = some (.slice p.a3 c.be.length c.be.length) ∧ H.cell g (o + 12) = some (.slice p.a4 c.bh.length c.bh.length) ∧ Intss H p.a2 c.sz p.r2 ∧ Intsss H p.a3 c.be p.r3 p.s3 ∧ Intsss H p.a4 c.bh p.r4 p.s4 :=
  ⟨⟨h.1.left, h.2.1⟩, ⟨(h.1.right (n := 5) rfl).left, h.2.2.1⟩, ((h.1.right (n := 5) rfl).right (n := 5) rfl).left 0 _ rfl, (((h.1.right (n := 5) rfl).right (n := 5) rfl).right (n := 1) rfl).left 0 _ rfl, ((((h.1.right (n := 5) rfl).right (n := 5) rfl).right (n := 1) rfl).right (n := 1) rfl) 0 _ rfl, h.2.2.2.1, h.2.2.2.2.1, h.2.2.2.2.2⟩
def Prof.Small (c : Prof) : Prop := c.s.Small ∧ c.t.Small ∧ (c.sz.length ≤ 1048576 ∧ ∀ i, (c.sz.getD i []).length ≤ 1048576) ∧ Sm3 c.be ∧ Sm3 c.bh
def Prof.Wide (c : Prof) : Prop := c.s.Wide ∧ c.t.Wide ∧ (c.sz.length ≤ 9223372036854775807 ∧ ∀ i, I64s (c.sz.getD i [])) ∧ Wd3 c.be ∧ Wd3 c.bh
def ProfAt (b : Nat) (H : GHeap) (c : Prof) (p : ProfP) : Prop := CatAt b H c.s p.s ∧ CatAt b H c.t p.t ∧ IntssAt b H p.a2 c.sz p.r2 ∧ IntsssAt b H p.a3 c.be p.r3 p.s3 ∧ IntsssAt b H p.a4 c.bh p.r4 p.s4
theorem ProfAt.keep {b b' : Nat} {H H' : GHeap} {c : Prof} {p : ProfP} (h : ProfAt b H c p) (hk : Keep b' H H') (hb : b' ≤ b) : ProfAt b' H' c p := ⟨CatAt.keep (h.1) hk hb, CatAt.keep (h.2.1) hk hb, IntssAt.keep (h.2.2.1) hk hb, IntsssAt.keep (h.2.2.2.1) hk hb, IntsssAt.keep (h.2.2.2.2) hk hb⟩
theorem ProfAt.inn {b : Nat} {H : GHeap} {c : Prof} {p : ProfP} (h : ProfAt b H c p) : c.In H p := ⟨CatAt.inn (h.1), CatAt.inn (h.2.1), IntssAt.intss (h.2.2.1), IntsssAt.intsss (h.2.2.2.1), IntsssAt.intsss (h.2.2.2.2)⟩
def NewProf (H : GHeap) (c : Prof) (v : Value) (H' : GHeap) : Prop := H.Le H' ∧ ∃ p, v = .agg (c.cells p).toArray ∧ ProfAt H.next H' c p
def profT (P : Program) (t : TypeId) : Bool := structIs P t 13 5 fun fs => fieldIs P fs 0 0 5 catT && fieldIs P fs 1 5 5 catT && fieldIs P fs 2 10 1 intssT && fieldIs P fs 3 11 1 intsssT && fieldIs P fs 4 12 1 intsssT
def RProf (ρ : Place) (H : GHeap) (cs : List Value) : Prop := ∃ (c : Prof) (p : ProfP), LRel ρ (c.cells p) cs ∧ c.In H p ∧ c.Wide
theorem import_prof {P : Program} {t : TypeId} (ht : profT P t = true) : Imports P t RProf := by
  intro T enc B w0 ρ H w held fuel cs x hs hB h
  obtain ⟨fs, g1, g2, g3, g4⟩ := structIs_run ht
  simp only [Bool.and_eq_true] at g4
  obtain ⟨⟨⟨⟨q0, q1⟩, q2⟩, q3⟩, q4⟩ := g4
  obtain ⟨xs, n, _, _, hl, hx, hf⟩ := DataW.trod_struct g1 h
  obtain ⟨ρ0, H0, s0, e0, l0, y0, p0, v0, i0, w0⟩ := import_field (fun _ h => import_cat h) q0 hx hf hs hB
  obtain ⟨ρ1, H1, s1, e1, l1, y1, p1, v1, i1, w1⟩ := import_field (fun _ h => import_cat h) q1 hx hf s0 hB
  obtain ⟨ρ2, H2, s2, e2, l2, a2, x2, r2, c2, z2, v2, i2, w2⟩ := import_field (fun _ h => import_intss h) q2 hx hf s1 hB
  obtain ⟨ρ3, H3, s3, e3, l3, a3, x3, r3, t3, c3, z3, v3, i3, w3⟩ := import_field (fun _ h => import_intsss h) q3 hx hf s2 hB
  obtain ⟨ρ4, H4, s4, e4, l4, a4, x4, r4, t4, c4, z4, v4, i4, w4⟩ := import_field (fun _ h => import_intsss h) q4 hx hf s3 hB
  refine ⟨ρ4, H4, s4, e0.trans (e1.trans (e2.trans (e3.trans (e4)))), l0.trans (l1.trans (l2.trans (l3.trans (l4)))), ⟨y0, y1, x2, x3, x4⟩, ⟨p0, p1, a2, r2, a3, r3, t3, a4, r4, t4⟩, ?_, ⟨Cat.In.mono i0 (l1.trans (l2.trans (l3.trans (l4)))), Cat.In.mono i1 (l2.trans (l3.trans (l4))), i2.mono (l3.trans (l4)), i3.mono (l4), i4⟩, ⟨w0, w1, w2, w3, w4⟩⟩
  have hlen : cs.length = 13 := by rw [hl, g2]
  have e : cs = (cs.drop 0).take 5 ++ ((cs.drop 5).take 5 ++ ((cs.drop 10).take 1 ++ ((cs.drop 11).take 1 ++ ((cs.drop 12).take 1)))) := by
    match cs, hlen with
    | [_, _, _, _, _, _, _, _, _, _, _, _, _], _ => rfl
  rw [e, z2, z3, z4]
  exact (LRel.append (v0.mono (e1.trans (e2.trans (e3.trans (e4))))) (LRel.append (v1.mono (e2.trans (e3.trans (e4)))) (LRel.append (.cons (v2.mono (e3.trans (e4))) (.nil _)) (LRel.append (.cons (v3.mono (e4)) (.nil _)) (.cons (v4) (.nil _))))))
end Go.GL
namespace Go.GL
open Go.RowKit

def out : List Nat → Nat → Prop
  | [], _ => True
  | g :: r, k => k ≠ g ∧ out r k
structure St (bs : List Nat) (H H' : GHeap) : Prop where
  nx : H.next ≤ H'.next
  same : ∀ k o, out bs k → H.get k = some o → H'.get k = some o
theorem St.refl (bs : List Nat) (H : GHeap) : St bs H H := ⟨Nat.le_refl _, fun _ _ _ h => h⟩
theorem GHeap.Le.st {H0 H H' : GHeap} {bs : List Nat} (h : H0.Le H) (s : St bs H H') (hg : ∀ k, k < H0.next → out bs k) : H0.Le H' :=
  ⟨Nat.le_trans h.1 s.nx, fun k o hk => s.same k o (hg k (GHeap.ltg hk)) (h.2 k o hk)⟩
theorem St.le {bs : List Nat} {H0 H H' : GHeap} (s : St bs H0 H) (h : H.Le H') : St bs H0 H' := ⟨Nat.le_trans s.nx h.1, fun k o hk hg => h.2 k o (s.same k o hk hg)⟩
theorem St.st {bs cs : List Nat} {H0 H H' : GHeap} (s : St bs H0 H) (h : St cs H H') (hg : ∀ k, k < H0.next → out bs k → out cs k) : St bs H0 H' :=
  ⟨Nat.le_trans s.nx h.nx, fun k o hk h1 => h.same k o (hg k (GHeap.ltg h1) hk) (s.same k o hk h1)⟩
theorem St.sA {bs cs : List Nat} {H0 H H' : GHeap} (s : St bs H0 H) (h : St cs H H') (hg : ∀ k, k < H0.next → out bs k → out cs k := by intro k hk ho; simp only [out, and_true] at ho ⊢ <;> first | exact ho | exact ho.1 | exact ho.2 | exact ho.2.1 | exact ho.2.2 | exact ho.2.2.1 | exact ho.2.2.2 | omega) : St bs H0 H' := s.st h hg
theorem St.s {g k : Nat} {H H' : GHeap} {o : GObj} (s : St [g] H H') (h : H.get k = some o) (hne : k ≠ g := by first | assumption | omega) : H'.get k = some o := s.same k o ⟨hne, trivial⟩ h
theorem St.of_le {bs : List Nat} {H H' : GHeap} (h : H.Le H') : St bs H H' := ⟨h.1, fun k o _ hg => h.2 k o hg⟩
theorem Keep.le {b : Nat} {H0 H H' : GHeap} (k : Keep b H0 H) (h : H.Le H') : Keep b H0 H' := fun g o hb hg => h.2 g o (k g o hb hg)
theorem Keep.st {bs : List Nat} {b : Nat} {H0 H H' : GHeap} (k : Keep b H0 H) (h : St bs H H') (hg : ∀ k, b ≤ k → k < H0.next → out bs k) : Keep b H0 H' := fun g o hb h1 => h.same g o (hg g hb (GHeap.ltg h1)) (k g o hb h1)
theorem St.of_set {g : Nat} {H : GHeap} {o : Option GObj} : St [g] H (H.set g o) := ⟨by rw [GHeap.next_set]; exact Nat.le_refl _, fun k x hk h => by rw [GHeap.get_set_ne (Ne.symm hk.1)]; exact h⟩
theorem St.push {bs : List Nat} {H H' : GHeap} {o : GObj} (s : St bs H H') : St bs H (H'.push o) := ⟨by rw [GHeap.next_push]; have := s.nx; omega, fun k x hk h => GHeap.get_push_of (s.same k x hk h)⟩

section
variable {P : Program} {N : Nat} {ops : Array Oper} {Q : Slots → GHeap → Prop} {L : List (Oper × Nat)} {fr : Slots} {H Hb : GHeap} {o : Oper} {i : Nat} {t : Tree}
theorem CDo.mono {R R' : Option Value → GHeap → Prop} (h : CDo P o fr H R) (hi : ∀ v H', R v H' → R' v H') : CDo P o fr H R' :=
  .mk fun B w0 ρ a w hs hf next Qx hn => h.run B w0 ρ a w hs hf next Qx fun ρ' v c H' w' hR => hn ρ' v c H' w' (hi v H' hR)
theorem GTree.mono {Q' : Slots → GHeap → Prop} (hq : ∀ fr H, Q' fr H → Q fr H) : ∀ {t : Tree} {fr : Slots} {Hb H : GHeap}, GTree P N ops Q' t fr Hb H → GTree P N ops Q t fr Hb H
  | .done, _, _, _, h => hq _ _ h
  | .q i t, fr, Hb, H, h => by
    unfold GTree at h ⊢
    obtain ⟨o, h1, h2, h3⟩ := h
    refine ⟨o, h1, h2, ?_⟩
    split
    · rename_i hg
      rw [hg] at h3
      obtain ⟨v, Hq, k1, k2, k3, k4⟩ := h3
      exact ⟨v, Hq, k1, k2, k3, GTree.mono hq k4⟩
    · rename_i j want hg
      rw [hg] at h3
      obtain ⟨s, c, k1, k2, kg, k3, k4⟩ := h3
      exact ⟨s, c, k1, k2, kg, fun e => let ⟨v, Hq, l1, l2, l3, l4⟩ := k3 e; ⟨v, Hq, l1, l2, l3, GTree.mono hq l4⟩, fun e => GTree.mono hq (k4 e)⟩
  | .c i k t, fr, Hb, H, h => by
    unfold GTree at h ⊢
    obtain ⟨o, h1, h2, h3⟩ := h
    refine ⟨o, h1, h2, ?_⟩
    split
    · rename_i hg
      rw [hg] at h3
      exact h3.mono fun v H' ⟨l1, l2⟩ => ⟨l1, GTree.mono hq l2⟩
    · rename_i j want hg
      rw [hg] at h3
      obtain ⟨s, c, k1, k2, kg, k3, k4⟩ := h3
      exact ⟨s, c, k1, k2, kg, fun e => (k3 e).mono fun v H' ⟨l1, l2⟩ => ⟨l1, GTree.mono hq l2⟩, fun e => GTree.mono hq (k4 e)⟩
  | .or s t, fr, Hb, H, h => by
    unfold GTree at h ⊢
    exact ⟨GTree.mono hq h.1, GTree.mono hq h.2⟩
theorem GTree.cut (rest : Slots) (hr : Sub rest fr) (R : Slots → Slots → GHeap → Prop) (h : GTree P N ops (R rest) t fr Hb H) (hq : ∀ fr' H', R rest fr' H' → Q fr' H') : GTree P N ops Q t fr Hb H := h.mono hq
theorem GTree.mB {d : Tmp} {v : Value} (hi : ops[i]? = some o) (hd : o.dst = some d) (hN : Nat.blt d N = true) (hg : o.guard = none) (hle : Hb.Le H) (hm : MStep P fr Hb o.op v) (h : GTree P N ops Q t ((d, some v) :: fr) Hb H) : GTree P N ops Q (.q i t) fr Hb H := by
  unfold GTree
  refine ⟨o, hi, by unfold dstOk; rw [hd]; exact hN, ?_⟩
  rw [hg]
  exact ⟨v, Hb, .refl _, hle, hm, by rw [hd]; exact h⟩
theorem GTree.qB {d : Tmp} {v : Value} (h : stpT ops i N = some (o, d)) (hle : Hb.Le H) (hm : MStep P fr Hb o.op v) (hq : GTree P N ops Q t ((d, some v) :: fr) Hb H) : GTree P N ops Q (.q i t) fr Hb H := by
  obtain ⟨h0, h4⟩ := stpT.spec h
  obtain ⟨h1, h2, h3⟩ := stpR.spec h4
  exact .mB h0 h1 h2 h3 hle hm hq
theorem GTree.orI {s : Tree} (h : GTree P N ops Q s fr Hb H) (h' : GTree P N ops Q t fr Hb H) : GTree P N ops Q (.or s t) fr Hb H := by unfold GTree; exact ⟨h, h'⟩
theorem GRun.r {d : Tmp} {R : Option Value → GHeap → Prop} (hd : o.dst = some d) (hN : Nat.blt d N = true) (hg : o.guard = none) (hc : CDo P o fr H R) (h : ∀ v H', R v H' → GRun P N ops Q L ((d, v) :: fr) H') : GRun P N ops Q ((o, 0) :: L) fr H :=
  .c hd hN hg (by simp) hc fun v H' hR => ⟨fun e => (by cases e), h v H' hR⟩
theorem GRun.R {d : Tmp} {R : Option Value → GHeap → Prop} (h0 : stpR o N = some d) (hc : CDo P o fr H R) (h : ∀ v H', R v H' → GRun P N ops Q L ((d, v) :: fr) H') : GRun P N ops Q ((o, 0) :: L) fr H := by
  obtain ⟨h1, h2, h3⟩ := stpR.spec h0
  exact .r h1 h2 h3 hc h
theorem GRun.r0 {R : Option Value → GHeap → Prop} (hd : o.dst = none) (hg : o.guard = none) (hc : CDo P o fr H R) (h : ∀ v H', R v H' → GRun P N ops Q L fr H') : GRun P N ops Q ((o, 0) :: L) fr H :=
  .c0 hd hg (by simp) hc fun v H' hR => ⟨fun e => (by cases e), h v H' hR⟩
theorem GTree.r0 {R : Option Value → GHeap → Prop} (hi : ops[i]? = some o) (hd : o.dst = none) (hg : o.guard = none) (hc : CDo P o fr H R) (h : ∀ v H', R v H' → GTree P N ops Q t fr H' H') : GTree P N ops Q (.c i 0 t) fr Hb H := by
  unfold GTree
  refine ⟨o, hi, by unfold dstOk; rw [hd], ?_⟩
  rw [hg]
  refine .mk fun B w0 ρ a w hs hf next Qx hn => ?_
  exact hc.run B w0 ρ a w hs hf next Qx fun ρ' v c H' w' hR => hn ρ' v c H' w' ⟨fun e => (by cases e), by rw [hd, if_neg (by simp)]; exact h v H' hR⟩
end

section
variable {P : Program} {H : GHeap} {fr : Slots} {o : Oper}
theorem CDo.boxR {e : TypeId} {x : Operand} {v : Value} {n : Nat} (ho : o.op = .box e x) (he : (P.info? e).map (·.size) = some n) (hx : ev fr x = some v) :
    CDo P o fr H (fun r H' => ∃ g, r = some (.pointer (some ⟨g, 0, none⟩)) ∧ H.Le H' ∧ H.next ≤ g ∧ H'.get g = some (.row v.cells.toList e true)) :=
  .box ho he hx ⟨_, rfl, GHeap.le_push _ _, Nat.le_refl _, GHeap.get_push_new _ _⟩
theorem CDo.allocR {e : TypeId} {z : List Value} {n : Nat} (ho : o.op = .alloc e) (hz : zeroT P e = some (z, n)) (hfl : z.all flat1 = true) :
    CDo P o fr H (fun r H' => ∃ g, r = some (.pointer (some ⟨g, 0, none⟩)) ∧ H.Le H' ∧ H.next ≤ g ∧ H'.get g = some (.row z e true)) :=
  .alloc ho hz hfl ⟨_, rfl, GHeap.le_push _ _, Nat.le_refl _, GHeap.get_push_new _ _⟩
theorem CDo.litR {t e : TypeId} {len n : Nat} {parts : Array (Nat × Operand)} {z vs cs : List Value} (ho : o.op = .buildSlice t len parts) (ht : sliceT P t = some (e, n)) (hz : zeroT P e = some (z, n)) (hfl : z.all flat1 = true) (hzn : z.length = n) (h0 : 0 < n)
    (hsm : len * n ≤ 16777216) (hv : evs fr (parts.toList.map (·.2)) = some vs) (hc : fillL (fun i => some (i * n, n)) (madeL z (len * n)) ((parts.toList.map (·.1)).zip vs) = some cs) :
    CDo P o fr H (fun r H' => ∃ g, r = some (.slice (some ⟨g, 0, none⟩) len len) ∧ H.Le H' ∧ H.next ≤ g ∧ H'.get g = some (.row cs e true)) :=
  .buildSlice ho ht hz hfl hzn h0 hsm hv hc ⟨_, rfl, GHeap.le_push _ _, Nat.le_refl _, GHeap.get_push_new _ _⟩
theorem CDo.makeV {t e : TypeId} {x y : Operand} {k k' : IntKind} {j c : Int} {bytes : Nat} {z : Value} (ho : o.op = .makeSlice t x y) (ht : sliceT P t = some (e, 1)) (hz : zeroT P e = some ([z], 1)) (hb : (P.info? e).map (·.bytes) = some bytes)
    (hfl : [z].all flat1 = true) (hx : ev fr x = some (.int k j)) (hy : ev fr y = some (.int k' c)) (h0 : 0 ≤ j) (hlc : j ≤ c) (hsm : bytes * c ≤ 281474976710656) (hsc : c ≤ 9223372036854775807) :
    CDo P o fr H (fun r H' => ∃ g, r = some (.slice (some ⟨g, 0, none⟩) j.toNat j.toNat) ∧ H.Le H' ∧ H.next ≤ g ∧ H'.get g = some (.row (List.replicate j.toNat z) e true)) := by
  have e1 : (j.toNat : Int) = j := Int.toNat_of_nonneg h0
  have e2 : (c.toNat : Int) = c := Int.toNat_of_nonneg (by omega)
  have e3 : bytes * c.toNat ≤ 281474976710656 := by
    have : ((bytes * c.toNat : Nat) : Int) ≤ 281474976710656 := by rw [Int.natCast_mul, e2]; exact hsm
    omega
  refine .makeSlice (l := j.toNat) (c := c.toNat) ho ht hz hb hfl rfl (by omega) (by rw [e1]; exact hx) (by rw [e2]; exact hy) (by omega) e3 (by omega) ⟨_, rfl, GHeap.le_push _ _, Nat.le_refl _, ?_⟩
  rw [GHeap.get_push_new, madeL_one, Nat.mul_one]
theorem CDo.makeI {t e : TypeId} {x y : Operand} {k k' : IntKind} {j c : Int} {bytes : Nat} (ho : o.op = .makeSlice t x y) (ht : sliceT P t = some (e, 1)) (hz : zeroT P e = some ([.int .i64 0], 1)) (hb : (P.info? e).map (·.bytes) = some bytes)
    (hx : ev fr x = some (.int k j)) (hy : ev fr y = some (.int k' c)) (h0 : 0 ≤ j) (hlc : j ≤ c) (hsm : bytes * c ≤ 281474976710656) (hsc : c ≤ 9223372036854775807) :
    CDo P o fr H (fun r H' => ∃ g, r = some (.slice (some ⟨g, 0, none⟩) j.toNat j.toNat) ∧ H.Le H' ∧ H.next ≤ g ∧ H'.get g = some (.row (ints (List.replicate j.toNat 0)) e true)) := by
  have : ints (List.replicate j.toNat 0) = List.replicate j.toNat (Value.int .i64 0) := by simp [ints]
  rw [this]
  exact .makeV ho ht hz hb rfl hx hy h0 hlc hsm hsc
theorem CDo.storeR {t : TypeId} {x y : Operand} {g off : Nat} {v : Value} {cs : List Value} {e : TypeId} (ho : o.op = .store t x y) (ht : (P.info? t).map (·.size) = some 1) (hx : ev fr x = some (.pointer (some ⟨g, off, none⟩))) (hy : ev fr y = some v)
    (h1 : v.oneCell' = true) (hg : H.get g = some (.row cs e true)) (hoff : off < cs.length) :
    CDo P o fr H (fun r H' => r = none ∧ St [g] H H' ∧ H'.get g = some (.row (cs.set off v) e true)) :=
  .store ho ht hx hy h1 hg hoff ⟨rfl, .of_set, GHeap.get_set_eq (GHeap.ltg hg)⟩
theorem CDo.storeI {t : TypeId} {x y : Operand} {g off : Nat} {m : Int} {ys : List Int} {e : TypeId} (ho : o.op = .store t x y) (ht : (P.info? t).map (·.size) = some 1) (hx : ev fr x = some (.pointer (some ⟨g, off, none⟩))) (hy : ev fr y = some (.int .i64 m))
    (hg : H.get g = some (.row (ints ys) e true)) (hoff : off < ys.length) :
    CDo P o fr H (fun r H' => r = none ∧ St [g] H H' ∧ H'.get g = some (.row (ints (ys.set off m)) e true)) := by
  rw [← ints_set]; exact .storeR ho ht hx hy rfl hg (by simpa using hoff)
theorem CDo.storeNR {t : TypeId} {x y : Operand} {g off n : Nat} {vs : Array Value} {cs : List Value} {e : TypeId} (ho : o.op = .store t x y) (ht : (P.info? t).map (·.size) = some n) (hx : ev fr x = some (.pointer (some ⟨g, off, none⟩))) (hy : ev fr y = some (.agg vs))
    (hn : vs.size = n) (h1 : vs.toList.all (·.oneCell') = true) (hg : H.get g = some (.row cs e true)) (hoff : off + n ≤ cs.length) :
    CDo P o fr H (fun r H' => r = none ∧ St [g] H H' ∧ H'.get g = some (.row (setAll cs off vs.toList) e true)) :=
  .storeN ho ht hx hy hn h1 hg hoff ⟨rfl, .of_set, GHeap.get_set_eq (GHeap.ltg hg)⟩
theorem CDo.fillR {t : TypeId} {x y : Operand} {g n : Nat} {vs : Array Value} {cs : List Value} {e : TypeId} (ho : o.op = .store t x y) (ht : (P.info? t).map (·.size) = some n) (hx : ev fr x = some (.pointer (some ⟨g, 0, none⟩))) (hy : ev fr y = some (.agg vs))
    (hn : vs.size = n) (h1 : vs.toList.all (·.oneCell') = true) (hg : H.get g = some (.row cs e true)) (hoff : cs.length = n) :
    CDo P o fr H (fun r H' => r = none ∧ St [g] H H' ∧ H'.get g = some (.row vs.toList e true)) := by
  have : setAll cs 0 vs.toList = vs.toList := setAll_all _ _ (by simp [hoff, hn])
  have h := CDo.storeNR (P := P) (H := H) ho ht hx hy hn h1 hg (by omega)
  rw [this] at h
  exact h
theorem CDo.litA {t e : TypeId} {len n : Nat} {parts : Array (Nat × Operand)} {z vs cs : List Value} (ho : o.op = .buildSlice t len parts) (ht : sliceT P t = some (e, n)) (hz : zeroT P e = some (z, n)) (hfl : z.all flat1 = true) (hzn : z.length = n) (hv : evs fr (parts.toList.map (·.2)) = some vs) (hc : fillL (fun i => some (i * n, n)) (madeL z (len * n)) ((parts.toList.map (·.1)).zip vs) = some cs) (h0 : 0 < n := by omega)
    (hsm : len * n ≤ 16777216 := by omega) : CDo P o fr H (fun r H' => ∃ g, r = some (.slice (some ⟨g, 0, none⟩) len len) ∧ H.Le H' ∧ H.next ≤ g ∧ H'.get g = some (.row cs e true)) := .litR ho ht hz hfl hzn h0 hsm hv hc
theorem CDo.fillA {t : TypeId} {x y : Operand} {g n : Nat} {vs : Array Value} {cs : List Value} {e : TypeId} (ho : o.op = .store t x y) (ht : (P.info? t).map (·.size) = some n) (hx : ev fr x = some (.pointer (some ⟨g, 0, none⟩))) (hy : ev fr y = some (.agg vs))
    (hn : vs.size = n) (h1 : vs.toList.all (·.oneCell') = true) (hg : H.get g = some (.row cs e true) := by assumption) (hoff : cs.length = n := by first | rfl | exact Nat.le_of_ble_eq_true rfl | simp) :
    CDo P o fr H (fun r H' => r = none ∧ St [g] H H' ∧ H'.get g = some (.row vs.toList e true)) := .fillR ho ht hx hy hn h1 hg hoff
theorem CDo.appendR {t tx e : TypeId} {s x : Operand} {g off n m sz bytes : Nat} {z cs news : List Value} (ho : o.op = .call { callee := .builtin .append, args := #[s, x], argTypes := #[t, tx] }) (ht : sliceT P t = some (e, sz)) (hz : zeroT P e = some (z, sz)) (hzn : z.length = sz)
    (hb : (P.info? e).map (·.bytes) = some bytes) (hsv : ev fr s = some (.slice (some ⟨g, off, none⟩) n n)) (hg : H.get g = some (.row cs e true)) (hend : off + n * sz = cs.length) (hsrc : SrcG P fr H sz tx x m news)
    (hN : n + m ≤ 16777216) (hB : (n + m) * bytes ≤ 140737488355328) :
    CDo P o fr H (fun r H' => ∃ g', r = some (.slice (some ⟨g', 0, none⟩) (n + m) (n + m)) ∧ St [g] H H' ∧ H.next ≤ g' ∧ H'.get g' = some (.row (cs.drop off ++ news) e true)) :=
  .append ho ht hz hzn hb hsv hg hend hsrc (by unfold maxLen; omega) hB ⟨_, rfl, .push .of_set, Nat.le_refl _, by have := GHeap.get_push_new (H.set g none) (.row (cs.drop off ++ news) e true); rwa [GHeap.next_set] at this⟩
theorem CDo.appendV {t tx e e' : TypeId} {s x : Operand} {g g1 n sz bytes : Nat} {z cs vs : List Value} (ho : o.op = .call { callee := .builtin .append, args := #[s, x], argTypes := #[t, tx] }) (ht : sliceT P t = some (e, sz)) (hz : zeroT P e = some (z, sz)) (hzn : z.length = sz)
    (hb : (P.info? e).map (·.bytes) = some bytes) (htx : sliceT P tx = some (e', sz)) (hsv : ev fr s = some (.slice (some ⟨g, 0, none⟩) n n)) (hx : ev fr x = some (.slice (some ⟨g1, 0, none⟩) 1 1)) (hg : H.get g = some (.row cs e true)) (hg1 : H.get g1 = some (.row vs e' true)) (hend : n * sz = cs.length)
    (hv : vs.length = sz) (hone : vs.all (·.oneCell') = true) (hN : n + 1 ≤ 16777216) (hB : (n + 1) * bytes ≤ 140737488355328) :
    CDo P o fr H (fun r H' => ∃ g', r = some (.slice (some ⟨g', 0, none⟩) (n + 1) (n + 1)) ∧ St [g] H H' ∧ H.next ≤ g' ∧ H'.get g' = some (.row (cs ++ vs) e true)) :=
  .appendR (cs := cs) (news := vs) ho ht hz hzn hb hsv hg (by omega) (.slice htx hx (by omega) (fun i v hv => by rw [GHeap.cell_of hg1, Nat.zero_add]; exact hv) (fun v hv => List.all_eq_true.1 hone v hv)) hN hB
theorem CDo.appendI {t tx e e' : TypeId} {s x : Operand} {g g1 n bytes : Nat} {z : List Value} {ys : List Int} {m : Int} (ho : o.op = .call { callee := .builtin .append, args := #[s, x], argTypes := #[t, tx] }) (ht : sliceT P t = some (e, 1)) (hz : zeroT P e = some (z, 1)) (hzn : z.length = 1)
    (hb : (P.info? e).map (·.bytes) = some bytes) (htx : sliceT P tx = some (e', 1)) (hsv : ev fr s = some (.slice (some ⟨g, 0, none⟩) n n)) (hx : ev fr x = some (.slice (some ⟨g1, 0, none⟩) 1 1)) (hg : H.get g = some (.row (ints ys) e true)) (hg1 : H.get g1 = some (.row [.int .i64 m] e' true)) (hend : n = ys.length)
    (hN : n + 1 ≤ 16777216) (hB : (n + 1) * bytes ≤ 140737488355328) :
    CDo P o fr H (fun r H' => ∃ g', r = some (.slice (some ⟨g', 0, none⟩) (n + 1) (n + 1)) ∧ St [g] H H' ∧ H.next ≤ g' ∧ H'.get g' = some (.row (ints (ys ++ [m])) e true)) := by
  have e1 : ints (ys ++ [m]) = ints ys ++ [.int .i64 m] := by simp [ints]
  rw [e1]
  exact .appendV ho ht hz hzn hb htx hsv hx hg hg1 (by simp; omega) rfl rfl hN hB
end

def filtN (n : Nat) (p : Nat → Bool) : List Int := ((List.range n).filter p).map fun (i : Nat) => (i : Int)
theorem filtN_T {n : Nat} {p : Nat → Bool} (h : p n = true) : filtN (n + 1) p = filtN n p ++ [(n : Int)] := by simp [filtN, List.range_succ, h]
theorem filtN_F {n : Nat} {p : Nat → Bool} (h : p n = false) : filtN (n + 1) p = filtN n p := by simp [filtN, List.range_succ, h]
theorem filtN_le (n : Nat) (p : Nat → Bool) : (filtN n p).length ≤ n := by
  unfold filtN; rw [List.length_map]; exact Nat.le_trans (List.length_filter_le _ _) (by simp)
theorem mem_filtN {n : Nat} {p : Nat → Bool} {x : Int} : x ∈ filtN n p ↔ ∃ i, i < n ∧ p i = true ∧ x = i := by
  simp only [filtN, List.mem_map, List.mem_filter, List.mem_range]
  exact ⟨fun ⟨i, ⟨h1, h2⟩, h3⟩ => ⟨i, h1, h2, h3.symm⟩, fun ⟨i, h1, h2, h3⟩ => ⟨i, ⟨h1, h2⟩, h3.symm⟩⟩
theorem getD_mem {xs : List Int} {i : Nat} (h : i < xs.length) : xs.getD i 0 ∈ xs := by
  rw [List.getD_eq_getElem?_getD, List.getElem?_eq_getElem h]; exact List.getElem_mem h
theorem filtN_get {n : Nat} {p : Nat → Bool} {i : Nat} (h : i < (filtN n p).length) : ∃ j, j < n ∧ p j = true ∧ (filtN n p).getD i 0 = j := mem_filtN.1 (getD_mem h)

def firstIn (xs : List Int) (p : Int → Bool) : Int := (xs.find? p).getD (-1)
end Go.GL
namespace Go.GL

def Cat.hom (c : Cat) (x y : Int) : List Int := filtN c.src.length fun f => decide (c.src.getD f 0 = x) && decide (c.tgt.getD f 0 = y)
def Cat.invB (c : Cat) (f g : Int) : Bool := decide (c.th f g = c.idn.getD (c.src.getD f.toNat 0).toNat 0) && decide (c.th g f = c.idn.getD (c.tgt.getD f.toNat 0).toNat 0)
def Cat.inv (c : Cat) (f : Int) : Int := firstIn (c.hom (c.tgt.getD f.toNat 0) (c.src.getD f.toNat 0)) (c.invB f)
end Go.GL
namespace Go.GL
open Go.RowKit

theorem CDo.makeIN {P : Program} {H : GHeap} {fr : Slots} {o : Oper} {t e : TypeId} {x y : Operand} {k k' : IntKind} {l c bytes : Nat} (ho : o.op = .makeSlice t x y) (ht : sliceT P t = some (e, 1)) (hz : zeroT P e = some ([.int .i64 0], 1)) (hb : (P.info? e).map (·.bytes) = some bytes)
    (hx : ev fr x = some (.int k (l : Int))) (hy : ev fr y = some (.int k' (c : Int))) (hlc : l ≤ c) (hsm : bytes * c ≤ 281474976710656) (hsc : c ≤ 9223372036854775807) :
    CDo P o fr H (fun r H' => ∃ g, r = some (.slice (some ⟨g, 0, none⟩) l l) ∧ H.Le H' ∧ H.next ≤ g ∧ H'.get g = some (.row (ints (List.replicate l 0)) e true)) := by
  have := CDo.makeI (P := P) (H := H) (fr := fr) (o := o) ho ht hz hb hx hy (by omega) (by omega) (by omega) (by omega)
  simpa using this

def thenL (f g : List Int) : List Int := f.map fun y => g.getD y.toNat 0
@[simp] theorem length_thenL (f g : List Int) : (thenL f g).length = f.length := by simp [thenL]
theorem thenL_get {f g : List Int} {i : Nat} (h : i < f.length) : (thenL f g).getD i 0 = g.getD (f.getD i 0).toNat 0 := by
  simp [thenL, List.getD_eq_getElem?_getD, h]
theorem thenL_eq {f g ys : List Int} (hl : ys.length = f.length) (h : ∀ i, i < f.length → ys.getD i 0 = g.getD (f.getD i 0).toNat 0) : ys = thenL f g := by
  refine eq_of_getD (by rw [hl, length_thenL]) fun i hi => ?_
  rw [length_thenL] at hi
  rw [h i hi, thenL_get hi]
theorem thenL_take_succ {f g : List Int} {k : Nat} (h : k < f.length) : thenL (f.take (k + 1)) g = thenL (f.take k) g ++ [g.getD (f.getD k 0).toNat 0] := by
  unfold thenL
  rw [List.take_add_one, List.map_append, List.getElem?_eq_getElem h]
  simp [List.getD_eq_getElem?_getD, h]

noncomputable def Cat.iso (c : Cat) (x y : Int) : Int := firstIn (c.hom x y) fun g => decide (0 ≤ c.inv g)
end Go.GL
namespace Go.GL

def first2 (n : Nat) (len : Nat → Nat) (p : Nat → Nat → Bool) : Int × Int :=
  match firstN n fun a => (firstN (len a) (p a)).isSome with
  | some a => ((a : Int), (((firstN (len a) (p a)).getD 0 : Nat) : Int))
  | none => (-1, 0)
def SFun.AcOk (f : SFun) (a : Nat) : Prop :=
  ((f.ac.getD a []).length : Int) = f.sz.getD (f.sh.src.getD a 0).toNat 0 ∧ allIn (f.ac.getD a []) (f.sz.getD (f.sh.tgt.getD a 0).toNat 0) = true
structure SFun.Shape (f : SFun) : Prop where
  c : f.sh.Is
  zl : (f.sz.length : Int) = f.sh.obj
  sz : ∀ i, i < f.sz.length → 0 ≤ f.sz.getD i 0 ∧ f.sz.getD i 0 ≤ 16
  al : f.ac.length = f.sh.src.length
  ac : ∀ a, a < f.ac.length → f.AcOk a
structure SFun.Laws (f : SFun) : Prop where
  ids : ∀ x : Nat, x < f.sh.idn.length → ∀ e : Nat, e < (f.ac.getD (f.sh.idn.getD x 0).toNat []).length → (f.ac.getD (f.sh.idn.getD x 0).toNat []).getD e 0 = e
  th : ∀ a : Nat, a < f.sh.src.length → ∀ b : Nat, b < f.sh.src.length → f.sh.tgt.getD a 0 = f.sh.src.getD b 0 → ∀ e : Nat, e < (f.ac.getD a []).length →
    (f.ac.getD ((f.sh.comp.getD a []).getD b 0).toNat []).getD e 0 = (f.ac.getD b []).getD ((f.ac.getD a []).getD e 0).toNat 0
def SFun.Is (f : SFun) : Prop := f.Shape ∧ f.Laws

def SMap.PaOk (m : SMap) (x : Nat) : Prop := ((m.pa.getD x []).length : Int) = m.s.sz.getD x 0 ∧ allIn (m.pa.getD x []) (m.t.sz.getD x 0) = true
structure SMap.Fits (m : SMap) : Prop where
  pl : m.pa.length = m.s.sz.length
  pa : ∀ x, x < m.pa.length → m.PaOk x
structure SMap.Shape (m : SMap) : Prop where
  s : m.s.Is
  t : m.t.Is
  sh : m.s.sh = m.t.sh
  fits : m.Fits
def SMap.bad (m : SMap) (a e : Nat) : Bool := decide (¬ (m.pa.getD (m.s.sh.tgt.getD a 0).toNat []).getD ((m.s.ac.getD a []).getD e 0).toNat 0 = (m.t.ac.getD a []).getD ((m.pa.getD (m.s.sh.src.getD a 0).toNat []).getD e 0).toNat 0)
def SMap.first (m : SMap) : Int × Int := first2 m.s.ac.length (fun a => (m.s.ac.getD a []).length) m.bad
def SMap.Is (m : SMap) : Prop := m.Shape ∧ ∀ a, a < m.s.ac.length → ∀ e, e < (m.s.ac.getD a []).length → m.bad a e = false
end Go.GL
namespace Go.Proofs.Ytdfnfdellpfjhaa
open Go Go.GL Go.RowKit Go.Proofs
theorem isMapOf_c {a : Option Addr} {xs : List Int} {m n : Int} {H : GHeap} (h : Ints H a xs := by assumption) (hn : -9223372036854775808 < n := by omega) (hn' : n ≤ 9223372036854775807 := by omega) (hl : xs.length ≤ 1048576 := by omega) :
    GCalls Try.prog 107 [.slice a xs.length xs.length, .int .i64 m, .int .i64 n] H (Ret (.bool (B ((xs.length : Int) = m ∧ allIn xs n = true))) H) := by
  refine GCalls.body (N := 16) (rs := [.tmp 6]) Try.func107 rfl rfl rfl rfl (fun Qx c hend => ?_)
  refine .fg [0, 1, 2] rfl ?_
  refine .seq (fun K1 e => .region (.mv rfl (.nil (e _ _ (.seq (fun K2 d => .region (.mv rfl (.q rfl (.len sl_22_A rfl) (.mv rfl (.q rfl (.cmp rfl rfl rfl) (.mv rfl ?_)))))))))))
  refine .split (fun b => ?_) (fun b => ?_)
  ·
   simp only [beq_iff_eq, beq_eq_false_iff_ne] at b
   refine .qg rfl (.move rfl) (.qg rfl (.move rfl) ?_)
   refine .callQg rfl rfl rfl rfl rfl rfl @Try.call92 rfl (within_c) ?_
   refine .q rfl (.pickT rfl rfl) (.mv rfl (.nil (d _ _ ?_)))
   refine .ret ?_
   refine c _ _ ?_
   refine ⟨_, rfl, ?_⟩
   first
   | exact .of (congrArg _ (B_false fun hh => b hh.1))
   | exact .of (congrArg _ (by rw [Bool.eq_iff_iff, B_iff]; exact ⟨fun hh => hh.2, fun hh => ⟨b, hh⟩⟩))
  simp only [beq_iff_eq, beq_eq_false_iff_ne] at b
  refine .z rfl (.z rfl (.z rfl (.q rfl (.pickF rfl rfl) (.mv rfl (.nil (d _ _ ?_))))))
  refine .ret ?_
  refine c _ _ ?_
  refine ⟨_, rfl, ?_⟩
  first
  | exact .of (congrArg _ (B_false fun hh => b hh.1))
  | exact .of (congrArg _ (by rw [Bool.eq_iff_iff, B_iff]; exact ⟨fun hh => hh.2, fun hh => ⟨b, hh⟩⟩))
end Go.Proofs.Ytdfnfdellpfjhaa
namespace Go.Proofs.Ytdfnfdellpfjhaa
open Go Go.GL Go.RowKit Go.Proofs
end Go.Proofs.Ytdfnfdellpfjhaa
namespace Go.Proofs.Ytdfnfdellpfjhaa
open Go Go.GL Go.RowKit Go.Proofs
end Go.Proofs.Ytdfnfdellpfjhaa
namespace Go.Proofs.Ytdfnfdellpfjhaa
open Go Go.GL Go.RowKit Go.Proofs
end Go.Proofs.Ytdfnfdellpfjhaa
namespace Go.Proofs.Ytdfnfdellpfjhaa
open Go Go.GL Go.RowKit Go.Proofs
theorem implThen_c {a b : Option Addr} {xs zs : List Int} {H : GHeap} (h : Ints H a xs := by assumption) (h' : Ints H b zs := by assumption) (hb : ∀ i, i < xs.length → 0 ≤ xs.getD i 0 ∧ xs.getD i 0 < zs.length := by assumption) (hl : xs.length ≤ 1048576 := by omega) :
    GCalls Try.prog 84 [.slice a xs.length xs.length, .slice b zs.length zs.length] H (NewInts 2 H (thenL xs zs)) := by
  refine GCalls.body (N := 27) (rs := [.tmp 4]) Try.func84 rfl rfl rfl rfl (fun Qx m hend => ?_)
  refine .fg [0, 1] rfl ?_
  have g := GHeap.Le.refl H
  have j := h
  have f := h'
  refine .seq (fun K1 a1 => .region (.mv rfl (.nil (a1 _ _ (.seq (fun K2 w => .region (.mv rfl (.q rfl (.len sl_22_A rfl) ?_))))))))
  refine .R rfl (.makeIN rfl sl_22_A ze_2_E by_2_E rfl rfl (by omega) (by omega) (by omega)) ?_
  rintro _ s ⟨r, rfl, n, ge10, at10⟩
  replace g := g.trans n
  refine .mv rfl (.nil (w _ _ (.seq (fun K3 x => .seq (fun K4 t => .region (.mv rfl (.q rfl (.len sl_22_A rfl) (.mv rfl (.nil (t _ _ ?_))))))))))
  refine .block ?_
  refine .loopR (σ := Nat × List Int) [(1, some _), (5, some _), (11, some _), (12, some _)] (fun (k, ys) => [(13, some (.int .i64 (k : Int)))]) (fun (k, ys) H' => St [r] s H' ∧ H'.get r = some (.row (ints ys) 2 true) ∧ k ≤ xs.length ∧ ys.length = xs.length ∧ ∀ i, i < k → ys.getD i 0 = zs.getD (xs.getD i 0).toNat 0) (fun (k, ys) => xs.length - k) ((0, List.replicate xs.length 0)) ⟨rfl, rfl, rfl, rfl, trivial⟩ ⟨rfl, trivial⟩ ?_ ?_
  ·
   refine ⟨.refl _ _, by assumption, ?_⟩
   exact ⟨by omega, by simp, fun _ _ => by omega⟩
  rintro ⟨k, ys⟩ HL1 ⟨d, c, hI⟩ KL1 p
  refine .forget (fr' := [(13, some (.int .i64 (k : Int))), (1, some _), (5, some _), (11, some _), (12, some _)]) ⟨rfl, rfl, rfl, rfl, rfl, trivial⟩ ?_
  replace g := g.st d (fun k hk => ⟨by omega, trivial⟩)
  replace h := j.mono g
  replace h' := f.mono g
  obtain ⟨hk, hyl, ha⟩ := hI
  have hsl := SlA.of_ints c hyl
  refine .seq (fun K5 y => .region (.q rfl (.cmp rfl rfl rfl) (.nil (y _ _ (.seq (fun K6 v => ?_))))))
  refine .cond rfl (fun o => ?_) (fun o => ?_)
  ·
   simp only [sps] at o
   have q1 := hb k (by omega)
   refine .skip ?_
   refine v _ _ (.seq (fun K7 a0 => ?_))
   refine .block ?_
   refine .seq (fun K8 z => .region (.mv rfl ?_))
   refine .q rfl (.idxN sl_22_A (by assumption) rfl rfl (by omega)) ?_
   refine .q rfl (.loadI on_2_A (by assumption) rfl (by omega)) ?_
   refine .mv rfl (.mv rfl (.nil (z _ _ (.region (.mv rfl (.mv rfl (.mv rfl (.mv rfl ?_))))))))
   refine .q rfl (.idx1 sl_22_A (by assumption) rfl rfl (by omega) (by omega)) ?_
   refine .q rfl (.loadI on_2_A (by assumption) rfl (by omega)) ?_
   refine .q rfl (.idxN sl_22_A (by first | assumption | exact SlA.of_row c (by first | rfl | (simp; done) | (simp <;> omega))) rfl rfl (by omega)) ?_
   refine .r0 rfl rfl (.storeI rfl sz_2_E rfl rfl (by assumption) (by first | omega | (simp <;> omega))) ?_
   rintro _ H5007 ⟨rfl, l, at5007⟩
   replace d := d.sA l
   refine .nil (a0 _ _ (.region ?_))
   refine .q rfl (.add rfl rfl rfl (by omega) (by omega)) ?_
   refine .mv rfl (.nil ?_)
   refine p ((k + 1, ys.set (0 + k) (zs.getD (xs.getD k 0).toNat 0))) _ _ ?_ ?_ ⟨rfl, rfl, rfl, rfl, rfl, trivial⟩
   ·
    refine ⟨d, by assumption, ?_⟩
    refine ⟨by omega, by simpa using hyl, fun i hi => ?_⟩
    rw [Nat.zero_add, getD_set (by omega)]
    split
    · rename_i e; rw [e]
    · exact ha i (by omega)
   (dsimp only; omega)
  try simp only [sps] at o
  refine .exit ?_
  refine x _ _ (.seq (fun K9 u => .region (.mv rfl (.mv rfl (.nil (u _ _ ?_))))))
  refine .ret ?_
  refine m _ _ ?_
  refine ⟨_, rfl, ?_⟩
  obtain rfl := thenL_eq hyl fun i hi => ha i (by omega)
  exact ⟨g, _, by rw [length_thenL], c, by omega⟩
theorem l01Then_c {a b : Option Addr} {xs zs : List Int} {H : GHeap} (h : Ints H a xs := by assumption) (h' : Ints H b zs := by assumption) (hb : ∀ i, i < xs.length → 0 ≤ xs.getD i 0 ∧ xs.getD i 0 < zs.length := by assumption) (hl : xs.length ≤ 1048576 := by omega) :
    GCalls Try.prog 101 [.slice a xs.length xs.length, .slice b zs.length zs.length] H (NewInts 2 H (thenL xs zs)) := by
  refine GCalls.body (N := 25) (rs := [.tmp 4]) Try.func101 rfl rfl rfl rfl (fun Qx p hend => ?_)
  refine .fg [0, 1] rfl ?_
  have l := GHeap.Le.refl H
  have m := h
  have f := h'
  refine .seq (fun K1 a4 => .region (.mv rfl (.nil (a4 _ _ (.seq (fun K2 z => .region ?_))))))
  refine .R rfl (.litA rfl sl_22_A ze_2_E rfl rfl rfl rfl) ?_
  rintro _ H7 ⟨g7, rfl, x, ge7, s⟩
  replace l := l.trans x
  have lt_at7 := GHeap.ltg s
  replace s : GHeap.get H7 g7 = some (.row (ints []) 2 true) := s
  refine .mv rfl (.nil (z _ _ (.seq (fun K3 a0 => .seq (fun K4 w => .region (.mv rfl (.nil (w _ _ ?_))))))))
  refine .block ?_
  refine .loopR (σ := Nat × Nat × Nat) [(0, some _), (1, some _)] (fun (k, e, g) => [(6, some (.int .i64 (k : Int))), (5, some (.slice (some ⟨e, 0, none⟩) g g))]) (fun (k, e, g) H' => St [g7] H7 H' ∧ H'.get e = some (.row (ints (thenL (xs.take k) zs)) 2 true) ∧ (e = g7 ∨ H7.next ≤ e) ∧ g = (thenL (xs.take k) zs).length ∧ k ≤ xs.length) (fun (k, e, g) => xs.length - k) ((0, _, _)) ⟨rfl, rfl, trivial⟩ ⟨rfl, rfl, trivial⟩ ?_ ?_
  ·
   refine ⟨.refl _ _, by assumption, .inl rfl, by rfl, ?_⟩
   omega
  rintro ⟨k, e, g⟩ HL1 ⟨c, d, pl_L5, j, hI⟩ KL1 v
  refine .forget (fr' := [(6, some (.int .i64 (k : Int))), (5, some (.slice (some ⟨e, 0, none⟩) g g)), (0, some _), (1, some _)]) ⟨rfl, rfl, rfl, rfl, trivial⟩ ?_
  have o : H.next ≤ e := by omega
  have nx_HL1 := c.nx
  replace l := l.st c (fun k hk => ⟨by omega, trivial⟩)
  replace h := m.mono l
  replace h' := f.mono l
  have hfl : (thenL (xs.take k) zs).length = k := by simp; omega
  refine .seq (fun K5 a1 => .seq (fun K6 y => .region (.mv rfl (.mv rfl (.q rfl (.len sl_22_A rfl) (.q rfl (.cmp rfl rfl rfl) (.nil (y _ _ ?_))))))))
  refine .cond rfl (fun r => ?_) (fun r => ?_)
  ·
   simp only [sps] at r
   have q1 := hb k (by omega)
   refine .skip ?_
   refine a1 _ _ (.seq (fun K7 a3 => ?_))
   refine .block ?_
   refine .region (.mv rfl (.mv rfl (.mv rfl (.mv rfl ?_))))
   refine .q rfl (.idxN sl_22_A (by assumption) rfl rfl (by omega)) ?_
   refine .q rfl (.loadI on_2_A (by assumption) rfl (by omega)) ?_
   refine .q rfl (.idx1 sl_22_A (by assumption) rfl rfl (by omega) (by omega)) ?_
   refine .q rfl (.loadI on_2_A (by assumption) rfl (by omega)) ?_
   refine .R rfl (.litA rfl sl_22_A ze_2_E rfl rfl rfl rfl) ?_
   rintro _ H22 ⟨g22, rfl, n, ge22, t⟩
   replace c := c.le n
   replace d := n.2 _ _ d
   have lt_at22 := GHeap.ltg t
   refine .R rfl (.appendI rfl sl_22_A ze_2_E rfl by_2_E sl_22_A rfl rfl (by assumption) (by assumption) (by first | omega | (simp <;> omega)) (by omega) (by omega)) ?_
   rintro _ H23 ⟨g23, rfl, u, ge23, at23⟩
   replace c := c.sA u
   refine .mv rfl (.nil (a3 _ _ (.region (.mv rfl ?_))))
   refine .q rfl (.add rfl rfl rfl (by omega) (by omega)) ?_
   refine .mv rfl (.nil ?_)
   refine v ((k + 1, _, _)) _ _ ?_ ?_ ⟨rfl, rfl, rfl, rfl, trivial⟩
   ·
    refine ⟨c, by (rw [thenL_take_succ (by omega)]; assumption), by omega, by (rw [thenL_take_succ (by omega)] <;> (first | omega | (simp only [List.length_append, List.length_cons, List.length_nil] <;> omega))), ?_⟩
    omega
   (dsimp only; omega)
  try simp only [sps] at r
  refine .exit ?_
  refine a0 _ _ (.seq (fun K8 a2 => .region (.mv rfl (.mv rfl (.nil (a2 _ _ ?_))))))
  refine .ret ?_
  refine p _ _ ?_
  refine ⟨_, rfl, ?_⟩
  obtain rfl : k = xs.length := by omega
  rw [List.take_length] at d j
  exact ⟨l, _, by rw [j], d, o⟩
end Go.Proofs.Ytdfnfdellpfjhaa
namespace Go.Proofs.Ytdfnfdellpfjhaa
open Go Go.GL Go.RowKit Go.Proofs
theorem szInt64SS_s {a : Option Addr} {xss : List (List Int)} {r : Nat → Option Addr} {left : Int} {H : GHeap} (h : Intss H a xss r := by assumption) (hx : xss.length ≤ 9223372036854775807 := by omega) (hy : ∀ i, I64s (xss.getD i []) := by assumption) (h0 : 0 ≤ left := by omega) (h1 : left ≤ 1048576 := by omega) :
    GCalls Try.prog 20 [.slice a xss.length xss.length, .int .i64 left] H (SzR left (xss.length ≤ 1048576 ∧ ∀ i, (xss.getD i []).length ≤ 1048576) H) :=
  (szInt64SS_c h hx hy h0 h1).mono fun _ _ ⟨e, l, h2, h3, h4, h5⟩ => ⟨e, l, h2, h3, h4, fun h => ⟨by have := (h5 h).1; omega, fun i => by have := (h5 h).2 i; omega⟩⟩
end Go.Proofs.Ytdfnfdellpfjhaa
namespace Go.Proofs.Ytdfnfdellpfjhaa
open Go Go.GL Go.RowKit Go.Proofs
theorem sl_26_VZ : sliceT Try.prog 26 = some (23, 1) := by kernel_rfl
theorem ze_23_VZ : zeroT Try.prog 23 = some ([.slice none 0 0], 1) := by kernel_rfl
theorem by_23_VZ : (Try.prog.info? 23).map (·.bytes) = some 24 := by kernel_rfl
theorem szInt64SSS_c {a : Option Addr} {x : List (List (List Int))} {r : Nat → Option Addr} {s : Nat → Nat → Option Addr} {left : Int} {H : GHeap} (h : Intsss H a x r s := by assumption) (hw : Wd3 x := by assumption) (h0 : 0 ≤ left := by omega) (h1 : left ≤ 1048576 := by omega) :
    GCalls Try.prog 21 [.slice a x.length x.length, .int .i64 left] H (SzR left (Sm3 x) H) := by
  have hx := hw.1
  refine GCalls.body (N := 27) (rs := [.tmp 4]) Try.func21 rfl rfl rfl rfl (fun Qx b hend => ?_)
  refine .fg [0, 1] rfl ?_
  have hh := h
  obtain ⟨i1, i2⟩ := hh
  refine .seq (fun K1 u => .region (.mv rfl (.nil (u _ _ (.seq (fun K2 z => .region (.mv rfl (.mv rfl (.q rfl (.len sl_26_VZ rfl) ?_)))))))))
  refine .q rfl (.sub rfl rfl rfl (by omega) (by omega)) ?_
  refine .mv rfl (.nil (z _ _ (.seq (fun K3 a0 => .seq (fun K4 v => .region (.mv rfl (.q rfl (.cmp rfl rfl rfl) (.nil (v _ _ ?_)))))))))
  refine .cond rfl (fun f => ?_) (fun f => ?_)
  ·
   try simp only [sps] at f
   refine .seq (fun K5 a1 => .region (.mv rfl (.nil (a1 _ _ ?_))))
   refine .ret ?_
   refine b _ _ ?_
   refine ⟨_, rfl, ?_⟩
   exact ⟨rfl, _, rfl, by omega, by omega, fun h => by omega⟩
  try simp only [sps] at f
  refine .skip ?_
  refine a0 _ _ (.seq (fun K6 y => .seq (fun K7 a3 => .region (.mv rfl (.nil (a3 _ _ ?_))))))
  refine .block ?_
  refine .loopR (σ := Nat × Int) [(0, some _)] (fun (k, lf) => [(5, some (.int .i64 (k : Int))), (1, some (.int .i64 lf))]) (fun (k, lf) H' => H = H' ∧ k ≤ x.length ∧ 0 ≤ lf ∧ lf ≤ left - x.length ∧ ∀ i, i < k → (x.getD i []).length ≤ 1048576 ∧ ∀ j, ((x.getD i []).getD j []).length ≤ 1048576) (fun (k, lf) => x.length - k) ((0, left - x.length)) ⟨rfl, trivial⟩ ⟨rfl, rfl, trivial⟩ ?_ ?_
  ·
   refine ⟨rfl, ?_⟩
   exact ⟨by omega, by omega, by omega, fun i hi => by omega⟩
  rintro ⟨k, lf⟩ _ ⟨rfl, hI⟩ KL1 m
  refine .forget (fr' := [(5, some (.int .i64 (k : Int))), (1, some (.int .i64 lf)), (0, some _)]) ⟨rfl, rfl, rfl, trivial⟩ ?_
  obtain ⟨hk, hl0, hl1, c⟩ := hI
  refine .seq (fun K8 a2 => .seq (fun K9 w => .region (.mv rfl (.mv rfl (.q rfl (.len sl_26_VZ rfl) (.q rfl (.cmp rfl rfl rfl) (.nil (w _ _ ?_))))))))
  refine .cond rfl (fun p => ?_) (fun p => ?_)
  ·
   try simp only [sps] at p
   refine .skip ?_
   refine a2 _ _ (.seq (fun K10 o => ?_))
   refine .block ?_
   refine .seq (fun K11 t => .region (.mv rfl (.mv rfl ?_)))
   refine .q rfl (.idxN sl_26_VZ (Intsss.sl (by assumption)) rfl rfl (by omega)) ?_
   refine .q rfl (.loadRR on_23_B (by assumption) rfl (by omega)) ?_
   refine .mv rfl ?_
   have hyk := (hw.2 k).1
   have hyk2 := (hw.2 k).2
   have i2k := i2 k (by omega)
   refine .call rfl rfl rfl rfl @Try.call20 rfl (szInt64SS_s) ?_
   rintro _ _ ⟨rfl, lf, rfl, z1, z2, z3⟩
   refine .mv rfl (.nil (t _ _ (.seq (fun K12 d => .region (.mv rfl (.q rfl (.cmp rfl rfl rfl) (.nil (d _ _ ?_))))))))
   refine .cond rfl (fun l => ?_) (fun l => ?_)
   ·
    try simp only [sps] at l
    refine .seq (fun K13 n => .region (.mv rfl (.nil (n _ _ ?_))))
    refine .ret ?_
    refine b _ _ ?_
    refine ⟨_, rfl, ?_⟩
    exact ⟨rfl, _, rfl, by omega, by omega, fun h => by omega⟩
   try simp only [sps] at l
   refine .skip ?_
   refine o _ _ (.region (.mv rfl ?_))
   refine .q rfl (.add rfl rfl rfl (by omega) (by omega)) ?_
   refine .mv rfl (.nil ?_)
   refine m ((k + 1, _)) _ _ ?_ ?_ ⟨rfl, rfl, rfl, trivial⟩
   ·
    refine ⟨rfl, ?_⟩
    refine ⟨by omega, by omega, by omega, fun i hi => ?_⟩
    by_cases e : i < k
    · exact c i e
    · obtain rfl : i = k := by omega
      exact z3 (by omega)
   show x.length - (k + 1) < x.length - k; omega
  try simp only [sps] at p
  refine .exit ?_
  refine y _ _ (.seq (fun K14 g => .region (.mv rfl (.mv rfl (.nil (g _ _ ?_))))))
  refine .ret ?_
  refine b _ _ ?_
  refine ⟨_, rfl, ?_⟩
  exact ⟨rfl, _, rfl, by omega, by omega, fun _ => ⟨by omega, fun i => by
    by_cases e : i < x.length
    · exact c i (by omega)
    · rw [List.getD_eq_getElem?_getD, List.getElem?_eq_none (by omega)]; simp⟩⟩
theorem toInt64SSS_c {a : Option Addr} {x : List (List (List Int))} {r : Nat → Option Addr} {s : Nat → Nat → Option Addr} {H : GHeap} (h : Intsss H a x r s := by assumption) (hm : Sm3 x := by assumption) :
    GCalls Try.prog 26 [.slice a x.length x.length] H (NewIntsss H x) := by
  have hx := hm.1
  refine GCalls.body (N := 23) (rs := [.tmp 2]) Try.func26 rfl rfl rfl rfl (fun Qx f hend => ?_)
  refine .fg [0] rfl ?_
  refine .seq (fun K1 z => .region (.mv rfl (.nil (z _ _ (.seq (fun K2 v => .region (.mv rfl (.q rfl (.len sl_26_VZ rfl) ?_))))))))
  refine .d rfl rfl rfl (.makeSlice rfl sl_26_VZ ze_23_VZ by_23_VZ rfl rfl (by omega) rfl rfl (by omega) (by omega) (by omega) CIs.mk) ?_
  show GRun _ _ _ _ _ _ (H.push (.row (madeL [.slice none 0 0] (x.length * 1)) 23 true))
  have hlen := length_madeL [Value.slice none 0 0] (x.length * 1)
  rw [Nat.mul_one] at hlen ⊢
  have a0 := GHeap.le_push H (.row (madeL [.slice none 0 0] x.length) 23 true)
  have hn := GHeap.get_push_new H (.row (madeL [.slice none 0 0] x.length) 23 true)
  generalize H.push (.row (madeL [.slice none 0 0] x.length) 23 true) = H1 at *
  obtain ⟨g0, b⟩ : ∃ g0, g0 = H.next := ⟨_, rfl⟩
  rw [← b] at hn ⊢
  have hnx : H.next ≤ g0 := by omega
  clear b
  refine .mv rfl (.nil (v _ _ (.seq (fun K3 a3 => .seq (fun K4 a1 => .region (.mv rfl (.nil (a1 _ _ ?_))))))))
  refine .block ?_
  refine .loopR (σ := Nat) [(0, some _), (3, some _)] (fun k => [(4, some (.int .i64 (k : Int)))]) (fun k H' => k ≤ x.length ∧ H.Le H' ∧ H.next ≤ g0 ∧ ∃ (cs : List Value) (q : Nat → Option Addr) (u : Nat → Nat → Option Addr), H'.get g0 = some (.row cs 23 true) ∧ cs.length = x.length ∧ (∀ i, i < k → cs[i]? = some (.slice (q i) (x.getD i []).length (x.getD i []).length)) ∧ ∀ i, i < k → IntssAt (g0 + 1) H' (q i) (x.getD i []) (u i)) (fun k => x.length - k) (0) ⟨rfl, rfl, trivial⟩ ⟨rfl, trivial⟩ ?_ ?_
  ·
   exact ⟨by omega, a0, hnx, _, fun _ => none, fun _ _ => none, hn, hlen, fun i hi => by omega, fun i hi => by omega⟩
  rintro k H' hI KL1 l
  refine .forget (fr' := [(4, some (.int .i64 (k : Int))), (0, some _), (3, some _)]) ⟨rfl, rfl, rfl, trivial⟩ ?_
  obtain ⟨hk, hle', b, cs, q, u, hget, hcs, c, hats⟩ := hI
  have hlt := GHeap.ltg hget
  have hss := h.mono hle'
  have i2 := hss.2
  refine .seq (fun K5 t => .seq (fun K6 p => .region (.mv rfl (.mv rfl (.q rfl (.len sl_26_VZ rfl) (.q rfl (.cmp rfl rfl rfl) (.nil (p _ _ ?_))))))))
  refine .cond rfl (fun j => ?_) (fun j => ?_)
  ·
   try simp only [sps] at j
   refine .skip ?_
   refine t _ _ (.seq (fun K7 y => ?_))
   refine .block ?_
   refine .region (.mv rfl (.mv rfl (.mv rfl (.mv rfl ?_))))
   refine .q rfl (.idxN sl_26_VZ (Intsss.sl (by assumption)) rfl rfl (by omega)) ?_
   refine .q rfl (.loadRR on_23_B (by assumption) rfl (by omega)) ?_
   have i2k := i2 k (by omega)
   have hyk := (hm.2 k).1
   have hyk2 := (hm.2 k).2
   refine .call rfl rfl rfl rfl @Try.call25 rfl (toInt64SS_c) ?_
   rintro _ H2 ⟨m, a2, r2, rfl, n⟩
   have hget' := m.2 _ _ hget
   have hsl := SlA.of_row hget' hcs
   refine .q rfl (.idxN sl_26_VZ hsl rfl rfl (by omega)) ?_
   refine .d0 rfl rfl (.store rfl sz_23_E rfl rfl rfl hget' (by simp; omega) CIs.mk) ?_
   refine .nil (y _ _ (.region (.mv rfl ?_)))
   refine .q rfl (.add rfl rfl rfl (by omega) (by omega)) ?_
   refine .mv rfl (.nil ?_)
   refine l (k + 1) _ _ ?_ ?_ ⟨rfl, rfl, rfl, trivial⟩
   ·
    rw [Nat.zero_add]
    refine ⟨by omega, (hle'.trans m).set_new b, b, _, fun i => if i = k then a2 else q i, fun i => if i = k then r2 else u i, GHeap.get_set_eq (GHeap.ltg hget'), by simpa using hcs, fun i hi => ?_, fun i hi => ?_⟩
    · by_cases e : i = k
      · subst e; simp [List.getElem?_set, hcs]; omega
      · simp only [e, if_false]
        rw [List.getElem?_set_ne (Ne.symm e)]
        exact c i (by omega)
    · by_cases e : i = k
      · subst e
        simp only [if_true]
        exact n.keep (fun g o hg ho => by rw [GHeap.get_set_ne (by omega)]; exact ho) (by omega)
      · simp only [e, if_false]
        exact (hats i (by omega)).keep (fun g o hg ho => by rw [GHeap.get_set_ne (by omega)]; exact m.2 _ _ ho) (Nat.le_refl _)
   omega
  try simp only [sps] at j
  refine .exit ?_
  refine a3 _ _ (.seq (fun K8 w => .region (.mv rfl (.mv rfl (.nil (w _ _ ?_))))))
  refine .ret ?_
  refine f _ _ ?_
  refine ⟨_, rfl, ?_⟩
  exact ⟨hle', _, q, u, rfl, g0, _, cs, rfl, b, hget, hcs, fun i hi => c i (by omega), fun i hi => (hats i (by omega)).keep (.of_le (.refl _)) (by omega)⟩
theorem eqInt64SSS_c {a b : Option Addr} {x : List (List (List Int))} {r r' : Nat → Option Addr} {s s' : Nat → Nat → Option Addr} {H : GHeap} (h : Intsss H a x r s := by assumption) (h' : Intsss H b x r' s' := by assumption) (hm : Sm3 x := by assumption) :
    GCalls Try.prog 33 [.slice a x.length x.length, .slice b x.length x.length] H (Ret (.bool true) H) := by
  have hx := hm.1
  refine GCalls.body (N := 27) (rs := [.tmp 4]) Try.func33 rfl rfl rfl rfl (fun Qx d hend => ?_)
  refine .fg [0, 1] rfl ?_
  refine .seq (fun K1 v => .region (.mv rfl (.nil (v _ _ (.seq (fun K2 p => .seq (fun K3 z => .region (.mv rfl (.q rfl (.len sl_26_VZ rfl) (.mv rfl (.q rfl (.len sl_26_VZ rfl) (.q rfl (.cmp rfl rfl rfl) (.nil (z _ _ ?_))))))))))))))
  refine .cond rfl (fun i => ?_) (fun i => ?_)
  ·
   try simp only [sps] at i
   refine .seq (fun K4 w => .region (.mv rfl (.nil (w _ _ ?_))))
   refine .ret ?_
   refine d _ _ ?_
   refine ⟨_, rfl, ?_⟩
   first
   | (exfalso; omega)
   | (exfalso; simp_all)
  try simp only [sps] at i
  refine .skip ?_
  refine p _ _ (.seq (fun K5 o => .seq (fun K6 n => .region (.mv rfl (.nil (n _ _ ?_))))))
  refine .block ?_
  refine .loopR (σ := Nat) [(0, some _), (1, some _)] (fun k => [(5, some (.int .i64 (k : Int)))]) (fun k H' => H = H' ∧ k ≤ x.length) (fun k => x.length - k) (0) ⟨rfl, rfl, trivial⟩ ⟨rfl, trivial⟩ ?_ ?_
  ·
   refine ⟨rfl, ?_⟩
   omega
  rintro k _ ⟨rfl, hI⟩ KL1 m
  refine .forget (fr' := [(5, some (.int .i64 (k : Int))), (0, some _), (1, some _)]) ⟨rfl, rfl, rfl, trivial⟩ ?_
  refine .seq (fun K7 u => .seq (fun K8 t => .region (.mv rfl (.mv rfl (.q rfl (.len sl_26_VZ rfl) (.q rfl (.cmp rfl rfl rfl) (.nil (t _ _ ?_))))))))
  refine .cond rfl (fun j => ?_) (fun j => ?_)
  ·
   try simp only [sps] at j
   refine .skip ?_
   refine u _ _ (.seq (fun K9 y => ?_))
   refine .block ?_
   refine .seq (fun K10 l => ?_)
   refine .regionD mo_B (.q 0 (.q 1 (.q 2 (.q 3 (.q 4 (.q 5 (.q 6 (.q 7 (.c 8 0 (.q 9 (.done))))))))))) (by kernel_rfl) ?_
   have hyk := (hm.2 k).1
   have hyk2 := (hm.2 k).2
   have ir := h.2 k (by omega)
   have ir' := h'.2 k (by omega)
   refine .mv rfl rfl (.mv rfl rfl ?_)
   refine .q rfl (.idxN sl_26_VZ (Intsss.sl (by assumption)) rfl rfl (by omega)) ?_
   refine .q rfl (.loadRR on_23_B (by assumption) rfl (by omega)) ?_
   refine .mv rfl rfl (.mv rfl rfl ?_)
   refine .q rfl (.idxN sl_26_VZ (Intsss.sl (by assumption)) rfl rfl (by omega)) ?_
   refine .q rfl (.loadRR on_23_B (by assumption) rfl (by omega)) ?_
   refine .callQ0 rfl rfl rfl rfl rfl @Try.call9 rfl (eqInt64SS_c) ?_
   refine .q rfl (.not rfl) ?_
   refine .done ?_
   refine l _ _ ?_
   refine .cond rfl (fun g => ?_) (fun g => ?_)
   ·
    try simp only [sps] at g
    refine .seq (fun K11 e => .region (.mv rfl (.nil (e _ _ ?_))))
    refine .ret ?_
    refine d _ _ ?_
    refine ⟨_, rfl, ?_⟩
    first
    | (exfalso; omega)
    | (exfalso; simp_all)
   try simp only [sps] at g
   refine .skip ?_
   refine y _ _ (.region (.mv rfl ?_))
   refine .q rfl (.add rfl rfl rfl (by omega) (by omega)) ?_
   refine .mv rfl (.nil ?_)
   refine m (k + 1) _ _ ?_ ?_ ⟨rfl, rfl, rfl, trivial⟩
   ·
    refine ⟨rfl, ?_⟩
    omega
   omega
  try simp only [sps] at j
  refine .exit ?_
  refine o _ _ (.seq (fun K12 f => .region (.mv rfl (.nil (f _ _ ?_)))))
  refine .ret ?_
  refine d _ _ ?_
  refine ⟨_, rfl, ?_⟩
  exact .of rfl
end Go.Proofs.Ytdfnfdellpfjhaa
namespace Go.Proofs.Ytdfnfdellpfjhaa
open Go Go.GL Go.RowKit Go.Proofs
theorem sz_28_VProf : (Try.prog.info? 28).map (·.size) = some 13 := by kernel_rfl
theorem fo_28_0_VProf : fieldOff Try.prog 28 0 = some 0 := by kernel_rfl
theorem ag_25_VProf : aggT Try.prog 25 = some 5 := by kernel_rfl
theorem fo_28_1_VProf : fieldOff Try.prog 28 1 = some 5 := by kernel_rfl
theorem fo_28_2_VProf : fieldOff Try.prog 28 2 = some 10 := by kernel_rfl
theorem fo_28_3_VProf : fieldOff Try.prog 28 3 = some 11 := by kernel_rfl
theorem on_26_VProf : oneT Try.prog 26 = true := by kernel_rfl
theorem fo_28_4_VProf : fieldOff Try.prog 28 4 = some 12 := by kernel_rfl
theorem ze_34_VProf : zeroT Try.prog 34 = some ([.int .i64 0, .slice none 0 0, .slice none 0 0, .slice none 0 0, .slice none 0 0, .int .i64 0, .slice none 0 0, .slice none 0 0, .slice none 0 0, .slice none 0 0, .slice none 0 0, .slice none 0 0, .slice none 0 0], 13) := by kernel_rfl
theorem fo_34_0_VProf : fieldOff Try.prog 34 0 = some 0 := by kernel_rfl
theorem fo_34_1_VProf : fieldOff Try.prog 34 1 = some 5 := by kernel_rfl
theorem fo_34_2_VProf : fieldOff Try.prog 34 2 = some 10 := by kernel_rfl
theorem fo_34_3_VProf : fieldOff Try.prog 34 3 = some 11 := by kernel_rfl
theorem sz_26_VProf : (Try.prog.info? 26).map (·.size) = some 1 := by kernel_rfl
theorem fo_34_4_VProf : fieldOff Try.prog 34 4 = some 12 := by kernel_rfl
theorem ag_34_VProf : aggT Try.prog 34 = some 13 := by kernel_rfl
theorem sz_34_VProf : (Try.prog.info? 34).map (·.size) = some 13 := by kernel_rfl
theorem szProfunctor_c {c : Prof} {p : ProfP} {left : Int} {H : GHeap} (hin : c.In H p := by assumption) (hw : c.Wide := by assumption) (h0 : 0 ≤ left := by omega) (h1 : left ≤ 1048576 := by omega) :
    GCalls Try.prog 5 [.agg (c.cells p).toArray, .int .i64 left] H (SzR left c.Small H) := by
  refine SzR.of ?_
  obtain ⟨w0, w1, ⟨wa2, wb2⟩, w3, w4⟩ := hw
  refine GCalls.body (N := 36) (rs := [.tmp 4]) Try.func5 rfl rfl rfl rfl (fun Qx a hend => ?_)
  refine .fg [0, 1] rfl ?_
  have d := GHeap.Le.refl H
  have b := hin
  refine .seq (fun K1 a7 => .region ?_)
  refine .R rfl (.boxR rfl sz_28_VProf rfl) ?_
  rintro _ H2 ⟨g2, rfl, b3, ge2, e⟩
  replace d := d.trans b3
  replace hin := b.mono d
  have b5 : Prof.At _ g2 0 c p := ⟨Mem.of_get e, hin⟩
  obtain ⟨a5, a4, c102, c112, c122, i22, i32, i42⟩ := b5.get
  have hms2 : MemN _ _ _ _ _ := ⟨rfl, a5.1⟩
  have his2 := a5.2
  have hmt2 : MemN _ _ _ _ _ := ⟨rfl, a4.1⟩
  have hit2 := a4.2
  refine .mv rfl (.nil (a7 _ _ (.seq (fun K2 b1 => .region (.q rfl (.fieldAddr fo_28_0_VProf rfl) ?_)))))
  refine .q rfl (.loadM ag_25_VProf rfl (by assumption)) ?_
  refine .mv rfl ?_
  refine .call rfl rfl rfl rfl @Try.call19 rfl (szCategory_c) ?_
  rintro _ _ ⟨heq, lf8, rfl, z18, z28, a6⟩
  obtain rfl := heq.symm
  refine .mv rfl (.nil (b1 _ _ (.seq (fun K3 b2 => .seq (fun K4 a8 => .region (.mv rfl (.q rfl (.cmp rfl rfl rfl) (.nil (a8 _ _ ?_)))))))))
  refine .cond rfl (fun m => ?_) (fun m => ?_)
  ·
   try simp only [sps] at m
   refine .seq (fun K5 b4 => .region (.mv rfl (.nil (b4 _ _ ?_))))
   refine .ret ?_
   refine a _ _ ?_
   refine ⟨_, rfl, ?_⟩
   exact ⟨d, _, rfl, by omega, by omega, fun h => by omega⟩
  try simp only [sps] at m
  have hsm8 := a6 (by omega)
  refine .skip ?_
  refine b2 _ _ (.seq (fun K6 b0 => .region (.q rfl (.fieldAddr fo_28_1_VProf rfl) ?_)))
  refine .q rfl (.loadM ag_25_VProf rfl (by assumption)) ?_
  refine .mv rfl ?_
  refine .call rfl rfl rfl rfl @Try.call19 rfl (szCategory_c) ?_
  rintro _ _ ⟨heq, lf14, rfl, z114, z214, a1⟩
  obtain rfl := heq.symm
  refine .mv rfl (.nil (b0 _ _ (.seq (fun K7 b7 => .seq (fun K8 b6 => .region (.mv rfl (.q rfl (.cmp rfl rfl rfl) (.nil (b6 _ _ ?_)))))))))
  refine .cond rfl (fun n => ?_) (fun n => ?_)
  ·
   try simp only [sps] at n
   refine .seq (fun K9 a9 => .region (.mv rfl (.nil (a9 _ _ ?_))))
   refine .ret ?_
   refine a _ _ ?_
   refine ⟨_, rfl, ?_⟩
   exact ⟨d, _, rfl, by omega, by omega, fun h => by omega⟩
  try simp only [sps] at n
  have hsm14 := a1 (by omega)
  refine .skip ?_
  refine b7 _ _ (.seq (fun K10 a0 => .region (.q rfl (.fieldAddr fo_28_2_VProf rfl) ?_)))
  refine .q rfl (.load on_23_B rfl (by first | assumption | exact Mem.of_get e 10 _ rfl)) ?_
  refine .mv rfl ?_
  refine .call rfl rfl rfl rfl @Try.call20 rfl (szInt64SS_s) ?_
  rintro _ _ ⟨heq, lf20, rfl, z120, z220, t⟩
  obtain rfl := heq.symm
  refine .mv rfl (.nil (a0 _ _ (.seq (fun K11 a2 => .seq (fun K12 f => .region (.mv rfl (.q rfl (.cmp rfl rfl rfl) (.nil (f _ _ ?_)))))))))
  refine .cond rfl (fun l => ?_) (fun l => ?_)
  ·
   try simp only [sps] at l
   refine .seq (fun K13 z => .region (.mv rfl (.nil (z _ _ ?_))))
   refine .ret ?_
   refine a _ _ ?_
   refine ⟨_, rfl, ?_⟩
   exact ⟨d, _, rfl, by omega, by omega, fun h => by omega⟩
  try simp only [sps] at l
  have hsm20 := t (by omega)
  refine .skip ?_
  refine a2 _ _ (.seq (fun K14 r => .region (.q rfl (.fieldAddr fo_28_3_VProf rfl) ?_)))
  refine .q rfl (.load on_26_VProf rfl (by first | assumption | exact Mem.of_get e 11 _ rfl)) ?_
  refine .mv rfl ?_
  refine .call rfl rfl rfl rfl @Try.call21 rfl (szInt64SSS_c) ?_
  rintro _ _ ⟨heq, lf26, rfl, z126, z226, v⟩
  obtain rfl := heq.symm
  refine .mv rfl (.nil (r _ _ (.seq (fun K15 i => .seq (fun K16 u => .region (.mv rfl (.q rfl (.cmp rfl rfl rfl) (.nil (u _ _ ?_)))))))))
  refine .cond rfl (fun k => ?_) (fun k => ?_)
  ·
   try simp only [sps] at k
   refine .seq (fun K17 j => .region (.mv rfl (.nil (j _ _ ?_))))
   refine .ret ?_
   refine a _ _ ?_
   refine ⟨_, rfl, ?_⟩
   exact ⟨d, _, rfl, by omega, by omega, fun h => by omega⟩
  try simp only [sps] at k
  have hsm26 := v (by omega)
  refine .skip ?_
  refine i _ _ (.seq (fun K18 s => .region (.q rfl (.fieldAddr fo_28_4_VProf rfl) ?_)))
  refine .q rfl (.load on_26_VProf rfl (by first | assumption | exact Mem.of_get e 12 _ rfl)) ?_
  refine .mv rfl ?_
  refine .call rfl rfl rfl rfl @Try.call21 rfl (szInt64SSS_c) ?_
  rintro _ _ ⟨heq, lf32, rfl, z132, z232, g⟩
  obtain rfl := heq.symm
  refine .mv rfl (.nil (s _ _ (.seq (fun K19 a3 => .seq (fun K20 o => .region (.mv rfl (.q rfl (.cmp rfl rfl rfl) (.nil (o _ _ ?_)))))))))
  refine .cond rfl (fun x => ?_) (fun x => ?_)
  ·
   try simp only [sps] at x
   refine .seq (fun K21 y => .region (.mv rfl (.nil (y _ _ ?_))))
   refine .ret ?_
   refine a _ _ ?_
   refine ⟨_, rfl, ?_⟩
   exact ⟨d, _, rfl, by omega, by omega, fun h => by omega⟩
  try simp only [sps] at x
  have hsm32 := g (by omega)
  refine .skip ?_
  refine a3 _ _ (.seq (fun K22 w => .region (.mv rfl (.mv rfl (.nil (w _ _ ?_))))))
  refine .ret ?_
  refine a _ _ ?_
  refine ⟨_, rfl, ?_⟩
  exact ⟨d, _, rfl, by omega, by omega, fun h => ⟨by assumption, by assumption, by assumption, by assumption, by assumption⟩⟩
set_option maxHeartbeats 4000000 in
theorem toProfunctor_c {c : Prof} {p : ProfP} {H : GHeap} (hin : c.In H p := by assumption) (hs : c.Small := by assumption) : GCalls Try.prog 7 [.agg (c.cells p).toArray] H (NewProf H c) := by
  obtain ⟨w0, w1, ⟨wa2, wb2⟩, w3, w4⟩ := hs
  refine GCalls.body (N := 25) (rs := [.cell 2 34]) Try.func7 rfl rfl rfl rfl (fun Qx c6 hend => ?_)
  refine .fg [0] rfl ?_
  have i := GHeap.Le.refl H
  have b := hin
  refine .seq (fun K1 g0 => .region ?_)
  refine .R rfl (.boxR rfl sz_28_VProf rfl) ?_
  rintro _ H1 ⟨g1, rfl, f1, ge1, g⟩
  replace i := i.trans f1
  have lt_at1 := GHeap.ltg g
  replace hin := b.mono i
  have u : Prof.At _ g1 0 c p := ⟨Mem.of_get g, hin⟩
  refine .R rfl (.allocR rfl ze_34_VProf rfl) ?_
  rintro _ H2 ⟨g2, rfl, d8, ge2, w⟩
  replace i := i.trans d8
  replace g := d8.2 _ _ g
  have lt_at2 := GHeap.ltg w
  replace hin := b.mono i
  clear u
  have u : Prof.At _ g1 0 c p := ⟨Mem.of_get g, hin⟩
  refine .nil (g0 _ _ (.seq (fun K2 e1 => .region ?_)))
  refine .R rfl (.allocR rfl ze_34_VProf rfl) ?_
  rintro _ H3 ⟨g3, rfl, b9, ge3, c2⟩
  have nx_H3 := b9.1
  replace i := i.trans b9
  replace g := b9.2 _ _ g
  replace w := b9.2 _ _ w
  have lt_at3 := GHeap.ltg c2
  replace hin := b.mono i
  clear u
  have u : Prof.At _ g1 0 c p := ⟨Mem.of_get g, hin⟩
  obtain ⟨d0, -, -, -, -, -, -, -⟩ := u.get
  have d3 : MemN _ _ _ _ _ := ⟨rfl, d0.1⟩
  have c9 := d0.2
  refine .nil (e1 _ _ (.seq (fun K3 e3 => .region (.q rfl (.fieldAddr fo_28_0_VProf rfl) ?_))))
  refine .q rfl (.loadM ag_25_VProf rfl (by assumption)) ?_
  refine .call rfl rfl rfl rfl @Try.call24 rfl (toCategory_c) ?_
  rintro _ H6 ⟨b8, p6, rfl, v6⟩
  have nx_H6 := b8.1
  replace i := i.trans b8
  replace g := b8.2 _ _ g
  replace w := b8.2 _ _ w
  replace c2 := b8.2 _ _ c2
  have b3 := v6
  have e : Keep H3.next H6 H6 := fun _ _ _ h => h
  replace hin := b.mono i
  clear u d0 d3 c9
  have u : Prof.At _ g1 0 c p := ⟨Mem.of_get g, hin⟩
  refine .q rfl (.fieldAddr fo_34_0_VProf rfl) ?_
  refine .r0 rfl rfl (.storeNR rfl sz_32_D rfl rfl rfl rfl (by assumption) (by first | rfl | exact Nat.le_of_ble_eq_true rfl | simp)) ?_
  rintro _ b4 ⟨rfl, y, a3⟩
  have nx_H2004 := y.nx
  replace i := i.st y (fun k hk => ⟨by omega, trivial⟩)
  have m : NE g1 g3 := .a
  replace g := y.s g m.ne
  have o : NE g2 g3 := .a
  replace w := y.s w o.ne
  replace e := Keep.st e y (fun k hb hk => ⟨by omega, trivial⟩)
  have lt_at2004 := GHeap.ltg a3
  replace hin := b.mono i
  clear u
  have u : Prof.At _ g1 0 c p := ⟨Mem.of_get g, hin⟩
  obtain ⟨-, c5, -, -, -, -, -, -⟩ := u.get
  have d4 : MemN _ _ _ _ _ := ⟨rfl, c5.1⟩
  have c4 := c5.2
  refine .nil (e3 _ _ (.seq (fun K4 e0 => .region (.q rfl (.fieldAddr fo_28_1_VProf rfl) ?_))))
  refine .q rfl (.loadM ag_25_VProf rfl (by assumption)) ?_
  refine .call rfl rfl rfl rfl @Try.call24 rfl (toCategory_c) ?_
  rintro _ d9 ⟨a6, e5, rfl, c8⟩
  have nx_H10 := a6.1
  replace i := i.trans a6
  replace g := a6.2 _ _ g
  replace w := a6.2 _ _ w
  replace a3 := a6.2 _ _ a3
  replace e := Keep.le e a6
  have b1 := c8
  have d : Keep b4.next d9 d9 := fun _ _ _ h => h
  replace hin := b.mono i
  clear u c5 d4 c4
  have u : Prof.At _ g1 0 c p := ⟨Mem.of_get g, hin⟩
  refine .q rfl (.fieldAddr fo_34_1_VProf rfl) ?_
  refine .r0 rfl rfl (.storeNR rfl sz_32_D rfl rfl rfl rfl (by assumption) (by first | rfl | exact Nat.le_of_ble_eq_true rfl | simp)) ?_
  rintro _ b7 ⟨rfl, v, a5⟩
  have nx_H3004 := v.nx
  replace i := i.st v (fun k hk => ⟨by omega, trivial⟩)
  replace g := v.s g m.ne
  replace w := v.s w o.ne
  replace e := Keep.st e v (fun k hb hk => ⟨by omega, trivial⟩)
  replace d := Keep.st d v (fun k hb hk => ⟨by omega, trivial⟩)
  have lt_at3004 := GHeap.ltg a5
  replace hin := b.mono i
  clear u
  have u : Prof.At _ g1 0 c p := ⟨Mem.of_get g, hin⟩
  obtain ⟨-, -, c1, -, -, f7, -, -⟩ := u.get
  refine .nil (e0 _ _ (.seq (fun K5 f2 => .region (.q rfl (.fieldAddr fo_28_2_VProf rfl) ?_))))
  refine .q rfl (.load on_23_B rfl (by first | assumption | exact Mem.of_get g 10 _ rfl)) ?_
  refine .call rfl rfl rfl rfl @Try.call25 rfl (toInt64SS_c) ?_
  rintro _ d6 ⟨a4, f5, e8, rfl, c7⟩
  have nx_H14 := a4.1
  replace i := i.trans a4
  replace g := a4.2 _ _ g
  replace w := a4.2 _ _ w
  replace a5 := a4.2 _ _ a5
  replace e := Keep.le e a4
  replace d := Keep.le d a4
  have a9 := c7
  have f : Keep b7.next d6 d6 := fun _ _ _ h => h
  replace hin := b.mono i
  clear u c1 f7
  have u : Prof.At _ g1 0 c p := ⟨Mem.of_get g, hin⟩
  refine .q rfl (.fieldAddr fo_34_2_VProf rfl) ?_
  refine .r0 rfl rfl (.storeR rfl sz_23_E rfl rfl rfl (by assumption) (by first | exact Nat.le_of_ble_eq_true rfl | (simp; done) | (simp <;> omega))) ?_
  rintro _ b5 ⟨rfl, r, a0⟩
  have nx_H4004 := r.nx
  replace i := i.st r (fun k hk => ⟨by omega, trivial⟩)
  replace g := r.s g m.ne
  replace w := r.s w o.ne
  replace e := Keep.st e r (fun k hb hk => ⟨by omega, trivial⟩)
  replace d := Keep.st d r (fun k hb hk => ⟨by omega, trivial⟩)
  replace f := Keep.st f r (fun k hb hk => ⟨by omega, trivial⟩)
  have lt_at4004 := GHeap.ltg a0
  replace hin := b.mono i
  clear u
  have u : Prof.At _ g1 0 c p := ⟨Mem.of_get g, hin⟩
  obtain ⟨-, -, -, d2, -, -, f8, -⟩ := u.get
  try simp only [Nat.zero_add, List.set_cons_succ, List.set_cons_zero] at a0
  refine .nil (f2 _ _ (.seq (fun K6 f0 => .region (.q rfl (.fieldAddr fo_28_3_VProf rfl) ?_))))
  refine .q rfl (.load on_26_VProf rfl (by first | assumption | exact Mem.of_get g 11 _ rfl)) ?_
  refine .call rfl rfl rfl rfl @Try.call26 rfl (toInt64SSS_c) ?_
  rintro _ d7 ⟨a1, e9, e2, e4, rfl, c3⟩
  have nx_H18 := a1.1
  replace i := i.trans a1
  replace g := a1.2 _ _ g
  replace w := a1.2 _ _ w
  replace a0 := a1.2 _ _ a0
  replace e := Keep.le e a1
  replace d := Keep.le d a1
  replace f := Keep.le f a1
  have a8 := c3
  have j : Keep b5.next d7 d7 := fun _ _ _ h => h
  replace hin := b.mono i
  clear u d2 f8
  have u : Prof.At _ g1 0 c p := ⟨Mem.of_get g, hin⟩
  refine .q rfl (.fieldAddr fo_34_3_VProf rfl) ?_
  refine .r0 rfl rfl (.storeR rfl sz_26_VProf rfl rfl rfl (by assumption) (by first | exact Nat.le_of_ble_eq_true rfl | (simp; done) | (simp <;> omega))) ?_
  rintro _ b6 ⟨rfl, n, z⟩
  have nx_H5004 := n.nx
  replace i := i.st n (fun k hk => ⟨by omega, trivial⟩)
  replace g := n.s g m.ne
  replace w := n.s w o.ne
  replace e := Keep.st e n (fun k hb hk => ⟨by omega, trivial⟩)
  replace d := Keep.st d n (fun k hb hk => ⟨by omega, trivial⟩)
  replace f := Keep.st f n (fun k hb hk => ⟨by omega, trivial⟩)
  replace j := Keep.st j n (fun k hb hk => ⟨by omega, trivial⟩)
  have lt_at5004 := GHeap.ltg z
  replace hin := b.mono i
  clear u
  have u : Prof.At _ g1 0 c p := ⟨Mem.of_get g, hin⟩
  obtain ⟨-, -, -, -, d1, -, -, e7⟩ := u.get
  try simp only [Nat.zero_add, List.set_cons_succ, List.set_cons_zero] at z
  refine .nil (f0 _ _ (.seq (fun K7 f9 => .region (.q rfl (.fieldAddr fo_28_4_VProf rfl) ?_))))
  refine .q rfl (.load on_26_VProf rfl (by first | assumption | exact Mem.of_get g 12 _ rfl)) ?_
  refine .call rfl rfl rfl rfl @Try.call26 rfl (toInt64SSS_c) ?_
  rintro _ d5 ⟨a2, e6, f4, f6, rfl, c0⟩
  replace i := i.trans a2
  replace g := a2.2 _ _ g
  replace w := a2.2 _ _ w
  replace z := a2.2 _ _ z
  replace e := Keep.le e a2
  replace d := Keep.le d a2
  replace f := Keep.le f a2
  replace j := Keep.le j a2
  have b0 := c0
  have x : Keep b6.next d5 d5 := fun _ _ _ h => h
  replace hin := b.mono i
  clear u d1 e7
  have u : Prof.At _ g1 0 c p := ⟨Mem.of_get g, hin⟩
  refine .q rfl (.fieldAddr fo_34_4_VProf rfl) ?_
  refine .r0 rfl rfl (.storeR rfl sz_26_VProf rfl rfl rfl (by assumption) (by first | exact Nat.le_of_ble_eq_true rfl | (simp; done) | (simp <;> omega))) ?_
  rintro _ H6004 ⟨rfl, l, a7⟩
  replace i := i.st l (fun k hk => ⟨by omega, trivial⟩)
  replace g := l.s g m.ne
  replace w := l.s w o.ne
  replace e := Keep.st e l (fun k hb hk => ⟨by omega, trivial⟩)
  replace d := Keep.st d l (fun k hb hk => ⟨by omega, trivial⟩)
  replace f := Keep.st f l (fun k hb hk => ⟨by omega, trivial⟩)
  replace j := Keep.st j l (fun k hb hk => ⟨by omega, trivial⟩)
  replace x := Keep.st x l (fun k hb hk => ⟨by omega, trivial⟩)
  replace hin := b.mono i
  clear u
  have u : Prof.At _ g1 0 c p := ⟨Mem.of_get g, hin⟩
  try simp only [Nat.zero_add, List.set_cons_succ, List.set_cons_zero] at a7
  refine .nil (f9 _ _ (.seq (fun K8 f3 => .region ?_)))
  refine .q rfl (.loadM ag_34_VProf rfl ⟨rfl, Mem.of_get a7⟩) ?_
  refine .r0 rfl rfl (.fillA rfl sz_34_VProf rfl rfl rfl rfl) ?_
  rintro _ H7001 ⟨rfl, t, b2⟩
  replace i := i.st t (fun k hk => ⟨by omega, trivial⟩)
  replace g := t.s g
  replace e := Keep.st e t (fun k hb hk => ⟨by omega, trivial⟩)
  replace v6 := b3.keep e (Nat.le_refl _)
  replace d := Keep.st d t (fun k hb hk => ⟨by omega, trivial⟩)
  replace c8 := b1.keep d (Nat.le_refl _)
  replace f := Keep.st f t (fun k hb hk => ⟨by omega, trivial⟩)
  replace c7 := a9.keep f (Nat.le_refl _)
  replace j := Keep.st j t (fun k hb hk => ⟨by omega, trivial⟩)
  replace c3 := a8.keep j (Nat.le_refl _)
  replace x := Keep.st x t (fun k hb hk => ⟨by omega, trivial⟩)
  replace c0 := b0.keep x (Nat.le_refl _)
  replace hin := b.mono i
  clear u
  have u : Prof.At _ g1 0 c p := ⟨Mem.of_get g, hin⟩
  refine .nil (f3 _ _ ?_)
  refine .ret ?_
  refine c6 _ _ ?_
  refine ⟨_, _, _, _, rfl, ag_34_VProf, (by rfl), (Mem.of_get b2), ?_⟩
  exact ⟨i, ⟨p6, e5, f5, e8, e9, e2, e4, e6, f4, f6⟩, rfl, ⟨v6.keep (.of_le (.refl _)) (by omega), c8.keep (.of_le (.refl _)) (by omega), c7.keep (.of_le (.refl _)) (by omega), c3.keep (.of_le (.refl _)) (by omega), c0.keep (.of_le (.refl _)) (by omega)⟩⟩
set_option maxHeartbeats 4000000 in
theorem eqProfunctor_c {c : Prof} {p p' : ProfP} {H : GHeap} (hin : c.In H p := by assumption) (hin' : c.In H p' := by assumption) (hs : c.Small := by assumption) : GCalls Try.prog 10 [.agg (c.cells p).toArray, .agg (c.cells p').toArray] H (Ret (.bool true) H) := by
  refine GCalls.ret rfl ?_
  obtain ⟨w0, w1, ⟨wa2, wb2⟩, w3, w4⟩ := hs
  refine GCalls.body (N := 35) (rs := [.tmp 4]) Try.func10 rfl rfl rfl rfl (fun Qx b hend => ?_)
  refine .fg [0, 1] rfl ?_
  have e := GHeap.Le.refl H
  have a := hin
  have d := hin'
  refine .seq (fun K1 a3 => .region ?_)
  refine .R rfl (.boxR rfl sz_34_VProf rfl) ?_
  rintro _ H2 ⟨g2, rfl, a9, ge2, f⟩
  replace e := e.trans a9
  replace hin := a.mono e
  have v : Prof.At _ g2 0 c p := ⟨Mem.of_get f, hin⟩
  refine .R rfl (.boxR rfl sz_34_VProf rfl) ?_
  rintro _ H3 ⟨g3, rfl, z, ge3, g⟩
  replace e := e.trans z
  replace f := z.2 _ _ f
  replace hin := a.mono e
  replace hin' := d.mono e
  clear v
  have v : Prof.At _ g2 0 c p := ⟨Mem.of_get f, hin⟩
  obtain ⟨a0, a1, c102, c112, c122, i22, i32, i42⟩ := v.get
  have hms2 : MemN _ _ _ _ _ := ⟨rfl, a0.1⟩
  have his2 := a0.2
  have hmt2 : MemN _ _ _ _ _ := ⟨rfl, a1.1⟩
  have hit2 := a1.2
  have a2 : Prof.At _ g3 0 c p' := ⟨Mem.of_get g, hin'⟩
  obtain ⟨y, x, c103, c113, c123, i23, i33, i43⟩ := a2.get
  have hms3 : MemN _ _ _ _ _ := ⟨rfl, y.1⟩
  have his3 := y.2
  have hmt3 : MemN _ _ _ _ _ := ⟨rfl, x.1⟩
  have hit3 := x.2
  refine .mv rfl (.nil (a3 _ _ (.seq (fun K2 a7 => .seq (fun K3 a8 => .region (.q rfl (.fieldAddr fo_34_0_VProf rfl) ?_))))))
  refine .q rfl (.loadM ag_32_D rfl (by assumption)) ?_
  refine .q rfl (.fieldAddr fo_34_0_VProf rfl) ?_
  refine .q rfl (.loadM ag_32_D rfl (by assumption)) ?_
  refine .callQ rfl rfl rfl rfl @Try.call32 rfl (eqCategory_c) ?_
  refine .q rfl (.not rfl) (.nil (a8 _ _ ?_))
  refine .cond rfl (fun m => ?_) (fun m => ?_)
  ·
   try simp only [sps] at m
   refine .seq (fun K4 a4 => .region (.mv rfl (.nil (a4 _ _ ?_))))
   refine .ret ?_
   refine b _ _ ?_
   refine ⟨_, rfl, ?_⟩
   contradiction
  try simp only [sps] at m
  refine .skip ?_
  refine a7 _ _ (.seq (fun K5 b0 => .seq (fun K6 a6 => .region (.q rfl (.fieldAddr fo_34_1_VProf rfl) ?_))))
  refine .q rfl (.loadM ag_32_D rfl (by assumption)) ?_
  refine .q rfl (.fieldAddr fo_34_1_VProf rfl) ?_
  refine .q rfl (.loadM ag_32_D rfl (by assumption)) ?_
  refine .callQ rfl rfl rfl rfl @Try.call32 rfl (eqCategory_c) ?_
  refine .q rfl (.not rfl) (.nil (a6 _ _ ?_))
  refine .cond rfl (fun n => ?_) (fun n => ?_)
  ·
   try simp only [sps] at n
   refine .seq (fun K7 b2 => .region (.mv rfl (.nil (b2 _ _ ?_))))
   refine .ret ?_
   refine b _ _ ?_
   refine ⟨_, rfl, ?_⟩
   contradiction
  try simp only [sps] at n
  refine .skip ?_
  refine b0 _ _ (.seq (fun K8 b1 => .seq (fun K9 a5 => .region (.q rfl (.fieldAddr fo_34_2_VProf rfl) ?_))))
  refine .q rfl (.load on_23_B rfl (by first | assumption | exact Mem.of_get f 10 _ rfl)) ?_
  refine .q rfl (.fieldAddr fo_34_2_VProf rfl) ?_
  refine .q rfl (.load on_23_B rfl (by first | assumption | exact Mem.of_get g 10 _ rfl)) ?_
  refine .callQ rfl rfl rfl rfl @Try.call9 rfl (eqInt64SS_c) ?_
  refine .q rfl (.not rfl) (.nil (a5 _ _ ?_))
  refine .cond rfl (fun l => ?_) (fun l => ?_)
  ·
   try simp only [sps] at l
   refine .seq (fun K10 u => .region (.mv rfl (.nil (u _ _ ?_))))
   refine .ret ?_
   refine b _ _ ?_
   refine ⟨_, rfl, ?_⟩
   contradiction
  try simp only [sps] at l
  refine .skip ?_
  refine b1 _ _ (.seq (fun K11 w => .seq (fun K12 h => .region (.q rfl (.fieldAddr fo_34_3_VProf rfl) ?_))))
  refine .q rfl (.load on_26_VProf rfl (by first | assumption | exact Mem.of_get f 11 _ rfl)) ?_
  refine .q rfl (.fieldAddr fo_34_3_VProf rfl) ?_
  refine .q rfl (.load on_26_VProf rfl (by first | assumption | exact Mem.of_get g 11 _ rfl)) ?_
  refine .callQ rfl rfl rfl rfl @Try.call33 rfl (eqInt64SSS_c) ?_
  refine .q rfl (.not rfl) (.nil (h _ _ ?_))
  refine .cond rfl (fun k => ?_) (fun k => ?_)
  ·
   try simp only [sps] at k
   refine .seq (fun K13 t => .region (.mv rfl (.nil (t _ _ ?_))))
   refine .ret ?_
   refine b _ _ ?_
   refine ⟨_, rfl, ?_⟩
   contradiction
  try simp only [sps] at k
  refine .skip ?_
  refine w _ _ (.seq (fun K14 o => .seq (fun K15 i => .region (.q rfl (.fieldAddr fo_34_4_VProf rfl) ?_))))
  refine .q rfl (.load on_26_VProf rfl (by first | assumption | exact Mem.of_get f 12 _ rfl)) ?_
  refine .q rfl (.fieldAddr fo_34_4_VProf rfl) ?_
  refine .q rfl (.load on_26_VProf rfl (by first | assumption | exact Mem.of_get g 12 _ rfl)) ?_
  refine .callQ rfl rfl rfl rfl @Try.call33 rfl (eqInt64SSS_c) ?_
  refine .q rfl (.not rfl) (.nil (i _ _ ?_))
  refine .cond rfl (fun s => ?_) (fun s => ?_)
  ·
   try simp only [sps] at s
   refine .seq (fun K16 r => .region (.mv rfl (.nil (r _ _ ?_))))
   refine .ret ?_
   refine b _ _ ?_
   refine ⟨_, rfl, ?_⟩
   contradiction
  try simp only [sps] at s
  refine .skip ?_
  refine o _ _ (.seq (fun K17 j => .region (.mv rfl (.nil (j _ _ ?_)))))
  refine .ret ?_
  refine b _ _ ?_
  refine ⟨_, rfl, ?_⟩
  exact ⟨rfl, e⟩
end Go.Proofs.Ytdfnfdellpfjhaa
