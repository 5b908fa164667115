/- What a caller hands in, brought into a ghost heap; the last step of a row that says 'true, and the arguments read as they did'. No condition. -/
import Derived.Test.YtiooclghkafokaaZ6
import Derived.Below
import Derived.ChangeSame
import Derived.ChangeSlices
import Derived.Deep.Slices
import Derived.Deep.Matrix
import Derived.WideKeyArgs
namespace Go.GL
open Go.RowKit Go.WideShapes Go.ChangeShapes Go.Deep

def GHeap.gap (H : GHeap) : GHeap := ⟨H.objs ++ [none]⟩
@[simp] theorem GHeap.next_gap (H : GHeap) : H.gap.next = H.next + 1 := by simp [GHeap.next, GHeap.gap]
theorem GHeap.get_gap (H : GHeap) (g : Nat) : H.gap.get g = H.get g := by
  unfold GHeap.get GHeap.gap
  simp only
  rcases Nat.lt_or_ge g H.objs.length with hl | hl
  · rw [List.getElem?_append_left hl]
  · rw [List.getElem?_append_right hl, List.getElem?_eq_none hl]
    rcases Nat.eq_zero_or_pos (g - H.objs.length) with e | e
    · rw [e]; rfl
    · rw [List.getElem?_eq_none (by simp; omega)]
theorem GHeap.le_gap (H : GHeap) : H.Le H.gap := ⟨by simp, fun g o h => by rw [GHeap.get_gap]; exact h⟩

section
variable {P : Program} {B : Nat} {w0 : World} {ρ : Place} {H : GHeap} {w : World}

theorem Sim.start (P : Program) (W : World) : Sim P W.heap.size W (fun _ => none) ⟨[]⟩ W :=
  ⟨fun _ _ => rfl, fun g o h => by simp [GHeap.get] at h, fun g g' o o' s s' h => by simp [GHeap.get] at h, Nat.le_refl _, .refl _ _⟩

theorem Sim.gap (hs : Sim P B w0 ρ H w) (s : Spot) : Sim P B w0 (place ρ H.next s) H.gap w ∧ Ext ρ (place ρ H.next s) := by
  have hext : Ext ρ (place ρ H.next s) := place_ext (hs.dom _ (Nat.le_refl _))
  refine ⟨⟨fun g hg => ?_, fun g o hg => ?_, fun g g' o o' t t' h1 h2 h3 h4 h5 h6 h7 => ?_, hs.base, hs.below⟩, hext⟩
  · simp at hg
    unfold place
    rw [if_neg (by omega)]
    exact hs.dom g (by omega)
  · rw [GHeap.get_gap] at hg
    exact (hs.live g o hg).keep hext fun _ _ => rfl
  · rw [GHeap.get_gap] at h1 h2
    have e1 := GHeap.ltg h1
    have e2 := GHeap.ltg h2
    unfold place at h6 h7
    rw [if_neg (by omega)] at h6 h7
    exact hs.apart g g' o o' t t' h1 h2 h3 h4 h5 h6 h7

theorem Sim.look (hs : Sim P B w0 ρ H w) {b : Nat} {C : Array Value} {e : TypeId} {fz : Nat × Nat} (hb : b < B) (hw : w.heap[b]? = some (.cells C e fz)) {off k : Nat} {vs : List Value} (hl : off + vs.length ≤ C.size)
    (hv : ∀ (i : Nat) (v : Value), vs[i]? = some v → ∃ c, C[off + i]? = some c ∧ VRel ρ v c) :
    Sim P B w0 (place ρ H.next ⟨b, off, C.size, k⟩) (H.push (.row vs e false)) w ∧ Ext ρ (place ρ H.next ⟨b, off, C.size, k⟩) := by
  have hext : Ext ρ (place ρ H.next ⟨b, off, C.size, k⟩) := place_ext (hs.dom _ (Nat.le_refl _))
  refine ⟨⟨fun g hg => ?_, fun g o hg => ?_, fun g g' o o' t t' h1 h2 h3 h4 h5 h6 h7 => ?_, hs.base, hs.below⟩, hext⟩
  · simp at hg
    unfold place
    rw [if_neg (by omega)]
    exact hs.dom g (by omega)
  · rcases Nat.lt_or_ge g H.next with hlt | hge
    · rw [GHeap.get_push_lt hlt] at hg
      exact (hs.live g o hg).keep hext fun _ _ => rfl
    · have hg' : g = H.next := by have := GHeap.ltg hg; simp at this; omega
      subst hg'
      rw [GHeap.get_push_new] at hg
      cases hg
      exact ⟨_, C, fz, place_self, hw, rfl, hl, fun i v h => let ⟨c, h1, h2⟩ := hv i v h; ⟨c, h1, h2.mono hext⟩, fun h => (by cases h), fun _ => hb, fun h => (by cases h)⟩
  · have old : ∀ {k' : Nat} {x : GObj}, (H.push (.row vs e false)).get k' = some x → x.isOwn = true → k' < H.next ∧ H.get k' = some x := by
      intro k' x hx ho
      have hk := GHeap.ltg hx
      simp at hk
      rcases Nat.lt_or_ge k' H.next with hlt | hge
      · rw [GHeap.get_push_lt hlt] at hx; exact ⟨hlt, hx⟩
      · obtain rfl : k' = H.next := by omega
        rw [GHeap.get_push_new] at hx
        cases hx
        cases ho
    obtain ⟨a1, a2⟩ := old h1 h3
    obtain ⟨b1, b2⟩ := old h2 h4
    unfold place at h6 h7
    rw [if_neg (by omega)] at h6 h7
    exact hs.apart g g' o o' t t' a2 b2 h3 h4 h5 h6 h7

theorem Sim.list (hs : Sim P B w0 ρ H w) (hB : w.heap.size ≤ B) {a : Addr} {len cap : Nat} {V : Nat → Value} (hl : len ≤ cap) (hm : cap ≤ maxLen) (hcell : ∀ i, i < cap → w.cell? (a.add i) = some (V i)) {f : Nat → Value}
    (hf : ∀ i, i < len → VRel ρ (f i) (V i)) :
    ∃ a' ρ' H', Sim P B w0 ρ' H' w ∧ Ext ρ ρ' ∧ H.Le H' ∧ VRel ρ' (.slice a' len len) (.slice (some a) len cap) ∧ SlA H' a' len f := by
  rcases Nat.eq_zero_or_pos cap with e | hp
  · subst e
    obtain rfl : len = 0 := by omega
    obtain ⟨h1, h2⟩ := hs.gap ⟨0, 0, 0, 0⟩
    exact ⟨some ⟨H.next, 0, none⟩, _, _, h1, h2, H.le_gap, .empty place_self, .inl rfl⟩
  · have h0 := hcell 0 hp
    have hsp := World.cell?_spot h0
    obtain ⟨b, off, sp⟩ := a
    have hadd : ∀ i, (Addr.mk b off none).add i = ⟨b, off + i, none⟩ := fun i => by
      unfold Addr.add
      split
      · rename_i h; subst h; rfl
      · rfl
    obtain rfl : sp = none := by simpa [Addr.add] using hsp
    rw [hadd] at h0
    have hblk : ∃ C e fz, w.heap[b]? = some (.cells C e fz) := by
      unfold World.cell? at h0
      split at h0
      · exact ⟨_, _, _, by assumption⟩
      · cases h0
    obtain ⟨C, e, fz, hC⟩ := hblk
    have hc : ∀ i, i < cap → C[off + i]? = some (V i) := fun i hi => by
      have := hcell i hi
      rw [hadd] at this
      simpa [World.cell?, hC] using this
    have hsz : off + cap ≤ C.size := by
      have := (Array.getElem?_eq_some_iff.1 (hc (cap - 1) (by omega))).1
      omega
    have hbl : b < B := by
      have : b < w.heap.size := (Array.getElem?_eq_some_iff.1 hC).1
      omega
    obtain ⟨h1, h2⟩ := hs.look hbl hC (off := off) (k := 1) (vs := (List.range len).map f) (by simp; omega) (fun i v hv => by
      simp only [List.getElem?_map, Option.map_eq_some_iff] at hv
      obtain ⟨j, hj, rfl⟩ := hv
      have hj' := List.getElem?_eq_some_iff.1 hj
      simp at hj'
      obtain ⟨hi, rfl⟩ := hj'
      exact ⟨_, hc i (by omega), hf i hi⟩)
    refine ⟨some ⟨H.next, 0, none⟩, _, _, h1, h2, GHeap.le_push _ _, ?_, .inr ⟨H.next, 0, rfl, fun i hi => ?_⟩⟩
    · have := VRel.slice (ρ := place ρ H.next ⟨b, off, C.size, 1⟩) (g := H.next) (o := 0) (n := len) (cap := cap) place_self hl (by simp only; omega) hm
      simpa using this
    · rw [GHeap.cell_of (GHeap.get_push_new _ _)]
      simp [hi]
end

def i64T (P : Program) (t : TypeId) : Bool := match P.underlying t with | some (.int .i64) => true | _ => false
def intsT (P : Program) (t : TypeId) : Bool := match P.underlying t with | some (.slice e) => i64T P e && (P.cellsOf e == 1) | _ => false
def intssT (P : Program) (t : TypeId) : Bool := match P.underlying t with | some (.slice e) => intsT P e && (P.cellsOf e == 1) | _ => false
theorem i64T_run {P : Program} {t : TypeId} (h : i64T P t = true) : P.underlying t = some (.int .i64) := by
  unfold i64T at h
  split at h
  · assumption
  · cases h
theorem intsT_run {P : Program} {t : TypeId} (h : intsT P t = true) : ∃ e, P.underlying t = some (.slice e) ∧ P.underlying e = some (.int .i64) ∧ P.cellsOf e = 1 := by
  unfold intsT at h
  split at h
  · simp only [Bool.and_eq_true, beq_iff_eq] at h
    exact ⟨_, by assumption, i64T_run h.1, h.2⟩
  · cases h
theorem intssT_run {P : Program} {t : TypeId} (h : intssT P t = true) : ∃ e, P.underlying t = some (.slice e) ∧ intsT P e = true ∧ P.cellsOf e = 1 := by
  unfold intssT at h
  split at h
  · simp only [Bool.and_eq_true, beq_iff_eq] at h
    exact ⟨_, by assumption, h.1, h.2⟩
  · cases h

def Imports (P : Program) (t : TypeId) (R : Place → GHeap → List Value → Prop) : Prop :=
  ∀ {T : Type} {enc : TypeId × Value → T} {B : Nat} {w0 : World} {ρ : Place} {H : GHeap} {w : World} {held : Bool} {fuel : Nat} {cs : List Value} {x : DataW T × List MemPlace}, Sim P B w0 ρ H w → w.heap.size ≤ B →
    DataW.trod enc P w 0 (fun _ => true) held fuel t cs = some x → ∃ ρ' H', Sim P B w0 ρ' H' w ∧ Ext ρ ρ' ∧ H.Le H' ∧ R ρ' H' cs

def I64 (n : Int) : Prop := -9223372036854775808 ≤ n ∧ n ≤ 9223372036854775807
theorem I64.of_wf {n : Int} (h : (Lit.int .i64 n).wf = true) : I64 n := by
  simp [Lit.wf, IntKind.min, IntKind.max, IntKind.signed, IntKind.bits] at h
  exact ⟨by omega, by omega⟩
def I64s (xs : List Int) : Prop := xs.length ≤ 9223372036854775807 ∧ ∀ i, I64 (xs.getD i 0)

def RInt (_ : Place) (_ : GHeap) (cs : List Value) : Prop := ∃ n, cs = [.int .i64 n] ∧ I64 n
def RInts (ρ : Place) (H : GHeap) (cs : List Value) : Prop := ∃ a xs c, cs = [c] ∧ VRel ρ (.slice a xs.length xs.length) c ∧ Ints H a xs ∧ I64s xs
def RIntss (ρ : Place) (H : GHeap) (cs : List Value) : Prop := ∃ a xss r c, cs = [c] ∧ VRel ρ (.slice a xss.length xss.length) c ∧ Intss H a xss r ∧ xss.length ≤ 9223372036854775807 ∧ ∀ i, I64s (xss.getD i [])

theorem import_int {P : Program} {t : TypeId} (ht : i64T P t = true) : Imports P t RInt := by
  intro T enc B w0 ρ H w held fuel cs x hs hB h
  obtain ⟨n, h1, _, h3⟩ := DataW.trod_int (i64T_run ht) h
  exact ⟨ρ, H, hs, .refl ρ, .refl H, n, h1, .of_wf h3⟩

theorem take_getD (zs : List Int) {n i : Nat} (hi : i < n) : (zs.take n).getD i 0 = zs.getD i 0 := by
  simp [List.getD_eq_getElem?_getD, List.getElem?_take, hi]
theorem I64s.take {zs : List Int} (h : ∀ n ∈ zs, (Lit.int .i64 n).wf = true) {len : Nat} (hl : (zs.take len).length ≤ 9223372036854775807) : I64s (zs.take len) := by
  refine ⟨hl, fun i => ?_⟩
  rw [List.getD_eq_getElem?_getD]
  cases e : (zs.take len)[i]? with
  | none => simp [I64]
  | some n => exact .of_wf (h n (List.mem_of_mem_take (List.mem_of_getElem? e)))

theorem import_ints {P : Program} {t : TypeId} (ht : intsT P t = true) : Imports P t RInts := by
  intro T enc B w0 ρ H w held fuel cs x hs hB h
  obtain ⟨e, h1, h2, h3⟩ := intsT_run ht
  rcases open_ints h1 h2 h3 h with ⟨rfl, _⟩ | ⟨a, len, cap, zs, rfl, _, hl, hm, hz, _, hc, hw⟩
  · exact ⟨ρ, H, hs, .refl ρ, .refl H, none, [], _, rfl, .nilSlice, .inl rfl, by simp, fun i => by simp [I64]⟩
  · simp only [if_true] at hz
    have hlen : (zs.take len).length = len := by simp; omega
    obtain ⟨a', ρ', H', k1, k2, k3, k4, k5⟩ := hs.list hB (f := fun i => .int .i64 ((zs.take len).getD i 0)) hl hm (fun i hi => hc i (by omega)) (fun i hi => by rw [take_getD zs hi]; exact .int _ _)
    refine ⟨ρ', H', k1, k2, k3, a', zs.take len, _, rfl, by rw [hlen]; exact k4, ?_, .take hw (by rw [hlen]; unfold maxLen at hm; omega)⟩
    unfold Ints
    rw [hlen]
    exact k5

theorem import_intss {P : Program} {t : TypeId} (ht : intssT P t = true) : Imports P t RIntss := by
  intro T enc B w0 ρ H w held fuel cs x hs hB h
  obtain ⟨e, h1, h2, h3⟩ := intssT_run ht
  obtain ⟨q, g1, g2, g3⟩ := intsT_run h2
  rcases open_int_rows h1 g1 g2 h3 g3 h with ⟨rfl, _⟩ | ⟨a, len, cap, A, L, C, Z, rfl, _, hl, hm, _, hr⟩
  · exact ⟨ρ, H, hs, .refl ρ, .refl H, none, [], fun _ => none, _, rfl, .nilSlice, ⟨.inl rfl, fun i hi => by simp at hi⟩, by simp, fun i => by simp [I64s, I64]⟩
  · have hlen : ∀ r, r < cap → ((Z r).take (L r)).length = L r := fun r hi => by
      obtain ⟨_, k2, _, k4, _⟩ := hr r hi
      simp; omega
    have rows : ∀ k, k ≤ len → ∃ ρ' H', Sim P B w0 ρ' H' w ∧ Ext ρ ρ' ∧ H.Le H' ∧ ∃ rr : Nat → Option Addr, ∀ r, r < k → VRel ρ' (.slice (rr r) (L r) (L r)) (.slice (A r) (L r) (C r)) ∧ Ints H' (rr r) ((Z r).take (L r)) := by
      intro k
      induction k with
      | zero => exact fun _ => ⟨ρ, H, hs, .refl ρ, .refl H, fun _ => none, fun r hr => by omega⟩
      | succ k ih =>
        intro hk
        obtain ⟨ρ1, H1, s1, e1, l1, rr, hrr⟩ := ih (by omega)
        obtain ⟨c1, c2, c3, c4, c5, c6, c7⟩ := hr k (by omega)
        have one : ∃ a' ρ2 H2, Sim P B w0 ρ2 H2 w ∧ Ext ρ1 ρ2 ∧ H1.Le H2 ∧ VRel ρ2 (.slice a' (L k) (L k)) (.slice (A k) (L k) (C k)) ∧ Ints H2 a' ((Z k).take (L k)) := by
          cases hA : A k with
          | none =>
            have e0 := c6 hA
            have e2 : L k = 0 := by omega
            rw [e0, e2]
            exact ⟨none, ρ1, H1, s1, .refl _, .refl _, .nilSlice, .inl (by simp)⟩
          | some a' =>
            obtain ⟨_, hc⟩ := c7 a' hA
            obtain ⟨a2, ρ2, H2, k1, k2, k3, k4, k5⟩ := s1.list hB (f := fun i => .int .i64 (((Z k).take (L k)).getD i 0)) c2 c3 hc (fun i hi => by rw [take_getD (Z k) hi]; exact .int _ _)
            refine ⟨a2, ρ2, H2, k1, k2, k3, k4, ?_⟩
            unfold Ints
            rw [hlen k (by omega)]
            exact k5
        obtain ⟨a', ρ2, H2, s2, e2, l2, v2, i2⟩ := one
        refine ⟨ρ2, H2, s2, e1.trans e2, l1.trans l2, fun r => if r = k then a' else rr r, fun r hr' => ?_⟩
        by_cases ek : r = k
        · subst ek; simp only [if_true]; exact ⟨v2, i2⟩
        · simp only [ek, if_false]
          obtain ⟨v1, i1⟩ := hrr r (by omega)
          exact ⟨v1.mono e2, i1.mono l2⟩
    obtain ⟨ρ1, H1, s1, e1, l1, rr, hrr⟩ := rows len (Nat.le_refl _)
    obtain ⟨a', ρ2, H2, k1, k2, k3, k4, k5⟩ := s1.list hB (f := fun r => .slice (rr r) (L r) (L r)) hl hm (fun r hi => (hr r hi).1) (fun r hi => (hrr r hi).1)
    have hx : ((List.range len).map fun r => (Z r).take (L r)).length = len := by simp
    have hg : ∀ r, r < len → ((List.range len).map fun r => (Z r).take (L r)).getD r [] = (Z r).take (L r) := fun r hi => by simp [List.getD_eq_getElem?_getD, hi]
    refine ⟨ρ2, H2, k1, e1.trans k2, l1.trans k3, a', (List.range len).map fun r => (Z r).take (L r), rr, _, rfl, by rw [hx]; exact k4, ⟨?_, fun r hi => ?_⟩, by rw [hx]; unfold maxLen at hm; omega, fun r => ?_⟩
    · rw [hx]
      refine k5.imp id fun ⟨g, off, hga, hc⟩ => ⟨g, off, hga, fun i hi => ?_⟩
      show _ = some (Value.slice (rr i) (((List.range len).map fun r => (Z r).take (L r)).getD i []).length (((List.range len).map fun r => (Z r).take (L r)).getD i []).length)
      rw [hg i hi, hlen i (by omega)]
      exact hc i hi
    · rw [hx] at hi
      rw [hg r hi]
      exact (hrr r hi).2.mono k3
    · by_cases hi : r < len
      · rw [hg r hi]
        obtain ⟨_, c2, c3, c4, c5, _⟩ := hr r (by omega)
        exact .take c5 (by rw [hlen r (by omega)]; unfold maxLen at c3; omega)
      · rw [List.getD_eq_getElem?_getD, List.getElem?_eq_none (by rw [hx]; omega)]
        simp [I64s, I64]

def fieldIs (P : Program) (fs : Array Field) (i off n : Nat) (chk : Program → TypeId → Bool) : Bool :=
  match fs[i]? with
  | some f => (f.offset == off) && (P.cellsOf f.type == n) && chk P f.type
  | none => false
def structIs (P : Program) (t : TypeId) (n m : Nat) (chk : Array Field → Bool) : Bool :=
  match P.underlying t with
  | some (.struct fs) => (P.cellsOf t == n) && (fs.size == m) && chk fs
  | _ => false
theorem structIs_run {P : Program} {t : TypeId} {n m : Nat} {chk : Array Field → Bool} (h : structIs P t n m chk = true) : ∃ fs, P.underlying t = some (.struct fs) ∧ P.cellsOf t = n ∧ fs.size = m ∧ chk fs = true := by
  unfold structIs at h
  split at h
  · simp only [Bool.and_eq_true, beq_iff_eq] at h
    exact ⟨_, by assumption, h.1.1, h.1.2, h.2⟩
  · cases h

section
variable {P : Program} {T : Type} {enc : TypeId × Value → T} {B : Nat} {w0 : World} {ρ : Place} {H : GHeap} {w : World} {held : Bool} {n : Nat} {cs : List Value} {fs : Array Field} {xs : List (DataW T × List MemPlace)}
theorem import_field {i off k : Nat} {chk : Program → TypeId → Bool} {R : Place → GHeap → List Value → Prop} (hI : ∀ t, chk P t = true → Imports P t R) (hfd : fieldIs P fs i off k chk = true) (hx : xs.length = fs.size)
    (hf : ∀ (i : Nat) (f : Field), fs[i]? = some f → DataW.trod enc P w 0 (fun _ => true) held n f.type ((cs.drop f.offset).take (P.cellsOf f.type)) = xs[i]?) (hs : Sim P B w0 ρ H w) (hB : w.heap.size ≤ B) :
    ∃ ρ' H', Sim P B w0 ρ' H' w ∧ Ext ρ ρ' ∧ H.Le H' ∧ R ρ' H' ((cs.drop off).take k) := by
  unfold fieldIs at hfd
  split at hfd
  · rename_i f hfi
    simp only [Bool.and_eq_true, beq_iff_eq] at hfd
    obtain ⟨⟨h1, h2⟩, h3⟩ := hfd
    have hi : i < xs.length := by rw [hx]; exact (Array.getElem?_eq_some_iff.1 hfi).1
    have := hf i f hfi
    rw [List.getElem?_eq_getElem hi, h1, h2] at this
    exact hI _ h3 hs hB this
  · cases hfd
end

def Cat.Wide (c : Cat) : Prop := I64 c.obj ∧ I64s c.src ∧ I64s c.tgt ∧ I64s c.idn ∧ c.comp.length ≤ 9223372036854775807 ∧ ∀ i, I64s (c.comp.getD i [])
def Fun.Wide (f : Fun) : Prop := f.s.Wide ∧ f.t.Wide ∧ I64s f.ob ∧ I64s f.ar
def Tra.Wide (m : Tra) : Prop := m.s.Wide ∧ m.t.Wide ∧ I64s m.co

def catT (P : Program) (t : TypeId) : Bool := structIs P t 5 5 fun fs => fieldIs P fs 0 0 1 i64T && fieldIs P fs 1 1 1 intsT && fieldIs P fs 2 2 1 intsT && fieldIs P fs 3 3 1 intsT && fieldIs P fs 4 4 1 intssT
def RCat (ρ : Place) (H : GHeap) (cs : List Value) : Prop := ∃ (c : Cat) (p : CatP), LRel ρ (c.cells p) cs ∧ c.In H p ∧ c.Wide
theorem split5 {cs : List Value} {a b c d e : Value} (h0 : (cs.drop 0).take 1 = [a]) (h1 : (cs.drop 1).take 1 = [b]) (h2 : (cs.drop 2).take 1 = [c]) (h3 : (cs.drop 3).take 1 = [d]) (h4 : (cs.drop 4).take 1 = [e]) (hl : cs.length = 5) : cs = [a, b, c, d, e] := by
  match cs, hl with
  | [v0, v1, v2, v3, v4], _ => simp at h0 h1 h2 h3 h4; subst h0; subst h1; subst h2; subst h3; subst h4; rfl

theorem import_cat {P : Program} {t : TypeId} (ht : catT P t = true) : Imports P t RCat := by
  intro T enc B w0 ρ H w held fuel cs x hs hB h
  obtain ⟨fs, g1, g2, g3, g4⟩ := structIs_run ht
  simp only [Bool.and_eq_true] at g4
  obtain ⟨⟨⟨⟨q0, q1⟩, q2⟩, q3⟩, q4⟩ := g4
  obtain ⟨xs, n, _, _, hl, hx, hf⟩ := DataW.trod_struct g1 h
  obtain ⟨ρ0, H0, s0, e0, l0, nobj, r0, w0'⟩ := import_field (fun _ h => import_int h) q0 hx hf hs hB
  obtain ⟨ρ1, H1, s1, e1, l1, a1, x1, c1, r1, v1, i1, w1⟩ := import_field (fun _ h => import_ints h) q1 hx hf s0 hB
  obtain ⟨ρ2, H2, s2, e2, l2, a2, x2, c2, r2, v2, i2, w2⟩ := import_field (fun _ h => import_ints h) q2 hx hf s1 hB
  obtain ⟨ρ3, H3, s3, e3, l3, a3, x3, c3, r3, v3, i3, w3⟩ := import_field (fun _ h => import_ints h) q3 hx hf s2 hB
  obtain ⟨ρ4, H4, s4, e4, l4, a4, x4, rr, c4, r4, v4, i4, w4, w5⟩ := import_field (fun _ h => import_intss h) q4 hx hf s3 hB
  refine ⟨ρ4, H4, s4, e0.trans (e1.trans (e2.trans (e3.trans e4))), l0.trans (l1.trans (l2.trans (l3.trans l4))), ⟨nobj, x1, x2, x3, x4⟩, ⟨a1, a2, a3, a4, rr⟩, ?_, ⟨i1.mono (l2.trans (l3.trans l4)), i2.mono (l3.trans l4), i3.mono l4, i4⟩, ⟨w0', w1, w2, w3, w4, w5⟩⟩
  rw [split5 r0 r1 r2 r3 r4 (by rw [hl, g2])]
  exact .cons (.int _ _) (.cons (v1.mono (e2.trans (e3.trans e4))) (.cons (v2.mono (e3.trans e4)) (.cons (v3.mono e4) (.cons v4 (.nil _)))))

def readB (P : Program) (ts : List TypeId) : Bool := ts.all fun t => P.readableRec t && decide (t < P.types.size)

section
variable {T : Type} {enc : TypeId × Value → T} {P : Program}
theorem args_again (hl : laidOutB P = true) {W W' : World} (hb : Below W.heap.size W W') {sp : Nat → Bool} : ∀ {ts : List TypeId} {vs : List Value} {ds : List (DataW T)} {ps : List MemPlace}, readB P ts = true →
    DataW.TrodAll enc P W 0 (fun _ => true) true ts vs ds ps → (∀ p ∈ ps, p.block < W.heap.size) → (∀ p ∈ ps, sp p.block = true) → DataW.TrodAll enc P W' 0 sp true ts vs ds ps
  | [], _, _, _, _, h, _, _ => by
    obtain ⟨rfl, rfl, rfl⟩ := trodAll_nil h
    exact trodAll_mk0
  | t :: ts, _, _, _, hr, h, hlt, hsp => by
    obtain ⟨v, vs, d, ds, p, q, rfl, rfl, rfl, h1, h2⟩ := trodAll_cons h
    simp only [readB, List.all_cons, Bool.and_eq_true, decide_eq_true_eq] at hr
    exact ⟨p, q, WideElems.Trod_stays hl hr.1.1 hr.1.2 h1 (fun x hx => hb.same (hlt x (by simp [hx]))) (fun x hx => hsp x (by simp [hx])),
      args_again hl hb (by simpa only [readB, Bool.and_eq_true] using hr.2) h2 (fun x hx => hlt x (by simp [hx])) (fun x hx => hsp x (by simp [hx])), rfl⟩

theorem law_post {f : Func} {s : ChangeSpec} {apart fresh handsOn again : Bool} {W W' : World} {args : Array Value} {ds gs : List (DataW T)} {before : List MemPlace} {tb : TypeId}
    (hl : laidOutB P = true) (hr : readB P f.params.toList = true) (hv : s.vars = []) (hrt : f.resultTypes = #[tb]) (htb : P.underlying tb = some .bool)
    (hW : DataW.Whole enc P f.params.toList s.vars apart W args.toList ds gs before)
    (hsr : (s.fn T ds).results = [.lit (.bool true)]) (hsa : (s.fn T ds).args = ds) (hsv : (s.fn T ds).vars = []) (hb : Below W.heap.size W W') :
    s.post enc P f apart fresh handsOn again W args (.bool true) W' := by
  have hlt := hW.lt
  have hWW := hW
  obtain ⟨p, q, hA, hV, hpq, hfz, hnd⟩ := hW
  rw [hv] at hV
  obtain ⟨rfl, rfl⟩ := trodVars_none hV
  rw [List.append_nil] at hpq
  obtain rfl := hpq.symm
  have hres : ∀ (b : Nat) (sp : Nat → Bool) (hd : Bool), DataW.TrodAll enc P W' b sp hd f.resultTypes.toList ((Value.bool true).resultList f.resultTypes.size) (s.fn T (ds ++ [])).results [] := fun b sp hd => by
    rw [List.append_nil, hsr, hrt]
    exact trodAll_mk1 (shut_bool htb true)
  have hargs : ∀ sp : Nat → Bool, (∀ x ∈ p, sp x.block = true) → DataW.TrodAll enc P W' 0 sp true f.params.toList args.toList (s.fn T (ds ++ [])).args p := fun sp hsp => by
    rw [List.append_nil, hsa]
    exact args_again hl hb hr hA hlt hsp
  have hvars : ∀ sp : Nat → Bool, DataW.TrodVars enc P W' sp s.vars (s.fn T (ds ++ [])).vars [] := fun sp => by
    rw [List.append_nil, hsv, hv]
    rfl
  have hok : ∀ (j : Nat) (t : TypeId) (r : Value), f.resultTypes[j]? = some t → ((Value.bool true).resultList f.resultTypes.size)[j]? = some r → Value.okWide P W' .any 0 t r := ok_one hrt rfl (okWide_bool_mk htb true)
  refine ⟨ds, [], p, [], p, [], hWW, hres _ _ _, hargs _ fun x hx => by simpa using hlt x hx, hvars _, hb.frame _, fun _ => ⟨hok, _, _, ([] ++ p) ++ [], ⟨[] ++ p, [], trodAll_append (hargs (fun _ => true) fun _ _ => rfl) (hres _ _ _), hvars (fun _ => true), rfl, ?_, ?_⟩, ?_⟩⟩
  · intro b off hp
    have hin : MemPlace.cell b off ∈ p := by simpa using hp
    rw [hb.frozen (hlt _ hin)]
    exact hfz b off hin
  · intro ha
    simpa using hnd ha
  · intro x hx _
    simpa using hx
end

def SzR (left : Int) (p : Prop) (H : GHeap) : Value → GHeap → Prop := fun v H' => H' = H ∧ ∃ l, v = .int .i64 l ∧ -1 ≤ l ∧ l ≤ left ∧ (0 ≤ l → p)
theorem SzR.of {P : Program} {f : FuncId} {args : List Value} {H : GHeap} {left : Int} {p : Prop} (h : GCalls P f args H fun v H' => H.Le H' ∧ ∃ l, v = .int .i64 l ∧ -1 ≤ l ∧ l ≤ left ∧ (0 ≤ l → p)) : GCalls P f args H (SzR left p H) :=
  (GCalls.quiet (φ := fun v => ∃ l, v = .int .i64 l ∧ -1 ≤ l ∧ l ≤ left ∧ (0 ≤ l → p)) (h.mono fun _ _ ⟨h1, l, h2, h3⟩ => ⟨⟨l, h2, h3⟩, by rw [h2]; rfl, h1⟩)).mono fun _ _ ⟨h1, h2⟩ => ⟨h2, h1⟩

theorem eq_of_getD {xs ys : List Int} (hl : ys.length = xs.length) (h : ∀ i, i < xs.length → ys.getD i 0 = xs.getD i 0) : ys = xs := by
  apply List.ext_getElem hl
  intro i h1 h2
  have := h i h2
  simpa [List.getD_eq_getElem?_getD, h1, h2] using this
theorem ints_set (ys : List Int) (i : Nat) (v : Int) : (ints ys).set i (.int .i64 v) = ints (ys.set i v) := by simp [ints, List.map_set]
theorem getD_set {ys : List Int} {k i : Nat} {v : Int} (hk : k < ys.length) : (ys.set k v).getD i 0 = if i = k then v else ys.getD i 0 := by
  simp only [List.getD_eq_getElem?_getD, List.getElem?_set]
  by_cases e : k = i
  · subst e; simp [hk]
  · simp [e, Ne.symm e]
theorem SlA.of_ints {H : GHeap} {g : Nat} {ys : List Int} {e : TypeId} {own : Bool} {n : Nat} (h : H.get g = some (.row (ints ys) e own)) (hn : ys.length = n) : SlA H (some ⟨g, 0, none⟩) n (fun i => .int .i64 (ys.getD i 0)) := by
  subst hn; exact Ints.of_get h

theorem SlA.of_row {H : GHeap} {g n : Nat} {cs : List Value} {e : TypeId} {own : Bool} (h : H.get g = some (.row cs e own)) (hn : cs.length = n) : SlA H (some ⟨g, 0, none⟩) n (fun i => cs.getD i (.bool false)) := by
  subst hn
  exact .inr ⟨g, 0, rfl, fun i hi => by rw [GHeap.cell_of h, Nat.zero_add]; simp [List.getD_eq_getElem?_getD, hi]⟩

def Keep (b : Nat) (H H' : GHeap) : Prop := ∀ g o, b ≤ g → H.get g = some o → H'.get g = some o
theorem Keep.of_le {b : Nat} {H H' : GHeap} (h : H.Le H') : Keep b H H' := fun g o _ => h.2 g o
theorem Keep.set {b g : Nat} {H : GHeap} {o : Option GObj} (h : g < b) : Keep b H (H.set g o) := fun k x hk hx => by
  rw [GHeap.get_set_ne (by omega)]; exact hx
def IntsAt (b : Nat) (H : GHeap) (a : Option Addr) (xs : List Int) : Prop := ∃ g e, a = some ⟨g, 0, none⟩ ∧ b ≤ g ∧ H.get g = some (.row (ints xs) e true)
def IntssAt (b : Nat) (H : GHeap) (a : Option Addr) (xss : List (List Int)) (r : Nat → Option Addr) : Prop :=
  ∃ g e cs, a = some ⟨g, 0, none⟩ ∧ b ≤ g ∧ H.get g = some (.row cs e true) ∧ cs.length = xss.length ∧ (∀ i, i < xss.length → cs[i]? = some (.slice (r i) (xss.getD i []).length (xss.getD i []).length)) ∧ ∀ i, i < xss.length → IntsAt b H (r i) (xss.getD i [])
theorem IntsAt.keep {b b' : Nat} {H H' : GHeap} {a : Option Addr} {xs : List Int} (h : IntsAt b H a xs) (hk : Keep b' H H') (hb : b' ≤ b) : IntsAt b' H' a xs :=
  let ⟨g, e, h1, h2, h3⟩ := h; ⟨g, e, h1, by omega, hk g _ (by omega) h3⟩
theorem IntssAt.keep {b b' : Nat} {H H' : GHeap} {a : Option Addr} {xss : List (List Int)} {r : Nat → Option Addr} (h : IntssAt b H a xss r) (hk : Keep b' H H') (hb : b' ≤ b) : IntssAt b' H' a xss r :=
  let ⟨g, e, cs, h1, h2, h3, h4, h5, h6⟩ := h; ⟨g, e, cs, h1, by omega, hk g _ (by omega) h3, h4, h5, fun i hi => (h6 i hi).keep hk hb⟩
theorem IntsAt.ints {b : Nat} {H : GHeap} {a : Option Addr} {xs : List Int} (h : IntsAt b H a xs) : Ints H a xs := by
  obtain ⟨g, e, rfl, _, h3⟩ := h
  exact Ints.of_get h3
theorem IntssAt.intss {b : Nat} {H : GHeap} {a : Option Addr} {xss : List (List Int)} {r : Nat → Option Addr} (h : IntssAt b H a xss r) : Intss H a xss r := by
  obtain ⟨g, e, cs, rfl, _, h3, h4, h5, h6⟩ := h
  exact ⟨.inr ⟨g, 0, rfl, fun i hi => by rw [GHeap.cell_of h3, Nat.zero_add]; exact h5 i hi⟩, fun i hi => (h6 i hi).ints⟩
def NewIntss (H : GHeap) (xss : List (List Int)) (v : Value) (H' : GHeap) : Prop := H.Le H' ∧ ∃ a r, v = .slice a xss.length xss.length ∧ IntssAt H.next H' a xss r
def CatAt (b : Nat) (H : GHeap) (c : Cat) (p : CatP) : Prop := IntsAt b H p.a1 c.src ∧ IntsAt b H p.a2 c.tgt ∧ IntsAt b H p.a3 c.idn ∧ IntssAt b H p.a4 c.comp p.r
theorem CatAt.keep {b b' : Nat} {H H' : GHeap} {c : Cat} {p : CatP} (h : CatAt b H c p) (hk : Keep b' H H') (hb : b' ≤ b) : CatAt b' H' c p := ⟨h.1.keep hk hb, h.2.1.keep hk hb, h.2.2.1.keep hk hb, h.2.2.2.keep hk hb⟩
theorem CatAt.inn {b : Nat} {H : GHeap} {c : Cat} {p : CatP} (h : CatAt b H c p) : c.In H p := ⟨h.1.ints, h.2.1.ints, h.2.2.1.ints, h.2.2.2.intss⟩
def NewCat (H : GHeap) (c : Cat) (v : Value) (H' : GHeap) : Prop := H.Le H' ∧ ∃ p, v = .agg (c.cells p).toArray ∧ CatAt H.next H' c p
structure Bld (H0 : GHeap) (b g2 g3 : Nat) (t : TypeId) (z cs : List Value) (H : GHeap) : Prop where
  le : H0.Le H
  a2 : H0.next ≤ g2
  l2 : g2 < b
  a3 : H0.next ≤ g3
  l3 : g3 < b
  ne : g2 ≠ g3
  res : H.get g2 = some (.row z t true)
  own : H.get g3 = some (.row cs t true)
  bn : b ≤ H.next
theorem Bld.start (H0 : GHeap) (t : TypeId) (z : List Value) : Bld H0 ((H0.push (.row z t true)).next + 1) H0.next (H0.push (.row z t true)).next t z z ((H0.push (.row z t true)).push (.row z t true)) where
  le := (GHeap.le_push _ _).trans (GHeap.le_push _ _)
  a2 := Nat.le_refl _
  l2 := by simp; omega
  a3 := by simp
  l3 := by omega
  ne := by simp
  res := (GHeap.le_push _ _).2 _ _ (GHeap.get_push_new _ _)
  own := GHeap.get_push_new _ _
  bn := by simp
theorem Bld.call {H0 H H' : GHeap} {b g2 g3 : Nat} {t : TypeId} {z cs : List Value} (B : Bld H0 b g2 g3 t z cs H) (h : H.Le H') : Bld H0 b g2 g3 t z cs H' :=
  ⟨B.le.trans h, B.a2, B.l2, B.a3, B.l3, B.ne, h.2 _ _ B.res, h.2 _ _ B.own, Nat.le_trans B.bn h.1⟩
theorem Bld.store {H0 H : GHeap} {b g2 g3 : Nat} {t : TypeId} {z cs : List Value} (B : Bld H0 b g2 g3 t z cs H) (cs' : List Value) : Bld H0 b g2 g3 t z cs' (H.set g3 (some (.row cs' t true))) ∧ Keep b H (H.set g3 (some (.row cs' t true))) :=
  ⟨⟨B.le.set_new B.a3, B.a2, B.l2, B.a3, B.l3, B.ne, by rw [GHeap.get_set_ne (Ne.symm B.ne)]; exact B.res, GHeap.get_set_eq (GHeap.ltg B.own), by rw [GHeap.next_set]; exact B.bn⟩, .set B.l3⟩
theorem Bld.done {H0 H : GHeap} {b g2 g3 : Nat} {t : TypeId} {z cs : List Value} (B : Bld H0 b g2 g3 t z cs H) (o : Option GObj) : H0.Le (H.set g2 o) ∧ Keep b H (H.set g2 o) := ⟨B.le.set_new B.a2, .set B.l2⟩
theorem setAll_gen (vs : List Value) : ∀ (pre a rest : List Value), a.length = vs.length → setAll (pre ++ (a ++ rest)) pre.length vs = pre ++ (vs ++ rest) := by
  induction vs with
  | nil => intro pre a rest h; obtain rfl := List.length_eq_zero_iff.1 (by simpa using h); rfl
  | cons v vs ih =>
    intro pre a rest h
    match a, h with
    | x :: a, h =>
      have e : (pre ++ (x :: a ++ rest)).set pre.length v = (pre ++ [v]) ++ (a ++ rest) := by simp [List.set_append]
      have := ih (pre ++ [v]) a rest (by simpa using h)
      rw [List.length_append] at this
      unfold setAll
      rw [e]
      simpa using this
theorem setAll_all (a vs : List Value) (h : a.length = vs.length) : setAll a 0 vs = vs := by
  have := setAll_gen vs [] a [] h
  simpa using this

end Go.GL
namespace Go.Proofs.Ytiooclghkafokaa
open Go Go.GL Go.RowKit Go.Proofs
theorem sz_39_E : (Try.prog.info? 39).map (·.size) = some 5 := by kernel_rfl
theorem fo_39_1_E : fieldOff Try.prog 39 1 = some 1 := by kernel_rfl
theorem fo_39_2_E : fieldOff Try.prog 39 2 = some 2 := by kernel_rfl
theorem fo_39_3_E : fieldOff Try.prog 39 3 = some 3 := by kernel_rfl
theorem fo_39_4_E : fieldOff Try.prog 39 4 = some 4 := by kernel_rfl
theorem sz_2_E : (Try.prog.info? 2).map (·.size) = some 1 := by kernel_rfl
theorem ze_2_E : zeroT Try.prog 2 = some ([.int .i64 0], 1) := by kernel_rfl
theorem by_2_E : (Try.prog.info? 2).map (·.bytes) = some 8 := by kernel_rfl
theorem sz_24_E : (Try.prog.info? 24).map (·.size) = some 1 := by kernel_rfl
theorem ze_24_E : zeroT Try.prog 24 = some ([.slice none 0 0], 1) := by kernel_rfl
theorem by_24_E : (Try.prog.info? 24).map (·.bytes) = some 24 := by kernel_rfl
theorem sz_25_E : (Try.prog.info? 25).map (·.size) = some 1 := by kernel_rfl
theorem ze_27_E : zeroT Try.prog 27 = some ([.int .i64 0, .slice none 0 0, .slice none 0 0, .slice none 0 0, .slice none 0 0], 5) := by kernel_rfl
theorem fo_39_0_E : fieldOff Try.prog 39 0 = some 0 := by kernel_rfl
theorem szInt64S_c {a : Option Addr} {xs : List Int} {left : Int} {H : GHeap} (hx : xs.length ≤ 9223372036854775807 := by omega) (h0 : 0 ≤ left := by omega) (h1 : left ≤ 1048576 := by omega) :
    GCalls Try.prog 71 [.slice a xs.length xs.length, .int .i64 left] H (SzR left (xs.length ≤ left) H) := by
  refine GCalls.body (N := 12) (rs := [.tmp 4]) Try.func71 rfl rfl rfl rfl (fun Qx b hend => ?_)
  refine .fg [0, 1] rfl ?_
  refine .seq (fun K1 i => .region (.mv rfl (.nil (i _ _ (.seq (fun K2 j => .region (.mv rfl (.mv rfl (.q rfl (.len sl_24_A rfl) ?_)))))))))
  refine .q rfl (.sub rfl rfl rfl (by omega) (by omega)) ?_
  refine .mv rfl (.nil (j _ _ (.seq (fun K3 d => .seq (fun K4 f => .region (.mv rfl (.q rfl (.cmp rfl rfl rfl) (.nil (f _ _ ?_)))))))))
  refine .cond rfl (fun c => ?_) (fun c => ?_)
  ·
   try simp only [sps] at c
   refine .seq (fun K5 g => .region (.mv rfl (.nil (g _ _ ?_))))
   refine .ret ?_
   refine b _ _ ?_
   refine ⟨_, rfl, ?_⟩
   exact ⟨rfl, _, rfl, by omega, by omega, fun h => by omega⟩
  try simp only [sps] at c
  refine .skip ?_
  refine d _ _ (.seq (fun K6 e => .region (.mv rfl (.mv rfl (.nil (e _ _ ?_))))))
  refine .ret ?_
  refine b _ _ ?_
  refine ⟨_, rfl, ?_⟩
  exact ⟨rfl, _, rfl, by omega, by omega, fun h => by omega⟩
theorem szInt64SS_c {a : Option Addr} {xss : List (List Int)} {r : Nat → Option Addr} {left : Int} {H : GHeap} (h : Intss H a xss r := by assumption) (hx : xss.length ≤ 9223372036854775807 := by omega) (hy : ∀ i, I64s (xss.getD i []) := by assumption) (h0 : 0 ≤ left := by omega) (h1 : left ≤ 1048576 := by omega) :
    GCalls Try.prog 133 [.slice a xss.length xss.length, .int .i64 left] H (SzR left (xss.length ≤ left ∧ ∀ i, ((xss.getD i []).length : Int) ≤ left) H) := by
  refine GCalls.body (N := 27) (rs := [.tmp 4]) Try.func133 rfl rfl rfl rfl (fun Qx b hend => ?_)
  refine .fg [0, 1] rfl ?_
  have hh := h
  obtain ⟨i1, i2⟩ := hh
  refine .seq (fun K1 y => .region (.mv rfl (.nil (y _ _ (.seq (fun K2 v => .region (.mv rfl (.mv rfl (.q rfl (.len sl_25_B rfl) ?_)))))))))
  refine .q rfl (.sub rfl rfl rfl (by omega) (by omega)) ?_
  refine .mv rfl (.nil (v _ _ (.seq (fun K3 a0 => .seq (fun K4 w => .region (.mv rfl (.q rfl (.cmp rfl rfl rfl) (.nil (w _ _ ?_)))))))))
  refine .cond rfl (fun l => ?_) (fun l => ?_)
  ·
   try simp only [sps] at l
   refine .seq (fun K5 x => .region (.mv rfl (.nil (x _ _ ?_))))
   refine .ret ?_
   refine b _ _ ?_
   refine ⟨_, rfl, ?_⟩
   exact ⟨rfl, _, rfl, by omega, by omega, fun h => by omega⟩
  try simp only [sps] at l
  refine .skip ?_
  refine a0 _ _ (.seq (fun K6 t => .seq (fun K7 u => .region (.mv rfl (.nil (u _ _ ?_))))))
  refine .block ?_
  refine .loopR (σ := Nat × Int) [(0, some _)] (fun (k, lf) => [(5, some (.int .i64 (k : Int))), (1, some (.int .i64 lf))]) (fun (k, lf) H' => H = H' ∧ k ≤ xss.length ∧ 0 ≤ lf ∧ lf ≤ left - xss.length ∧ ∀ i, i < k → ((xss.getD i []).length : Int) ≤ left) (fun (k, lf) => xss.length - k) ((0, left - xss.length)) ⟨rfl, trivial⟩ ⟨rfl, rfl, trivial⟩ ?_ ?_
  ·
   refine ⟨rfl, ?_⟩
   exact ⟨by omega, by omega, by omega, fun i hi => by omega⟩
  rintro ⟨k, lf⟩ _ ⟨rfl, hI⟩ KL1 j
  refine .forget (fr' := [(5, some (.int .i64 (k : Int))), (1, some (.int .i64 lf)), (0, some _)]) ⟨rfl, rfl, rfl, trivial⟩ ?_
  obtain ⟨hk, hl0, hl1, c⟩ := hI
  refine .seq (fun K8 z => .seq (fun K9 s => .region (.mv rfl (.mv rfl (.q rfl (.len sl_25_B rfl) (.q rfl (.cmp rfl rfl rfl) (.nil (s _ _ ?_))))))))
  refine .cond rfl (fun f => ?_) (fun f => ?_)
  ·
   try simp only [sps] at f
   refine .skip ?_
   refine z _ _ (.seq (fun K10 o => ?_))
   refine .block ?_
   refine .seq (fun K11 m => .region (.mv rfl (.mv rfl ?_)))
   refine .q rfl (.idxN sl_25_B (Intss.sl (by assumption)) rfl rfl (by omega)) ?_
   refine .q rfl (.loadR on_24_B (by assumption) rfl (by omega)) ?_
   refine .mv rfl ?_
   have hyk := (hy k).1
   refine .call rfl rfl rfl rfl @Try.call71 rfl (szInt64S_c) ?_
   rintro _ _ ⟨rfl, lf, rfl, z1, z2, z3⟩
   refine .mv rfl (.nil (m _ _ (.seq (fun K12 p => .region (.mv rfl (.q rfl (.cmp rfl rfl rfl) (.nil (p _ _ ?_))))))))
   refine .cond rfl (fun g => ?_) (fun g => ?_)
   ·
    try simp only [sps] at g
    refine .seq (fun K13 n => .region (.mv rfl (.nil (n _ _ ?_))))
    refine .ret ?_
    refine b _ _ ?_
    refine ⟨_, rfl, ?_⟩
    exact ⟨rfl, _, rfl, by omega, by omega, fun h => by omega⟩
   try simp only [sps] at g
   refine .skip ?_
   refine o _ _ (.region (.mv rfl ?_))
   refine .q rfl (.add rfl rfl rfl (by omega) (by omega)) ?_
   refine .mv rfl (.nil ?_)
   refine j ((k + 1, _)) _ _ ?_ ?_ ⟨rfl, rfl, rfl, trivial⟩
   ·
    refine ⟨rfl, ?_⟩
    refine ⟨by omega, by omega, by omega, fun i hi => ?_⟩
    by_cases e : i < k
    · exact c i e
    · obtain rfl : i = k := by omega
      omega
   show xss.length - (k + 1) < xss.length - k; omega
  try simp only [sps] at f
  refine .exit ?_
  refine t _ _ (.seq (fun K14 d => .region (.mv rfl (.mv rfl (.nil (d _ _ ?_))))))
  refine .ret ?_
  refine b _ _ ?_
  refine ⟨_, rfl, ?_⟩
  exact ⟨rfl, _, rfl, by omega, by omega, fun _ => ⟨by omega, fun i => by
    by_cases e : i < xss.length
    · exact c i (by omega)
    · rw [List.getD_eq_getElem?_getD, List.getElem?_eq_none (by omega)]; simp; omega⟩⟩
theorem szCategory_c {c : Cat} {p : CatP} {left : Int} {H : GHeap} (hin : c.In H p := by assumption) (hw : c.Wide := by assumption) (h0 : 0 ≤ left := by omega) (h1 : left ≤ 1048576 := by omega) :
    GCalls Try.prog 70 [.agg (c.cells p).toArray, .int .i64 left] H (SzR left c.Small H) := by
  refine SzR.of ?_
  obtain ⟨⟨x, a2⟩, ⟨w2, _⟩, ⟨w3, _⟩, ⟨w4, _⟩, w5, w6⟩ := hw
  refine GCalls.body (N := 30) (rs := [.tmp 4]) Try.func70 rfl rfl rfl rfl (fun Qx a hend => ?_)
  refine .fg [0, 1] rfl ?_
  refine .seq (fun K1 a4 => .region (.d rfl rfl rfl (.box rfl sz_39_E rfl CIs.mk) ?_))
  show GRun _ _ _ _ _ _ (H.push (.row (c.cells p) 39 true))
  have b := GHeap.le_push H (.row (c.cells p) 39 true)
  have hb : Cat.At (H.push (.row (c.cells p) 39 true)) H.next 0 c p := ⟨Mem.new _ _ _ _, hin.mono b⟩
  generalize H.push (.row (c.cells p) 39 true) = H1 at *
  generalize H.next = g at *
  obtain ⟨c0, c1, c2, c3, c4, i1, i2, i3, i4⟩ := hb.get
  have hm : MemN _ _ _ _ _ := ⟨rfl, hb.1⟩
  refine .mv rfl (.nil (a4 _ _ (.seq (fun K2 a0 => .region (.q rfl (.fieldAddr fo_39_1_E rfl) ?_)))))
  refine .q rfl (.load on_24_B rfl (by assumption)) ?_
  refine .mv rfl ?_
  refine .call rfl rfl rfl rfl @Try.call71 rfl (szInt64S_c) ?_
  rintro _ _ ⟨rfl, lf, rfl, z1, z2, z3⟩
  refine .mv rfl (.nil (a0 _ _ (.seq (fun K3 a6 => .seq (fun K4 a1 => .region (.mv rfl (.q rfl (.cmp rfl rfl rfl) (.nil (a1 _ _ ?_)))))))))
  refine .cond rfl (fun k => ?_) (fun k => ?_)
  ·
   try simp only [sps] at k
   refine .seq (fun K5 a3 => .region (.mv rfl (.nil (a3 _ _ ?_))))
   refine .ret ?_
   refine a _ _ ?_
   refine ⟨_, rfl, ?_⟩
   exact ⟨b, _, rfl, by omega, by omega, fun h => by omega⟩
  try simp only [sps] at k
  refine .skip ?_
  refine a6 _ _ (.seq (fun K6 y => .region (.q rfl (.fieldAddr fo_39_2_E rfl) ?_)))
  refine .q rfl (.load on_24_B rfl (by assumption)) ?_
  refine .mv rfl ?_
  refine .call rfl rfl rfl rfl @Try.call71 rfl (szInt64S_c) ?_
  rintro _ _ ⟨rfl, lf, rfl, z1, z2, z3⟩
  refine .mv rfl (.nil (y _ _ (.seq (fun K7 z => .seq (fun K8 a5 => .region (.mv rfl (.q rfl (.cmp rfl rfl rfl) (.nil (a5 _ _ ?_)))))))))
  refine .cond rfl (fun u => ?_) (fun u => ?_)
  ·
   try simp only [sps] at u
   refine .seq (fun K9 w => .region (.mv rfl (.nil (w _ _ ?_))))
   refine .ret ?_
   refine a _ _ ?_
   refine ⟨_, rfl, ?_⟩
   exact ⟨b, _, rfl, by omega, by omega, fun h => by omega⟩
  try simp only [sps] at u
  refine .skip ?_
  refine z _ _ (.seq (fun K10 r => .region (.q rfl (.fieldAddr fo_39_3_E rfl) ?_)))
  refine .q rfl (.load on_24_B rfl (by assumption)) ?_
  refine .mv rfl ?_
  refine .call rfl rfl rfl rfl @Try.call71 rfl (szInt64S_c) ?_
  rintro _ _ ⟨rfl, lf, rfl, z1, z2, z3⟩
  refine .mv rfl (.nil (r _ _ (.seq (fun K11 j => .seq (fun K12 t => .region (.mv rfl (.q rfl (.cmp rfl rfl rfl) (.nil (t _ _ ?_)))))))))
  refine .cond rfl (fun o => ?_) (fun o => ?_)
  ·
   try simp only [sps] at o
   refine .seq (fun K13 n => .region (.mv rfl (.nil (n _ _ ?_))))
   refine .ret ?_
   refine a _ _ ?_
   refine ⟨_, rfl, ?_⟩
   exact ⟨b, _, rfl, by omega, by omega, fun h => by omega⟩
  try simp only [sps] at o
  refine .skip ?_
  refine j _ _ (.seq (fun K14 e => .region (.q rfl (.fieldAddr fo_39_4_E rfl) ?_)))
  refine .q rfl (.load on_25_B rfl (by assumption)) ?_
  refine .mv rfl ?_
  refine .call rfl rfl rfl rfl @Try.call133 rfl (szInt64SS_c) ?_
  rintro _ _ ⟨rfl, lf, rfl, z1, z2, z3⟩
  refine .mv rfl (.nil (e _ _ (.seq (fun K15 v => .seq (fun K16 l => .region (.mv rfl (.q rfl (.cmp rfl rfl rfl) (.nil (l _ _ ?_)))))))))
  refine .cond rfl (fun s => ?_) (fun s => ?_)
  ·
   try simp only [sps] at s
   refine .seq (fun K17 f => .region (.mv rfl (.nil (f _ _ ?_))))
   refine .ret ?_
   refine a _ _ ?_
   refine ⟨_, rfl, ?_⟩
   exact ⟨b, _, rfl, by omega, by omega, fun h => by omega⟩
  try simp only [sps] at s
  refine .skip ?_
  refine v _ _ (.seq (fun K18 m => .region (.mv rfl (.mv rfl (.nil (m _ _ ?_))))))
  refine .ret ?_
  refine a _ _ ?_
  refine ⟨_, rfl, ?_⟩
  exact ⟨b, _, rfl, by omega, by omega, fun h => ⟨by omega, by omega, by omega, by omega, fun i => by have := (z3 (by omega)).2 i; omega, ⟨x, a2⟩⟩⟩
theorem toInt64S_c {a : Option Addr} {xs : List Int} {H : GHeap} (h : Ints H a xs := by assumption) (hx : xs.length ≤ 1048576 := by omega) :
    GCalls Try.prog 74 [.slice a xs.length xs.length] H (NewInts 2 H xs) := by
  refine GCalls.body (N := 22) (rs := [.tmp 2]) Try.func74 rfl rfl rfl rfl (fun Qx j hend => ?_)
  refine .fg [0] rfl ?_
  refine .seq (fun K1 t => .region (.mv rfl (.nil (t _ _ (.seq (fun K2 u => .region (.mv rfl (.q rfl (.len sl_24_A rfl) ?_))))))))
  refine .d rfl rfl rfl (.makeSlice rfl sl_24_A ze_2_E by_2_E rfl rfl (by omega) rfl rfl (by omega) (by omega) (by omega) CIs.mk) ?_
  show GRun _ _ _ _ _ _ (H.push (.row (madeL [.int .i64 0] (xs.length * 1)) 2 true))
  rw [madeL_one, Nat.mul_one]
  have hrep : List.replicate xs.length (Value.int .i64 0) = ints (List.replicate xs.length 0) := by simp [ints]
  rw [hrep]
  have s := GHeap.le_push H (.row (ints (List.replicate xs.length 0)) 2 true)
  have hn := GHeap.get_push_new H (.row (ints (List.replicate xs.length 0)) 2 true)
  generalize H.push (.row (ints (List.replicate xs.length 0)) 2 true) = H1 at *
  obtain ⟨g0, b⟩ : ∃ g0, g0 = H.next := ⟨_, rfl⟩
  rw [← b] at hn ⊢
  have hnx : H.next ≤ g0 := by omega
  clear b
  refine .mv rfl (.nil (u _ _ (.seq (fun K3 l => .seq (fun K4 p => .region (.mv rfl (.nil (p _ _ ?_))))))))
  refine .block ?_
  refine .loopR (σ := Nat) [(0, some _), (3, some _)] (fun k => [(4, some (.int .i64 (k : Int)))]) (fun k H' => k ≤ xs.length ∧ H.Le H' ∧ H.next ≤ g0 ∧ ∃ ys : List Int, ys.length = xs.length ∧ (∀ i, i < k → ys.getD i 0 = xs.getD i 0) ∧ H'.get g0 = some (.row (ints ys) 2 true)) (fun k => xs.length - k) (0) ⟨rfl, rfl, trivial⟩ ⟨rfl, trivial⟩ ?_ ?_
  ·
   exact ⟨by omega, s, hnx, _, by simp, fun i hi => by omega, hn⟩
  rintro k H' hI KL1 f
  refine .forget (fr' := [(4, some (.int .i64 (k : Int))), (0, some _), (3, some _)]) ⟨rfl, rfl, rfl, trivial⟩ ?_
  obtain ⟨hk, hle', b, ys, hys, c, hget⟩ := hI
  have hsl := SlA.of_ints hget hys
  have hxs := h.mono hle'
  refine .seq (fun K5 r => .seq (fun K6 n => .region (.mv rfl (.mv rfl (.q rfl (.len sl_24_A rfl) (.q rfl (.cmp rfl rfl rfl) (.nil (n _ _ ?_))))))))
  refine .cond rfl (fun g => ?_) (fun g => ?_)
  ·
   try simp only [sps] at g
   refine .skip ?_
   refine r _ _ (.seq (fun K7 o => ?_))
   refine .block ?_
   refine .region (.mv rfl (.mv rfl (.mv rfl (.mv rfl ?_))))
   refine .q rfl (.idxN sl_24_A (by assumption) rfl rfl (by omega)) ?_
   refine .q rfl (.loadI on_2_A (by assumption) rfl (by omega)) ?_
   refine .q rfl (.idxN sl_24_A (by assumption) rfl rfl (by omega)) ?_
   refine .d0 rfl rfl (.store rfl sz_2_E rfl rfl rfl hget (by simp; omega) CIs.mk) ?_
   refine .nil (o _ _ (.region (.mv rfl ?_)))
   refine .q rfl (.add rfl rfl rfl (by omega) (by omega)) ?_
   refine .mv rfl (.nil ?_)
   refine f (k + 1) _ _ ?_ ?_ ⟨rfl, rfl, rfl, trivial⟩
   ·
    rw [Nat.zero_add, ints_set]
    refine ⟨by omega, hle'.set_new b, b, _, by simpa using hys, fun i hi => ?_, GHeap.get_set_eq (GHeap.ltg hget)⟩
    rw [getD_set (by omega)]
    split
    · rename_i e; rw [e]
    · exact c i (by omega)
   omega
  try simp only [sps] at g
  refine .exit ?_
  refine l _ _ (.seq (fun K8 m => .region (.mv rfl (.mv rfl (.nil (m _ _ ?_))))))
  refine .ret ?_
  refine j _ _ ?_
  refine ⟨_, rfl, ?_⟩
  obtain rfl : ys = xs := eq_of_getD hys fun i hi => c i (by omega)
  exact ⟨hle', _, rfl, hget, b⟩
theorem toInt64SS_c {a : Option Addr} {xss : List (List Int)} {r : Nat → Option Addr} {H : GHeap} (h : Intss H a xss r := by assumption) (hx : xss.length ≤ 1048576 := by omega) (hy : ∀ i, (xss.getD i []).length ≤ 1048576 := by assumption) :
    GCalls Try.prog 138 [.slice a xss.length xss.length] H (NewIntss H xss) := by
  refine GCalls.body (N := 23) (rs := [.tmp 2]) Try.func138 rfl rfl rfl rfl (fun Qx n hend => ?_)
  refine .fg [0] rfl ?_
  refine .seq (fun K1 y => .region (.mv rfl (.nil (y _ _ (.seq (fun K2 z => .region (.mv rfl (.q rfl (.len sl_25_B rfl) ?_))))))))
  refine .d rfl rfl rfl (.makeSlice rfl sl_25_B ze_24_E by_24_E rfl rfl (by omega) rfl rfl (by omega) (by omega) (by omega) CIs.mk) ?_
  show GRun _ _ _ _ _ _ (H.push (.row (madeL [.slice none 0 0] (xss.length * 1)) 24 true))
  have hlen := length_madeL [Value.slice none 0 0] (xss.length * 1)
  rw [Nat.mul_one] at hlen ⊢
  have x := GHeap.le_push H (.row (madeL [.slice none 0 0] xss.length) 24 true)
  have hn := GHeap.get_push_new H (.row (madeL [.slice none 0 0] xss.length) 24 true)
  generalize H.push (.row (madeL [.slice none 0 0] xss.length) 24 true) = H1 at *
  obtain ⟨g0, b⟩ : ∃ g0, g0 = H.next := ⟨_, rfl⟩
  rw [← b] at hn ⊢
  have hnx : H.next ≤ g0 := by omega
  clear b
  refine .mv rfl (.nil (z _ _ (.seq (fun K3 p => .seq (fun K4 v => .region (.mv rfl (.nil (v _ _ ?_))))))))
  refine .block ?_
  refine .loopR (σ := Nat) [(0, some _), (3, some _)] (fun k => [(4, some (.int .i64 (k : Int)))]) (fun k H' => k ≤ xss.length ∧ H.Le H' ∧ H.next ≤ g0 ∧ ∃ (cs : List Value) (q : Nat → Option Addr), H'.get g0 = some (.row cs 24 true) ∧ cs.length = xss.length ∧ (∀ i, i < k → cs[i]? = some (.slice (q i) (xss.getD i []).length (xss.getD i []).length)) ∧ ∀ i, i < k → IntsAt (g0 + 1) H' (q i) (xss.getD i [])) (fun k => xss.length - k) (0) ⟨rfl, rfl, trivial⟩ ⟨rfl, trivial⟩ ?_ ?_
  ·
   exact ⟨by omega, x, hnx, _, fun _ => none, hn, hlen, fun i hi => by omega, fun i hi => by omega⟩
  rintro k H' hI KL1 j
  refine .forget (fr' := [(4, some (.int .i64 (k : Int))), (0, some _), (3, some _)]) ⟨rfl, rfl, rfl, trivial⟩ ?_
  obtain ⟨hk, hle', b, cs, q, hget, hcs, f, hats⟩ := hI
  have hlt := GHeap.ltg hget
  have hss := h.mono hle'
  have i2 := hss.2
  refine .seq (fun K5 w => .seq (fun K6 t => .region (.mv rfl (.mv rfl (.q rfl (.len sl_25_B rfl) (.q rfl (.cmp rfl rfl rfl) (.nil (t _ _ ?_))))))))
  refine .cond rfl (fun m => ?_) (fun m => ?_)
  ·
   try simp only [sps] at m
   refine .skip ?_
   refine w _ _ (.seq (fun K7 u => ?_))
   refine .block ?_
   refine .region (.mv rfl (.mv rfl (.mv rfl (.mv rfl ?_))))
   refine .q rfl (.idxN sl_25_B (Intss.sl (by assumption)) rfl rfl (by omega)) ?_
   refine .q rfl (.loadR on_24_B (by assumption) rfl (by omega)) ?_
   have i2k := i2 k (by omega)
   have hyk := hy k
   refine .call rfl rfl rfl rfl @Try.call74 rfl (toInt64S_c) ?_
   rintro _ H2 ⟨l, g2, rfl, c, hg2⟩
   have hget' := l.2 _ _ hget
   have hsl := SlA.of_row hget' hcs
   refine .q rfl (.idxN sl_25_B hsl rfl rfl (by omega)) ?_
   refine .d0 rfl rfl (.store rfl sz_24_E rfl rfl rfl hget' (by simp; omega) CIs.mk) ?_
   refine .nil (u _ _ (.region (.mv rfl ?_)))
   refine .q rfl (.add rfl rfl rfl (by omega) (by omega)) ?_
   refine .mv rfl (.nil ?_)
   refine j (k + 1) _ _ ?_ ?_ ⟨rfl, rfl, rfl, trivial⟩
   ·
    rw [Nat.zero_add]
    refine ⟨by omega, (hle'.trans l).set_new b, b, _, fun i => if i = k then some ⟨g2, 0, none⟩ else q i, GHeap.get_set_eq (GHeap.ltg hget'), by simpa using hcs, fun i hi => ?_, fun i hi => ?_⟩
    · by_cases e : i = k
      · subst e; simp [List.getElem?_set, hcs]; omega
      · simp only [e, if_false]
        rw [List.getElem?_set_ne (Ne.symm e)]
        exact f i (by omega)
    · by_cases e : i = k
      · subst e
        simp only [if_true]
        exact ⟨g2, _, rfl, by omega, by rw [GHeap.get_set_ne (by omega)]; exact c⟩
      · simp only [e, if_false]
        exact (hats i (by omega)).keep (fun g o hg ho => by rw [GHeap.get_set_ne (by omega)]; exact l.2 _ _ ho) (Nat.le_refl _)
   omega
  try simp only [sps] at m
  refine .exit ?_
  refine p _ _ (.seq (fun K8 s => .region (.mv rfl (.mv rfl (.nil (s _ _ ?_))))))
  refine .ret ?_
  refine n _ _ ?_
  refine ⟨_, rfl, ?_⟩
  exact ⟨hle', _, q, rfl, g0, _, cs, rfl, b, hget, hcs, fun i hi => f i (by omega), fun i hi => (hats i (by omega)).keep (.of_le (.refl _)) (by omega)⟩
theorem toCategory_c {c : Cat} {p : CatP} {H : GHeap} (hin : c.In H p := by assumption) (hs : c.Small := by assumption) : GCalls Try.prog 73 [.agg (c.cells p).toArray] H (NewCat H c) := by
  obtain ⟨w1, w2, w3, w4, w5, -⟩ := hs
  refine GCalls.body (N := 24) (rs := [.cell 2 27]) Try.func73 rfl rfl rfl rfl (fun Qx m hend => ?_)
  refine .fg [0] rfl ?_
  refine .seq (fun K1 v => .region (.d rfl rfl rfl (.box rfl sz_39_E rfl CIs.mk) ?_))
  show GRun _ _ _ _ _ _ (H.push (.row (c.cells p) 39 true))
  have n := GHeap.le_push H (.row (c.cells p) 39 true)
  have hb : Cat.At (H.push (.row (c.cells p) 39 true)) H.next 0 c p := ⟨Mem.new _ _ _ _, hin.mono n⟩
  generalize H.push (.row (c.cells p) 39 true) = H1 at *
  refine .d rfl rfl rfl (.alloc rfl ze_27_E rfl CIs.mk) (.nil (v _ _ (.seq (fun K2 s => .region (.d rfl rfl rfl (.alloc rfl ze_27_E rfl CIs.mk) ?_)))))
  show GRun _ _ _ _ _ _ ((H1.push (.row [(.int .i64 0 : Value), (.slice none 0 0 : Value), (.slice none 0 0 : Value), (.slice none 0 0 : Value), (.slice none 0 0 : Value)] 27 true)).push (.row [(.int .i64 0 : Value), (.slice none 0 0 : Value), (.slice none 0 0 : Value), (.slice none 0 0 : Value), (.slice none 0 0 : Value)] 27 true))
  have B := Bld.start H1 27 [(.int .i64 0 : Value), (.slice none 0 0 : Value), (.slice none 0 0 : Value), (.slice none 0 0 : Value), (.slice none 0 0 : Value)]
  generalize (H1.push (.row [(.int .i64 0 : Value), (.slice none 0 0 : Value), (.slice none 0 0 : Value), (.slice none 0 0 : Value), (.slice none 0 0 : Value)] 27 true)).next = g3 at *
  generalize (H1.push (.row [(.int .i64 0 : Value), (.slice none 0 0 : Value), (.slice none 0 0 : Value), (.slice none 0 0 : Value), (.slice none 0 0 : Value)] 27 true)).push (.row [(.int .i64 0 : Value), (.slice none 0 0 : Value), (.slice none 0 0 : Value), (.slice none 0 0 : Value), (.slice none 0 0 : Value)] 27 true) = H3 at *
  generalize g3 + 1 = b at *
  obtain ⟨c0, -, -, -, -, -, -, -, -⟩ := (hb.mono B.le).get
  refine .nil (s _ _ (.seq (fun K3 y => .region (.q rfl (.fieldAddr fo_39_0_E rfl) ?_))))
  refine .q rfl (.load on_2_A rfl (by assumption)) ?_
  refine .q rfl (.fieldAddr fo_27_0_B rfl) (.d0 rfl rfl (.store rfl sz_2_E rfl rfl rfl B.own (Nat.le_of_ble_eq_true rfl) CIs.mk) ?_)
  show GRun _ _ _ _ _ _ (H3.set g3 (some (.row ([.int .i64 c.obj] ++ ([(.slice none 0 0 : Value)] ++ ([(.slice none 0 0 : Value)] ++ ([(.slice none 0 0 : Value)] ++ ([(.slice none 0 0 : Value)]))))) 27 true)))
  have ⟨B, hk⟩ := B.store ([.int .i64 c.obj] ++ ([(.slice none 0 0 : Value)] ++ ([(.slice none 0 0 : Value)] ++ ([(.slice none 0 0 : Value)] ++ ([(.slice none 0 0 : Value)])))))
  generalize H3.set g3 (some (.row ([.int .i64 c.obj] ++ ([(.slice none 0 0 : Value)] ++ ([(.slice none 0 0 : Value)] ++ ([(.slice none 0 0 : Value)] ++ ([(.slice none 0 0 : Value)]))))) 27 true)) = H10 at *
  obtain ⟨-, c1, -, -, -, i1, -, -, -⟩ := (hb.mono B.le).get
  refine .nil (y _ _ (.seq (fun K4 t => .region (.q rfl (.fieldAddr fo_39_1_E rfl) ?_))))
  refine .q rfl (.load on_24_B rfl (by assumption)) ?_
  have j := B.bn
  refine .call rfl rfl rfl rfl @Try.call74 rfl (toInt64S_c) ?_
  rintro _ H2 ⟨f, g2, rfl, a, k⟩
  have B := B.call f
  obtain ⟨e, hga⟩ : ∃ x, x = g2 := ⟨_, rfl⟩
  rw [← hga] at a k ⊢
  clear hga
  have v1 : IntsAt b H2 (some ⟨e, 0, none⟩) c.src := ⟨_, _, rfl, by have := j; omega, a⟩
  refine .q rfl (.fieldAddr fo_27_1_B rfl) (.d0 rfl rfl (.store rfl sz_24_E rfl rfl rfl B.own (Nat.le_of_ble_eq_true rfl) CIs.mk) ?_)
  show GRun _ _ _ _ _ _ (H2.set g3 (some (.row ([.int .i64 c.obj] ++ ([.slice (some ⟨e, 0, none⟩) c.src.length c.src.length] ++ ([(.slice none 0 0 : Value)] ++ ([(.slice none 0 0 : Value)] ++ ([(.slice none 0 0 : Value)]))))) 27 true)))
  have ⟨B, hk⟩ := B.store ([.int .i64 c.obj] ++ ([.slice (some ⟨e, 0, none⟩) c.src.length c.src.length] ++ ([(.slice none 0 0 : Value)] ++ ([(.slice none 0 0 : Value)] ++ ([(.slice none 0 0 : Value)])))))
  replace v1 := v1.keep hk (Nat.le_refl _)
  generalize H2.set g3 (some (.row ([.int .i64 c.obj] ++ ([.slice (some ⟨e, 0, none⟩) c.src.length c.src.length] ++ ([(.slice none 0 0 : Value)] ++ ([(.slice none 0 0 : Value)] ++ ([(.slice none 0 0 : Value)]))))) 27 true)) = H11 at *
  obtain ⟨-, -, c2, -, -, -, i2, -, -⟩ := (hb.mono B.le).get
  refine .nil (t _ _ (.seq (fun K5 u => .region (.q rfl (.fieldAddr fo_39_2_E rfl) ?_))))
  refine .q rfl (.load on_24_B rfl (by assumption)) ?_
  have j := B.bn
  refine .call rfl rfl rfl rfl @Try.call74 rfl (toInt64S_c) ?_
  rintro _ H2 ⟨f, g2, rfl, a, k⟩
  have B := B.call f
  obtain ⟨g, hga⟩ : ∃ x, x = g2 := ⟨_, rfl⟩
  rw [← hga] at a k ⊢
  clear hga
  have v2 : IntsAt b H2 (some ⟨g, 0, none⟩) c.tgt := ⟨_, _, rfl, by have := j; omega, a⟩
  replace v1 := v1.keep (.of_le f) (Nat.le_refl _)
  refine .q rfl (.fieldAddr fo_27_2_B rfl) (.d0 rfl rfl (.store rfl sz_24_E rfl rfl rfl B.own (Nat.le_of_ble_eq_true rfl) CIs.mk) ?_)
  show GRun _ _ _ _ _ _ (H2.set g3 (some (.row ([.int .i64 c.obj] ++ ([.slice (some ⟨e, 0, none⟩) c.src.length c.src.length] ++ ([.slice (some ⟨g, 0, none⟩) c.tgt.length c.tgt.length] ++ ([(.slice none 0 0 : Value)] ++ ([(.slice none 0 0 : Value)]))))) 27 true)))
  have ⟨B, hk⟩ := B.store ([.int .i64 c.obj] ++ ([.slice (some ⟨e, 0, none⟩) c.src.length c.src.length] ++ ([.slice (some ⟨g, 0, none⟩) c.tgt.length c.tgt.length] ++ ([(.slice none 0 0 : Value)] ++ ([(.slice none 0 0 : Value)])))))
  replace v1 := v1.keep hk (Nat.le_refl _)
  replace v2 := v2.keep hk (Nat.le_refl _)
  generalize H2.set g3 (some (.row ([.int .i64 c.obj] ++ ([.slice (some ⟨e, 0, none⟩) c.src.length c.src.length] ++ ([.slice (some ⟨g, 0, none⟩) c.tgt.length c.tgt.length] ++ ([(.slice none 0 0 : Value)] ++ ([(.slice none 0 0 : Value)]))))) 27 true)) = H12 at *
  obtain ⟨-, -, -, c3, -, -, -, i3, -⟩ := (hb.mono B.le).get
  refine .nil (u _ _ (.seq (fun K6 o => .region (.q rfl (.fieldAddr fo_39_3_E rfl) ?_))))
  refine .q rfl (.load on_24_B rfl (by assumption)) ?_
  have j := B.bn
  refine .call rfl rfl rfl rfl @Try.call74 rfl (toInt64S_c) ?_
  rintro _ H2 ⟨f, g2, rfl, a, k⟩
  have B := B.call f
  obtain ⟨h, hga⟩ : ∃ x, x = g2 := ⟨_, rfl⟩
  rw [← hga] at a k ⊢
  clear hga
  have v3 : IntsAt b H2 (some ⟨h, 0, none⟩) c.idn := ⟨_, _, rfl, by have := j; omega, a⟩
  replace v1 := v1.keep (.of_le f) (Nat.le_refl _)
  replace v2 := v2.keep (.of_le f) (Nat.le_refl _)
  refine .q rfl (.fieldAddr fo_27_3_B rfl) (.d0 rfl rfl (.store rfl sz_24_E rfl rfl rfl B.own (Nat.le_of_ble_eq_true rfl) CIs.mk) ?_)
  show GRun _ _ _ _ _ _ (H2.set g3 (some (.row ([.int .i64 c.obj] ++ ([.slice (some ⟨e, 0, none⟩) c.src.length c.src.length] ++ ([.slice (some ⟨g, 0, none⟩) c.tgt.length c.tgt.length] ++ ([.slice (some ⟨h, 0, none⟩) c.idn.length c.idn.length] ++ ([(.slice none 0 0 : Value)]))))) 27 true)))
  have ⟨B, hk⟩ := B.store ([.int .i64 c.obj] ++ ([.slice (some ⟨e, 0, none⟩) c.src.length c.src.length] ++ ([.slice (some ⟨g, 0, none⟩) c.tgt.length c.tgt.length] ++ ([.slice (some ⟨h, 0, none⟩) c.idn.length c.idn.length] ++ ([(.slice none 0 0 : Value)])))))
  replace v1 := v1.keep hk (Nat.le_refl _)
  replace v2 := v2.keep hk (Nat.le_refl _)
  replace v3 := v3.keep hk (Nat.le_refl _)
  generalize H2.set g3 (some (.row ([.int .i64 c.obj] ++ ([.slice (some ⟨e, 0, none⟩) c.src.length c.src.length] ++ ([.slice (some ⟨g, 0, none⟩) c.tgt.length c.tgt.length] ++ ([.slice (some ⟨h, 0, none⟩) c.idn.length c.idn.length] ++ ([(.slice none 0 0 : Value)]))))) 27 true)) = H13 at *
  obtain ⟨-, -, -, -, c4, -, -, -, i4⟩ := (hb.mono B.le).get
  refine .nil (o _ _ (.seq (fun K7 r => .region (.q rfl (.fieldAddr fo_39_4_E rfl) ?_))))
  refine .q rfl (.load on_25_B rfl (by assumption)) ?_
  have j := B.bn
  refine .call rfl rfl rfl rfl @Try.call138 rfl (toInt64SS_c) ?_
  rintro _ H2 ⟨f, a2, r2, rfl, i⟩
  have B := B.call f
  obtain ⟨l, hga⟩ : ∃ x, x = a2 := ⟨_, rfl⟩
  rw [← hga] at i ⊢
  clear hga
  obtain ⟨z, hga⟩ : ∃ x, x = r2 := ⟨_, rfl⟩
  rw [← hga] at i
  clear hga
  have v4 := i.keep (.of_le (.refl _)) j
  replace v1 := v1.keep (.of_le f) (Nat.le_refl _)
  replace v2 := v2.keep (.of_le f) (Nat.le_refl _)
  replace v3 := v3.keep (.of_le f) (Nat.le_refl _)
  refine .q rfl (.fieldAddr fo_27_4_B rfl) (.d0 rfl rfl (.store rfl sz_25_E rfl rfl rfl B.own (Nat.le_of_ble_eq_true rfl) CIs.mk) ?_)
  show GRun _ _ _ _ _ _ (H2.set g3 (some (.row ([.int .i64 c.obj] ++ ([.slice (some ⟨e, 0, none⟩) c.src.length c.src.length] ++ ([.slice (some ⟨g, 0, none⟩) c.tgt.length c.tgt.length] ++ ([.slice (some ⟨h, 0, none⟩) c.idn.length c.idn.length] ++ ([.slice l c.comp.length c.comp.length]))))) 27 true)))
  have ⟨B, hk⟩ := B.store ([.int .i64 c.obj] ++ ([.slice (some ⟨e, 0, none⟩) c.src.length c.src.length] ++ ([.slice (some ⟨g, 0, none⟩) c.tgt.length c.tgt.length] ++ ([.slice (some ⟨h, 0, none⟩) c.idn.length c.idn.length] ++ ([.slice l c.comp.length c.comp.length])))))
  replace v1 := v1.keep hk (Nat.le_refl _)
  replace v2 := v2.keep hk (Nat.le_refl _)
  replace v3 := v3.keep hk (Nat.le_refl _)
  replace v4 := v4.keep hk (Nat.le_refl _)
  generalize H2.set g3 (some (.row ([.int .i64 c.obj] ++ ([.slice (some ⟨e, 0, none⟩) c.src.length c.src.length] ++ ([.slice (some ⟨g, 0, none⟩) c.tgt.length c.tgt.length] ++ ([.slice (some ⟨h, 0, none⟩) c.idn.length c.idn.length] ++ ([.slice l c.comp.length c.comp.length]))))) 27 true)) = H14 at *
  refine .nil (r _ _ (.seq (fun K8 w => .region ?_)))
  refine .q rfl (.loadM ag_27_D rfl ⟨rfl, Mem.of_get B.own⟩) ?_
  refine .d0 rfl rfl (.storeN rfl sz_27_D rfl rfl rfl rfl B.res (Nat.le_of_ble_eq_true rfl) CIs.mk) ?_
  rw [setAll_all _ _ (by rfl)]
  refine .nil (w _ _ ?_)
  refine .ret ?_
  refine m _ _ ?_
  refine ⟨_, _, _, _, rfl, ag_27_D, (by rfl), (Mem.of_get (GHeap.get_set_eq (GHeap.ltg B.res))), ?_⟩
  exact ⟨n.trans (B.done _).1, ⟨some ⟨e, 0, none⟩, some ⟨g, 0, none⟩, some ⟨h, 0, none⟩, l, z⟩, rfl, (CatAt.keep (b := b) (b' := b) ⟨v1, v2, v3, v4⟩ (B.done _).2 (Nat.le_refl _)).keep (.of_le (.refl _)) (by have := B.l2; have := n.1; omega)⟩
theorem eqInt64S_c {a b : Option Addr} {xs : List Int} {H : GHeap} (h : Ints H a xs := by assumption) (h' : Ints H b xs := by assumption) (hx : xs.length ≤ 1048576 := by omega) :
    GCalls Try.prog 76 [.slice a xs.length xs.length, .slice b xs.length xs.length] H (Ret (.bool true) H) := by
  refine GCalls.body (N := 26) (rs := [.tmp 4]) Try.func76 rfl rfl rfl rfl (fun Qx c hend => ?_)
  refine .fg [0, 1] rfl ?_
  refine .seq (fun K1 u => .region (.mv rfl (.nil (u _ _ (.seq (fun K2 p => .seq (fun K3 m => .region (.mv rfl (.q rfl (.len sl_24_A rfl) (.mv rfl (.q rfl (.len sl_24_A rfl) (.q rfl (.cmp rfl rfl rfl) (.nil (m _ _ ?_))))))))))))))
  refine .cond rfl (fun j => ?_) (fun j => ?_)
  ·
   try simp only [sps] at j
   refine .seq (fun K4 r => .region (.mv rfl (.nil (r _ _ ?_))))
   refine .ret ?_
   refine c _ _ ?_
   refine ⟨_, rfl, ?_⟩
   (exfalso; simp_all)
  try simp only [sps] at j
  refine .skip ?_
  refine p _ _ (.seq (fun K5 t => .seq (fun K6 o => .region (.mv rfl (.nil (o _ _ ?_))))))
  refine .block ?_
  refine .loopR (σ := Nat) [(0, some _), (1, some _)] (fun k => [(5, some (.int .i64 (k : Int)))]) (fun k H' => H = H' ∧ k ≤ xs.length) (fun k => xs.length - k) (0) ⟨rfl, rfl, trivial⟩ ⟨rfl, trivial⟩ ?_ ?_
  ·
   refine ⟨rfl, ?_⟩
   omega
  rintro k _ ⟨rfl, hI⟩ KL1 d
  refine .forget (fr' := [(5, some (.int .i64 (k : Int))), (0, some _), (1, some _)]) ⟨rfl, rfl, rfl, trivial⟩ ?_
  refine .seq (fun K7 s => .seq (fun K8 v => .region (.mv rfl (.mv rfl (.q rfl (.len sl_24_A rfl) (.q rfl (.cmp rfl rfl rfl) (.nil (v _ _ ?_))))))))
  refine .cond rfl (fun l => ?_) (fun l => ?_)
  ·
   try simp only [sps] at l
   refine .skip ?_
   refine s _ _ (.seq (fun K9 n => ?_))
   refine .block ?_
   refine .seq (fun K10 e => ?_)
   refine .regionD mo_B (.q 0 (.q 1 (.q 2 (.q 3 (.q 4 (.q 5 (.q 6 (.q 7 (.q 8 (.done)))))))))) (by kernel_rfl) ?_
   refine .mv rfl rfl (.mv rfl rfl ?_)
   refine .q rfl (.idxN sl_24_A (by assumption) rfl rfl (by omega)) ?_
   refine .q rfl (.loadI on_2_A (by assumption) rfl (by omega)) ?_
   refine .mv rfl rfl (.mv rfl rfl ?_)
   refine .q rfl (.idxN sl_24_A (by assumption) rfl rfl (by omega)) ?_
   refine .q rfl (.loadI on_2_A (by assumption) rfl (by omega)) ?_
   refine .q rfl (.cmp rfl rfl rfl) ?_
   refine .done ?_
   refine e _ _ ?_
   refine .cond rfl (fun i => ?_) (fun i => ?_)
   ·
    try simp only [sps] at i
    refine .seq (fun K11 f => .region (.mv rfl (.nil (f _ _ ?_))))
    refine .ret ?_
    refine c _ _ ?_
    refine ⟨_, rfl, ?_⟩
    (exfalso; simp_all)
   try simp only [sps] at i
   refine .skip ?_
   refine n _ _ (.region (.mv rfl ?_))
   refine .q rfl (.add rfl rfl rfl (by omega) (by omega)) ?_
   refine .mv rfl (.nil ?_)
   refine d (k + 1) _ _ ?_ ?_ ⟨rfl, rfl, rfl, trivial⟩
   ·
    refine ⟨rfl, ?_⟩
    omega
   omega
  try simp only [sps] at l
  refine .exit ?_
  refine t _ _ (.seq (fun K12 g => .region (.mv rfl (.nil (g _ _ ?_)))))
  refine .ret ?_
  refine c _ _ ?_
  refine ⟨_, rfl, ?_⟩
  exact .of rfl
theorem eqInt64SS_c {a b : Option Addr} {xss : List (List Int)} {r r' : Nat → Option Addr} {H : GHeap} (h : Intss H a xss r := by assumption) (h' : Intss H b xss r' := by assumption) (hx : xss.length ≤ 1048576 := by omega) (hy : ∀ i, (xss.getD i []).length ≤ 1048576 := by assumption) :
    GCalls Try.prog 27 [.slice a xss.length xss.length, .slice b xss.length xss.length] H (Ret (.bool true) H) := by
  refine GCalls.body (N := 27) (rs := [.tmp 4]) Try.func27 rfl rfl rfl rfl (fun Qx d hend => ?_)
  refine .fg [0, 1] rfl ?_
  refine .seq (fun K1 x => .region (.mv rfl (.nil (x _ _ (.seq (fun K2 y => .seq (fun K3 o => .region (.mv rfl (.q rfl (.len sl_25_B rfl) (.mv rfl (.q rfl (.len sl_25_B rfl) (.q rfl (.cmp rfl rfl rfl) (.nil (o _ _ ?_))))))))))))))
  refine .cond rfl (fun l => ?_) (fun l => ?_)
  ·
   try simp only [sps] at l
   refine .seq (fun K4 v => .region (.mv rfl (.nil (v _ _ ?_))))
   refine .ret ?_
   refine d _ _ ?_
   refine ⟨_, rfl, ?_⟩
   (exfalso; simp_all)
  try simp only [sps] at l
  refine .skip ?_
  refine y _ _ (.seq (fun K5 w => .seq (fun K6 t => .region (.mv rfl (.nil (t _ _ ?_))))))
  refine .block ?_
  refine .loopR (σ := Nat) [(0, some _), (1, some _)] (fun k => [(5, some (.int .i64 (k : Int)))]) (fun k H' => H = H' ∧ k ≤ xss.length) (fun k => xss.length - k) (0) ⟨rfl, rfl, trivial⟩ ⟨rfl, trivial⟩ ?_ ?_
  ·
   refine ⟨rfl, ?_⟩
   omega
  rintro k _ ⟨rfl, hI⟩ KL1 e
  refine .forget (fr' := [(5, some (.int .i64 (k : Int))), (0, some _), (1, some _)]) ⟨rfl, rfl, rfl, trivial⟩ ?_
  refine .seq (fun K7 u => .seq (fun K8 p => .region (.mv rfl (.mv rfl (.q rfl (.len sl_25_B rfl) (.q rfl (.cmp rfl rfl rfl) (.nil (p _ _ ?_))))))))
  refine .cond rfl (fun n => ?_) (fun n => ?_)
  ·
   try simp only [sps] at n
   refine .skip ?_
   refine u _ _ (.seq (fun K9 s => ?_))
   refine .block ?_
   refine .seq (fun K10 g => ?_)
   refine .regionD mo_B (.q 0 (.q 1 (.q 2 (.q 3 (.q 4 (.q 5 (.q 6 (.q 7 (.c 8 0 (.q 9 (.done))))))))))) (by kernel_rfl) ?_
   have hyk := hy k
   have ir := h.2 k (by omega)
   have ir' := h'.2 k (by omega)
   refine .mv rfl rfl (.mv rfl rfl ?_)
   refine .q rfl (.idxN sl_25_B (Intss.sl (by assumption)) rfl rfl (by omega)) ?_
   refine .q rfl (.loadR on_24_B (by assumption) rfl (by omega)) ?_
   refine .mv rfl rfl (.mv rfl rfl ?_)
   refine .q rfl (.idxN sl_25_B (Intss.sl (by assumption)) rfl rfl (by omega)) ?_
   refine .q rfl (.loadR on_24_B (by assumption) rfl (by omega)) ?_
   refine .callQ0 rfl rfl rfl rfl rfl @Try.call76 rfl (eqInt64S_c) ?_
   refine .q rfl (.not rfl) ?_
   refine .done ?_
   refine g _ _ ?_
   refine .cond rfl (fun m => ?_) (fun m => ?_)
   ·
    try simp only [sps] at m
    refine .seq (fun K11 f => .region (.mv rfl (.nil (f _ _ ?_))))
    refine .ret ?_
    refine d _ _ ?_
    refine ⟨_, rfl, ?_⟩
    (exfalso; simp_all)
   try simp only [sps] at m
   refine .skip ?_
   refine s _ _ (.region (.mv rfl ?_))
   refine .q rfl (.add rfl rfl rfl (by omega) (by omega)) ?_
   refine .mv rfl (.nil ?_)
   refine e (k + 1) _ _ ?_ ?_ ⟨rfl, rfl, rfl, trivial⟩
   ·
    refine ⟨rfl, ?_⟩
    omega
   omega
  try simp only [sps] at n
  refine .exit ?_
  refine w _ _ (.seq (fun K12 j => .region (.mv rfl (.nil (j _ _ ?_)))))
  refine .ret ?_
  refine d _ _ ?_
  refine ⟨_, rfl, ?_⟩
  exact .of rfl
theorem eqCategory_c {c : Cat} {p p' : CatP} {H : GHeap} (hin : c.In H p := by assumption) (hin' : c.In H p' := by assumption) (hs : c.Small := by assumption) : GCalls Try.prog 77 [.agg (c.cells p).toArray, .agg (c.cells p').toArray] H (Ret (.bool true) H) := by
  refine GCalls.ret rfl ?_
  obtain ⟨w1, w2, w3, w4, w5, -⟩ := hs
  refine GCalls.body (N := 34) (rs := [.tmp 4]) Try.func77 rfl rfl rfl rfl (fun Qx a hend => ?_)
  refine .fg [0, 1] rfl ?_
  refine .seq (fun K1 z => .region (.d rfl rfl rfl (.box rfl sz_27_D rfl CIs.mk) ?_))
  show GRun _ _ _ _ _ _ (H.push (.row (c.cells p) 27 true))
  have e := GHeap.le_push H (.row (c.cells p) 27 true)
  have hb : Cat.At (H.push (.row (c.cells p) 27 true)) H.next 0 c p := ⟨Mem.new _ _ _ _, hin.mono e⟩
  generalize H.push (.row (c.cells p) 27 true) = H1 at *
  refine .d rfl rfl rfl (.box rfl sz_27_D rfl CIs.mk) ?_
  show GRun _ _ _ _ _ _ (H1.push (.row (c.cells p') 27 true))
  have b := GHeap.le_push H1 (.row (c.cells p') 27 true)
  have hb' : Cat.At (H1.push (.row (c.cells p') 27 true)) H1.next 0 c p' := ⟨Mem.new _ _ _ _, (hin'.mono e).mono b⟩
  replace hb := hb.mono b
  replace e := e.trans b
  generalize H1.push (.row (c.cells p') 27 true) = H2 at *
  obtain ⟨c0, c1, c2, c3, c4, i1, i2, i3, i4⟩ := hb.get
  obtain ⟨c0y, c1y, c2y, c3y, c4y, i1y, i2y, i3y, i4y⟩ := hb'.get
  refine .mv rfl (.nil (z _ _ (.seq (fun K2 w => .seq (fun K3 a1 => .region (.q rfl (.fieldAddr fo_27_0_B rfl) ?_))))))
  refine .q rfl (.load on_2_A rfl (by assumption)) ?_
  refine .q rfl (.fieldAddr fo_27_0_B rfl) ?_
  refine .q rfl (.load on_2_A rfl (by assumption)) ?_
  refine .q rfl (.cmp rfl rfl rfl) (.nil (a1 _ _ ?_))
  refine .cond rfl (fun h9 => ?_) (fun h9 => ?_)
  ·
   try simp only [sps] at h9
   refine .seq (fun K4 x => .region (.mv rfl (.nil (x _ _ ?_))))
   refine .ret ?_
   refine a _ _ ?_
   refine ⟨_, rfl, ?_⟩
   (exfalso; simp_all)
  try simp only [sps] at h9
  refine .skip ?_
  refine w _ _ (.seq (fun K5 y => .seq (fun K6 u => .region (.q rfl (.fieldAddr fo_27_1_B rfl) ?_))))
  refine .q rfl (.load on_24_B rfl (by assumption)) ?_
  refine .q rfl (.fieldAddr fo_27_1_B rfl) ?_
  refine .q rfl (.load on_24_B rfl (by assumption)) ?_
  refine .callQ rfl rfl rfl rfl @Try.call76 rfl (eqInt64S_c) ?_
  refine .q rfl (.not rfl) (.nil (u _ _ ?_))
  refine .cond rfl (fun i => ?_) (fun i => ?_)
  ·
   try simp only [sps] at i
   refine .seq (fun K7 v => .region (.mv rfl (.nil (v _ _ ?_))))
   refine .ret ?_
   refine a _ _ ?_
   refine ⟨_, rfl, ?_⟩
   (exfalso; simp_all)
  try simp only [sps] at i
  refine .skip ?_
  refine y _ _ (.seq (fun K8 a0 => .seq (fun K9 t => .region (.q rfl (.fieldAddr fo_27_2_B rfl) ?_))))
  refine .q rfl (.load on_24_B rfl (by assumption)) ?_
  refine .q rfl (.fieldAddr fo_27_2_B rfl) ?_
  refine .q rfl (.load on_24_B rfl (by assumption)) ?_
  refine .callQ rfl rfl rfl rfl @Try.call76 rfl (eqInt64S_c) ?_
  refine .q rfl (.not rfl) (.nil (t _ _ ?_))
  refine .cond rfl (fun f => ?_) (fun f => ?_)
  ·
   try simp only [sps] at f
   refine .seq (fun K10 o => .region (.mv rfl (.nil (o _ _ ?_))))
   refine .ret ?_
   refine a _ _ ?_
   refine ⟨_, rfl, ?_⟩
   (exfalso; simp_all)
  try simp only [sps] at f
  refine .skip ?_
  refine a0 _ _ (.seq (fun K11 k => .seq (fun K12 r => .region (.q rfl (.fieldAddr fo_27_3_B rfl) ?_))))
  refine .q rfl (.load on_24_B rfl (by assumption)) ?_
  refine .q rfl (.fieldAddr fo_27_3_B rfl) ?_
  refine .q rfl (.load on_24_B rfl (by assumption)) ?_
  refine .callQ rfl rfl rfl rfl @Try.call76 rfl (eqInt64S_c) ?_
  refine .q rfl (.not rfl) (.nil (r _ _ ?_))
  refine .cond rfl (fun j => ?_) (fun j => ?_)
  ·
   try simp only [sps] at j
   refine .seq (fun K13 n => .region (.mv rfl (.nil (n _ _ ?_))))
   refine .ret ?_
   refine a _ _ ?_
   refine ⟨_, rfl, ?_⟩
   (exfalso; simp_all)
  try simp only [sps] at j
  refine .skip ?_
  refine k _ _ (.seq (fun K14 g => .seq (fun K15 s => .region (.q rfl (.fieldAddr fo_27_4_B rfl) ?_))))
  refine .q rfl (.load on_25_B rfl (by assumption)) ?_
  refine .q rfl (.fieldAddr fo_27_4_B rfl) ?_
  refine .q rfl (.load on_25_B rfl (by assumption)) ?_
  refine .callQ rfl rfl rfl rfl @Try.call27 rfl (eqInt64SS_c) ?_
  refine .q rfl (.not rfl) (.nil (s _ _ ?_))
  refine .cond rfl (fun l => ?_) (fun l => ?_)
  ·
   try simp only [sps] at l
   refine .seq (fun K16 m => .region (.mv rfl (.nil (m _ _ ?_))))
   refine .ret ?_
   refine a _ _ ?_
   refine ⟨_, rfl, ?_⟩
   (exfalso; simp_all)
  try simp only [sps] at l
  refine .skip ?_
  refine g _ _ (.seq (fun K17 h => .region (.mv rfl (.nil (h _ _ ?_)))))
  refine .ret ?_
  refine a _ _ ?_
  refine ⟨_, rfl, ?_⟩
  exact ⟨rfl, e⟩
end Go.Proofs.Ytiooclghkafokaa
namespace Go.GL

abbrev Fun.A (f : Fun) (a : Int) : Int := f.ar.getD a.toNat 0
structure Fun.Fits (f : Fun) : Prop where
  ol : (f.ob.length : Int) = f.s.obj
  al : f.ar.length = f.s.src.length
  ob : ∀ i, i < f.ob.length → 0 ≤ f.ob.getD i 0 ∧ f.ob.getD i 0 < f.t.obj
  ar : ∀ i, i < f.ar.length → 0 ≤ f.ar.getD i 0 ∧ f.ar.getD i 0 < f.t.src.length
  ends : ∀ a, a < f.ar.length → f.t.src.getD (f.ar.getD a 0).toNat 0 = f.ob.getD (f.s.src.getD a 0).toNat 0 ∧ f.t.tgt.getD (f.ar.getD a 0).toNat 0 = f.ob.getD (f.s.tgt.getD a 0).toNat 0
  ids : ∀ x, x < f.s.idn.length → f.ar.getD (f.s.idn.getD x 0).toNat 0 = f.t.idn.getD (f.ob.getD x 0).toNat 0
  th : ∀ a, a < f.s.src.length → ∀ b, b < f.s.src.length → f.s.tgt.getD a 0 = f.s.src.getD b 0 → f.A (f.s.th a b) = f.t.th (f.ar.getD a 0) (f.ar.getD b 0)
def Fun.Is (f : Fun) : Prop := f.s.Is ∧ f.t.Is ∧ f.Fits

def Tra.Sq (m : Tra) (a : Nat) : Prop := m.s.t.th (m.s.ar.getD a 0) (m.co.getD (m.s.s.tgt.getD a 0).toNat 0) = m.s.t.th (m.co.getD (m.s.s.src.getD a 0).toNat 0) (m.t.ar.getD a 0)
structure Tra.Shape (m : Tra) : Prop where
  s : m.s.Is
  t : m.t.Is
  ps : m.s.s = m.t.s
  pt : m.s.t = m.t.t
  cl : (m.co.length : Int) = m.s.s.obj
  co : ∀ i, i < m.co.length → 0 ≤ m.co.getD i 0 ∧ m.co.getD i 0 < m.s.t.src.length
  ends : ∀ x, x < m.co.length → m.s.t.src.getD (m.co.getD x 0).toNat 0 = m.s.ob.getD x 0 ∧ m.s.t.tgt.getD (m.co.getD x 0).toNat 0 = m.t.ob.getD x 0
def Tra.Is (m : Tra) : Prop := m.Shape ∧ ∀ a, a < m.s.ar.length → m.Sq a
noncomputable def Tra.first (m : Tra) : Int := match firstN m.s.ar.length (fun a => !B (m.Sq a)) with | some a => (a : Int) | none => -1
section
variable {P : Program} {N : Nat} {ops : Array Oper} {Q : Slots → GHeap → Prop} {fr : Slots} {H Hb : GHeap}
end
end Go.GL
namespace Go.GL
open Go.RowKit

def out : List Nat → Nat → Prop
  | [], _ => True
  | g :: r, k => k ≠ g ∧ out r k
structure St (bs : List Nat) (H H' : GHeap) : Prop where
  nx : H.next ≤ H'.next
  same : ∀ k o, out bs k → H.get k = some o → H'.get k = some o
theorem St.refl (bs : List Nat) (H : GHeap) : St bs H H := ⟨Nat.le_refl _, fun _ _ _ h => h⟩
theorem GHeap.Le.st {H0 H H' : GHeap} {bs : List Nat} (h : H0.Le H) (s : St bs H H') (hg : ∀ k, k < H0.next → out bs k) : H0.Le H' :=
  ⟨Nat.le_trans h.1 s.nx, fun k o hk => s.same k o (hg k (GHeap.ltg hk)) (h.2 k o hk)⟩
theorem St.le {bs : List Nat} {H0 H H' : GHeap} (s : St bs H0 H) (h : H.Le H') : St bs H0 H' := ⟨Nat.le_trans s.nx h.1, fun k o hk hg => h.2 k o (s.same k o hk hg)⟩
theorem St.st {bs cs : List Nat} {H0 H H' : GHeap} (s : St bs H0 H) (h : St cs H H') (hg : ∀ k, k < H0.next → out bs k → out cs k) : St bs H0 H' :=
  ⟨Nat.le_trans s.nx h.nx, fun k o hk h1 => h.same k o (hg k (GHeap.ltg h1) hk) (s.same k o hk h1)⟩
theorem St.sA {bs cs : List Nat} {H0 H H' : GHeap} (s : St bs H0 H) (h : St cs H H') (hg : ∀ k, k < H0.next → out bs k → out cs k := by intro k hk ho; simp only [out, and_true] at ho ⊢ <;> first | exact ho | exact ho.1 | exact ho.2 | exact ho.2.1 | exact ho.2.2 | exact ho.2.2.1 | exact ho.2.2.2 | omega) : St bs H0 H' := s.st h hg
theorem St.s {g k : Nat} {H H' : GHeap} {o : GObj} (s : St [g] H H') (h : H.get k = some o) (hne : k ≠ g := by first | assumption | omega) : H'.get k = some o := s.same k o ⟨hne, trivial⟩ h
theorem Keep.le {b : Nat} {H0 H H' : GHeap} (k : Keep b H0 H) (h : H.Le H') : Keep b H0 H' := fun g o hb hg => h.2 g o (k g o hb hg)
theorem Keep.st {bs : List Nat} {b : Nat} {H0 H H' : GHeap} (k : Keep b H0 H) (h : St bs H H') (hg : ∀ k, b ≤ k → k < H0.next → out bs k) : Keep b H0 H' := fun g o hb h1 => h.same g o (hg g hb (GHeap.ltg h1)) (k g o hb h1)
theorem St.of_set {g : Nat} {H : GHeap} {o : Option GObj} : St [g] H (H.set g o) := ⟨by rw [GHeap.next_set]; exact Nat.le_refl _, fun k x hk h => by rw [GHeap.get_set_ne (Ne.symm hk.1)]; exact h⟩
theorem St.push {bs : List Nat} {H H' : GHeap} {o : GObj} (s : St bs H H') : St bs H (H'.push o) := ⟨by rw [GHeap.next_push]; have := s.nx; omega, fun k x hk h => GHeap.get_push_of (s.same k x hk h)⟩

section
variable {P : Program} {N : Nat} {ops : Array Oper} {Q : Slots → GHeap → Prop} {L : List (Oper × Nat)} {fr : Slots} {H Hb : GHeap} {o : Oper} {i : Nat} {t : Tree}
theorem GRun.r {d : Tmp} {R : Option Value → GHeap → Prop} (hd : o.dst = some d) (hN : Nat.blt d N = true) (hg : o.guard = none) (hc : CDo P o fr H R) (h : ∀ v H', R v H' → GRun P N ops Q L ((d, v) :: fr) H') : GRun P N ops Q ((o, 0) :: L) fr H :=
  .c hd hN hg (by simp) hc fun v H' hR => ⟨fun e => (by cases e), h v H' hR⟩
theorem GRun.R {d : Tmp} {R : Option Value → GHeap → Prop} (h0 : stpR o N = some d) (hc : CDo P o fr H R) (h : ∀ v H', R v H' → GRun P N ops Q L ((d, v) :: fr) H') : GRun P N ops Q ((o, 0) :: L) fr H := by
  obtain ⟨h1, h2, h3⟩ := stpR.spec h0
  exact .r h1 h2 h3 hc h
theorem GRun.r0 {R : Option Value → GHeap → Prop} (hd : o.dst = none) (hg : o.guard = none) (hc : CDo P o fr H R) (h : ∀ v H', R v H' → GRun P N ops Q L fr H') : GRun P N ops Q ((o, 0) :: L) fr H :=
  .c0 hd hg (by simp) hc fun v H' hR => ⟨fun e => (by cases e), h v H' hR⟩
theorem GTree.r0 {R : Option Value → GHeap → Prop} (hi : ops[i]? = some o) (hd : o.dst = none) (hg : o.guard = none) (hc : CDo P o fr H R) (h : ∀ v H', R v H' → GTree P N ops Q t fr H' H') : GTree P N ops Q (.c i 0 t) fr Hb H := by
  unfold GTree
  refine ⟨o, hi, by unfold dstOk; rw [hd], ?_⟩
  rw [hg]
  refine .mkI fun l B w0 ρ a w hs hf next Qx hn => ?_
  exact hc.run l B w0 ρ a w hs hf next Qx fun ρ' v c H' w' hR => hn ρ' v c H' w' ⟨fun e => (by cases e), by rw [hd, if_neg (by simp)]; exact h v H' hR⟩
end

section
variable {P : Program} {H : GHeap} {fr : Slots} {o : Oper}
theorem CDo.boxR {e : TypeId} {x : Operand} {v : Value} {n : Nat} (ho : o.op = .box e x) (he : (P.info? e).map (·.size) = some n) (hx : ev fr x = some v) :
    CDo P o fr H (fun r H' => ∃ g, r = some (.pointer (some ⟨g, 0, none⟩)) ∧ H.Le H' ∧ H.next ≤ g ∧ H'.get g = some (.row v.cells.toList e true)) :=
  .box ho he hx ⟨_, rfl, GHeap.le_push _ _, Nat.le_refl _, GHeap.get_push_new _ _⟩
theorem CDo.allocR {e : TypeId} {z : List Value} {n : Nat} (ho : o.op = .alloc e) (hz : zeroT P e = some (z, n)) (hfl : z.all flat1 = true) :
    CDo P o fr H (fun r H' => ∃ g, r = some (.pointer (some ⟨g, 0, none⟩)) ∧ H.Le H' ∧ H.next ≤ g ∧ H'.get g = some (.row z e true)) :=
  .alloc ho hz hfl ⟨_, rfl, GHeap.le_push _ _, Nat.le_refl _, GHeap.get_push_new _ _⟩
theorem CDo.litR {t e : TypeId} {len n : Nat} {parts : Array (Nat × Operand)} {z vs cs : List Value} (ho : o.op = .buildSlice t len parts) (ht : sliceT P t = some (e, n)) (hz : zeroT P e = some (z, n)) (hfl : z.all flat1 = true) (hzn : z.length = n) (h0 : 0 < n)
    (hsm : len * n ≤ 16777216) (hv : evs fr (parts.toList.map (·.2)) = some vs) (hc : fillL (fun i => some (i * n, n)) (madeL z (len * n)) ((parts.toList.map (·.1)).zip vs) = some cs) :
    CDo P o fr H (fun r H' => ∃ g, r = some (.slice (some ⟨g, 0, none⟩) len len) ∧ H.Le H' ∧ H.next ≤ g ∧ H'.get g = some (.row cs e true)) :=
  .buildSlice ho ht hz hfl hzn h0 hsm hv hc ⟨_, rfl, GHeap.le_push _ _, Nat.le_refl _, GHeap.get_push_new _ _⟩
theorem CDo.makeR {t e : TypeId} {x y : Operand} {k k' : IntKind} {l c n bytes : Nat} {z : List Value} (ho : o.op = .makeSlice t x y) (ht : sliceT P t = some (e, n)) (hz : zeroT P e = some (z, n)) (hb : (P.info? e).map (·.bytes) = some bytes)
    (hfl : z.all flat1 = true) (hzn : z.length = n) (h0 : 0 < n) (hx : ev fr x = some (.int k l)) (hy : ev fr y = some (.int k' c)) (hlc : l ≤ c) (hsm : bytes * c ≤ 281474976710656) (hsc : c ≤ 9223372036854775807) :
    CDo P o fr H (fun r H' => ∃ g, r = some (.slice (some ⟨g, 0, none⟩) l l) ∧ H.Le H' ∧ H.next ≤ g ∧ H'.get g = some (.row (madeL z (l * n)) e true)) :=
  .makeSlice ho ht hz hb hfl hzn h0 hx hy hlc hsm hsc ⟨_, rfl, GHeap.le_push _ _, Nat.le_refl _, GHeap.get_push_new _ _⟩
theorem CDo.makeV {t e : TypeId} {x y : Operand} {k k' : IntKind} {j c : Int} {bytes : Nat} {z : Value} (ho : o.op = .makeSlice t x y) (ht : sliceT P t = some (e, 1)) (hz : zeroT P e = some ([z], 1)) (hb : (P.info? e).map (·.bytes) = some bytes)
    (hfl : [z].all flat1 = true) (hx : ev fr x = some (.int k j)) (hy : ev fr y = some (.int k' c)) (h0 : 0 ≤ j) (hlc : j ≤ c) (hsm : bytes * c ≤ 281474976710656) (hsc : c ≤ 9223372036854775807) :
    CDo P o fr H (fun r H' => ∃ g, r = some (.slice (some ⟨g, 0, none⟩) j.toNat j.toNat) ∧ H.Le H' ∧ H.next ≤ g ∧ H'.get g = some (.row (List.replicate j.toNat z) e true)) := by
  have e1 : (j.toNat : Int) = j := Int.toNat_of_nonneg h0
  have e2 : (c.toNat : Int) = c := Int.toNat_of_nonneg (by omega)
  have e3 : bytes * c.toNat ≤ 281474976710656 := by
    have : ((bytes * c.toNat : Nat) : Int) ≤ 281474976710656 := by rw [Int.natCast_mul, e2]; exact hsm
    omega
  refine .makeSlice (l := j.toNat) (c := c.toNat) ho ht hz hb hfl rfl (by omega) (by rw [e1]; exact hx) (by rw [e2]; exact hy) (by omega) e3 (by omega) ⟨_, rfl, GHeap.le_push _ _, Nat.le_refl _, ?_⟩
  rw [GHeap.get_push_new, madeL_one, Nat.mul_one]
theorem CDo.makeI {t e : TypeId} {x y : Operand} {k k' : IntKind} {j c : Int} {bytes : Nat} (ho : o.op = .makeSlice t x y) (ht : sliceT P t = some (e, 1)) (hz : zeroT P e = some ([.int .i64 0], 1)) (hb : (P.info? e).map (·.bytes) = some bytes)
    (hx : ev fr x = some (.int k j)) (hy : ev fr y = some (.int k' c)) (h0 : 0 ≤ j) (hlc : j ≤ c) (hsm : bytes * c ≤ 281474976710656) (hsc : c ≤ 9223372036854775807) :
    CDo P o fr H (fun r H' => ∃ g, r = some (.slice (some ⟨g, 0, none⟩) j.toNat j.toNat) ∧ H.Le H' ∧ H.next ≤ g ∧ H'.get g = some (.row (ints (List.replicate j.toNat 0)) e true)) := by
  have : ints (List.replicate j.toNat 0) = List.replicate j.toNat (Value.int .i64 0) := by simp [ints]
  rw [this]
  exact .makeV ho ht hz hb rfl hx hy h0 hlc hsm hsc
theorem CDo.storeR {t : TypeId} {x y : Operand} {g off : Nat} {v : Value} {cs : List Value} {e : TypeId} (ho : o.op = .store t x y) (ht : (P.info? t).map (·.size) = some 1) (hx : ev fr x = some (.pointer (some ⟨g, off, none⟩))) (hy : ev fr y = some v)
    (h1 : v.oneCell' = true) (hg : H.get g = some (.row cs e true)) (hoff : off < cs.length) :
    CDo P o fr H (fun r H' => r = none ∧ St [g] H H' ∧ H'.get g = some (.row (cs.set off v) e true)) :=
  .store ho ht hx hy h1 hg hoff ⟨rfl, .of_set, GHeap.get_set_eq (GHeap.ltg hg)⟩
theorem CDo.storeI {t : TypeId} {x y : Operand} {g off : Nat} {m : Int} {ys : List Int} {e : TypeId} (ho : o.op = .store t x y) (ht : (P.info? t).map (·.size) = some 1) (hx : ev fr x = some (.pointer (some ⟨g, off, none⟩))) (hy : ev fr y = some (.int .i64 m))
    (hg : H.get g = some (.row (ints ys) e true)) (hoff : off < ys.length) :
    CDo P o fr H (fun r H' => r = none ∧ St [g] H H' ∧ H'.get g = some (.row (ints (ys.set off m)) e true)) := by
  rw [← ints_set]; exact .storeR ho ht hx hy rfl hg (by simpa using hoff)
theorem CDo.storeNR {t : TypeId} {x y : Operand} {g off n : Nat} {vs : Array Value} {cs : List Value} {e : TypeId} (ho : o.op = .store t x y) (ht : (P.info? t).map (·.size) = some n) (hx : ev fr x = some (.pointer (some ⟨g, off, none⟩))) (hy : ev fr y = some (.agg vs))
    (hn : vs.size = n) (h1 : vs.toList.all (·.oneCell') = true) (hg : H.get g = some (.row cs e true)) (hoff : off + n ≤ cs.length) :
    CDo P o fr H (fun r H' => r = none ∧ St [g] H H' ∧ H'.get g = some (.row (setAll cs off vs.toList) e true)) :=
  .storeN ho ht hx hy hn h1 hg hoff ⟨rfl, .of_set, GHeap.get_set_eq (GHeap.ltg hg)⟩
theorem CDo.fillR {t : TypeId} {x y : Operand} {g n : Nat} {vs : Array Value} {cs : List Value} {e : TypeId} (ho : o.op = .store t x y) (ht : (P.info? t).map (·.size) = some n) (hx : ev fr x = some (.pointer (some ⟨g, 0, none⟩))) (hy : ev fr y = some (.agg vs))
    (hn : vs.size = n) (h1 : vs.toList.all (·.oneCell') = true) (hg : H.get g = some (.row cs e true)) (hoff : cs.length = n) :
    CDo P o fr H (fun r H' => r = none ∧ St [g] H H' ∧ H'.get g = some (.row vs.toList e true)) := by
  have : setAll cs 0 vs.toList = vs.toList := setAll_all _ _ (by simp [hoff, hn])
  have h := CDo.storeNR (P := P) (H := H) ho ht hx hy hn h1 hg (by omega)
  rw [this] at h
  exact h
theorem CDo.litA {t e : TypeId} {len n : Nat} {parts : Array (Nat × Operand)} {z vs cs : List Value} (ho : o.op = .buildSlice t len parts) (ht : sliceT P t = some (e, n)) (hz : zeroT P e = some (z, n)) (hfl : z.all flat1 = true) (hzn : z.length = n) (hv : evs fr (parts.toList.map (·.2)) = some vs) (hc : fillL (fun i => some (i * n, n)) (madeL z (len * n)) ((parts.toList.map (·.1)).zip vs) = some cs) (h0 : 0 < n := by omega)
    (hsm : len * n ≤ 16777216 := by omega) : CDo P o fr H (fun r H' => ∃ g, r = some (.slice (some ⟨g, 0, none⟩) len len) ∧ H.Le H' ∧ H.next ≤ g ∧ H'.get g = some (.row cs e true)) := .litR ho ht hz hfl hzn h0 hsm hv hc
theorem CDo.fillA {t : TypeId} {x y : Operand} {g n : Nat} {vs : Array Value} {cs : List Value} {e : TypeId} (ho : o.op = .store t x y) (ht : (P.info? t).map (·.size) = some n) (hx : ev fr x = some (.pointer (some ⟨g, 0, none⟩))) (hy : ev fr y = some (.agg vs))
    (hn : vs.size = n) (h1 : vs.toList.all (·.oneCell') = true) (hg : H.get g = some (.row cs e true) := by assumption) (hoff : cs.length = n := by first | rfl | exact Nat.le_of_ble_eq_true rfl | simp) :
    CDo P o fr H (fun r H' => r = none ∧ St [g] H H' ∧ H'.get g = some (.row vs.toList e true)) := .fillR ho ht hx hy hn h1 hg hoff
theorem CDo.appendR {t tx e : TypeId} {s x : Operand} {g off n m sz bytes : Nat} {z cs news : List Value} (ho : o.op = .call { callee := .builtin .append, args := #[s, x], argTypes := #[t, tx] }) (ht : sliceT P t = some (e, sz)) (hz : zeroT P e = some (z, sz)) (hzn : z.length = sz)
    (hb : (P.info? e).map (·.bytes) = some bytes) (hsv : ev fr s = some (.slice (some ⟨g, off, none⟩) n n)) (hg : H.get g = some (.row cs e true)) (hend : off + n * sz = cs.length) (hsrc : SrcG P fr H sz tx x m news)
    (hN : n + m ≤ 16777216) (hB : (n + m) * bytes ≤ 140737488355328) :
    CDo P o fr H (fun r H' => ∃ g', r = some (.slice (some ⟨g', 0, none⟩) (n + m) (n + m)) ∧ St [g] H H' ∧ H.next ≤ g' ∧ H'.get g' = some (.row (cs.drop off ++ news) e true)) :=
  .append ho ht hz hzn hb hsv hg hend hsrc (by unfold maxLen; omega) hB ⟨_, rfl, .push .of_set, Nat.le_refl _, by have := GHeap.get_push_new (H.set g none) (.row (cs.drop off ++ news) e true); rwa [GHeap.next_set] at this⟩
theorem CDo.appendV {t tx e e' : TypeId} {s x : Operand} {g g1 n sz bytes : Nat} {z cs vs : List Value} (ho : o.op = .call { callee := .builtin .append, args := #[s, x], argTypes := #[t, tx] }) (ht : sliceT P t = some (e, sz)) (hz : zeroT P e = some (z, sz)) (hzn : z.length = sz)
    (hb : (P.info? e).map (·.bytes) = some bytes) (htx : sliceT P tx = some (e', sz)) (hsv : ev fr s = some (.slice (some ⟨g, 0, none⟩) n n)) (hx : ev fr x = some (.slice (some ⟨g1, 0, none⟩) 1 1)) (hg : H.get g = some (.row cs e true)) (hg1 : H.get g1 = some (.row vs e' true)) (hend : n * sz = cs.length)
    (hv : vs.length = sz) (hone : vs.all (·.oneCell') = true) (hN : n + 1 ≤ 16777216) (hB : (n + 1) * bytes ≤ 140737488355328) :
    CDo P o fr H (fun r H' => ∃ g', r = some (.slice (some ⟨g', 0, none⟩) (n + 1) (n + 1)) ∧ St [g] H H' ∧ H.next ≤ g' ∧ H'.get g' = some (.row (cs ++ vs) e true)) :=
  .appendR (cs := cs) (news := vs) ho ht hz hzn hb hsv hg (by omega) (.slice htx hx (by omega) (fun i v hv => by rw [GHeap.cell_of hg1, Nat.zero_add]; exact hv) (fun v hv => List.all_eq_true.1 hone v hv)) hN hB
theorem CDo.appendI {t tx e e' : TypeId} {s x : Operand} {g g1 n bytes : Nat} {z : List Value} {ys : List Int} {m : Int} (ho : o.op = .call { callee := .builtin .append, args := #[s, x], argTypes := #[t, tx] }) (ht : sliceT P t = some (e, 1)) (hz : zeroT P e = some (z, 1)) (hzn : z.length = 1)
    (hb : (P.info? e).map (·.bytes) = some bytes) (htx : sliceT P tx = some (e', 1)) (hsv : ev fr s = some (.slice (some ⟨g, 0, none⟩) n n)) (hx : ev fr x = some (.slice (some ⟨g1, 0, none⟩) 1 1)) (hg : H.get g = some (.row (ints ys) e true)) (hg1 : H.get g1 = some (.row [.int .i64 m] e' true)) (hend : n = ys.length)
    (hN : n + 1 ≤ 16777216) (hB : (n + 1) * bytes ≤ 140737488355328) :
    CDo P o fr H (fun r H' => ∃ g', r = some (.slice (some ⟨g', 0, none⟩) (n + 1) (n + 1)) ∧ St [g] H H' ∧ H.next ≤ g' ∧ H'.get g' = some (.row (ints (ys ++ [m])) e true)) := by
  have e1 : ints (ys ++ [m]) = ints ys ++ [.int .i64 m] := by simp [ints]
  rw [e1]
  exact .appendV ho ht hz hzn hb htx hsv hx hg hg1 (by simp; omega) rfl rfl hN hB
end

theorem getD_mem {xs : List Int} {i : Nat} (h : i < xs.length) : xs.getD i 0 ∈ xs := by
  rw [List.getD_eq_getElem?_getD, List.getElem?_eq_getElem h]; exact List.getElem_mem h
theorem mem_getD {xs : List Int} {x : Int} (h : x ∈ xs) : ∃ i, i < xs.length ∧ xs.getD i 0 = x := by
  obtain ⟨i, hi, e⟩ := List.getElem_of_mem h
  exact ⟨i, hi, by rw [List.getD_eq_getElem?_getD, List.getElem?_eq_getElem hi]; exact e⟩
end Go.GL
namespace Go.Proofs.Ytiooclghkafokaa
open Go Go.GL Go.RowKit Go.Proofs
theorem szInt64S_s {a : Option Addr} {xs : List Int} {left : Int} {H : GHeap} (hx : xs.length ≤ 9223372036854775807 := by omega) (h0 : 0 ≤ left := by omega) (h1 : left ≤ 1048576 := by omega) :
    GCalls Try.prog 71 [.slice a xs.length xs.length, .int .i64 left] H (SzR left (xs.length ≤ 1048576) H) :=
  (szInt64S_c hx h0 h1).mono fun _ _ ⟨e, l, h2, h3, h4, h5⟩ => ⟨e, l, h2, h3, h4, fun h => by have := h5 h; omega⟩
theorem szInt64SS_s {a : Option Addr} {xss : List (List Int)} {r : Nat → Option Addr} {left : Int} {H : GHeap} (h : Intss H a xss r := by assumption) (hx : xss.length ≤ 9223372036854775807 := by omega) (hy : ∀ i, I64s (xss.getD i []) := by assumption) (h0 : 0 ≤ left := by omega) (h1 : left ≤ 1048576 := by omega) :
    GCalls Try.prog 133 [.slice a xss.length xss.length, .int .i64 left] H (SzR left (xss.length ≤ 1048576 ∧ ∀ i, (xss.getD i []).length ≤ 1048576) H) :=
  (szInt64SS_c h hx hy h0 h1).mono fun _ _ ⟨e, l, h2, h3, h4, h5⟩ => ⟨e, l, h2, h3, h4, fun h => ⟨by have := (h5 h).1; omega, fun i => by have := (h5 h).2 i; omega⟩⟩
end Go.Proofs.Ytiooclghkafokaa
namespace Go.GL
open Go.RowKit Go.WideShapes Go.ChangeShapes Go.Deep

def Intsss (H : GHeap) (a : Option Addr) (x : List (List (List Int))) (r : Nat → Option Addr) (s : Nat → Nat → Option Addr) : Prop :=
  SlA H a x.length (fun i => .slice (r i) (x.getD i []).length (x.getD i []).length) ∧ ∀ i, i < x.length → Intss H (r i) (x.getD i []) (s i)
def Wd2 (xss : List (List Int)) : Prop := xss.length ≤ 9223372036854775807 ∧ ∀ i, I64s (xss.getD i [])
def Wd3 (x : List (List (List Int))) : Prop := x.length ≤ 9223372036854775807 ∧ ∀ i, Wd2 (x.getD i [])
def Sm3 (x : List (List (List Int))) : Prop := x.length ≤ 1048576 ∧ ∀ i, (x.getD i []).length ≤ 1048576 ∧ ∀ j, ((x.getD i []).getD j []).length ≤ 1048576
end Go.GL
namespace Go.GL
open Go.RowKit
structure SFun where
  sh : Cat
  sz : List Int
  ac : List (List Int)
structure SFunP where
  sh : CatP
  a1 : Option Addr
  a2 : Option Addr
  r2 : Nat → Option Addr
def SFun.cells (c : SFun) (p : SFunP) : List Value := c.sh.cells p.sh ++ ([.slice p.a1 c.sz.length c.sz.length] ++ ([.slice p.a2 c.ac.length c.ac.length]))
def SFun.In (H : GHeap) (c : SFun) (p : SFunP) : Prop := c.sh.In H p.sh ∧ Ints H p.a1 c.sz ∧ Intss H p.a2 c.ac p.r2
theorem SFun.In.mono {H H' : GHeap} {c : SFun} {p : SFunP} (h : c.In H p) (hle : H.Le H') : c.In H' p := ⟨Cat.In.mono (h.1) hle, Ints.mono (h.2.1) hle, Intss.mono (h.2.2) hle⟩
def SFun.At (H : GHeap) (g o : Nat) (c : SFun) (p : SFunP) : Prop := Mem H g o (c.cells p) ∧ c.In H p
theorem SFun.At.get {H : GHeap} {g o : Nat} {c : SFun} {p : SFunP} (h : SFun.At H g o c p) : Cat.At H g (o + 0) c.sh p.sh ∧ H.cell g (o + 5) = some (.slice p.a1 c.sz.length c.sz.length) ∧ H.cell g (o + 6) = some (.slice p.a2 c.ac.length c.ac.length) ∧ Ints H p.a1 c.sz ∧ Intss H p.a2 c.ac p.r2 :=
  ⟨⟨h.1.left, h.2.1⟩, (h.1.right (n := 5) rfl).left 0 _ rfl, ((h.1.right (n := 5) rfl).right (n := 1) rfl) 0 _ rfl, h.2.2.1, h.2.2.2⟩
def SFun.Small (c : SFun) : Prop := c.sh.Small ∧ c.sz.length ≤ 1048576 ∧ (c.ac.length ≤ 1048576 ∧ ∀ i, (c.ac.getD i []).length ≤ 1048576)
def SFun.Wide (c : SFun) : Prop := c.sh.Wide ∧ I64s c.sz ∧ (c.ac.length ≤ 9223372036854775807 ∧ ∀ i, I64s (c.ac.getD i []))
def SFunAt (b : Nat) (H : GHeap) (c : SFun) (p : SFunP) : Prop := CatAt b H c.sh p.sh ∧ IntsAt b H p.a1 c.sz ∧ IntssAt b H p.a2 c.ac p.r2
theorem SFunAt.keep {b b' : Nat} {H H' : GHeap} {c : SFun} {p : SFunP} (h : SFunAt b H c p) (hk : Keep b' H H') (hb : b' ≤ b) : SFunAt b' H' c p := ⟨CatAt.keep (h.1) hk hb, IntsAt.keep (h.2.1) hk hb, IntssAt.keep (h.2.2) hk hb⟩
theorem SFunAt.inn {b : Nat} {H : GHeap} {c : SFun} {p : SFunP} (h : SFunAt b H c p) : c.In H p := ⟨CatAt.inn (h.1), IntsAt.ints (h.2.1), IntssAt.intss (h.2.2)⟩
def NewSFun (H : GHeap) (c : SFun) (v : Value) (H' : GHeap) : Prop := H.Le H' ∧ ∃ p, v = .agg (c.cells p).toArray ∧ SFunAt H.next H' c p
def sfunT (P : Program) (t : TypeId) : Bool := structIs P t 7 3 fun fs => fieldIs P fs 0 0 5 catT && fieldIs P fs 1 5 1 intsT && fieldIs P fs 2 6 1 intssT
def RSFun (ρ : Place) (H : GHeap) (cs : List Value) : Prop := ∃ (c : SFun) (p : SFunP), LRel ρ (c.cells p) cs ∧ c.In H p ∧ c.Wide
theorem import_sfun {P : Program} {t : TypeId} (ht : sfunT P t = true) : Imports P t RSFun := by
  intro T enc B w0 ρ H w held fuel cs x hs hB h
  obtain ⟨fs, g1, g2, g3, g4⟩ := structIs_run ht
  simp only [Bool.and_eq_true] at g4
  obtain ⟨⟨q0, q1⟩, q2⟩ := g4
  obtain ⟨xs, n, _, _, hl, hx, hf⟩ := DataW.trod_struct g1 h
  obtain ⟨ρ0, H0, s0, e0, l0, y0, p0, v0, i0, w0⟩ := import_field (fun _ h => import_cat h) q0 hx hf hs hB
  obtain ⟨ρ1, H1, s1, e1, l1, a1, x1, c1, z1, v1, i1, w1⟩ := import_field (fun _ h => import_ints h) q1 hx hf s0 hB
  obtain ⟨ρ2, H2, s2, e2, l2, a2, x2, r2, c2, z2, v2, i2, w2⟩ := import_field (fun _ h => import_intss h) q2 hx hf s1 hB
  refine ⟨ρ2, H2, s2, e0.trans (e1.trans (e2)), l0.trans (l1.trans (l2)), ⟨y0, x1, x2⟩, ⟨p0, a1, a2, r2⟩, ?_, ⟨Cat.In.mono i0 (l1.trans (l2)), i1.mono (l2), i2⟩, ⟨w0, w1, w2⟩⟩
  have hlen : cs.length = 7 := by rw [hl, g2]
  have e : cs = (cs.drop 0).take 5 ++ ((cs.drop 5).take 1 ++ ((cs.drop 6).take 1)) := by
    match cs, hlen with
    | [_, _, _, _, _, _, _], _ => rfl
  rw [e, z1, z2]
  exact (LRel.append (v0.mono (e1.trans (e2))) (LRel.append (.cons (v1.mono (e2)) (.nil _)) (.cons (v2) (.nil _))))
structure SMap where
  s : SFun
  t : SFun
  pa : List (List Int)
structure SMapP where
  s : SFunP
  t : SFunP
  a2 : Option Addr
  r2 : Nat → Option Addr
def SMap.cells (c : SMap) (p : SMapP) : List Value := c.s.cells p.s ++ (c.t.cells p.t ++ ([.slice p.a2 c.pa.length c.pa.length]))
def SMap.In (H : GHeap) (c : SMap) (p : SMapP) : Prop := c.s.In H p.s ∧ c.t.In H p.t ∧ Intss H p.a2 c.pa p.r2
def SMap.At (H : GHeap) (g o : Nat) (c : SMap) (p : SMapP) : Prop := Mem H g o (c.cells p) ∧ c.In H p
def SMap.Small (c : SMap) : Prop := c.s.Small ∧ c.t.Small ∧ (c.pa.length ≤ 1048576 ∧ ∀ i, (c.pa.getD i []).length ≤ 1048576)
def SMap.Wide (c : SMap) : Prop := c.s.Wide ∧ c.t.Wide ∧ (c.pa.length ≤ 9223372036854775807 ∧ ∀ i, I64s (c.pa.getD i []))
structure Con where
  ap : Int
  lg : List Int
structure ConP where
  a1 : Option Addr
def Con.cells (c : Con) (p : ConP) : List Value := [.int .i64 c.ap] ++ ([.slice p.a1 c.lg.length c.lg.length])
def Con.In (H : GHeap) (c : Con) (p : ConP) : Prop := Ints H p.a1 c.lg
def Con.At (H : GHeap) (g o : Nat) (c : Con) (p : ConP) : Prop := Mem H g o (c.cells p) ∧ c.In H p
def Con.Small (c : Con) : Prop := (-9223372036854775808 ≤ c.ap ∧ c.ap ≤ 9223372036854775807) ∧ c.lg.length ≤ 1048576
def Con.Wide (c : Con) : Prop := I64 c.ap ∧ I64s c.lg
structure Prt where
  me : List (List Int)
structure PrtP where
  a0 : Option Addr
  r0 : Nat → Option Addr
def Prt.cells (c : Prt) (p : PrtP) : List Value := [.slice p.a0 c.me.length c.me.length]
def Prt.In (H : GHeap) (c : Prt) (p : PrtP) : Prop := Intss H p.a0 c.me p.r0
def Prt.At (H : GHeap) (g o : Nat) (c : Prt) (p : PrtP) : Prop := Mem H g o (c.cells p) ∧ c.In H p
def Prt.Small (c : Prt) : Prop := (c.me.length ≤ 1048576 ∧ ∀ i, (c.me.getD i []).length ≤ 1048576)
def Prt.Wide (c : Prt) : Prop := (c.me.length ≤ 9223372036854775807 ∧ ∀ i, I64s (c.me.getD i []))
structure Prof where
  s : Cat
  t : Cat
  sz : List (List Int)
  be : List (List (List Int))
  bh : List (List (List Int))
structure ProfP where
  s : CatP
  t : CatP
  a2 : Option Addr
  r2 : Nat → Option Addr
  a3 : Option Addr
  r3 : Nat → Option Addr
  s3 : Nat → Nat → Option Addr
  a4 : Option Addr
  r4 : Nat → Option Addr
  s4 : Nat → Nat → Option Addr
def Prof.cells (c : Prof) (p : ProfP) : List Value := c.s.cells p.s ++ (c.t.cells p.t ++ ([.slice p.a2 c.sz.length c.sz.length] ++ ([.slice p.a3 c.be.length c.be.length] ++ ([.slice p.a4 c.bh.length c.bh.length]))))
def Prof.In (H : GHeap) (c : Prof) (p : ProfP) : Prop := c.s.In H p.s ∧ c.t.In H p.t ∧ Intss H p.a2 c.sz p.r2 ∧ Intsss H p.a3 c.be p.r3 p.s3 ∧ Intsss H p.a4 c.bh p.r4 p.s4
def Prof.At (H : GHeap) (g o : Nat) (c : Prof) (p : ProfP) : Prop := Mem H g o (c.cells p) ∧ c.In H p
def Prof.Small (c : Prof) : Prop := c.s.Small ∧ c.t.Small ∧ (c.sz.length ≤ 1048576 ∧ ∀ i, (c.sz.getD i []).length ≤ 1048576) ∧ Sm3 c.be ∧ Sm3 c.bh
def Prof.Wide (c : Prof) : Prop := c.s.Wide ∧ c.t.Wide ∧ (c.sz.length ≤ 9223372036854775807 ∧ ∀ i, I64s (c.sz.getD i [])) ∧ Wd3 c.be ∧ Wd3 c.bh
end Go.GL
namespace Go.Proofs.Ytiooclghkafokaa
open Go Go.GL Go.RowKit Go.Proofs
theorem sz_162_VSFun : (Try.prog.info? 162).map (·.size) = some 7 := by kernel_rfl
theorem fo_162_0_VSFun : fieldOff Try.prog 162 0 = some 0 := by kernel_rfl
theorem ag_39_VSFun : aggT Try.prog 39 = some 5 := by kernel_rfl
theorem fo_162_1_VSFun : fieldOff Try.prog 162 1 = some 5 := by kernel_rfl
theorem fo_162_2_VSFun : fieldOff Try.prog 162 2 = some 6 := by kernel_rfl
theorem ze_107_VSFun : zeroT Try.prog 107 = some ([.int .i64 0, .slice none 0 0, .slice none 0 0, .slice none 0 0, .slice none 0 0, .slice none 0 0, .slice none 0 0], 7) := by kernel_rfl
theorem fo_107_0_VSFun : fieldOff Try.prog 107 0 = some 0 := by kernel_rfl
theorem fo_107_1_VSFun : fieldOff Try.prog 107 1 = some 5 := by kernel_rfl
theorem fo_107_2_VSFun : fieldOff Try.prog 107 2 = some 6 := by kernel_rfl
theorem ag_107_VSFun : aggT Try.prog 107 = some 7 := by kernel_rfl
theorem sz_107_VSFun : (Try.prog.info? 107).map (·.size) = some 7 := by kernel_rfl
theorem szSetFunctor_c {c : SFun} {p : SFunP} {left : Int} {H : GHeap} (hin : c.In H p := by assumption) (hw : c.Wide := by assumption) (h0 : 0 ≤ left := by omega) (h1 : left ≤ 1048576 := by omega) :
    GCalls Try.prog 142 [.agg (c.cells p).toArray, .int .i64 left] H (SzR left c.Small H) := by
  refine SzR.of ?_
  obtain ⟨w0, ⟨wa1, _⟩, ⟨wa2, wb2⟩⟩ := hw
  refine GCalls.body (N := 24) (rs := [.tmp 4]) Try.func142 rfl rfl rfl rfl (fun Qx d hend => ?_)
  refine .fg [0, 1] rfl ?_
  have b := GHeap.Le.refl H
  have a := hin
  refine .seq (fun K1 a2 => .region ?_)
  refine .R rfl (.boxR rfl sz_162_VSFun rfl) ?_
  rintro _ H2 ⟨g2, rfl, u, ge2, f⟩
  have nx_H2 := u.1
  replace b := b.trans u
  have lt_at2 := GHeap.ltg f
  replace hin := a.mono b
  have o : SFun.At _ g2 0 c p := ⟨Mem.of_get f, hin⟩
  obtain ⟨e, c52, c62, i12, i22⟩ := o.get
  have hm2 : MemN _ _ _ _ _ := ⟨rfl, o.1⟩
  have hi2 := o.2
  have hmsh2 : MemN _ _ _ _ _ := ⟨rfl, e.1⟩
  have hish2 := e.2
  refine .mv rfl (.nil (a2 _ _ (.seq (fun K2 z => .region (.q rfl (.fieldAddr fo_162_0_VSFun rfl) ?_)))))
  refine .q rfl (.loadM ag_39_VSFun rfl (by assumption)) ?_
  refine .mv rfl ?_
  refine .call rfl rfl rfl rfl @Try.call70 rfl (szCategory_c) ?_
  rintro _ _ ⟨heq, lf8, rfl, z18, z28, y⟩
  obtain rfl := heq.symm
  refine .mv rfl (.nil (z _ _ (.seq (fun K3 a4 => .seq (fun K4 a0 => .region (.mv rfl (.q rfl (.cmp rfl rfl rfl) (.nil (a0 _ _ ?_)))))))))
  refine .cond rfl (fun l => ?_) (fun l => ?_)
  ·
   try simp only [sps] at l
   refine .seq (fun K5 a1 => .region (.mv rfl (.nil (a1 _ _ ?_))))
   refine .ret ?_
   refine d _ _ ?_
   refine ⟨_, rfl, ?_⟩
   first
   | exact ⟨b, _, rfl, by omega, by omega, fun h => by omega⟩
   | exact ⟨b, _, rfl, by omega, by omega, fun h => ⟨by assumption, by assumption, by assumption⟩⟩
  try simp only [sps] at l
  have hsm8 := y (by omega)
  refine .skip ?_
  refine a4 _ _ (.seq (fun K6 w => .region (.q rfl (.fieldAddr fo_162_1_VSFun rfl) ?_)))
  refine .q rfl (.load on_24_B rfl (by first | assumption | exact Mem.of_get f 5 _ rfl)) ?_
  refine .mv rfl ?_
  refine .call rfl rfl rfl rfl @Try.call71 rfl (szInt64S_s) ?_
  rintro _ _ ⟨heq, lf14, rfl, z114, z214, i⟩
  obtain rfl := heq.symm
  refine .mv rfl (.nil (w _ _ (.seq (fun K7 x => .seq (fun K8 a3 => .region (.mv rfl (.q rfl (.cmp rfl rfl rfl) (.nil (a3 _ _ ?_)))))))))
  refine .cond rfl (fun t => ?_) (fun t => ?_)
  ·
   try simp only [sps] at t
   refine .seq (fun K9 v => .region (.mv rfl (.nil (v _ _ ?_))))
   refine .ret ?_
   refine d _ _ ?_
   refine ⟨_, rfl, ?_⟩
   first
   | exact ⟨b, _, rfl, by omega, by omega, fun h => by omega⟩
   | exact ⟨b, _, rfl, by omega, by omega, fun h => ⟨by assumption, by assumption, by assumption⟩⟩
  try simp only [sps] at t
  have hsm14 := i (by omega)
  refine .skip ?_
  refine x _ _ (.seq (fun K10 r => .region (.q rfl (.fieldAddr fo_162_2_VSFun rfl) ?_)))
  refine .q rfl (.load on_25_B rfl (by first | assumption | exact Mem.of_get f 6 _ rfl)) ?_
  refine .mv rfl ?_
  refine .call rfl rfl rfl rfl @Try.call133 rfl (szInt64SS_s) ?_
  rintro _ _ ⟨heq, lf20, rfl, z120, z220, k⟩
  obtain rfl := heq.symm
  refine .mv rfl (.nil (r _ _ (.seq (fun K11 j => .seq (fun K12 s => .region (.mv rfl (.q rfl (.cmp rfl rfl rfl) (.nil (s _ _ ?_)))))))))
  refine .cond rfl (fun n => ?_) (fun n => ?_)
  ·
   try simp only [sps] at n
   refine .seq (fun K13 m => .region (.mv rfl (.nil (m _ _ ?_))))
   refine .ret ?_
   refine d _ _ ?_
   refine ⟨_, rfl, ?_⟩
   first
   | exact ⟨b, _, rfl, by omega, by omega, fun h => by omega⟩
   | exact ⟨b, _, rfl, by omega, by omega, fun h => ⟨by assumption, by assumption, by assumption⟩⟩
  try simp only [sps] at n
  have hsm20 := k (by omega)
  refine .skip ?_
  refine j _ _ (.seq (fun K14 g => .region (.mv rfl (.mv rfl (.nil (g _ _ ?_))))))
  refine .ret ?_
  refine d _ _ ?_
  refine ⟨_, rfl, ?_⟩
  first
  | exact ⟨b, _, rfl, by omega, by omega, fun h => by omega⟩
  | exact ⟨b, _, rfl, by omega, by omega, fun h => ⟨by assumption, by assumption, by assumption⟩⟩
set_option maxHeartbeats 4000000 in
theorem toSetFunctor_c {c : SFun} {p : SFunP} {H : GHeap} (hin : c.In H p := by assumption) (hs : c.Small := by assumption) : GCalls Try.prog 151 [.agg (c.cells p).toArray] H (NewSFun H c) := by
  obtain ⟨w0, w1, ⟨wa2, wb2⟩⟩ := hs
  refine GCalls.body (N := 17) (rs := [.cell 2 107]) Try.func151 rfl rfl rfl rfl (fun Qx b9 hend => ?_)
  refine .fg [0] rfl ?_
  have n := GHeap.Le.refl H
  have d := hin
  refine .seq (fun K1 d1 => .region ?_)
  refine .R rfl (.boxR rfl sz_162_VSFun rfl) ?_
  rintro _ H1 ⟨g1, rfl, c3, ge1, j⟩
  have nx_H1 := c3.1
  replace n := n.trans c3
  have lt_at1 := GHeap.ltg j
  replace hin := d.mono n
  have i : SFun.At _ g1 0 c p := ⟨Mem.of_get j, hin⟩
  obtain ⟨b, a6, a3, a4, a2⟩ := i.get
  have a1 : MemN _ _ _ _ _ := ⟨rfl, i.1⟩
  have a5 := i.2
  have e : MemN _ _ _ _ _ := ⟨rfl, b.1⟩
  have f := b.2
  refine .R rfl (.allocR rfl ze_107_VSFun rfl) ?_
  rintro _ H2 ⟨g2, rfl, c0, ge2, b0⟩
  have nx_H2 := c0.1
  replace n := n.trans c0
  replace j := c0.2 _ _ j
  have lt_at2 := GHeap.ltg b0
  replace hin := d.mono n
  clear i b a6 a3 a4 a2 a1 a5 e f
  have i : SFun.At _ g1 0 c p := ⟨Mem.of_get j, hin⟩
  obtain ⟨b, a6, a3, a4, a2⟩ := i.get
  have a1 : MemN _ _ _ _ _ := ⟨rfl, i.1⟩
  have a5 := i.2
  have e : MemN _ _ _ _ _ := ⟨rfl, b.1⟩
  have f := b.2
  refine .nil (d1 _ _ (.seq (fun K2 c7 => .region ?_)))
  refine .R rfl (.allocR rfl ze_107_VSFun rfl) ?_
  rintro _ H3 ⟨g3, rfl, b7, ge3, c2⟩
  have nx_H3 := b7.1
  replace n := n.trans b7
  replace j := b7.2 _ _ j
  replace b0 := b7.2 _ _ b0
  have lt_at3 := GHeap.ltg c2
  replace hin := d.mono n
  clear i b a6 a3 a4 a2 a1 a5 e f
  have i : SFun.At _ g1 0 c p := ⟨Mem.of_get j, hin⟩
  obtain ⟨b, a6, a3, a4, a2⟩ := i.get
  have a1 : MemN _ _ _ _ _ := ⟨rfl, i.1⟩
  have a5 := i.2
  have e : MemN _ _ _ _ _ := ⟨rfl, b.1⟩
  have f := b.2
  refine .nil (c7 _ _ (.seq (fun K3 d2 => .region (.q rfl (.fieldAddr fo_162_0_VSFun rfl) ?_))))
  refine .q rfl (.loadM ag_39_VSFun rfl (by assumption)) ?_
  refine .call rfl rfl rfl rfl @Try.call73 rfl (toCategory_c) ?_
  rintro _ H6 ⟨b5, p6, rfl, v6⟩
  have nx_H6 := b5.1
  replace n := n.trans b5
  replace j := b5.2 _ _ j
  replace b0 := b5.2 _ _ b0
  replace c2 := b5.2 _ _ c2
  have y := v6
  have g : Keep H3.next H6 H6 := fun _ _ _ h => h
  replace hin := d.mono n
  clear i b a6 a3 a4 a2 a1 a5 e f
  have i : SFun.At _ g1 0 c p := ⟨Mem.of_get j, hin⟩
  obtain ⟨b, a6, a3, a4, a2⟩ := i.get
  have a1 : MemN _ _ _ _ _ := ⟨rfl, i.1⟩
  have a5 := i.2
  have e : MemN _ _ _ _ _ := ⟨rfl, b.1⟩
  have f := b.2
  have i6 := v6.inn
  refine .q rfl (.fieldAddr fo_107_0_VSFun rfl) ?_
  refine .r0 rfl rfl (.storeNR rfl sz_27_D rfl rfl rfl rfl (by assumption) (by first | rfl | exact Nat.le_of_ble_eq_true rfl | simp)) ?_
  rintro _ H2004 ⟨rfl, x, a7⟩
  have nx_H2004 := x.nx
  replace n := n.st x (fun k hk => ⟨by omega, trivial⟩)
  have v : NE g1 g3 := .a
  replace j := x.s j v.ne
  have r : NE g2 g3 := .a
  replace b0 := x.s b0 r.ne
  replace g := Keep.st g x (fun k hb hk => ⟨by omega, trivial⟩)
  replace v6 := y.keep g (Nat.le_refl _)
  have lt_at2004 := GHeap.ltg a7
  replace hin := d.mono n
  clear i b a6 a3 a4 a2 a1 a5 e f
  have i : SFun.At _ g1 0 c p := ⟨Mem.of_get j, hin⟩
  obtain ⟨b, a6, a3, a4, a2⟩ := i.get
  have a1 : MemN _ _ _ _ _ := ⟨rfl, i.1⟩
  have a5 := i.2
  have e : MemN _ _ _ _ _ := ⟨rfl, b.1⟩
  have f := b.2
  clear i6
  have i6 := v6.inn
  refine .nil (d2 _ _ (.seq (fun K4 c9 => .region (.q rfl (.fieldAddr fo_162_1_VSFun rfl) ?_))))
  refine .q rfl (.load on_24_B rfl (by first | assumption | exact Mem.of_get j 5 _ rfl)) ?_
  refine .call rfl rfl rfl rfl @Try.call74 rfl (toInt64S_c) ?_
  rintro _ H10 ⟨b1, c1, rfl, m, ge10⟩
  have nx_H10 := b1.1
  replace n := n.trans b1
  replace j := b1.2 _ _ j
  replace b0 := b1.2 _ _ b0
  replace a7 := b1.2 _ _ a7
  replace g := Keep.le g b1
  replace v6 := y.keep g (Nat.le_refl _)
  have lt_at10 := GHeap.ltg m
  replace hin := d.mono n
  clear i b a6 a3 a4 a2 a1 a5 e f
  have i : SFun.At _ g1 0 c p := ⟨Mem.of_get j, hin⟩
  obtain ⟨b, a6, a3, a4, a2⟩ := i.get
  have a1 : MemN _ _ _ _ _ := ⟨rfl, i.1⟩
  have a5 := i.2
  have e : MemN _ _ _ _ _ := ⟨rfl, b.1⟩
  have f := b.2
  clear i6
  have i6 := v6.inn
  have b3 := Ints.of_get m
  refine .q rfl (.fieldAddr fo_107_1_VSFun rfl) ?_
  refine .r0 rfl rfl (.storeR rfl sz_24_E rfl rfl rfl (by assumption) (by first | exact Nat.le_of_ble_eq_true rfl | (simp; done) | (simp <;> omega))) ?_
  rintro _ b6 ⟨rfl, t, a0⟩
  have nx_H3004 := t.nx
  replace n := n.st t (fun k hk => ⟨by omega, trivial⟩)
  replace j := t.s j v.ne
  replace b0 := t.s b0 r.ne
  have z : NE c1 g3 := .a
  replace m := t.s m z.ne
  replace g := Keep.st g t (fun k hb hk => ⟨by omega, trivial⟩)
  replace v6 := y.keep g (Nat.le_refl _)
  have lt_at3004 := GHeap.ltg a0
  replace hin := d.mono n
  clear i b a6 a3 a4 a2 a1 a5 e f
  have i : SFun.At _ g1 0 c p := ⟨Mem.of_get j, hin⟩
  obtain ⟨b, a6, a3, a4, a2⟩ := i.get
  have a1 : MemN _ _ _ _ _ := ⟨rfl, i.1⟩
  have a5 := i.2
  have e : MemN _ _ _ _ _ := ⟨rfl, b.1⟩
  have f := b.2
  clear i6
  have i6 := v6.inn
  clear b3
  have b3 := Ints.of_get m
  try simp only [Nat.zero_add, List.set_cons_succ, List.set_cons_zero] at a0
  refine .nil (c9 _ _ (.seq (fun K5 d0 => .region (.q rfl (.fieldAddr fo_162_2_VSFun rfl) ?_))))
  refine .q rfl (.load on_25_B rfl (by first | assumption | exact Mem.of_get j 6 _ rfl)) ?_
  refine .call rfl rfl rfl rfl @Try.call138 rfl (toInt64SS_c) ?_
  rintro _ c4 ⟨a9, c8, c5, rfl, b4⟩
  have nx_H14 := a9.1
  replace n := n.trans a9
  replace j := a9.2 _ _ j
  replace b0 := a9.2 _ _ b0
  replace m := a9.2 _ _ m
  replace a0 := a9.2 _ _ a0
  replace g := Keep.le g a9
  replace v6 := y.keep g (Nat.le_refl _)
  have b2 := b4
  have u : Keep b6.next c4 c4 := fun _ _ _ h => h
  replace hin := d.mono n
  clear i b a6 a3 a4 a2 a1 a5 e f
  have i : SFun.At _ g1 0 c p := ⟨Mem.of_get j, hin⟩
  obtain ⟨b, a6, a3, a4, a2⟩ := i.get
  have a1 : MemN _ _ _ _ _ := ⟨rfl, i.1⟩
  have a5 := i.2
  have e : MemN _ _ _ _ _ := ⟨rfl, b.1⟩
  have f := b.2
  clear i6
  have i6 := v6.inn
  clear b3
  have b3 := Ints.of_get m
  have b8 := b4.intss
  refine .q rfl (.fieldAddr fo_107_2_VSFun rfl) ?_
  refine .r0 rfl rfl (.storeR rfl sz_25_E rfl rfl rfl (by assumption) (by first | exact Nat.le_of_ble_eq_true rfl | (simp; done) | (simp <;> omega))) ?_
  rintro _ H4004 ⟨rfl, l, w⟩
  have nx_H4004 := l.nx
  replace n := n.st l (fun k hk => ⟨by omega, trivial⟩)
  replace j := l.s j v.ne
  replace b0 := l.s b0 r.ne
  replace m := l.s m z.ne
  replace g := Keep.st g l (fun k hb hk => ⟨by omega, trivial⟩)
  replace v6 := y.keep g (Nat.le_refl _)
  replace u := Keep.st u l (fun k hb hk => ⟨by omega, trivial⟩)
  replace b4 := b2.keep u (Nat.le_refl _)
  have lt_at4004 := GHeap.ltg w
  replace hin := d.mono n
  clear i b a6 a3 a4 a2 a1 a5 e f
  have i : SFun.At _ g1 0 c p := ⟨Mem.of_get j, hin⟩
  obtain ⟨b, a6, a3, a4, a2⟩ := i.get
  have a1 : MemN _ _ _ _ _ := ⟨rfl, i.1⟩
  have a5 := i.2
  have e : MemN _ _ _ _ _ := ⟨rfl, b.1⟩
  have f := b.2
  clear i6
  have i6 := v6.inn
  clear b3
  have b3 := Ints.of_get m
  clear b8
  have b8 := b4.intss
  try simp only [Nat.zero_add, List.set_cons_succ, List.set_cons_zero] at w
  refine .nil (d0 _ _ (.seq (fun K6 c6 => .region ?_)))
  refine .q rfl (.loadM ag_107_VSFun rfl ⟨rfl, Mem.of_get w⟩) ?_
  refine .r0 rfl rfl (.fillA rfl sz_107_VSFun rfl rfl rfl rfl) ?_
  rintro _ H5001 ⟨rfl, o, a8⟩
  have nx_H5001 := o.nx
  replace n := n.st o (fun k hk => ⟨by omega, trivial⟩)
  replace j := o.s j
  replace m := o.s m
  replace w := o.s w (Ne.symm r.ne)
  replace g := Keep.st g o (fun k hb hk => ⟨by omega, trivial⟩)
  replace v6 := y.keep g (Nat.le_refl _)
  replace u := Keep.st u o (fun k hb hk => ⟨by omega, trivial⟩)
  replace b4 := b2.keep u (Nat.le_refl _)
  have lt_at5001 := GHeap.ltg a8
  replace hin := d.mono n
  clear i b a6 a3 a4 a2 a1 a5 e f
  have i : SFun.At _ g1 0 c p := ⟨Mem.of_get j, hin⟩
  obtain ⟨b, a6, a3, a4, a2⟩ := i.get
  have a1 : MemN _ _ _ _ _ := ⟨rfl, i.1⟩
  have a5 := i.2
  have e : MemN _ _ _ _ _ := ⟨rfl, b.1⟩
  have f := b.2
  clear i6
  have i6 := v6.inn
  clear b3
  have b3 := Ints.of_get m
  clear b8
  have b8 := b4.intss
  have mm5001 : MemN _ _ _ _ _ := ⟨rfl, Mem.of_get a8⟩
  refine .nil (c6 _ _ ?_)
  refine .ret ?_
  refine b9 _ _ ?_
  refine ⟨_, _, _, _, rfl, ag_107_VSFun, (by rfl), (Mem.of_get a8), ?_⟩
  exact ⟨n, ⟨p6, some ⟨c1, 0, none⟩, c8, c5⟩, rfl, ⟨v6.keep (.of_le (.refl _)) (by omega), ⟨c1, _, rfl, by omega, m⟩, b4.keep (.of_le (.refl _)) (by omega)⟩⟩
set_option maxHeartbeats 4000000 in
theorem eqSetFunctor_c {c : SFun} {p p' : SFunP} {H : GHeap} (hin : c.In H p := by assumption) (hin' : c.In H p' := by assumption) (hs : c.Small := by assumption) : GCalls Try.prog 155 [.agg (c.cells p).toArray, .agg (c.cells p').toArray] H (Ret (.bool true) H) := by
  refine GCalls.ret rfl ?_
  obtain ⟨w0, w1, ⟨wa2, wb2⟩⟩ := hs
  refine GCalls.body (N := 23) (rs := [.tmp 4]) Try.func155 rfl rfl rfl rfl (fun Qx f hend => ?_)
  refine .fg [0, 1] rfl ?_
  have e := GHeap.Le.refl H
  have b := hin
  have a := hin'
  refine .seq (fun K1 a8 => .region ?_)
  refine .R rfl (.boxR rfl sz_107_VSFun rfl) ?_
  rintro _ H2 ⟨g2, rfl, a0, ge2, j⟩
  have nx_H2 := a0.1
  replace e := e.trans a0
  have lt_at2 := GHeap.ltg j
  replace hin := b.mono e
  replace hin' := a.mono e
  have i : SFun.At _ g2 0 c p := ⟨Mem.of_get j, hin⟩
  obtain ⟨d, x, w, v, a1⟩ := i.get
  have y : MemN _ _ _ _ _ := ⟨rfl, i.1⟩
  have z := i.2
  have h : MemN _ _ _ _ _ := ⟨rfl, d.1⟩
  have g := d.2
  refine .R rfl (.boxR rfl sz_107_VSFun rfl) ?_
  rintro _ H3 ⟨g3, rfl, s, ge3, l⟩
  have nx_H3 := s.1
  replace e := e.trans s
  replace j := s.2 _ _ j
  have lt_at3 := GHeap.ltg l
  replace hin := b.mono e
  replace hin' := a.mono e
  clear i d x w v a1 y z h g
  have i : SFun.At _ g2 0 c p := ⟨Mem.of_get j, hin⟩
  obtain ⟨d, x, w, v, a1⟩ := i.get
  have y : MemN _ _ _ _ _ := ⟨rfl, i.1⟩
  have z := i.2
  have h : MemN _ _ _ _ _ := ⟨rfl, d.1⟩
  have g := d.2
  have r : SFun.At _ g3 0 c p' := ⟨Mem.of_get l, hin'⟩
  obtain ⟨k, c53, c63, i13, i23⟩ := r.get
  have hm3 : MemN _ _ _ _ _ := ⟨rfl, r.1⟩
  have hi3 := r.2
  have hmsh3 : MemN _ _ _ _ _ := ⟨rfl, k.1⟩
  have hish3 := k.2
  refine .mv rfl (.nil (a8 _ _ (.seq (fun K2 a5 => .seq (fun K3 b0 => .region (.q rfl (.fieldAddr fo_107_0_VSFun rfl) ?_))))))
  refine .q rfl (.loadM ag_27_D rfl (by assumption)) ?_
  refine .q rfl (.fieldAddr fo_107_0_VSFun rfl) ?_
  refine .q rfl (.loadM ag_27_D rfl (by assumption)) ?_
  refine .callQ rfl rfl rfl rfl @Try.call77 rfl (eqCategory_c) ?_
  refine .q rfl (.not rfl) (.nil (b0 _ _ ?_))
  refine .cond rfl (fun n => ?_) (fun n => ?_)
  ·
   try simp only [sps] at n
   refine .seq (fun K4 a6 => .region (.mv rfl (.nil (a6 _ _ ?_))))
   refine .ret ?_
   refine f _ _ ?_
   refine ⟨_, rfl, ?_⟩
   first
   | exact ⟨rfl, e⟩
   | exact absurd trivial (by assumption)
   | contradiction
   | (exfalso; omega)
   | (exfalso; simp_all)
  try simp only [sps] at n
  refine .skip ?_
  refine a5 _ _ (.seq (fun K5 a7 => .seq (fun K6 a3 => .region (.q rfl (.fieldAddr fo_107_1_VSFun rfl) ?_))))
  refine .q rfl (.load on_24_B rfl (by first | assumption | exact Mem.of_get j 5 _ rfl)) ?_
  refine .q rfl (.fieldAddr fo_107_1_VSFun rfl) ?_
  refine .q rfl (.load on_24_B rfl (by first | assumption | exact Mem.of_get l 5 _ rfl)) ?_
  refine .callQ rfl rfl rfl rfl @Try.call76 rfl (eqInt64S_c) ?_
  refine .q rfl (.not rfl) (.nil (a3 _ _ ?_))
  refine .cond rfl (fun u => ?_) (fun u => ?_)
  ·
   try simp only [sps] at u
   refine .seq (fun K7 a4 => .region (.mv rfl (.nil (a4 _ _ ?_))))
   refine .ret ?_
   refine f _ _ ?_
   refine ⟨_, rfl, ?_⟩
   first
   | exact ⟨rfl, e⟩
   | exact absurd trivial (by assumption)
   | contradiction
   | (exfalso; omega)
   | (exfalso; simp_all)
  try simp only [sps] at u
  refine .skip ?_
  refine a7 _ _ (.seq (fun K8 a9 => .seq (fun K9 a2 => .region (.q rfl (.fieldAddr fo_107_2_VSFun rfl) ?_))))
  refine .q rfl (.load on_25_B rfl (by first | assumption | exact Mem.of_get j 6 _ rfl)) ?_
  refine .q rfl (.fieldAddr fo_107_2_VSFun rfl) ?_
  refine .q rfl (.load on_25_B rfl (by first | assumption | exact Mem.of_get l 6 _ rfl)) ?_
  refine .callQ rfl rfl rfl rfl @Try.call27 rfl (eqInt64SS_c) ?_
  refine .q rfl (.not rfl) (.nil (a2 _ _ ?_))
  refine .cond rfl (fun o => ?_) (fun o => ?_)
  ·
   try simp only [sps] at o
   refine .seq (fun K10 t => .region (.mv rfl (.nil (t _ _ ?_))))
   refine .ret ?_
   refine f _ _ ?_
   refine ⟨_, rfl, ?_⟩
   first
   | exact ⟨rfl, e⟩
   | exact absurd trivial (by assumption)
   | contradiction
   | (exfalso; omega)
   | (exfalso; simp_all)
  try simp only [sps] at o
  refine .skip ?_
  refine a9 _ _ (.seq (fun K11 m => .region (.mv rfl (.nil (m _ _ ?_)))))
  refine .ret ?_
  refine f _ _ ?_
  refine ⟨_, rfl, ?_⟩
  first
  | exact ⟨rfl, e⟩
  | exact absurd trivial (by assumption)
  | contradiction
  | (exfalso; omega)
  | (exfalso; simp_all)
end Go.Proofs.Ytiooclghkafokaa
namespace Go.GL
structure Net where
  cand : Nat → List Int
  A : Nat
  sr : Nat → Nat
  tg : Nat → Nat
  sq : Nat → Int → Int → Bool
namespace Net
def ok (n : Net) (j : Nat) (q : List Int) : Bool := allN n.A fun a => !(max (n.sr a) (n.tg a) == j) || n.sq a (q.getD (n.sr a) 0) (q.getD (n.tg a) 0)
def fits (n : Net) (q : List Int) (x : Nat) : Bool := allN n.A fun a => (n.sr a != x && n.tg a != x) || decide (q.getD (n.sr a) 0 < 0) || decide (q.getD (n.tg a) 0 < 0) || n.sq a (q.getD (n.sr a) 0) (q.getD (n.tg a) 0)
def choices (n : Net) (c : List Int) (x : Nat) : List Int := (n.cand x).filter fun h => n.fits (c.set x h) x
end Net
def firstU (c : List Int) : Option Nat := firstN c.length fun i => c.getD i 0 == -1
def cntU (c : List Int) : Nat := ((List.range c.length).filter fun i => c.getD i 0 == -1).length
def Net.stuck (n : Net) (c : List Int) : Bool := (List.range c.length).any fun y => c.getD y 0 == -1 && (n.choices c y).isEmpty
def Net.goF (n : Net) : Nat → List Int → List (List Int)
  | 0, c => [c]
  | f + 1, c => match firstU c with
    | none => [c]
    | some x => bif n.stuck c then [] else (n.choices c x).flatMap fun h => n.goF f (c.set x h)
def Net.go (n : Net) (c : List Int) : List (List Int) := n.goF (cntU c) c
theorem flatMap_congr' {α β : Type} {l : List α} {f g : α → List β} (h : ∀ x ∈ l, f x = g x) : l.flatMap f = l.flatMap g := by
  induction l with
  | nil => rfl
  | cons a l ih => rw [List.flatMap_cons, List.flatMap_cons, h a (by simp), ih fun x hx => h x (by simp [hx])]
structure Net.Good (n : Net) (N : Nat) : Prop where
  pos : ∀ x, ∀ h ∈ n.cand x, 0 ≤ h
  sr : ∀ a, a < n.A → n.sr a < N
  tg : ∀ a, a < n.A → n.tg a < N
end Go.GL
namespace Go.GL
open Go.RowKit Go.WideShapes Go.ChangeShapes Go.Deep
def flatV (f : Nat → List Value) (n : Nat) : List Value := (List.range n).flatMap f
theorem flatV_succ (f : Nat → List Value) (n : Nat) : flatV f (n + 1) = flatV f n ++ f n := by unfold flatV; rw [List.range_succ, List.flatMap_append]; simp
theorem length_flatV {f : Nat → List Value} {w : Nat} : ∀ {n : Nat}, (∀ i, i < n → (f i).length = w) → (flatV f n).length = n * w
  | 0, _ => by simp [flatV]
  | n + 1, h => by rw [flatV_succ, List.length_append, length_flatV fun i hi => h i (by omega), h n (by omega), Nat.add_mul]; omega
theorem flatV_get {f : Nat → List Value} {w : Nat} : ∀ {n i j : Nat}, (∀ i, i < n → (f i).length = w) → i < n → j < w → (flatV f n)[i * w + j]? = (f i)[j]?
  | n + 1, i, j, hf, hi, hj => by
    have hl := length_flatV (f := f) (w := w) (n := n) fun i hi => hf i (by omega)
    rw [flatV_succ]
    by_cases e : i < n
    · have hb : i * w + j < n * w := by
        have := Nat.mul_le_mul_right w (show i + 1 ≤ n from e)
        rw [Nat.add_mul] at this
        omega
      rw [List.getElem?_append_left (by rw [hl]; exact hb)]
      exact flatV_get (fun i hi => hf i (by omega)) e hj
    · obtain rfl : i = n := by omega
      rw [List.getElem?_append_right (by rw [hl]; omega), hl]
      congr 1
      omega
def SlT (H : GHeap) (a : Option Addr) (n w : Nat) (f : Nat → List Value) : Prop := n = 0 ∨ ∃ g o, a = some ⟨g, o, none⟩ ∧ ∀ i, i < n → Mem H g (o + i * w) (f i)
theorem SlT.mono {H H' : GHeap} {a : Option Addr} {n w : Nat} {f : Nat → List Value} (h : SlT H a n w f) (s : H.Le H') : SlT H' a n w f := h.imp id fun ⟨g, o, h1, h2⟩ => ⟨g, o, h1, fun i hi => (h2 i hi).mono s⟩
theorem SlT.sl {H : GHeap} {a : Option Addr} {n w : Nat} {f : Nat → List Value} (h : SlT H a n w f) (hw : 0 < w) (hf : ∀ i, i < n → (f i).length = w) : SlA H a (n * w) (fun k => (f (k / w)).getD (k % w) (.bool false)) := by
  rcases h with h | ⟨g, o, h1, h2⟩
  · left; rw [h, Nat.zero_mul]
  · refine .inr ⟨g, o, h1, fun k hk => ?_⟩
    have hkw : k / w < n := (Nat.div_lt_iff_lt_mul hw).2 hk
    have hm := Nat.mod_lt k hw
    have hl := hf (k / w) hkw
    have hg : (f (k / w))[k % w]? = some ((f (k / w)).getD (k % w) (.bool false)) := by rw [List.getD_eq_getElem?_getD, List.getElem?_eq_getElem (by omega)]; rfl
    have := h2 (k / w) hkw (k % w) _ hg
    rw [← this, Nat.add_assoc]
    congr 2
    have := Nat.div_add_mod k w
    rw [Nat.mul_comm] at this
    omega
theorem SlT.at' {H : GHeap} {g o n w i : Nat} {f : Nat → List Value} (h : SlT H (some ⟨g, o, none⟩) n w f) (hi : i < n) : Mem H g (o + i * w) (f i) := by
  rcases h with h | ⟨g', o', h1, h2⟩
  · omega
  · cases h1; exact h2 i hi
section
variable {P : Program} {B : Nat} {w0 : World} {ρ : Place} {H : GHeap} {w : World}
theorem Sim.structs (hs : Sim P B w0 ρ H w) (hB : w.heap.size ≤ B) {a : Addr} {len cap z base : Nat} (hz : 0 < z) {V : Nat → List Value} (hl : len ≤ cap) (hm : cap ≤ maxLen) (hcell : ∀ i, i < cap → w.cells? base (a.add (i * z)) z = some (V i)) {f : Nat → List Value}
    (hf : ∀ i, i < len → LRel ρ (f i) (V i)) :
    ∃ a' ρ' H', Sim P B w0 ρ' H' w ∧ Ext ρ ρ' ∧ H.Le H' ∧ VRel ρ' (.slice a' len len) (.slice (some a) len cap) ∧ SlT H' a' len z f := by
  rcases Nat.eq_zero_or_pos cap with e | hp
  · subst e
    obtain rfl : len = 0 := by omega
    obtain ⟨h1, h2⟩ := hs.gap ⟨0, 0, 0, 0⟩
    exact ⟨some ⟨H.next, 0, none⟩, _, _, h1, h2, H.le_gap, .empty place_self, .inl rfl⟩
  · have hcl : ∀ i, i < cap → ∀ j, j < z → ∃ v, (V i)[j]? = some v ∧ w.cell? ((a.add (i * z)).add j) = some v := fun i hi j hj => by
      obtain ⟨_, k1, k2⟩ := World.cells?_some (hcell i hi)
      have hv : (V i)[j]? = some ((V i)[j]'(by omega)) := List.getElem?_eq_getElem _
      exact ⟨_, hv, by rw [k2 j hj, hv]⟩
    obtain ⟨v0, _, h0⟩ := hcl 0 hp 0 hz
    have hsp := World.cell?_spot h0
    obtain ⟨b, off, sp⟩ := a
    have hadd : ∀ i, (Addr.mk b off none).add i = ⟨b, off + i, none⟩ := fun i => by
      unfold Addr.add
      split
      · rename_i h; subst h; rfl
      · rfl
    have hadd2 : ∀ o i, (Addr.mk b o none).add i = ⟨b, o + i, none⟩ := fun o i => by
      unfold Addr.add
      split
      · rename_i h; subst h; rfl
      · rfl
    obtain rfl : sp = none := by simpa [Addr.add] using hsp
    rw [hadd, hadd2] at h0
    have hblk : ∃ C e fz, w.heap[b]? = some (.cells C e fz) := by
      unfold World.cell? at h0
      split at h0
      · exact ⟨_, _, _, by assumption⟩
      · cases h0
    obtain ⟨C, e, fz, hC⟩ := hblk
    have hc : ∀ i, i < cap → ∀ j, j < z → ∃ v, (V i)[j]? = some v ∧ C[off + i * z + j]? = some v := fun i hi j hj => by
      obtain ⟨v, k1, k2⟩ := hcl i hi j hj
      rw [hadd, hadd2] at k2
      exact ⟨v, k1, by simpa [World.cell?, hC] using k2⟩
    have hsz : off + cap * z ≤ C.size := by
      obtain ⟨v, _, k⟩ := hc (cap - 1) (by omega) (z - 1) (by omega)
      have := (Array.getElem?_eq_some_iff.1 k).1
      have e2 : cap * z = (cap - 1) * z + z := by
        obtain ⟨c, rfl⟩ : ∃ c, cap = c + 1 := ⟨cap - 1, by omega⟩
        rw [Nat.add_sub_cancel, Nat.add_mul, Nat.one_mul]
      omega
    have hbl : b < B := by
      have : b < w.heap.size := (Array.getElem?_eq_some_iff.1 hC).1
      omega
    have hfl : ∀ i, i < len → (f i).length = z := fun i hi => by
      rw [(hf i hi).1]
      exact (World.cells?_some (hcell i (by omega))).2.1
    have hlen := length_flatV hfl
    have hle : len * z ≤ cap * z := Nat.mul_le_mul_right z hl
    obtain ⟨h1, h2⟩ := hs.look hbl hC (off := off) (k := z) (vs := flatV f len) (by rw [hlen]; omega) (fun k v hv => by
      have hk : k < len * z := by rw [← hlen]; exact (List.getElem?_eq_some_iff.1 hv).1
      have hkz : k / z < len := (Nat.div_lt_iff_lt_mul hz).2 hk
      have hmz := Nat.mod_lt k hz
      have hdm : k / z * z + k % z = k := by rw [Nat.mul_comm]; exact Nat.div_add_mod k z
      have hg := flatV_get hfl hkz hmz
      rw [hdm, hv] at hg
      obtain ⟨c, c1, c2⟩ := (hf _ hkz).get hg.symm
      obtain ⟨v', k1, k2⟩ := hc (k / z) (by omega) (k % z) hmz
      rw [c1] at k1
      cases k1
      refine ⟨c, ?_, c2⟩
      rw [Nat.add_assoc, hdm] at k2
      exact k2)
    refine ⟨some ⟨H.next, 0, none⟩, _, _, h1, h2, GHeap.le_push _ _, ?_, .inr ⟨H.next, 0, rfl, fun i hi j v hv => ?_⟩⟩
    · have := VRel.slice (ρ := place ρ H.next ⟨b, off, C.size, z⟩) (g := H.next) (o := 0) (n := len) (cap := cap) place_self hl (by simp only; omega) hm
      simpa using this
    · rw [GHeap.cell_of (GHeap.get_push_new _ _), Nat.zero_add]
      have hj : j < z := by rw [← hfl i hi]; exact (List.getElem?_eq_some_iff.1 hv).1
      rw [flatV_get hfl hi hj]
      exact hv
end
def RStructs {α π : Type} (z : α) (n : Nat) (cells : α → π → List Value) (In : GHeap → α → π → Prop) (Wide : α → Prop) (ρ : Place) (H : GHeap) (cs : List Value) : Prop :=
  ∃ (a : Option Addr) (xs : List α) (pp : Nat → π) (c : Value), cs = [c] ∧ VRel ρ (.slice a xs.length xs.length) c ∧ SlT H a xs.length n (fun i => cells (xs.getD i z) (pp i)) ∧ (∀ i, i < xs.length → In H (xs.getD i z) (pp i)) ∧ xs.length ≤ 9223372036854775807 ∧ ∀ i, i < xs.length → Wide (xs.getD i z)
theorem import_structs {α π : Type} {P : Program} {t e : TypeId} {n : Nat} (z : α) (q : π) {cells : α → π → List Value} {In : GHeap → α → π → Prop} {Wide : α → Prop} (hn : 0 < n) (mono : ∀ {H H' : GHeap} {c : α} {p : π}, In H c p → H.Le H' → In H' c p) (hu : P.underlying t = some (.slice e)) (hc : P.cellsOf e = n)
    (hI : Imports P e (fun ρ H cs => ∃ c p, LRel ρ (cells c p) cs ∧ In H c p ∧ Wide c)) : Imports P t (RStructs z n cells In Wide) := by
  intro T enc B w0 ρ H w held fuel cs x hs hB h
  rcases open_slice hu h with ⟨rfl, _⟩ | ⟨a, len, cap, m, fu, D, Pl, rfl, _, hl, hm, hmm, _, hx⟩
  · exact ⟨ρ, H, hs, .refl ρ, .refl H, none, [], fun _ => q, _, rfl, .nilSlice, .inl rfl, fun i hi => by simp at hi, by simp, fun i hi => by simp at hi⟩
  · simp only [if_true] at hmm
    subst hmm
    subst hc
    obtain ⟨V, hV⟩ := choose_lt (α := List Value) hx
    have rows : ∀ k, k ≤ len → ∃ ρ' H', Sim P B w0 ρ' H' w ∧ Ext ρ ρ' ∧ H.Le H' ∧ ∃ (X : Nat → α) (pp : Nat → π), ∀ i, i < k → LRel ρ' (cells (X i) (pp i)) (V i) ∧ In H' (X i) (pp i) ∧ Wide (X i) := by
      intro k
      induction k with
      | zero => exact fun _ => ⟨ρ, H, hs, .refl ρ, .refl H, fun _ => z, fun _ => q, fun i hi => by omega⟩
      | succ k ih =>
        intro hk
        obtain ⟨ρ1, H1, s1, e1, l1, X, pp, hr⟩ := ih (by omega)
        obtain ⟨ρ2, H2, s2, e2, l2, c, p, k1, k2, k3⟩ := hI s1 hB (hV k (by omega)).2
        refine ⟨ρ2, H2, s2, e1.trans e2, l1.trans l2, fun i => if i = k then c else X i, fun i => if i = k then p else pp i, fun i hi => ?_⟩
        by_cases ek : i = k
        · subst ek; simp only [if_true]; exact ⟨k1, k2, k3⟩
        · simp only [ek, if_false]
          obtain ⟨v1, i1, w1⟩ := hr i (by omega)
          exact ⟨v1.mono e2, mono i1 l2, w1⟩
    obtain ⟨ρ1, H1, s1, e1, l1, X, pp, hr⟩ := rows len (Nat.le_refl _)
    obtain ⟨a', ρ2, H2, k1, k2, k3, k4, k5⟩ := s1.structs hB hn (f := fun i => cells (X i) (pp i)) hl hm (fun i hi => (hV i hi).1) (fun i hi => (hr i hi).1)
    have hlen : ((List.range len).map X).length = len := by simp
    have hg : ∀ i, i < len → ((List.range len).map X).getD i z = X i := fun i hi => by simp [List.getD_eq_getElem?_getD, hi]
    refine ⟨ρ2, H2, k1, e1.trans k2, l1.trans k3, a', (List.range len).map X, pp, _, rfl, by rw [hlen]; exact k4, ?_, fun i hi => ?_, by rw [hlen]; unfold maxLen at hm; omega, fun i hi => ?_⟩
    · rw [hlen]
      refine k5.imp id fun ⟨g, o, h1, h2⟩ => ⟨g, o, h1, fun i hi => ?_⟩
      show Mem H2 g _ (cells (((List.range len).map X).getD i z) (pp i))
      rw [hg i hi]
      exact h2 i hi
    · rw [hlen] at hi
      rw [hg i hi]
      exact mono (hr i hi).2.1 k3
    · rw [hlen] at hi
      rw [hg i hi]
      exact (hr i hi).2.2
def mixV (f : Nat → List Value) (z : List Value) (n k : Nat) : List Value := flatV (fun i => if i < k then f i else z) n
theorem length_mixV {f : Nat → List Value} {z : List Value} {n k w : Nat} (hf : ∀ i, i < k → (f i).length = w) (hz : z.length = w) : (mixV f z n k).length = n * w := length_flatV fun i _ => by
  by_cases e : i < k
  · rw [if_pos e]; exact hf i e
  · rw [if_neg e]; exact hz
theorem mixV_get {f : Nat → List Value} {z : List Value} {n k w i j : Nat} (hf : ∀ i, i < k → (f i).length = w) (hz : z.length = w) (hi : i < n) (hj : j < w) : (mixV f z n k)[i * w + j]? = (if i < k then f i else z)[j]? := flatV_get (fun i _ => by
  by_cases e : i < k
  · rw [if_pos e]; exact hf i e
  · rw [if_neg e]; exact hz) hi hj
theorem mixV_all {f : Nat → List Value} {z : List Value} {n : Nat} : mixV f z n n = flatV f n := flatMap_congr' fun i hi => if_pos (List.mem_range.1 hi)
theorem mixV_zero {f : Nat → List Value} {z : List Value} {n : Nat} : mixV f z n 0 = flatV (fun _ => z) n := flatMap_congr' fun i _ => if_neg (Nat.not_lt_zero i)
theorem mixV_next {f f' : Nat → List Value} {z : List Value} {n k w : Nat} (hw : 0 < w) (hf : ∀ i, i < k → (f i).length = w) (hf' : (f' k).length = w) (hz : z.length = w) (hk : k < n) (h : ∀ i, i < k → f' i = f i) : setAll (mixV f z n k) (k * w) (f' k) = mixV f' z n (k + 1) := by
  have hl := length_mixV (n := n) hf hz
  have hf2 : ∀ i, i < k + 1 → (f' i).length = w := fun i hi => by
    by_cases e : i < k
    · rw [h i e]; exact hf i e
    · obtain rfl : i = k := by omega
      exact hf'
  have hl2 := length_mixV (n := n) hf2 hz
  apply List.ext_getElem?
  intro q
  by_cases hq : q < n * w
  · have hqw : q / w < n := (Nat.div_lt_iff_lt_mul hw).2 hq
    have hmw := Nat.mod_lt q hw
    have hdm : q / w * w + q % w = q := by rw [Nat.mul_comm]; exact Nat.div_add_mod q w
    have g1 := mixV_get (n := n) hf hz hqw hmw
    have g2 := mixV_get (n := n) hf2 hz hqw hmw
    rw [hdm] at g1 g2
    rw [g2]
    have hkb : k * w + w ≤ n * w := by
      have := Nat.mul_le_mul_right w (show k + 1 ≤ n from hk)
      rwa [Nat.add_mul, Nat.one_mul] at this
    by_cases e : q / w = k
    · rw [e, if_pos (Nat.lt_succ_self k)]
      rw [e] at hdm
      rw [setAll_get _ _ _ _ (by omega), if_pos (by omega)]
      congr 1
      omega
    · have hout : q < k * w ∨ k * w + w ≤ q := by
        by_cases hlt : q / w < k
        · left
          have := Nat.mul_le_mul_right w (show q / w + 1 ≤ k from hlt)
          rw [Nat.add_mul, Nat.one_mul] at this
          omega
        · right
          have := Nat.mul_le_mul_right w (show k + 1 ≤ q / w by omega)
          rw [Nat.add_mul, Nat.one_mul] at this
          omega
      rw [setAll_get _ _ _ _ (by omega), if_neg (by omega), g1]
      by_cases e2 : q / w < k
      · rw [if_pos e2, if_pos (by omega), h _ e2]
      · rw [if_neg e2, if_neg (by omega)]
  · rw [List.getElem?_eq_none (by rw [length_setAll, hl]; omega), List.getElem?_eq_none (by rw [hl2]; omega)]
theorem madeL_flat {z : List Value} {n w : Nat} (hz : z.length = w) (hw : 0 < w) : madeL z (n * w) = flatV (fun _ => z) n := by
  have hl := length_flatV (f := fun _ => z) (n := n) fun _ _ => hz
  apply List.ext_getElem?
  intro q
  by_cases hq : q < n * w
  · have hqw : q / w < n := (Nat.div_lt_iff_lt_mul hw).2 hq
    have hmw := Nat.mod_lt q hw
    have hdm : q / w * w + q % w = q := by rw [Nat.mul_comm]; exact Nat.div_add_mod q w
    have g1 := flatV_get (f := fun _ => z) (fun _ _ => hz) hqw hmw
    rw [hdm] at g1
    rw [g1]
    unfold madeL
    rw [List.getElem?_map, List.getElem?_range hq, hz]
    show some (z[q % w]?.getD undef) = _
    rw [List.getElem?_eq_getElem (by omega)]
    rfl
  · rw [List.getElem?_eq_none (by rw [length_madeL]; omega), List.getElem?_eq_none (by rw [hl]; omega)]
def updP {π : Type} (pp : Nat → π) (k : Nat) (p : π) : Nat → π := fun i => if i = k then p else pp i
theorem updP_eq {π : Type} (pp : Nat → π) (k : Nat) (p : π) : updP pp k p k = p := if_pos rfl
theorem updP_ne {π : Type} {pp : Nat → π} {k i : Nat} {p : π} (h : i ≠ k) : updP pp k p i = pp i := if_neg h
theorem SlT.of_row {H : GHeap} {g n w : Nat} {f : Nat → List Value} {e : TypeId} {own : Bool} (h : H.get g = some (.row (flatV f n) e own)) (hf : ∀ i, i < n → (f i).length = w) : SlT H (some ⟨g, 0, none⟩) n w f := .inr ⟨g, 0, rfl, fun i hi j v hv => by
  have hj : j < w := by rw [← hf i hi]; exact (List.getElem?_eq_some_iff.1 hv).1
  rw [GHeap.cell_of h, Nat.zero_add, flatV_get hf hi hj]
  exact hv⟩
end Go.GL
namespace Go.GL
open Go.RowKit
structure Rel where
  so : List Int
  me : List (List Int)
structure RelP where
  a0 : Option Addr
  a1 : Option Addr
  r1 : Nat → Option Addr
def Rel.cells (c : Rel) (p : RelP) : List Value := [.slice p.a0 c.so.length c.so.length] ++ ([.slice p.a1 c.me.length c.me.length])
def Rel.In (H : GHeap) (c : Rel) (p : RelP) : Prop := Ints H p.a0 c.so ∧ Intss H p.a1 c.me p.r1
theorem Rel.In.mono {H H' : GHeap} {c : Rel} {p : RelP} (h : c.In H p) (hle : H.Le H') : c.In H' p := ⟨Ints.mono (h.1) hle, Intss.mono (h.2) hle⟩
def Rel.At (H : GHeap) (g o : Nat) (c : Rel) (p : RelP) : Prop := Mem H g o (c.cells p) ∧ c.In H p
theorem Rel.At.mono {H H' : GHeap} {g o : Nat} {c : Rel} {p : RelP} (h : Rel.At H g o c p) (hle : H.Le H') : Rel.At H' g o c p := ⟨h.1.mono hle, Rel.In.mono h.2 hle⟩
theorem Rel.At.get {H : GHeap} {g o : Nat} {c : Rel} {p : RelP} (h : Rel.At H g o c p) : H.cell g (o + 0) = some (.slice p.a0 c.so.length c.so.length) ∧ H.cell g (o + 1) = some (.slice p.a1 c.me.length c.me.length) ∧ Ints H p.a0 c.so ∧ Intss H p.a1 c.me p.r1 :=
  ⟨h.1.left 0 _ rfl, (h.1.right (n := 1) rfl) 0 _ rfl, h.2.1, h.2.2⟩
def Rel.Small (c : Rel) : Prop := c.so.length ≤ 1048576 ∧ (c.me.length ≤ 1048576 ∧ ∀ i, (c.me.getD i []).length ≤ 1048576)
def Rel.Wide (c : Rel) : Prop := I64s c.so ∧ (c.me.length ≤ 9223372036854775807 ∧ ∀ i, I64s (c.me.getD i []))
def RelAt (b : Nat) (H : GHeap) (c : Rel) (p : RelP) : Prop := IntsAt b H p.a0 c.so ∧ IntssAt b H p.a1 c.me p.r1
theorem RelAt.keep {b b' : Nat} {H H' : GHeap} {c : Rel} {p : RelP} (h : RelAt b H c p) (hk : Keep b' H H') (hb : b' ≤ b) : RelAt b' H' c p := ⟨IntsAt.keep (h.1) hk hb, IntssAt.keep (h.2) hk hb⟩
theorem RelAt.inn {b : Nat} {H : GHeap} {c : Rel} {p : RelP} (h : RelAt b H c p) : c.In H p := ⟨IntsAt.ints (h.1), IntssAt.intss (h.2)⟩
def NewRel (H : GHeap) (c : Rel) (v : Value) (H' : GHeap) : Prop := H.Le H' ∧ ∃ p, v = .agg (c.cells p).toArray ∧ RelAt H.next H' c p
def relT (P : Program) (t : TypeId) : Bool := structIs P t 2 2 fun fs => fieldIs P fs 0 0 1 intsT && fieldIs P fs 1 1 1 intssT
def RRel (ρ : Place) (H : GHeap) (cs : List Value) : Prop := ∃ (c : Rel) (p : RelP), LRel ρ (c.cells p) cs ∧ c.In H p ∧ c.Wide
theorem import_rel {P : Program} {t : TypeId} (ht : relT P t = true) : Imports P t RRel := by
  intro T enc B w0 ρ H w held fuel cs x hs hB h
  obtain ⟨fs, g1, g2, g3, g4⟩ := structIs_run ht
  simp only [Bool.and_eq_true] at g4
  obtain ⟨q0, q1⟩ := g4
  obtain ⟨xs, n, _, _, hl, hx, hf⟩ := DataW.trod_struct g1 h
  obtain ⟨ρ0, H0, s0, e0, l0, a0, x0, c0, z0, v0, i0, w0⟩ := import_field (fun _ h => import_ints h) q0 hx hf hs hB
  obtain ⟨ρ1, H1, s1, e1, l1, a1, x1, r1, c1, z1, v1, i1, w1⟩ := import_field (fun _ h => import_intss h) q1 hx hf s0 hB
  refine ⟨ρ1, H1, s1, e0.trans (e1), l0.trans (l1), ⟨x0, x1⟩, ⟨a0, a1, r1⟩, ?_, ⟨i0.mono (l1), i1⟩, ⟨w0, w1⟩⟩
  have hlen : cs.length = 2 := by rw [hl, g2]
  have e : cs = (cs.drop 0).take 1 ++ ((cs.drop 1).take 1) := by
    match cs, hlen with
    | [_, _], _ => rfl
  rw [e, z0, z1]
  exact (LRel.append (.cons (v0.mono (e1)) (.nil _)) (.cons (v1) (.nil _)))
end Go.GL
namespace Go.GL
def SFun.z : SFun := ⟨⟨0, [], [], [], []⟩, [], []⟩
abbrev SFunsC (xs : List SFun) (pp : Nat → SFunP) (i : Nat) : List Value := (xs.getD i SFun.z).cells (pp i)
def SFunsIn (H : GHeap) (a : Option Addr) (xs : List SFun) (pp : Nat → SFunP) : Prop := SlT H a xs.length 7 (SFunsC xs pp) ∧ ∀ i, i < xs.length → (xs.getD i SFun.z).In H (pp i)
theorem SFunsIn.mono {H H' : GHeap} {a : Option Addr} {xs : List SFun} {pp : Nat → SFunP} (h : SFunsIn H a xs pp) (s : H.Le H') : SFunsIn H' a xs pp := ⟨h.1.mono s, fun i hi => SFun.In.mono (h.2 i hi) s⟩
theorem SFunsIn.sl {H : GHeap} {a : Option Addr} {xs : List SFun} {pp : Nat → SFunP} (h : SFunsIn H a xs pp) : SlA H a (xs.length * 7) (fun k => (SFunsC xs pp (k / 7)).getD (k % 7) (.bool false)) := h.1.sl (by decide) fun _ _ => rfl
def SFunsSmall (xs : List SFun) : Prop := xs.length ≤ 1048576 ∧ ∀ i, i < xs.length → (xs.getD i SFun.z).Small
def SFunsWide (xs : List SFun) : Prop := xs.length ≤ 9223372036854775807 ∧ ∀ i, i < xs.length → (xs.getD i SFun.z).Wide
def SFunsAt (b : Nat) (H : GHeap) (a : Option Addr) (xs : List SFun) (pp : Nat → SFunP) : Prop := ∃ g e, a = some ⟨g, 0, none⟩ ∧ b ≤ g ∧ H.get g = some (.row (flatV (SFunsC xs pp) xs.length) e true) ∧ ∀ i, i < xs.length → SFunAt b H (xs.getD i SFun.z) (pp i)
theorem SFunsAt.keep {b b' : Nat} {H H' : GHeap} {a : Option Addr} {xs : List SFun} {pp : Nat → SFunP} (h : SFunsAt b H a xs pp) (k : Keep b' H H') (hb : b' ≤ b) : SFunsAt b' H' a xs pp :=
  let ⟨g, e, h1, h2, h3, h4⟩ := h; ⟨g, e, h1, by omega, k g _ (by omega) h3, fun i hi => (h4 i hi).keep k hb⟩
theorem SFunsAt.inn {b : Nat} {H : GHeap} {a : Option Addr} {xs : List SFun} {pp : Nat → SFunP} (h : SFunsAt b H a xs pp) : SFunsIn H a xs pp := by
  obtain ⟨g, e, rfl, _, h3, h4⟩ := h
  exact ⟨.of_row h3 fun _ _ => rfl, fun i hi => (h4 i hi).inn⟩
def NewSFuns (H : GHeap) (xs : List SFun) (v : Value) (H' : GHeap) : Prop := H.Le H' ∧ ∃ a pp, v = .slice a xs.length xs.length ∧ SFunsAt H.next H' a xs pp
def Rel.z : Rel := ⟨[], []⟩
abbrev RelsC (xs : List Rel) (pp : Nat → RelP) (i : Nat) : List Value := (xs.getD i Rel.z).cells (pp i)
def RelsIn (H : GHeap) (a : Option Addr) (xs : List Rel) (pp : Nat → RelP) : Prop := SlT H a xs.length 2 (RelsC xs pp) ∧ ∀ i, i < xs.length → (xs.getD i Rel.z).In H (pp i)
theorem RelsIn.mono {H H' : GHeap} {a : Option Addr} {xs : List Rel} {pp : Nat → RelP} (h : RelsIn H a xs pp) (s : H.Le H') : RelsIn H' a xs pp := ⟨h.1.mono s, fun i hi => Rel.In.mono (h.2 i hi) s⟩
theorem RelsIn.sl {H : GHeap} {a : Option Addr} {xs : List Rel} {pp : Nat → RelP} (h : RelsIn H a xs pp) : SlA H a (xs.length * 2) (fun k => (RelsC xs pp (k / 2)).getD (k % 2) (.bool false)) := h.1.sl (by decide) fun _ _ => rfl
def RelsSmall (xs : List Rel) : Prop := xs.length ≤ 1048576 ∧ ∀ i, i < xs.length → (xs.getD i Rel.z).Small
def RelsWide (xs : List Rel) : Prop := xs.length ≤ 9223372036854775807 ∧ ∀ i, i < xs.length → (xs.getD i Rel.z).Wide
def RelsAt (b : Nat) (H : GHeap) (a : Option Addr) (xs : List Rel) (pp : Nat → RelP) : Prop := ∃ g e, a = some ⟨g, 0, none⟩ ∧ b ≤ g ∧ H.get g = some (.row (flatV (RelsC xs pp) xs.length) e true) ∧ ∀ i, i < xs.length → RelAt b H (xs.getD i Rel.z) (pp i)
theorem RelsAt.keep {b b' : Nat} {H H' : GHeap} {a : Option Addr} {xs : List Rel} {pp : Nat → RelP} (h : RelsAt b H a xs pp) (k : Keep b' H H') (hb : b' ≤ b) : RelsAt b' H' a xs pp :=
  let ⟨g, e, h1, h2, h3, h4⟩ := h; ⟨g, e, h1, by omega, k g _ (by omega) h3, fun i hi => (h4 i hi).keep k hb⟩
theorem RelsAt.inn {b : Nat} {H : GHeap} {a : Option Addr} {xs : List Rel} {pp : Nat → RelP} (h : RelsAt b H a xs pp) : RelsIn H a xs pp := by
  obtain ⟨g, e, rfl, _, h3, h4⟩ := h
  exact ⟨.of_row h3 fun _ _ => rfl, fun i hi => (h4 i hi).inn⟩
def NewRels (H : GHeap) (xs : List Rel) (v : Value) (H' : GHeap) : Prop := H.Le H' ∧ ∃ a pp, v = .slice a xs.length xs.length ∧ RelsAt H.next H' a xs pp
def sfunsT (P : Program) (t : TypeId) : Bool := match P.underlying t with | some (.slice e) => sfunT P e && (P.cellsOf e == 7) | _ => false
def relsT (P : Program) (t : TypeId) : Bool := match P.underlying t with | some (.slice e) => relT P e && (P.cellsOf e == 2) | _ => false
theorem import_sfuns {P : Program} {t : TypeId} (ht : sfunsT P t = true) : Imports P t (RStructs SFun.z 7 SFun.cells SFun.In SFun.Wide) := by
  unfold sfunsT at ht
  split at ht
  · rename_i e hu
    simp only [Bool.and_eq_true, beq_iff_eq] at ht
    exact import_structs (π := SFunP) (cells := SFun.cells) (In := SFun.In) (Wide := SFun.Wide) SFun.z ⟨⟨none, none, none, none, fun _ => none⟩, none, none, fun _ => none⟩ (by decide) SFun.In.mono hu ht.2 (import_sfun ht.1)
  · cases ht
theorem import_rels {P : Program} {t : TypeId} (ht : relsT P t = true) : Imports P t (RStructs Rel.z 2 Rel.cells Rel.In Rel.Wide) := by
  unfold relsT at ht
  split at ht
  · rename_i e hu
    simp only [Bool.and_eq_true, beq_iff_eq] at ht
    exact import_structs (π := RelP) (cells := Rel.cells) (In := Rel.In) (Wide := Rel.Wide) Rel.z ⟨none, none, fun _ => none⟩ (by decide) Rel.In.mono hu ht.2 (import_rel ht.1)
  · cases ht
structure Str where
  sf : List SFun
  rl : List Rel
structure StrP where
  a0 : Option Addr
  p0 : Nat → SFunP
  a1 : Option Addr
  p1 : Nat → RelP
def Str.cells (c : Str) (p : StrP) : List Value := [.slice p.a0 c.sf.length c.sf.length] ++ [.slice p.a1 c.rl.length c.rl.length]
def Str.In (H : GHeap) (c : Str) (p : StrP) : Prop := SFunsIn H p.a0 c.sf p.p0 ∧ RelsIn H p.a1 c.rl p.p1
theorem Str.In.mono {H H' : GHeap} {c : Str} {p : StrP} (h : c.In H p) (s : H.Le H') : c.In H' p := ⟨h.1.mono s, h.2.mono s⟩
def Str.At (H : GHeap) (g o : Nat) (c : Str) (p : StrP) : Prop := Mem H g o (c.cells p) ∧ c.In H p
theorem Str.At.mono {H H' : GHeap} {g o : Nat} {c : Str} {p : StrP} (h : Str.At H g o c p) (s : H.Le H') : Str.At H' g o c p := ⟨h.1.mono s, Str.In.mono h.2 s⟩
theorem Str.At.get {H : GHeap} {g o : Nat} {c : Str} {p : StrP} (h : Str.At H g o c p) : H.cell g (o + 0) = some (.slice p.a0 c.sf.length c.sf.length) ∧ H.cell g (o + 1) = some (.slice p.a1 c.rl.length c.rl.length) ∧ SFunsIn H p.a0 c.sf p.p0 ∧ RelsIn H p.a1 c.rl p.p1 := ⟨h.1 0 _ rfl, h.1 1 _ rfl, h.2.1, h.2.2⟩
def Str.Small (c : Str) : Prop := SFunsSmall c.sf ∧ RelsSmall c.rl
def Str.Wide (c : Str) : Prop := SFunsWide c.sf ∧ RelsWide c.rl
def StrAt (b : Nat) (H : GHeap) (c : Str) (p : StrP) : Prop := SFunsAt b H p.a0 c.sf p.p0 ∧ RelsAt b H p.a1 c.rl p.p1
theorem StrAt.keep {b b' : Nat} {H H' : GHeap} {c : Str} {p : StrP} (h : StrAt b H c p) (k : Keep b' H H') (hb : b' ≤ b) : StrAt b' H' c p := ⟨h.1.keep k hb, h.2.keep k hb⟩
theorem StrAt.inn {b : Nat} {H : GHeap} {c : Str} {p : StrP} (h : StrAt b H c p) : c.In H p := ⟨h.1.inn, h.2.inn⟩
def NewStr (H : GHeap) (c : Str) (v : Value) (H' : GHeap) : Prop := H.Le H' ∧ ∃ p, v = .agg (c.cells p).toArray ∧ StrAt H.next H' c p
def strT (P : Program) (t : TypeId) : Bool := structIs P t 2 2 fun fs => fieldIs P fs 0 0 1 sfunsT && fieldIs P fs 1 1 1 relsT
def RStr (ρ : Place) (H : GHeap) (cs : List Value) : Prop := ∃ (c : Str) (p : StrP), LRel ρ (c.cells p) cs ∧ c.In H p ∧ c.Wide
theorem import_str {P : Program} {t : TypeId} (ht : strT P t = true) : Imports P t RStr := by
  intro T enc B w0 ρ H w held fuel cs x hs hB h
  obtain ⟨fs, g1, g2, g3, g4⟩ := structIs_run ht
  simp only [Bool.and_eq_true] at g4
  obtain ⟨q0, q1⟩ := g4
  obtain ⟨xs, n, _, _, hl, hx, hf⟩ := DataW.trod_struct g1 h
  obtain ⟨ρ0, H0, s0, e0, l0, a0, x0, p0, c0, z0, v0, t0, i0, n0, w0⟩ := import_field (fun _ h => import_sfuns h) q0 hx hf hs hB
  obtain ⟨ρ1, H1, s1, e1, l1, a1, x1, p1, c1, z1, v1, t1, i1, n1, w1⟩ := import_field (fun _ h => import_rels h) q1 hx hf s0 hB
  refine ⟨ρ1, H1, s1, e0.trans e1, l0.trans l1, ⟨x0, x1⟩, ⟨a0, p0, a1, p1⟩, ?_, ⟨SFunsIn.mono ⟨t0, i0⟩ l1, ⟨t1, i1⟩⟩, ⟨⟨n0, w0⟩, ⟨n1, w1⟩⟩⟩
  have hlen : cs.length = 2 := by rw [hl, g2]
  have e : cs = (cs.drop 0).take 1 ++ ((cs.drop 1).take 1) := by
    match cs, hlen with
    | [_, _], _ => rfl
  rw [e, z0, z1]
  exact (LRel.append (.cons (v0.mono e1) (.nil _)) (.cons v1 (.nil _)))
end Go.GL
namespace Go.Proofs.Ytiooclghkafokaa
open Go Go.GL Go.RowKit Go.Proofs
theorem sl_51_VSs : sliceT Try.prog 51 = some (162, 7) := by kernel_rfl
theorem ag_162_VSs : aggT Try.prog 162 = some 7 := by kernel_rfl
theorem sl_57_VSs : sliceT Try.prog 57 = some (107, 7) := by kernel_rfl
theorem by_107_VSs : (Try.prog.info? 107).map (·.bytes) = some 152 := by kernel_rfl
theorem szSetFunctorS_c {a : Option Addr} {xs : List SFun} {pp : Nat → SFunP} {left : Int} {H : GHeap} (h : SFunsIn H a xs pp := by assumption) (hw : SFunsWide xs := by assumption) (h0 : 0 ≤ left := by omega) (h1 : left ≤ 1048576 := by omega) :
    GCalls Try.prog 81 [.slice a xs.length xs.length, .int .i64 left] H (SzR left (SFunsSmall xs) H) := by
  refine SzR.of ?_
  obtain ⟨wl, ww⟩ := hw
  refine GCalls.body (N := 27) (rs := [.tmp 4]) Try.func81 rfl rfl rfl rfl (fun Qx b hend => ?_)
  refine .fg [0, 1] rfl ?_
  have c := GHeap.Le.refl H
  have base_h := h
  have hsl := h.sl
  refine .seq (fun K1 a4 => .region (.mv rfl (.nil (a4 _ _ (.seq (fun K2 a1 => .region (.mv rfl (.mv rfl (.q rfl (.len sl_51_VSs rfl) ?_)))))))))
  refine .q rfl (.sub rfl rfl rfl (by omega) (by omega)) ?_
  refine .mv rfl (.nil (a1 _ _ (.seq (fun K3 a6 => .seq (fun K4 a2 => .region (.mv rfl (.q rfl (.cmp rfl rfl rfl) (.nil (a2 _ _ ?_)))))))))
  refine .cond rfl (fun r => ?_) (fun r => ?_)
  ·
   try simp only [sps] at r
   refine .seq (fun K5 a3 => .region (.mv rfl (.nil (a3 _ _ ?_))))
   refine .ret ?_
   refine b _ _ ?_
   refine ⟨_, rfl, ?_⟩
   first
   | exact ⟨c, _, rfl, by omega, by omega, fun h => by omega⟩
   | exact ⟨c, _, rfl, by omega, by omega, fun _ => ⟨d, fun j hj => hS j (by omega)⟩⟩
  try simp only [sps] at r
  refine .skip ?_
  refine a6 _ _ (.seq (fun K6 y => .seq (fun K7 a0 => .region (.mv rfl (.nil (a0 _ _ ?_))))))
  refine .block ?_
  refine .loopR (σ := Nat × Int) [(0, some _)] (fun (i, l) => [(5, some (.int .i64 (i : Int))), (1, some (.int .i64 l))]) (fun (i, l) H' => H = H' ∧ i ≤ xs.length ∧ 0 ≤ l ∧ l ≤ left ∧ xs.length ≤ 1048576 ∧ ∀ j, j < i → (xs.getD j SFun.z).Small) (fun (i, l) => xs.length - i) ((0, _)) ⟨rfl, trivial⟩ ⟨rfl, rfl, trivial⟩ ?_ ?_
  ·
   refine ⟨rfl, ?_⟩
   exact ⟨by omega, by omega, by omega, by omega, fun j hj => by omega⟩
  rintro ⟨i, l⟩ _ ⟨rfl, hI⟩ KL1 p
  refine .forget (fr' := [(5, some (.int .i64 (i : Int))), (1, some (.int .i64 l)), (0, some _)]) ⟨rfl, rfl, rfl, trivial⟩ ?_
  obtain ⟨hi, hl0, hl1, d, hS⟩ := hI
  refine .seq (fun K8 a5 => .seq (fun K9 w => .region (.mv rfl (.mv rfl (.q rfl (.len sl_51_VSs rfl) (.q rfl (.cmp rfl rfl rfl) (.nil (w _ _ ?_))))))))
  refine .cond rfl (fun k => ?_) (fun k => ?_)
  ·
   simp only [sps] at k
   obtain ⟨g, o, rfl, hm⟩ := h.1.resolve_left (by omega)
   have hin := h.2 i (by omega)
   have hwi := ww i (by omega)
   have x : MemN H g (o + (i : Int).toNat * 7) 7 (SFunsC xs pp i) := ⟨rfl, hm i (by omega)⟩
   refine .skip ?_
   refine a5 _ _ (.seq (fun K10 u => ?_))
   refine .block ?_
   refine .seq (fun K11 s => .region (.mv rfl (.mv rfl ?_)))
   refine .q rfl (.idx sl_51_VSs hsl (by omega) rfl rfl (by omega) (by omega) rfl) ?_
   refine .q rfl (.loadM ag_162_VSs rfl x) (.mv rfl ?_)
   refine .call rfl rfl rfl rfl @Try.call142 rfl (szSetFunctor_c) ?_
   rintro _ _ ⟨heq, lf23, rfl, z123, z223, m⟩
   obtain rfl := heq.symm
   refine .mv rfl (.nil (s _ _ (.seq (fun K12 v => .region (.mv rfl (.q rfl (.cmp rfl rfl rfl) (.nil (v _ _ ?_))))))))
   refine .cond rfl (fun n => ?_) (fun n => ?_)
   ·
    try simp only [sps] at n
    refine .seq (fun K13 t => .region (.mv rfl (.nil (t _ _ ?_))))
    refine .ret ?_
    refine b _ _ ?_
    refine ⟨_, rfl, ?_⟩
    first
    | exact ⟨c, _, rfl, by omega, by omega, fun h => by omega⟩
    | exact ⟨c, _, rfl, by omega, by omega, fun _ => ⟨d, fun j hj => hS j (by omega)⟩⟩
   try simp only [sps] at n
   have hsm23 := m (by omega)
   refine .skip ?_
   refine u _ _ (.region (.mv rfl ?_))
   refine .q rfl (.add rfl rfl rfl (by omega) (by omega)) ?_
   refine .mv rfl (.nil ?_)
   refine p ((i + 1, _)) _ _ ?_ ?_ ⟨rfl, rfl, rfl, trivial⟩
   ·
    refine ⟨rfl, ?_⟩
    exact ⟨by omega, by omega, by omega, d, fun j hj => by
    by_cases e : j < i
    · exact hS j e
    · obtain rfl : j = i := by omega
      assumption⟩
   (dsimp only; omega)
  try simp only [sps] at k
  refine .exit ?_
  refine y _ _ (.seq (fun K14 f => .region (.mv rfl (.mv rfl (.nil (f _ _ ?_))))))
  refine .ret ?_
  refine b _ _ ?_
  refine ⟨_, rfl, ?_⟩
  first
  | exact ⟨c, _, rfl, by omega, by omega, fun h => by omega⟩
  | exact ⟨c, _, rfl, by omega, by omega, fun _ => ⟨d, fun j hj => hS j (by omega)⟩⟩
set_option maxHeartbeats 4000000 in
theorem toSetFunctorS_c {a : Option Addr} {xs : List SFun} {pp : Nat → SFunP} {H : GHeap} (h : SFunsIn H a xs pp := by assumption) (hs : SFunsSmall xs := by assumption) :
    GCalls Try.prog 87 [.slice a xs.length xs.length] H (NewSFuns H xs) := by
  obtain ⟨hl, hS⟩ := hs
  refine GCalls.body (N := 23) (rs := [.tmp 2]) Try.func87 rfl rfl rfl rfl (fun Qx y hend => ?_)
  refine .fg [0] rfl ?_
  have s := GHeap.Le.refl H
  have l := h
  have hsl := h.sl
  refine .seq (fun K1 b5 => .region (.mv rfl (.nil (b5 _ _ (.seq (fun K2 b1 => .region (.mv rfl (.q rfl (.len sl_51_VSs rfl) ?_))))))))
  refine .R rfl (.makeR rfl sl_57_VSs ze_107_VSFun by_107_VSs rfl rfl (by decide) rfl rfl (by omega) (by omega) (by omega)) ?_
  rintro _ H7 ⟨g7, rfl, a4, ge7, a8⟩
  have nx_H7 := a4.1
  replace s := s.trans a4
  have lt_at7 := GHeap.ltg a8
  replace h := l.mono s
  clear hsl
  have hsl := h.sl
  refine .mv rfl (.nil (b1 _ _ (.seq (fun K3 b7 => .seq (fun K4 b2 => .region (.mv rfl (.nil (b2 _ _ ?_))))))))
  refine .block ?_
  have a3 : ([.int .i64 0, .slice none 0 0, .slice none 0 0, .slice none 0 0, .slice none 0 0, .slice none 0 0, .slice none 0 0] : List Value).length = 7 := rfl
  refine .loopR (σ := Nat × (Nat → SFunP)) [(0, some _), (3, some _)] (fun (i, qq) => [(4, some (.int .i64 (i : Int)))]) (fun (i, qq) H' => St [g7] H7 H' ∧ H'.get g7 = some (.row (mixV (SFunsC xs qq) [.int .i64 0, .slice none 0 0, .slice none 0 0, .slice none 0 0, .slice none 0 0, .slice none 0 0, .slice none 0 0] xs.length i) 107 true) ∧ i ≤ xs.length ∧ ∀ j, j < i → SFunAt H7.next H' (xs.getD j SFun.z) (qq j)) (fun (i, qq) => xs.length - i) ((0, pp)) ⟨rfl, rfl, trivial⟩ ⟨rfl, trivial⟩ ?_ ?_
  ·
   refine ⟨.refl _ _, by (rw [mixV_zero, ← madeL_flat a3 (by decide)]; assumption), ?_⟩
   exact ⟨by omega, fun j hj => by omega⟩
  rintro ⟨i, qq⟩ HL1 ⟨m, d, hI⟩ KL1 a0
  refine .forget (fr' := [(4, some (.int .i64 (i : Int))), (0, some _), (3, some _)]) ⟨rfl, rfl, rfl, trivial⟩ ?_
  have nx_HL1 := m.nx
  replace s := s.st m (fun k hk => ⟨by omega, trivial⟩)
  have lt_at_L3 := GHeap.ltg d
  replace h := l.mono s
  clear hsl
  have hsl := h.sl
  obtain ⟨hi, hA⟩ := hI
  have hml := length_mixV (f := SFunsC xs qq) (n := xs.length) (k := i) (w := 7) (fun _ _ => rfl) a3
  refine .seq (fun K5 b3 => .seq (fun K6 a9 => .region (.mv rfl (.mv rfl (.q rfl (.len sl_51_VSs rfl) (.q rfl (.cmp rfl rfl rfl) (.nil (a9 _ _ ?_))))))))
  refine .cond rfl (fun a1 => ?_) (fun a1 => ?_)
  ·
   simp only [sps] at a1
   obtain ⟨g, o, rfl, hm⟩ := h.1.resolve_left (by omega)
   have hini := h.2 i (by omega)
   have hsi := hS i (by omega)
   have a7 : MemN HL1 g (o + (i : Int).toNat * 7) 7 (SFunsC xs pp i) := ⟨rfl, hm i (by omega)⟩
   refine .skip ?_
   refine b3 _ _ (.seq (fun K7 b0 => ?_))
   refine .block ?_
   refine .region (.mv rfl (.mv rfl (.mv rfl (.mv rfl ?_))))
   refine .q rfl (.idx sl_51_VSs hsl (by omega) rfl rfl (by omega) (by omega) rfl) ?_
   refine .q rfl (.loadM ag_162_VSs rfl a7) ?_
   refine .call rfl rfl rfl rfl @Try.call151 rfl (toSetFunctor_c) ?_
   rintro _ a2 ⟨t, a6, rfl, v⟩
   have nx_H20 := t.1
   replace s := s.trans t
   replace m := m.le t
   replace d := t.2 _ _ d
   have u := v
   have r : Keep HL1.next a2 a2 := fun _ _ _ h => h
   replace h := l.mono s
   clear hsl
   have hsl := h.sl
   have a5 := v.inn
   refine .q rfl (.idx sl_57_VSs (SlA.of_row d hml) (by decide) rfl rfl (by omega) (by omega) rfl) ?_
   refine .r0 rfl rfl (.storeNR rfl sz_107_VSFun rfl rfl rfl rfl d (by rw [hml, Int.toNat_natCast]; omega)) ?_
   rintro _ x ⟨rfl, c, p⟩
   have nx_H5008 := c.nx
   replace s := s.st c (fun k hk => ⟨by omega, trivial⟩)
   replace m := m.sA c
   replace r := Keep.st r c (fun k hb hk => ⟨by omega, trivial⟩)
   replace v := u.keep r (Nat.le_refl _)
   have lt_at5008 := GHeap.ltg p
   replace h := l.mono s
   clear hsl
   have hsl := h.sl
   clear a5
   have a5 := v.inn
   have b4 : GHeap.get x g7 = some (.row (mixV (SFunsC xs (updP qq i a6)) [.int .i64 0, .slice none 0 0, .slice none 0 0, .slice none 0 0, .slice none 0 0, .slice none 0 0, .slice none 0 0] xs.length (i + 1)) 107 true) := by
     have hx := p
     simp only [Int.toNat_natCast, Nat.zero_add] at hx
     rw [← mixV_next (f := SFunsC xs qq) (w := 7) (by decide) (fun _ _ => rfl) rfl rfl (by omega) (fun j hj => by unfold SFunsC; rw [updP_ne (by omega)])]
     unfold SFunsC
     rw [updP_eq]
     exact hx
   replace p := b4
   refine .nil (b0 _ _ (.region (.mv rfl ?_)))
   refine .q rfl (.add rfl rfl rfl (by omega) (by omega)) ?_
   refine .mv rfl (.nil ?_)
   refine a0 ((i + 1, updP qq i a6)) _ _ ?_ ?_ ⟨rfl, rfl, rfl, trivial⟩
   ·
    refine ⟨m, by assumption, ?_⟩
    have hk := Keep.st (b := H7.next) (.of_le t) c (fun k h1 h2 => ⟨by omega, trivial⟩)
    refine ⟨by omega, fun j hj => ?_⟩
    by_cases e : j < i
    · rw [updP_ne (by omega)]
      exact (hA j e).keep hk (Nat.le_refl _)
    · obtain rfl : j = i := by omega
      rw [updP_eq]
      first
      | exact v.keep (b' := H7.next) (.of_le (.refl _)) (by omega)
      | exact v.keep (b' := H7.next) (Keep.st (b := H7.next) (H0 := a2) (.of_le (.refl _)) c (fun k h1 h2 => ⟨by omega, trivial⟩)) (by omega)
   (dsimp only; omega)
  try simp only [sps] at a1
  refine .exit ?_
  refine b7 _ _ (.seq (fun K8 b6 => .region (.mv rfl (.mv rfl (.nil (b6 _ _ ?_))))))
  refine .ret ?_
  refine y _ _ ?_
  refine ⟨_, rfl, ?_⟩
  obtain rfl : i = xs.length := by omega
  rw [mixV_all] at d
  exact ⟨s, some ⟨g7, 0, none⟩, qq, rfl, g7, _, rfl, by omega, d, fun j hj => (hA j hj).keep (.of_le (.refl _)) (by omega)⟩
theorem eqSetFunctorS_c {a a' : Option Addr} {xs : List SFun} {pp pp' : Nat → SFunP} {H : GHeap} (h : SFunsIn H a xs pp := by assumption) (h' : SFunsIn H a' xs pp' := by assumption) (hs : SFunsSmall xs := by assumption) :
    GCalls Try.prog 90 [.slice a xs.length xs.length, .slice a' xs.length xs.length] H (Ret (.bool true) H) := by
  refine GCalls.ret rfl ?_
  obtain ⟨hl, hS⟩ := hs
  refine GCalls.body (N := 27) (rs := [.tmp 4]) Try.func90 rfl rfl rfl rfl (fun Qx j hend => ?_)
  refine .fg [0, 1] rfl ?_
  have f := GHeap.Le.refl H
  have d := h
  have b := h'
  have hsl := h.sl
  have hsl' := h'.sl
  refine .seq (fun K1 a1 => .region (.mv rfl (.nil (a1 _ _ (.seq (fun K2 y => .seq (fun K3 a3 => .region (.mv rfl (.q rfl (.len sl_57_VSs rfl) (.mv rfl (.q rfl (.len sl_57_VSs rfl) (.q rfl (.cmp rfl rfl rfl) (.nil (a3 _ _ ?_))))))))))))))
  refine .cond rfl (fun n => ?_) (fun n => ?_)
  ·
   exact absurd n (by simp)
  try simp only [sps] at n
  refine .skip ?_
  refine y _ _ (.seq (fun K4 z => .seq (fun K5 a0 => .region (.mv rfl (.nil (a0 _ _ ?_))))))
  refine .block ?_
  refine .loopR (σ := Nat) [(0, some _), (1, some _)] (fun i => [(5, some (.int .i64 (i : Int)))]) (fun i H' => St [] H H' ∧ i ≤ xs.length) (fun i => xs.length - i) (0) ⟨rfl, rfl, trivial⟩ ⟨rfl, trivial⟩ ?_ ?_
  ·
   refine ⟨.refl _ _, ?_⟩
   omega
  rintro i HL1 ⟨e, hI⟩ KL1 l
  refine .forget (fr' := [(5, some (.int .i64 (i : Int))), (0, some _), (1, some _)]) ⟨rfl, rfl, rfl, trivial⟩ ?_
  have nx_HL1 := e.nx
  replace f := f.st e (fun k hk => trivial)
  replace h := d.mono f
  replace h' := b.mono f
  clear hsl
  have hsl := h.sl
  have hsl' := h'.sl
  refine .seq (fun K6 v => .seq (fun K7 w => .region (.mv rfl (.mv rfl (.q rfl (.len sl_57_VSs rfl) (.q rfl (.cmp rfl rfl rfl) (.nil (w _ _ ?_))))))))
  refine .cond rfl (fun s => ?_) (fun s => ?_)
  ·
   simp only [sps] at s
   obtain ⟨g, o, rfl, hm⟩ := h.1.resolve_left (by omega)
   obtain ⟨g', o', rfl, hm'⟩ := h'.1.resolve_left (by omega)
   have hsi := hS i (by omega)
   have u : MemN HL1 g (o + (i : Int).toNat * 7) 7 (SFunsC xs pp i) := ⟨rfl, hm i (by omega)⟩
   have x : MemN HL1 g' (o' + (i : Int).toNat * 7) 7 (SFunsC xs pp' i) := ⟨rfl, hm' i (by omega)⟩
   refine .skip ?_
   refine v _ _ (.seq (fun K8 a2 => ?_))
   refine .block ?_
   refine .seq (fun K9 t => ?_)
   refine .regionD mo_B (.q 0 (.q 1 (.q 2 (.q 3 (.q 4 (.q 5 (.q 6 (.q 7 (.c 8 0 (.q 9 (.done))))))))))) (by kernel_rfl) ?_
   refine .mv rfl rfl (.mv rfl rfl ?_)
   refine .q rfl (.idx sl_57_VSs hsl (by omega) rfl rfl (by omega) (by omega) rfl) ?_
   refine .q rfl (.loadM ag_107_VSFun rfl u) (.mv rfl rfl (.mv rfl rfl ?_))
   refine .q rfl (.idx sl_57_VSs hsl' (by omega) rfl rfl (by omega) (by omega) rfl) ?_
   refine .q rfl (.loadM ag_107_VSFun rfl x) ?_
   refine .callQ0 rfl rfl rfl rfl rfl @Try.call155 rfl (eqSetFunctor_c (h.2 i (by omega)) (h'.2 i (by omega)) hsi) ?_
   refine .q rfl (.not rfl) ?_
   refine .done ?_
   refine t _ _ ?_
   refine .cond rfl (fun p => ?_) (fun p => ?_)
   ·
    try simp only [sps] at p
    refine .seq (fun K10 r => .region (.mv rfl (.nil (r _ _ ?_))))
    refine .ret ?_
    refine j _ _ ?_
    refine ⟨_, rfl, ?_⟩
    first
    | exact ⟨rfl, f⟩
    | exact absurd trivial (by assumption)
    | contradiction
    | (exfalso; omega)
    | (exfalso; simp_all)
   try simp only [sps] at p
   refine .skip ?_
   refine a2 _ _ (.region (.mv rfl ?_))
   refine .q rfl (.add rfl rfl rfl (by omega) (by omega)) ?_
   refine .mv rfl (.nil ?_)
   refine l (i + 1) _ _ ?_ ?_ ⟨rfl, rfl, rfl, trivial⟩
   ·
    refine ⟨e, ?_⟩
    omega
   omega
  try simp only [sps] at s
  refine .exit ?_
  refine z _ _ (.seq (fun K11 m => .region (.mv rfl (.nil (m _ _ ?_)))))
  refine .ret ?_
  refine j _ _ ?_
  refine ⟨_, rfl, ?_⟩
  first
  | exact ⟨rfl, f⟩
  | exact absurd trivial (by assumption)
  | contradiction
  | (exfalso; omega)
  | (exfalso; simp_all)
end Go.Proofs.Ytiooclghkafokaa
namespace Go.Proofs.Ytiooclghkafokaa
open Go Go.GL Go.RowKit Go.Proofs
theorem sz_164_VRel : (Try.prog.info? 164).map (·.size) = some 2 := by kernel_rfl
theorem fo_164_0_VRel : fieldOff Try.prog 164 0 = some 0 := by kernel_rfl
theorem fo_164_1_VRel : fieldOff Try.prog 164 1 = some 1 := by kernel_rfl
theorem ze_110_VRel : zeroT Try.prog 110 = some ([.slice none 0 0, .slice none 0 0], 2) := by kernel_rfl
theorem fo_110_0_VRel : fieldOff Try.prog 110 0 = some 0 := by kernel_rfl
theorem fo_110_1_VRel : fieldOff Try.prog 110 1 = some 1 := by kernel_rfl
theorem ag_110_VRel : aggT Try.prog 110 = some 2 := by kernel_rfl
theorem sz_110_VRel : (Try.prog.info? 110).map (·.size) = some 2 := by kernel_rfl
theorem szRelation_c {c : Rel} {p : RelP} {left : Int} {H : GHeap} (hin : c.In H p := by assumption) (hw : c.Wide := by assumption) (h0 : 0 ≤ left := by omega) (h1 : left ≤ 1048576 := by omega) :
    GCalls Try.prog 143 [.agg (c.cells p).toArray, .int .i64 left] H (SzR left c.Small H) := by
  refine SzR.of ?_
  obtain ⟨⟨wa0, _⟩, ⟨wa1, wb1⟩⟩ := hw
  refine GCalls.body (N := 18) (rs := [.tmp 4]) Try.func143 rfl rfl rfl rfl (fun Qx d hend => ?_)
  refine .fg [0, 1] rfl ?_
  have b := GHeap.Le.refl H
  have a := hin
  refine .seq (fun K1 v => .region ?_)
  refine .R rfl (.boxR rfl sz_164_VRel rfl) ?_
  rintro _ H2 ⟨g2, rfl, l, ge2, e⟩
  have nx_H2 := l.1
  replace b := b.trans l
  have lt_at2 := GHeap.ltg e
  replace hin := a.mono b
  have i : Rel.At _ g2 0 c p := ⟨Mem.of_get e, hin⟩
  obtain ⟨c02, c12, i02, i12⟩ := i.get
  have hm2 : MemN _ _ _ _ _ := ⟨rfl, i.1⟩
  have hi2 := i.2
  refine .mv rfl (.nil (v _ _ (.seq (fun K2 r => .region (.q rfl (.fieldAddr fo_164_0_VRel rfl) ?_)))))
  refine .q rfl (.load on_24_B rfl (by first | assumption | exact Mem.of_get e 0 _ rfl)) ?_
  refine .mv rfl ?_
  refine .call rfl rfl rfl rfl @Try.call71 rfl (szInt64S_s) ?_
  rintro _ _ ⟨heq, lf8, rfl, z18, z28, s⟩
  obtain rfl := heq.symm
  refine .mv rfl (.nil (r _ _ (.seq (fun K3 x => .seq (fun K4 t => .region (.mv rfl (.q rfl (.cmp rfl rfl rfl) (.nil (t _ _ ?_)))))))))
  refine .cond rfl (fun g => ?_) (fun g => ?_)
  ·
   try simp only [sps] at g
   refine .seq (fun K5 u => .region (.mv rfl (.nil (u _ _ ?_))))
   refine .ret ?_
   refine d _ _ ?_
   refine ⟨_, rfl, ?_⟩
   first
   | exact ⟨b, _, rfl, by omega, by omega, fun h => by omega⟩
   | exact ⟨b, _, rfl, by omega, by omega, fun h => ⟨by assumption, by assumption⟩⟩
  try simp only [sps] at g
  have hsm8 := s (by omega)
  refine .skip ?_
  refine x _ _ (.seq (fun K6 n => .region (.q rfl (.fieldAddr fo_164_1_VRel rfl) ?_)))
  refine .q rfl (.load on_25_B rfl (by first | assumption | exact Mem.of_get e 1 _ rfl)) ?_
  refine .mv rfl ?_
  refine .call rfl rfl rfl rfl @Try.call133 rfl (szInt64SS_s) ?_
  rintro _ _ ⟨heq, lf14, rfl, z114, z214, f⟩
  obtain rfl := heq.symm
  refine .mv rfl (.nil (n _ _ (.seq (fun K7 o => .seq (fun K8 w => .region (.mv rfl (.q rfl (.cmp rfl rfl rfl) (.nil (w _ _ ?_)))))))))
  refine .cond rfl (fun k => ?_) (fun k => ?_)
  ·
   try simp only [sps] at k
   refine .seq (fun K9 m => .region (.mv rfl (.nil (m _ _ ?_))))
   refine .ret ?_
   refine d _ _ ?_
   refine ⟨_, rfl, ?_⟩
   first
   | exact ⟨b, _, rfl, by omega, by omega, fun h => by omega⟩
   | exact ⟨b, _, rfl, by omega, by omega, fun h => ⟨by assumption, by assumption⟩⟩
  try simp only [sps] at k
  have hsm14 := f (by omega)
  refine .skip ?_
  refine o _ _ (.seq (fun K10 j => .region (.mv rfl (.mv rfl (.nil (j _ _ ?_))))))
  refine .ret ?_
  refine d _ _ ?_
  refine ⟨_, rfl, ?_⟩
  first
  | exact ⟨b, _, rfl, by omega, by omega, fun h => by omega⟩
  | exact ⟨b, _, rfl, by omega, by omega, fun h => ⟨by assumption, by assumption⟩⟩
set_option maxHeartbeats 4000000 in
theorem toRelation_c {c : Rel} {p : RelP} {H : GHeap} (hin : c.In H p := by assumption) (hs : c.Small := by assumption) : GCalls Try.prog 152 [.agg (c.cells p).toArray] H (NewRel H c) := by
  obtain ⟨w0, ⟨wa1, wb1⟩⟩ := hs
  refine GCalls.body (N := 13) (rs := [.cell 2 110]) Try.func152 rfl rfl rfl rfl (fun Qx b0 hend => ?_)
  refine .fg [0] rfl ?_
  have l := GHeap.Le.refl H
  have b := hin
  refine .seq (fun K1 b9 => .region ?_)
  refine .R rfl (.boxR rfl sz_164_VRel rfl) ?_
  rintro _ H1 ⟨g1, rfl, b3, ge1, j⟩
  have nx_H1 := b3.1
  replace l := l.trans b3
  have lt_at1 := GHeap.ltg j
  replace hin := b.mono l
  have d : Rel.At _ g1 0 c p := ⟨Mem.of_get j, hin⟩
  obtain ⟨z, a1, x, y⟩ := d.get
  have w : MemN _ _ _ _ _ := ⟨rfl, d.1⟩
  have a0 := d.2
  refine .R rfl (.allocR rfl ze_110_VRel rfl) ?_
  rintro _ H2 ⟨g2, rfl, b1, ge2, a3⟩
  have nx_H2 := b1.1
  replace l := l.trans b1
  replace j := b1.2 _ _ j
  have lt_at2 := GHeap.ltg a3
  replace hin := b.mono l
  clear d z a1 x y w a0
  have d : Rel.At _ g1 0 c p := ⟨Mem.of_get j, hin⟩
  obtain ⟨z, a1, x, y⟩ := d.get
  have w : MemN _ _ _ _ _ := ⟨rfl, d.1⟩
  have a0 := d.2
  refine .nil (b9 _ _ (.seq (fun K2 b6 => .region ?_)))
  refine .R rfl (.allocR rfl ze_110_VRel rfl) ?_
  rintro _ H3 ⟨g3, rfl, a8, ge3, b2⟩
  have nx_H3 := a8.1
  replace l := l.trans a8
  replace j := a8.2 _ _ j
  replace a3 := a8.2 _ _ a3
  have lt_at3 := GHeap.ltg b2
  replace hin := b.mono l
  clear d z a1 x y w a0
  have d : Rel.At _ g1 0 c p := ⟨Mem.of_get j, hin⟩
  obtain ⟨z, a1, x, y⟩ := d.get
  have w : MemN _ _ _ _ _ := ⟨rfl, d.1⟩
  have a0 := d.2
  refine .nil (b6 _ _ (.seq (fun K3 c0 => .region (.q rfl (.fieldAddr fo_164_0_VRel rfl) ?_))))
  refine .q rfl (.load on_24_B rfl (by first | assumption | exact Mem.of_get j 0 _ rfl)) ?_
  refine .call rfl rfl rfl rfl @Try.call74 rfl (toInt64S_c) ?_
  rintro _ H6 ⟨a6, g6, rfl, c3, c2⟩
  have v6 : IntsAt _ H6 _ _ := ⟨g6, _, rfl, c2, c3⟩
  have nx_H6 := a6.1
  replace l := l.trans a6
  replace j := a6.2 _ _ j
  replace a3 := a6.2 _ _ a3
  replace b2 := a6.2 _ _ b2
  have v := v6
  have e : Keep H3.next H6 H6 := fun _ _ _ h => h
  replace hin := b.mono l
  clear d z a1 x y w a0
  have d : Rel.At _ g1 0 c p := ⟨Mem.of_get j, hin⟩
  obtain ⟨z, a1, x, y⟩ := d.get
  have w : MemN _ _ _ _ _ := ⟨rfl, d.1⟩
  have a0 := d.2
  have i6 := v6.ints
  refine .q rfl (.fieldAddr fo_110_0_VRel rfl) ?_
  refine .r0 rfl rfl (.storeR rfl sz_24_E rfl rfl rfl (by assumption) (by first | exact Nat.le_of_ble_eq_true rfl | (simp; done) | (simp <;> omega))) ?_
  rintro _ a7 ⟨rfl, o, r⟩
  have nx_H2004 := o.nx
  replace l := l.st o (fun k hk => ⟨by omega, trivial⟩)
  have t : NE g1 g3 := .a
  replace j := o.s j t.ne
  have n : NE g2 g3 := .a
  replace a3 := o.s a3 n.ne
  replace e := Keep.st e o (fun k hb hk => ⟨by omega, trivial⟩)
  replace v6 := v.keep e (Nat.le_refl _)
  have lt_at2004 := GHeap.ltg r
  replace hin := b.mono l
  clear d z a1 x y w a0
  have d : Rel.At _ g1 0 c p := ⟨Mem.of_get j, hin⟩
  obtain ⟨z, a1, x, y⟩ := d.get
  have w : MemN _ _ _ _ _ := ⟨rfl, d.1⟩
  have a0 := d.2
  clear i6
  have i6 := v6.ints
  try simp only [Nat.zero_add, List.set_cons_succ, List.set_cons_zero] at r
  refine .nil (c0 _ _ (.seq (fun K4 b7 => .region (.q rfl (.fieldAddr fo_164_1_VRel rfl) ?_))))
  refine .q rfl (.load on_25_B rfl (by first | assumption | exact Mem.of_get j 1 _ rfl)) ?_
  refine .call rfl rfl rfl rfl @Try.call138 rfl (toInt64SS_c) ?_
  rintro _ b4 ⟨a2, c1, b5, rfl, a5⟩
  have nx_H10 := a2.1
  replace l := l.trans a2
  replace j := a2.2 _ _ j
  replace a3 := a2.2 _ _ a3
  replace r := a2.2 _ _ r
  replace e := Keep.le e a2
  replace v6 := v.keep e (Nat.le_refl _)
  have a4 := a5
  have i : Keep a7.next b4 b4 := fun _ _ _ h => h
  replace hin := b.mono l
  clear d z a1 x y w a0
  have d : Rel.At _ g1 0 c p := ⟨Mem.of_get j, hin⟩
  obtain ⟨z, a1, x, y⟩ := d.get
  have w : MemN _ _ _ _ _ := ⟨rfl, d.1⟩
  have a0 := d.2
  clear i6
  have i6 := v6.ints
  have a9 := a5.intss
  refine .q rfl (.fieldAddr fo_110_1_VRel rfl) ?_
  refine .r0 rfl rfl (.storeR rfl sz_25_E rfl rfl rfl (by assumption) (by first | exact Nat.le_of_ble_eq_true rfl | (simp; done) | (simp <;> omega))) ?_
  rintro _ H3004 ⟨rfl, g, m⟩
  have nx_H3004 := g.nx
  replace l := l.st g (fun k hk => ⟨by omega, trivial⟩)
  replace j := g.s j t.ne
  replace a3 := g.s a3 n.ne
  replace e := Keep.st e g (fun k hb hk => ⟨by omega, trivial⟩)
  replace v6 := v.keep e (Nat.le_refl _)
  replace i := Keep.st i g (fun k hb hk => ⟨by omega, trivial⟩)
  replace a5 := a4.keep i (Nat.le_refl _)
  have lt_at3004 := GHeap.ltg m
  replace hin := b.mono l
  clear d z a1 x y w a0
  have d : Rel.At _ g1 0 c p := ⟨Mem.of_get j, hin⟩
  obtain ⟨z, a1, x, y⟩ := d.get
  have w : MemN _ _ _ _ _ := ⟨rfl, d.1⟩
  have a0 := d.2
  clear i6
  have i6 := v6.ints
  clear a9
  have a9 := a5.intss
  try simp only [Nat.zero_add, List.set_cons_succ, List.set_cons_zero] at m
  refine .nil (b7 _ _ (.seq (fun K5 b8 => .region ?_)))
  refine .q rfl (.loadM ag_110_VRel rfl ⟨rfl, Mem.of_get m⟩) ?_
  refine .r0 rfl rfl (.fillA rfl sz_110_VRel rfl rfl rfl rfl) ?_
  rintro _ H4001 ⟨rfl, f, u⟩
  have nx_H4001 := f.nx
  replace l := l.st f (fun k hk => ⟨by omega, trivial⟩)
  replace j := f.s j
  replace m := f.s m (Ne.symm n.ne)
  replace e := Keep.st e f (fun k hb hk => ⟨by omega, trivial⟩)
  replace v6 := v.keep e (Nat.le_refl _)
  replace i := Keep.st i f (fun k hb hk => ⟨by omega, trivial⟩)
  replace a5 := a4.keep i (Nat.le_refl _)
  have lt_at4001 := GHeap.ltg u
  replace hin := b.mono l
  clear d z a1 x y w a0
  have d : Rel.At _ g1 0 c p := ⟨Mem.of_get j, hin⟩
  obtain ⟨z, a1, x, y⟩ := d.get
  have w : MemN _ _ _ _ _ := ⟨rfl, d.1⟩
  have a0 := d.2
  clear i6
  have i6 := v6.ints
  clear a9
  have a9 := a5.intss
  have mm4001 : MemN _ _ _ _ _ := ⟨rfl, Mem.of_get u⟩
  refine .nil (b8 _ _ ?_)
  refine .ret ?_
  refine b0 _ _ ?_
  refine ⟨_, _, _, _, rfl, ag_110_VRel, (by rfl), (Mem.of_get u), ?_⟩
  exact ⟨l, ⟨some ⟨g6, 0, none⟩, c1, b5⟩, rfl, ⟨v6.keep (.of_le (.refl _)) (by omega), a5.keep (.of_le (.refl _)) (by omega)⟩⟩
set_option maxHeartbeats 4000000 in
theorem eqRelation_c {c : Rel} {p p' : RelP} {H : GHeap} (hin : c.In H p := by assumption) (hin' : c.In H p' := by assumption) (hs : c.Small := by assumption) : GCalls Try.prog 156 [.agg (c.cells p).toArray, .agg (c.cells p').toArray] H (Ret (.bool true) H) := by
  refine GCalls.ret rfl ?_
  obtain ⟨w0, ⟨wa1, wb1⟩⟩ := hs
  refine GCalls.body (N := 17) (rs := [.tmp 4]) Try.func156 rfl rfl rfl rfl (fun Qx f hend => ?_)
  refine .fg [0, 1] rfl ?_
  have d := GHeap.Le.refl H
  have b := hin
  have a := hin'
  refine .seq (fun K1 a0 => .region ?_)
  refine .R rfl (.boxR rfl sz_110_VRel rfl) ?_
  rintro _ H2 ⟨g2, rfl, t, ge2, g⟩
  have nx_H2 := t.1
  replace d := d.trans t
  have lt_at2 := GHeap.ltg g
  replace hin := b.mono d
  replace hin' := a.mono d
  have e : Rel.At _ g2 0 c p := ⟨Mem.of_get g, hin⟩
  obtain ⟨n, u, o, m⟩ := e.get
  have r : MemN _ _ _ _ _ := ⟨rfl, e.1⟩
  have s := e.2
  refine .R rfl (.boxR rfl sz_110_VRel rfl) ?_
  rintro _ H3 ⟨g3, rfl, k, ge3, h⟩
  have nx_H3 := k.1
  replace d := d.trans k
  replace g := k.2 _ _ g
  have lt_at3 := GHeap.ltg h
  replace hin := b.mono d
  replace hin' := a.mono d
  clear e n u o m r s
  have e : Rel.At _ g2 0 c p := ⟨Mem.of_get g, hin⟩
  obtain ⟨n, u, o, m⟩ := e.get
  have r : MemN _ _ _ _ _ := ⟨rfl, e.1⟩
  have s := e.2
  have j : Rel.At _ g3 0 c p' := ⟨Mem.of_get h, hin'⟩
  obtain ⟨c03, c13, i03, i13⟩ := j.get
  have hm3 : MemN _ _ _ _ _ := ⟨rfl, j.1⟩
  have hi3 := j.2
  refine .mv rfl (.nil (a0 _ _ (.seq (fun K2 x => .seq (fun K3 a2 => .region (.q rfl (.fieldAddr fo_110_0_VRel rfl) ?_))))))
  refine .q rfl (.load on_24_B rfl (by first | assumption | exact Mem.of_get g 0 _ rfl)) ?_
  refine .q rfl (.fieldAddr fo_110_0_VRel rfl) ?_
  refine .q rfl (.load on_24_B rfl (by first | assumption | exact Mem.of_get h 0 _ rfl)) ?_
  refine .callQ rfl rfl rfl rfl @Try.call76 rfl (eqInt64S_c) ?_
  refine .q rfl (.not rfl) (.nil (a2 _ _ ?_))
  refine .cond rfl (fun i => ?_) (fun i => ?_)
  ·
   try simp only [sps] at i
   refine .seq (fun K4 y => .region (.mv rfl (.nil (y _ _ ?_))))
   refine .ret ?_
   refine f _ _ ?_
   refine ⟨_, rfl, ?_⟩
   first
   | exact ⟨rfl, d⟩
   | exact absurd trivial (by assumption)
   | contradiction
   | (exfalso; omega)
   | (exfalso; simp_all)
  try simp only [sps] at i
  refine .skip ?_
  refine x _ _ (.seq (fun K5 z => .seq (fun K6 v => .region (.q rfl (.fieldAddr fo_110_1_VRel rfl) ?_))))
  refine .q rfl (.load on_25_B rfl (by first | assumption | exact Mem.of_get g 1 _ rfl)) ?_
  refine .q rfl (.fieldAddr fo_110_1_VRel rfl) ?_
  refine .q rfl (.load on_25_B rfl (by first | assumption | exact Mem.of_get h 1 _ rfl)) ?_
  refine .callQ rfl rfl rfl rfl @Try.call27 rfl (eqInt64SS_c) ?_
  refine .q rfl (.not rfl) (.nil (v _ _ ?_))
  refine .cond rfl (fun l => ?_) (fun l => ?_)
  ·
   try simp only [sps] at l
   refine .seq (fun K7 w => .region (.mv rfl (.nil (w _ _ ?_))))
   refine .ret ?_
   refine f _ _ ?_
   refine ⟨_, rfl, ?_⟩
   first
   | exact ⟨rfl, d⟩
   | exact absurd trivial (by assumption)
   | contradiction
   | (exfalso; omega)
   | (exfalso; simp_all)
  try simp only [sps] at l
  refine .skip ?_
  refine z _ _ (.seq (fun K8 a1 => .region (.mv rfl (.nil (a1 _ _ ?_)))))
  refine .ret ?_
  refine f _ _ ?_
  refine ⟨_, rfl, ?_⟩
  first
  | exact ⟨rfl, d⟩
  | exact absurd trivial (by assumption)
  | contradiction
  | (exfalso; omega)
  | (exfalso; simp_all)
end Go.Proofs.Ytiooclghkafokaa
namespace Go.Proofs.Ytiooclghkafokaa
open Go Go.GL Go.RowKit Go.Proofs
theorem sl_52_VSr : sliceT Try.prog 52 = some (164, 2) := by kernel_rfl
theorem ag_164_VSr : aggT Try.prog 164 = some 2 := by kernel_rfl
theorem sl_58_VSr : sliceT Try.prog 58 = some (110, 2) := by kernel_rfl
theorem by_110_VSr : (Try.prog.info? 110).map (·.bytes) = some 48 := by kernel_rfl
theorem szRelationS_c {a : Option Addr} {xs : List Rel} {pp : Nat → RelP} {left : Int} {H : GHeap} (h : RelsIn H a xs pp := by assumption) (hw : RelsWide xs := by assumption) (h0 : 0 ≤ left := by omega) (h1 : left ≤ 1048576 := by omega) :
    GCalls Try.prog 82 [.slice a xs.length xs.length, .int .i64 left] H (SzR left (RelsSmall xs) H) := by
  refine SzR.of ?_
  obtain ⟨wl, ww⟩ := hw
  refine GCalls.body (N := 27) (rs := [.tmp 4]) Try.func82 rfl rfl rfl rfl (fun Qx b hend => ?_)
  refine .fg [0, 1] rfl ?_
  have c := GHeap.Le.refl H
  have base_h := h
  have hsl := h.sl
  refine .seq (fun K1 a4 => .region (.mv rfl (.nil (a4 _ _ (.seq (fun K2 a1 => .region (.mv rfl (.mv rfl (.q rfl (.len sl_52_VSr rfl) ?_)))))))))
  refine .q rfl (.sub rfl rfl rfl (by omega) (by omega)) ?_
  refine .mv rfl (.nil (a1 _ _ (.seq (fun K3 a6 => .seq (fun K4 a2 => .region (.mv rfl (.q rfl (.cmp rfl rfl rfl) (.nil (a2 _ _ ?_)))))))))
  refine .cond rfl (fun r => ?_) (fun r => ?_)
  ·
   try simp only [sps] at r
   refine .seq (fun K5 a3 => .region (.mv rfl (.nil (a3 _ _ ?_))))
   refine .ret ?_
   refine b _ _ ?_
   refine ⟨_, rfl, ?_⟩
   first
   | exact ⟨c, _, rfl, by omega, by omega, fun h => by omega⟩
   | exact ⟨c, _, rfl, by omega, by omega, fun _ => ⟨d, fun j hj => hS j (by omega)⟩⟩
  try simp only [sps] at r
  refine .skip ?_
  refine a6 _ _ (.seq (fun K6 y => .seq (fun K7 a0 => .region (.mv rfl (.nil (a0 _ _ ?_))))))
  refine .block ?_
  refine .loopR (σ := Nat × Int) [(0, some _)] (fun (i, l) => [(5, some (.int .i64 (i : Int))), (1, some (.int .i64 l))]) (fun (i, l) H' => H = H' ∧ i ≤ xs.length ∧ 0 ≤ l ∧ l ≤ left ∧ xs.length ≤ 1048576 ∧ ∀ j, j < i → (xs.getD j Rel.z).Small) (fun (i, l) => xs.length - i) ((0, _)) ⟨rfl, trivial⟩ ⟨rfl, rfl, trivial⟩ ?_ ?_
  ·
   refine ⟨rfl, ?_⟩
   exact ⟨by omega, by omega, by omega, by omega, fun j hj => by omega⟩
  rintro ⟨i, l⟩ _ ⟨rfl, hI⟩ KL1 p
  refine .forget (fr' := [(5, some (.int .i64 (i : Int))), (1, some (.int .i64 l)), (0, some _)]) ⟨rfl, rfl, rfl, trivial⟩ ?_
  obtain ⟨hi, hl0, hl1, d, hS⟩ := hI
  refine .seq (fun K8 a5 => .seq (fun K9 w => .region (.mv rfl (.mv rfl (.q rfl (.len sl_52_VSr rfl) (.q rfl (.cmp rfl rfl rfl) (.nil (w _ _ ?_))))))))
  refine .cond rfl (fun k => ?_) (fun k => ?_)
  ·
   simp only [sps] at k
   obtain ⟨g, o, rfl, hm⟩ := h.1.resolve_left (by omega)
   have hin := h.2 i (by omega)
   have hwi := ww i (by omega)
   have x : MemN H g (o + (i : Int).toNat * 2) 2 (RelsC xs pp i) := ⟨rfl, hm i (by omega)⟩
   refine .skip ?_
   refine a5 _ _ (.seq (fun K10 u => ?_))
   refine .block ?_
   refine .seq (fun K11 s => .region (.mv rfl (.mv rfl ?_)))
   refine .q rfl (.idx sl_52_VSr hsl (by omega) rfl rfl (by omega) (by omega) rfl) ?_
   refine .q rfl (.loadM ag_164_VSr rfl x) (.mv rfl ?_)
   refine .call rfl rfl rfl rfl @Try.call143 rfl (szRelation_c) ?_
   rintro _ _ ⟨heq, lf23, rfl, z123, z223, m⟩
   obtain rfl := heq.symm
   refine .mv rfl (.nil (s _ _ (.seq (fun K12 v => .region (.mv rfl (.q rfl (.cmp rfl rfl rfl) (.nil (v _ _ ?_))))))))
   refine .cond rfl (fun n => ?_) (fun n => ?_)
   ·
    try simp only [sps] at n
    refine .seq (fun K13 t => .region (.mv rfl (.nil (t _ _ ?_))))
    refine .ret ?_
    refine b _ _ ?_
    refine ⟨_, rfl, ?_⟩
    first
    | exact ⟨c, _, rfl, by omega, by omega, fun h => by omega⟩
    | exact ⟨c, _, rfl, by omega, by omega, fun _ => ⟨d, fun j hj => hS j (by omega)⟩⟩
   try simp only [sps] at n
   have hsm23 := m (by omega)
   refine .skip ?_
   refine u _ _ (.region (.mv rfl ?_))
   refine .q rfl (.add rfl rfl rfl (by omega) (by omega)) ?_
   refine .mv rfl (.nil ?_)
   refine p ((i + 1, _)) _ _ ?_ ?_ ⟨rfl, rfl, rfl, trivial⟩
   ·
    refine ⟨rfl, ?_⟩
    exact ⟨by omega, by omega, by omega, d, fun j hj => by
    by_cases e : j < i
    · exact hS j e
    · obtain rfl : j = i := by omega
      assumption⟩
   (dsimp only; omega)
  try simp only [sps] at k
  refine .exit ?_
  refine y _ _ (.seq (fun K14 f => .region (.mv rfl (.mv rfl (.nil (f _ _ ?_))))))
  refine .ret ?_
  refine b _ _ ?_
  refine ⟨_, rfl, ?_⟩
  first
  | exact ⟨c, _, rfl, by omega, by omega, fun h => by omega⟩
  | exact ⟨c, _, rfl, by omega, by omega, fun _ => ⟨d, fun j hj => hS j (by omega)⟩⟩
set_option maxHeartbeats 4000000 in
theorem toRelationS_c {a : Option Addr} {xs : List Rel} {pp : Nat → RelP} {H : GHeap} (h : RelsIn H a xs pp := by assumption) (hs : RelsSmall xs := by assumption) :
    GCalls Try.prog 88 [.slice a xs.length xs.length] H (NewRels H xs) := by
  obtain ⟨hl, hS⟩ := hs
  refine GCalls.body (N := 23) (rs := [.tmp 2]) Try.func88 rfl rfl rfl rfl (fun Qx y hend => ?_)
  refine .fg [0] rfl ?_
  have s := GHeap.Le.refl H
  have l := h
  have hsl := h.sl
  refine .seq (fun K1 b5 => .region (.mv rfl (.nil (b5 _ _ (.seq (fun K2 b1 => .region (.mv rfl (.q rfl (.len sl_52_VSr rfl) ?_))))))))
  refine .R rfl (.makeR rfl sl_58_VSr ze_110_VRel by_110_VSr rfl rfl (by decide) rfl rfl (by omega) (by omega) (by omega)) ?_
  rintro _ H7 ⟨g7, rfl, a4, ge7, a8⟩
  have nx_H7 := a4.1
  replace s := s.trans a4
  have lt_at7 := GHeap.ltg a8
  replace h := l.mono s
  clear hsl
  have hsl := h.sl
  refine .mv rfl (.nil (b1 _ _ (.seq (fun K3 b7 => .seq (fun K4 b2 => .region (.mv rfl (.nil (b2 _ _ ?_))))))))
  refine .block ?_
  have a3 : ([.slice none 0 0, .slice none 0 0] : List Value).length = 2 := rfl
  refine .loopR (σ := Nat × (Nat → RelP)) [(0, some _), (3, some _)] (fun (i, qq) => [(4, some (.int .i64 (i : Int)))]) (fun (i, qq) H' => St [g7] H7 H' ∧ H'.get g7 = some (.row (mixV (RelsC xs qq) [.slice none 0 0, .slice none 0 0] xs.length i) 110 true) ∧ i ≤ xs.length ∧ ∀ j, j < i → RelAt H7.next H' (xs.getD j Rel.z) (qq j)) (fun (i, qq) => xs.length - i) ((0, pp)) ⟨rfl, rfl, trivial⟩ ⟨rfl, trivial⟩ ?_ ?_
  ·
   refine ⟨.refl _ _, by (rw [mixV_zero, ← madeL_flat a3 (by decide)]; assumption), ?_⟩
   exact ⟨by omega, fun j hj => by omega⟩
  rintro ⟨i, qq⟩ HL1 ⟨m, d, hI⟩ KL1 a0
  refine .forget (fr' := [(4, some (.int .i64 (i : Int))), (0, some _), (3, some _)]) ⟨rfl, rfl, rfl, trivial⟩ ?_
  have nx_HL1 := m.nx
  replace s := s.st m (fun k hk => ⟨by omega, trivial⟩)
  have lt_at_L3 := GHeap.ltg d
  replace h := l.mono s
  clear hsl
  have hsl := h.sl
  obtain ⟨hi, hA⟩ := hI
  have hml := length_mixV (f := RelsC xs qq) (n := xs.length) (k := i) (w := 2) (fun _ _ => rfl) a3
  refine .seq (fun K5 b3 => .seq (fun K6 a9 => .region (.mv rfl (.mv rfl (.q rfl (.len sl_52_VSr rfl) (.q rfl (.cmp rfl rfl rfl) (.nil (a9 _ _ ?_))))))))
  refine .cond rfl (fun a1 => ?_) (fun a1 => ?_)
  ·
   simp only [sps] at a1
   obtain ⟨g, o, rfl, hm⟩ := h.1.resolve_left (by omega)
   have hini := h.2 i (by omega)
   have hsi := hS i (by omega)
   have a7 : MemN HL1 g (o + (i : Int).toNat * 2) 2 (RelsC xs pp i) := ⟨rfl, hm i (by omega)⟩
   refine .skip ?_
   refine b3 _ _ (.seq (fun K7 b0 => ?_))
   refine .block ?_
   refine .region (.mv rfl (.mv rfl (.mv rfl (.mv rfl ?_))))
   refine .q rfl (.idx sl_52_VSr hsl (by omega) rfl rfl (by omega) (by omega) rfl) ?_
   refine .q rfl (.loadM ag_164_VSr rfl a7) ?_
   refine .call rfl rfl rfl rfl @Try.call152 rfl (toRelation_c) ?_
   rintro _ a2 ⟨t, a6, rfl, v⟩
   have nx_H20 := t.1
   replace s := s.trans t
   replace m := m.le t
   replace d := t.2 _ _ d
   have u := v
   have r : Keep HL1.next a2 a2 := fun _ _ _ h => h
   replace h := l.mono s
   clear hsl
   have hsl := h.sl
   have a5 := v.inn
   refine .q rfl (.idx sl_58_VSr (SlA.of_row d hml) (by decide) rfl rfl (by omega) (by omega) rfl) ?_
   refine .r0 rfl rfl (.storeNR rfl sz_110_VRel rfl rfl rfl rfl d (by rw [hml, Int.toNat_natCast]; omega)) ?_
   rintro _ x ⟨rfl, c, p⟩
   have nx_H5008 := c.nx
   replace s := s.st c (fun k hk => ⟨by omega, trivial⟩)
   replace m := m.sA c
   replace r := Keep.st r c (fun k hb hk => ⟨by omega, trivial⟩)
   replace v := u.keep r (Nat.le_refl _)
   have lt_at5008 := GHeap.ltg p
   replace h := l.mono s
   clear hsl
   have hsl := h.sl
   clear a5
   have a5 := v.inn
   have b4 : GHeap.get x g7 = some (.row (mixV (RelsC xs (updP qq i a6)) [.slice none 0 0, .slice none 0 0] xs.length (i + 1)) 110 true) := by
     have hx := p
     simp only [Int.toNat_natCast, Nat.zero_add] at hx
     rw [← mixV_next (f := RelsC xs qq) (w := 2) (by decide) (fun _ _ => rfl) rfl rfl (by omega) (fun j hj => by unfold RelsC; rw [updP_ne (by omega)])]
     unfold RelsC
     rw [updP_eq]
     exact hx
   replace p := b4
   refine .nil (b0 _ _ (.region (.mv rfl ?_)))
   refine .q rfl (.add rfl rfl rfl (by omega) (by omega)) ?_
   refine .mv rfl (.nil ?_)
   refine a0 ((i + 1, updP qq i a6)) _ _ ?_ ?_ ⟨rfl, rfl, rfl, trivial⟩
   ·
    refine ⟨m, by assumption, ?_⟩
    have hk := Keep.st (b := H7.next) (.of_le t) c (fun k h1 h2 => ⟨by omega, trivial⟩)
    refine ⟨by omega, fun j hj => ?_⟩
    by_cases e : j < i
    · rw [updP_ne (by omega)]
      exact (hA j e).keep hk (Nat.le_refl _)
    · obtain rfl : j = i := by omega
      rw [updP_eq]
      first
      | exact v.keep (b' := H7.next) (.of_le (.refl _)) (by omega)
      | exact v.keep (b' := H7.next) (Keep.st (b := H7.next) (H0 := a2) (.of_le (.refl _)) c (fun k h1 h2 => ⟨by omega, trivial⟩)) (by omega)
   (dsimp only; omega)
  try simp only [sps] at a1
  refine .exit ?_
  refine b7 _ _ (.seq (fun K8 b6 => .region (.mv rfl (.mv rfl (.nil (b6 _ _ ?_))))))
  refine .ret ?_
  refine y _ _ ?_
  refine ⟨_, rfl, ?_⟩
  obtain rfl : i = xs.length := by omega
  rw [mixV_all] at d
  exact ⟨s, some ⟨g7, 0, none⟩, qq, rfl, g7, _, rfl, by omega, d, fun j hj => (hA j hj).keep (.of_le (.refl _)) (by omega)⟩
theorem eqRelationS_c {a a' : Option Addr} {xs : List Rel} {pp pp' : Nat → RelP} {H : GHeap} (h : RelsIn H a xs pp := by assumption) (h' : RelsIn H a' xs pp' := by assumption) (hs : RelsSmall xs := by assumption) :
    GCalls Try.prog 91 [.slice a xs.length xs.length, .slice a' xs.length xs.length] H (Ret (.bool true) H) := by
  refine GCalls.ret rfl ?_
  obtain ⟨hl, hS⟩ := hs
  refine GCalls.body (N := 27) (rs := [.tmp 4]) Try.func91 rfl rfl rfl rfl (fun Qx j hend => ?_)
  refine .fg [0, 1] rfl ?_
  have f := GHeap.Le.refl H
  have d := h
  have b := h'
  have hsl := h.sl
  have hsl' := h'.sl
  refine .seq (fun K1 a1 => .region (.mv rfl (.nil (a1 _ _ (.seq (fun K2 y => .seq (fun K3 a3 => .region (.mv rfl (.q rfl (.len sl_58_VSr rfl) (.mv rfl (.q rfl (.len sl_58_VSr rfl) (.q rfl (.cmp rfl rfl rfl) (.nil (a3 _ _ ?_))))))))))))))
  refine .cond rfl (fun n => ?_) (fun n => ?_)
  ·
   exact absurd n (by simp)
  try simp only [sps] at n
  refine .skip ?_
  refine y _ _ (.seq (fun K4 z => .seq (fun K5 a0 => .region (.mv rfl (.nil (a0 _ _ ?_))))))
  refine .block ?_
  refine .loopR (σ := Nat) [(0, some _), (1, some _)] (fun i => [(5, some (.int .i64 (i : Int)))]) (fun i H' => St [] H H' ∧ i ≤ xs.length) (fun i => xs.length - i) (0) ⟨rfl, rfl, trivial⟩ ⟨rfl, trivial⟩ ?_ ?_
  ·
   refine ⟨.refl _ _, ?_⟩
   omega
  rintro i HL1 ⟨e, hI⟩ KL1 l
  refine .forget (fr' := [(5, some (.int .i64 (i : Int))), (0, some _), (1, some _)]) ⟨rfl, rfl, rfl, trivial⟩ ?_
  have nx_HL1 := e.nx
  replace f := f.st e (fun k hk => trivial)
  replace h := d.mono f
  replace h' := b.mono f
  clear hsl
  have hsl := h.sl
  have hsl' := h'.sl
  refine .seq (fun K6 v => .seq (fun K7 w => .region (.mv rfl (.mv rfl (.q rfl (.len sl_58_VSr rfl) (.q rfl (.cmp rfl rfl rfl) (.nil (w _ _ ?_))))))))
  refine .cond rfl (fun s => ?_) (fun s => ?_)
  ·
   simp only [sps] at s
   obtain ⟨g, o, rfl, hm⟩ := h.1.resolve_left (by omega)
   obtain ⟨g', o', rfl, hm'⟩ := h'.1.resolve_left (by omega)
   have hsi := hS i (by omega)
   have u : MemN HL1 g (o + (i : Int).toNat * 2) 2 (RelsC xs pp i) := ⟨rfl, hm i (by omega)⟩
   have x : MemN HL1 g' (o' + (i : Int).toNat * 2) 2 (RelsC xs pp' i) := ⟨rfl, hm' i (by omega)⟩
   refine .skip ?_
   refine v _ _ (.seq (fun K8 a2 => ?_))
   refine .block ?_
   refine .seq (fun K9 t => ?_)
   refine .regionD mo_B (.q 0 (.q 1 (.q 2 (.q 3 (.q 4 (.q 5 (.q 6 (.q 7 (.c 8 0 (.q 9 (.done))))))))))) (by kernel_rfl) ?_
   refine .mv rfl rfl (.mv rfl rfl ?_)
   refine .q rfl (.idx sl_58_VSr hsl (by omega) rfl rfl (by omega) (by omega) rfl) ?_
   refine .q rfl (.loadM ag_110_VRel rfl u) (.mv rfl rfl (.mv rfl rfl ?_))
   refine .q rfl (.idx sl_58_VSr hsl' (by omega) rfl rfl (by omega) (by omega) rfl) ?_
   refine .q rfl (.loadM ag_110_VRel rfl x) ?_
   refine .callQ0 rfl rfl rfl rfl rfl @Try.call156 rfl (eqRelation_c (h.2 i (by omega)) (h'.2 i (by omega)) hsi) ?_
   refine .q rfl (.not rfl) ?_
   refine .done ?_
   refine t _ _ ?_
   refine .cond rfl (fun p => ?_) (fun p => ?_)
   ·
    try simp only [sps] at p
    refine .seq (fun K10 r => .region (.mv rfl (.nil (r _ _ ?_))))
    refine .ret ?_
    refine j _ _ ?_
    refine ⟨_, rfl, ?_⟩
    first
    | exact ⟨rfl, f⟩
    | exact absurd trivial (by assumption)
    | contradiction
    | (exfalso; omega)
    | (exfalso; simp_all)
   try simp only [sps] at p
   refine .skip ?_
   refine a2 _ _ (.region (.mv rfl ?_))
   refine .q rfl (.add rfl rfl rfl (by omega) (by omega)) ?_
   refine .mv rfl (.nil ?_)
   refine l (i + 1) _ _ ?_ ?_ ⟨rfl, rfl, rfl, trivial⟩
   ·
    refine ⟨e, ?_⟩
    omega
   omega
  try simp only [sps] at s
  refine .exit ?_
  refine z _ _ (.seq (fun K11 m => .region (.mv rfl (.nil (m _ _ ?_)))))
  refine .ret ?_
  refine j _ _ ?_
  refine ⟨_, rfl, ?_⟩
  first
  | exact ⟨rfl, f⟩
  | exact absurd trivial (by assumption)
  | contradiction
  | (exfalso; omega)
  | (exfalso; simp_all)
end Go.Proofs.Ytiooclghkafokaa
namespace Go.Proofs.Ytiooclghkafokaa
open Go Go.GL Go.RowKit Go.Proofs
theorem sz_54_VStr : (Try.prog.info? 54).map (·.size) = some 2 := by kernel_rfl
theorem fo_54_0_VStr : fieldOff Try.prog 54 0 = some 0 := by kernel_rfl
theorem on_51_VStr : oneT Try.prog 51 = true := by kernel_rfl
theorem fo_54_1_VStr : fieldOff Try.prog 54 1 = some 1 := by kernel_rfl
theorem on_52_VStr : oneT Try.prog 52 = true := by kernel_rfl
theorem ze_60_VStr : zeroT Try.prog 60 = some ([.slice none 0 0, .slice none 0 0], 2) := by kernel_rfl
theorem fo_60_0_VStr : fieldOff Try.prog 60 0 = some 0 := by kernel_rfl
theorem sz_57_VStr : (Try.prog.info? 57).map (·.size) = some 1 := by kernel_rfl
theorem fo_60_1_VStr : fieldOff Try.prog 60 1 = some 1 := by kernel_rfl
theorem sz_58_VStr : (Try.prog.info? 58).map (·.size) = some 1 := by kernel_rfl
theorem ag_60_VStr : aggT Try.prog 60 = some 2 := by kernel_rfl
theorem sz_60_VStr : (Try.prog.info? 60).map (·.size) = some 2 := by kernel_rfl
theorem on_57_VStr : oneT Try.prog 57 = true := by kernel_rfl
theorem on_58_VStr : oneT Try.prog 58 = true := by kernel_rfl
theorem szStructure_c {c : Str} {p : StrP} {left : Int} {H : GHeap} (hin : c.In H p := by assumption) (hw : c.Wide := by assumption) (h0 : 0 ≤ left := by omega) (h1 : left ≤ 1048576 := by omega) :
    GCalls Try.prog 34 [.agg (c.cells p).toArray, .int .i64 left] H (SzR left c.Small H) := by
  refine SzR.of ?_
  obtain ⟨wa0, wa1⟩ := hw
  refine GCalls.body (N := 18) (rs := [.tmp 4]) Try.func34 rfl rfl rfl rfl (fun Qx d hend => ?_)
  refine .fg [0, 1] rfl ?_
  have b := GHeap.Le.refl H
  have a := hin
  refine .seq (fun K1 v => .region ?_)
  refine .R rfl (.boxR rfl sz_54_VStr rfl) ?_
  rintro _ H2 ⟨g2, rfl, l, ge2, e⟩
  have nx_H2 := l.1
  replace b := b.trans l
  have lt_at2 := GHeap.ltg e
  replace hin := a.mono b
  have i : Str.At _ g2 0 c p := ⟨Mem.of_get e, hin⟩
  obtain ⟨c02, c12, i02, i12⟩ := i.get
  have hm2 : MemN _ _ _ _ _ := ⟨rfl, i.1⟩
  have hi2 := i.2
  refine .mv rfl (.nil (v _ _ (.seq (fun K2 r => .region (.q rfl (.fieldAddr fo_54_0_VStr rfl) ?_)))))
  refine .q rfl (.load on_51_VStr rfl (by first | assumption | exact Mem.of_get e 0 _ rfl)) ?_
  refine .mv rfl ?_
  refine .call rfl rfl rfl rfl @Try.call81 rfl (szSetFunctorS_c) ?_
  rintro _ _ ⟨heq, lf8, rfl, z18, z28, s⟩
  obtain rfl := heq.symm
  refine .mv rfl (.nil (r _ _ (.seq (fun K3 x => .seq (fun K4 t => .region (.mv rfl (.q rfl (.cmp rfl rfl rfl) (.nil (t _ _ ?_)))))))))
  refine .cond rfl (fun g => ?_) (fun g => ?_)
  ·
   try simp only [sps] at g
   refine .seq (fun K5 u => .region (.mv rfl (.nil (u _ _ ?_))))
   refine .ret ?_
   refine d _ _ ?_
   refine ⟨_, rfl, ?_⟩
   first
   | exact ⟨b, _, rfl, by omega, by omega, fun h => by omega⟩
   | exact ⟨b, _, rfl, by omega, by omega, fun h => ⟨by assumption, by assumption⟩⟩
  try simp only [sps] at g
  have hsm8 := s (by omega)
  refine .skip ?_
  refine x _ _ (.seq (fun K6 n => .region (.q rfl (.fieldAddr fo_54_1_VStr rfl) ?_)))
  refine .q rfl (.load on_52_VStr rfl (by first | assumption | exact Mem.of_get e 1 _ rfl)) ?_
  refine .mv rfl ?_
  refine .call rfl rfl rfl rfl @Try.call82 rfl (szRelationS_c) ?_
  rintro _ _ ⟨heq, lf14, rfl, z114, z214, f⟩
  obtain rfl := heq.symm
  refine .mv rfl (.nil (n _ _ (.seq (fun K7 o => .seq (fun K8 w => .region (.mv rfl (.q rfl (.cmp rfl rfl rfl) (.nil (w _ _ ?_)))))))))
  refine .cond rfl (fun k => ?_) (fun k => ?_)
  ·
   try simp only [sps] at k
   refine .seq (fun K9 m => .region (.mv rfl (.nil (m _ _ ?_))))
   refine .ret ?_
   refine d _ _ ?_
   refine ⟨_, rfl, ?_⟩
   first
   | exact ⟨b, _, rfl, by omega, by omega, fun h => by omega⟩
   | exact ⟨b, _, rfl, by omega, by omega, fun h => ⟨by assumption, by assumption⟩⟩
  try simp only [sps] at k
  have hsm14 := f (by omega)
  refine .skip ?_
  refine o _ _ (.seq (fun K10 j => .region (.mv rfl (.mv rfl (.nil (j _ _ ?_))))))
  refine .ret ?_
  refine d _ _ ?_
  refine ⟨_, rfl, ?_⟩
  first
  | exact ⟨b, _, rfl, by omega, by omega, fun h => by omega⟩
  | exact ⟨b, _, rfl, by omega, by omega, fun h => ⟨by assumption, by assumption⟩⟩
set_option maxHeartbeats 4000000 in
theorem toStructure_c {c : Str} {p : StrP} {H : GHeap} (hin : c.In H p := by assumption) (hs : c.Small := by assumption) : GCalls Try.prog 36 [.agg (c.cells p).toArray] H (NewStr H c) := by
  obtain ⟨w0, w1⟩ := hs
  refine GCalls.body (N := 13) (rs := [.cell 2 60]) Try.func36 rfl rfl rfl rfl (fun Qx b1 hend => ?_)
  refine .fg [0] rfl ?_
  have l := GHeap.Le.refl H
  have b := hin
  refine .seq (fun K1 c1 => .region ?_)
  refine .R rfl (.boxR rfl sz_54_VStr rfl) ?_
  rintro _ H1 ⟨g1, rfl, b5, ge1, j⟩
  have nx_H1 := b5.1
  replace l := l.trans b5
  have lt_at1 := GHeap.ltg j
  replace hin := b.mono l
  have d : Str.At _ g1 0 c p := ⟨Mem.of_get j, hin⟩
  obtain ⟨z, a1, x, y⟩ := d.get
  have w : MemN _ _ _ _ _ := ⟨rfl, d.1⟩
  have a0 := d.2
  refine .R rfl (.allocR rfl ze_60_VStr rfl) ?_
  rintro _ H2 ⟨g2, rfl, b2, ge2, a3⟩
  have nx_H2 := b2.1
  replace l := l.trans b2
  replace j := b2.2 _ _ j
  have lt_at2 := GHeap.ltg a3
  replace hin := b.mono l
  clear d z a1 x y w a0
  have d : Str.At _ g1 0 c p := ⟨Mem.of_get j, hin⟩
  obtain ⟨z, a1, x, y⟩ := d.get
  have w : MemN _ _ _ _ _ := ⟨rfl, d.1⟩
  have a0 := d.2
  refine .nil (c1 _ _ (.seq (fun K2 b8 => .region ?_)))
  refine .R rfl (.allocR rfl ze_60_VStr rfl) ?_
  rintro _ H3 ⟨g3, rfl, a9, ge3, b3⟩
  have nx_H3 := a9.1
  replace l := l.trans a9
  replace j := a9.2 _ _ j
  replace a3 := a9.2 _ _ a3
  have lt_at3 := GHeap.ltg b3
  replace hin := b.mono l
  clear d z a1 x y w a0
  have d : Str.At _ g1 0 c p := ⟨Mem.of_get j, hin⟩
  obtain ⟨z, a1, x, y⟩ := d.get
  have w : MemN _ _ _ _ _ := ⟨rfl, d.1⟩
  have a0 := d.2
  refine .nil (b8 _ _ (.seq (fun K3 c2 => .region (.q rfl (.fieldAddr fo_54_0_VStr rfl) ?_))))
  refine .q rfl (.load on_51_VStr rfl (by first | assumption | exact Mem.of_get j 0 _ rfl)) ?_
  refine .call rfl rfl rfl rfl @Try.call87 rfl (toSetFunctorS_c) ?_
  rintro _ H6 ⟨a7, a6, b7, rfl, v6⟩
  have nx_H6 := a7.1
  replace l := l.trans a7
  replace j := a7.2 _ _ j
  replace a3 := a7.2 _ _ a3
  replace b3 := a7.2 _ _ b3
  have v := v6
  have e : Keep H3.next H6 H6 := fun _ _ _ h => h
  replace hin := b.mono l
  clear d z a1 x y w a0
  have d : Str.At _ g1 0 c p := ⟨Mem.of_get j, hin⟩
  obtain ⟨z, a1, x, y⟩ := d.get
  have w : MemN _ _ _ _ _ := ⟨rfl, d.1⟩
  have a0 := d.2
  have i6 := v6.inn
  refine .q rfl (.fieldAddr fo_60_0_VStr rfl) ?_
  refine .r0 rfl rfl (.storeR rfl sz_57_VStr rfl rfl rfl (by assumption) (by first | exact Nat.le_of_ble_eq_true rfl | (simp; done) | (simp <;> omega))) ?_
  rintro _ a8 ⟨rfl, o, r⟩
  have nx_H2004 := o.nx
  replace l := l.st o (fun k hk => ⟨by omega, trivial⟩)
  have t : NE g1 g3 := .a
  replace j := o.s j t.ne
  have n : NE g2 g3 := .a
  replace a3 := o.s a3 n.ne
  replace e := Keep.st e o (fun k hb hk => ⟨by omega, trivial⟩)
  replace v6 := v.keep e (Nat.le_refl _)
  have lt_at2004 := GHeap.ltg r
  replace hin := b.mono l
  clear d z a1 x y w a0
  have d : Str.At _ g1 0 c p := ⟨Mem.of_get j, hin⟩
  obtain ⟨z, a1, x, y⟩ := d.get
  have w : MemN _ _ _ _ _ := ⟨rfl, d.1⟩
  have a0 := d.2
  clear i6
  have i6 := v6.inn
  try simp only [Nat.zero_add, List.set_cons_succ, List.set_cons_zero] at r
  refine .nil (c2 _ _ (.seq (fun K4 b9 => .region (.q rfl (.fieldAddr fo_54_1_VStr rfl) ?_))))
  refine .q rfl (.load on_52_VStr rfl (by first | assumption | exact Mem.of_get j 1 _ rfl)) ?_
  refine .call rfl rfl rfl rfl @Try.call88 rfl (toRelationS_c) ?_
  rintro _ b6 ⟨a2, c3, b4, rfl, a5⟩
  have nx_H10 := a2.1
  replace l := l.trans a2
  replace j := a2.2 _ _ j
  replace a3 := a2.2 _ _ a3
  replace r := a2.2 _ _ r
  replace e := Keep.le e a2
  replace v6 := v.keep e (Nat.le_refl _)
  have a4 := a5
  have i : Keep a8.next b6 b6 := fun _ _ _ h => h
  replace hin := b.mono l
  clear d z a1 x y w a0
  have d : Str.At _ g1 0 c p := ⟨Mem.of_get j, hin⟩
  obtain ⟨z, a1, x, y⟩ := d.get
  have w : MemN _ _ _ _ _ := ⟨rfl, d.1⟩
  have a0 := d.2
  clear i6
  have i6 := v6.inn
  have b0 := a5.inn
  refine .q rfl (.fieldAddr fo_60_1_VStr rfl) ?_
  refine .r0 rfl rfl (.storeR rfl sz_58_VStr rfl rfl rfl (by assumption) (by first | exact Nat.le_of_ble_eq_true rfl | (simp; done) | (simp <;> omega))) ?_
  rintro _ H3004 ⟨rfl, g, m⟩
  have nx_H3004 := g.nx
  replace l := l.st g (fun k hk => ⟨by omega, trivial⟩)
  replace j := g.s j t.ne
  replace a3 := g.s a3 n.ne
  replace e := Keep.st e g (fun k hb hk => ⟨by omega, trivial⟩)
  replace v6 := v.keep e (Nat.le_refl _)
  replace i := Keep.st i g (fun k hb hk => ⟨by omega, trivial⟩)
  replace a5 := a4.keep i (Nat.le_refl _)
  have lt_at3004 := GHeap.ltg m
  replace hin := b.mono l
  clear d z a1 x y w a0
  have d : Str.At _ g1 0 c p := ⟨Mem.of_get j, hin⟩
  obtain ⟨z, a1, x, y⟩ := d.get
  have w : MemN _ _ _ _ _ := ⟨rfl, d.1⟩
  have a0 := d.2
  clear i6
  have i6 := v6.inn
  clear b0
  have b0 := a5.inn
  try simp only [Nat.zero_add, List.set_cons_succ, List.set_cons_zero] at m
  refine .nil (b9 _ _ (.seq (fun K5 c0 => .region ?_)))
  refine .q rfl (.loadM ag_60_VStr rfl ⟨rfl, Mem.of_get m⟩) ?_
  refine .r0 rfl rfl (.fillA rfl sz_60_VStr rfl rfl rfl rfl) ?_
  rintro _ H4001 ⟨rfl, f, u⟩
  have nx_H4001 := f.nx
  replace l := l.st f (fun k hk => ⟨by omega, trivial⟩)
  replace j := f.s j
  replace m := f.s m (Ne.symm n.ne)
  replace e := Keep.st e f (fun k hb hk => ⟨by omega, trivial⟩)
  replace v6 := v.keep e (Nat.le_refl _)
  replace i := Keep.st i f (fun k hb hk => ⟨by omega, trivial⟩)
  replace a5 := a4.keep i (Nat.le_refl _)
  have lt_at4001 := GHeap.ltg u
  replace hin := b.mono l
  clear d z a1 x y w a0
  have d : Str.At _ g1 0 c p := ⟨Mem.of_get j, hin⟩
  obtain ⟨z, a1, x, y⟩ := d.get
  have w : MemN _ _ _ _ _ := ⟨rfl, d.1⟩
  have a0 := d.2
  clear i6
  have i6 := v6.inn
  clear b0
  have b0 := a5.inn
  have mm4001 : MemN _ _ _ _ _ := ⟨rfl, Mem.of_get u⟩
  refine .nil (c0 _ _ ?_)
  refine .ret ?_
  refine b1 _ _ ?_
  refine ⟨_, _, _, _, rfl, ag_60_VStr, (by rfl), (Mem.of_get u), ?_⟩
  exact ⟨l, ⟨a6, b7, c3, b4⟩, rfl, v6.keep (.of_le (.refl _)) (by omega), a5.keep (.of_le (.refl _)) (by omega)⟩
set_option maxHeartbeats 4000000 in
theorem eqStructure_c {c : Str} {p p' : StrP} {H : GHeap} (hin : c.In H p := by assumption) (hin' : c.In H p' := by assumption) (hs : c.Small := by assumption) : GCalls Try.prog 38 [.agg (c.cells p).toArray, .agg (c.cells p').toArray] H (Ret (.bool true) H) := by
  refine GCalls.ret rfl ?_
  obtain ⟨w0, w1⟩ := hs
  refine GCalls.body (N := 17) (rs := [.tmp 4]) Try.func38 rfl rfl rfl rfl (fun Qx f hend => ?_)
  refine .fg [0, 1] rfl ?_
  have d := GHeap.Le.refl H
  have b := hin
  have a := hin'
  refine .seq (fun K1 a0 => .region ?_)
  refine .R rfl (.boxR rfl sz_60_VStr rfl) ?_
  rintro _ H2 ⟨g2, rfl, t, ge2, g⟩
  have nx_H2 := t.1
  replace d := d.trans t
  have lt_at2 := GHeap.ltg g
  replace hin := b.mono d
  replace hin' := a.mono d
  have e : Str.At _ g2 0 c p := ⟨Mem.of_get g, hin⟩
  obtain ⟨n, u, o, m⟩ := e.get
  have r : MemN _ _ _ _ _ := ⟨rfl, e.1⟩
  have s := e.2
  refine .R rfl (.boxR rfl sz_60_VStr rfl) ?_
  rintro _ H3 ⟨g3, rfl, k, ge3, h⟩
  have nx_H3 := k.1
  replace d := d.trans k
  replace g := k.2 _ _ g
  have lt_at3 := GHeap.ltg h
  replace hin := b.mono d
  replace hin' := a.mono d
  clear e n u o m r s
  have e : Str.At _ g2 0 c p := ⟨Mem.of_get g, hin⟩
  obtain ⟨n, u, o, m⟩ := e.get
  have r : MemN _ _ _ _ _ := ⟨rfl, e.1⟩
  have s := e.2
  have j : Str.At _ g3 0 c p' := ⟨Mem.of_get h, hin'⟩
  obtain ⟨c03, c13, i03, i13⟩ := j.get
  have hm3 : MemN _ _ _ _ _ := ⟨rfl, j.1⟩
  have hi3 := j.2
  refine .mv rfl (.nil (a0 _ _ (.seq (fun K2 x => .seq (fun K3 a1 => .region (.q rfl (.fieldAddr fo_60_0_VStr rfl) ?_))))))
  refine .q rfl (.load on_57_VStr rfl (by first | assumption | exact Mem.of_get g 0 _ rfl)) ?_
  refine .q rfl (.fieldAddr fo_60_0_VStr rfl) ?_
  refine .q rfl (.load on_57_VStr rfl (by first | assumption | exact Mem.of_get h 0 _ rfl)) ?_
  refine .callQ rfl rfl rfl rfl @Try.call90 rfl (eqSetFunctorS_c) ?_
  refine .q rfl (.not rfl) (.nil (a1 _ _ ?_))
  refine .cond rfl (fun i => ?_) (fun i => ?_)
  ·
   try simp only [sps] at i
   refine .seq (fun K4 y => .region (.mv rfl (.nil (y _ _ ?_))))
   refine .ret ?_
   refine f _ _ ?_
   refine ⟨_, rfl, ?_⟩
   first
   | exact ⟨rfl, d⟩
   | exact absurd trivial (by assumption)
   | contradiction
   | (exfalso; omega)
   | (exfalso; simp_all)
  try simp only [sps] at i
  refine .skip ?_
  refine x _ _ (.seq (fun K5 z => .seq (fun K6 v => .region (.q rfl (.fieldAddr fo_60_1_VStr rfl) ?_))))
  refine .q rfl (.load on_58_VStr rfl (by first | assumption | exact Mem.of_get g 1 _ rfl)) ?_
  refine .q rfl (.fieldAddr fo_60_1_VStr rfl) ?_
  refine .q rfl (.load on_58_VStr rfl (by first | assumption | exact Mem.of_get h 1 _ rfl)) ?_
  refine .callQ rfl rfl rfl rfl @Try.call91 rfl (eqRelationS_c) ?_
  refine .q rfl (.not rfl) (.nil (v _ _ ?_))
  refine .cond rfl (fun l => ?_) (fun l => ?_)
  ·
   try simp only [sps] at l
   refine .seq (fun K7 w => .region (.mv rfl (.nil (w _ _ ?_))))
   refine .ret ?_
   refine f _ _ ?_
   refine ⟨_, rfl, ?_⟩
   first
   | exact ⟨rfl, d⟩
   | exact absurd trivial (by assumption)
   | contradiction
   | (exfalso; omega)
   | (exfalso; simp_all)
  try simp only [sps] at l
  refine .skip ?_
  refine z _ _ (.seq (fun K8 a2 => .region (.mv rfl (.nil (a2 _ _ ?_)))))
  refine .ret ?_
  refine f _ _ ?_
  refine ⟨_, rfl, ?_⟩
  first
  | exact ⟨rfl, d⟩
  | exact absurd trivial (by assumption)
  | contradiction
  | (exfalso; omega)
  | (exfalso; simp_all)
end Go.Proofs.Ytiooclghkafokaa
namespace Go.GL

end Go.GL
namespace Go.GL
open Go.RowKit

theorem CDo.makeIN {P : Program} {H : GHeap} {fr : Slots} {o : Oper} {t e : TypeId} {x y : Operand} {k k' : IntKind} {l c bytes : Nat} (ho : o.op = .makeSlice t x y) (ht : sliceT P t = some (e, 1)) (hz : zeroT P e = some ([.int .i64 0], 1)) (hb : (P.info? e).map (·.bytes) = some bytes)
    (hx : ev fr x = some (.int k (l : Int))) (hy : ev fr y = some (.int k' (c : Int))) (hlc : l ≤ c) (hsm : bytes * c ≤ 281474976710656) (hsc : c ≤ 9223372036854775807) :
    CDo P o fr H (fun r H' => ∃ g, r = some (.slice (some ⟨g, 0, none⟩) l l) ∧ H.Le H' ∧ H.next ≤ g ∧ H'.get g = some (.row (ints (List.replicate l 0)) e true)) := by
  have := CDo.makeI (P := P) (H := H) (fr := fr) (o := o) ho ht hz hb hx hy (by omega) (by omega) (by omega) (by omega)
  simpa using this

end Go.GL
namespace Go.GL

def first2 (n : Nat) (len : Nat → Nat) (p : Nat → Nat → Bool) : Int × Int :=
  match firstN n fun a => (firstN (len a) (p a)).isSome with
  | some a => ((a : Int), (((firstN (len a) (p a)).getD 0 : Nat) : Int))
  | none => (-1, 0)
def SFun.AcOk (f : SFun) (a : Nat) : Prop :=
  ((f.ac.getD a []).length : Int) = f.sz.getD (f.sh.src.getD a 0).toNat 0 ∧ allIn (f.ac.getD a []) (f.sz.getD (f.sh.tgt.getD a 0).toNat 0) = true
structure SFun.Shape (f : SFun) : Prop where
  c : f.sh.Is
  zl : (f.sz.length : Int) = f.sh.obj
  sz : ∀ i, i < f.sz.length → 0 ≤ f.sz.getD i 0 ∧ f.sz.getD i 0 ≤ 16
  al : f.ac.length = f.sh.src.length
  ac : ∀ a, a < f.ac.length → f.AcOk a
theorem SFun.Shape.act {f : SFun} (h : f.Shape) {a : Nat} (ha : a < f.ac.length) {e : Nat} (he : e < (f.ac.getD a []).length) : 0 ≤ (f.ac.getD a []).getD e 0 ∧ (f.ac.getD a []).getD e 0 < f.sz.getD (f.sh.tgt.getD a 0).toNat 0 := allIn_iff.1 (h.ac a ha).2 e he
theorem SFun.Shape.ends {f : SFun} (h : f.Shape) {a : Nat} (ha : a < f.sh.src.length) : 0 ≤ f.sh.src.getD a 0 ∧ f.sh.src.getD a 0 < f.sz.length ∧ 0 ≤ f.sh.tgt.getD a 0 ∧ f.sh.tgt.getD a 0 < f.sz.length ∧ ((f.ac.getD a []).length : Int) = f.sz.getD (f.sh.src.getD a 0).toNat 0 := by
  have hS := h.c.1
  have q1 := hS.src a ha
  have q2 := hS.tgt a (by have := hS.tl; omega)
  have q3 := h.zl
  have q4 := (h.ac a (by have := h.al; omega)).1
  omega
structure SFun.Laws (f : SFun) : Prop where
  ids : ∀ x : Nat, x < f.sh.idn.length → ∀ e : Nat, e < (f.ac.getD (f.sh.idn.getD x 0).toNat []).length → (f.ac.getD (f.sh.idn.getD x 0).toNat []).getD e 0 = e
  th : ∀ a : Nat, a < f.sh.src.length → ∀ b : Nat, b < f.sh.src.length → f.sh.tgt.getD a 0 = f.sh.src.getD b 0 → ∀ e : Nat, e < (f.ac.getD a []).length →
    (f.ac.getD ((f.sh.comp.getD a []).getD b 0).toNat []).getD e 0 = (f.ac.getD b []).getD ((f.ac.getD a []).getD e 0).toNat 0
def SFun.Is (f : SFun) : Prop := f.Shape ∧ f.Laws

def SMap.PaOk (m : SMap) (x : Nat) : Prop := ((m.pa.getD x []).length : Int) = m.s.sz.getD x 0 ∧ allIn (m.pa.getD x []) (m.t.sz.getD x 0) = true
structure SMap.Fits (m : SMap) : Prop where
  pl : m.pa.length = m.s.sz.length
  pa : ∀ x, x < m.pa.length → m.PaOk x
structure SMap.Shape (m : SMap) : Prop where
  s : m.s.Is
  t : m.t.Is
  sh : m.s.sh = m.t.sh
  fits : m.Fits
def SMap.bad (m : SMap) (a e : Nat) : Bool := decide (¬ (m.pa.getD (m.s.sh.tgt.getD a 0).toNat []).getD ((m.s.ac.getD a []).getD e 0).toNat 0 = (m.t.ac.getD a []).getD ((m.pa.getD (m.s.sh.src.getD a 0).toNat []).getD e 0).toNat 0)
def SMap.first (m : SMap) : Int × Int := first2 m.s.ac.length (fun a => (m.s.ac.getD a []).length) m.bad
def SMap.Is (m : SMap) : Prop := m.Shape ∧ ∀ a, a < m.s.ac.length → ∀ e, e < (m.s.ac.getD a []).length → m.bad a e = false
end Go.GL
